/- The reference's depth of a state, its distance (laws 20, 38). -/
import Derived.Test.YtjfmkolnleicnaaGreatDoorRowAcceptedClaimsG17
import Derived.Test.YtjfmkolnleicnaaGreatDoorRowAcceptedClaimsG15
import Derived.Test.YtjfmkolnleicnaaGreatDoorRowAcceptedClaimsG10
import Derived.Test.YtjfmkolnleicnaaGreatDoorRowAcceptedClaimsG9
import Derived.Deep.RegionHeld3
namespace Go.Proofs.YtjfmkolnleicnaaGreatDoor
open Go.RowKit
set_option maxRecDepth 10000
theorem Zlf (A1 A2 A3:Option Addr) (C1 C2 C3:Nat) (wh:Bool) (L:List (List Int)) (D:List Int) (so:List Nat) (ob:List Nat) (fps:List (List Nat)) (fd fs:List Nat) (m:Nat) (v:Value) (s:List Int) (f:List Nat) (w:World)
  (h:SrR w A1 A2 A3 C1 C2 C3 L D so ob fps fd fs) (hS:Srt m L so) (hv:Rd w v s f) (hs:s.length = m) (hL:L.length<=3000) (i:Nat) (hi:i < L.length) (hg:L.getD i [] = s) (hnd:L.Nodup) :
  Calls Tryz.prog 144 #[.agg #[.slice A1 L.length C1,.slice A2 D.length C2,.slice A3 so.length C3,.bool wh],v] w fun e w'=>e = .returned (.int .i64 i)/\Only [] w w':=by
 refine (Zep A1 A2 A3 C1 C2 C3 wh L D so ob fps fd fs m v s f w h hS hv hs hL).mono ?_
 rintro e w' ⟨r,rfl,h1,h2,h3⟩
 have hm:s∈L:=by rw [<- hg,Zah hi];exact List.getElem_mem hi
 rcases h2 with rfl | ⟨k,rfl,hk,hg2⟩
 ·have:=h1.2 hm;omega
 ·rw [Zah hk] at hg2
  rw [Zah hi] at hg
  have:=Zes hnd hk hi (hg2.trans hg.symm)
  subst this
  exact ⟨rfl,h3⟩
theorem Zmp (A1 A2 A3:Option Addr) (C1 C2 C3:Nat) (wh:Bool) (L:List (List Int)) (D:List Int) (so:List Nat) (ob:List Nat) (fps:List (List Nat)) (fd fs:List Nat) (m:Nat) (v:Value) (s:List Int) (f:List Nat) (w:World)
  (h:SrR w A1 A2 A3 C1 C2 C3 L D so ob fps fd fs) (hS:Srt m L so) (hv:Rd w v s f) (hs:s.length = m) (hL:L.length<=3000) (hn:s ∉ L) :
  Calls Tryz.prog 144 #[.agg #[.slice A1 L.length C1,.slice A2 D.length C2,.slice A3 so.length C3,.bool wh],v] w fun e w'=>e = .returned (.int .i64 (-1))/\Only [] w w':=by
 refine (Zep A1 A2 A3 C1 C2 C3 wh L D so ob fps fd fs m v s f w h hS hv hs hL).mono ?_
 rintro e w' ⟨r,rfl,h1,h2,h3⟩
 rcases h2 with rfl | ⟨k,rfl,hk,hg2⟩
 ·exact ⟨rfl,h3⟩
 ·exact absurd (h1.1 (by omega)) hn
def depT (t:Table) (s:List Int):Int:=if s∈t.patterns then atD t (idxL t.patterns s) else -1
theorem Zpp {x:Puzzle} {t:Table} (hb:Built x t) {i:Nat} (hi:i < t.patterns.length):depT t (t.patterns.getD i []) = t.distances.getD i 0:=by
 unfold depT
 rw [if_pos (by rw [Zah hi];exact List.getElem_mem hi),hb.idx hi]
 unfold atD
 rw [Int.toNat_natCast]
theorem depT_no {t:Table} {s:List Int} (h:s ∉ t.patterns):depT t s = -1:=if_neg h
set_option maxHeartbeats 2000000 in
theorem Zey (x:Puzzle) (t:Table) (v u:Value) (s:List Int) (f:List Nat) (w:World) {B:Nat} (h:SrF B w x t v) (hb:Built x t) (hu:Rd w u s f) (hs:s.length = x.points.toNat) :
  Calls Tryz.prog 109 #[v,u] w fun e w'=>e = .returned (.int .i64 (depT t s))/\Only [] w w':=by
 obtain ⟨A1,A2,A3,C1,C2,C3,so,ob,fps,fd,fz,rfl,hR,hS,-⟩:=h
 have hL:=hb.ll
 have hdl:t.distances.length = t.patterns.length:=hb.bi.dl
 have hnd:t.patterns.Nodup:=hb.bi.nd
 have HS:=zH hS
 have Hnd:=zH hnd
 have Hb:=zH hb
 have Hs:=zH hs
 have Hdl:=zH hdl
 clear hS hnd hb hs hdl
 have hB:=Blk.new w [.slice A1 t.patterns.length C1,.slice A2 t.distances.length C2,.slice A3 so.length C3,.bool true] 95
 by_cases hm:s∈t.patterns
 ·obtain ⟨i,hi,e⟩:=List.getElem_of_mem hm
  have hg:t.patterns.getD i [] = s:=by rw [Zah hi,e]
  have hd:=Zpp Hb.out hi
  rw [hg] at hd
  have hid:i < t.distances.length:=by rw [Hdl.out];exact hi
  obtain ⟨b2,off2,rfl,-,hc0⟩:=hR.dp.at_ i hid
  have hdv:t.distances.getD i 0 = t.distances[i]:=Zah hid
  have Hd:=zH (hd.trans hdv)
  have Hg:=zH hg
  clear hm e hg hd hdv
  go_enter Tryz.func109,Tryz.ntmps109
  go_wp2_with (first
   | (go_at_call 144;(with_reducible refine (Zlf A1 (some ⟨b2,off2,none⟩) A3 C1 C2 C3 true t.patterns t.distances so ob fps fd fz x.points.toNat _ s f _ (hR.keep zA) HS.out (zK hu zA) Hs.out hL i hi Hg.out Hnd.out).mono ?_);rintro e w1 ⟨rfl,t1⟩;have y1:=(hB.keep t1).cell 1 rfl;have y2:=(((Only.refl [] w).alloc _).trans t1).cell (by simp) hc0)
   | fail)
  go_ret
  exact ⟨ret_int Hd.out.symm,zA⟩
 ·have Hd:=zH (depT_no hm)
  have Hm:=zH hm
  clear hm
  go_enter Tryz.func109,Tryz.ntmps109
  go_wp2_with (first
   | (go_at_call 144;(with_reducible refine (Zmp A1 A2 A3 C1 C2 C3 true t.patterns t.distances so ob fps fd fz x.points.toNat _ s f _ (hR.keep zA) HS.out (zK hu zA) Hs.out hL Hm.out).mono ?_);rintro e w1 ⟨rfl,t1⟩;have y1:=(hB.keep t1).cell 1 rfl)
   | fail)
  go_ret
  exact ⟨ret_int Hd.out.symm,zA⟩
theorem Zkw (cs:List Value) (x:Puzzle) (fp:List Nat) (w:World) (h:Rp.rep w cs x fp) (he:expl x = none) :
  Calls Tryz.prog 108 #[.agg cs.toArray] w fun e w'=>∃ A1 n1 C1 A2 n2 C2 A3 n3 C3 wh,e = .returned (.tuple #[.agg #[.slice A1 n1 C1,.slice A2 n2 C2,.slice A3 n3 C3,.bool wh],.bool false])/\Only [] w w':=by
 refine (Zge cs x fp w h).mono ?_
 rintro e w' ⟨⟨-,A1,n1,C1,A2,n2,C2,A3,n3,C3,wh,rfl⟩ | ⟨t,h1,-⟩,ho⟩
 ·exact ⟨A1,n1,C1,A2,n2,C2,A3,n3,C3,wh,rfl,ho⟩
 ·rw [he] at h1;cases h1
theorem Zgb (cs:List Value) (x:Puzzle) (t:Table) (fp:List Nat) (w:World) (h:Rp.rep w cs x fp) (he:expl x = some t) :
  Calls Tryz.prog 108 #[.agg cs.toArray] w fun e w'=>∃ A1 n1 C1 A2 n2 C2 A3 n3 C3 wh,e = .returned (.tuple #[.agg #[.slice A1 n1 C1,.slice A2 n2 C2,.slice A3 n3 C3,.bool wh],.bool true])/\SrF w.heap.size w' x t (.agg #[.slice A1 n1 C1,.slice A2 n2 C2,.slice A3 n3 C3,.bool wh])/\Only [] w w':=by
 refine (Zge cs x fp w h).mono ?_
 rintro e w' ⟨⟨h1,-⟩ | ⟨t',h1,v,rfl,h2⟩,ho⟩
 ·rw [he] at h1;cases h1
 ·rw [he] at h1
  injection h1 with h1
  subst h1
  have h3:=h2
  obtain ⟨A1,A2,A3,C1,C2,C3,so,ob,fps,fd,fz,rfl,-⟩:=h3
  exact ⟨_,_,_,_,_,_,_,_,_,_,rfl,h2,ho⟩
theorem Zuc {x:Puzzle} {t:Table} {s:List Int} (ht:expl x = some t):distX x s = depT t s:=by
 rcases hr:reachB x s
 ·rw [Zhp hr,depT_no]
  intro hm
  rw [(Zfr ht).1 hm] at hr;cases hr
 ·unfold distX depT
  rw [ht,if_pos ((Zfr ht).2 hr)]
  show (if reachB x s = true then _ else _) = _
  rw [if_pos hr]
theorem Zsq {x:Puzzle} {s:List Int} (h:stateB x s = false):distX x s = -1:=Zhp (by unfold reachB;rw [h];rfl)
theorem store4 {w1:World} {r:Nat} {o0 o1 o2 o3:Value} (hR:Blk w1 r [o0,o1,o2,o3]) (a b c d:Value) :
  Blk ((((w1.setCell ⟨r,0,none⟩ a).setCell ⟨r,1,none⟩ b).setCell ⟨r,2,none⟩ c).setCell ⟨r,3,none⟩ d) r [a,b,c,d] /\
  Only [r] w1 ((((w1.setCell ⟨r,0,none⟩ a).setCell ⟨r,1,none⟩ b).setCell ⟨r,2,none⟩ c).setCell ⟨r,3,none⟩ d):=by
 refine ⟨?_,(((zO.setCell (by simp) _).setCell (by simp) _).setCell (by simp) _).setCell (by simp) _⟩
 exact (((hR.set 0 a).set 1 b).set 2 c).set 3 d
set_option maxHeartbeats 4000000 in
theorem Zcd (cs:List Value) (x:Puzzle) (fp:List Nat) (v:Value) (s:List Int) (fs:List Nat) (w:World) (h:Rp.rep w cs x fp) (hs:Rd w v s fs) :
  Calls Tryz.prog 63 #[.agg cs.toArray,v] w fun e w'=>∃ A1 n1 C1 A2 n2 C2 A3 n3 C3 wh,e = .returned (.tuple #[.agg #[.slice A1 n1 C1,.slice A2 n2 C2,.slice A3 n3 C3,.bool wh],.int .i64 (distX x s),.bool (decide (0<=distX x s))])/\(∀ t,expl x = some t->SrF w.heap.size w' x t (.agg #[.slice A1 n1 C1,.slice A2 n2 C2,.slice A3 n3 C3,.bool wh]))/\Only [] w w':=by
 have h0:=h
 obtain ⟨v2,rfl,p0,p1,h2⟩:=h
 clear p0 p1 h2
 have X0:Blk ((w.alloc (.cells #[.int .i64 x.points,.string x.names,v2] 26)).alloc (.cells #[.slice none 0 0,.slice none 0 0,.slice none 0 0,.bool false] 95)) w.heap.size [.int .i64 x.points,.string x.names,v2]:=(Blk.new w [.int .i64 x.points,.string x.names,v2] 26).keep (zO.alloc _)
 have Y0:Blk ((w.alloc (.cells #[.int .i64 x.points,.string x.names,v2] 26)).alloc (.cells #[.slice none 0 0,.slice none 0 0,.slice none 0 0,.bool false] 95)) (w.heap.size + 1) [.slice none 0 0,.slice none 0 0,.slice none 0 0,.bool false]:=Blk.new_at (by simp)
 rcases he:expl x with _ | t
 ·have Hn:=zH (Zfq (s:=s) he)
  have He:=zH he
  clear he
  go_enter Tryz.func63,Tryz.ntmps63
  go_wp2_with (first
   | (go_at_call 108;(with_reducible refine (Zkw [.int .i64 x.points,.string x.names,v2] x _ _ (zK h0 zA) He.out).mono ?_);rintro e w1 ⟨A1,n1,C1,A2,n2,C2,A3,n3,C3,wh,rfl,t1⟩;have Z:=Blk.new w1 [.slice none 0 0,.slice none 0 0,.slice none 0 0,.bool false] 95;obtain ⟨z0,z1,z2,z3⟩:=Z.c4;obtain ⟨zp0,zp1,zp2,zp3⟩:=Z.f4;have Y1:=(Y0.keep t1).keep ((Only.refl [] _).alloc (.cells #[.slice A1 n1 C1,.slice A2 n2 C2,.slice A3 n3 C3,.bool wh] 95));have U1:=Blk.new w1 [.slice A1 n1 C1,.slice A2 n2 C2,.slice A3 n3 C3,.bool wh] 95;obtain ⟨a0,a1,a2,a3⟩:=U1.c4;obtain ⟨g0,g1,g2,g3⟩:=Y1.c4;obtain ⟨p0,p1,p2,p3⟩:=Y1.f4)
   | fail)
  have K1:Only [] w (w1.alloc (.cells #[.slice A1 n1 C1,.slice A2 n2 C2,.slice A3 n3 C3,.bool wh] 95)):=zA
  obtain ⟨Yf,kf⟩:=store4 Y1 (.slice A1 n1 C1) (.slice A2 n2 C2) (.slice A3 n3 C3) (.bool wh)
  obtain ⟨wf,hwf⟩:∃ wf,wf = (((((w1.alloc (.cells #[.slice A1 n1 C1,.slice A2 n2 C2,.slice A3 n3 C3,.bool wh] 95)).setCell ⟨w.heap.size + 1,0,none⟩ (.slice A1 n1 C1)).setCell ⟨w.heap.size + 1,1,none⟩ (.slice A2 n2 C2)).setCell ⟨w.heap.size + 1,2,none⟩ (.slice A3 n3 C3)).setCell ⟨w.heap.size + 1,3,none⟩ (.bool wh)):=⟨_,rfl⟩
  rw [<- hwf] at Yf kf ⊢
  clear hwf g0 g1 g2 g3 p0 p1 p2 p3
  obtain ⟨r0,r1,r2,r3⟩:=Yf.c4
  refine bodyPost_ret (v:=.tuple #[.agg #[.slice A1 n1 C1,.slice A2 n2 C2,.slice A3 n3 C3,.bool wh],.int .i64 (-1),.bool false]) (by simp [results,Tryz.results63,go_sem,r0,r1,r2,r3]) rfl ⟨A1,n1,C1,A2,n2,C2,A3,n3,C3,wh,by rw [Hn.out];rfl,fun t h9=>(by cases h9),K1.then_ kf (by simp)⟩
 ·obtain ⟨hb,-⟩:=Zaj he
  have He:=zH he
  have Hb:=zH hb
  clear he hb
  rcases hq:stateB x s
  ·have Hn:=zH (Zsq hq)
   have Hq:=zH hq
   clear hq
   go_enter Tryz.func63,Tryz.ntmps63
   go_wp2_with (first
    | (go_at_call 108;(with_reducible refine (Zgb [.int .i64 x.points,.string x.names,v2] x t _ _ (zK h0 zA) He.out).mono ?_);rintro e w1 ⟨A1,n1,C1,A2,n2,C2,A3,n3,C3,wh,rfl,hS,t1⟩;have Z:=Blk.new w1 [.slice none 0 0,.slice none 0 0,.slice none 0 0,.bool false] 95;obtain ⟨z0,z1,z2,z3⟩:=Z.c4;obtain ⟨zp0,zp1,zp2,zp3⟩:=Z.f4;have X1:=(X0.keep t1).keep ((Only.refl [] _).alloc (.cells #[.slice A1 n1 C1,.slice A2 n2 C2,.slice A3 n3 C3,.bool wh] 95));obtain ⟨x0,x1,x2⟩:=X1.c3;have Y1:=(Y0.keep t1).keep ((Only.refl [] _).alloc (.cells #[.slice A1 n1 C1,.slice A2 n2 C2,.slice A3 n3 C3,.bool wh] 95));have U1:=Blk.new w1 [.slice A1 n1 C1,.slice A2 n2 C2,.slice A3 n3 C3,.bool wh] 95)
    | (go_at_call 23;(with_reducible refine (Zag [.int .i64 x.points,.string x.names,v2] x _ _ s _ _ (zK h0 zA) (zK hs zA)).mono ?_);rintro e w2 ⟨he,t2⟩;rw [Hq.out] at he;subst he;have U2:=U1.keep t2;have Y2:=Y1.keep t2;obtain ⟨a0,a1,a2,a3⟩:=U2.c4;obtain ⟨g0,g1,g2,g3⟩:=Y2.c4;obtain ⟨p0,p1,p2,p3⟩:=Y2.f4)
    | fail)
   have K1:Only [] w w2:=zA
   have hS2:=SrF.keep hS (((Only.refl [] w1).alloc (.cells #[.slice A1 n1 C1,.slice A2 n2 C2,.slice A3 n3 C3,.bool wh] 95)).trans t2)
   have Y9:=Y2
   obtain ⟨Yf,kf⟩:=store4 Y9 (.slice A1 n1 C1) (.slice A2 n2 C2) (.slice A3 n3 C3) (.bool wh)
   obtain ⟨wf,hwf⟩:∃ wf,wf = ((((w2.setCell ⟨w.heap.size + 1,0,none⟩ (.slice A1 n1 C1)).setCell ⟨w.heap.size + 1,1,none⟩ (.slice A2 n2 C2)).setCell ⟨w.heap.size + 1,2,none⟩ (.slice A3 n3 C3)).setCell ⟨w.heap.size + 1,3,none⟩ (.bool wh)):=⟨_,rfl⟩
   rw [<- hwf] at Yf kf ⊢
   clear hwf g0 g1 g2 g3 p0 p1 p2 p3
   obtain ⟨r0,r1,r2,r3⟩:=Yf.c4
   exact bodyPost_ret (v:=.tuple #[.agg #[.slice A1 n1 C1,.slice A2 n2 C2,.slice A3 n3 C3,.bool wh],.int .i64 (-1),.bool false]) (by simp [results,Tryz.results63,go_sem,r0,r1,r2,r3]) rfl ⟨A1,n1,C1,A2,n2,C2,A3,n3,C3,wh,by rw [Hn.out];rfl,fun t' h9=>(by injection h9 with h9;subst h9;exact (SrF.only hS2 kf (by intro b hb;simp at hb;subst hb;simp)).mono (by simp;omega)),K1.then_ kf (by simp)⟩
  ·have hsl:s.length = x.points.toNat:=(Zav hq).2.2.2.1
   have Hq:=zH hq
   have Hsl:=zH hsl
   have Hd:=zH (Zuc (s:=s) He.out)
   clear hq hsl
   go_enter Tryz.func63,Tryz.ntmps63
   go_wp2_with (first
    | (go_at_call 108;(with_reducible refine (Zgb [.int .i64 x.points,.string x.names,v2] x t _ _ (zK h0 zA) He.out).mono ?_);rintro e w1 ⟨A1,n1,C1,A2,n2,C2,A3,n3,C3,wh,rfl,hS,t1⟩;have Z:=Blk.new w1 [.slice none 0 0,.slice none 0 0,.slice none 0 0,.bool false] 95;obtain ⟨z0,z1,z2,z3⟩:=Z.c4;obtain ⟨zp0,zp1,zp2,zp3⟩:=Z.f4;have X1:=(X0.keep t1).keep ((Only.refl [] _).alloc (.cells #[.slice A1 n1 C1,.slice A2 n2 C2,.slice A3 n3 C3,.bool wh] 95));obtain ⟨x0,x1,x2⟩:=X1.c3;have Y1:=(Y0.keep t1).keep ((Only.refl [] _).alloc (.cells #[.slice A1 n1 C1,.slice A2 n2 C2,.slice A3 n3 C3,.bool wh] 95));have U1:=Blk.new w1 [.slice A1 n1 C1,.slice A2 n2 C2,.slice A3 n3 C3,.bool wh] 95)
    | (go_at_call 23;(with_reducible refine (Zag [.int .i64 x.points,.string x.names,v2] x _ _ s _ _ (zK h0 zA) (zK hs zA)).mono ?_);rintro e w2 ⟨he,t2⟩;rw [Hq.out] at he;subst he;have U2:=U1.keep t2;have Y2:=Y1.keep t2;obtain ⟨b0,b1,b2,b3⟩:=U2.c4;have hS2:=SrF.keep hS (((Only.refl [] w1).alloc (.cells #[.slice A1 n1 C1,.slice A2 n2 C2,.slice A3 n3 C3,.bool wh] 95)).trans t2))
    | (go_at_call 109;(with_reducible refine (Zey x t _ _ s _ _ hS2 Hb.out (zK hs zA) Hsl.out).mono ?_);rintro e w3 ⟨he,t3⟩;rw [<- Hd.out] at he;subst he;have U3:=U2.keep t3;have Y9:=Y2.keep t3;obtain ⟨a0,a1,a2,a3⟩:=U3.c4;obtain ⟨g0,g1,g2,g3⟩:=Y9.c4;obtain ⟨p0,p1,p2,p3⟩:=Y9.f4)
    | fail)
   have K1:Only [] w w3:=zA
   have hS3:=SrF.keep hS2 t3
   obtain ⟨Yf,kf⟩:=store4 Y9 (.slice A1 n1 C1) (.slice A2 n2 C2) (.slice A3 n3 C3) (.bool wh)
   obtain ⟨wf,hwf⟩:∃ wf,wf = ((((w3.setCell ⟨w.heap.size + 1,0,none⟩ (.slice A1 n1 C1)).setCell ⟨w.heap.size + 1,1,none⟩ (.slice A2 n2 C2)).setCell ⟨w.heap.size + 1,2,none⟩ (.slice A3 n3 C3)).setCell ⟨w.heap.size + 1,3,none⟩ (.bool wh)):=⟨_,rfl⟩
   rw [<- hwf] at Yf kf ⊢
   clear hwf g0 g1 g2 g3 p0 p1 p2 p3
   obtain ⟨r0,r1,r2,r3⟩:=Yf.c4
   exact bodyPost_ret (v:=.tuple #[.agg #[.slice A1 n1 C1,.slice A2 n2 C2,.slice A3 n3 C3,.bool wh],.int .i64 (distX x s),.bool (decide (0<=distX x s))]) (by simp [results,Tryz.results63,go_sem,r0,r1,r2,r3]) rfl ⟨A1,n1,C1,A2,n2,C2,A3,n3,C3,wh,rfl,fun t' h9=>(by injection h9 with h9;subst h9;exact (SrF.only hS3 kf (by intro b hb;simp at hb;subst hb;simp)).mono (by simp;omega)),K1.then_ kf (by simp)⟩
set_option maxHeartbeats 4000000 in
theorem Zbp (cs:List Value) (x:Puzzle) (fp:List Nat) (v:Value) (s:List Int) (fs:List Nat) (w:World) (h:Rp.rep w cs x fp) (hs:Rd w v s fs) :
  Calls Tryz.prog 29 #[.agg cs.toArray,v] w fun e w'=>e = .returned (.int .i64 (distX x s))/\Only [] w w':=by
 have h0:=h
 obtain ⟨v2,rfl,p0,p1,h2⟩:=h
 clear p0 p1 h2
 by_cases hd:0<=distX x s
 ·have hdb:decide (0<=distX x s) = true:=decide_eq_true hd
  have Hdb:=zH hdb
  clear hdb hd
  go_enter Tryz.func29,Tryz.ntmps29
  go_wp2_with (first
   | (go_at_call 63;(with_reducible refine (Zcd [.int .i64 x.points,.string x.names,v2] x _ v s _ _ (zK h0 zA) (zK hs zA)).mono ?_);rintro e w1 ⟨A1,n1,C1,A2,n2,C2,A3,n3,C3,wh,he,q1,t1⟩;rw [Hdb.out] at he;subst he)
   | fail)
  go_ret
  exact ⟨rfl,zA⟩
 ·have hdb:decide (0<=distX x s) = false:=decide_eq_false hd
  have Hdb:=zH hdb
  have hn:distX x s = -1:=by
   rcases Zeq x s with h1 | h1
   ·exact h1
   ·exact absurd h1.1 hd
  have Hn:=zH hn
  clear hdb hd hn
  go_enter Tryz.func29,Tryz.ntmps29
  go_wp2_with (first
   | (go_at_call 63;(with_reducible refine (Zcd [.int .i64 x.points,.string x.names,v2] x _ v s _ _ (zK h0 zA) (zK hs zA)).mono ?_);rintro e w1 ⟨A1,n1,C1,A2,n2,C2,A3,n3,C3,wh,he,q1,t1⟩;rw [Hdb.out] at he;subst he)
   | fail)
  go_ret
  exact ⟨ret_int Hn.out.symm,zA⟩
structure DWn (x:Puzzle) (t:Table) (w W0:World) (e:TypeId) (G:List Nat) (wr:World) (o s2:Value) (dn:List Int) (i:Nat) (f2:List Nat):Prop where
 acc:AccI w.heap.size e wr o dn
 rd:Rd wr s2 (t.patterns.getD i []) f2
 ap:∀ b∈f2,o.ownBlock ≠ some b
 on:Only [] w wr
 kp:∀ b∈G,wr.heap[b]? = W0.heap[b]?
 ga:∀ b∈G,o.ownBlock ≠ some b
 gl:∀ b∈G,b < wr.heap.size
section
variable {x:Puzzle} {t:Table} {w W0:World} {e:TypeId} {G:List Nat} {wr w':World} {o s2:Value} {dn:List Int} {i:Nat} {f2:List Nat}
theorem DWn.keep (h:DWn x t w W0 e G wr o s2 dn i f2) (ho:Only [] wr w'):DWn x t w W0 e G w' o s2 dn i f2:=
 ⟨h.acc.keep ho,zK h.rd ho,h.ap,h.on.trans ho,fun b hb=>(ho.block b (h.gl b hb) (by simp)).trans (h.kp b hb),h.ga,fun b hb=>Nat.lt_of_lt_of_le (h.gl b hb) ho.size⟩
theorem DWn.blk (h:DWn x t w W0 e G wr o s2 dn i f2) {g:Nat} {cs:List Value} (hb:Blk W0 g cs) (hg:g∈G):Blk wr g cs:=by
 obtain ⟨ty,hb⟩:=hb
 exact ⟨ty,(h.kp g hg).trans hb⟩
theorem DWn.ints (h:DWn x t w W0 e G wr o s2 dn i f2) {a:Option Addr} {c:Nat} {l:List Int} {fp:List Nat} (hr:IntsA W0 a c l fp) (hf:∀ b∈fp,b∈G):IntsA wr a c l fp:=hr.frame fun b hb=>h.kp b (hf b hb)
theorem DWn.step {wa wb:World} {o' s3:Value} {l:Int} {j:Nat} {f3:List Nat} (h:DWn x t w W0 e G wr o s2 dn i f2) (hk:Only [] wr wa) (hA:AccI w.heap.size e wb o' (dn ++ [l])) (oA:Only o.ownBlock.toList wa wb) (nA:o'.ownBlock = o.ownBlock\/o'.ownBlock = some wa.heap.size)
  (hP:∀ wz,Only [] wz wa->wz.heap.size<=w.heap.size->Only [] wz wb) (hr:Rd wa s3 (t.patterns.getD j []) f3) (hf:∀ b∈f3,o.ownBlock ≠ some b):DWn x t w W0 e G wb o' s3 (dn ++ [l]) j f3:=by
 have h1:=h.keep hk
 refine ⟨hA,Rp.only hr oA (fun b hb hm=>hf b hb (by simpa using hm)),fun b hb=>Zjd nA (hf b hb) (Rp.lt hr b hb),hP w h1.on (Nat.le_refl _),fun b hb=>?_,fun b hb=>Zjd nA (h1.ga b hb) (h1.gl b hb),fun b hb=>Nat.lt_of_lt_of_le (h1.gl b hb) oA.size⟩
 rw [oA.block b (h1.gl b hb) (fun hm=>h1.ga b hb (by simpa using hm))]
 exact h1.kp b hb
end
theorem depT_at {x:Puzzle} {t:Table} (hb:Built x t) {i:Nat} (hi:i < t.patterns.length) {s:List Int} (h:t.patterns.getD i [] = s):depT t s = t.distances.getD i 0:=by
 rw [<- h];exact Zpp hb hi
set_option maxHeartbeats 8000000 in
theorem Zlc (cs:List Value) (x:Puzzle) (fp:List Nat) (t:Table) (B:Nat) (A1 A2 A3:Option Addr) (n1 n2 n3 C1 C2 C3:Nat) (wh:Bool) (u:Value) (fu:List Nat) (i0 N:Nat) (w:World) (h:Rp.rep w cs x fp)
  (hS:SrF B w x t (.agg #[.slice A1 n1 C1,.slice A2 n2 C2,.slice A3 n3 C3,.bool wh])) (he:expl x = some t) (hi0:i0 < t.patterns.length) (hu:Rd w u (t.patterns.getD i0 []) fu) (hN:t.distances.getD i0 0 = N) :
  Calls Tryz.prog 75 #[.agg cs.toArray,.agg #[.slice A1 n1 C1,.slice A2 n2 C2,.slice A3 n3 C3,.bool wh],u] w fun e w'=>∃ v fp',e = .returned v/\Rd w' v (oW x t N (t.patterns.getD i0 [])) fp'/\Fresh w.heap.size w' fp'/\Only [] w w':=by
 have h0:=h
 obtain ⟨v2,rfl,p0,p1,h2⟩:=h
 clear p0 p1 h2
 obtain ⟨hb,-⟩:=Zaj he
 obtain ⟨q1,q20,q8,-⟩:=Zae hb.v
 have hdep:=(hb.dep i0 hi0).2.1
 have hll:=hb.ll
 have hN3:N<=3000:=by omega
 have Hb:=zH hb
 have He:=zH he
 have Hd0:=zH ((depT_at hb hi0 rfl).trans hN)
 have Hl0:=zH (Zff he hi0)
 have HN:=zH hN
 clear he hN hb hdep
 have X0:Blk (((w.alloc (.cells #[.int .i64 x.points,.string x.names,v2] 26)).alloc (.cells #[.slice A1 n1 C1,.slice A2 n2 C2,.slice A3 n3 C3,.bool wh] 95)).alloc (.cells #[] 2)) w.heap.size [.int .i64 x.points,.string x.names,v2]:=((Blk.new w [.int .i64 x.points,.string x.names,v2] 26).keep (zO.alloc _)).keep (zO.alloc _)
 have Y0:Blk (((w.alloc (.cells #[.int .i64 x.points,.string x.names,v2] 26)).alloc (.cells #[.slice A1 n1 C1,.slice A2 n2 C2,.slice A3 n3 C3,.bool wh] 95)).alloc (.cells #[] 2)) (w.heap.size + 1) [.slice A1 n1 C1,.slice A2 n2 C2,.slice A3 n3 C3,.bool wh]:=(Blk.new_at (w:=w.alloc (.cells #[.int .i64 x.points,.string x.names,v2] 26)) (cs:=[.slice A1 n1 C1,.slice A2 n2 C2,.slice A3 n3 C3,.bool wh]) (by simp)).keep (zO.alloc _)
 obtain ⟨iI,hi,hz0,hz1,hz2⟩:=info_parts Tryz.info2
 obtain ⟨s0,hs0⟩:∃ s0,s0 = t.patterns.getD i0 []:=⟨_,rfl⟩
 rw [<- hs0] at Hd0 Hl0 hu
 have Hs0:=zH hs0
 rw [<- hs0]
 clear hs0
 go_enter Tryz.func75,Tryz.ntmps75
 go_wp2_with (first
  | (go_at_call 117;(with_reducible refine (Zii [.int .i64 x.points,.string x.names,v2] x _ _ (zK h0 zA) (by omega)).mono ?_);rintro e w1 ⟨u1,f1,rfl,r1,F1,t1⟩;obtain ⟨a1,c1,rfl,I1⟩:=r1.ints;have Y1:=Y0.keep t1;obtain ⟨y0,y1,y2,y3⟩:=Y1.c4)
  | (go_at_call 109;(with_reducible refine (Zey x t _ u s0 fu _ (SrF.keep hS zA) Hb.out (zK hu zA) Hl0.out).mono ?_);rintro e w2 ⟨he,t2⟩;rw [Hd0.out] at he;subst he)
  | fail)
 have K2:Only [] w w2:=zA
 have X2:=(X0.keep t1).keep t2
 have Y2:=Y1.keep t2
 have I2:=I1.keep t2
 have hz1s:=t1.size
 have hz2s:=t2.size
 simp at hz1s
 obtain ⟨ls,hls⟩:∃ ls,ls = ltrs x.moves.length:=⟨_,rfl⟩
 rw [<- hls] at I2 ⊢
 have Hls:=zH hls
 have hf1:=F1.ge
 have hf1l:=I2.lt
 have A0:AccI w.heap.size 2 w2 (.slice (some ⟨w.heap.size + 2,0,none⟩) 0 0) []:=((AccI.made ((w.alloc (.cells #[.int .i64 x.points,.string x.names,v2] 26)).alloc (.cells #[.slice A1 n1 C1,.slice A2 n2 C2,.slice A3 n3 C3,.bool wh] 95)) w.heap.size 2 (by simp) (by omega)).keep t1).keep t2
 have D0:DWn x t w w2 2 (f1 ++ [w.heap.size,w.heap.size + 1]) w2 (.slice (some ⟨w.heap.size + 2,0,none⟩) 0 0) u [] i0 fu:=by
  refine ⟨A0,by rw [<- Hs0.out];exact zK hu K2,fun b hb he=>?_,K2,fun _ _=>rfl,fun b hb he=>?_,fun b hb=>?_⟩
  ·have:=Rp.lt hu b hb;simp [Value.ownBlock] at he;omega
  ·simp [Value.ownBlock] at he
   simp only [List.mem_append,List.mem_cons,List.not_mem_nil,or_false] at hb
   rcases hb with hb | hb | hb
   ·have:=hf1 b hb;simp at this;omega
   ·omega
   ·omega
  ·simp only [List.mem_append,List.mem_cons,List.not_mem_nil,or_false] at hb
   rcases hb with hb | hb | hb
   ·exact hf1l b hb
   ·omega
   ·omega
 clear X0 Y0 Y1 y0 y1 y2 y3 r1 F1 I1 A0 hls t1 t2 hz1s hf1 hf1l
 go_loopw [2,7,9] (fun s2 o d wr=>∃ (n i:Nat) (f2:List Nat) (dn:List Int),d = .int .i64 n/\n<=3000/\dn.length + n = N/\i < t.patterns.length/\t.distances.getD i 0 = n/\dn ++ oW x t n (t.patterns.getD i []) = oW x t N s0/\DWn x t w w2 2 (f1 ++ [w.heap.size,w.heap.size + 1]) wr o s2 dn i f2)
  (fun _ _ d _=>(intOf d).toNat)
 case atStart=>exact ⟨N,i0,fu,[],rfl,hN3,by simp,hi0,HN.out,by rw [Hs0.out];rfl,D0⟩
 case round=>
  obtain ⟨W3,hnew⟩:∃ W,W = wr:=⟨_,rfl⟩
  subst hnew
  obtain ⟨n,i,f2,dn,rfl,hn3,hlen,hil,hdi,hcat,hD⟩:=hrel
  have Hcat:=zH hcat
  have Hdi:=zH hdi
  have Hlen:=zH hlen
  clear hcat hdi hlen
  by_cases hn:0 < n
  ·obtain ⟨m,hm⟩:∃ m,n = m + 1:=⟨n - 1,by omega⟩
   have hm1:m + 1<=n:=by omega
   have hm2:n<=m + 1:=by omega
   have Hm:=zH hm
   obtain ⟨k,j,hDn⟩:=Hb.out.down hil (n:=m) (by rw [Hdi.out,hm];push_cast;rfl)
   clear hm
   have hkl:k < ls.length:=by rw [Hls.out];exact hDn.hk
   have HDn:=zH hDn
   clear hDn
   go_wp2
   go_loopw [2,7,10] (fun s2 o c wr=>∃ j':Nat,j'<=k/\c = .int .i64 j'/\s2 = u2/\o = u7/\Only [] W3 wr)
    (fun _ _ c _=>ls.length - (intOf c).toNat)
   case atStart=>exact ⟨0,Nat.zero_le _,rfl,rfl,rfl,Only.refl _ _⟩
   case round=>
    obtain ⟨j',hj',rfl,rfl,rfl,hK⟩:=hrel
    obtain ⟨W4,hnew⟩:∃ W,W = wr:=⟨_,rfl⟩
    subst hnew
    have hD4:=hD.keep hK
    have hjl:j' < ls.length:=by omega
    have I4:=hD4.ints I2 (by intro b hb;simp [hb])
    have hlb:=I4.bound
    obtain ⟨b3,off3,rfl,-,hc3⟩:=I4.at_ j' hjl
    have X4:=hD4.blk X2 (by simp)
    have Y4:=hD4.blk Y2 (by simp)
    obtain ⟨x0,x1,x2⟩:=X4.c3
    have hrd:=hD4.rd
    have K4:=hD4.on
    have hla:ls[j']∈ltrs x.moves.length:=by rw [<- Hls.out];exact List.getElem_mem hjl
    obtain ⟨i',hi',hnx,-,-⟩:=Hb.out.step hil hla
    have hpat:=Zkg He.out hil
    have Hrng:=zH (Zba.1 hpat).2.1
    have hql:(t.patterns.getD i []).length<=1000:=by rw [Zff He.out hil];omega
    have hI:I64 ls[j']:=by have:=Zbv.1 hla;unfold I64;omega
    have HI:=zH hI
    have Hla:=zH hla
    obtain ⟨cur,hcur⟩:∃ cur,cur = t.patterns.getD i []:=⟨_,rfl⟩
    have Hcur:=zH hcur
    rw [<- hcur] at hrd hql hnx
    rw [<- hcur] at Hrng
    clear hpat hla hI hcur
    have Hc:=zH (fun (W:World) (hh:Only [] W4 W)=>Zgf [.int .i64 x.points,.string x.names,v2] x _ u2 cur _ ls[j'] W (zK h0 (K4.trans hh)) (zK hrd hh) Hb.out.v Hla.out Hrng.out hql)
    go_wp2
    go_region_held3 (fun w'=>Only [] W4 w'/\w'.cell? ⟨w.heap.size,0,none⟩ = some (.int .i64 x.points)/\w'.cell? ⟨w.heap.size,1,none⟩ = some (.string x.names)/\w'.cell? ⟨w.heap.size,2,none⟩ = some (v2)/\w'.cell? ⟨b3,off3 + j',none⟩ = some (.int .i64 ls[j'])) (((refine and_of ?_ (fun q_=>⟨q_.ce x0,q_.ce x1,q_.ce x2,q_.ce hc3⟩));first | exact zO.drew | exact (zO.drewN _).drew | exact Only.trans (And.left (by assumption)) (by assumption) | exact Only.alloc (And.left (by assumption)) _ | assumption)) (first | (go_at_call 118;(with_reducible refine (Hc.out _ (And.left (by assumption))).mono ?_);rintro e w5 ⟨u5,f5,rfl,r5,F5,t5⟩;have F5':=F5.mono (((Only.refl [] W4).trans (And.left (by assumption))).size)) | fail)
    have k5:Only [] W4 w5:=(Only.refl [] W4).trans (And.left (by assumption))
    obtain ⟨s',hs'⟩:∃ s',s' = nxt x cur ls[j']:=⟨_,rfl⟩
    rw [<- hs'] at r5 hnx
    have Hl':=zH (show s'.length = x.points.toNat by rw [<- hnx];exact Zff He.out hi')
    have hd':depT t s' = t.distances.getD i' 0:=depT_at Hb.out hi' hnx
    have hS5:=SrF.keep hS (K4.trans k5)
    have Y5:=Y4.keep k5
    obtain ⟨y0,y1,y2,y3⟩:=Y5.c4
    have I5:=I4.keep k5
    obtain ⟨b3',off3',e3,-,hc5⟩:=I5.at_ j' hjl
    injection e3 with e3;injection e3 with e3 e4;subst e3;subst e4
    have hD5:=hD4.keep k5
    have Hs':=zH hs'
    have Hnx:=zH hnx
    have Hd':=zH hd'
    clear x0 x1 x2 hc3 X4 Y4 I4 Hc hrd hs' hnx hd'
    by_cases hjk:j' = k
    ·subst hjk
     have hjj:t.patterns.getD j [] = s':=by rw [HDn.out.nx,Hs'.out,Hcur.out];simp [Hls.out]
     have Hjj:=zH hjj
     have Hdm:=zH ((depT_at Hb.out HDn.out.hj hjj).trans HDn.out.ds:depT t s' = m)
     clear hjj
     have hdl:dn.length + 1<=1073741824:=by have:=Hlen.out;omega
     have hcmp:((m:Int) == (n:Int) - 1) = true:=by simp;omega
     go_wp2_with (first
      | (go_at_call 109;(with_reducible refine (Zey x t _ u5 s' f5 _ hS5 Hb.out (zK r5 zA) Hl'.out).mono ?_);rintro e w6 ⟨he,t6⟩;rw [Hdm.out] at he;subst he;have hc6:=t6.cell (by simp) hc5;have hD6:=hD5.keep t6;have hB6:=hD6.on.size)
      | (at_builtin;refine Zbj rfl _ _ 27 rfl w.heap.size 2 iI _ Tryz.underlying27 hi hz0 hz1 hz2 rfl w6 _ dn rfl hD6.acc (zO.alloc _) hB6 w6.heap.size 1 ls[j'] rfl (lit1 w6 _ _ rfl) HI.out hdl ?_;intro v9 w9 hA9 hO9 hP9 hN9)
      | fail)
     have hf5:∀ b∈f5,u7.ownBlock ≠ some b:=fun b hb he=>by
      obtain ⟨fs7,hA7⟩:=hD4.acc
      have:=(hA7.ownlt b he).2
      have:=F5'.ge b hb
      omega
     have hD9:=DWn.step hD6 (zO.alloc _) hA9 hO9 hN9 hP9 (j:=j) (zK (zK (show Rd w5 u5 (t.patterns.getD j []) f5 by rw [Hjj.out];exact r5) t6) (zO.alloc _)) hf5
     exact ⟨⟨m,j,f5,dn ++ [ls[j']],by congr 1;omega,by omega,by have:=Hlen.out;simp;omega,HDn.out.hj,HDn.out.ds,by rw [<- Hcat.out,Hm.out,HDn.out.oW_];simp [Hls.out],hD9⟩,by simp [intOf];omega⟩
    ·have hne:=(HDn.out.no j' (by omega) i' hi' (by rw [Hnx.out,Hs'.out,Hcur.out];simp [Hls.out])).1
     have hdr:=Hb.out.dep i' hi'
     obtain ⟨d',hd9⟩:∃ d',d' = t.distances.getD i' 0:=⟨_,rfl⟩
     rw [<- hd9] at hne hdr
     have Hdd:=zH (Hd'.out.trans hd9.symm)
     have hcmp:(d' == (n:Int) - 1) = false:=by simp;omega
     clear hd9 hne hdr
     go_wp2_with (first
      | (go_at_call 109;(with_reducible refine (Zey x t _ u5 s' f5 _ hS5 Hb.out (zK r5 zA) Hl'.out).mono ?_);rintro e w6 ⟨he,t6⟩;rw [Hdd.out] at he;subst he)
      | fail)
     go_roundw
     case rel=>exact ⟨j' + 1,by omega,by go_num,rfl,rfl,hK.trans (k5.trans t6)⟩
     case measure=>simp [intOf];omega
  ·obtain rfl:n = 0:=by omega
   have hfin:dn = oW x t N s0:=by have:=Hcat.out;rwa [show oW x t 0 (t.patterns.getD i []) = [] from rfl,List.append_nil] at this
   have Hfin:=zH hfin
   clear hfin
   go_wp2
   go_ret
   exact ⟨_,_,rfl,by rw [<- Hfin.out];exact hD.acc.rd,hD.acc.fresh,hD.on⟩
theorem Zrc (w:World) (e:TypeId) {g:Nat} (hg:g = w.heap.size):Rd (w.alloc (.cells #[] e)) (.slice (some ⟨g,0,none⟩) 0 0) ([]:List Int) [g]/\Fresh w.heap.size (w.alloc (.cells #[] e)) [g]:=by
 subst hg
 exact ⟨(AccI.made w w.heap.size e rfl (Nat.le_refl _)).rd,(AccI.made w w.heap.size e rfl (Nat.le_refl _)).fresh⟩
set_option maxHeartbeats 4000000 in
theorem Zcy (cs:List Value) (x:Puzzle) (fp:List Nat) (v:Value) (s:List Int) (fs:List Nat) (w:World) (h:Rp.rep w cs x fp) (hs:Rd w v s fs) :
  Calls Tryz.prog 36 #[.agg cs.toArray,v] w fun e w'=>∃ u fp',e = .returned (.tuple #[u,.bool (optX x s).isSome])/\Rd w' u ((optX x s).getD []) fp'/\Fresh w.heap.size w' fp'/\Only [] w w':=by
 have h0:=h
 obtain ⟨v2,rfl,p0,p1,h2⟩:=h
 clear p0 p1 h2
 have X0:Blk (w.alloc (.cells #[.int .i64 x.points,.string x.names,v2] 26)) w.heap.size [.int .i64 x.points,.string x.names,v2]:=Blk.new w [.int .i64 x.points,.string x.names,v2] 26
 by_cases hd:0<=distX x s
 ·have hdb:decide (0<=distX x s) = true:=decide_eq_true hd
  have Hdb:=zH hdb
  have hrg:distX x s<=3000/\reachB x s = true/\∃ t,expl x = some t:=by
   rcases Zeq x s with h1 | h1
   ·omega
   ·exact h1.2
  obtain ⟨hd3,hr,t,ht⟩:=hrg
  by_cases h200:distX x s<=200
  ·obtain ⟨i,hi,e1,-,e2,-,-⟩:=Zds ht hr
   have Hn:=zH (Zuf ht ⟨hd,h200⟩)
   have Ht:=zH ht
   obtain ⟨d,hdd⟩:∃ d:Nat,distX x s = (d:Int):=⟨_,(Int.toNat_of_nonneg hd).symm⟩
   have E1:=zH e1
   have E2:=zH (e2.symm.trans hdd)
   have Hdd:=zH hdd
   have hd2:(d:Int)<=200:=by omega
   clear hdb hr ht e1 e2 hd h200 hdd hd3
   go_enter Tryz.func36,Tryz.ntmps36
   go_wp2_with (first
    | (go_at_call 63;(with_reducible refine (Zcd [.int .i64 x.points,.string x.names,v2] x _ v s _ _ (zK h0 zA) (zK hs zA)).mono ?_);rintro e w1 ⟨A1,n1,C1,A2,n2,C2,A3,n3,C3,wh,he,q1,t1⟩;rw [Hdb.out,Hdd.out] at he;subst he;have Z:=Blk.new w1 [.slice none 0 0,.slice none 0 0,.slice none 0 0,.bool false] 95;obtain ⟨z0,z1,z2,z3⟩:=Z.c4;obtain ⟨zp0,zp1,zp2,zp3⟩:=Z.f4;have hS:=zH (SrF.keep (q1 t Ht.out) ((Only.refl [] w1).alloc (.cells #[.slice A1 n1 C1,.slice A2 n2 C2,.slice A3 n3 C3,.bool wh] 95)));clear q1;have X1:=(X0.keep t1).keep ((Only.refl [] _).alloc (.cells #[.slice A1 n1 C1,.slice A2 n2 C2,.slice A3 n3 C3,.bool wh] 95));obtain ⟨x0,x1,x2⟩:=X1.c3;have U1:=Blk.new w1 [.slice A1 n1 C1,.slice A2 n2 C2,.slice A3 n3 C3,.bool wh] 95;obtain ⟨a0,a1,a2,a3⟩:=U1.c4;have hs1:Rd (w1.alloc (.cells #[.slice A1 n1 C1,.slice A2 n2 C2,.slice A3 n3 C3,.bool wh] 95)) v (t.patterns.getD i []) fs:=(by rw [E1.out];exact zK hs zA))
    | (go_at_call 75;(with_reducible refine (Zlc [.int .i64 x.points,.string x.names,v2] x _ t _ A1 A2 A3 n1 n2 n3 C1 C2 C3 wh v fs i d _ (zK h0 zA) hS.out Ht.out hi hs1 E2.out).mono ?_);rintro e w2 ⟨u2,f2,rfl,r2,F2,t2⟩)
    | fail)
   have K2:Only [] w w2:=zA
   have hsz:=t1.size
   simp at hsz
   have hfin:(optX x s).getD [] = oW x t d (t.patterns.getD i []):=by rw [Hn.out,E1.out,Hdd.out];rfl
   have hsm:(optX x s).isSome = true:=by rw [Hn.out];rfl
   exact bodyPost_ret (v:=.tuple #[u2,.bool true]) (by simp [results,Tryz.results36,go_sem]) rfl ⟨u2,f2,by rw [hsm],by rw [hfin];exact r2,F2.mono (by simp;omega),K2⟩
  ·have Hn:=zH (optX_no (x:=x) (s:=s) (fun hh=>h200 hh.2))
   have hd2:200 < distX x s:=by omega
   clear hdb hr ht h200
   go_enter Tryz.func36,Tryz.ntmps36
   go_wp2_with (first
    | (go_at_call 63;(with_reducible refine (Zcd [.int .i64 x.points,.string x.names,v2] x _ v s _ _ (zK h0 zA) (zK hs zA)).mono ?_);rintro e w1 ⟨A1,n1,C1,A2,n2,C2,A3,n3,C3,wh,he,q1,t1⟩;rw [Hdb.out] at he;subst he;clear q1;have Z:=Blk.new w1 [.slice none 0 0,.slice none 0 0,.slice none 0 0,.bool false] 95;obtain ⟨z0,z1,z2,z3⟩:=Z.c4;obtain ⟨zp0,zp1,zp2,zp3⟩:=Z.f4)
    | fail)
   have K2:Only [] w ((w1.alloc (.cells #[.slice A1 n1 C1,.slice A2 n2 C2,.slice A3 n3 C3,.bool wh] 95)).alloc (.cells #[] 2)):=zA
   have K3:Only [] w (w1.alloc (.cells #[.slice A1 n1 C1,.slice A2 n2 C2,.slice A3 n3 C3,.bool wh] 95)):=zA
   obtain ⟨hE,hF⟩:=Zrc (w1.alloc (.cells #[.slice A1 n1 C1,.slice A2 n2 C2,.slice A3 n3 C3,.bool wh] 95)) 2 (g:=w1.heap.size + 1) (by simp)
   exact bodyPost_ret (v:=.tuple #[.slice (some ⟨w1.heap.size + 1,0,none⟩) 0 0,.bool false]) (by simp [results,Tryz.results36,go_sem]) rfl ⟨_,_,by rw [Hn.out];rfl,by rw [Hn.out];exact hE,hF.mono K3.size,K2⟩
 ·have hn1:distX x s = -1:=by
   rcases Zeq x s with h1 | h1
   ·exact h1
   ·omega
  have hdb:decide (0<=distX x s) = false:=decide_eq_false hd
  have Hdb:=zH hdb
  have Hn:=zH (optX_no (x:=x) (s:=s) (fun hh=>hd hh.1))
  clear hdb hd hn1
  go_enter Tryz.func36,Tryz.ntmps36
  go_wp2_with (first
   | (go_at_call 63;(with_reducible refine (Zcd [.int .i64 x.points,.string x.names,v2] x _ v s _ _ (zK h0 zA) (zK hs zA)).mono ?_);rintro e w1 ⟨A1,n1,C1,A2,n2,C2,A3,n3,C3,wh,he,q1,t1⟩;rw [Hdb.out] at he;subst he;clear q1;have Z:=Blk.new w1 [.slice none 0 0,.slice none 0 0,.slice none 0 0,.bool false] 95;obtain ⟨z0,z1,z2,z3⟩:=Z.c4;obtain ⟨zp0,zp1,zp2,zp3⟩:=Z.f4)
   | fail)
  have K2:Only [] w ((w1.alloc (.cells #[.slice A1 n1 C1,.slice A2 n2 C2,.slice A3 n3 C3,.bool wh] 95)).alloc (.cells #[] 2)):=zA
  have K3:Only [] w (w1.alloc (.cells #[.slice A1 n1 C1,.slice A2 n2 C2,.slice A3 n3 C3,.bool wh] 95)):=zA
  obtain ⟨hE,hF⟩:=Zrc (w1.alloc (.cells #[.slice A1 n1 C1,.slice A2 n2 C2,.slice A3 n3 C3,.bool wh] 95)) 2 (g:=w1.heap.size + 1) (by simp)
  exact bodyPost_ret (v:=.tuple #[.slice (some ⟨w1.heap.size + 1,0,none⟩) 0 0,.bool false]) (by simp [results,Tryz.results36,go_sem]) rfl ⟨_,_,by rw [Hn.out];rfl,by rw [Hn.out];exact hE,hF.mono K3.size,K2⟩
set_option maxHeartbeats 8000000 in
theorem Zqs (cs:List Value) (x:Puzzle) (fp:List Nat) (v:Value) (tr:List Int) (ft:List Nat) (w:World) (h:Rp.rep w cs x fp) (hv:Rd w v tr ft) (hx:validPz x = true) (hp:patB x.points tr.length tr = true) (htl:tr.length<=1000) :
  Calls Tryz.prog 186 #[.agg cs.toArray,v] w fun e w'=>∃ u1 u2 f1 f2,e = .returned (.tuple #[u1,u2,.bool (bFrom x 3001 0 ([tr],[0])).isSome]) /\
   Rd w' u1 ((bFrom x 3001 0 ([tr],[0])).getD ([],[])).1 f1/\Rd w' u2 ((bFrom x 3001 0 ([tr],[0])).getD ([],[])).2 f2/\Fresh w.heap.size w' (f1 ++ f2)/\Only [] w w':=by
 have h0:=h
 obtain ⟨v2,rfl,p0,p1,h2⟩:=h
 obtain ⟨A2,C2,_,_,rfl,-,-⟩:=h2.open_
 obtain ⟨a,cap,rfl,Iv⟩:=hv.ints
 obtain ⟨g1,g2,g3,g4⟩:=Zae hx
 clear Iv p0 p1
 have Hp:=zH hp
 have Hx:=zH hx
 clear hp hx
 have X0:Blk (w.alloc (.cells #[.int .i64 x.points,.string x.names,.slice A2 x.moves.length C2] 26)) w.heap.size [.int .i64 x.points,.string x.names,.slice A2 x.moves.length C2]:=Blk.new w _ _
 obtain ⟨R,hR⟩:∃ R,R = bFrom x 3001 0 ([tr],[0]):=⟨_,rfl⟩
 rw [<- hR]
 have HR:=zH hR
 clear hR
 have hmm:=@run_makeMap Tryz.prog
 go_enter Tryz.func186,Tryz.ntmps186
 have hkl:(kB tr).size<=maxLen:=by rw [kB_size];unfold maxLen;omega
 go_upto_region 3 with (first
  | (go_at_call 175;(with_reducible refine (Zrf _ tr _ _ (zK hv zA) (by omega)).mono ?_);rintro e w1 ⟨u1,f1,rfl,r1,F1,t1⟩;obtain ⟨a1,c1,rfl,I1⟩:=r1.ints;clear I1;have hz1:=t1.size;simp at hz1;have hM:=MpB.made ((w1.alloc (.cells #[.slice a1 tr.length c1] 27)).alloc (.cells #[.int .i64 0] 2)) (M:=w1.heap.size + 1 + 1) (by simp))
  | (go_at_call 129;(with_reducible refine (Zbe _ tr _ _ (zK hv zA) htl).mono ?_);rintro e w2 ⟨rfl,t2⟩;obtain ⟨w3,hrun3,hM3,hO3⟩:=(hM.keep t2).run_put hkl true (by unfold maxLen;omega))
  | fail)
 have X3:Blk w3 w.heap.size [.int .i64 x.points,.string x.names,.slice A2 x.moves.length C2]:=(((((X0.keep t1).keep ((Only.refl [] _).alloc _)).keep ((Only.refl [] _).alloc _)).keep ((Only.refl [] _).alloc _)).keep t2).only hO3 (by simp;omega)
 have K2:Only [] w w2:=zA
 have K3:Only [] w w3:=K2.then_ hO3 (by intro b hb hl;simp at hb;omega)
 have hz2:=t2.size
 simp at hz2
 have hz3:=hO3.size
 have hf1:∀ g∈f1,w.heap.size < g/\g < w1.heap.size:=fun g hg=>⟨by have:=F1.ge g hg;simp at this;omega,F1.lt g hg⟩
 have kk:Only [] (w1.alloc (.cells #[.slice a1 tr.length c1] 27)) w2:=((((Only.refl [] _).alloc _).alloc _)).trans t2
 have kk2:Only [] ((w1.alloc (.cells #[.slice a1 tr.length c1] 27)).alloc (.cells #[.int .i64 0] 2)) w2:=((Only.refl [] _).alloc _).trans t2
 have P0:∀ W:World,W = w3->PBf x tr.length w w3.heap.size w3 (w1.heap.size + 1 + 1) [tr] [0] W (.slice (some ⟨w1.heap.size,0,none⟩) 1 1) (.slice (some ⟨w1.heap.size + 1,0,none⟩) 1 1) [f1] [[]]:=by
  rintro W rfl
  have hA1:=((Acc.one w.heap.size 27 (cs:=[.slice a1 tr.length c1]) r1 rfl (by omega)).keep kk)
  have hA2:=((Acc.one (α:=Int) (w:=w1.alloc (.cells #[.slice a1 tr.length c1] 27)) w.heap.size 2 (cs:=[.int .i64 0]) (x:=(0:Int)) (fp:=[]) (int_rd _ (by unfold I64;omega)) (g:=w1.heap.size + 1) (by simp) (by omega)).keep kk2)
  have hFr:Fresh w.heap.size w2 [f1].flatten:=by
   have:=(F1.mono (B':=w.heap.size) (by simp)).keep (((Only.refl [] w1).alloc (.cells #[.slice a1 tr.length c1] 27)).trans kk)
   simpa using this
  refine ⟨hA1.only hO3 (fun b hb hm=>?_) (fun g hg hm=>?_),hA2.only hO3 (fun b hb hm=>by simp at hb) (fun g hg hm=>?_),hFr.only hO3 (fun b hb hm=>?_),?_,rfl,by simp,by simpa using Hp.out,by simp,?_,⟨by simp [Value.ownBlock];omega,?_⟩,?_,fun _ _=>rfl,K3,Nat.le_refl _,by omega,Nat.le_refl _⟩
  ·have:=hf1 b (by simpa using hb);simp at hm;omega
  ·simp [Value.ownBlock] at hg;simp at hm;omega
  ·simp [Value.ownBlock] at hg;simp at hm;omega
  ·have:=hf1 b (by simpa using hb);simp at hm;omega
  ·exact hM3.congr fun s=>by rw [show (if s = kB tr then true else false) = (if s = kB tr then true else metB [] s) from rfl,Zoj,List.nil_append]
  ·intro g hg
   simp only [Value.ownBlock,Option.some.injEq] at hg
   subst hg
   refine ⟨by simp [Value.ownBlock],fun hm=>?_,by omega⟩
   have:=hf1 _ (by simpa using hm);omega
  ·intro hm
   have:=hf1 _ (by simpa using hm);omega
  ·rintro g (rfl | hg | hg)
   ·omega
   ·simp [Value.ownBlock] at hg;omega
   ·simp [Value.ownBlock] at hg;omega
 obtain ⟨b1,hb1⟩:∃ b1,b1 = w1.heap.size:=⟨_,rfl⟩
 rw [<- hb1] at P0 hM3 ⊢
 clear kk kk2 hz2 hz1 hf1 r1 F1 t1 t2 hM hO3 hM3 X0 hb1 K2 hrun3
 have hll:(ltrs x.moves.length).length<=1000:=by rw [Zel];omega
 have hmv:∀ g∈x.moves,PM.IsP g/\g.length<=1000:=fun g hg=>by have:=g4 g hg;have:=(Zce.1 this.2);exact ⟨this.2,by omega⟩
 have x0:=X3.cell 2 rfl
 go_upto_region 5 with (first
  | (go_at_call 141;(with_reducible refine (Zgq x.moves.length _ (by omega)).mono ?_);rintro e w4 ⟨u4,f4,rfl,r4,F4,t4⟩;obtain ⟨a4,c4,rfl,I4⟩:=r4.ints)
  | fail)
 have K4:Only [] w w4:=K3.trans t4
 have X4:=X3.keep t4
 obtain ⟨ls,hls⟩:∃ ls,ls = ltrs x.moves.length:=⟨_,rfl⟩
 rw [<- hls] at r4 I4 hll
 rw [<- hls]
 have Hls:=zH hls
 have hml:x.moves.length<=1000:=by omega
 obtain ⟨iL,hiL,hL0,hL1,hL2⟩:=info_parts Tryz.info22
 obtain ⟨iD,hiD,hD0,hD1,hD2⟩:=info_parts Tryz.info2
 clear hls x0
 go_loopw [10,31] (fun o i wr=>∃ (j:Nat) (fs:List (List Nat)),j<=ls.length/\i = .int .i64 j/\Acc w4.heap.size 27 wr o ((ls.take j).map (mv x.moves)) fs/\(∀ b∈fs.flatten,b < w.heap.size\/w4.heap.size<=b)/\Only [] w4 wr)
  (fun _ i _=>ls.length - (intOf i).toNat)
 case atStart=>exact ⟨0,[],Nat.zero_le _,rfl,Acc.nil _ _ _,by simp,Only.refl _ _⟩
 case round=>
  obtain ⟨W2,hnew⟩:∃ W,W = wr:=⟨_,rfl⟩
  subst hnew
  obtain ⟨j,fs,hj,rfl,hA,hF,hK⟩:=hrel
  by_cases hlt:j < ls.length
  ·obtain ⟨b,off,rfl,-,hc0⟩:=I4.at_ j hlt
   have hc:=hK.cell (by simp) hc0
   have hlj:ls[j]∈ltrs x.moves.length:=by rw [<- Hls.out];exact List.getElem_mem hlt
   have Hlj:=zH hlj
   have x0:=(X4.keep hK).cell 2 rfl
   have hh2:=zK h2 (K4.trans hK)
   have hsn:(ls.take (j + 1)).map (mv x.moves) = (ls.take j).map (mv x.moves) ++ [mv x.moves ls[j]]:=by rw [Zab ls j hlt,List.map_append];rfl
   have Hsn:=zH hsn
   have hzK:=hK.size
   have hzw:=K4.size
   clear hlj hsn hc0
   have hal:((ls.take j).map (mv x.moves)).length + 1<=1073741824:=by simp;omega
   go_wp2_with (first
    | (go_at_call 125;(with_reducible refine (Zgr (.slice A2 x.moves.length C2) x.moves ls[j] _ _ (zK hh2 zA) hmv Hlj.out hml).mono ?_);rintro e w5 ⟨u5,f5,rfl,r5,F5,t5⟩;obtain ⟨a5,c5,rfl,I5⟩:=r5.ints;clear I5;have hB5:w4.heap.size<=W2.heap.size:=hzK;have hf5:∀ b∈f5,b < w.heap.size\/W2.heap.size<=b:=(fun b hb=>(F5 b hb).imp (fun hm=>Rp.lt h2 b hm) id);have hr5:=zK r5 ((Only.refl [] w5).alloc (.cells #[.slice a5 (mv x.moves ls[j]).length c5] 27));have hapb:∀ b∈f5,u10.ownBlock ≠ some b:=(fun b hb he=>by have:=hA.ownlt b he;rcases hf5 b hb with h9 | h9 <;> omega))
    | (at_builtin;refine Zbt rfl _ _ 24 rfl w4.heap.size 27 iL _ 24 Tryz.underlying24 hiL hL0 hL1 hL2 rfl (by decide) (by decide) W2 _ ((ls.take j).map (mv x.moves)) fs rfl hA (t5.alloc _) hB5 w5.heap.size 1 [.slice a5 (mv x.moves ls[j]).length c5] (mv x.moves ls[j]) f5 rfl (lit_src w5 [.slice a5 (mv x.moves ls[j]).length c5] _ rfl) (by intro u hu;simp at hu;subst hu;rfl) hr5 hapb hal ?_;intro v9 w9 hA9 hO9 hP9 hQ9 hN9)
    | fail)
   go_roundw
   case rel=>exact ⟨j + 1,_,by omega,by go_num,by rw [Hsn.out];exact hA9,fun b hb=>by
    rw [List.flatten_append] at hb
    rcases List.mem_append.1 hb with hb | hb
    ·exact hF b hb
    ·exact (hf5 b (by simpa using hb)).imp id (fun h9=>by omega),hP9 w4 ((hK.trans t5).alloc _) (Nat.le_refl _)⟩
   case measure=>simp [intOf];omega
  ·obtain rfl:j = ls.length:=by omega
   rw [List.take_length] at hA
   obtain ⟨mvs,hmvs⟩:∃ mvs,mvs = ls.map (mv x.moves):=⟨_,rfl⟩
   rw [<- hmvs] at hA
   have Hmvs:=zH hmvs
   have hml2:mvs.length = ls.length:=by rw [hmvs,List.length_map]
   have hm1:mvs.length<=1000:=by omega
   have Hml2:=zH hml2
   have hMr:=hA.rd (by decide)
   have hMf:∀ g∈u10.ownBlock.toList ++ fs.flatten,g < w.heap.size\/(w3.heap.size<=g/\g < W2.heap.size):=fun g hg=>by
    have hz5:=t4.size
    rcases List.mem_append.1 hg with hg | hg
    ·have:=hA.ownlt g (by simpa using hg);omega
    ·have h8:=hA.lt g hg
     rcases hF g hg with h9 | h9
     ·exact .inl h9
     ·omega
   have P5:=(P0 w3 rfl).start (t4.trans hK)
   obtain ⟨a10,c10,rfl⟩:=hA.form
   obtain ⟨fm,hfm⟩:∃ fm,fm = (Value.slice a10 mvs.length c10).ownBlock.toList ++ fs.flatten:=⟨_,rfl⟩
   rw [<- hfm] at hMr hMf
   have K5:=K4.trans hK
   clear hfm hA hF hK P0 hmvs hml2 hj hlt
   obtain ⟨W,hW⟩:∃ W,W = W2:=⟨_,rfl⟩
   rw [<- hW] at hMr hMf P5 K5 ⊢
   clear hW
   go_upto_region 10 with fail
   go_loopw [7,8,13] (fun o7 o8 i wr=>∃ (k:Nat) (L:List (List Int)) (D:List Int) (fs fd:List (List Nat)),i = .int .i64 k/\k<=L.length/\PBf x tr.length w w3.heap.size W (b1 + 1 + 1) L D wr o7 o8 fs fd/\R = bFrom x (3001 - k) k (L,D))
    (fun _ _ i _=>3001 - (intOf i).toNat)
   case atStart=>exact ⟨0,[tr],[0],_,_,rfl,by simp,P5,HR.out⟩
   case round=>
    obtain ⟨W3,hnew⟩:∃ W,W = wr:=⟨_,rfl⟩
    subst hnew
    obtain ⟨k,L,D,fs,fd,rfl,hk,hF,hRk⟩:=hrel
    have HRk:=zH hRk
    have hL3:=hF.ll
    clear hRk
    obtain ⟨a7,c7,rfl⟩:=hF.acc.form
    by_cases hlt:k < L.length
    ·have hst:=HRk.out.trans (Zhr hlt hL3)
     rw [<- Hls.out] at hst
     have Hst:=zH hst
     clear hst
     obtain ⟨q,hq⟩:∃ q,q = L.getD k []:=⟨_,rfl⟩
     obtain ⟨d1,hd1⟩:∃ d,d = D.getD k 0 + 1:=⟨_,rfl⟩
     rw [<- hq,<- hd1] at Hst
     have Hq:=zH hq.symm
     have Hd:=zH hd1.symm
     clear hq hd1
     go_wp2
     go_loopw [7,8,51] (fun o7 o8 i wr=>∃ (i':Nat) (L:List (List Int)) (D:List Int) (fs fd:List (List Nat)),i = .int .i64 i'/\i'<=mvs.length/\PBf x tr.length w w3.heap.size W (b1 + 1 + 1) L D wr o7 o8 fs fd/\k < L.length/\L.getD k [] = q/\D.getD k 0 + 1 = d1/\R = (bLets x q d1 (ls.drop i') (L,D)).bind (bFrom x (3001 - (k + 1)) (k + 1)))
      (fun _ _ i _=>mvs.length - (intOf i).toNat)
     case atStart=>exact ⟨0,L,D,fs,fd,rfl,Nat.zero_le _,hF,hlt,Hq.out,Hd.out,by rw [List.drop_zero];exact Hst.out⟩
     case round=>
      clear hL3 hF HRk Hst Hq Hd hlt hk
      obtain ⟨W4,hnew⟩:∃ W,W = wr:=⟨_,rfl⟩
      subst hnew
      obtain ⟨i,L,D,fs,fd,rfl,hi,hF,hlt,hq,hd,hRi⟩:=hrel
      have Hq:=zH hq
      have Hd:=zH hd
      have HRi:=zH hRi
      have hL3:=hF.ll
      have HDl:=zH hF.dl
      clear hq hd hRi
      have hMo:Rd W4 (.slice a10 mvs.length c10) mvs fm:=hF.old hMr hMf
      obtain ⟨a7',c7',rfl⟩:=hF.acc.form
      obtain ⟨a8,c8,rfl⟩:=hF.dep.form
      by_cases hil:i < mvs.length
      ·have hq1:=hMo.open_
       obtain ⟨aq,cq,obq,fpq,hv1,-,hS1⟩:=hq1
       injection hv1 with e1 _ e2
       subst e1
       subst e2
       obtain ⟨bm,om,um,rfl,-,hcm,hum⟩:=hS1.atRow i hil
       have hq2:=(hF.acc.rd (by decide)).open_
       obtain ⟨aq,cq,obq,fpq,hv1,-,hS2⟩:=hq2
       injection hv1 with e1 _ e2
       subst e1
       subst e2
       obtain ⟨bl,ol,ul,rfl,-,hcl,hul⟩:=hS2.atRow k hlt
       have hil2:i < ls.length:=by have:=Hml2.out;omega
       have hmi:mvs[i] = mv x.moves ls[i]:=by simp [Hmvs.out]
       have hqk:L[k] = q:=by have:=Hq.out;rw [List.getD_eq_getElem?_getD,List.getElem?_eq_getElem hlt] at this;exact this
       have hla:ls[i]∈ltrs x.moves.length:=by rw [<- Hls.out];exact List.getElem_mem hil2
       have hpat:=hF.pat L[k] (List.getElem_mem hlt)
       rw [hqk] at hul hpat
       rw [hmi] at hum
       have hql:q.length<=1000:=by rw [(Zba.1 hpat).1];exact htl
       have hmp:=mv_pn (Zas Hx.out) hla
       have hrq:∀ z∈q,0<=z/\z < (mv x.moves ls[i]).length:=fun z hz=>by have:=(Zba.1 hpat).2.1 z hz;rw [hmp.1];omega
       have hps:patB x.points tr.length (nxt x q ls[i]) = true:=nxt_pat Hx.out hpat hla
       obtain ⟨s,hs⟩:∃ s,s = nxt x q ls[i]:=⟨_,rfl⟩
       rw [<- hs] at hps
       have hsl:s.length<=1000:=by rw [(Zba.1 hps).1];exact htl
       have hkz:(kB s).size<=maxLen:=by rw [kB_size];unfold maxLen;omega
       have hmet:metB L (kB s) = decide (s∈L):=Zvf (by omega) hF.pat hps
       have hdr:ls.drop i = ls[i] :: ls.drop (i + 1):=List.drop_eq_getElem_cons hil2
       have Hdr:=zH hdr
       have Hs:=zH hs
       have Hps:=zH hps
       have Hrq:=zH hrq
       have hcs:PM.comp q (mv x.moves ls[i]) = s:=by rw [hs];rfl
       have Hcs:=zH hcs
       clear hs hps hdr hrq hcs hmi hqk hla hpat hmp
       by_cases hmem:s∈L
       ·have hmt:metB L (kB s) = true:=by rw [hmet];simp [hmem]
        have Hmet:=zH hmt
        have Hmem:=zH hmem
        clear hmt hmet hmem
        go_wp2_with (first
         | (go_at_call 130;(with_reducible refine (Zgo um ul (mv x.moves ls[i]) q _ _ _ (zK hum zA) (zK hul zA) Hrq.out hql).mono ?_);rintro e w5 ⟨u5,f5,rfl,r5,F5,t5⟩;rw [Hcs.out] at r5)
         | (go_at_call 129;(with_reducible refine (Zbe u5 s _ _ (zK r5 zA) hsl).mono ?_);rintro e w6 ⟨rfl,t6⟩;have k6:Only [] W4 w6:=t5.trans t6;have hrun6:=(hF.mp.keep k6).run_at hkz;rw [Hmet.out] at hrun6)
         | fail)
        go_roundw
        case rel=>exact ⟨i + 1,L,D,fs,fd,by go_num,by omega,hF.only k6,hlt,Hq.out,Hd.out,by rw [HRi.out,Hdr.out,Zjc (by rw [<- Hs.out];exact Hmem.out)]⟩
        case measure=>simp [intOf];omega
       ·have hmt:metB L (kB s) = false:=by rw [hmet];simp [hmem]
        have Hmet:=zH hmt
        have Hmem:=zH hmem
        clear hmt hmet hmem
        by_cases hfull:L.length = 3000
        ·have Hfull:=zH hfull
         have hfb:((L.length:Int) == 3000) = true:=by simp [hfull]
         have hno:R = none:=by rw [HRi.out,Hdr.out,Zhx (by rw [<- Hs.out];exact Hmem.out) hfull];rfl
         have Hno:=zH hno
         clear hfull hno
         go_wp2_with (first
          | (go_at_call 130;(with_reducible refine (Zgo um ul (mv x.moves ls[i]) q _ _ _ (zK hum zA) (zK hul zA) Hrq.out hql).mono ?_);rintro e w5 ⟨u5,f5,rfl,r5,F5,t5⟩;rw [Hcs.out] at r5)
          | (go_at_call 129;(with_reducible refine (Zbe u5 s _ _ (zK r5 zA) hsl).mono ?_);rintro e w6 ⟨rfl,t6⟩;have k6:Only [] W4 w6:=t5.trans t6;have hrun6:=(hF.mp.keep k6).run_at hkz;rw [Hmet.out] at hrun6)
          | fail)
         refine bodyPost_ret (v:=.tuple #[.slice none 0 0,.slice none 0 0,.bool false]) (by simp [results,Tryz.results186,go_sem]) rfl ⟨.slice none 0 0,.slice none 0 0,[],[],by rw [Hno.out];rfl,by rw [Hno.out];exact nil_rd _,by rw [Hno.out];exact nil_rd _,Fresh.nil _ _,hF.on.trans k6⟩
        ·have hfb:((L.length:Int) == 3000) = false:=by simp;omega
         have hL4:L.length < 3000:=by omega
         clear hfull
         have hkD:k < D.length:=by have:=HDl.out;omega
         have hq3:=(hF.dep.rd (by decide)).ints
         obtain ⟨aq,cq,hv1,hI8⟩:=hq3
         injection hv1 with e1 _ e2
         subst e1
         subst e2
         obtain ⟨b8,o8,rfl,-,hcd⟩:=hI8.at_ k hkD
         obtain ⟨dk,hdk0⟩:∃ dk,dk = D[k]'hkD:=⟨_,rfl⟩
         have hdk:=hF.rng (D[k]'hkD) (List.getElem_mem _)
         rw [<- hdk0] at hcd hdk
         have hdd:dk + 1 = d1:=by
          have:=Hd.out
          rw [List.getD_eq_getElem?_getD,List.getElem?_eq_getElem hkD] at this
          rw [hdk0];exact this
         have Hdd:=zH hdd
         have hdk1:0<=dk:=hdk.1
         have hdk2:dk<=3000:=by have:=hdk.2;have:=HDl.out;omega
         have hdk3:=hdk.2
         have Hdk3:=zH hdk3
         have hw1:IntKind.i64.wrap (dk + 1) = dk + 1:=by rw [IntKind.wrap_i64];omega
         have ha2:=hF.a2 b8 rfl
         have hb8M:b8 ∉ [b1 + 1 + 1]:=by simpa using ha2.2.2
         have hb8l:b8 ∉ (Value.slice (some ⟨bl,ol,none⟩) L.length c7').ownBlock.toList:=by have:=ha2.1;simpa using this
         have hM7:b1 + 1 + 1 ∉ (Value.slice (some ⟨bl,ol,none⟩) L.length c7').ownBlock.toList:=by have:=hF.a1.1;simpa using this
         clear hdk hdk0 hdd hdk3
         have hll1:L.length + 1<=1073741824:=by omega
         have hld1:D.length + 1<=1073741824:=by have:=HDl.out;omega
         have hBW:w.heap.size<=W4.heap.size:=hF.on.size
         have hMl:=hF.mp.lt
         have hI1:I64 (dk + 1):=by unfold I64;omega
         have HI1:=zH hI1
         clear hI1
         go_wp2_with (first
          | (go_at_call 130;(with_reducible refine (Zgo um ul (mv x.moves ls[i]) q _ _ _ (zK hum zA) (zK hul zA) Hrq.out hql).mono ?_);rintro e w5 ⟨u5,f5,rfl,r5,F5,t5⟩;rw [Hcs.out] at r5;obtain ⟨a5,c5,rfl,I5⟩:=r5.ints;clear I5)
          | (go_at_call 129;(with_reducible refine (Zbe (.slice a5 s.length c5) s _ _ (zK r5 zA) hsl).mono ?_);rintro e w6 ⟨rfl,t6⟩;have k6:Only [] W4 w6:=t5.trans t6;have hrun6:=(hF.mp.keep k6).run_at hkz;rw [Hmet.out] at hrun6;obtain ⟨w7,hrun7,hM7,hO7⟩:=(hF.mp.keep k6).run_put hkz true (by unfold maxLen;omega);have hcd7:=hO7.cell hb8M (k6.cell (by simp) hcd);have acc7:=(hF.acc.keep k6).only hO7 (fun b hb hm=>hF.a1.2 (by simp at hm;rwa [<- hm])) (fun g hg hm=>hF.a1.1 (by simp at hm;rw [<- hm];exact hg));have dep7:=(hF.dep.keep k6).only hO7 (fun b hb hm=>by rw [hF.fd0] at hb;cases hb) (fun g hg hm=>(hF.a2 g hg).2.2 (by simpa using hm));have hf5M:∀ b∈f5,b ∉ [b1 + 1 + 1]:=(fun b hb hm=>by have:=F5.ge b hb;simp at hm;omega);have r7:=Rp.only (zK r5 t6) hO7 hf5M;have hs7:=hO7.size;have hs6:=k6.size;have r8:=zK r7 ((Only.refl [] w7).alloc (.cells #[.slice a5 s.length c5] 27));have hap8:∀ b∈f5,(Value.slice (some ⟨bl,ol,none⟩) L.length c7').ownBlock ≠ some b:=(fun b hb he=>by have:=F5.ge b hb;have:=(hF.acc.ownlt b he).2;omega);have hB7:w.heap.size<=w7.heap.size:=(by omega))
          | (at_builtin;refine Zbt rfl _ _ 24 rfl w.heap.size 27 iL _ 24 Tryz.underlying24 hiL hL0 hL1 hL2 rfl (by decide) (by decide) w7 (.slice (some ⟨bl,ol,none⟩) L.length c7') L fs rfl acc7 ((Only.refl [] w7).alloc _) hB7 w7.heap.size 1 [.slice a5 s.length c5] s f5 rfl (lit_src w7 [.slice a5 s.length c5] _ rfl) (by intro u hu;simp at hu;subst hu;rfl) r8 hap8 hll1 ?_;intro v9 w9 hA9 hO9 hP9 hQ9 hN9;have hcd9:=hO9.cell hb8l (((Only.refl [] w7).alloc _).cell (by simp) hcd7);have dep9:=(dep7.keep ((Only.refl [] w7).alloc _)).only hO9 (fun b hb hm=>by rw [hF.fd0] at hb;cases hb) (fun g hg hm=>(hF.a2 g hg).1 (by simpa using hm));have hs9:=hO9.size;have hB9:w.heap.size<=w9.heap.size:=(by simp at hs9;omega))
          | (at_builtin;refine Zbt rfl _ _ 27 rfl w.heap.size 2 iD _ 8 Tryz.underlying27 hiD hD0 hD1 hD2 rfl (by decide) (by decide) w9 (.slice (some ⟨b8,o8,none⟩) D.length c8) D fd rfl dep9 ((Only.refl [] w9).alloc _) hB9 w9.heap.size 1 [.int .i64 (dk + 1)] (dk + 1) [] rfl (lit_src w9 [.int .i64 (dk + 1)] _ rfl) (by intro u hu;simp at hu;subst hu;rfl) (int_rd _ HI1.out) (by simp) hld1 ?_;intro v10 w10 hA10 hO10 hP10 hQ10 hN10)
          | fail)
         have hFF:Fresh w.heap.size w9 (fs ++ [f5]).flatten:=by
          have g1:=(Fresh.append (hF.fr.keep t5) F5 hBW (fun b hb=>hF.fr.lt b hb)).keep t6
          have g2:=g1.only hO7 (fun b hb hm=>by
           rcases List.mem_append.1 hb with hb | hb
           ·exact hF.a1.2 (by simp at hm;rwa [<- hm])
           ·exact hf5M b hb hm)
          have g3:=(g2.keep ((Only.refl [] w7).alloc (.cells #[.slice a5 s.length c5] 27))).only hO9 (fun b hb hm=>by
           rcases List.mem_append.1 hb with hb | hb
           ·exact hF.acc.apart b (by simpa using hm) hb
           ·exact hap8 b hb (by simpa using hm))
          simpa using g3
         have hStep:=PBf.step (d:=d1) hF hL4 Hps.out (by have:=Hdd.out;have:=Hdk3.out;omega) (hM7.congr fun z=>Zoj L s z) ((Only.weaken k6 _).trans hO7) ((Only.refl [] w7).alloc _) hA9 hO9 hN9 hFF (fun hm=>hf5M _ hm (by simp)) (fun g hg=>.inl (F5.ge g hg)) ((Only.refl [] w9).alloc _) (by rw [<- Hdd.out];exact hA10) hO10 hN10
         go_roundw
         case rel=>exact ⟨i + 1,L ++ [s],D ++ [d1],_,_,by go_num,by omega,hStep,by simp;omega,by rw [Zcn hlt];exact Hq.out,by rw [Zcn hkD];exact Hd.out,by rw [HRi.out,Hdr.out,Zjf (by rw [<- Hs.out];exact Hmem.out) (by omega),<- Hs.out]⟩
         case measure=>simp [intOf];omega
      ·obtain rfl:i = mvs.length:=by omega
       have hend:R = bFrom x (3001 - (k + 1)) (k + 1) (L,D):=by rw [HRi.out,Hml2.out,List.drop_length];rfl
       have Hend:=zH hend
       clear hend
       go_wp2
       exact ⟨⟨k + 1,L,D,fs,fd,by go_num,by omega,hF,Hend.out⟩,by simp [intOf];omega⟩
    ·obtain rfl:k = L.length:=by omega
     have hend:R = some (L,D):=by rw [HRk.out,Zja hlt hL3]
     have Hend:=zH hend
     clear hend
     obtain ⟨o1,o2,o3⟩:=hF.out
     go_wp2
     refine bodyPost_ret (v:=.tuple #[.slice a7 L.length c7,u8,.bool true]) (by simp [results,Tryz.results186,go_sem]) rfl ⟨_,_,_,_,by rw [Hend.out];rfl,by rw [Hend.out];exact o1,by rw [Hend.out];exact o2,o3,hF.on⟩
set_option maxHeartbeats 1000000 in
theorem Zec (cs:List Value) (x:Puzzle) (fp:List Nat) (v:Value) (l:List Int) (f2:List Nat) (w:World) (h:Rp.rep w cs x fp) (h2:Rd w v l f2) :
  Calls Tryz.prog 185 #[.agg cs.toArray,v] w fun e w'=>e = .returned (.bool (validPz x && trackB x.points l))/\Only [] w w':=by
 have h0:=h
 obtain ⟨v2,rfl,p0,p1,hm⟩:=h
 rcases hq:validPz x
 ·go_enter Tryz.func185,Tryz.ntmps185
  go_wp2_with ((go_at_call 44;(with_reducible refine (Zao [.int .i64 x.points,.string x.names,v2] x _ _ (zK h0 zA)).mono ?_);rintro e w1 ⟨he,t1⟩;rw [hq] at he;subst he))
  go_ret
  exact ⟨rfl,zA⟩
 obtain ⟨g1,g2,g3,g4⟩:=Zae hq
 have hB:=Blk.new_at (w:=w) (cs:=[.int .i64 x.points,.string x.names,v2]) (t:=26) rfl
 go_enter Tryz.func185,Tryz.ntmps185
 go_wp2_with (first | (go_at_call 44;(with_reducible refine (Zao [.int .i64 x.points,.string x.names,v2] x _ _ (zK h0 zA)).mono ?_);rintro e w1 ⟨he,t1⟩;rw [hq] at he;subst he;have y0:=(hB.keep t1).cell 0 rfl) | (go_at_call 191;(with_reducible refine (Zpo x.points v l _ _ (zK h2 zA) (by omega) (by omega)).mono ?_);rintro e w2 ⟨rfl,m2,rfl⟩))
 go_ret
 exact ⟨rfl,zA⟩
set_option maxHeartbeats 2000000 in
theorem Zfm (cs:List Value) (x:Puzzle) (fp:List Nat) (v:Value) (tr:List Int) (ft:List Nat) (w:World) (h:Rp.rep w cs x fp) (hv:Rd w v tr ft) :
  Calls Tryz.prog 174 #[.agg cs.toArray,v] w fun e w'=>∃ u1 u2 f1 f2,e = .returned (.tuple #[u1,u2,.bool (bfs16 x tr).isSome]) /\
   Rd w' u1 ((bfs16 x tr).getD ([],[])).1 f1/\Rd w' u2 ((bfs16 x tr).getD ([],[])).2 f2/\Fresh w.heap.size w' (f1 ++ f2)/\Only [] w w':=by
 have h0:=h
 obtain ⟨v2,rfl,p0,p1,hm⟩:=h
 have X0:=Blk.new w [.int .i64 x.points,.string x.names,v2] 26
 simp only [List.toArray] at X0
 rcases hq:validPz x && trackB x.points tr
 ·have Hn:=zH (Zhj hq)
  have Hq:=zH hq
  clear hq
  go_enter Tryz.func174,Tryz.ntmps174
  go_wp2_with (first
   | (go_at_call 185;(with_reducible refine (Zec [.int .i64 x.points,.string x.names,v2] x _ _ tr _ _ (zK h0 zA) (zK hv zA)).mono ?_);rintro e w1 ⟨he,t1⟩;rw [Hq.out] at he;subst he)
   | fail)
  refine bodyPost_ret (v:=.tuple #[.slice none 0 0,.slice none 0 0,.bool false]) (by simp [results,Tryz.results174,go_sem]) rfl ⟨.slice none 0 0,.slice none 0 0,[],[],by rw [Hn.out];rfl,by rw [Hn.out];exact nil_rd _,by rw [Hn.out];exact nil_rd _,Fresh.nil _ _,zA⟩
 ·have Hn:=zH (Zdg hq)
  obtain ⟨q1,q2⟩:=(Bool.and_eq_true _ _).mp hq
  have Hq:=zH hq
  have Hv:=zH q1
  have Hp:=zH (Zea q2)
  have htl:tr.length<=1000:=by
   have h3:=(Zbi.1 q2).2.len
   have:=(Zae q1).2.1
   omega
  clear hq q1 q2
  go_enter Tryz.func174,Tryz.ntmps174
  go_wp2_with (first
   | (go_at_call 185;(with_reducible refine (Zec [.int .i64 x.points,.string x.names,v2] x _ _ tr _ _ (zK h0 zA) (zK hv zA)).mono ?_);rintro e w1 ⟨he,t1⟩;rw [Hq.out] at he;subst he;have X1:=X0.keep t1;obtain ⟨g0,g1,g2⟩:=X1.c3)
   | (go_at_call 186;(with_reducible refine (Zqs [.int .i64 x.points,.string x.names,v2] x _ _ tr _ _ (zK h0 zA) (zK hv zA) Hv.out Hp.out htl).mono ?_);rintro e w2 ⟨u1,u2,f1,f2,rfl,r1,r2,F2,t2⟩)
   | fail)
  have K2:Only [] w w2:=zA
  have hsz:=t1.size
  simp at hsz
  refine bodyPost_ret (v:=.tuple #[u1,u2,.bool (bFrom x 3001 0 ([tr],[0])).isSome]) (by simp [results,Tryz.results174,go_sem]) rfl ⟨u1,u2,f1,f2,by rw [Hn.out],by rw [Hn.out];exact r1,by rw [Hn.out];exact r2,F2.mono (by omega),K2⟩
set_option maxHeartbeats 4000000 in
theorem Zfc (cs:List Value) (x:Puzzle) (fp:List Nat) (v:Value) (tr:List Int) (ft:List Nat) (w:World) (h:Rp.rep w cs x fp) (hv:Rd w v tr ft) (htl:tr.length<=2097152) :
  Calls Tryz.prog 155 #[.agg cs.toArray,v] w fun e w'=>∃ cs' fp',e = .returned (.tuple #[.agg (List.toArray cs'),.bool (bTab x tr).isSome])/\Rp.rep w' cs' ((bTab x tr).getD noTab) fp'/\Fresh w.heap.size w' fp'/\Only [] w w':=by
 have h0:=h
 obtain ⟨v2,rfl,p0,p1,h2⟩:=h
 obtain ⟨A2,C2,_,_,rfl,-,-⟩:=h2.open_
 obtain ⟨a,cap,rfl,Iv⟩:=hv.ints
 clear Iv h2 p0 p1
 have X0:Blk ((w.alloc (.cells #[.int .i64 x.points,.string x.names,.slice A2 x.moves.length C2] 26)).alloc (.cells #[.slice none 0 0,.slice none 0 0,.slice none 0 0] 105)) w.heap.size [.int .i64 x.points,.string x.names,.slice A2 x.moves.length C2]:=(Blk.new w [.int .i64 x.points,.string x.names,.slice A2 x.moves.length C2] 26).keep (zO.alloc _)
 have Y0:Blk ((w.alloc (.cells #[.int .i64 x.points,.string x.names,.slice A2 x.moves.length C2] 26)).alloc (.cells #[.slice none 0 0,.slice none 0 0,.slice none 0 0] 105)) (w.heap.size + 1) [.slice none 0 0,.slice none 0 0,.slice none 0 0]:=Blk.new_at (by simp)
 obtain ⟨x0,x1,x2⟩:=X0.c3
 rcases hq:bfs16 x tr with _ | s
 ·have Hq:=zH hq
  have hb:bTab x tr = none:=by unfold bTab;rw [hq];rfl
  have Hb:=zH hb
  clear hq hb
  go_enter Tryz.func155,Tryz.ntmps155
  go_wp2_with (first
   | (go_at_call 174;(with_reducible refine (Zfm [.int .i64 x.points,.string x.names,.slice A2 x.moves.length C2] x _ _ tr _ _ (zK h0 zA) (zK hv zA)).mono ?_);rintro e w2 ⟨u1,u2,f1,f2,he,r1,r2,F2,t2⟩;rw [Hq.out] at he;subst he;have Y1:=Y0.keep t2;obtain ⟨g0,g1,g2⟩:=Y1.c3;obtain ⟨p0,p1,p2⟩:=Y1.f3)
   | fail)
  have K2:Only [] w w2:=zA
  have Yf:=((Y1.set 0 (.slice none 0 0)).set 1 (.slice none 0 0)).set 2 (.slice none 0 0)
  have kf:=K2.then_ ((((Only.refl [w.heap.size + 1] w2).setCell (p:=⟨w.heap.size + 1,0,none⟩) (by simp) (.slice none 0 0)).setCell (p:=⟨w.heap.size + 1,1,none⟩) (by simp) (.slice none 0 0)).setCell (p:=⟨w.heap.size + 1,2,none⟩) (by simp) (.slice none 0 0)) (by simp)
  obtain ⟨wf,hwf⟩:∃ wf,wf = (((w2.setCell ⟨w.heap.size + 1,0,none⟩ (.slice none 0 0)).setCell ⟨w.heap.size + 1,1,none⟩ (.slice none 0 0)).setCell ⟨w.heap.size + 1,2,none⟩ (.slice none 0 0)):=⟨_,rfl⟩
  rw [<- hwf] at Yf kf ⊢
  simp only [List.set] at Yf
  clear hwf g0 g1 g2 p0 p1 p2
  obtain ⟨r0,r1,r2⟩:=Yf.c3
  refine bodyPost_ret (v:=.tuple #[.agg #[.slice none 0 0,.slice none 0 0,.slice none 0 0],.bool false]) (by simp [results,Tryz.results155,go_sem,r0,r1,r2]) rfl ⟨[.slice none 0 0,.slice none 0 0,.slice none 0 0],[],by rw [Hb.out];rfl,?_,Fresh.nil _ _,kf⟩
  rw [Hb.out]
  exact ⟨_,_,_,[],[],[],rfl,rfl,nil_rd _,nil_rd _,nil_rd _⟩
 ·have Hq:=zH hq
  have hb:bTab x tr = some ⟨tr,s.1,s.2⟩:=by unfold bTab;rw [hq];rfl
  have Hb:=zH hb
  clear hq hb
  go_enter Tryz.func155,Tryz.ntmps155
  go_wp2_with (first
   | (go_at_call 174;(with_reducible refine (Zfm [.int .i64 x.points,.string x.names,.slice A2 x.moves.length C2] x _ _ tr _ _ (zK h0 zA) (zK hv zA)).mono ?_);rintro e w2 ⟨u1,u2,f1,f2,he,r1,r2,F2,t2⟩;rw [Hq.out] at he r1 r2;subst he;simp only [Option.getD] at r1 r2;obtain ⟨a1,c1,ob,fps,rfl,e1,S1⟩:=r1.open_;obtain ⟨a2,c2,rfl,I2⟩:=r2.ints;have Y1:=Y0.keep t2)
   | (go_at_call 175;(with_reducible refine (Zrf _ tr _ _ (zK hv zA) (by omega)).mono ?_);rintro e w3 ⟨u3,f3,rfl,r3,F3,t3⟩;obtain ⟨a3,c3,rfl,I3⟩:=r3.ints;have Y2:=Y1.keep t3;obtain ⟨g0,g1,g2⟩:=Y2.c3;obtain ⟨p0,p1,p2⟩:=Y2.f3)
   | fail)
  have K2:Only [] w w2:=zA
  have K3:=K2.trans t3
  have hsz:=t2.size
  simp at hsz
  have F:=(F2.keep t3).append F3 t2.size (fun g hg=>F2.lt g hg)
  have hFg:∀ g∈(f1 ++ f2) ++ f3,g ∉ [w.heap.size + 1]:=fun g hg hm=>by have:=F.ge g hg;simp at this hm;omega
  have Yf:=((Y2.set 0 (.slice a3 tr.length c3)).set 1 (.slice a1 s.1.length c1)).set 2 (.slice a2 s.2.length c2)
  have kf:Only [w.heap.size + 1] w3 (((w3.setCell ⟨w.heap.size + 1,0,none⟩ (.slice a3 tr.length c3)).setCell ⟨w.heap.size + 1,1,none⟩ (.slice a1 s.1.length c1)).setCell ⟨w.heap.size + 1,2,none⟩ (.slice a2 s.2.length c2)):=((zO.setCell (by simp) _).setCell (by simp) _).setCell (by simp) _
  obtain ⟨wf,hwf⟩:∃ wf,wf = (((w3.setCell ⟨w.heap.size + 1,0,none⟩ (.slice a3 tr.length c3)).setCell ⟨w.heap.size + 1,1,none⟩ (.slice a1 s.1.length c1)).setCell ⟨w.heap.size + 1,2,none⟩ (.slice a2 s.2.length c2)):=⟨_,rfl⟩
  rw [<- hwf] at Yf kf ⊢
  simp only [List.set] at Yf
  clear hwf g0 g1 g2 p0 p1 p2
  obtain ⟨z0,z1,z2⟩:=Yf.c3
  have hP:((f1 ++ f2) ++ f3).Perm (f3 ++ (f1 ++ f2)):=List.perm_append_comm
  have hFf:=((F.mono (B':=w.heap.size) (by simp;omega)).only kf hFg)
  refine bodyPost_ret (v:=.tuple #[.agg #[.slice a3 tr.length c3,.slice a1 s.1.length c1,.slice a2 s.2.length c2],.bool true]) (by simp [results,Tryz.results155,go_sem,z0,z1,z2]) rfl ⟨[.slice a3 tr.length c3,.slice a1 s.1.length c1,.slice a2 s.2.length c2],f3 ++ (f1 ++ f2),by rw [Hb.out];rfl,?_,⟨hP.nodup hFf.nd,fun b hb=>hFf.ge b (hP.mem_iff.2 hb),hFf.own.sub fun b hb=>hP.mem_iff.2 hb⟩,K3.then_ kf (by simp)⟩
  rw [Hb.out]
  exact ⟨_,_,_,f3,f1,f2,rfl,rfl,Rp.only r3 kf (fun g hg=>hFg g (by simp [hg])),Rp.only (zK r1 t3) kf (fun g hg=>hFg g (by simp [hg])),Rp.only (zK r2 t3) kf (fun g hg=>hFg g (by simp [hg]))⟩
end Go.Proofs.YtjfmkolnleicnaaGreatDoor
