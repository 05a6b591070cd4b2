/- The reference's search of all states (laws 20, 38). -/
import Derived.Test.YtclhblofchfglaaGreatRowCompareSolversG9
import Derived.Test.YtclhblofchfglaaGreatRowCompareSolversG8
import Derived.Deep.DeepCutAuto
import Derived.Deep.RegionLaw
import Derived.Test.YtclhblofchfglaaGreatRowCompareSolversG10
import Derived.Test.YtclhblofchfglaaGreatRowCompareSolversG4
import Derived.Test.YtclhblofchfglaaGreatRowCompareSolversG7
import Derived.Laws.Bits64b
import Derived.Lib.AppendZeros
import Derived.Test.YtclhblofchfglaaGreatRowCompareSolversG5
namespace Go.Proofs.YtclhblofchfglaaGreat
open Go.RowKit
set_option maxRecDepth 10000
theorem Zss {x:Puzzle} (hv:validPz x = true) {wh:Bool} {L:List (List Int)} {D:List Int} (h:bFrom x 3001 0 ([PM.pts x.points.toNat],[0]) = if wh = true then some (L,D) else none):expl x = if wh = true then some ⟨PM.pts x.points.toNat,L,D⟩ else none:=by
 unfold expl bTab
 rw [Zcn (by rw [hv,Zet hv];rfl),h]
 cases wh <;> rfl
def SrF (B:Nat) (w:World) (x:Puzzle) (t:Table) (v:Value):Prop:=∃ A1 A2 A3 C1 C2 C3 so ob fps fd fz,v = .agg #[.slice A1 t.patterns.length C1,.slice A2 t.distances.length C2,.slice A3 (List.length so) C3,.bool true]/\SrR w A1 A2 A3 C1 C2 C3 t.patterns t.distances so ob fps fd fz/\Srt x.points.toNat t.patterns so/\∀ g∈(ob ++ fps.flatten) ++ (fd ++ fz),B<=g
theorem SrF.only {B:Nat} {w w':World} {x:Puzzle} {t:Table} {v:Value} {fp:List Nat} (h:SrF B w x t v) (ho:Only fp w w') (hd:∀ g∈fp,g < B):SrF B w' x t v:=by
 obtain ⟨A1,A2,A3,C1,C2,C3,so,ob,fps,fd,fz,h1,h2,h3,h4⟩:=h
 exact ⟨A1,A2,A3,C1,C2,C3,so,ob,fps,fd,fz,h1,h2.only ho (fun g hg hm=>by have:=h4 g hg;have:=hd g hm;omega),h3,h4⟩
theorem SrF.keep {B:Nat} {w w':World} {x:Puzzle} {t:Table} {v:Value} (h:SrF B w x t v) (ho:Only [] w w'):SrF B w' x t v:=h.only ho (by simp)
theorem SrF.mono {B B':Nat} {w:World} {x:Puzzle} {t:Table} {v:Value} (h:SrF B w x t v) (hB:B'<=B):SrF B' w x t v:=by
 obtain ⟨A1,A2,A3,C1,C2,C3,so,ob,fps,fd,fz,h1,h2,h3,h4⟩:=h
 exact ⟨A1,A2,A3,C1,C2,C3,so,ob,fps,fd,fz,h1,h2,h3,fun g hg=>Nat.le_trans hB (h4 g hg)⟩
def SS1 (W wx:World) (x:Puzzle) (s4:Value):Prop:=
 ∃ g A1 A2 A3 C1 C2 C3 wh L D so ob fps fd fz,s4 = .pointer (some ⟨g,0,none⟩)/\Blk wx g [.slice A1 (List.length L) C1,.slice A2 (List.length D) C2,.slice A3 (List.length so) C3,.bool wh]/\SrR wx A1 A2 A3 C1 C2 C3 L D so ob fps fd fz /\
  (expl x = if wh = true then some ⟨PM.pts x.points.toNat,L,D⟩ else none)/\Srt x.points.toNat L so/\(∀ g'∈(ob ++ fps.flatten) ++ (fd ++ fz),W.heap.size<=g')/\Only [] W wx/\W.heap.size<=g
section
variable {W w5:World} {x:Puzzle} {g:Nat} {A1 A2 A3:Option Addr} {C1 C2 C3:Nat} {wh:Bool} {L:List (List Int)} {D:List Int} {so:List Nat} {ob:List Nat} {fps:List (List Nat)} {fd fz:List Nat} {cs:List Value} {e:TypeId}
theorem SS1.of (hz:Blk w5 g cs) (hcs:cs.length = 4) (hK:Only [] W w5) (hr:SrR w5 A1 A2 A3 C1 C2 C3 L D so ob fps fd fz) (he:expl x = if wh = true then some ⟨PM.pts x.points.toNat,L,D⟩ else none) (hs:Srt x.points.toNat L so)
  (hb:∀ g'∈(ob ++ fps.flatten) ++ (fd ++ fz),W.heap.size<=g') (hg:∀ g'∈(ob ++ fps.flatten) ++ (fd ++ fz),g' ≠ g) (hW:W.heap.size<=g) :
  SS1 W ((((w5.setCell ⟨g,0,none⟩ (.slice A1 L.length C1)).setCell ⟨g,1,none⟩ (.slice A2 D.length C2)).setCell ⟨g,2,none⟩ (.slice A3 so.length C3)).setCell ⟨g,3,none⟩ (.bool wh)) x (.pointer (some ⟨g,0,none⟩)):=by
 have ho:Only [g] w5 ((((w5.setCell ⟨g,0,none⟩ (.slice A1 L.length C1)).setCell ⟨g,1,none⟩ (.slice A2 D.length C2)).setCell ⟨g,2,none⟩ (.slice A3 so.length C3)).setCell ⟨g,3,none⟩ (.bool wh)):=(((zO.setCell (by simp) _).setCell (by simp) _).setCell (by simp) _).setCell (by simp) _
 have hbk:=(((hz.set 0 (.slice A1 L.length C1)).set 1 (.slice A2 D.length C2)).set 2 (.slice A3 so.length C3)).set 3 (.bool wh)
 refine ⟨g,A1,A2,A3,C1,C2,C3,wh,L,D,so,ob,fps,fd,fz,rfl,?_,hr.only ho (fun b hm hq=>hg b hm (by simpa using hq)),he,hs,hb,hK.then_ ho (by intro b hm hl;simp at hm;omega),hW⟩
 obtain ⟨u0,u1,u2,u3,rfl⟩:∃ u0 u1 u2 u3,cs = [u0,u1,u2,u3]:=by
  match cs,hcs with
  | [u0,u1,u2,u3],_=>exact ⟨u0,u1,u2,u3,rfl⟩
 simpa only [List.set] using hbk
theorem SS1.of2 (hK:Only [] W w5) (hr:SrR w5 A1 A2 A3 C1 C2 C3 L D so ob fps fd fz) (he:expl x = if wh = true then some ⟨PM.pts x.points.toNat,L,D⟩ else none) (hs:Srt x.points.toNat L so)
  (hb:∀ g'∈(ob ++ fps.flatten) ++ (fd ++ fz),W.heap.size<=g') (hg:g = w5.heap.size) :
  SS1 W (w5.alloc (.cells #[.slice A1 L.length C1,.slice A2 D.length C2,.slice A3 so.length C3,.bool wh] e)) x (.pointer (some ⟨g,0,none⟩)):=by
 subst hg
 have ho:Only [] w5 (w5.alloc (.cells #[.slice A1 L.length C1,.slice A2 D.length C2,.slice A3 so.length C3,.bool wh] e)):=zO.alloc _
 exact ⟨_,A1,A2,A3,C1,C2,C3,wh,L,D,so,ob,fps,fd,fz,rfl,Blk.new w5 [.slice A1 L.length C1,.slice A2 D.length C2,.slice A3 so.length C3,.bool wh] e,hr.keep ho,he,hs,hb,hK.trans ho,hK.size⟩
end
set_option maxHeartbeats 4000000 in
theorem Zfr (cs:List Value) (x:Puzzle) (fp:List Nat) (w:World) (h:Rp.rep w cs x fp) :
  Calls Tryz.prog 109 #[.agg cs.toArray] w fun e w'=>((expl x = none/\∃ A1 n1 C1 A2 n2 C2 A3 n3 C3 wh, e = .returned (.tuple #[.agg #[.slice A1 n1 C1,.slice A2 n2 C2,.slice A3 n3 C3,.bool wh],.bool false]))\/(∃ t,expl x = some t/\∃ v,e = .returned (.tuple #[v,.bool true])/\SrF w.heap.size w' x t v))/\Only [] w w':=by
 have h0:=h
 obtain ⟨v2,rfl,p0,p1,h2⟩:=h
 obtain ⟨A2,C2,_,_,rfl,-,-⟩:=h2.open_
 clear h2 p0 p1
 have X0:Blk ((w.alloc (.cells #[.int .i64 x.points,.string x.names,.slice A2 x.moves.length C2] 33)).alloc (.cells #[.slice none 0 0,.slice none 0 0,.slice none 0 0,.bool false] 85)) w.heap.size [.int .i64 x.points,.string x.names,.slice A2 x.moves.length C2]:=(Blk.new w [.int .i64 x.points,.string x.names,.slice A2 x.moves.length C2] 33).keep (zO.alloc _)
 have Y0:Blk ((w.alloc (.cells #[.int .i64 x.points,.string x.names,.slice A2 x.moves.length C2] 33)).alloc (.cells #[.slice none 0 0,.slice none 0 0,.slice none 0 0,.bool false] 85)) (w.heap.size + 1) [.slice none 0 0,.slice none 0 0,.slice none 0 0,.bool false]:=Blk.new_at (by simp)
 rcases hq:validPz x
 ·have Hn:=zH (Zng hq)
  have Hq:=zH hq
  clear hq
  go_enter Tryz.func109,Tryz.ntmps109
  go_wp2_with (first
   | (go_at_call 81;(with_reducible refine (Zaj [.int .i64 x.points,.string x.names,.slice A2 x.moves.length C2] x _ _ (zK h0 zA)).mono ?_);rintro e w1 ⟨he,t1⟩;rw [Hq.out] at he;subst he;have Y1:=Y0.keep t1;obtain ⟨g0,g1,g2,g3⟩:=Y1.c4;obtain ⟨p0,p1,p2,p3⟩:=Y1.f4)
   | fail)
  have K1:Only [] w w1:=zA
  have Yf:=(((Y1.set 0 (.slice none 0 0)).set 1 (.slice none 0 0)).set 2 (.slice none 0 0)).set 3 (.bool false)
  have kf:Only [] w ((((w1.setCell ⟨w.heap.size + 1,0,none⟩ (.slice none 0 0)).setCell ⟨w.heap.size + 1,1,none⟩ (.slice none 0 0)).setCell ⟨w.heap.size + 1,2,none⟩ (.slice none 0 0)).setCell ⟨w.heap.size + 1,3,none⟩ (.bool false)):=K1.then_ (((((Only.refl [w.heap.size + 1] w1).setCell (by simp) _).setCell (by simp) _).setCell (by simp) _).setCell (by simp) _) (by simp)
  obtain ⟨wf,hwf⟩:∃ wf,wf = ((((w1.setCell ⟨w.heap.size + 1,0,none⟩ (.slice none 0 0)).setCell ⟨w.heap.size + 1,1,none⟩ (.slice none 0 0)).setCell ⟨w.heap.size + 1,2,none⟩ (.slice none 0 0)).setCell ⟨w.heap.size + 1,3,none⟩ (.bool false)):=⟨_,rfl⟩
  rw [<- hwf] at Yf kf ⊢
  simp only [List.set] at Yf
  clear hwf g0 g1 g2 g3 p0 p1 p2 p3
  obtain ⟨r0,r1,r2,r3⟩:=Yf.c4
  exact bodyPost_ret (v:=.tuple #[.agg #[.slice none 0 0,.slice none 0 0,.slice none 0 0,.bool false],.bool false]) (by simp [results,Tryz.results109,go_sem,r0,r1,r2,r3]) rfl ⟨.inl ⟨Hn.out,_,_,_,_,_,_,_,_,_,_,rfl⟩,kf⟩
 ·have hf:=Zae hq
  obtain ⟨hp1,hp20,-,-⟩:=hf
  have Hq:=zH hq
  have hpt:=Zdq (Zet hq)
  have Hp:=zH hpt
  have hpl:(PM.pts x.points.toNat).length<=1000:=by rw [PM.pts_len];omega
  have Hpl:=zH hpl
  clear hq hpt hpl
  go_enter Tryz.func109,Tryz.ntmps109
  go_upto_region 3 with (first
   | (go_at_call 81;(with_reducible refine (Zaj [.int .i64 x.points,.string x.names,.slice A2 x.moves.length C2] x _ _ (zK h0 zA)).mono ?_);rintro e w1 ⟨he,t1⟩;rw [Hq.out] at he;subst he)
   | fail)
  have X1:=X0.keep t1
  have Y1:=Y0.keep t1
  have K1:Only [] w w1:=zA
  have hs1:w.heap.size + 2<=w1.heap.size:=by have:=t1.size;simp at this;omega
  obtain ⟨g0,g1,g2⟩:=X1.c3
  have ka:=(Only.refl [] w1).alloc (.cells #[.slice none 0 0,.slice none 0 0,.slice none 0 0,.bool false] 85)
  have ga0:=ka.cell (by simp) g0
  have ga1:=ka.cell (by simp) g1
  have ga2:=ka.cell (by simp) g2
  clear X0 Y0 t1
  have hc4:([.slice none 0 0,.slice none 0 0,.slice none 0 0,.bool false]:List Value).length = 4:=rfl
  go_cut [4] (fun s4 wx=>SS1 w1 wx x s4)
  case first=>
   go_region_law (first
    | (go_simp;go_at_call 156;(with_reducible refine (Zmd x.points _ (by omega) (by omega)).mono ?_);rintro e w5 ⟨v5,f5,rfl,r5,F5,t5⟩;have hz5:=t5.size;(try simp at hz5);have X5:=X1.keep ((by with_reducible repeat (first | exact Only.refl _ _ | assumption | refine Only.drew ?_ | refine Only.alloc ?_ _ | refine Only.trans ?_ (by assumption))):Only [] w1 w5);obtain ⟨q0,q1,q2⟩:=X5.c3;have kb:=(Only.refl [] w5).alloc (.cells #[.slice none 0 0,.slice none 0 0,.slice none 0 0,.bool false] 85);have qa0:=kb.cell (by simp) q0;have qa1:=kb.cell (by simp) q1;have qa2:=kb.cell (by simp) q2)
    | (go_simp;go_at_call 155;(with_reducible refine (Zhg [.int .i64 x.points,.string x.names,.slice A2 x.moves.length C2] x _ _ (PM.pts x.points.toNat) _ _ (zK h0 zA) (zK r5 zA) Hq.out Hp.out Hpl.out).mono ?_);rintro e w2 ⟨B1,B2,B3,D1,D2,D3,n3,wh,L,D,fL,fD,rfl,o1,o2,o3,t2,o4,o5,o6,o7,so,ob,fps,fd,fz,o8,o9,o10,o11⟩;have O3:=zH (Zss Hq.out o3);have O10:=zH o10;have O11:=zH o11;subst o8;clear o3 o10 o11 o1 o2 o4 o5 o6 o7;have hz2:=t2.size;(try simp at hz2);first
    | (have Z:=((Blk.new w1 [.slice none 0 0,.slice none 0 0,.slice none 0 0,.bool false] 85).keep t5).keep t2;obtain ⟨g0,g1,g2,g3⟩:=Z.c4;obtain ⟨p0,p1,p2,p3⟩:=Z.f4)
    | (have Z:=(((Blk.new w1 [.slice none 0 0,.slice none 0 0,.slice none 0 0,.bool false] 85).keep ((Only.refl [] _).drew)).keep t5).keep t2;obtain ⟨g0,g1,g2,g3⟩:=Z.c4;obtain ⟨p0,p1,p2,p3⟩:=Z.f4)
    | (have Z:=((Blk.new w5 [.slice none 0 0,.slice none 0 0,.slice none 0 0,.bool false] 85)).keep t2;obtain ⟨g0,g1,g2,g3⟩:=Z.c4;obtain ⟨p0,p1,p2,p3⟩:=Z.f4)
    | (have Z:=((Blk.new w5 [.slice none 0 0,.slice none 0 0,.slice none 0 0,.bool false] 85).keep ((Only.refl [] _).drew)).keep t2;obtain ⟨g0,g1,g2,g3⟩:=Z.c4;obtain ⟨p0,p1,p2,p3⟩:=Z.f4)
    | (have Z:=Blk.new w2 [.slice none 0 0,.slice none 0 0,.slice none 0 0,.bool false] 85;obtain ⟨g0,g1,g2,g3⟩:=Z.c4;obtain ⟨p0,p1,p2,p3⟩:=Z.f4))
    | fail)
   all_goals go_wp2_with fail
   all_goals go_meet
   all_goals have KK5:Only [] w1 w2:=(by with_reducible repeat (first | exact Only.refl _ _ | assumption | refine Only.drew ?_ | refine Only.alloc ?_ _ | refine Only.trans ?_ (by assumption)))
   all_goals have hK2:w1.heap.size<=w5.heap.size:=(by omega)
   all_goals have hbb:∀ g'∈(ob ++ fps.flatten) ++ (fd ++ fz),w1.heap.size<=g':=(fun g' hg'=>by have:=O11.out g' hg';first | omega | (simp at this;omega))
   all_goals have h10:=O10.out
   all_goals rw [PM.pts_len] at h10
   all_goals first
    | with_reducible exact SS1.of2 KK5 o9 O3.out h10 hbb rfl
    | with_reducible exact SS1.of Z hc4 KK5 o9 O3.out h10 hbb (fun g' hg' e'=>by have:=O11.out g' hg';first | omega | (simp at this;omega)) (by omega)
  case rest=>
   have q7:=hcut
   clear hcut
   obtain ⟨b,B1,B2,B3,D1,D2,D3,wh,L,D,so,ob,fps,fd,fz,rfl,B4,o9',o3,o10,o11,K3',hbw⟩:=q7
   have O3:=zH o3
   have O10:=zH o10
   have K3:=K1.trans K3'
   have Y1:=Y1.keep K3'
   have hne:b ≠ w.heap.size + 1:=by omega
   obtain ⟨c0,c1,c2,c3⟩:=B4.c4
   clear o3 o10 g0 g1 g2 ga0 ga1 ga2 ka
   obtain ⟨g0,g1,g2,g3⟩:=Y1.c4
   obtain ⟨p0,p1,p2,p3⟩:=Y1.f4
   have Yf:=(((Y1.set 0 (.slice B1 L.length D1)).set 1 (.slice B2 D.length D2)).set 2 (.slice B3 so.length D3)).set 3 (.bool wh)
   simp only [List.set] at Yf
   obtain ⟨r0,r1,r2,r3⟩:=Yf.c4
   have hno:∀ g∈(ob ++ fps.flatten) ++ (fd ++ fz),g ∉ [w.heap.size + 1]:=fun g hg hm=>by have:=o11 g hg;simp at hm;omega
   have hpost:∀ wf,Only [w.heap.size + 1] wc wf->(((expl x = none/\∃ A1 n1 C1 A2 n2 C2 A3 n3 C3 wh',(Ending.returned (.tuple #[.agg #[.slice B1 L.length D1,.slice B2 D.length D2,.slice B3 so.length D3,.bool wh],.bool wh]):Ending) = .returned (.tuple #[.agg #[.slice A1 n1 C1,.slice A2 n2 C2,.slice A3 n3 C3,.bool wh'],.bool false]))\/(∃ t,expl x = some t/\∃ v,(Ending.returned (.tuple #[.agg #[.slice B1 L.length D1,.slice B2 D.length D2,.slice B3 so.length D3,.bool wh],.bool wh]):Ending) = .returned (.tuple #[v,.bool true])/\SrF w.heap.size wf x t v))/\Only [] w wf):=fun wf ho=>by
    refine ⟨?_,K3.then_ ho (by simp)⟩
    have h3:=O3.out
    have h10:=O10.out
    cases wh with
    | false=>exact .inl ⟨by simpa using h3,_,_,_,_,_,_,_,_,_,_,rfl⟩
    | true=>exact .inr ⟨⟨PM.pts x.points.toNat,L,D⟩,by simpa using h3,_,rfl,B1,B2,B3,D1,D2,D3,so,ob,fps,fd,fz,rfl,o9'.only ho hno,h10,fun g hg=>Nat.le_trans K1.size (o11 g hg)⟩
   have Hpost:=zH hpost
   clear hpost
   go_wp2
   go_region
   all_goals go_wp2
   all_goals exact bodyPost_ret (v:=.tuple #[.agg #[.slice B1 L.length D1,.slice B2 D.length D2,.slice B3 so.length D3,.bool wh],.bool wh]) (by simp [results,Tryz.results109,go_sem,r0,r1,r2,r3]) rfl (Hpost.out _ (by with_reducible repeat (first | exact Only.refl _ _ | refine Only.drew ?_ | refine Only.setCell ?_ (by simp) _)))
theorem Zcj (A1 A2 A3:Option Addr) (C1 C2 C3:Nat) (wh:Bool) (L:List (List Int)) (D:List Int) (so:List Nat) (ob:List Nat) (fps:List (List Nat)) (fd fs:List Nat) (m:Nat) (v:Value) (s:List Int) (f:List Nat) (w:World)
  (h:SrR w A1 A2 A3 C1 C2 C3 L D so ob fps fd fs) (hS:Srt m L so) (hv:Rd w v s f) (hs:s.length = m) (hL:L.length<=3000) (i:Nat) (hi:i < L.length) (hg:L.getD i [] = s) (hnd:L.Nodup) :
  Calls Tryz.prog 126 #[.agg #[.slice A1 L.length C1,.slice A2 D.length C2,.slice A3 so.length C3,.bool wh],v] w fun e w'=>e = .returned (.int .i64 i)/\Only [] w w':=by
 refine (Zen A1 A2 A3 C1 C2 C3 wh L D so ob fps fd fs m v s f w h hS hv hs hL).mono ?_
 rintro e w' ⟨r,rfl,h1,h2,h3⟩
 have hm:s∈L:=by rw [<- hg,Zab hi];exact List.getElem_mem hi
 rcases h2 with rfl | ⟨k,rfl,hk,hg2⟩
 ·have:=h1.2 hm;omega
 ·rw [Zab hk] at hg2
  rw [Zab hi] at hg
  have:=Zdc hnd hk hi (hg2.trans hg.symm)
  subst this
  exact ⟨rfl,h3⟩
theorem Zcw (A1 A2 A3:Option Addr) (C1 C2 C3:Nat) (wh:Bool) (L:List (List Int)) (D:List Int) (so:List Nat) (ob:List Nat) (fps:List (List Nat)) (fd fs:List Nat) (m:Nat) (v:Value) (s:List Int) (f:List Nat) (w:World)
  (h:SrR w A1 A2 A3 C1 C2 C3 L D so ob fps fd fs) (hS:Srt m L so) (hv:Rd w v s f) (hs:s.length = m) (hL:L.length<=3000) (hn:s ∉ L) :
  Calls Tryz.prog 126 #[.agg #[.slice A1 L.length C1,.slice A2 D.length C2,.slice A3 so.length C3,.bool wh],v] w fun e w'=>e = .returned (.int .i64 (-1))/\Only [] w w':=by
 refine (Zen A1 A2 A3 C1 C2 C3 wh L D so ob fps fd fs m v s f w h hS hv hs hL).mono ?_
 rintro e w' ⟨r,rfl,h1,h2,h3⟩
 rcases h2 with rfl | ⟨k,rfl,hk,hg2⟩
 ·exact ⟨rfl,h3⟩
 ·exact absurd (h1.1 (by omega)) hn
def depT (t:Table) (s:List Int):Int:=if s∈t.patterns then atD t (idxL t.patterns s) else -1
theorem Zho {x:Puzzle} {t:Table} (hb:Built x t) {i:Nat} (hi:i < t.patterns.length):depT t (t.patterns.getD i []) = t.distances.getD i 0:=by
 unfold depT
 rw [if_pos (by rw [Zab hi];exact List.getElem_mem hi),hb.idx hi]
 unfold atD
 rw [Int.toNat_natCast]
theorem depT_no {t:Table} {s:List Int} (h:s ∉ t.patterns):depT t s = -1:=if_neg h
set_option maxHeartbeats 2000000 in
theorem Zeo (x:Puzzle) (t:Table) (v u:Value) (s:List Int) (f:List Nat) (w:World) {B:Nat} (h:SrF B w x t v) (hb:Built x t) (hu:Rd w u s f) (hs:s.length = x.points.toNat) :
  Calls Tryz.prog 134 #[v,u] w fun e w'=>e = .returned (.int .i64 (depT t s))/\Only [] w w':=by
 obtain ⟨A1,A2,A3,C1,C2,C3,so,ob,fps,fd,fz,rfl,hR,hS,-⟩:=h
 have hL:=hb.ll
 have hdl:t.distances.length = t.patterns.length:=hb.bi.dl
 have hnd:t.patterns.Nodup:=hb.bi.nd
 have HS:=zH hS
 have Hnd:=zH hnd
 have Hb:=zH hb
 have Hs:=zH hs
 have Hdl:=zH hdl
 clear hS hnd hb hs hdl
 have hB:=Blk.new w [.slice A1 t.patterns.length C1,.slice A2 t.distances.length C2,.slice A3 so.length C3,.bool true] 85
 by_cases hm:s∈t.patterns
 ·obtain ⟨i,hi,e⟩:=List.getElem_of_mem hm
  have hg:t.patterns.getD i [] = s:=by rw [Zab hi,e]
  have hd:=Zho Hb.out hi
  rw [hg] at hd
  have hid:i < t.distances.length:=by rw [Hdl.out];exact hi
  obtain ⟨b2,off2,rfl,-,hc0⟩:=hR.dp.at_ i hid
  have hdv:t.distances.getD i 0 = t.distances[i]:=Zab hid
  have Hd:=zH (hd.trans hdv)
  have Hg:=zH hg
  clear hm e hg hd hdv
  go_enter Tryz.func134,Tryz.ntmps134
  go_wp2_with (first
   | (go_at_call 126;(with_reducible refine (Zcj A1 (some ⟨b2,off2,none⟩) A3 C1 C2 C3 true t.patterns t.distances so ob fps fd fz x.points.toNat _ s f _ (hR.keep zA) HS.out (zK hu zA) Hs.out hL i hi Hg.out Hnd.out).mono ?_);rintro e w1 ⟨rfl,t1⟩;have y1:=(hB.keep t1).cell 1 rfl;have y2:=(((Only.refl [] w).alloc _).trans t1).cell (by simp) hc0)
   | fail)
  go_ret
  exact ⟨ret_int Hd.out.symm,zA⟩
 ·have Hd:=zH (depT_no hm)
  have Hm:=zH hm
  clear hm
  go_enter Tryz.func134,Tryz.ntmps134
  go_wp2_with (first
   | (go_at_call 126;(with_reducible refine (Zcw A1 A2 A3 C1 C2 C3 true t.patterns t.distances so ob fps fd fz x.points.toNat _ s f _ (hR.keep zA) HS.out (zK hu zA) Hs.out hL Hm.out).mono ?_);rintro e w1 ⟨rfl,t1⟩;have y1:=(hB.keep t1).cell 1 rfl)
   | fail)
  go_ret
  exact ⟨ret_int Hd.out.symm,zA⟩
theorem Zdy (cs:List Value) (x:Puzzle) (fp:List Nat) (w:World) (h:Rp.rep w cs x fp) (he:expl x = none) :
  Calls Tryz.prog 109 #[.agg cs.toArray] w fun e w'=>∃ A1 n1 C1 A2 n2 C2 A3 n3 C3 wh,e = .returned (.tuple #[.agg #[.slice A1 n1 C1,.slice A2 n2 C2,.slice A3 n3 C3,.bool wh],.bool false])/\Only [] w w':=by
 refine (Zfr cs x fp w h).mono ?_
 rintro e w' ⟨⟨-,A1,n1,C1,A2,n2,C2,A3,n3,C3,wh,rfl⟩ | ⟨t,h1,-⟩,ho⟩
 ·exact ⟨A1,n1,C1,A2,n2,C2,A3,n3,C3,wh,rfl,ho⟩
 ·rw [he] at h1;cases h1
theorem Zbe (cs:List Value) (x:Puzzle) (t:Table) (fp:List Nat) (w:World) (h:Rp.rep w cs x fp) (he:expl x = some t) :
  Calls Tryz.prog 109 #[.agg cs.toArray] w fun e w'=>∃ A1 n1 C1 A2 n2 C2 A3 n3 C3 wh,e = .returned (.tuple #[.agg #[.slice A1 n1 C1,.slice A2 n2 C2,.slice A3 n3 C3,.bool wh],.bool true])/\SrF w.heap.size w' x t (.agg #[.slice A1 n1 C1,.slice A2 n2 C2,.slice A3 n3 C3,.bool wh])/\Only [] w w':=by
 refine (Zfr cs x fp w h).mono ?_
 rintro e w' ⟨⟨h1,-⟩ | ⟨t',h1,v,rfl,h2⟩,ho⟩
 ·rw [he] at h1;cases h1
 ·rw [he] at h1
  injection h1 with h1
  subst h1
  have h3:=h2
  obtain ⟨A1,A2,A3,C1,C2,C3,so,ob,fps,fd,fz,rfl,-⟩:=h3
  exact ⟨_,_,_,_,_,_,_,_,_,_,rfl,h2,ho⟩
theorem Zti {x:Puzzle} {t:Table} {s:List Int} (ht:expl x = some t):distX x s = depT t s:=by
 rcases hr:reachB x s
 ·rw [Zhr hr,depT_no]
  intro hm
  rw [(Zak ht).1 hm] at hr;cases hr
 ·unfold distX depT
  rw [ht,if_pos ((Zak ht).2 hr)]
  show (if reachB x s = true then _ else _) = _
  rw [if_pos hr]
theorem Zsh {x:Puzzle} {s:List Int} (h:stateB x s = false):distX x s = -1:=Zhr (by unfold reachB;rw [h];rfl)
theorem store4 {w1:World} {r:Nat} {o0 o1 o2 o3:Value} (hR:Blk w1 r [o0,o1,o2,o3]) (a b c d:Value) :
  Blk ((((w1.setCell ⟨r,0,none⟩ a).setCell ⟨r,1,none⟩ b).setCell ⟨r,2,none⟩ c).setCell ⟨r,3,none⟩ d) r [a,b,c,d] /\
  Only [r] w1 ((((w1.setCell ⟨r,0,none⟩ a).setCell ⟨r,1,none⟩ b).setCell ⟨r,2,none⟩ c).setCell ⟨r,3,none⟩ d):=by
 refine ⟨?_,(((zO.setCell (by simp) _).setCell (by simp) _).setCell (by simp) _).setCell (by simp) _⟩
 exact (((hR.set 0 a).set 1 b).set 2 c).set 3 d
set_option maxHeartbeats 4000000 in
theorem Zdp (cs:List Value) (x:Puzzle) (fp:List Nat) (v:Value) (s:List Int) (fs:List Nat) (w:World) (h:Rp.rep w cs x fp) (hs:Rd w v s fs) :
  Calls Tryz.prog 83 #[.agg cs.toArray,v] w fun e w'=>∃ A1 n1 C1 A2 n2 C2 A3 n3 C3 wh,e = .returned (.tuple #[.agg #[.slice A1 n1 C1,.slice A2 n2 C2,.slice A3 n3 C3,.bool wh],.int .i64 (distX x s),.bool (decide (0<=distX x s))])/\(∀ t,expl x = some t->SrF w.heap.size w' x t (.agg #[.slice A1 n1 C1,.slice A2 n2 C2,.slice A3 n3 C3,.bool wh]))/\Only [] w w':=by
 have h0:=h
 obtain ⟨v2,rfl,p0,p1,h2⟩:=h
 clear p0 p1 h2
 have X0:Blk ((w.alloc (.cells #[.int .i64 x.points,.string x.names,v2] 33)).alloc (.cells #[.slice none 0 0,.slice none 0 0,.slice none 0 0,.bool false] 85)) w.heap.size [.int .i64 x.points,.string x.names,v2]:=(Blk.new w [.int .i64 x.points,.string x.names,v2] 33).keep (zO.alloc _)
 have Y0:Blk ((w.alloc (.cells #[.int .i64 x.points,.string x.names,v2] 33)).alloc (.cells #[.slice none 0 0,.slice none 0 0,.slice none 0 0,.bool false] 85)) (w.heap.size + 1) [.slice none 0 0,.slice none 0 0,.slice none 0 0,.bool false]:=Blk.new_at (by simp)
 rcases he:expl x with _ | t
 ·have Hn:=zH (Zhs (s:=s) he)
  have He:=zH he
  clear he
  go_enter Tryz.func83,Tryz.ntmps83
  go_wp2_with (first
   | (go_at_call 109;(with_reducible refine (Zdy [.int .i64 x.points,.string x.names,v2] x _ _ (zK h0 zA) He.out).mono ?_);rintro e w1 ⟨A1,n1,C1,A2,n2,C2,A3,n3,C3,wh,rfl,t1⟩;have Z:=Blk.new w1 [.slice none 0 0,.slice none 0 0,.slice none 0 0,.bool false] 85;obtain ⟨z0,z1,z2,z3⟩:=Z.c4;obtain ⟨zp0,zp1,zp2,zp3⟩:=Z.f4;have Y1:=(Y0.keep t1).keep ((Only.refl [] _).alloc (.cells #[.slice A1 n1 C1,.slice A2 n2 C2,.slice A3 n3 C3,.bool wh] 85));have U1:=Blk.new w1 [.slice A1 n1 C1,.slice A2 n2 C2,.slice A3 n3 C3,.bool wh] 85;obtain ⟨a0,a1,a2,a3⟩:=U1.c4;obtain ⟨g0,g1,g2,g3⟩:=Y1.c4;obtain ⟨p0,p1,p2,p3⟩:=Y1.f4)
   | fail)
  have K1:Only [] w (w1.alloc (.cells #[.slice A1 n1 C1,.slice A2 n2 C2,.slice A3 n3 C3,.bool wh] 85)):=zA
  obtain ⟨Yf,kf⟩:=store4 Y1 (.slice A1 n1 C1) (.slice A2 n2 C2) (.slice A3 n3 C3) (.bool wh)
  obtain ⟨wf,hwf⟩:∃ wf,wf = (((((w1.alloc (.cells #[.slice A1 n1 C1,.slice A2 n2 C2,.slice A3 n3 C3,.bool wh] 85)).setCell ⟨w.heap.size + 1,0,none⟩ (.slice A1 n1 C1)).setCell ⟨w.heap.size + 1,1,none⟩ (.slice A2 n2 C2)).setCell ⟨w.heap.size + 1,2,none⟩ (.slice A3 n3 C3)).setCell ⟨w.heap.size + 1,3,none⟩ (.bool wh)):=⟨_,rfl⟩
  rw [<- hwf] at Yf kf ⊢
  clear hwf g0 g1 g2 g3 p0 p1 p2 p3
  obtain ⟨r0,r1,r2,r3⟩:=Yf.c4
  refine bodyPost_ret (v:=.tuple #[.agg #[.slice A1 n1 C1,.slice A2 n2 C2,.slice A3 n3 C3,.bool wh],.int .i64 (-1),.bool false]) (by simp [results,Tryz.results83,go_sem,r0,r1,r2,r3]) rfl ⟨A1,n1,C1,A2,n2,C2,A3,n3,C3,wh,by rw [Hn.out];rfl,fun t h9=>(by cases h9),K1.then_ kf (by simp)⟩
 ·obtain ⟨hb,-⟩:=Zad he
  have He:=zH he
  have Hb:=zH hb
  clear he hb
  rcases hq:stateB x s
  ·have Hn:=zH (Zsh hq)
   have Hq:=zH hq
   clear hq
   go_enter Tryz.func83,Tryz.ntmps83
   go_wp2_with (first
    | (go_at_call 109;(with_reducible refine (Zbe [.int .i64 x.points,.string x.names,v2] x t _ _ (zK h0 zA) He.out).mono ?_);rintro e w1 ⟨A1,n1,C1,A2,n2,C2,A3,n3,C3,wh,rfl,hS,t1⟩;have Z:=Blk.new w1 [.slice none 0 0,.slice none 0 0,.slice none 0 0,.bool false] 85;obtain ⟨z0,z1,z2,z3⟩:=Z.c4;obtain ⟨zp0,zp1,zp2,zp3⟩:=Z.f4;have X1:=(X0.keep t1).keep ((Only.refl [] _).alloc (.cells #[.slice A1 n1 C1,.slice A2 n2 C2,.slice A3 n3 C3,.bool wh] 85));obtain ⟨x0,x1,x2⟩:=X1.c3;have Y1:=(Y0.keep t1).keep ((Only.refl [] _).alloc (.cells #[.slice A1 n1 C1,.slice A2 n2 C2,.slice A3 n3 C3,.bool wh] 85));have U1:=Blk.new w1 [.slice A1 n1 C1,.slice A2 n2 C2,.slice A3 n3 C3,.bool wh] 85)
    | (go_at_call 42;(with_reducible refine (Zax [.int .i64 x.points,.string x.names,v2] x _ _ s _ _ (zK h0 zA) (zK hs zA)).mono ?_);rintro e w2 ⟨he,t2⟩;rw [Hq.out] at he;subst he;have U2:=U1.keep t2;have Y2:=Y1.keep t2;obtain ⟨a0,a1,a2,a3⟩:=U2.c4;obtain ⟨g0,g1,g2,g3⟩:=Y2.c4;obtain ⟨p0,p1,p2,p3⟩:=Y2.f4)
    | fail)
   have K1:Only [] w w2:=zA
   have hS2:=SrF.keep hS (((Only.refl [] w1).alloc (.cells #[.slice A1 n1 C1,.slice A2 n2 C2,.slice A3 n3 C3,.bool wh] 85)).trans t2)
   have Y9:=Y2
   obtain ⟨Yf,kf⟩:=store4 Y9 (.slice A1 n1 C1) (.slice A2 n2 C2) (.slice A3 n3 C3) (.bool wh)
   obtain ⟨wf,hwf⟩:∃ wf,wf = ((((w2.setCell ⟨w.heap.size + 1,0,none⟩ (.slice A1 n1 C1)).setCell ⟨w.heap.size + 1,1,none⟩ (.slice A2 n2 C2)).setCell ⟨w.heap.size + 1,2,none⟩ (.slice A3 n3 C3)).setCell ⟨w.heap.size + 1,3,none⟩ (.bool wh)):=⟨_,rfl⟩
   rw [<- hwf] at Yf kf ⊢
   clear hwf g0 g1 g2 g3 p0 p1 p2 p3
   obtain ⟨r0,r1,r2,r3⟩:=Yf.c4
   exact bodyPost_ret (v:=.tuple #[.agg #[.slice A1 n1 C1,.slice A2 n2 C2,.slice A3 n3 C3,.bool wh],.int .i64 (-1),.bool false]) (by simp [results,Tryz.results83,go_sem,r0,r1,r2,r3]) rfl ⟨A1,n1,C1,A2,n2,C2,A3,n3,C3,wh,by rw [Hn.out];rfl,fun t' h9=>(by injection h9 with h9;subst h9;exact (SrF.only hS2 kf (by intro b hb;simp at hb;subst hb;simp)).mono (by simp;omega)),K1.then_ kf (by simp)⟩
  ·have hsl:s.length = x.points.toNat:=(Zgb hq).2.2.2.1
   have Hq:=zH hq
   have Hsl:=zH hsl
   have Hd:=zH (Zti (s:=s) He.out)
   clear hq hsl
   go_enter Tryz.func83,Tryz.ntmps83
   go_wp2_with (first
    | (go_at_call 109;(with_reducible refine (Zbe [.int .i64 x.points,.string x.names,v2] x t _ _ (zK h0 zA) He.out).mono ?_);rintro e w1 ⟨A1,n1,C1,A2,n2,C2,A3,n3,C3,wh,rfl,hS,t1⟩;have Z:=Blk.new w1 [.slice none 0 0,.slice none 0 0,.slice none 0 0,.bool false] 85;obtain ⟨z0,z1,z2,z3⟩:=Z.c4;obtain ⟨zp0,zp1,zp2,zp3⟩:=Z.f4;have X1:=(X0.keep t1).keep ((Only.refl [] _).alloc (.cells #[.slice A1 n1 C1,.slice A2 n2 C2,.slice A3 n3 C3,.bool wh] 85));obtain ⟨x0,x1,x2⟩:=X1.c3;have Y1:=(Y0.keep t1).keep ((Only.refl [] _).alloc (.cells #[.slice A1 n1 C1,.slice A2 n2 C2,.slice A3 n3 C3,.bool wh] 85));have U1:=Blk.new w1 [.slice A1 n1 C1,.slice A2 n2 C2,.slice A3 n3 C3,.bool wh] 85)
    | (go_at_call 42;(with_reducible refine (Zax [.int .i64 x.points,.string x.names,v2] x _ _ s _ _ (zK h0 zA) (zK hs zA)).mono ?_);rintro e w2 ⟨he,t2⟩;rw [Hq.out] at he;subst he;have U2:=U1.keep t2;have Y2:=Y1.keep t2;obtain ⟨b0,b1,b2,b3⟩:=U2.c4;have hS2:=SrF.keep hS (((Only.refl [] w1).alloc (.cells #[.slice A1 n1 C1,.slice A2 n2 C2,.slice A3 n3 C3,.bool wh] 85)).trans t2))
    | (go_at_call 134;(with_reducible refine (Zeo x t _ _ s _ _ hS2 Hb.out (zK hs zA) Hsl.out).mono ?_);rintro e w3 ⟨he,t3⟩;rw [<- Hd.out] at he;subst he;have U3:=U2.keep t3;have Y9:=Y2.keep t3;obtain ⟨a0,a1,a2,a3⟩:=U3.c4;obtain ⟨g0,g1,g2,g3⟩:=Y9.c4;obtain ⟨p0,p1,p2,p3⟩:=Y9.f4)
    | fail)
   have K1:Only [] w w3:=zA
   have hS3:=SrF.keep hS2 t3
   obtain ⟨Yf,kf⟩:=store4 Y9 (.slice A1 n1 C1) (.slice A2 n2 C2) (.slice A3 n3 C3) (.bool wh)
   obtain ⟨wf,hwf⟩:∃ wf,wf = ((((w3.setCell ⟨w.heap.size + 1,0,none⟩ (.slice A1 n1 C1)).setCell ⟨w.heap.size + 1,1,none⟩ (.slice A2 n2 C2)).setCell ⟨w.heap.size + 1,2,none⟩ (.slice A3 n3 C3)).setCell ⟨w.heap.size + 1,3,none⟩ (.bool wh)):=⟨_,rfl⟩
   rw [<- hwf] at Yf kf ⊢
   clear hwf g0 g1 g2 g3 p0 p1 p2 p3
   obtain ⟨r0,r1,r2,r3⟩:=Yf.c4
   exact bodyPost_ret (v:=.tuple #[.agg #[.slice A1 n1 C1,.slice A2 n2 C2,.slice A3 n3 C3,.bool wh],.int .i64 (distX x s),.bool (decide (0<=distX x s))]) (by simp [results,Tryz.results83,go_sem,r0,r1,r2,r3]) rfl ⟨A1,n1,C1,A2,n2,C2,A3,n3,C3,wh,rfl,fun t' h9=>(by injection h9 with h9;subst h9;exact (SrF.only hS3 kf (by intro b hb;simp at hb;subst hb;simp)).mono (by simp;omega)),K1.then_ kf (by simp)⟩
set_option maxHeartbeats 1000000 in
theorem Zed (cs:List Value) (x:Puzzle) (fp:List Nat) (v:Value) (sub:List Int) (fs0:List Nat) (w:World) (h:Rp.rep w cs x fp) (hs:Rd w v sub fs0) :
  Calls Tryz.prog 124 #[.agg cs.toArray,v] w fun e w'=>e = .returned (.bool (validPz x && trackB x.moves.length sub))/\Only [] w w':=by
 have h0:=h
 obtain ⟨v2,rfl,p0,p1,h2⟩:=h
 have X0:Blk (w.alloc (.cells #[.int .i64 x.points,.string x.names,v2] 33)) w.heap.size [.int .i64 x.points,.string x.names,v2]:=Blk.new w [.int .i64 x.points,.string x.names,v2] 33
 rcases hv:validPz x
 ·have Hv:=zH hv
  clear hv p0 p1
  go_enter Tryz.func124,Tryz.ntmps124
  go_wp2_with (first
   | (go_at_call 81;(with_reducible refine (Zaj [.int .i64 x.points,.string x.names,v2] x _ _ (zK h0 zA)).mono ?_);rintro e w1 ⟨he,t1⟩;rw [Hv.out] at he;subst he)
   | fail)
  go_ret
  exact ⟨rfl,zA⟩
 ·obtain ⟨q1,q20,q8,-⟩:=Zae hv
  have Hv:=zH hv
  obtain ⟨aM,cM,obM,fpM,rfl,-,SM⟩:=h2.open_
  have hbM:=SM.bound
  obtain ⟨r,hr⟩:∃ r,r = trackB x.moves.length sub:=⟨_,rfl⟩
  have Hr:=zH hr
  rw [<- hr]
  clear hv hr p0 p1
  go_enter Tryz.func124,Tryz.ntmps124
  go_wp2_with (first
   | (go_at_call 81;(with_reducible refine (Zaj [.int .i64 x.points,.string x.names,.slice aM x.moves.length cM] x _ _ (zK h0 zA)).mono ?_);rintro e w1 ⟨he,t1⟩;rw [Hv.out] at he;subst he;have X1:=X0.keep t1;have x2:=X1.cell 2 rfl;have K1:Only [] w w1:=zA)
   | (go_at_call 107;(with_reducible refine (Zha (x.moves.length:Int) v sub _ w1 (zK hs K1) (by omega) (by omega)).mono ?_);rintro e w3 ⟨he,d3⟩;rw [<- Hr.out] at he;subst he;have t3:=d3.only [])
   | fail)
  go_ret
  exact ⟨rfl,K1.trans t3⟩
theorem store44 {W:World} {r1 r2:Nat} {a b c d a' b' c' d':Value} (h1:Blk W r1 [a,b,c,d]) (h2:Blk W r2 [a',b',c',d']) (hne:r1 ≠ r2) (p q r s p' q' r' s':Value) :
  Blk ((((((((W.setCell ⟨r1,0,none⟩ p).setCell ⟨r1,1,none⟩ q).setCell ⟨r1,2,none⟩ r).setCell ⟨r1,3,none⟩ s).setCell ⟨r2,0,none⟩ p').setCell ⟨r2,1,none⟩ q').setCell ⟨r2,2,none⟩ r').setCell ⟨r2,3,none⟩ s') r1 [p,q,r,s] /\
  Blk ((((((((W.setCell ⟨r1,0,none⟩ p).setCell ⟨r1,1,none⟩ q).setCell ⟨r1,2,none⟩ r).setCell ⟨r1,3,none⟩ s).setCell ⟨r2,0,none⟩ p').setCell ⟨r2,1,none⟩ q').setCell ⟨r2,2,none⟩ r').setCell ⟨r2,3,none⟩ s') r2 [p',q',r',s'] /\
  Only [r1,r2] W ((((((((W.setCell ⟨r1,0,none⟩ p).setCell ⟨r1,1,none⟩ q).setCell ⟨r1,2,none⟩ r).setCell ⟨r1,3,none⟩ s).setCell ⟨r2,0,none⟩ p').setCell ⟨r2,1,none⟩ q').setCell ⟨r2,2,none⟩ r').setCell ⟨r2,3,none⟩ s'):=by
 obtain ⟨k1,o1⟩:=store4 h1 p q r s
 have h2':=h2.only o1 (by simp;omega)
 obtain ⟨k2,o2⟩:=store4 h2' p' q' r' s'
 exact ⟨k1.only o2 (by simp;omega),k2,(o1.mono (by simp)).trans (o2.mono (by simp))⟩
set_option maxHeartbeats 4000000 in
theorem Zmc (cs:List Value) (x:Puzzle) (fp:List Nat) (v:Value) (sub:List Int) (fs0:List Nat) (w:World) (h:Rp.rep w cs x fp) (hs:Rd w v sub fs0) (hn:((expl x).isSome && trackB x.moves.length sub) = false) :
  Calls Tryz.prog 70 #[.agg cs.toArray,v] w fun e w'=>∃ A1 n1 C1 A2 n2 C2 A3 n3 C3 wh,e = .returned (.tuple #[.agg #[.slice A1 n1 C1,.slice A2 n2 C2,.slice A3 n3 C3,.bool wh],.agg #[.slice A1 n1 C1,.slice A2 n2 C2,.slice A3 n3 C3,.bool wh],.bool false])/\Only [] w w':=by
 have h0:=h
 obtain ⟨v2,rfl,p0,p1,h2⟩:=h
 clear p0 p1 h2
 have KA:Only [] w ((w.alloc (.cells #[.int .i64 x.points,.string x.names,v2] 33)).alloc (.cells #[.slice none 0 0,.slice none 0 0,.slice none 0 0,.bool false] 85)):=(zO.alloc _).alloc _
 have X0:Blk (((w.alloc (.cells #[.int .i64 x.points,.string x.names,v2] 33)).alloc (.cells #[.slice none 0 0,.slice none 0 0,.slice none 0 0,.bool false] 85)).alloc (.cells #[.slice none 0 0,.slice none 0 0,.slice none 0 0,.bool false] 85)) w.heap.size [.int .i64 x.points,.string x.names,v2]:=((Blk.new w [.int .i64 x.points,.string x.names,v2] 33).keep (zO.alloc _)).keep (zO.alloc _)
 have R4:Blk (((w.alloc (.cells #[.int .i64 x.points,.string x.names,v2] 33)).alloc (.cells #[.slice none 0 0,.slice none 0 0,.slice none 0 0,.bool false] 85)).alloc (.cells #[.slice none 0 0,.slice none 0 0,.slice none 0 0,.bool false] 85)) (w.heap.size + 1) [.slice none 0 0,.slice none 0 0,.slice none 0 0,.bool false]:=(Blk.new_at (w:=w.alloc (.cells #[.int .i64 x.points,.string x.names,v2] 33)) (cs:=[.slice none 0 0,.slice none 0 0,.slice none 0 0,.bool false]) (by simp)).keep (zO.alloc _)
 have R5:Blk (((w.alloc (.cells #[.int .i64 x.points,.string x.names,v2] 33)).alloc (.cells #[.slice none 0 0,.slice none 0 0,.slice none 0 0,.bool false] 85)).alloc (.cells #[.slice none 0 0,.slice none 0 0,.slice none 0 0,.bool false] 85)) (w.heap.size + 1 + 1) [.slice none 0 0,.slice none 0 0,.slice none 0 0,.bool false]:=Blk.new_at (by simp)
 rcases hx:expl x with _ | t
 ·have Hn:=zH hx
  clear hn hx
  go_enter Tryz.func70,Tryz.ntmps70
  go_upto_region 3 with (first
   | (go_at_call 109;(with_reducible refine (Zdy [.int .i64 x.points,.string x.names,v2] x _ _ (zK h0 zA) Hn.out).mono ?_);rintro e w1 ⟨A1,n1,C1,A2,n2,C2,A3,n3,C3,wh,rfl,t1⟩;have Z:=Blk.new w1 [.slice none 0 0,.slice none 0 0,.slice none 0 0,.bool false] 85;obtain ⟨z0,z1,z2,z3⟩:=Z.c4;obtain ⟨zp0,zp1,zp2,zp3⟩:=Z.f4)
   | fail)
  obtain ⟨W3,hW3⟩:∃ W3,W3 = w1.alloc (.cells #[.slice A1 n1 C1,.slice A2 n2 C2,.slice A3 n3 C3,.bool wh] 85):=⟨_,rfl⟩
  have k3:Only [] w1 W3:=by rw [hW3];exact zO.alloc _
  have F3:Blk W3 w1.heap.size [.slice A1 n1 C1,.slice A2 n2 C2,.slice A3 n3 C3,.bool wh]:=by rw [hW3];exact Blk.new w1 _ _
  have KW:Only [] w W3:=by rw [hW3];exact zA
  have G3:=F3
  have R43:=(R4.keep t1).keep k3
  have R53:=(R5.keep t1).keep k3
  have hzz1:=t1.size
  simp at hzz1
  have hna1:¬ w1.heap.size = w.heap.size + 1:=by omega
  have hnb1:¬ w.heap.size + 1 = w1.heap.size:=by omega
  have hna2:¬ w1.heap.size = w.heap.size + 1 + 1:=by omega
  have hnb2:¬ w.heap.size + 1 + 1 = w1.heap.size:=by omega
  rw [<- hW3]
  clear hW3 Z z0 z1 z2 z3 zp0 zp1 zp2 zp3 R4 R5 k3 t1 KA X0
  have F4:=F3
  have G4:=G3
  have R44:=R43
  have R54:=R53
  obtain ⟨a0,a1,a2,a3⟩:=F4.c4
  obtain ⟨c0,c1,c2,c3⟩:=R44.c4
  obtain ⟨d0,d1,d2,d3⟩:=R54.c4
  obtain ⟨p0,p1,p2,p3⟩:=R44.f4
  obtain ⟨q0,q1,q2,q3⟩:=R54.f4
  have kd:Only [] W3 W3.drew:=zO.drew
  have F5:=F3.keep kd
  have G5:=G3.keep kd
  have R45:=R43.keep kd
  have R55:=R53.keep kd
  obtain ⟨aa0,aa1,aa2,aa3⟩:=F5.c4
  obtain ⟨bb0,bb1,bb2,bb3⟩:=G5.c4
  obtain ⟨cc0,cc1,cc2,cc3⟩:=R45.c4
  obtain ⟨dd0,dd1,dd2,dd3⟩:=R55.c4
  obtain ⟨pp0,pp1,pp2,pp3⟩:=R45.f4
  obtain ⟨qq0,qq1,qq2,qq3⟩:=R55.f4
  go_wp2
  go_region_law (fail)
  all_goals go_wp2_with fail
  all_goals
   obtain ⟨Y4,Y5,kf⟩:=store44 R44 R54 (by omega) (.slice A1 n1 C1) (.slice A2 n2 C2) (.slice A3 n3 C3) (.bool wh) (.slice A1 n1 C1) (.slice A2 n2 C2) (.slice A3 n3 C3) (.bool wh)
   obtain ⟨wf,hwf⟩:∃ wf,wf = ((((((((W3.setCell ⟨w.heap.size + 1,0,none⟩ (.slice A1 n1 C1)).setCell ⟨w.heap.size + 1,1,none⟩ (.slice A2 n2 C2)).setCell ⟨w.heap.size + 1,2,none⟩ (.slice A3 n3 C3)).setCell ⟨w.heap.size + 1,3,none⟩ (.bool wh)).setCell ⟨w.heap.size + 1 + 1,0,none⟩ (.slice A1 n1 C1)).setCell ⟨w.heap.size + 1 + 1,1,none⟩ (.slice A2 n2 C2)).setCell ⟨w.heap.size + 1 + 1,2,none⟩ (.slice A3 n3 C3)).setCell ⟨w.heap.size + 1 + 1,3,none⟩ (.bool wh)):=⟨_,rfl⟩
   rw [<- hwf] at Y4 Y5 kf ⊢
   clear hwf c0 d0 p0 q0 c1 d1 p1 q1 c2 d2 p2 q2 c3 d3 p3 q3
   obtain ⟨r0,r1,r2,r3⟩:=Y4.c4
   obtain ⟨s0,s1,s2,s3⟩:=Y5.c4
   have KF:Only [] w wf.drew:=(KW.then_ kf (by simp;omega)).drew
   exact bodyPost_ret (v:=.tuple #[.agg #[.slice A1 n1 C1,.slice A2 n2 C2,.slice A3 n3 C3,.bool wh],.agg #[.slice A1 n1 C1,.slice A2 n2 C2,.slice A3 n3 C3,.bool wh],.bool false]) (by simp [results,Tryz.results70,go_sem,r0,r1,r2,r3,s0,s1,s2,s3]) rfl ⟨A1,n1,C1,A2,n2,C2,A3,n3,C3,wh,rfl,KF⟩
 ·have hq:(validPz x && trackB x.moves.length sub) = false:=by
   rw [hx] at hn
   have:trackB x.moves.length sub = false:=by simpa using hn
   rw [this];simp
  have Hq:=zH hq
  have He:=zH hx
  clear hn hx hq
  go_enter Tryz.func70,Tryz.ntmps70
  go_upto_region 3 with (first
   | (go_at_call 109;(with_reducible refine (Zbe [.int .i64 x.points,.string x.names,v2] x t _ _ (zK h0 zA) He.out).mono ?_);rintro e w1 ⟨A1,n1,C1,A2,n2,C2,A3,n3,C3,wh,rfl,-,t1⟩;have Z:=Blk.new w1 [.slice none 0 0,.slice none 0 0,.slice none 0 0,.bool false] 85;obtain ⟨z0,z1,z2,z3⟩:=Z.c4;obtain ⟨zp0,zp1,zp2,zp3⟩:=Z.f4;have X1:=(X0.keep t1).keep ((Only.refl [] _).alloc (.cells #[.slice A1 n1 C1,.slice A2 n2 C2,.slice A3 n3 C3,.bool wh] 85));obtain ⟨x0,x1,x2⟩:=X1.c3)
   | (go_at_call 124;(with_reducible refine (Zed [.int .i64 x.points,.string x.names,v2] x _ v sub _ _ (zK h0 zA) (zK hs zA)).mono ?_);rintro e w2 ⟨he,t2⟩;rw [Hq.out] at he;subst he)
   | fail)
  obtain ⟨W3,hW3⟩:∃ W3,W3 = w2:=⟨_,rfl⟩
  have k3:Only [] w1 W3:=by rw [hW3];exact zA
  have F3:Blk W3 w1.heap.size [.slice A1 n1 C1,.slice A2 n2 C2,.slice A3 n3 C3,.bool wh]:=by rw [hW3];exact (Blk.new w1 [.slice A1 n1 C1,.slice A2 n2 C2,.slice A3 n3 C3,.bool wh] 85).keep t2
  have KW:Only [] w W3:=by rw [hW3];exact zA
  have G3:=F3
  have R43:=(R4.keep t1).keep k3
  have R53:=(R5.keep t1).keep k3
  have hzz1:=t1.size
  simp at hzz1
  have hna1:¬ w1.heap.size = w.heap.size + 1:=by omega
  have hnb1:¬ w.heap.size + 1 = w1.heap.size:=by omega
  have hna2:¬ w1.heap.size = w.heap.size + 1 + 1:=by omega
  have hnb2:¬ w.heap.size + 1 + 1 = w1.heap.size:=by omega
  rw [<- hW3]
  clear hW3 t2 Z z0 z1 z2 z3 zp0 zp1 zp2 zp3 R4 R5 k3 t1 KA X0 X1 x0 x1 x2
  have F4:=F3
  have G4:=G3
  have R44:=R43
  have R54:=R53
  obtain ⟨a0,a1,a2,a3⟩:=F4.c4
  obtain ⟨c0,c1,c2,c3⟩:=R44.c4
  obtain ⟨d0,d1,d2,d3⟩:=R54.c4
  obtain ⟨p0,p1,p2,p3⟩:=R44.f4
  obtain ⟨q0,q1,q2,q3⟩:=R54.f4
  have kd:Only [] W3 W3.drew:=zO.drew
  have F5:=F3.keep kd
  have G5:=G3.keep kd
  have R45:=R43.keep kd
  have R55:=R53.keep kd
  obtain ⟨aa0,aa1,aa2,aa3⟩:=F5.c4
  obtain ⟨bb0,bb1,bb2,bb3⟩:=G5.c4
  obtain ⟨cc0,cc1,cc2,cc3⟩:=R45.c4
  obtain ⟨dd0,dd1,dd2,dd3⟩:=R55.c4
  obtain ⟨pp0,pp1,pp2,pp3⟩:=R45.f4
  obtain ⟨qq0,qq1,qq2,qq3⟩:=R55.f4
  go_wp2
  go_region_law (fail)
  all_goals go_wp2_with fail
  all_goals
   obtain ⟨Y4,Y5,kf⟩:=store44 R44 R54 (by omega) (.slice A1 n1 C1) (.slice A2 n2 C2) (.slice A3 n3 C3) (.bool wh) (.slice A1 n1 C1) (.slice A2 n2 C2) (.slice A3 n3 C3) (.bool wh)
   obtain ⟨wf,hwf⟩:∃ wf,wf = ((((((((W3.setCell ⟨w.heap.size + 1,0,none⟩ (.slice A1 n1 C1)).setCell ⟨w.heap.size + 1,1,none⟩ (.slice A2 n2 C2)).setCell ⟨w.heap.size + 1,2,none⟩ (.slice A3 n3 C3)).setCell ⟨w.heap.size + 1,3,none⟩ (.bool wh)).setCell ⟨w.heap.size + 1 + 1,0,none⟩ (.slice A1 n1 C1)).setCell ⟨w.heap.size + 1 + 1,1,none⟩ (.slice A2 n2 C2)).setCell ⟨w.heap.size + 1 + 1,2,none⟩ (.slice A3 n3 C3)).setCell ⟨w.heap.size + 1 + 1,3,none⟩ (.bool wh)):=⟨_,rfl⟩
   rw [<- hwf] at Y4 Y5 kf ⊢
   clear hwf c0 d0 p0 q0 c1 d1 p1 q1 c2 d2 p2 q2 c3 d3 p3 q3
   obtain ⟨r0,r1,r2,r3⟩:=Y4.c4
   obtain ⟨s0,s1,s2,s3⟩:=Y5.c4
   have KF:Only [] w wf.drew:=(KW.then_ kf (by simp;omega)).drew
   exact bodyPost_ret (v:=.tuple #[.agg #[.slice A1 n1 C1,.slice A2 n2 C2,.slice A3 n3 C3,.bool wh],.agg #[.slice A1 n1 C1,.slice A2 n2 C2,.slice A3 n3 C3,.bool wh],.bool false]) (by simp [results,Tryz.results70,go_sem,r0,r1,r2,r3,s0,s1,s2,s3]) rfl ⟨A1,n1,C1,A2,n2,C2,A3,n3,C3,wh,rfl,KF⟩
set_option maxHeartbeats 4000000 in
theorem Zhd (cs:List Value) (x:Puzzle) (t ts:Table) (fp:List Nat) (v:Value) (sub:List Int) (fs0:List Nat) (w:World) (h:Rp.rep w cs x fp) (hs:Rd w v sub fs0) (he:expl x = some t) (ht:trackB x.moves.length sub = true) (h2:expl (subP x sub) = some ts) :
  Calls Tryz.prog 70 #[.agg cs.toArray,v] w fun e w'=>∃ A1 n1 C1 A2 n2 C2 A3 n3 C3 wh A4 n4 C4 A5 n5 C5 A6 n6 C6 wg,e = .returned (.tuple #[.agg #[.slice A1 n1 C1,.slice A2 n2 C2,.slice A3 n3 C3,.bool wh],.agg #[.slice A4 n4 C4,.slice A5 n5 C5,.slice A6 n6 C6,.bool wg],.bool true])/\SrF w.heap.size w' x t (.agg #[.slice A1 n1 C1,.slice A2 n2 C2,.slice A3 n3 C3,.bool wh])/\SrF w.heap.size w' (subP x sub) ts (.agg #[.slice A4 n4 C4,.slice A5 n5 C5,.slice A6 n6 C6,.bool wg])/\Only [] w w':=by
 have h0:=h
 obtain ⟨v2,rfl,p0,p1,h3⟩:=h
 clear p0 p1 h3
 have KA:Only [] w ((w.alloc (.cells #[.int .i64 x.points,.string x.names,v2] 33)).alloc (.cells #[.slice none 0 0,.slice none 0 0,.slice none 0 0,.bool false] 85)):=(zO.alloc _).alloc _
 have X0:Blk (((w.alloc (.cells #[.int .i64 x.points,.string x.names,v2] 33)).alloc (.cells #[.slice none 0 0,.slice none 0 0,.slice none 0 0,.bool false] 85)).alloc (.cells #[.slice none 0 0,.slice none 0 0,.slice none 0 0,.bool false] 85)) w.heap.size [.int .i64 x.points,.string x.names,v2]:=((Blk.new w [.int .i64 x.points,.string x.names,v2] 33).keep (zO.alloc _)).keep (zO.alloc _)
 have R4:Blk (((w.alloc (.cells #[.int .i64 x.points,.string x.names,v2] 33)).alloc (.cells #[.slice none 0 0,.slice none 0 0,.slice none 0 0,.bool false] 85)).alloc (.cells #[.slice none 0 0,.slice none 0 0,.slice none 0 0,.bool false] 85)) (w.heap.size + 1) [.slice none 0 0,.slice none 0 0,.slice none 0 0,.bool false]:=(Blk.new_at (w:=w.alloc (.cells #[.int .i64 x.points,.string x.names,v2] 33)) (cs:=[.slice none 0 0,.slice none 0 0,.slice none 0 0,.bool false]) (by simp)).keep (zO.alloc _)
 have R5:Blk (((w.alloc (.cells #[.int .i64 x.points,.string x.names,v2] 33)).alloc (.cells #[.slice none 0 0,.slice none 0 0,.slice none 0 0,.bool false] 85)).alloc (.cells #[.slice none 0 0,.slice none 0 0,.slice none 0 0,.bool false] 85)) (w.heap.size + 1 + 1) [.slice none 0 0,.slice none 0 0,.slice none 0 0,.bool false]:=Blk.new_at (by simp)
 obtain ⟨hb,-⟩:=Zad he
 have Hq:=zH (show (validPz x && trackB x.moves.length sub) = true by rw [hb.v,ht];rfl)
 have Hv:=zH hb.v
 have Ht:=zH ht
 have He:=zH he
 have H2:=zH h2
 clear he ht h2 hb
 go_enter Tryz.func70,Tryz.ntmps70
 go_upto_region 5 with (first
  | (go_at_call 109;(with_reducible refine (Zbe [.int .i64 x.points,.string x.names,v2] x t _ _ (zK h0 zA) He.out).mono ?_);rintro e w1 ⟨A1,n1,C1,A2,n2,C2,A3,n3,C3,wh,rfl,hF,t1⟩;have Z:=Blk.new w1 [.slice none 0 0,.slice none 0 0,.slice none 0 0,.bool false] 85;obtain ⟨z0,z1,z2,z3⟩:=Z.c4;obtain ⟨zp0,zp1,zp2,zp3⟩:=Z.f4;have X1:=(X0.keep t1).keep ((Only.refl [] _).alloc (.cells #[.slice A1 n1 C1,.slice A2 n2 C2,.slice A3 n3 C3,.bool wh] 85));obtain ⟨x0,x1,x2⟩:=X1.c3)
  | (go_at_call 124;(with_reducible refine (Zed [.int .i64 x.points,.string x.names,v2] x _ v sub _ _ (zK h0 zA) (zK hs zA)).mono ?_);rintro e w2 ⟨he,t2⟩;rw [Hq.out] at he;subst he;have X2:=X1.keep t2;obtain ⟨y0,y1,y2⟩:=X2.c3)
  | (go_at_call 125;(with_reducible refine (Zfd [.int .i64 x.points,.string x.names,v2] x _ v sub _ _ (zK h0 zA) (zK hs zA) Hv.out Ht.out).mono ?_);rintro e w3 ⟨cs3,f3,rfl,r3,t3⟩)
  | (go_at_call 109;(with_reducible refine (Zbe cs3 (subP x sub) ts _ w3 r3 H2.out).mono ?_);rintro e w4 ⟨A4,n4,C4,A5,n5,C5,A6,n6,C6,wg,rfl,hG,t4⟩;have Z':=Blk.new w4 [.slice none 0 0,.slice none 0 0,.slice none 0 0,.bool false] 85;have zz0:=Z'.cell 0 rfl;have zz1:=Z'.cell 1 rfl;have zz2:=Z'.cell 2 rfl;have zz3:=Z'.cell 3 rfl;have zzp0:=Z'.frozen 0;have zzp1:=Z'.frozen 1;have zzp2:=Z'.frozen 2;have zzp3:=Z'.frozen 3)
  | fail)
 obtain ⟨W3,hW3⟩:∃ W3,W3 = w4.alloc (.cells #[.slice A4 n4 C4,.slice A5 n5 C5,.slice A6 n6 C6,.bool wg] 85):=⟨_,rfl⟩
 have k3:Only [] w4 W3:=by rw [hW3];exact zO.alloc _
 have k23:=((t2.trans t3).trans t4).trans k3
 have G3:Blk W3 w4.heap.size [.slice A4 n4 C4,.slice A5 n5 C5,.slice A6 n6 C6,.bool wg]:=by rw [hW3];exact Blk.new w4 _ _
 have F3:Blk W3 w1.heap.size [.slice A1 n1 C1,.slice A2 n2 C2,.slice A3 n3 C3,.bool wh]:=(Blk.new w1 [.slice A1 n1 C1,.slice A2 n2 C2,.slice A3 n3 C3,.bool wh] 85).keep k23
 have KW:Only [] w W3:=by rw [hW3];exact zA
 have k13:Only [] w1 W3:=((Only.refl [] w1).alloc _).trans k23
 have R43:=(R4.keep t1).keep k13
 have R53:=(R5.keep t1).keep k13
 have hz1:=t1.size
 have hz3:w1.heap.size<=w3.heap.size:=by have:=(t2.trans t3).size;simp at this;omega
 simp at hz1
 have hF3:=hF.keep k13
 have hG3:=hG.keep k3
 have hzz1:=hz1
 have hzz4:=t4.size
 have hna1:¬ w1.heap.size = w.heap.size + 1:=by omega
 have hnb1:¬ w.heap.size + 1 = w1.heap.size:=by omega
 have hna2:¬ w1.heap.size = w.heap.size + 1 + 1:=by omega
 have hnb2:¬ w.heap.size + 1 + 1 = w1.heap.size:=by omega
 have hna3:¬ w4.heap.size = w.heap.size + 1:=by omega
 have hnb3:¬ w.heap.size + 1 = w4.heap.size:=by omega
 have hna4:¬ w4.heap.size = w.heap.size + 1 + 1:=by omega
 have hnb4:¬ w.heap.size + 1 + 1 = w4.heap.size:=by omega
 rw [<- hW3]
 clear hW3 Z z0 z1 z2 z3 zp0 zp1 zp2 zp3 R4 R5 k3 t1 t2 t3 t4 KA X0 X1 x0 x1 x2 X2 y0 y1 y2 k23 k13 hF hG
 have F4:=F3
 have G4:=G3
 have R44:=R43
 have R54:=R53
 obtain ⟨a0,a1,a2,a3⟩:=F4.c4
 obtain ⟨b0,b1,b2,b3⟩:=G4.c4
 obtain ⟨c0,c1,c2,c3⟩:=R44.c4
 obtain ⟨d0,d1,d2,d3⟩:=R54.c4
 obtain ⟨p0,p1,p2,p3⟩:=R44.f4
 obtain ⟨q0,q1,q2,q3⟩:=R54.f4
 have kd:Only [] W3 W3.drew:=zO.drew
 have F5:=F3.keep kd
 have G5:=G3.keep kd
 have R45:=R43.keep kd
 have R55:=R53.keep kd
 obtain ⟨aa0,aa1,aa2,aa3⟩:=F5.c4
 obtain ⟨bb0,bb1,bb2,bb3⟩:=G5.c4
 obtain ⟨cc0,cc1,cc2,cc3⟩:=R45.c4
 obtain ⟨dd0,dd1,dd2,dd3⟩:=R55.c4
 obtain ⟨pp0,pp1,pp2,pp3⟩:=R45.f4
 obtain ⟨qq0,qq1,qq2,qq3⟩:=R55.f4
 go_wp2
 go_region_law (fail)
 all_goals go_wp2_with fail
 all_goals
  obtain ⟨Y4,Y5,kf⟩:=store44 R44 R54 (by omega) (.slice A1 n1 C1) (.slice A2 n2 C2) (.slice A3 n3 C3) (.bool wh) (.slice A4 n4 C4) (.slice A5 n5 C5) (.slice A6 n6 C6) (.bool wg)
  obtain ⟨wf,hwf⟩:∃ wf,wf = ((((((((W3.setCell ⟨w.heap.size + 1,0,none⟩ (.slice A1 n1 C1)).setCell ⟨w.heap.size + 1,1,none⟩ (.slice A2 n2 C2)).setCell ⟨w.heap.size + 1,2,none⟩ (.slice A3 n3 C3)).setCell ⟨w.heap.size + 1,3,none⟩ (.bool wh)).setCell ⟨w.heap.size + 1 + 1,0,none⟩ (.slice A4 n4 C4)).setCell ⟨w.heap.size + 1 + 1,1,none⟩ (.slice A5 n5 C5)).setCell ⟨w.heap.size + 1 + 1,2,none⟩ (.slice A6 n6 C6)).setCell ⟨w.heap.size + 1 + 1,3,none⟩ (.bool wg)):=⟨_,rfl⟩
  rw [<- hwf] at Y4 Y5 kf ⊢
  clear hwf c0 d0 p0 q0 c1 d1 p1 q1 c2 d2 p2 q2 c3 d3 p3 q3
  obtain ⟨r0,r1,r2,r3⟩:=Y4.c4
  obtain ⟨s0,s1,s2,s3⟩:=Y5.c4
  have KF:Only [] w wf.drew:=(KW.then_ kf (by simp;omega)).drew
  exact bodyPost_ret (v:=.tuple #[.agg #[.slice A1 n1 C1,.slice A2 n2 C2,.slice A3 n3 C3,.bool wh],.agg #[.slice A4 n4 C4,.slice A5 n5 C5,.slice A6 n6 C6,.bool wg],.bool true]) (by simp [results,Tryz.results70,go_sem,r0,r1,r2,r3,s0,s1,s2,s3]) rfl ⟨A1,n1,C1,A2,n2,C2,A3,n3,C3,wh,A4,n4,C4,A5,n5,C5,A6,n6,C6,wg,rfl,((SrF.only hF3 kf (by intro b hb;simp at hb;rcases hb with rfl | rfl <;> (simp;try omega))).keep zO.drew).mono (by simp;omega),((SrF.only hG3 kf (by intro b hb;simp at hb;rcases hb with rfl | rfl <;> omega)).keep zO.drew).mono (by omega),KF⟩
theorem mask32 (a:Nat) (ha:a < 4294967296):bits .and .u64 (a:Int) 4294967295 = a:=by
 have h:=bits_and_u64_nat a 4294967295 (by omega) (by omega)
 have e:a &&& 4294967295 = a % 4294967296:=Nat.and_two_pow_sub_one_eq_mod a 32
 rw [e,Nat.mod_eq_of_lt ha] at h
 exact h
set_option maxHeartbeats 1000000 in
theorem Ztb (y:Nat) (hy:y<=1000000) (w:World) :
  Calls Tryz.prog 195 #[.int .u64 1,.int .u64 y] w fun e w'=>e = .returned (.tuple #[.int .u64 0,.int .u64 y])/\w' = w:=by
 have m1:bits .and .u64 (1:Int) 4294967295 = 1:=mask32 1 (by omega)
 have m0:bits .and .u64 (0:Int) 4294967295 = 0:=mask32 0 (by omega)
 have my:bits .and .u64 (y:Int) 4294967295 = y:=mask32 y (by omega)
 have d1:(y:Int) / 4294967296 = 0:=by omega
 have wy:IntKind.u64.wrap (y:Int) = y:=by rw [IntKind.wrap_u64];omega
 go_enter Tryz.func195,Tryz.ntmps195
 go_wp2
 go_ret2
 exact ⟨rfl,rfl⟩
set_option maxHeartbeats 1000000 in
theorem Zrm (y:Nat) (hy:y<=1000000) (w:World) :
  Calls Tryz.prog 170 #[.int .u64 1,.int .u64 y] w fun e w'=>e = .returned (.tuple #[.int .u64 0,.int .u64 y])/\w' = w:=by
 go_enter Tryz.func170,Tryz.ntmps170
 go_wp2_with (first
  | (go_at_call 195;(with_reducible refine (Ztb y hy _).mono ?_);rintro e w1 ⟨rfl,rfl⟩)
  | fail)
 go_ret2
 exact ⟨rfl,rfl⟩
theorem Zkt {α:Type} (x z:α) (m n k:Nat):splice (List.replicate m x ++ List.replicate (n - m) z) m (List.replicate k x) = List.replicate (m + k) x ++ List.replicate (n - (m + k)) z:=by
 unfold splice
 rw [List.take_left' (by simp),List.length_replicate,<- List.append_assoc,List.replicate_append_replicate,List.drop_append]
 simp
 omega
theorem Zsn {w:World} {B g n:Nat} {e:TypeId} {xs:List Value} (h:w.ownsRow B e 1 (.slice (some ⟨g,0,none⟩) n n) n xs):w.heap[g]? = some (.cells xs.toArray e (0,0)):=by
 rcases h.2 with ⟨h0,-⟩ | ⟨g2,c2,cur2,hv,hb,hg2,h1,h2,h3,h4⟩
 ·cases h0
 ·injection hv with hv _ hc;injection hv with hv;injection hv with hv _ _
  subst hv;subst hc
  have h5:cur2.toList = xs:=by
   rw [<- h4,List.take_of_length_le]
   have:cur2.size = n * 1:=h3
   simp;omega
  rw [hg2,<- h5]
theorem row_own {w:World} {B g n:Nat} {e:TypeId} {xs:List Value} (hl:xs.length = n) (hB:B<=g) (hn:n<=maxLen) (h:w.heap[g]? = some (.cells xs.toArray e (0,0))):w.ownsRow B e 1 (.slice (some ⟨g,0,none⟩) n n) n xs:=
 ⟨by omega,.inr ⟨g,n,_,rfl,hB,h,Nat.le_refl _,hn,by simp [hl],by simp [<- hl]⟩⟩
set_option maxHeartbeats 800000 in
theorem Zrz (g n:Nat) (x:Int) (w:World) (hx:I64 x) (h1:1<=n) (hn:n<=1000000) (hc:w.cell? ⟨g,0,none⟩ = some (.int .i64 x)) :
  Calls Tryz.prog 130 #[.slice (some ⟨g,0,none⟩) 1 1,.int .i64 n] w fun e w'=>∃ u,e = .returned u/\AccI w.heap.size 2 w' u (List.replicate n x)/\Only [] w w':=by
 obtain ⟨i0,hi,hz0,hz1,hz2⟩:=info_parts Tryz.info2
 have wn:IntKind.u64.wrap (n:Int) = n:=by rw [IntKind.wrap_u64];omega
 have w1':IntKind.u64.wrap (1:Int) = 1:=by rw [IntKind.wrap_u64];omega
 have vn:IntKind.i64.wrap (n:Int) = n:=by rw [IntKind.wrap_i64];omega
 have q6:(Tryz.prog.info? 2).map (·.size) = some 1:=by rw [hi];simp [hz1]
 go_enter Tryz.func130,Tryz.ntmps130
 go_upto_region 7 with (first
  | (go_at_call 170;(with_reducible refine (Zrm n hn _).mono ?_);rintro e w ⟨rfl,rfl⟩)
  | (at_make;refine wpList_make_full _ rfl _ _ 25 rfl w.heap.size 2 i0 _ 1 Tryz.underlying25 hi hz0 hz1 _ _ _ _ n rfl rfl rfl rfl (by rw [hz2];omega) (by unfold maxLen;omega) (Nat.le_refl _) ?_;intro w1 hown hg)
  | fail)
 rw [madeInts,Nat.mul_one] at hown
 have hh1:=Zsn hown
 have hK1:Only [] w w1:=zO.grown hg (by simp)
 have hs1:=hK1.size
 have hc1:=hK1.cell (by simp) hc
 have q1:[Value.int .i64 x].length = Nat.min 1 n:=(Nat.min_eq_left h1).symm
 have q2:∀ j v,[Value.int .i64 x][j]? = some v->w1.cell? ((⟨g,0,none⟩:Addr).add j) = some v:=by
  intro j v hj
  cases j with
  | zero=>simp at hj;subst hj;rw [Zjx];exact hc1
  | succ j=>simp at hj
 have q4:0 + [Value.int .i64 x].length<=(List.replicate n (Value.int .i64 0)).length:=by simp;omega
 have q5:∀ v∈[Value.int .i64 x],v.oneCell' = true:=by intro v hv;simp at hv;subst hv;rfl
 have hb1:Below w.heap.size w w1:=hK1.below (Nat.le_refl _) (by simp)
 go_upto_region 8 with (with_reducible refine wpList_copy_splice rfl (.tmp 31) (.tmp 32) 25 25 rfl 2 Tryz.underlying25 q6 _ _ _ _ _ _ rfl rfl w.heap.size 0 (List.replicate n (Value.int .i64 0)) 2 hh1 [.int .i64 x] q1 (fun _=>⟨rfl,_,rfl,q2⟩) q4 q5 w.heap.size w hb1 (Nat.le_refl _) ?_;intro w2 hh2 hb2)
 have hh2:=hh2.out
 have h02:=Zkt (Value.int .i64 x) (Value.int .i64 0) 0 n 1
 simp only [List.replicate_zero,List.nil_append,Nat.sub_zero,Nat.zero_add] at h02
 rw [show [Value.int .i64 x] = List.replicate 1 (Value.int .i64 x) from rfl,h02] at hh2
 have hK2:Only [] w w2:=Only.ofBelow hb2 _
 go_loopw [8] (fun k wr=>∃ m:Nat,1<=m/\m<=n/\k = .int .i64 m/\wr.heap[w.heap.size]? = some (.cells (List.replicate m (Value.int .i64 x) ++ List.replicate (n - m) (Value.int .i64 0)).toArray 2 (0,0))/\Only [] w wr)
  (fun k _=>n - (intOf k).toNat)
 case atStart=>exact ⟨1,Nat.le_refl _,h1,rfl,hh2,hK2⟩
 case round=>
  obtain ⟨W3,hnew⟩:∃ W,W = wr:=⟨_,rfl⟩
  subst hnew
  obtain ⟨m,hm1,hmn,rfl,hh3,hK3⟩:=hrel
  by_cases hlt:m < n
  ·obtain ⟨k,hk⟩:∃ k,k = Nat.min m (n - m):=⟨_,rfl⟩
   have hk1:1<=k:=by rw [hk];exact Nat.le_min.2 ⟨hm1,by omega⟩
   have hkm:k<=m:=by rw [hk];exact Nat.min_le_left _ _
   have hkn0:k<=n - m:=by rw [hk];exact Nat.min_le_right _ _
   have hkn:m + k<=n:=by omega
   obtain ⟨cs,hcs⟩:∃ cs,cs = List.replicate k (Value.int .i64 x):=⟨_,rfl⟩
   have hcl:cs.length = k:=by rw [hcs];simp
   have p1:cs.length = Nat.min m (n - m):=by rw [hcl];exact hk
   have p5:∀ v∈cs,v.oneCell' = true:=by intro v hv;rw [hcs] at hv;rw [List.eq_of_mem_replicate hv];rfl
   have hO3:=row_own (n:=n) (B:=w.heap.size) (by simp;omega) (Nat.le_refl _) (by unfold maxLen;omega) hh3
   have p2:∀ j v,cs[j]? = some v->W3.drew.cell? ((⟨w.heap.size,0,none⟩:Addr).add j) = some v:=by
    intro j v hj
    have hjl:=(List.getElem?_eq_some_iff.1 hj).1
    rw [Zjx]
    have hcell:=hO3.cellAt j (by simp;omega)
    rw [List.getElem?_append_left (by simp;omega)] at hcell
    rw [Nat.zero_add]
    refine hcell.trans ?_
    rw [<- hj,hcs,List.getElem?_replicate,List.getElem?_replicate,if_pos (by omega),if_pos (by omega)]
   have p4:m + cs.length<=(List.replicate m (Value.int .i64 x) ++ List.replicate (n - m) (Value.int .i64 0)).length:=by simp;omega
   have p3:0 < cs.length->(if n = m then some (⟨w.heap.size,0,none⟩:Addr) else some ⟨w.heap.size,m,none⟩) = some ⟨w.heap.size,m,none⟩/\∃ ad,some (⟨w.heap.size,0,none⟩:Addr) = some ad/\∀ j v,cs[j]? = some v->W3.drew.cell? (ad.add j) = some v:=fun _=>⟨by rw [if_neg (by omega)],_,rfl,p2⟩
   have hsp:=Zkt (Value.int .i64 x) (Value.int .i64 0) m n k
   rw [<- hcs] at hsp
   obtain ⟨cur3,hcur⟩:∃ cur3,cur3 = List.replicate m (Value.int .i64 x) ++ List.replicate (n - m) (Value.int .i64 0):=⟨_,rfl⟩
   rw [<- hcur] at hh3 p4 hsp
   have Hsp:=zH hsp
   have Hwk:=zH (show IntKind.i64.wrap ((m:Int) + ((Nat.min m (n - m):Nat):Int)) = ((m + k:Nat):Int) by rw [<- hk,IntKind.wrap_i64];omega)
   have Hcl:=zH hcl
   clear hk hcs hcl hsp hcur hO3 hh2 h02 hh1 q1 q2 q4 q5 hown
   go_wp2
   go_region_law (refine Zhz rfl (.tmp 41) (.tmp 44) 25 25 rfl 2 Tryz.underlying25 q6 (if n = m then some ⟨w.heap.size,0,none⟩ else some ⟨w.heap.size,m,none⟩) (some ⟨w.heap.size,0,none⟩) (n - m) (n - m) m n ?hd ?hs w.heap.size m cur3 2 hh3 cs p1 p3 p4 p5 ?_;(case hd=>simp [go_sem]);(case hs=>simp [go_sem]);intro w4 hh4 k4)
   all_goals go_wp2_with fail
   all_goals exact ⟨⟨m + k,by omega,hkn,Hwk.out,by rw [<- Hsp.out] <;> exact hh4,hK3.then_ (((Only.refl [w.heap.size] W3).drew).trans k4) (by simp)⟩,by simp only [intOf,Hwk.out];omega⟩
  ·obtain rfl:m = n:=by omega
   rw [Nat.sub_self,List.replicate_zero,List.append_nil] at hh3
   have hO3:=row_own (n:=m) (B:=w.heap.size) (by simp) (Nat.le_refl _) (by unfold maxLen;omega) hh3
   have HA:=zH (AccI.ofRow (l:=List.replicate m x) (by simpa using hO3) (fun y hy=>by rw [List.eq_of_mem_replicate hy];exact hx))
   clear hh3 hO3 hh2 h02 hh1 hown
   go_wp2
   go_ret
   exact ⟨_,rfl,HA.out,hK3⟩
set_option maxHeartbeats 1000000 in
theorem Zvc (n:Nat) (w:World) (hn:n<=1000000) :
  Calls Tryz.prog 123 #[.slice none 0 0,.int .i64 n] w fun e w'=>∃ u,e = .returned u/\AccI w.heap.size 2 w' u []/\Only [] w w':=by
 obtain ⟨i0,hi,hz0,hz1,hz2⟩:=info_parts Tryz.info2
 rcases Nat.eq_zero_or_pos n with h0 | h0
 ·subst h0
  go_enter Tryz.func123,Tryz.ntmps123
  go_wp2
  go_ret
  exact ⟨_,rfl,AccI.nil _ _ _,Only.refl _ _⟩
 ·have h1:IntKind.i64.wrap (n:Int) = n:=by rw [IntKind.wrap_i64];omega
  have happ:=Lib.run_append_nil_zeros (P:=Tryz.prog) w 25 3 25 2 i0 (.int .i64 0) .i64 .i64 Tryz.underlying25 Tryz.underlying3 hi hz0 n h0 (by omega) (by omega) (by rw [hz2];omega)
  have hge:=grownCap_ge w n 0 2
  have hcm:grownCap w n 0 2<=maxLen:=grownCap_le_maxLen w n 0 2 (by unfold maxLen;omega)
  obtain ⟨G,hG⟩:∃ G,G = grownCap w n 0 2:=⟨_,rfl⟩
  rw [<- hG] at happ hge hcm
  have hG3:G<=9223372036854775807:=by unfold maxLen at hcm;exact hcm
  obtain ⟨cur,hcur⟩:∃ cur,cur = Builtin.zeroCells (Value.int .i64 0).cells n ++ Builtin.zeroCells (Value.int .i64 0).cells (G - n):=⟨_,rfl⟩
  have hcl:cur.size = G:=by
   have hzz:(Value.int .i64 0).cells.size = 1:=rfl
   rw [hcur,Array.size_append,size_zeroCells,size_zeroCells,hzz];omega
  rw [<- hcur] at happ
  have Hcl:=zH hcl
  clear hG hcur hcl
  go_enter Tryz.func123,Tryz.ntmps123
  go_wp2_with (at_builtin;refine Lib.wpList_append_run _ rfl _ _ _ _ rfl _ _ rfl rfl _ _ happ ?_)
  go_ret
  refine ⟨_,rfl,AccI.ofRow (l:=[]) ⟨rfl,.inr ⟨w.heap.size,G,cur,rfl,Nat.le_refl _,heap_alloc_new w.drew _,Nat.zero_le _,hcm,by have:=Hcl.out;omega,by simp⟩⟩ (by simp),(zO.drew).alloc _⟩
theorem Zid (L:List (List Int)) (j:Nat) (h:j < L.length):(L.take (j + 1)).flatten = (L.take j).flatten ++ L[j]:=by
 rw [Zac L j h,List.flatten_append];simp
theorem Zin (L:List (List Int)) (j:Nat):(L.take j).flatten.length<=L.flatten.length:=by
 have:(L.take j ++ L.drop j).flatten = (L.take j).flatten ++ (L.drop j).flatten:=List.flatten_append
 rw [List.take_append_drop] at this
 rw [this,List.length_append];omega
set_option maxHeartbeats 4000000 in
theorem Zrd (v:Value) (L:List (List Int)) (fp:List Nat) (w:World) (h:Rd w v L fp) (hs:L.flatten.length<=1000000) :
  Calls Tryz.prog 68 #[v] w fun e w'=>∃ u,e = .returned u/\AccI w.heap.size 2 w' u L.flatten/\Only [] w w':=by
 obtain ⟨i0,hi,hz0,hz1,hz2⟩:=info_parts Tryz.info2
 obtain ⟨a,cap,ob,fps,rfl,-,S⟩:=h.open_
 have hb:=S.bound
 go_enter Tryz.func68,Tryz.ntmps68
 go_wp2
 go_loop [3,11] (fun m i=>∃ j:Nat,j<=L.length/\i = .int .i64 j/\m = .int .i64 ((L.take j).flatten.length:Nat))
  (fun _ i=>L.length - (intOf i).toNat)
 case atStart=>exact ⟨0,Nat.zero_le _,rfl,by simp⟩
 case round=>
  obtain ⟨j,hj,rfl,rfl⟩:=hrel
  by_cases hlt:j < L.length
  ·obtain ⟨b,off,u,rfl,-,hc,hu⟩:=S.atRow j hlt
   obtain ⟨a1,c1,rfl,I1⟩:=hu.ints
   have hb1:=I1.bound
   have e1:=Zid L j hlt
   have e2:=Zin L (j + 1)
   have e3:(L.take (j + 1)).flatten.length = (L.take j).flatten.length + L[j].length:=by rw [e1,List.length_append]
   obtain ⟨p,hp⟩:∃ p,p = (L.take j).flatten.length:=⟨_,rfl⟩
   obtain ⟨q,hq⟩:∃ q,q = L[j].length:=⟨_,rfl⟩
   rw [<- hp,<- hq] at e3
   rw [<- hp]
   rw [<- hq] at hc hb1
   have hw:IntKind.i64.wrap ((p:Int) + (q:Int)) = (p:Int) + q:=by rw [IntKind.wrap_i64];omega
   have hn:¬ ((p:Int) + (q:Int) < 0):=by omega
   have E3:=zH e3
   clear e1 e2 e3 hp hq
   go_wp2
   go_round
   case rel=>exact ⟨j + 1,by omega,by go_num,by rw [E3.out];go_num⟩
   case measure=>simp [intOf];omega
  ·obtain rfl:j = L.length:=by omega
   rw [List.take_length]
   obtain ⟨M,hM⟩:∃ M,M = L.flatten.length:=⟨_,rfl⟩
   rw [<- hM] at hs
   rw [<- hM]
   have HM:=zH hM
   clear hM
   go_wp2_with ((go_at_call 123;(with_reducible refine (Zvc M _ hs).mono ?_);rintro e w1 ⟨u1,rfl,A1,t1⟩))
   go_loopw [6,27] (fun o i wr=>∃ j:Nat,j<=L.length/\i = .int .i64 j/\AccI w.heap.size 2 wr o (L.take j).flatten/\Only [] w wr)
    (fun _ i _=>L.length - (intOf i).toNat)
   case atStart=>exact ⟨0,Nat.zero_le _,rfl,by simpa using A1,t1⟩
   case round=>
    obtain ⟨W2,hnew⟩:∃ W,W = wr:=⟨_,rfl⟩
    subst hnew
    obtain ⟨j,hj,rfl,hA,hK⟩:=hrel
    by_cases hlt:j < L.length
    ·obtain ⟨b,off,u,rfl,-,hc,hu⟩:=S.atRow j hlt
     have hu2:Rd W2 u L[j] _:=zK hu hK
     obtain ⟨a1,c1,rfl,I1⟩:=hu2.ints
     have hb1:=I1.bound
     have hc2:=hK.cell (by simp) hc
     have e1:=Zid L j hlt
     have e2:=Zin L (j + 1)
     have e3:(L.take (j + 1)).flatten.length = (L.take j).flatten.length + L[j].length:=by rw [e1,List.length_append]
     have hsum:(L.take j).flatten.length + L[j].length<=1000000:=by rw [<- e3,<- List.length_map (f:=id)];simp only [List.length_map];have:=HM.out;omega
     obtain ⟨hO,hI⟩:=hA.row
     obtain ⟨q1,q2⟩:=Zfs I1
     have hsz:=hK.size
     obtain ⟨D,hD⟩:∃ D,D = (L.take j).flatten:=⟨_,rfl⟩
     obtain ⟨R,hR⟩:∃ R,R = L[j]:=⟨_,rfl⟩
     rw [<- hD] at hO hI hsum e1
     rw [<- hR] at hc2 hsum q1 q2 hb1 e1
     have HO:=zH hO
     have E1:=zH e1
     have hIR:∀ y∈D ++ R,I64 y:=fun y hy=>by
      rcases List.mem_append.1 hy with hy | hy
      ·exact hI y hy
      ·rw [hR] at hy;exact I1.wf y hy
     have HIR:=zH hIR
     clear hA hO hI e1 e2 e3 hc hu hu2 hD hR I1 hIR
     go_wp2_with (at_builtin;refine Zbr _ rfl _ _ 25 rfl w.heap.size 2 i0 _ 1 8 Tryz.underlying25 hi hz0 hz1 hz2 rfl (by omega) u6 D.length (D.map (Value.int .i64)) rfl HO.out a1 R.length c1 (R.map (Value.int .i64)) rfl (by simp) q1 q2 (Zfq R) (by unfold maxLen;omega) (by omega) hsz ?_;intro v3 w3 hO3 hg3 hb3)
     have hK3:Only [] w w3:=hK.grown hg3 (fun k hk hlt=>by
      have h8:=AccI.ofRow (l:=D) HO.out (fun y hy=>HIR.out y (List.mem_append_left _ hy))
      have:=(h8.ownlt k hk).1
      omega)
     rw [<- List.map_append,<- List.length_append] at hO3
     have hA3:=AccI.ofRow hO3 HIR.out
     go_roundw
     case rel=>exact ⟨j + 1,by omega,by go_num,by rw [E1.out];exact hA3,hK3⟩
     case measure=>simp [intOf];omega
    ·obtain rfl:j = L.length:=by omega
     rw [List.take_length] at hA
     have HA:=zH hA
     clear hA
     go_wp2
     go_ret
     exact ⟨_,rfl,HA.out,hK⟩
theorem Zuu {T:PM.Rows} {n i:Nat} (hi:i < n):PM.ordM T n (n - i) = PM.cntR n T i * PM.ordM T n (n - (i + 1)):=by
 have h1:n - i = (n - (i + 1)) + 1:=by omega
 have h2:n - (n - (i + 1) + 1) = i:=by omega
 rw [h1];simp only [PM.ordM,h2]
theorem ord_end {T:PM.Rows} {n i:Nat} (hi:n<=i):PM.ordM T n (n - i) = 1:=by
 rw [show n - i = 0 by omega];rfl
theorem orb_cnt (n:Nat) (T:PM.Rows) (k:Nat):(orb n T k).length = PM.cntR n T k:=rfl
set_option maxHeartbeats 2000000 in
theorem Zog {e:TypeId} {B:Nat} {L:Lay} {gv:Nat->Value} {n:Nat} {G:PM.Gens} {T:PM.Rows} {M F:List Nat} (w:World) (hC:Ch e B w L gv n G T M F) (hw:PM.WF n T) (hT:L.oT = 2) (k:Nat) (hk:k<=n) :
  Calls Tryz.prog 189 #[.pointer (some ⟨L.g,0,none⟩),.int .i64 k] w fun e w'=>e = .returned (.int .i64 (PM.ordM T n (n - k):Nat))/\Only [] w w':=by
 have hn20:=hC.le
 have hct:=hC.ct
 rw [hT] at hct
 have hcn:=hC.cn
 have HC:=zH hC
 have Hw:=zH hw
 clear hC hw
 go_enter Tryz.func189,Tryz.ntmps189
 go_wp2
 go_loopw [5,6] (fun o i wr=>∃ (j m:Nat),k<=j/\j<=n/\i = .int .i64 j/\o = .int .i64 (m:Nat)/\1<=m/\m * PM.ordM T n (n - j) = PM.ordM T n (n - k)/\Only [] w wr)
  (fun _ i _=>n - (intOf i).toNat)
 case atStart=>exact ⟨k,1,Nat.le_refl _,hk,rfl,rfl,Nat.le_refl _,Nat.one_mul _,Only.refl _ _⟩
 case round=>
  obtain ⟨W2,hnew⟩:∃ W,W = wr:=⟨_,rfl⟩
  subst hnew
  obtain ⟨j,m,hkj,hj,rfl,rfl,hm1,hm,hK⟩:=hrel
  have Hm:=zH hm
  clear hm
  have y0:=hK.cell (by simp) hcn
  have y1:=hK.cell (by simp) hct
  by_cases hlt:j < n
  ·have hC2:=HC.out.keep hK
   have y2:=hC2.row j hlt
   have hstep:=Zuu (T:=T) hlt
   have hoc:=orb_cnt n T j
   have hcp:=PM.Zql Hw.out hlt
   have hor:=PM.Zju Hw.out (n - (j + 1)) (by omega)
   have hmul:(m * PM.cntR n T j) * PM.ordM T n (n - (j + 1)) = PM.ordM T n (n - k):=by rw [Nat.mul_assoc,<- hstep];exact Hm.out
   have hle:m * PM.cntR n T j<=2432902008176640000:=by
    have h1:=PM.ordM_le Hw.out hn20 (m:=n - k) (by omega)
    have h2:m * PM.cntR n T j<=(m * PM.cntR n T j) * PM.ordM T n (n - (j + 1)):=Nat.le_mul_of_pos_right _ hor.1
    omega
   have hpos:1<=m * PM.cntR n T j:=Nat.mul_le_mul hm1 hcp
   obtain ⟨cn,hcnn⟩:∃ cn,cn = PM.cntR n T j:=⟨_,rfl⟩
   rw [<- hcnn] at hmul hle hoc hpos
   have Hmul:=zH hmul
   have Hoc:=zH hoc
   have hwr:IntKind.i64.wrap ((m:Int) * (cn:Int)) = ((m * cn:Nat):Int):=by rw [IntKind.wrap_i64];push_cast;omega
   clear hstep hor hmul hoc hcnn hcp
   go_wp2_with (first
    | (go_at_call 206;(with_reducible refine (Zgx _ (hC2.keep zA) j hlt).mono ?_);rintro e w3 ⟨v3,f3,rfl,A3,F3,t3⟩;have r3:=A3.rd (by decide))
    | (go_at_call 47;(with_reducible refine (Zbg v3 (orb n T j) _ _ (zK r3 zA)).mono ?_);rintro e w4 ⟨he,rfl⟩;rw [Hoc.out] at he;subst he)
    | fail)
   go_roundw
   case rel=>exact ⟨j + 1,m * cn,by omega,by omega,by go_num,rfl,hpos,Hmul.out,zA⟩
   case measure=>simp [intOf];omega
  ·have he:j = n:=by omega
   have hend:=ord_end (T:=T) (n:=n) (i:=j) (by omega)
   have hfin:m = PM.ordM T n (n - k):=by have:=Hm.out;rw [hend,Nat.mul_one] at this;exact this
   have Hfin:=zH hfin
   clear he hend hfin
   go_wp2
   go_ret
   exact ⟨ret_int (by rw [Hfin.out]),hK⟩
theorem implOrder0 {e:TypeId} {B:Nat} {L:Lay} {gv:Nat->Value} {n:Nat} {G:PM.Gens} {T:PM.Rows} {M F:List Nat} {w:World} (hC:Ch e B w L gv n G T M F) (hw:PM.WF n T) (hT:L.oT = 2) :
  Calls Tryz.prog 189 #[.pointer (some ⟨L.g,0,none⟩),.int .i64 0] w fun e w'=>e = .returned (.int .i64 (PM.ordM T n n:Nat))/\Only [] w w':=
 Zog w hC hw hT 0 (Nat.zero_le _)
set_option maxHeartbeats 1000000 in
theorem Zer (cs:List Value) (x:Puzzle) (fp:List Nat) (w:World) (h:Rp.rep w cs x fp) :
  Calls Tryz.prog 158 #[.agg cs.toArray] w fun e w'=>e = .returned (.int .i64 (if validPz x = true then (cardG x:Int) else 0))/\Only [] w w':=by
 have h0:=h
 obtain ⟨v2,rfl,p0,p1,h2⟩:=h
 obtain ⟨A2,C2,ob,fps,rfl,-,-⟩:=h2.open_
 rcases hq:validPz x
 ·go_enter Tryz.func158,Tryz.ntmps158
  go_wp2_with (first
   | (go_at_call 85;(with_reducible refine (Zai [.int .i64 x.points,.string x.names,.slice A2 x.moves.length C2] x _ _ (zK h0 zA)).mono ?_);rintro e w1 ⟨he,t1⟩;rw [hq] at he;subst he) | fail)
  go_ret
  exact ⟨rfl,zA⟩
 ·obtain ⟨n1,n20,hml,-⟩:=Zae hq
  have hmp:=Zag hq
  have Hmp:=zH hmp
  clear hmp
  have X0:=Blk.new w [.int .i64 x.points,.string x.names,.slice A2 x.moves.length C2] 33
  simp only [List.toArray] at X0
  go_enter Tryz.func158,Tryz.ntmps158
  go_wp2_with (first
   | (go_at_call 85;(with_reducible refine (Zai [.int .i64 x.points,.string x.names,.slice A2 x.moves.length C2] x _ _ (zK h0 zA)).mono ?_);rintro e w1 ⟨he,t1⟩;rw [hq] at he;subst he;have X1:=X0.keep t1;obtain ⟨y0,y1,y2⟩:=X1.c3)
   | (go_at_call 180;(with_reducible refine (Zlx x.points n1 n20 _ x.moves _ _ (zK h2 zA) Hmp.out (by omega)).mono ?_);rintro en w3 ⟨L,gv,G,T,M,F,rfl,hoG,hoT,hC,hCh,t3⟩;have HC:=zH hC;have HCh:=zH hCh;have HoT:=zH hoT;clear hC hCh hoT hoG)
   | (go_at_call 189;(with_reducible refine (implOrder0 HC.out HCh.out.inv.wf HoT.out).mono ?_);rintro en w4 ⟨he,t4⟩;rw [Zsj HCh.out (by omega) Hmp.out] at he;subst he) | fail)
  go_ret
  exact ⟨rfl,zA⟩
end Go.Proofs.YtclhblofchfglaaGreat
