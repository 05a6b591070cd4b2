/- The program's distances of all states to a set of them, by a queue (laws 41, 46, 51, 57, 58). -/
import Derived.Test.YtclhblofchfglaaGreatRowCompareSolversG11
import Derived.Test.YtclhblofchfglaaGreatRowCompareSolversG13
import Derived.Test.YtclhblofchfglaaGreatRowCompareSolversG5
import Derived.Test.YtclhblofchfglaaGreatRowCompareSolversG6
import Derived.Deep.RegionHeld3
import Derived.Test.YtclhblofchfglaaGreatRowCompareSolversG9
import Derived.Test.YtclhblofchfglaaGreatRowCompareSolversG10
import Derived.Test.YtclhblofchfglaaGreatRowCompareSolversG8
namespace Go.Proofs.YtclhblofchfglaaGreat
open Go.RowKit
set_option maxRecDepth 10000
structure DQ (e:TypeId) (B:Nat) (w:World) (g c N:Nat) (wr:World) (q:Value) (D Q:List Int):Prop where
 ds:AccI B e wr (.slice (some ⟨g,0,none⟩) N c) D
 qu:Que e B wr q Q
 ap:q.ownBlock ≠ some g
 on:Only [] w wr
section
variable {e:TypeId} {B:Nat} {w:World} {g c N:Nat} {wr wa wb w':World} {q q':Value} {D Q Q':List Int}
theorem DQ.keep (h:DQ e B w g c N wr q D Q) (ho:Only [] wr w'):DQ e B w g c N w' q D Q:=⟨h.ds.keep ho,h.qu.keep ho,h.ap,h.on.trans ho⟩
theorem AccI.len_ {l:List Int} {a:Option Addr} {n c:Nat} (h:AccI B e wr (.slice a n c) l):n = l.length:=by
 obtain ⟨a',c',hv⟩:=h.form
 injection hv
theorem AccI.mono {B':Nat} {v:Value} {l:List Int} (h:AccI B e wr v l) (hB:B'<=B):AccI B' e wr v l:=by
 obtain ⟨hO,hI⟩:=h.row
 refine AccI.ofRow ⟨hO.1,?_⟩ hI
 rcases hO.2 with h | ⟨g,cap,cur,hv,hb,r⟩
 ·exact .inl h
 ·exact .inr ⟨g,cap,cur,hv,Nat.le_trans hB hb,r⟩
theorem DQ.put (h:DQ e B w g c N wr q D Q) (hB:w.heap.size<=B) {i:Nat} (hi:i < D.length) {x:Int} (hx:I64 x) :
  wr.cell? ⟨g,i,none⟩ = some (.int .i64 D[i])/\wr.frozen? ⟨g,i,none⟩ = false/\DQ e B w g c N (wr.setCell ⟨g,i,none⟩ (.int .i64 x)) q (D.set i x) Q:=by
 obtain ⟨g',c',hv,h1,h2,h3,h4⟩:=h.ds.put hi hx
 injection hv with e1 e2 e3
 injection e1 with e1;injection e1 with e1
 subst e1
 have hs:Only [g] wr (wr.setCell ⟨g,i,none⟩ (.int .i64 x)):=zO.setCell (by simp) _
 exact ⟨h1,h2,h4,h.qu.only hs (fun b hb hm=>h.ap (by rw [hb];simp at hm;rw [hm])),h.ap,h.on.then_ hs (fun b hb hl=>by simp at hb;subst hb;omega)⟩
theorem DQ.cell (h:DQ e B w g c N wr q D Q) {i:Nat} (hi:i < D.length):wr.cell? ⟨g,i,none⟩ = some (.int .i64 D[i]):=by
 obtain ⟨g',c',hv,h1,-⟩:=h.ds.put hi (x:=0) (by unfold I64;omega)
 injection hv with e1 e2 e3
 injection e1 with e1;injection e1 with e1
 subst e1
 exact h1
theorem DQ.push (h:DQ e B w g c N wa q D Q) (hw:w.heap.size<=B) (hq:Que e B wb q' Q') (oq:Only q.ownBlock.toList wa wb) (nq:q'.ownBlock = q.ownBlock\/q'.ownBlock = some wa.heap.size):DQ e B w g c N wb q' D Q':=by
 have hg:=(h.ds.ownlt g rfl).2
 refine ⟨h.ds.only oq (fun b hb hm=>?_),hq,Zew nq h.ap hg,h.on.then_ oq (fun b hb hl=>?_)⟩
 ·simp only [Value.ownBlock,Option.some.injEq] at hb
  subst hb
  exact h.ap (by simpa using hm)
 ·have:=(h.qu.lt b (by simpa using hb)).1
  omega
theorem DQ.pop (h:DQ e B w g c N wr q D Q) (hq:Que e B wr q' Q') (ho:q'.ownBlock = q.ownBlock):DQ e B w g c N wr q' D Q':=⟨h.ds,hq,by rw [ho];exact h.ap,h.on⟩
end
def negW (w:World) (g N:Nat):Nat:=((List.range N).filter fun v=>match w.cell? ⟨g,v,none⟩ with | some (.int _ m)=>decide (m < 0) | _=>false).length
theorem DQ.negW_ {e:TypeId} {B:Nat} {w:World} {g c N:Nat} {wr:World} {q:Value} {D Q:List Int} (h:DQ e B w g c N wr q D Q):negW wr g N = negL N D:=by
 have hl:=h.ds.len_
 unfold negW negL
 congr 1
 refine List.filter_congr fun v hv=>?_
 have hv':v < D.length:=by rw [List.mem_range] at hv;omega
 rw [h.cell hv',Zab hv']
section
variable {x:Puzzle} {t:Table} {src:List Int->Bool}
theorem Zux (hb:Built x t) {v:Nat} (hv:v < t.patterns.length):rowT x t (t.patterns.getD v []) = (mRow x t v).map fun (tt:Nat)=>(tt:Int):=by
 unfold rowT mRow
 rw [List.map_map]
 refine List.map_congr_left fun l hl=>?_
 obtain ⟨j,-,-,e⟩:=Zei hb hv hl
 show idxL t.patterns (nxt x (t.patterns.getD v []) l) = (((idxL t.patterns (nxt x (t.patterns.getD v []) l)).toNat:Nat):Int)
 rw [e,Int.toNat_natCast]
end
set_option maxHeartbeats 4000000 in
theorem Zgm (x:Puzzle) (t:Table) (v:Value) (fv:FuncId) (pre caps:Array Value) (src:List Int->Bool) (w:World) (h:Exp w x t v) (he:expl x = some t)
  (hcf:∀ args w,(callFunc fv args).run Tryz.prog w = .ok (.enter fv args) w)
  (hc:∀ i:Nat,i < t.patterns.length->∀ W,Only [] w W->Calls Tryz.prog fv (pre.push (.int .i64 i) ++ caps) W fun e w''=>e = .returned (.bool (src (t.patterns.getD i [])))/\Only [] W w'') :
  Calls Tryz.prog 78 #[v,.func (.func fv) pre caps] w fun e w'=>∃ u,e = .returned u/\AccI w.heap.size 2 w' u (mD x t src)/\Only [] w w':=by
 obtain ⟨g,M,v2,us,ud,up,uy,un,fm,f1,f2,f3,km,rfl,hB,-,hS,-,hN,-⟩:=h
 obtain ⟨hb,-⟩:=Zad he
 obtain ⟨aS,cS,obS,fpS,rfl,-,SS⟩:=hS.open_
 obtain ⟨aN,cN,obN,fpN,rfl,-,SN⟩:=hN.open_
 obtain ⟨i0,hi,hz0,hz1,hz2⟩:=info_parts Tryz.info2
 have hll:=hb.ll
 have hne:=hb.bi.ne
 have HC:=zH hc
 have Hb:=zH hb
 have hlN:(t.patterns.map (rowT x t)).length = t.patterns.length:=List.length_map _
 have y3:=hB.cell 3 rfl
 have y8:=hB.cell 8 rfl
 rw [hlN] at y8
 obtain ⟨N,hNe⟩:∃ N,N = t.patterns.length:=⟨_,rfl⟩
 have HNe:=zH hNe
 have hN1:1<=N:=by rw [hNe];exact hne
 have hN3:N<=3000:=by omega
 obtain ⟨sr,hsr⟩:∃ sr:Nat->Bool,sr = fun i=>src (t.patterns.getD i []):=⟨_,rfl⟩
 obtain ⟨row,hrow⟩:∃ row,row = mRow x t:=⟨_,rfl⟩
 have hfin:mD x t src = (mRun row (N + 1) 0 (mSrc sr N)).1:=by rw [hrow,hsr,hNe];rfl
 have hsr':∀ i:Nat,src (t.patterns.getD i []) = sr i:=fun i=>by rw [hsr]
 have hrl:∀ v,v < N->∀ tt∈row v,tt < N:=fun v hv tt ht=>by rw [hNe] at hv ⊢;rw [hrow] at ht;exact mRow_lt hb hv tt ht
 have hrr:∀ v,v < N->rowT x t (t.patterns.getD v []) = (row v).map fun (tt:Nat)=>(tt:Int):=fun v hv=>by rw [hNe] at hv;rw [hrow];exact Zux hb hv
 have Hfin:=zH hfin
 have Hsr:=zH hsr'
 have Hrl:=zH hrl
 have Hrr:=zH hrr
 rw [<- hNe] at y3 y8
 have hlen:∀ W,Only [] w W->Calls Tryz.prog 97 #[.slice aS N cS] W fun e w'=>e = .returned (.int .i64 N)/\w' = W:=fun W hW=>by
  have:=Zcg _ t.patterns _ W (SS.frame fun b hb=>hW.block b (SS.lt_all b hb) (by simp)).rd
  rwa [<- hNe] at this
 have Hlen:=zH hlen
 clear hlen hc hb hlN hNe hsr hrow hfin hsr' hrl hrr hS hN hne
 go_enter Tryz.func78,Tryz.ntmps78
 have d0:(w.alloc (.cells #[.int .i64 (-1)] 2)).cell? ⟨w.heap.size,0,none⟩ = some (.int .i64 (-1)):=lit1 w _ _ rfl
 have y3a:=((Only.refl [] w).alloc (.cells #[.int .i64 (-1)] 2)).cell (by simp) y3
 go_upto_region 4 with (first
  | (go_at_call 130;(with_reducible refine (Zrz w.heap.size N (-1) _ (by unfold I64;omega) hN1 (by omega) d0).mono ?_);rintro e w1 ⟨u1,rfl,A1,t1⟩;have K1:=((Only.refl [] w).alloc (.cells #[.int .i64 (-1)] 2)).trans t1;have y3':=K1.cell (by simp) y3)
  | (go_at_call 97;(with_reducible refine (Hlen.out _ K1).mono ?_);rintro e w1 ⟨rfl,rfl⟩)
  | fail)
 obtain ⟨g5,c5,hu1,-,-,hg5,-⟩:=A1.put (i:=0) (by rw [List.length_replicate];omega) (x:=0) (by unfold I64;omega)
 rw [List.length_replicate] at hu1
 subst hu1
 rw [<- Zsx (src:=sr)] at A1
 have hcW:∀ i:Nat,i < N->∀ W,Only [] w W->Calls Tryz.prog fv (pre.push (.int .i64 i) ++ caps) W fun e w''=>e = .returned (.bool (sr i))/\Only [] W w'':=fun i hi W hW=>by
  have:=HC.out i (by rw [<- HNe.out];exact hi) W hW
  rwa [Hsr.out i] at this
 have HCW:=zH hcW
 clear hcW HC d0 y3 y3a y3'
 go_loopw [6,22] (fun q i wr=>∃ k:Nat,k<=N/\i = .int .i64 k/\DQ 2 w.heap.size w g5 c5 N wr q (srcD sr N k) (srcQ sr k))
  (fun _ i _=>N - (intOf i).toNat)
 case atStart=>exact ⟨0,Nat.zero_le _,rfl,A1.mono (by simp),(by rw [show srcQ sr 0 = ([]:List Int) from rfl];exact Que.ofAcc (Acc.nil _ _ _) (by simp)),by simp [Value.ownBlock],K1⟩
 case round=>
  obtain ⟨W2,hnew⟩:∃ W,W = wr:=⟨_,rfl⟩
  subst hnew
  obtain ⟨k,hk,rfl,hD⟩:=hrel
  by_cases hlt:k < N
  ·have hK:=hD.on
   have HD:=zH hD
   clear hD
   rcases hs:sr k
   ·have H1:=zH (srcD_no hlt hs)
    have H2:=zH (srcQ_no hs)
    have Hs:=zH hs
    clear hs
    go_wp2_with (with_reducible refine (HCW.out k hlt _ hK).mono ?_;rintro e w3 ⟨he,t3⟩;rw [Hs.out] at he;subst he)
    go_roundw
    case rel=>exact ⟨k + 1,by omega,by go_num,by rw [H1.out,H2.out];exact HD.out.keep t3⟩
    case measure=>simp [intOf];omega
   ·have H1:=zH (Zul hlt hs)
    have H2:=zH (Zpq hs)
    have Hs:=zH hs
    have hql:=Zqi (src:=sr) (k:=k)
    have hkI:I64 (k:Int):=by unfold I64;omega
    clear hs
    go_upto_region 7 with (with_reducible refine (HCW.out k hlt _ hK).mono ?_;rintro e w3 ⟨he,t3⟩;rw [Hs.out] at he;subst he)
    obtain ⟨p1,p2,hD3⟩:=(HD.out.keep t3).put (Nat.le_refl _) (i:=k) (by rw [Zuy hk];omega) (x:=0) (by unfold I64;omega)
    have HD3:=zH hD3
    clear hD3
    go_upto_region 8 with fail
    obtain ⟨w4,hw4⟩:∃ w4,w4 = w3.setCell ⟨g5,k,none⟩ (.int .i64 0):=⟨_,rfl⟩
    rw [<- hw4] at HD3 ⊢
    have HK4:=HD3.out.on.size
    clear hw4 p1 p2
    have hlit:=lit1 w4 (.int .i64 k) 2 rfl
    go_wp2_with (at_builtin;refine Zhp rfl _ _ 25 rfl 2 i0 _ Tryz.underlying25 hi hz0 hz1 hz2 rfl u6 _ rfl (HD3.out.qu.keep (zO.alloc _)) ⟨w4.heap.size,0,none⟩ 1 (k:Int) rfl hkI hlit (by omega) (by simp;omega) ?_;intro v5 w5 hq5 ho5 hn5)
    have hD5:=(HD3.out.keep (zO.alloc (.cells #[.int .i64 k] 2))).push (Nat.le_refl _) hq5 ho5 hn5
    go_roundw
    case rel=>exact ⟨k + 1,by omega,by go_num,by rw [H1.out,H2.out];exact hD5⟩
    case measure=>simp [intOf];omega
  ·obtain rfl:N = k:=by omega
   rw [Zve,Zpn] at hD
   have HD:=zH hD
   have HSN:=zH SN
   have Y8:=zH y8
   clear hD SN SS t1 K1 y8
   go_wp2
   go_loopw [6] (fun q wr=>∃ (k:Nat) (s:MbS),MbI sr row N k [] s/\k<=s.2.length/\mRun row (N + 1 - k) k s = mRun row (N + 1) 0 (mSrc sr N)/\DQ 2 w.heap.size w g5 c5 N wr q s.1 ((s.2.drop k).map fun (i:Nat)=>(i:Int)))
    (fun q wr=>negW wr g5 N + lenV q)
   case atStart=>exact ⟨0,mSrc sr N,MbI.start,Nat.zero_le _,rfl,by simpa using HD.out⟩
   case round=>
    clear HD
    obtain ⟨W2,hnew⟩:∃ W,W = wr:=⟨_,rfl⟩
    subst hnew
    obtain ⟨k,s,hI,hk,hrun,hD⟩:=hrel
    have hms:negW W2 g5 N + lenV u6 = N - k:=by
     rw [hD.negW_,hD.qu.lenV,List.length_map,List.length_drop]
     have:=hI.neg_len
     omega
    by_cases hlt:k < s.2.length
    ·obtain ⟨v0,hv0⟩:∃ v0,v0 = s.2.getD k 0:=⟨_,rfl⟩
     have hvN:v0 < N:=by rw [hv0];exact hI.rng _ (Zdl hlt)
     have hkN:k < N:=Nat.lt_of_lt_of_le hlt hI.len
     have e:=Zii hlt
     rw [<- hv0] at e
     have hD0:=hD
     rw [e,List.map_cons] at hD
     obtain ⟨gq,oq,cq,hu6,hcq1,hcq2,hcq⟩:=hD.qu.head
     obtain ⟨nq1,hnq⟩:∃ n,n = (List.map (fun (i:Nat)=>(i:Int)) (s.2.drop (k + 1))).length:=⟨_,rfl⟩
     rw [<- hnq] at hu6 hcq1
     have hnb:nq1<=3000:=by rw [hnq,List.length_map,List.length_drop];have:=hI.len;omega
     subst hu6
     have hK:=hD.on
     have y8w:=hK.cell (by simp) Y8.out
     obtain ⟨bN,oN,ur,hAN,-,hcN,hur⟩:=HSN.out.atRow v0 (by rw [List.length_map,<- HNe.out];exact hvN)
     subst hAN
     have hcNw:=hK.cell (by simp) hcN
     rw [List.getElem_map] at hur
     have hrv:=Hrr.out v0 hvN
     rw [Zab (by rw [<- HNe.out];exact hvN)] at hrv
     rw [hrv] at hur
     obtain ⟨rw0,hrw0⟩:∃ r:List Nat,r = row v0:=⟨_,rfl⟩
     rw [<- hrw0] at hur
     obtain ⟨aR,cR,hur2,IR⟩:=Rd.ints hur
     rw [List.length_map] at hur2
     subst hur2
     have hrb:rw0.length<=9223372036854775807:=by have:=IR.bound;rwa [List.length_map] at this
     have hvi:(v0:Int) < (N:Int):=by omega
     have HI:=zH hI
     have HD0:=zH hD0
     have Hv0:=zH hv0
     have Hrw:=zH hrw0
     have Hrun:=zH hrun
     have Hms:=zH hms
     clear hI hD0 hD e hv0 hrun hms hnq hur hrv hcN hrw0
     go_wp2
     go_quiet (fail)
     have hKq:Only [] W2 (W2.drewN nq):=Only.ofDrewN W2 nq []
     have hDq:=HD0.out.keep hKq
     have HDq:=zH hDq
     clear hDq HD0 hcq hcNw y8w
     go_wp2
     go_loopw [6,51] (fun q i wr=>∃ j:Nat,j<=rw0.length/\i = .int .i64 j/\DQ 2 w.heap.size w g5 c5 N wr q ((rw0.take j).foldl (mRel v0) s).1 ((((rw0.take j).foldl (mRel v0) s).2.drop k).map fun (i:Nat)=>(i:Int)))
      (fun _ i _=>rw0.length - (intOf i).toNat)
     case atStart=>exact ⟨0,Nat.zero_le _,rfl,HDq.out⟩
     case round=>
      clear HDq
      obtain ⟨W3,hnew⟩:∃ W,W = wr:=⟨_,rfl⟩
      subst hnew
      obtain ⟨j,hj,rfl,hD⟩:=hrel
      have hP:=MbI.part HI.out Hrl.out hlt Hv0.out.symm j
      rw [<- Hrw.out] at hP
      obtain ⟨sj,hsj⟩:∃ sj,sj = (rw0.take j).foldl (mRel v0) s:=⟨_,rfl⟩
      rw [<- hsj] at hP hD
      obtain ⟨hIj,hkj,hvj⟩:=hP
      by_cases hlj:j < rw0.length
      ·have hst:=Znm (mRel v0) rw0 j hlj s
       rw [<- hsj] at hst
       have htm:rw0[j]∈row v0:=by rw [<- Hrw.out];exact List.getElem_mem hlj
       have htN:rw0[j] < N:=Hrl.out v0 hvN _ htm
       obtain ⟨tt,htt⟩:∃ tt,tt = rw0[j]:=⟨_,rfl⟩
       rw [<- htt] at hst htN
       have hK3:=hD.on
       have IR3:=IR.keep hK3
       obtain ⟨bR,oR,hAR,-,hcR⟩:=IR3.at_ j (by rw [List.length_map];exact hlj)
       subst hAR
       rw [List.getElem_map,<- htt] at hcR
       have hdl:=hIj.dl
       have hcT:=hD.cell (i:=tt) (by omega)
       obtain ⟨dt,hdt⟩:∃ dt,dt = sj.1[tt]'(by omega):=⟨_,rfl⟩
       rw [<- hdt] at hcT
       have hdg:sj.1.getD tt 0 = dt:=by rw [Zab (by omega),hdt]
       have httI:I64 (tt:Int):=by unfold I64;omega
       by_cases hneg:dt < 0
       ·rw [Zpb (by rw [hdg];exact hneg)] at hst
        have e:=Zii hkj
        rw [hvj] at e
        have hD0:=hD
        rw [e,List.map_cons] at hD
        obtain ⟨g6,o6,c6,hu6,h61,h62,h63⟩:=hD.qu.head
        obtain ⟨n6,hn6⟩:∃ n,n = (List.map (fun (i:Nat)=>(i:Int)) (sj.2.drop (k + 1))).length:=⟨_,rfl⟩
        rw [<- hn6] at hu6 h61
        have hnb6:n6<=3000:=by rw [hn6,List.length_map,List.length_drop];have:=hIj.len;omega
        subst hu6
        have hcV:=hD.cell (i:=v0) (by omega)
        obtain ⟨dv,hdv⟩:∃ dv,dv = sj.1[v0]'(by omega):=⟨_,rfl⟩
        rw [<- hdv] at hcV
        have hdvg:sj.1.getD v0 0 = dv:=by rw [Zab (by omega),hdv]
        have hdv0:-1<=dv:=by rw [<- hdvg];exact hIj.neg v0 hvN
        have hdvN:dv < N:=by rw [<- hdvg];exact hIj.bound hvN
        rw [hdvg] at hst
        have hwv:IntKind.i64.wrap (dv + 1) = dv + 1:=by rw [IntKind.wrap_i64];omega
        obtain ⟨-,p2,hD4⟩:=hD0.put (Nat.le_refl _) (i:=tt) (by omega) (x:=dv + 1) (by unfold I64;omega)
        have Hst:=zH hst
        have HD4:=zH hD4
        have hdr:(sj.2 ++ [tt]).drop k = sj.2.drop k ++ [tt]:=List.drop_append_of_le_length (by omega)
        have Hdr:=zH hdr
        have hql:((sj.2.drop k).map fun (i:Nat)=>(i:Int)).length + 1<=1073741824:=by rw [List.length_map,List.length_drop];have:=hIj.len;omega
        have Hql:=zH hql
        clear hst hD4 hD hD0 e hdt hdg hdv hdvg hsj htt hdr hql hn6 hvj
        go_upto_region 17 with fail
        obtain ⟨w4,hw4⟩:∃ w4,w4 = W3.setCell ⟨g5,tt,none⟩ (.int .i64 (dv + 1)):=⟨_,rfl⟩
        rw [<- hw4] at HD4 ⊢
        have HK4:=HD4.out.on.size
        clear hw4 p2 hcT hcV hcR h63
        have hlit:=lit1 w4 (.int .i64 tt) 2 rfl
        go_wp2_with (at_builtin;refine Zhp rfl _ _ 25 rfl 2 i0 _ Tryz.underlying25 hi hz0 hz1 hz2 rfl (.slice (some ⟨g6,o6,none⟩) (n6 + 1) c6) _ rfl (HD4.out.qu.keep (zO.alloc _)) ⟨w4.heap.size,0,none⟩ 1 (tt:Int) rfl httI hlit Hql.out (by simp;omega) ?_;intro v5 w5 hq5 ho5 hn5)
        have hD5:=(HD4.out.keep (zO.alloc (.cells #[.int .i64 tt] 2))).push (Nat.le_refl _) hq5 ho5 hn5
        go_roundw
        case rel=>exact ⟨j + 1,by omega,by go_num,by rw [Hst.out];show DQ _ _ _ _ _ _ _ _ (sj.1.set tt (dv + 1)) (((sj.2 ++ [tt]).drop k).map _);rw [Hdr.out,List.map_append];exact hD5⟩
        case measure=>simp [intOf];omega
       ·rw [mRel_no (by rw [hdg];exact hneg)] at hst
        have Hst:=zH hst
        have HD:=zH hD
        have hnb:decide (dt < 0) = false:=decide_eq_false hneg
        clear hst hD hdt hdg hsj htt
        go_wp2
        go_roundw
        case rel=>exact ⟨j + 1,by omega,by go_num,by rw [Hst.out];exact HD.out⟩
        case measure=>simp [intOf];omega
      ·have hje:rw0.length = j:=by omega
       have hst2:sj = (row v0).foldl (mRel v0) s:=by rw [hsj,<- hje,List.take_length,Hrw.out]
       have hIn:=hIj.next hkj (by rw [hvj,<- Hrw.out,<- hje,List.take_length];exact fun _ h=>h)
       have hrun2:mRun row (N + 1 - (k + 1)) (k + 1) sj = mRun row (N + 1) 0 (mSrc sr N):=by
        rw [<- Hrun.out,show N + 1 - k = (N + 1 - (k + 1)) + 1 by omega,mRun_go hlt,hst2,<- Hv0.out];rfl
       have e:=Zii hkj
       rw [e,List.map_cons] at hD
       obtain ⟨v7,hrun7,hq7,ho7⟩:=hD.qu.pop (P:=Tryz.prog) Tryz.underlying25 (fun w=>by simp [sizeOf,typeInfo,hi,hz1])
       have hr7:=hrun7 W3
       have hD7:=hD.pop hq7 ho7
       have HD7:=zH hD7
       have HIn:=zH hIn
       have Hrun2:=zH hrun2
       have hms7:negW W3 g5 N + lenV v7 = N - (k + 1):=by
        rw [hD7.negW_,hq7.lenV,List.length_map,List.length_drop]
        have:=hIn.neg_len
        omega
       have Hms7:=zH hms7
       have Hkj:=zH hkj
       clear hst2 hIn hrun2 e hD hq7 ho7 hD7 hms7 hsj hvj
       go_wp2
       go_roundw
       case rel=>exact ⟨k + 1,sj,HIn.out,Hkj.out,Hrun2.out,HD7.out⟩
       case measure=>rw [Hms.out,Hms7.out];omega
    ·have hke:k = s.2.length:=by omega
     subst hke
     rw [Zjo (by omega)] at hrun
     have Hf:=zH (Hfin.out.trans (by rw [<- hrun]):mD x t src = s.1)
     have HD:=zH hD
     have hz0:lenV u6 = 0:=by rw [hD.qu.lenV];simp
     obtain ⟨a6,c6,hu6⟩:=hD.qu.form
     rw [List.drop_length,List.map_nil,List.length_nil] at hu6
     subst hu6
     clear hD hms hrun hI
     go_wp2
     go_ret
     exact ⟨_,rfl,by rw [Hf.out];exact HD.out.ds,HD.out.on⟩
structure DA (e:TypeId) (B:Nat) (w:World) (g c N:Nat) (wr:World) (q:Value) (D Q:List Int):Prop where
 ds:AccI B e wr (.slice (some ⟨g,0,none⟩) N c) D
 qu:AccI B e wr q Q
 ap:q.ownBlock ≠ some g
 on:Only [] w wr
section
variable {e:TypeId} {B:Nat} {w:World} {g c N:Nat} {wr wa wb w':World} {q q':Value} {D Q Q':List Int}
theorem DA.keep (h:DA e B w g c N wr q D Q) (ho:Only [] wr w'):DA e B w g c N w' q D Q:=⟨h.ds.keep ho,h.qu.keep ho,h.ap,h.on.trans ho⟩
theorem DA.put (h:DA e B w g c N wr q D Q) (hB:w.heap.size<=B) {i:Nat} (hi:i < D.length) {x:Int} (hx:I64 x) :
  wr.cell? ⟨g,i,none⟩ = some (.int .i64 D[i])/\wr.frozen? ⟨g,i,none⟩ = false/\Only [g] wr (wr.setCell ⟨g,i,none⟩ (.int .i64 x))/\DA e B w g c N (wr.setCell ⟨g,i,none⟩ (.int .i64 x)) q (D.set i x) Q:=by
 obtain ⟨g',c',hv,h1,h2,h3,h4⟩:=h.ds.put hi hx
 injection hv with e1 e2 e3
 injection e1 with e1;injection e1 with e1
 subst e1
 have hs:Only [g] wr (wr.setCell ⟨g,i,none⟩ (.int .i64 x)):=zO.setCell (by simp) _
 exact ⟨h1,h2,hs,h4,h.qu.only hs (fun b hb hm=>h.ap (by rw [hb];simp at hm;rw [hm])),h.ap,h.on.then_ hs (fun b hb hl=>by simp at hb;subst hb;omega)⟩
theorem DA.cell (h:DA e B w g c N wr q D Q) {i:Nat} (hi:i < D.length):wr.cell? ⟨g,i,none⟩ = some (.int .i64 D[i]):=by
 obtain ⟨g',c',hv,h1,-⟩:=h.ds.put hi (x:=0) (by unfold I64;omega)
 injection hv with e1 e2 e3
 injection e1 with e1;injection e1 with e1
 subst e1
 exact h1
theorem DA.at_ (h:DA e B w g c N wr q D Q) {i:Nat} (hi:i < Q.length):∃ gq cq,q = .slice (some ⟨gq,0,none⟩) Q.length cq/\wr.cell? ⟨gq,i,none⟩ = some (.int .i64 Q[i]):=by
 obtain ⟨g',c',hv,h1,-⟩:=h.qu.put hi (x:=0) (by unfold I64;omega)
 exact ⟨g',c',hv,h1⟩
theorem DA.push (h:DA e B w g c N wa q D Q) (hw:w.heap.size<=B) (hq:AccI B e wb q' Q') (oq:Only q.ownBlock.toList wa wb) (nq:q'.ownBlock = q.ownBlock\/q'.ownBlock = some wa.heap.size):DA e B w g c N wb q' D Q':=by
 have hg:=(h.ds.ownlt g rfl).2
 refine ⟨h.ds.only oq (fun b hb hm=>?_),hq,Zew nq h.ap hg,h.on.then_ oq (fun b hb hl=>?_)⟩
 ·simp only [Value.ownBlock,Option.some.injEq] at hb
  subst hb
  exact h.ap (by simpa using hm)
 ·have:=(h.qu.ownlt b (by simpa using hb)).1
  omega
end
structure DL (f:List Nat) (W6 wr:World) (q:Value) (g:Nat):Prop where
 kp:∀ b∈f,wr.heap[b]? = W6.heap[b]?
 ga:∀ b∈f,q.ownBlock ≠ some b
 gg:g ∉ f
 gl:∀ b∈f,b < wr.heap.size
section
variable {f:List Nat} {W6 wr wa wb w':World} {q q':Value} {g:Nat}
theorem DL.keep (h:DL f W6 wr q g) (ho:Only [] wr w'):DL f W6 w' q g:=
 ⟨fun b hb=>(ho.block b (h.gl b hb) (by simp)).trans (h.kp b hb),h.ga,h.gg,fun b hb=>Nat.lt_of_lt_of_le (h.gl b hb) ho.size⟩
theorem DL.put (h:DL f W6 wr q g) (ho:Only [g] wr w'):DL f W6 w' q g:=
 ⟨fun b hb=>(ho.block b (h.gl b hb) (fun hm=>h.gg (by simp at hm;rw [<- hm];exact hb))).trans (h.kp b hb),h.ga,h.gg,fun b hb=>Nat.lt_of_lt_of_le (h.gl b hb) ho.size⟩
theorem DL.push (h:DL f W6 wa q g) (oq:Only q.ownBlock.toList wa wb) (nq:q'.ownBlock = q.ownBlock\/q'.ownBlock = some wa.heap.size):DL f W6 wb q' g:=
 ⟨fun b hb=>(oq.block b (h.gl b hb) (fun hm=>h.ga b hb (by simpa using hm))).trans (h.kp b hb),fun b hb=>Zew nq (h.ga b hb) (h.gl b hb),h.gg,fun b hb=>Nat.lt_of_lt_of_le (h.gl b hb) oq.size⟩
theorem DL.ints (h:DL f W6 wr q g) {a:Option Addr} {c:Nat} {l:List Int} (hr:IntsA W6 a c l f):IntsA wr a c l f:=hr.frame fun b hb=>h.kp b hb
end
def srcE (src:Nat->Bool) (N k:Nat):List Int:=((List.range k).map fun i=>if src i = true then (0:Int) else -1) ++ List.replicate (N - k) 0
section
variable {src:Nat->Bool} {N k:Nat}
theorem Zpt (hk:k<=N):(srcE src N k).length = N:=by unfold srcE;simp;omega
theorem Zsv:srcE src N 0 = List.replicate N 0:=by unfold srcE;simp
theorem Ztp:srcE src N N = (mSrc src N).1:=by unfold srcE mSrc;simp
theorem Zqd (hk:k < N) (v:Int):(srcE src N k).set k v = ((List.range k).map fun i=>if src i = true then (0:Int) else -1) ++ v :: List.replicate (N - (k + 1)) 0:=by
 unfold srcE
 rw [List.set_append_right _ _ (by simp),List.length_map,List.length_range,Nat.sub_self,show N - k = (N - (k + 1)) + 1 by omega,List.replicate_succ,List.set_cons_zero]
theorem srcE_no (hk:k < N) (h:src k = false):srcE src N (k + 1) = (srcE src N k).set k (-1):=by
 rw [Zqd hk]
 unfold srcE
 rw [List.range_succ,List.map_append,List.append_assoc]
 simp [h]
theorem Zur (hk:k < N) (h:src k = true):srcE src N (k + 1) = ((srcE src N k).set k (-1)).set k 0:=by
 rw [List.set_set,Zqd hk]
 unfold srcE
 rw [List.range_succ,List.map_append,List.append_assoc]
 simp [h]
end
theorem sIdx_at (x:Puzzle) (t:Table) (v u:Value) (s:List Int) (f:List Nat) (i:Nat) (w:World) {B:Nat} (h:SrF B w x t v) (he:expl x = some t) (hu:Rd w u s f) (hi:i < t.patterns.length) (hs:t.patterns.getD i [] = s) :
  Calls Tryz.prog 126 #[v,u] w fun e w'=>e = .returned (.int .i64 i)/\Only [] w w':=by
 obtain ⟨hb,-⟩:=Zad he
 obtain ⟨A1,A2,A3,C1,C2,C3,so,ob,fps,fd,fz,rfl,hR,hS,-⟩:=h
 exact Zcj A1 A2 A3 C1 C2 C3 true t.patterns t.distances so ob fps fd fz x.points.toNat _ s f _ hR hS hu (by rw [<- hs];exact Zbc he hi) hb.ll i hi hs hb.bi.nd
theorem sIdx_no (x:Puzzle) (t:Table) (v u:Value) (s:List Int) (f:List Nat) (w:World) {B:Nat} (h:SrF B w x t v) (he:expl x = some t) (hu:Rd w u s f) (hl:s.length = x.points.toNat) (hs:s ∉ t.patterns) :
  Calls Tryz.prog 126 #[v,u] w fun e w'=>e = .returned (.int .i64 (-1))/\Only [] w w':=by
 obtain ⟨hb,-⟩:=Zad he
 obtain ⟨A1,A2,A3,C1,C2,C3,so,ob,fps,fd,fz,rfl,hR,hS,-⟩:=h
 exact Zcw A1 A2 A3 C1 C2 C3 true t.patterns t.distances so ob fps fd fz x.points.toNat _ s f _ hR hS hu hl hb.ll hs
theorem SrF.rows {B:Nat} {w:World} {x:Puzzle} {t:Table} {A1 A2 A3:Option Addr} {n1 C1 n2 C2 n3 C3:Nat} {wh:Bool} (h:SrF B w x t (.agg #[.slice A1 n1 C1,.slice A2 n2 C2,.slice A3 n3 C3,.bool wh])):n1 = t.patterns.length/\∃ ob fps,SeqA w A1 C1 t.patterns ob fps:=by
 obtain ⟨A1',A2',A3',C1',C2',C3',so,ob,fps,fd,fz,e,hR,-,-⟩:=h
 injection e with e
 have e1:=congrArg (fun a:Array Value=>a[0]?) e
 simp at e1
 obtain ⟨rfl,rfl,rfl⟩:=e1
 exact ⟨rfl,ob,fps,hR.ls⟩
set_option maxHeartbeats 8000000 in
theorem Zhh (cs:List Value) (x:Puzzle) (t ts:Table) (sub:List Int) (fp:List Nat) (B1 B2:Nat) (A1 A2 A3 A4 A5 A6:Option Addr) (n1 n2 n3 n4 n5 n6 C1 C2 C3 C4 C5 C6:Nat) (wh wg:Bool) (w:World) (h:Rp.rep w cs x fp)
  (hS:SrF B1 w x t (.agg #[.slice A1 n1 C1,.slice A2 n2 C2,.slice A3 n3 C3,.bool wh])) (hG:SrF B2 w (subP x sub) ts (.agg #[.slice A4 n4 C4,.slice A5 n5 C5,.slice A6 n6 C6,.bool wg])) (he:expl x = some t) (h2:expl (subP x sub) = some ts) :
  Calls Tryz.prog 73 #[.agg cs.toArray,.agg #[.slice A1 n1 C1,.slice A2 n2 C2,.slice A3 n3 C3,.bool wh],.agg #[.slice A4 n4 C4,.slice A5 n5 C5,.slice A6 n6 C6,.bool wg]] w fun e w'=>∃ u,e = .returned u/\AccI w.heap.size 2 w' u (mD x t (subS ts))/\Only [] w w':=by
 have h0:=h
 obtain ⟨v2,rfl,p0,p1,h3⟩:=h
 obtain ⟨hb,-⟩:=Zad he
 obtain ⟨q1,q20,q8,-⟩:=Zae hb.v
 obtain ⟨hn1,obL,fpL,SL⟩:=hS.rows
 obtain ⟨i0,hi,hz0,hz1,hz2⟩:=info_parts Tryz.info2
 have hll:=hb.ll
 have hne:=hb.bi.ne
 have Hb:=zH hb
 have He:=zH he
 have H2:=zH h2
 obtain ⟨N,hNe⟩:∃ N,N = t.patterns.length:=⟨_,rfl⟩
 rw [<- hNe] at hn1
 subst hn1
 have HNe:=zH hNe
 have hN1:1<=n1:=by rw [hNe];exact hne
 have hN3:n1<=3000:=by omega
 obtain ⟨sr,hsr⟩:∃ sr:Nat->Bool,sr = fun i=>subS ts (t.patterns.getD i []):=⟨_,rfl⟩
 obtain ⟨row,hrow⟩:∃ row,row = mRow x t:=⟨_,rfl⟩
 have hfin:mD x t (subS ts) = (mRun row (n1 + 1) 0 (mSrc sr n1)).1:=by rw [hrow,hsr,hNe];rfl
 have hsr':∀ i:Nat,subS ts (t.patterns.getD i []) = sr i:=fun i=>by rw [hsr]
 have hrl:∀ v,v < n1->∀ tt∈row v,tt < n1:=fun v hv tt ht=>by rw [hNe] at hv ⊢;rw [hrow] at ht;exact mRow_lt hb hv tt ht
 have Hfin:=zH hfin
 have Hsr:=zH hsr'
 have Hrl:=zH hrl
 have Hrow:=zH hrow
 have X0:Blk (((w.alloc (.cells #[.int .i64 x.points,.string x.names,v2] 33)).alloc (.cells #[.slice A1 n1 C1,.slice A2 n2 C2,.slice A3 n3 C3,.bool wh] 85)).alloc (.cells #[.slice A4 n4 C4,.slice A5 n5 C5,.slice A6 n6 C6,.bool wg] 85)) w.heap.size [.int .i64 x.points,.string x.names,v2]:=((Blk.new w [.int .i64 x.points,.string x.names,v2] 33).keep (zO.alloc _)).keep (zO.alloc _)
 have F0:Blk (((w.alloc (.cells #[.int .i64 x.points,.string x.names,v2] 33)).alloc (.cells #[.slice A1 n1 C1,.slice A2 n2 C2,.slice A3 n3 C3,.bool wh] 85)).alloc (.cells #[.slice A4 n4 C4,.slice A5 n5 C5,.slice A6 n6 C6,.bool wg] 85)) (w.heap.size + 1) [.slice A1 n1 C1,.slice A2 n2 C2,.slice A3 n3 C3,.bool wh]:=(Blk.new_at (w:=w.alloc (.cells #[.int .i64 x.points,.string x.names,v2] 33)) (cs:=[.slice A1 n1 C1,.slice A2 n2 C2,.slice A3 n3 C3,.bool wh]) (by simp)).keep (zO.alloc _)
 have G0:Blk (((w.alloc (.cells #[.int .i64 x.points,.string x.names,v2] 33)).alloc (.cells #[.slice A1 n1 C1,.slice A2 n2 C2,.slice A3 n3 C3,.bool wh] 85)).alloc (.cells #[.slice A4 n4 C4,.slice A5 n5 C5,.slice A6 n6 C6,.bool wg] 85)) (w.heap.size + 1 + 1) [.slice A4 n4 C4,.slice A5 n5 C5,.slice A6 n6 C6,.bool wg]:=Blk.new_at (by simp)
 obtain ⟨W0,hW0⟩:∃ W0,W0 = (((w.alloc (.cells #[.int .i64 x.points,.string x.names,v2] 33)).alloc (.cells #[.slice A1 n1 C1,.slice A2 n2 C2,.slice A3 n3 C3,.bool wh] 85)).alloc (.cells #[.slice A4 n4 C4,.slice A5 n5 C5,.slice A6 n6 C6,.bool wg] 85)):=⟨_,rfl⟩
 have K0:Only [] w W0:=by rw [hW0];exact ((zO.alloc _).alloc _).alloc _
 have HW0:=zH hW0
 rw [<- hW0] at X0 F0 G0
 have f00:=F0.cell 0 rfl
 clear hW0 p0 p1 h3 hb he h2 hNe hsr hrow hfin hsr' hrl hne
 go_enter Tryz.func73,Tryz.ntmps73
 go_upto_region 1 with fail
 rw [<- HW0.out]
 go_upto_region 2 with (at_make;refine wpList_make_full _ rfl _ _ 25 rfl W0.heap.size 2 i0 _ 1 Tryz.underlying25 hi hz0 hz1 _ _ _ _ n1 rfl rfl rfl rfl (by rw [hz2];omega) (by unfold maxLen;omega) (Nat.le_refl _) ?_;intro w1 hown hg)
 rw [madeInts,Nat.mul_one] at hown
 have A0:AccI W0.heap.size 2 w1 (.slice (some ⟨W0.heap.size,0,none⟩) n1 n1) (List.replicate n1 0):=by
  refine AccI.ofRow ?_ (fun y hy=>by rw [List.eq_of_mem_replicate hy];unfold I64;omega)
  rw [Zpo,List.length_replicate];exact hown
 have k01:Only [] W0 w1:=zO.grown hg (by simp)
 have hs1:W0.heap.size < w1.heap.size:=(A0.ownlt _ rfl).2
 rw [<- Zsv (src:=sr)] at A0
 clear hown hg f00
 go_upto_region 4 with fail
 have D0:DA 2 W0.heap.size W0 W0.heap.size n1 n1 (w1.alloc (.cells #[] 2)) (.slice (some ⟨w1.heap.size,0,none⟩) 0 0) (srcE sr n1 0) (srcQ sr 0):=⟨A0.keep (zO.alloc _),AccI.made w1 W0.heap.size 2 rfl (by omega),by simp [Value.ownBlock];omega,k01.alloc _⟩
 clear A0 k01 hs1
 go_loopw [8,9] (fun q i wr=>∃ k:Nat,k<=n1/\i = .int .i64 k/\DA 2 W0.heap.size W0 W0.heap.size n1 n1 wr q (srcE sr n1 k) (srcQ sr k))
  (fun _ i _=>n1 - (intOf i).toNat)
 case atStart=>exact ⟨0,Nat.zero_le _,rfl,D0⟩
 case round=>
  clear D0
  obtain ⟨W2,hnew⟩:∃ W,W = wr:=⟨_,rfl⟩
  subst hnew
  obtain ⟨k,hk,rfl,hD⟩:=hrel
  by_cases hlt:k < n1
  ·obtain ⟨p1,p2,-,hD1⟩:=hD.put (Nat.le_refl _) (i:=k) (by rw [Zpt hk];exact hlt) (x:=-1) (by unfold I64;omega)
   have hlk:k < t.patterns.length:=by rw [<- HNe.out];exact hlt
   obtain ⟨bL,oL,ur,hAL,-,hcL,hur⟩:=SL.atRow k hlk
   subst hAL
   rw [show t.patterns[k] = t.patterns.getD k [] from (Zab hlk).symm] at hur
   obtain ⟨aU,cU,rfl,IU⟩:=hur.ints
   have hsl:=Zbc He.out hlk
   have hsk:=Hsr.out k
   have HD1:=zH hD1
   clear hD hD1
   go_upto_region 7 with fail
   obtain ⟨w3,hw3⟩:∃ w3,w3 = W2.setCell ⟨W0.heap.size,k,none⟩ (.int .i64 (-1)):=⟨_,rfl⟩
   rw [<- hw3] at HD1 ⊢
   clear hw3 p1 p2
   have kW:=HD1.out.on
   have hK3:=K0.trans kW
   have hcL3:=hK3.cell (by simp) hcL
   have f0:=(F0.keep kW).cell 0 rfl
   have g0:=(G0.keep kW).cell 0 rfl
   have g1:=(G0.keep kW).cell 1 rfl
   have g2:=(G0.keep kW).cell 2 rfl
   have g3:=(G0.keep kW).cell 3 rfl
   obtain ⟨s,hs⟩:∃ s,s = t.patterns.getD k []:=⟨_,rfl⟩
   rw [<- hs] at hcL3 IU hsl hsk
   have hkn:(k:Int) < n1:=by omega
   rcases hsr:sr k
   ·have hm:s ∉ ts.patterns:=by rw [hsr] at hsk;exact of_decide_eq_false hsk
    have Hc:=zH (fun (W:World) (hW:Only [] w3 W)=>sIdx_no (subP x sub) ts (.agg #[.slice A4 n4 C4,.slice A5 n5 C5,.slice A6 n6 C6,.bool wg]) (.slice aU s.length cU) s _ W (hG.keep (hK3.trans hW)) H2.out ((IU.keep (hK3.trans hW)).rd) hsl hm)
    have He1:=zH (srcE_no hlt hsr)
    have He2:=zH (srcQ_no hsr)
    clear hsl hsk hsr hm hs hur hcL hK3
    go_wp2
    go_region_held3 (fun w'=>Only [] w3 w'/\w'.cell? ⟨w.heap.size + 1 + 1,0,none⟩ = some (.slice A4 n4 C4)/\w'.cell? ⟨w.heap.size + 1 + 1,1,none⟩ = some (.slice A5 n5 C5)/\w'.cell? ⟨w.heap.size + 1 + 1,2,none⟩ = some (.slice A6 n6 C6)/\w'.cell? ⟨w.heap.size + 1 + 1,3,none⟩ = some (.bool wg)/\w'.cell? ⟨w.heap.size + 1,0,none⟩ = some (.slice (some ⟨bL,oL,none⟩) n1 C1)/\w'.cell? ⟨bL,oL + k,none⟩ = some (.slice aU s.length cU)) (((refine and_of ?_ (fun q_=>⟨q_.ce g0,q_.ce g1,q_.ce g2,q_.ce g3,q_.ce f0,q_.ce hcL3⟩));first | exact zO.drew | exact (zO.drewN _).drew | exact Only.trans (And.left (by assumption)) (by assumption) | exact Only.alloc (And.left (by assumption)) _ | assumption)) (first | (go_at_call 126;(with_reducible refine (Hc.out _ (And.left (by assumption))).mono ?_);rintro e w5 ⟨rfl,t5⟩) | fail)
    have k5:Only [] w3 w5:=(Only.refl [] w3).trans (And.left (by assumption))
    go_wp2
    go_roundw
    case rel=>exact ⟨k + 1,by omega,by go_num,by rw [He1.out,He2.out];exact HD1.out.keep k5⟩
    case measure=>simp [intOf];omega
   ·have hm:s∈ts.patterns:=by rw [hsr] at hsk;exact of_decide_eq_true hsk
    obtain ⟨j,hj,hjs⟩:=List.getElem_of_mem hm
    have Hc:=zH (fun (W:World) (hW:Only [] w3 W)=>sIdx_at (subP x sub) ts (.agg #[.slice A4 n4 C4,.slice A5 n5 C5,.slice A6 n6 C6,.bool wg]) (.slice aU s.length cU) s _ j W (hG.keep (hK3.trans hW)) H2.out ((IU.keep (hK3.trans hW)).rd) hj (by rw [Zab hj,hjs]))
    have He1:=zH (Zur hlt hsr)
    have He2:=zH (Zpq hsr)
    have hql:=Zqi (src:=sr) (k:=k)
    have hkI:I64 (k:Int):=by unfold I64;omega
    have hj0:(0:Int)<=(j:Int):=by omega
    clear hsl hsk hsr hm hs hur hcL hK3 hjs
    go_wp2
    go_region_held3 (fun w'=>Only [] w3 w'/\w'.cell? ⟨w.heap.size + 1 + 1,0,none⟩ = some (.slice A4 n4 C4)/\w'.cell? ⟨w.heap.size + 1 + 1,1,none⟩ = some (.slice A5 n5 C5)/\w'.cell? ⟨w.heap.size + 1 + 1,2,none⟩ = some (.slice A6 n6 C6)/\w'.cell? ⟨w.heap.size + 1 + 1,3,none⟩ = some (.bool wg)/\w'.cell? ⟨w.heap.size + 1,0,none⟩ = some (.slice (some ⟨bL,oL,none⟩) n1 C1)/\w'.cell? ⟨bL,oL + k,none⟩ = some (.slice aU s.length cU)) (((refine and_of ?_ (fun q_=>⟨q_.ce g0,q_.ce g1,q_.ce g2,q_.ce g3,q_.ce f0,q_.ce hcL3⟩));first | exact zO.drew | exact (zO.drewN _).drew | exact Only.trans (And.left (by assumption)) (by assumption) | exact Only.alloc (And.left (by assumption)) _ | assumption)) (first | (go_at_call 126;(with_reducible refine (Hc.out _ (And.left (by assumption))).mono ?_);rintro e w5 ⟨rfl,t5⟩) | fail)
    have k5:Only [] w3 w5:=(Only.refl [] w3).trans (And.left (by assumption))
    obtain ⟨p1,p2,-,hD6⟩:=(HD1.out.keep k5).put (Nat.le_refl _) (i:=k) (by rw [List.length_set,Zpt hk];exact hlt) (x:=0) (by unfold I64;omega)
    have HD6:=zH hD6
    clear hD6
    go_upto_region 9 with fail
    obtain ⟨w6,hw6⟩:∃ w6,w6 = w5.setCell ⟨W0.heap.size,k,none⟩ (.int .i64 0):=⟨_,rfl⟩
    rw [<- hw6] at HD6 ⊢
    have HK6:=HD6.out.on.size
    clear hw6 p1 p2 f0 g0 g1 g2 g3 hcL3
    go_wp2_with (at_builtin;refine Zap rfl _ _ 25 rfl W0.heap.size 2 i0 _ Tryz.underlying25 hi hz0 hz1 hz2 rfl w6 u8 _ rfl HD6.out.qu (zO.alloc _) HK6 w6.heap.size 1 (k:Int) rfl (lit1 w6 _ _ rfl) hkI (by omega) ?_;intro v9 w9 hA9 hO9 hP9 hN9)
    have hD9:=(HD6.out.keep (zO.alloc (.cells #[.int .i64 k] 2))).push (Nat.le_refl _) hA9 hO9 hN9
    go_roundw
    case rel=>exact ⟨k + 1,by omega,by go_num,by rw [He1.out,He2.out];exact hD9⟩
    case measure=>simp [intOf];omega
  ·obtain rfl:n1 = k:=by omega
   rw [Ztp,Zpn] at hD
   have HD:=zH hD
   clear hD
   have X2:=X0.keep HD.out.on
   obtain ⟨x0,x1,x2⟩:=X2.c3
   have KW2:=K0.trans HD.out.on
   go_upto_region 12 with (first
    | (go_at_call 127;(with_reducible refine (Zcf [.int .i64 x.points,.string x.names,v2] x _ _ (zK h0 KW2) (by omega)).mono ?_);rintro e w6 ⟨u6,f6,rfl,r6,F6,t6⟩;obtain ⟨a6,c6,rfl,I6⟩:=r6.ints)
    | fail)
   have hg0:W0.heap.size < W2.heap.size:=(HD.out.ds.ownlt _ rfl).2
   have hq0:=fun b hb=>(HD.out.qu.ownlt b hb).2
   have DL0:DL f6 w6 w6 u8 W0.heap.size:=⟨fun _ _=>rfl,fun b hb he=>(by have:=F6.ge b hb;have:=hq0 b he;omega),fun hb=>(by have:=F6.ge _ hb;omega),F6.lt⟩
   have D0:=HD.out.keep t6
   obtain ⟨ls,hls⟩:∃ ls,ls = ltrs x.moves.length:=⟨_,rfl⟩
   rw [<- hls] at I6 ⊢
   have Hls:=zH hls
   clear HD x0 x1 x2 X2 KW2 r6 F6 t6 hg0 hq0 hls
   go_loopw [8,11] (fun q i wr=>∃ (k:Nat) (s:MbS),MbI sr row n1 k [] s/\k<=s.2.length/\mRun row (n1 + 1 - k) k s = mRun row (n1 + 1) 0 (mSrc sr n1)/\i = .int .i64 k/\DA 2 W0.heap.size W0 W0.heap.size n1 n1 wr q s.1 (s.2.map fun (i:Nat)=>(i:Int))/\DL f6 w6 wr q W0.heap.size)
    (fun _ i _=>n1 - (intOf i).toNat)
   case atStart=>exact ⟨0,mSrc sr n1,MbI.start,Nat.zero_le _,rfl,rfl,D0,DL0⟩
   case round=>
    clear D0 DL0
    obtain ⟨W2,hnew⟩:∃ W,W = wr:=⟨_,rfl⟩
    subst hnew
    obtain ⟨k,s,hI,hk,hrun,rfl,hD,hDL⟩:=hrel
    by_cases hlt:k < s.2.length
    ·obtain ⟨v0,hv0⟩:∃ v0,v0 = s.2.getD k 0:=⟨_,rfl⟩
     have hvN:v0 < n1:=by rw [hv0];exact hI.rng _ (Zdl hlt)
     have hkN:k < n1:=Nat.lt_of_lt_of_le hlt hI.len
     obtain ⟨gq,cq,hu8,-⟩:=hD.at_ (i:=k) (by rw [List.length_map];exact hlt)
     rw [List.length_map] at hu8
     obtain ⟨nq,hnq⟩:∃ n,n = s.2.length:=⟨_,rfl⟩
     rw [<- hnq] at hu8
     have hnk:(k:Int) < nq:=by omega
     obtain ⟨rw0,hrw0⟩:∃ r:List Nat,r = row v0:=⟨_,rfl⟩
     have hrwl:rw0.length = ls.length:=by rw [hrw0,Hrow.out,Hls.out];simp [mRow]
     have HI:=zH hI
     have HD:=zH hD
     have HDL:=zH hDL
     have Hv0:=zH hv0
     have Hrw:=zH hrw0
     have Hrun:=zH hrun
     have Hrwl:=zH hrwl
     clear hI hD hDL hv0 hrw0 hrun hnq hrwl
     subst hu8
     go_wp2
     go_loopw [8,12] (fun q jv wr=>∃ j':Nat,j'<=ls.length/\jv = .int .i64 j'/\DA 2 W0.heap.size W0 W0.heap.size n1 n1 wr q ((rw0.take j').foldl (mRel v0) s).1 (((rw0.take j').foldl (mRel v0) s).2.map fun (i:Nat)=>(i:Int))/\DL f6 w6 wr q W0.heap.size)
      (fun _ jv _=>ls.length - (intOf jv).toNat)
     case atStart=>exact ⟨0,Nat.zero_le _,rfl,HD.out,HDL.out⟩
     case round=>
      clear HD HDL
      obtain ⟨W3,hnew⟩:∃ W,W = wr:=⟨_,rfl⟩
      subst hnew
      obtain ⟨j',hj,rfl,hD,hDL⟩:=hrel
      have hP:=MbI.part HI.out Hrl.out hlt Hv0.out.symm j'
      rw [<- Hrw.out] at hP
      obtain ⟨sj,hsj⟩:∃ sj,sj = (rw0.take j').foldl (mRel v0) s:=⟨_,rfl⟩
      rw [<- hsj] at hP hD
      obtain ⟨hIj,hkj,hvj⟩:=hP
      have I6w:=hDL.ints I6
      have hlb:=I6w.bound
      by_cases hlj:j' < ls.length
      ·have hlr:j' < rw0.length:=by rw [Hrwl.out];exact hlj
       have hst:=Znm (mRel v0) rw0 j' hlr s
       rw [<- hsj] at hst
       have hla:ls[j']∈ltrs x.moves.length:=by rw [<- Hls.out];exact List.getElem_mem hlj
       have hvt:v0 < t.patterns.length:=by rw [<- HNe.out];exact hvN
       obtain ⟨i',hi',hpi,hix⟩:=Zei Hb.out hvt hla
       have htt:rw0[j'] = i':=by
        have e1:rw0[j'] = (idxL t.patterns (nxt x (t.patterns.getD v0 []) ls[j'])).toNat:=by
         simp [Hrw.out,Hrow.out,mRow,Hls.out]
        rw [e1,hix,Int.toNat_natCast]
       rw [htt] at hst
       have htN:i' < n1:=by rw [HNe.out];exact hi'
       obtain ⟨bl,ol,rfl,-,hcl⟩:=I6w.at_ j' hlj
       obtain ⟨l,hl⟩:∃ l,l = ls[j']:=⟨_,rfl⟩
       rw [<- hl] at hcl hla hpi
       obtain ⟨gq,cq,hu8,hcQ⟩:=hD.at_ (i:=k) (by rw [List.length_map];exact hkj)
       rw [List.getElem_map,<- Zab (z:=0) hkj,hvj] at hcQ
       rw [List.length_map] at hu8
       obtain ⟨nq',hnq'⟩:∃ n,n = sj.2.length:=⟨_,rfl⟩
       rw [<- hnq'] at hu8
       have hnk':(k:Int) < nq':=by omega
       have hnq3:nq'<=3000:=by have:=hIj.len;omega
       subst hu8
       have hK3:=K0.trans hD.on
       obtain ⟨bL,oL,ur,hAL,-,hcL,hur⟩:=SL.atRow v0 hvt
       subst hAL
       rw [show t.patterns[v0] = t.patterns.getD v0 [] from (Zab hvt).symm] at hur
       obtain ⟨aU,cU,rfl,IU⟩:=hur.ints
       have hrng:=(Zaq.1 (Zda He.out hvt)).2.1
       have hql:(t.patterns.getD v0 []).length<=1000:=by rw [Zbc He.out hvt];omega
       obtain ⟨pt,hpt⟩:∃ pt,pt = t.patterns.getD v0 []:=⟨_,rfl⟩
       rw [<- hpt] at hcL IU hrng hql hpi
       have hcL3:=hK3.cell (by simp) hcL
       have Hc:=zH (fun (W:World) (hW:Only [] W3 W)=>Zbj [.int .i64 x.points,.string x.names,v2] x _ (.slice aU pt.length cU) pt _ l W (zK h0 (hK3.trans hW)) ((IU.keep (hK3.trans hW)).rd) Hb.out.v hla hrng hql)
       have Hs:=zH (fun (W:World) (u:Value) (f:List Nat) (hW:Only [] W3 W) (hr:Rd W u (nxt x pt l) f)=>sIdx_at x t (.agg #[.slice (some ⟨bL,oL,none⟩) n1 C1,.slice A2 n2 C2,.slice A3 n3 C3,.bool wh]) u (nxt x pt l) f i' W (hS.keep (hK3.trans hW)) He.out hr hi' hpi)
       obtain ⟨nx,hnx⟩:∃ nx,nx = nxt x pt l:=⟨_,rfl⟩
       rw [<- hnx] at Hc Hs
       have kW:=hD.on
       have f0:=(F0.keep kW).cell 0 rfl
       have f1:=(F0.keep kW).cell 1 rfl
       have f2:=(F0.keep kW).cell 2 rfl
       have f3:=(F0.keep kW).cell 3 rfl
       have x0:=(X0.keep kW).cell 0 rfl
       have x1:=(X0.keep kW).cell 1 rfl
       have x2:=(X0.keep kW).cell 2 rfl
       have hvi:(v0:Int) < n1:=by omega
       have hji:(j':Int) < ls.length:=by omega
       have hdl:=hIj.dl
       have HD:=zH hD
       have HDL:=zH hDL
       have HIj:=zH hIj
       have Hvj:=zH hvj
       have Hst:=zH hst
       obtain ⟨dt,hdt⟩:∃ dt,dt = sj.1[i']'(by omega):=⟨_,rfl⟩
       have hdg:sj.1.getD i' 0 = dt:=by rw [Zab (by omega),hdt]
       have hcT:=fun (W:World) (hW:Only [] W3 W)=>(hD.keep hW).cell (i:=i') (by omega)
       rw [<- hdt] at hcT
       have HcT:=zH hcT
       have Hdg:=zH hdg
       have HcQ:=zH hcQ
       have hdlv:v0 < sj.1.length:=by omega
       have hdlt:i' < sj.1.length:=by omega
       have Hln:=zH hnq'
       clear hD hDL hIj hst hdt hdg hcT hnx hpt hpi hix hla hrng hql hl hvj hur hcL htt hi' hdl hsj hnq' I6w
       go_wp2
       go_region_held3 (fun w'=>Only [] W3 w'/\w'.cell? ⟨w.heap.size + 1,0,none⟩ = some (.slice (some ⟨bL,oL,none⟩) n1 C1)/\w'.cell? ⟨w.heap.size + 1,1,none⟩ = some (.slice A2 n2 C2)/\w'.cell? ⟨w.heap.size + 1,2,none⟩ = some (.slice A3 n3 C3)/\w'.cell? ⟨w.heap.size + 1,3,none⟩ = some (.bool wh)/\w'.cell? ⟨w.heap.size,0,none⟩ = some (.int .i64 x.points)/\w'.cell? ⟨w.heap.size,1,none⟩ = some (.string x.names)/\w'.cell? ⟨w.heap.size,2,none⟩ = some (v2)/\w'.cell? ⟨gq,k,none⟩ = some (.int .i64 v0)/\w'.cell? ⟨bL,oL + v0,none⟩ = some (.slice aU pt.length cU)/\w'.cell? ⟨bl,ol + j',none⟩ = some (.int .i64 l)) (((refine and_of ?_ (fun q_=>⟨q_.ce f0,q_.ce f1,q_.ce f2,q_.ce f3,q_.ce x0,q_.ce x1,q_.ce x2,q_.ce hcQ,q_.ce hcL3,q_.ce hcl⟩));first | exact zO.drew | exact (zO.drewN _).drew | exact Only.trans (And.left (by assumption)) (by assumption) | exact Only.alloc (And.left (by assumption)) _ | assumption)) (first | (go_at_call 128;(with_reducible refine (Hc.out _ (And.left (by assumption))).mono ?_);rintro e w5 ⟨u5,f5,rfl,r5,F5,t5⟩) | (go_at_call 126;(with_reducible refine (Hs.out _ u5 f5 (And.left (by assumption)) (zK r5 zA)).mono ?_);rintro e w7 ⟨rfl,t7⟩) | fail)
       have k7:Only [] W3 w7:=(Only.refl [] W3).trans (And.left (by assumption))
       have hcT7:=HcT.out _ k7
       have hD7:=HD.out.keep k7
       have hDL7:=HDL.out.keep k7
       by_cases hneg:dt < 0
       ·have hst:=Hst.out
        rw [Zpb (by rw [Hdg.out];exact hneg)] at hst
        have hcV:=hD7.cell (i:=v0) hdlv
        obtain ⟨dv,hdv⟩:∃ dv,dv = sj.1[v0]:=⟨_,rfl⟩
        rw [<- hdv] at hcV
        have hdvg:sj.1.getD v0 0 = dv:=by rw [Zab hdlv,hdv]
        have hdv0:-1<=dv:=by rw [<- hdvg];exact HIj.out.neg v0 hvN
        have hdvN:dv < n1:=by rw [<- hdvg];exact HIj.out.bound hvN
        rw [hdvg] at hst
        have hwv:IntKind.i64.wrap (dv + 1) = dv + 1:=by rw [IntKind.wrap_i64];omega
        obtain ⟨-,p2,p3,hD8⟩:=hD7.put (Nat.le_refl _) (i:=i') hdlt (x:=dv + 1) (by unfold I64;omega)
        have hDL8:=hDL7.put p3
        have HD8:=zH hD8
        have HDL8:=zH hDL8
        have Hst2:=zH hst
        have hcQ7:=k7.cell (by
         have:=(HD.out.qu.ownlt gq rfl)
         simp) HcQ.out
        have httI:I64 (i':Int):=by unfold I64;omega
        have hql2:(sj.2.map fun (i:Nat)=>(i:Int)).length + 1<=1073741824:=by rw [List.length_map,<- Hln.out];omega
        have Hql2:=zH hql2
        clear hst hD7 hDL7 hD8 hDL8 hdv hdvg hql2 p3 x0 x1 x2 f0 f1 f2 f3 hcL3 hcl hcQ
        go_upto_region 20 with fail
        obtain ⟨w8,hw8⟩:∃ w8,w8 = w7.setCell ⟨W0.heap.size,i',none⟩ (.int .i64 (dv + 1)):=⟨_,rfl⟩
        rw [<- hw8] at HD8 HDL8 ⊢
        have HK8:=HD8.out.on.size
        clear hw8 p2 hcT7 hcV hcQ7
        go_wp2_with (at_builtin;refine Zap rfl _ _ 25 rfl W0.heap.size 2 i0 _ Tryz.underlying25 hi hz0 hz1 hz2 rfl w8 (.slice (some ⟨gq,0,none⟩) nq' cq) _ rfl HD8.out.qu (zO.alloc _) HK8 w8.heap.size 1 (i':Int) rfl (lit1 w8 _ _ rfl) httI Hql2.out ?_;intro v9 w9 hA9 hO9 hP9 hN9)
        have hD9:=(HD8.out.keep (zO.alloc (.cells #[.int .i64 i'] 2))).push (Nat.le_refl _) hA9 hO9 hN9
        have hDL9:=(HDL8.out.keep (zO.alloc (.cells #[.int .i64 i'] 2))).push hO9 hN9
        go_roundw
        case rel=>exact ⟨j' + 1,by omega,by go_num,by rw [Hst2.out,List.map_append];exact hD9,hDL9⟩
        case measure=>simp [intOf];omega
       ·have hst:=Hst.out
        rw [mRel_no (by rw [Hdg.out];exact hneg)] at hst
        have Hst2:=zH hst
        have hnb:decide (dt < 0) = false:=decide_eq_false hneg
        have HD7:=zH hD7
        have HDL7:=zH hDL7
        clear hst hD7 hDL7 x0 x1 x2 f0 f1 f2 f3 hcL3 hcl hcQ
        go_wp2
        go_roundw
        case rel=>exact ⟨j' + 1,by omega,by go_num,by rw [Hst2.out];exact HD7.out,HDL7.out⟩
        case measure=>simp [intOf];omega
      ·have hje:rw0.length = j':=by rw [Hrwl.out];omega
       have hst2:sj = (row v0).foldl (mRel v0) s:=by rw [hsj,<- hje,List.take_length,Hrw.out]
       have hIn:=hIj.next hkj (by rw [hvj,<- Hrw.out,<- hje,List.take_length];exact fun _ h=>h)
       have hrun2:mRun row (n1 + 1 - (k + 1)) (k + 1) sj = mRun row (n1 + 1) 0 (mSrc sr n1):=by
        rw [<- Hrun.out,show n1 + 1 - k = (n1 + 1 - (k + 1)) + 1 by omega,mRun_go hlt,hst2,<- Hv0.out];rfl
       have HIn:=zH hIn
       have Hrun2:=zH hrun2
       have HD:=zH hD
       have HDL:=zH hDL
       have Hkj:=zH hkj
       have hjl:¬ (j':Int) < (ls.length:Int):=by omega
       clear hst2 hIn hrun2 hD hDL hsj hvj hIj
       go_wp2
       go_roundw
       case rel=>exact ⟨k + 1,sj,HIn.out,Hkj.out,Hrun2.out,by go_num,HD.out,HDL.out⟩
       case measure=>simp [intOf];omega
    ·have hke:k = s.2.length:=by omega
     subst hke
     rw [Zjo (by omega)] at hrun
     have Hf:=zH (Hfin.out.trans (by rw [<- hrun]):mD x t (subS ts) = s.1)
     obtain ⟨a8,c8,hu8⟩:=hD.qu.form
     rw [List.length_map] at hu8
     subst hu8
     have HD:=zH hD
     obtain ⟨nq,hnq⟩:∃ n,n = s.2.length:=⟨_,rfl⟩
     clear hD hrun hI hDL
     go_wp2
     go_ret
     exact ⟨_,rfl,by rw [Hf.out];exact HD.out.ds.mono K0.size,K0.trans HD.out.on⟩
structure DWn (x:Puzzle) (t:Table) (w W0:World) (e:TypeId) (G:List Nat) (wr:World) (o s2:Value) (dn:List Int) (i:Nat) (f2:List Nat):Prop where
 acc:AccI w.heap.size e wr o dn
 rd:Rd wr s2 (t.patterns.getD i []) f2
 ap:∀ b∈f2,o.ownBlock ≠ some b
 on:Only [] w wr
 kp:∀ b∈G,wr.heap[b]? = W0.heap[b]?
 ga:∀ b∈G,o.ownBlock ≠ some b
 gl:∀ b∈G,b < wr.heap.size
section
variable {x:Puzzle} {t:Table} {w W0:World} {e:TypeId} {G:List Nat} {wr w':World} {o s2:Value} {dn:List Int} {i:Nat} {f2:List Nat}
theorem DWn.keep (h:DWn x t w W0 e G wr o s2 dn i f2) (ho:Only [] wr w'):DWn x t w W0 e G w' o s2 dn i f2:=
 ⟨h.acc.keep ho,zK h.rd ho,h.ap,h.on.trans ho,fun b hb=>(ho.block b (h.gl b hb) (by simp)).trans (h.kp b hb),h.ga,fun b hb=>Nat.lt_of_lt_of_le (h.gl b hb) ho.size⟩
theorem DWn.blk (h:DWn x t w W0 e G wr o s2 dn i f2) {g:Nat} {cs:List Value} (hb:Blk W0 g cs) (hg:g∈G):Blk wr g cs:=by
 obtain ⟨ty,hb⟩:=hb
 exact ⟨ty,(h.kp g hg).trans hb⟩
theorem DWn.ints (h:DWn x t w W0 e G wr o s2 dn i f2) {a:Option Addr} {c:Nat} {l:List Int} {fp:List Nat} (hr:IntsA W0 a c l fp) (hf:∀ b∈fp,b∈G):IntsA wr a c l fp:=hr.frame fun b hb=>h.kp b (hf b hb)
theorem DWn.step {wa wb:World} {o' s3:Value} {l:Int} {j:Nat} {f3:List Nat} (h:DWn x t w W0 e G wr o s2 dn i f2) (hk:Only [] wr wa) (hA:AccI w.heap.size e wb o' (dn ++ [l])) (oA:Only o.ownBlock.toList wa wb) (nA:o'.ownBlock = o.ownBlock\/o'.ownBlock = some wa.heap.size)
  (hP:∀ wz,Only [] wz wa->wz.heap.size<=w.heap.size->Only [] wz wb) (hr:Rd wa s3 (t.patterns.getD j []) f3) (hf:∀ b∈f3,o.ownBlock ≠ some b):DWn x t w W0 e G wb o' s3 (dn ++ [l]) j f3:=by
 have h1:=h.keep hk
 refine ⟨hA,Rp.only hr oA (fun b hb hm=>hf b hb (by simpa using hm)),fun b hb=>Zew nA (hf b hb) (Rp.lt hr b hb),hP w h1.on (Nat.le_refl _),fun b hb=>?_,fun b hb=>Zew nA (h1.ga b hb) (h1.gl b hb),fun b hb=>Nat.lt_of_lt_of_le (h1.gl b hb) oA.size⟩
 rw [oA.block b (h1.gl b hb) (fun hm=>h1.ga b hb (by simpa using hm))]
 exact h1.kp b hb
end
theorem depT_at {x:Puzzle} {t:Table} (hb:Built x t) {i:Nat} (hi:i < t.patterns.length) {s:List Int} (h:t.patterns.getD i [] = s):depT t s = t.distances.getD i 0:=by
 rw [<- h];exact Zho hb hi
set_option maxHeartbeats 8000000 in
theorem Zgd (cs:List Value) (x:Puzzle) (fp:List Nat) (t:Table) (B:Nat) (A1 A2 A3:Option Addr) (n1 n2 n3 C1 C2 C3:Nat) (wh:Bool) (u:Value) (fu:List Nat) (i0 N:Nat) (w:World) (h:Rp.rep w cs x fp)
  (hS:SrF B w x t (.agg #[.slice A1 n1 C1,.slice A2 n2 C2,.slice A3 n3 C3,.bool wh])) (he:expl x = some t) (hi0:i0 < t.patterns.length) (hu:Rd w u (t.patterns.getD i0 []) fu) (hN:t.distances.getD i0 0 = N) :
  Calls Tryz.prog 84 #[.agg cs.toArray,.agg #[.slice A1 n1 C1,.slice A2 n2 C2,.slice A3 n3 C3,.bool wh],u] w fun e w'=>∃ v fp',e = .returned v/\Rd w' v (oW x t N (t.patterns.getD i0 [])) fp'/\Fresh w.heap.size w' fp'/\Only [] w w':=by
 have h0:=h
 obtain ⟨v2,rfl,p0,p1,h2⟩:=h
 clear p0 p1 h2
 obtain ⟨hb,-⟩:=Zad he
 obtain ⟨q1,q20,q8,-⟩:=Zae hb.v
 have hdep:=(hb.dep i0 hi0).2.1
 have hll:=hb.ll
 have hN3:N<=3000:=by omega
 have Hb:=zH hb
 have He:=zH he
 have Hd0:=zH ((depT_at hb hi0 rfl).trans hN)
 have Hl0:=zH (Zbc he hi0)
 have HN:=zH hN
 clear he hN hb hdep
 have X0:Blk (((w.alloc (.cells #[.int .i64 x.points,.string x.names,v2] 33)).alloc (.cells #[.slice A1 n1 C1,.slice A2 n2 C2,.slice A3 n3 C3,.bool wh] 85)).alloc (.cells #[] 2)) w.heap.size [.int .i64 x.points,.string x.names,v2]:=((Blk.new w [.int .i64 x.points,.string x.names,v2] 33).keep (zO.alloc _)).keep (zO.alloc _)
 have Y0:Blk (((w.alloc (.cells #[.int .i64 x.points,.string x.names,v2] 33)).alloc (.cells #[.slice A1 n1 C1,.slice A2 n2 C2,.slice A3 n3 C3,.bool wh] 85)).alloc (.cells #[] 2)) (w.heap.size + 1) [.slice A1 n1 C1,.slice A2 n2 C2,.slice A3 n3 C3,.bool wh]:=(Blk.new_at (w:=w.alloc (.cells #[.int .i64 x.points,.string x.names,v2] 33)) (cs:=[.slice A1 n1 C1,.slice A2 n2 C2,.slice A3 n3 C3,.bool wh]) (by simp)).keep (zO.alloc _)
 obtain ⟨iI,hi,hz0,hz1,hz2⟩:=info_parts Tryz.info2
 obtain ⟨s0,hs0⟩:∃ s0,s0 = t.patterns.getD i0 []:=⟨_,rfl⟩
 rw [<- hs0] at Hd0 Hl0 hu
 have Hs0:=zH hs0
 rw [<- hs0]
 clear hs0
 go_enter Tryz.func84,Tryz.ntmps84
 go_wp2_with (first
  | (go_at_call 127;(with_reducible refine (Zcf [.int .i64 x.points,.string x.names,v2] x _ _ (zK h0 zA) (by omega)).mono ?_);rintro e w1 ⟨u1,f1,rfl,r1,F1,t1⟩;obtain ⟨a1,c1,rfl,I1⟩:=r1.ints;have Y1:=Y0.keep t1;obtain ⟨y0,y1,y2,y3⟩:=Y1.c4)
  | (go_at_call 134;(with_reducible refine (Zeo x t _ u s0 fu _ (SrF.keep hS zA) Hb.out (zK hu zA) Hl0.out).mono ?_);rintro e w2 ⟨he,t2⟩;rw [Hd0.out] at he;subst he)
  | fail)
 have K2:Only [] w w2:=zA
 have X2:=(X0.keep t1).keep t2
 have Y2:=Y1.keep t2
 have I2:=I1.keep t2
 have hz1s:=t1.size
 have hz2s:=t2.size
 simp at hz1s
 obtain ⟨ls,hls⟩:∃ ls,ls = ltrs x.moves.length:=⟨_,rfl⟩
 rw [<- hls] at I2 ⊢
 have Hls:=zH hls
 have hf1:=F1.ge
 have hf1l:=I2.lt
 have A0:AccI w.heap.size 2 w2 (.slice (some ⟨w.heap.size + 2,0,none⟩) 0 0) []:=((AccI.made ((w.alloc (.cells #[.int .i64 x.points,.string x.names,v2] 33)).alloc (.cells #[.slice A1 n1 C1,.slice A2 n2 C2,.slice A3 n3 C3,.bool wh] 85)) w.heap.size 2 (by simp) (by omega)).keep t1).keep t2
 have D0:DWn x t w w2 2 (f1 ++ [w.heap.size,w.heap.size + 1]) w2 (.slice (some ⟨w.heap.size + 2,0,none⟩) 0 0) u [] i0 fu:=by
  refine ⟨A0,by rw [<- Hs0.out];exact zK hu K2,fun b hb he=>?_,K2,fun _ _=>rfl,fun b hb he=>?_,fun b hb=>?_⟩
  ·have:=Rp.lt hu b hb;simp [Value.ownBlock] at he;omega
  ·simp [Value.ownBlock] at he
   simp only [List.mem_append,List.mem_cons,List.not_mem_nil,or_false] at hb
   rcases hb with hb | hb | hb
   ·have:=hf1 b hb;simp at this;omega
   ·omega
   ·omega
  ·simp only [List.mem_append,List.mem_cons,List.not_mem_nil,or_false] at hb
   rcases hb with hb | hb | hb
   ·exact hf1l b hb
   ·omega
   ·omega
 clear X0 Y0 Y1 y0 y1 y2 y3 r1 F1 I1 A0 hls t1 t2 hz1s hf1 hf1l
 go_loopw [2,7,9] (fun s2 o d wr=>∃ (n i:Nat) (f2:List Nat) (dn:List Int),d = .int .i64 n/\n<=3000/\dn.length + n = N/\i < t.patterns.length/\t.distances.getD i 0 = n/\dn ++ oW x t n (t.patterns.getD i []) = oW x t N s0/\DWn x t w w2 2 (f1 ++ [w.heap.size,w.heap.size + 1]) wr o s2 dn i f2)
  (fun _ _ d _=>(intOf d).toNat)
 case atStart=>exact ⟨N,i0,fu,[],rfl,hN3,by simp,hi0,HN.out,by rw [Hs0.out];rfl,D0⟩
 case round=>
  obtain ⟨W3,hnew⟩:∃ W,W = wr:=⟨_,rfl⟩
  subst hnew
  obtain ⟨n,i,f2,dn,rfl,hn3,hlen,hil,hdi,hcat,hD⟩:=hrel
  have Hcat:=zH hcat
  have Hdi:=zH hdi
  have Hlen:=zH hlen
  clear hcat hdi hlen
  by_cases hn:0 < n
  ·obtain ⟨m,hm⟩:∃ m,n = m + 1:=⟨n - 1,by omega⟩
   have hm1:m + 1<=n:=by omega
   have hm2:n<=m + 1:=by omega
   have Hm:=zH hm
   obtain ⟨k,j,hDn⟩:=Hb.out.down hil (n:=m) (by rw [Hdi.out,hm];push_cast;rfl)
   clear hm
   have hkl:k < ls.length:=by rw [Hls.out];exact hDn.hk
   have HDn:=zH hDn
   clear hDn
   go_wp2
   go_loopw [2,7,10] (fun s2 o c wr=>∃ j':Nat,j'<=k/\c = .int .i64 j'/\s2 = u2/\o = u7/\Only [] W3 wr)
    (fun _ _ c _=>ls.length - (intOf c).toNat)
   case atStart=>exact ⟨0,Nat.zero_le _,rfl,rfl,rfl,Only.refl _ _⟩
   case round=>
    obtain ⟨j',hj',rfl,rfl,rfl,hK⟩:=hrel
    obtain ⟨W4,hnew⟩:∃ W,W = wr:=⟨_,rfl⟩
    subst hnew
    have hD4:=hD.keep hK
    have hjl:j' < ls.length:=by omega
    have I4:=hD4.ints I2 (by intro b hb;simp [hb])
    have hlb:=I4.bound
    obtain ⟨b3,off3,rfl,-,hc3⟩:=I4.at_ j' hjl
    have X4:=hD4.blk X2 (by simp)
    have Y4:=hD4.blk Y2 (by simp)
    obtain ⟨x0,x1,x2⟩:=X4.c3
    have hrd:=hD4.rd
    have K4:=hD4.on
    have hla:ls[j']∈ltrs x.moves.length:=by rw [<- Hls.out];exact List.getElem_mem hjl
    obtain ⟨i',hi',hnx,-,-⟩:=Hb.out.step hil hla
    have hpat:=Zda He.out hil
    have Hrng:=zH (Zaq.1 hpat).2.1
    have hql:(t.patterns.getD i []).length<=1000:=by rw [Zbc He.out hil];omega
    have hI:I64 ls[j']:=by have:=Zas.1 hla;unfold I64;omega
    have HI:=zH hI
    have Hla:=zH hla
    obtain ⟨cur,hcur⟩:∃ cur,cur = t.patterns.getD i []:=⟨_,rfl⟩
    have Hcur:=zH hcur
    rw [<- hcur] at hrd hql hnx
    rw [<- hcur] at Hrng
    clear hpat hla hI hcur
    have Hc:=zH (fun (W:World) (hh:Only [] W4 W)=>Zbj [.int .i64 x.points,.string x.names,v2] x _ u2 cur _ ls[j'] W (zK h0 (K4.trans hh)) (zK hrd hh) Hb.out.v Hla.out Hrng.out hql)
    go_wp2
    go_region_held3 (fun w'=>Only [] W4 w'/\w'.cell? ⟨w.heap.size,0,none⟩ = some (.int .i64 x.points)/\w'.cell? ⟨w.heap.size,1,none⟩ = some (.string x.names)/\w'.cell? ⟨w.heap.size,2,none⟩ = some (v2)/\w'.cell? ⟨b3,off3 + j',none⟩ = some (.int .i64 ls[j'])) (((refine and_of ?_ (fun q_=>⟨q_.ce x0,q_.ce x1,q_.ce x2,q_.ce hc3⟩));first | exact zO.drew | exact (zO.drewN _).drew | exact Only.trans (And.left (by assumption)) (by assumption) | exact Only.alloc (And.left (by assumption)) _ | assumption)) (first | (go_at_call 128;(with_reducible refine (Hc.out _ (And.left (by assumption))).mono ?_);rintro e w5 ⟨u5,f5,rfl,r5,F5,t5⟩;have F5':=F5.mono (((Only.refl [] W4).trans (And.left (by assumption))).size)) | fail)
    have k5:Only [] W4 w5:=(Only.refl [] W4).trans (And.left (by assumption))
    obtain ⟨s',hs'⟩:∃ s',s' = nxt x cur ls[j']:=⟨_,rfl⟩
    rw [<- hs'] at r5 hnx
    have Hl':=zH (show s'.length = x.points.toNat by rw [<- hnx];exact Zbc He.out hi')
    have hd':depT t s' = t.distances.getD i' 0:=depT_at Hb.out hi' hnx
    have hS5:=SrF.keep hS (K4.trans k5)
    have Y5:=Y4.keep k5
    obtain ⟨y0,y1,y2,y3⟩:=Y5.c4
    have I5:=I4.keep k5
    obtain ⟨b3',off3',e3,-,hc5⟩:=I5.at_ j' hjl
    injection e3 with e3;injection e3 with e3 e4;subst e3;subst e4
    have hD5:=hD4.keep k5
    have Hs':=zH hs'
    have Hnx:=zH hnx
    have Hd':=zH hd'
    clear x0 x1 x2 hc3 X4 Y4 I4 Hc hrd hs' hnx hd'
    by_cases hjk:j' = k
    ·subst hjk
     have hjj:t.patterns.getD j [] = s':=by rw [HDn.out.nx,Hs'.out,Hcur.out];simp [Hls.out]
     have Hjj:=zH hjj
     have Hdm:=zH ((depT_at Hb.out HDn.out.hj hjj).trans HDn.out.ds:depT t s' = m)
     clear hjj
     have hdl:dn.length + 1<=1073741824:=by have:=Hlen.out;omega
     have hcmp:((m:Int) == (n:Int) - 1) = true:=by simp;omega
     go_wp2_with (first
      | (go_at_call 134;(with_reducible refine (Zeo x t _ u5 s' f5 _ hS5 Hb.out (zK r5 zA) Hl'.out).mono ?_);rintro e w6 ⟨he,t6⟩;rw [Hdm.out] at he;subst he;have hc6:=t6.cell (by simp) hc5;have hD6:=hD5.keep t6;have hB6:=hD6.on.size)
      | (at_builtin;refine Zap rfl _ _ 25 rfl w.heap.size 2 iI _ Tryz.underlying25 hi hz0 hz1 hz2 rfl w6 _ dn rfl hD6.acc (zO.alloc _) hB6 w6.heap.size 1 ls[j'] rfl (lit1 w6 _ _ rfl) HI.out hdl ?_;intro v9 w9 hA9 hO9 hP9 hN9)
      | fail)
     have hf5:∀ b∈f5,u7.ownBlock ≠ some b:=fun b hb he=>by
      obtain ⟨fs7,hA7⟩:=hD4.acc
      have:=(hA7.ownlt b he).2
      have:=F5'.ge b hb
      omega
     have hD9:=DWn.step hD6 (zO.alloc _) hA9 hO9 hN9 hP9 (j:=j) (zK (zK (show Rd w5 u5 (t.patterns.getD j []) f5 by rw [Hjj.out];exact r5) t6) (zO.alloc _)) hf5
     exact ⟨⟨m,j,f5,dn ++ [ls[j']],by congr 1;omega,by omega,by have:=Hlen.out;simp;omega,HDn.out.hj,HDn.out.ds,by rw [<- Hcat.out,Hm.out,HDn.out.oW_];simp [Hls.out],hD9⟩,by simp [intOf];omega⟩
    ·have hne:=(HDn.out.no j' (by omega) i' hi' (by rw [Hnx.out,Hs'.out,Hcur.out];simp [Hls.out])).1
     have hdr:=Hb.out.dep i' hi'
     obtain ⟨d',hd9⟩:∃ d',d' = t.distances.getD i' 0:=⟨_,rfl⟩
     rw [<- hd9] at hne hdr
     have Hdd:=zH (Hd'.out.trans hd9.symm)
     have hcmp:(d' == (n:Int) - 1) = false:=by simp;omega
     clear hd9 hne hdr
     go_wp2_with (first
      | (go_at_call 134;(with_reducible refine (Zeo x t _ u5 s' f5 _ hS5 Hb.out (zK r5 zA) Hl'.out).mono ?_);rintro e w6 ⟨he,t6⟩;rw [Hdd.out] at he;subst he)
      | fail)
     go_roundw
     case rel=>exact ⟨j' + 1,by omega,by go_num,rfl,rfl,hK.trans (k5.trans t6)⟩
     case measure=>simp [intOf];omega
  ·obtain rfl:n = 0:=by omega
   have hfin:dn = oW x t N s0:=by have:=Hcat.out;rwa [show oW x t 0 (t.patterns.getD i []) = [] from rfl,List.append_nil] at this
   have Hfin:=zH hfin
   clear hfin
   go_wp2
   go_ret
   exact ⟨_,_,rfl,by rw [<- Hfin.out];exact hD.acc.rd,hD.acc.fresh,hD.on⟩
theorem Zck (w:World) (e:TypeId) {g:Nat} (hg:g = w.heap.size):Rd (w.alloc (.cells #[] e)) (.slice (some ⟨g,0,none⟩) 0 0) ([]:List Int) [g]/\Fresh w.heap.size (w.alloc (.cells #[] e)) [g]:=by
 subst hg
 exact ⟨(AccI.made w w.heap.size e rfl (Nat.le_refl _)).rd,(AccI.made w w.heap.size e rfl (Nat.le_refl _)).fresh⟩
set_option maxHeartbeats 4000000 in
theorem Zef (cs:List Value) (x:Puzzle) (fp:List Nat) (v:Value) (s:List Int) (fs:List Nat) (w:World) (h:Rp.rep w cs x fp) (hs:Rd w v s fs) :
  Calls Tryz.prog 43 #[.agg cs.toArray,v] w fun e w'=>∃ u fp',e = .returned (.tuple #[u,.bool (optX x s).isSome])/\Rd w' u ((optX x s).getD []) fp'/\Fresh w.heap.size w' fp'/\Only [] w w':=by
 have h0:=h
 obtain ⟨v2,rfl,p0,p1,h2⟩:=h
 clear p0 p1 h2
 have X0:Blk (w.alloc (.cells #[.int .i64 x.points,.string x.names,v2] 33)) w.heap.size [.int .i64 x.points,.string x.names,v2]:=Blk.new w [.int .i64 x.points,.string x.names,v2] 33
 by_cases hd:0<=distX x s
 ·have hdb:decide (0<=distX x s) = true:=decide_eq_true hd
  have Hdb:=zH hdb
  have hrg:distX x s<=3000/\reachB x s = true/\∃ t,expl x = some t:=by
   rcases Zpx x s with h1 | h1
   ·omega
   ·exact h1.2
  obtain ⟨hd3,hr,t,ht⟩:=hrg
  by_cases h200:distX x s<=200
  ·obtain ⟨i,hi,e1,-,e2,-,-⟩:=Zif ht hr
   have Hn:=zH (Zop ht ⟨hd,h200⟩)
   have Ht:=zH ht
   obtain ⟨d,hdd⟩:∃ d:Nat,distX x s = (d:Int):=⟨_,(Int.toNat_of_nonneg hd).symm⟩
   have E1:=zH e1
   have E2:=zH (e2.symm.trans hdd)
   have Hdd:=zH hdd
   have hd2:(d:Int)<=200:=by omega
   clear hdb hr ht e1 e2 hd h200 hdd hd3
   go_enter Tryz.func43,Tryz.ntmps43
   go_wp2_with (first
    | (go_at_call 83;(with_reducible refine (Zdp [.int .i64 x.points,.string x.names,v2] x _ v s _ _ (zK h0 zA) (zK hs zA)).mono ?_);rintro e w1 ⟨A1,n1,C1,A2,n2,C2,A3,n3,C3,wh,he,q1,t1⟩;rw [Hdb.out,Hdd.out] at he;subst he;have Z:=Blk.new w1 [.slice none 0 0,.slice none 0 0,.slice none 0 0,.bool false] 85;obtain ⟨z0,z1,z2,z3⟩:=Z.c4;obtain ⟨zp0,zp1,zp2,zp3⟩:=Z.f4;have hS:=zH (SrF.keep (q1 t Ht.out) ((Only.refl [] w1).alloc (.cells #[.slice A1 n1 C1,.slice A2 n2 C2,.slice A3 n3 C3,.bool wh] 85)));clear q1;have X1:=(X0.keep t1).keep ((Only.refl [] _).alloc (.cells #[.slice A1 n1 C1,.slice A2 n2 C2,.slice A3 n3 C3,.bool wh] 85));obtain ⟨x0,x1,x2⟩:=X1.c3;have U1:=Blk.new w1 [.slice A1 n1 C1,.slice A2 n2 C2,.slice A3 n3 C3,.bool wh] 85;obtain ⟨a0,a1,a2,a3⟩:=U1.c4;have hs1:Rd (w1.alloc (.cells #[.slice A1 n1 C1,.slice A2 n2 C2,.slice A3 n3 C3,.bool wh] 85)) v (t.patterns.getD i []) fs:=(by rw [E1.out];exact zK hs zA))
    | (go_at_call 84;(with_reducible refine (Zgd [.int .i64 x.points,.string x.names,v2] x _ t _ A1 A2 A3 n1 n2 n3 C1 C2 C3 wh v fs i d _ (zK h0 zA) hS.out Ht.out hi hs1 E2.out).mono ?_);rintro e w2 ⟨u2,f2,rfl,r2,F2,t2⟩)
    | fail)
   have K2:Only [] w w2:=zA
   have hsz:=t1.size
   simp at hsz
   have hfin:(optX x s).getD [] = oW x t d (t.patterns.getD i []):=by rw [Hn.out,E1.out,Hdd.out];rfl
   have hsm:(optX x s).isSome = true:=by rw [Hn.out];rfl
   exact bodyPost_ret (v:=.tuple #[u2,.bool true]) (by simp [results,Tryz.results43,go_sem]) rfl ⟨u2,f2,by rw [hsm],by rw [hfin];exact r2,F2.mono (by simp;omega),K2⟩
  ·have Hn:=zH (optX_no (x:=x) (s:=s) (fun hh=>h200 hh.2))
   have hd2:200 < distX x s:=by omega
   clear hdb hr ht h200
   go_enter Tryz.func43,Tryz.ntmps43
   go_wp2_with (first
    | (go_at_call 83;(with_reducible refine (Zdp [.int .i64 x.points,.string x.names,v2] x _ v s _ _ (zK h0 zA) (zK hs zA)).mono ?_);rintro e w1 ⟨A1,n1,C1,A2,n2,C2,A3,n3,C3,wh,he,q1,t1⟩;rw [Hdb.out] at he;subst he;clear q1;have Z:=Blk.new w1 [.slice none 0 0,.slice none 0 0,.slice none 0 0,.bool false] 85;obtain ⟨z0,z1,z2,z3⟩:=Z.c4;obtain ⟨zp0,zp1,zp2,zp3⟩:=Z.f4)
    | fail)
   have K2:Only [] w ((w1.alloc (.cells #[.slice A1 n1 C1,.slice A2 n2 C2,.slice A3 n3 C3,.bool wh] 85)).alloc (.cells #[] 2)):=zA
   have K3:Only [] w (w1.alloc (.cells #[.slice A1 n1 C1,.slice A2 n2 C2,.slice A3 n3 C3,.bool wh] 85)):=zA
   obtain ⟨hE,hF⟩:=Zck (w1.alloc (.cells #[.slice A1 n1 C1,.slice A2 n2 C2,.slice A3 n3 C3,.bool wh] 85)) 2 (g:=w1.heap.size + 1) (by simp)
   exact bodyPost_ret (v:=.tuple #[.slice (some ⟨w1.heap.size + 1,0,none⟩) 0 0,.bool false]) (by simp [results,Tryz.results43,go_sem]) rfl ⟨_,_,by rw [Hn.out];rfl,by rw [Hn.out];exact hE,hF.mono K3.size,K2⟩
 ·have hn1:distX x s = -1:=by
   rcases Zpx x s with h1 | h1
   ·exact h1
   ·omega
  have hdb:decide (0<=distX x s) = false:=decide_eq_false hd
  have Hdb:=zH hdb
  have Hn:=zH (optX_no (x:=x) (s:=s) (fun hh=>hd hh.1))
  clear hdb hd hn1
  go_enter Tryz.func43,Tryz.ntmps43
  go_wp2_with (first
   | (go_at_call 83;(with_reducible refine (Zdp [.int .i64 x.points,.string x.names,v2] x _ v s _ _ (zK h0 zA) (zK hs zA)).mono ?_);rintro e w1 ⟨A1,n1,C1,A2,n2,C2,A3,n3,C3,wh,he,q1,t1⟩;rw [Hdb.out] at he;subst he;clear q1;have Z:=Blk.new w1 [.slice none 0 0,.slice none 0 0,.slice none 0 0,.bool false] 85;obtain ⟨z0,z1,z2,z3⟩:=Z.c4;obtain ⟨zp0,zp1,zp2,zp3⟩:=Z.f4)
   | fail)
  have K2:Only [] w ((w1.alloc (.cells #[.slice A1 n1 C1,.slice A2 n2 C2,.slice A3 n3 C3,.bool wh] 85)).alloc (.cells #[] 2)):=zA
  have K3:Only [] w (w1.alloc (.cells #[.slice A1 n1 C1,.slice A2 n2 C2,.slice A3 n3 C3,.bool wh] 85)):=zA
  obtain ⟨hE,hF⟩:=Zck (w1.alloc (.cells #[.slice A1 n1 C1,.slice A2 n2 C2,.slice A3 n3 C3,.bool wh] 85)) 2 (g:=w1.heap.size + 1) (by simp)
  exact bodyPost_ret (v:=.tuple #[.slice (some ⟨w1.heap.size + 1,0,none⟩) 0 0,.bool false]) (by simp [results,Tryz.results43,go_sem]) rfl ⟨_,_,by rw [Hn.out];rfl,by rw [Hn.out];exact hE,hF.mono K3.size,K2⟩
end Go.Proofs.YtclhblofchfglaaGreat
