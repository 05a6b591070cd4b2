/- The program's faults of an entry. (Written by mkprf3.py.) -/
import Derived.Test.YthleokaeobdamaaGreatRowTableSolverG9
import Derived.Test.YthleokaeobdamaaGreatRowTableSolverG3
import Derived.Test.YthleokaeobdamaaGreatRowTableSolverG7
import Derived.Test.YthleokaeobdamaaGreatRowTableSolverG10
import Derived.Deep.RegionHeld3
import Derived.Deep.DeepCutAuto
import Derived.Deep.AppendLies
import Derived.Deep.RegionLaw
import Derived.Test.YthleokaeobdamaaGreatRowTableSolverG2
import Derived.Test.YthleokaeobdamaaGreatRowTableSolverG1
import Derived.Lib.ItoaMem
import Derived.Lib.Strings
import Derived.Lib.ItoaLen
import Derived.Test.YthleokaeobdamaaGreatRowTableSolverG4
import Derived.Maps.RangeWalk
import Derived.Shelf.SortM.Plain
import Derived.Sort.OwnSortedInts
namespace Go.Proofs.YthleokaeobdamaaGreat
open Go.RowKit
set_option maxRecDepth 10000
theorem Zec {P:Program} {α:Type} [Rp α] {ops:Array Oper} {rest:List Oper} {o:Oper} {a:Act} {w:World} {Q:Exit->Act->World->Prop} (hgd:o.guard = none) (s x:Operand) (t:TypeId)
  (ho:o.op = .call { callee:=.builtin .append,args:=#[s,x],argTypes:=#[t,t] })
  (B:Nat) (e:TypeId) (i:TypeInfo) (z:Value) (bytes:Nat) (ht:P.underlying t = some (.slice e)) (hi:P.info? e = some i) (hz:i.zero = some z)
  (hsize:i.size = Rp.size α) (hby:i.bytes = bytes) (hzs:z.cells.size = Rp.size α) (hsz:0 < Rp.size α) (hbb:bytes<=65536)
  (w0:World) (v:Value) (l:List α) (fs:List (List Nat)) (hs:a.eval s = v) (hA:Acc B e w0 v l fs) (hK0:Only [] w0 w) (hB:B<=w0.heap.size)
  (g c:Nat) (cs:List Value) (y:α) (fp:List Nat) (hx:a.eval x = .slice (some ⟨g,0,none⟩) 1 c) (hsrc:∀ j u,cs[j]? = some u->w.cell? ⟨g,j,none⟩ = some u) (hcs:∀ u∈cs,u.oneCell' = true)
  (hy:Rp.rep w cs y fp) (hap:∀ b∈fp,v.ownBlock ≠ some b) (hlen:l.length + 1<=1073741824)
  (h:∀ v' w',Acc B e w' v' (l ++ [y]) (fs ++ [fp])->Only v.ownBlock.toList w w'->(v'.ownBlock = v.ownBlock\/v'.ownBlock = some w.heap.size)->wpList P ops Q rest (a.put o.dst v') w'):wpList P ops Q (o :: rest) a w:=
 wpList_plain hgd fun _ hK=>Zei s x t ho B e i z bytes ht hi hz hsize hby hzs hsz hbb w0 v l fs hs hA hK0 hB g c cs y fp hx hsrc hcs hy hap hlen fun v' w' h1 h2 _ _ h5=>hK _ _ (h v' w' h1 h2 h5)
set_option maxHeartbeats 1000000 in
theorem Zfj (m:Nat) (w:World) (hm:m<=1000) :
  Calls Tryz.prog 74 #[.int .i64 m] w fun e w'=>∃ v,e = .returned v/\AccI w.heap.size 2 w' v (PM.pts m)/\Only [] w w':=by
 obtain ⟨i0,hi,hz0,hz1,hz2⟩:=info_parts Tryz.info2
 go_enter Tryz.func74,Tryz.ntmps74
 go_wp2
 go_loopw [3,4] (fun o i wr=>∃ (j:Nat) (fs:List (List Nat)),j<=m/\i = .int .i64 j/\Acc w.heap.size 2 wr o (PM.pts j) fs/\Fresh w.heap.size wr fs.flatten/\Only [] w wr)
  (fun _ i _=>m - (intOf i).toNat)
 case atStart=>exact ⟨0,[],Nat.zero_le _,rfl,Acc.made w w.heap.size _ rfl (Nat.le_refl _),Fresh.nil _ _,zO.alloc _⟩
 case round=>
  obtain ⟨j,fs,hj,rfl,hA,hF,hK⟩:=hrel
  by_cases hlt:j < m
  ·have hsz:=hK.size
   have hlj:(PM.pts j).length + 1<=1073741824:=by rw [PM.pts_len];omega
   have hI:I64 (j:Int):=by unfold I64;omega
   have HI:=zH hI;clear hI
   go_wp2_with ((at_builtin;refine Zah rfl _ _ 27 rfl w.heap.size 2 i0 _ 8 Tryz.underlying27 hi hz0 hz1 hz2 rfl (by decide) (by decide) wr _ (PM.pts j) fs rfl hA hF (zO.alloc _) hsz wr.heap.size 1 [.int .i64 (j:Int)] (j:Int) [] rfl (lit_src wr [.int .i64 (j:Int)] _ rfl) (by intro u hu;simp at hu;subst hu;rfl) (int_rd _ HI.out) (Fresh.nil _ _) hlj w (hK.alloc _) (Nat.le_refl _) ?_;intro v3 w3 hA3 hF3 hK3 _))
   go_roundw
   case rel=>exact ⟨j + 1,_,by omega,by go_num,by rw [Zdj];exact hA3,hF3,hK3⟩
   case measure=>simp [intOf];omega
  ·have hjl:j = m:=by omega
   rw [hjl] at hA
   have HA:=zH hA
   clear hjl hA
   go_wp2
   go_ret
   exact ⟨_,rfl,⟨_,HA.out⟩,hK⟩
set_option maxHeartbeats 2000000 in
theorem Zcz (g:Nat) (fc:List Nat) (l:List UInt8) (n:Int) (w:World) (h:Src w g fc l) (hl:l.length<=4096) (hn:I64 n) :
  Calls Tryz.prog 38 #[.pointer (some ⟨g,0,none⟩),.int .i64 n] w fun e w'=>∃ r:Int,e = .returned (.int .i64 r)/\I64 r/\Src w' g fc l/\Only [g] w w':=by
 have hlt:=h.lt
 obtain ⟨y,hy⟩:∃ y,y = IntKind.i64.wrap (n + 1):=⟨_,rfl⟩
 have hyI:I64 y:=by rw [hy,IntKind.wrap_i64];unfold I64;omega
 have hyw:IntKind.i64.wrap (n + 1) = y:=hy.symm
 obtain ⟨z,hz⟩:∃ z,z = IntKind.i64.wrap (min n 4 + 1):=⟨_,rfl⟩
 have hzI:I64 z:=by rw [hz,IntKind.wrap_i64];unfold I64;omega
 have hzw:IntKind.i64.wrap (min n 4 + 1) = z:=hz.symm
 have HyI:=zH hyI
 have HzI:=zH hzI
 have Hn:=zH hn
 clear hy hyI hn hz hzI
 go_enter Tryz.func38,Tryz.ntmps38
 go_wp2_with (first
  | (go_at_call 84;(with_reducible refine (Zbf g fc l 10 w h hl (by omega)).mono ?_);rintro e w1 ⟨b1,rfl,D1,K1⟩)
  | (go_at_call 84;(with_reducible refine (Zbf g fc l 2 w1 D1 hl (by omega)).mono ?_);rintro e w2 ⟨b2,rfl,D2,K2⟩)
  | (go_at_call 85;(with_reducible refine (Zmt g fc l w1 D1 hl).mono ?_);rintro e w2 ⟨x,rfl,hx,D2,K2⟩;have HxI:=zH hx;have hB:=Blk.new w2 ([-1,n,y,x].map (Value.int .i64)) 2;have ho:Only [] w2 (w2.alloc (.cells (([-1,n,y,x].map (Value.int .i64))).toArray 2)):=zO.alloc _;have hgs:=D2.lt;clear hx)
  | (go_at_call 83;(with_reducible refine (Zae g fc l 4 _ (D2.keep zA) hl (by omega)).mono ?_);rintro e w3 ⟨r,rfl,r0,r1,D3,K3⟩;obtain ⟨k,rfl⟩:=Int.eq_ofNat_of_zero_le r0;have hk:k < 4:=(by omega);have hB1:=hB.only K3 (by simp;omega);have c1:=hB1.cell k (v:=.int .i64 (([-1,n,y,x]:List Int)[k]'hk)) (by rw [List.getElem?_map,List.getElem?_eq_getElem (show k < ([-1,n,y,x]:List Int).length from hk)];rfl);have hk0:(0:Int)<=(k:Int):=(by omega);have hk1:(k:Int) < 4:=(by omega))
  | (go_at_call 83;(with_reducible refine (Zae g fc l y w2 D2 hl (by have:=HyI.out;unfold I64 at this;omega)).mono ?_);rintro e w3 ⟨r,rfl,r0,r1,D3,K3⟩)
  | (go_at_call 83;(with_reducible refine (Zae g fc l z w2 D2 hl (by have:=HzI.out;unfold I64 at this;omega)).mono ?_);rintro e w3 ⟨r,rfl,r0,r1,D3,K3⟩)
  | fail)
 ·go_ret
  refine ⟨_,rfl,?_,D3,((K1.trans K2).trans (ho.weaken [g])).trans K3⟩
  rcases (show k = 0\/k = 1\/k = 2\/k = 3 by omega) with rfl | rfl | rfl | rfl
  ·show I64 (-1);unfold I64;omega
  ·exact Hn.out
  ·exact HyI.out
  ·exact HxI.out
 ·go_ret
  exact ⟨r,rfl,by have:=HzI.out;unfold I64 at *;omega,D3,(K1.trans K2).trans K3⟩
 ·go_ret
  exact ⟨r,rfl,by have:=HyI.out;unfold I64 at *;omega,D3,(K1.trans K2).trans K3⟩
set_option maxHeartbeats 4000000 in
theorem Zpc (g:Nat) (fc:List Nat) (l:List UInt8) (n:Nat) (w:World) (h:Src w g fc l) (hl:l.length<=4096) (hn:1<=n/\n<=1000) :
  Calls Tryz.prog 203 #[.pointer (some ⟨g,0,none⟩),.int .i64 n] w fun e w'=>∃ v gs fs,e = .returned v/\Acc w.heap.size 27 w' v gs fs/\Fresh w.heap.size w' fs.flatten/\(gs.length<=3/\∀ y:List Int,y∈gs->y.length = n)/\Src w' g fc l/\Only [g] w w':=by
 obtain ⟨i0,hi,hz0,hz1,hz2⟩:=info_parts Tryz.info22
 have hg:=h.lt
 have hfc:∀ b∈fc,b < w.heap.size:=by obtain ⟨_,_,_,_,_,_,_,h4,_⟩:=h;exact fun b hb=>Rp.lt h4 b hb
 have hA0:=Acc.made (α:=List Int) w w.heap.size 27 rfl (Nat.le_refl _)
 have ho:Only [] w (w.alloc (.cells #[] 27)):=zO.alloc _
 go_enter Tryz.func203,Tryz.ntmps203
 go_wp2_with (first
  | (go_at_call 83;(with_reducible refine (Zae g fc l 3 _ (h.keep zA) hl (by omega)).mono ?_);rintro e w1 ⟨r,rfl,r0,r1,D1,K1⟩;obtain ⟨k,rfl⟩:=Int.eq_ofNat_of_zero_le r0;have hk:k<=2:=(by omega);have hk1:IntKind.i64.wrap (1 + (k:Int)) = 1 + (k:Int):=(by rw [IntKind.wrap_i64];omega))
  | fail)
 have hA1:=hA0.only K1 (by simp) (by intro q hq hm;simp [Value.ownBlock] at hq hm;omega)
 have K1w:Only [g] w w1:=(ho.weaken [g]).trans K1
 go_loopw [5,6] (fun o c wr=>∃ (j:Nat) (gs:List (List Int)) (fs:List (List Nat)),c = .int .i64 j/\gs.length + j<=3/\Acc w.heap.size 27 wr o gs fs/\Fresh w.heap.size wr fs.flatten/\(∀ y:List Int,y∈gs->y.length = n)/\Src wr g fc l/\Only [g] w wr)
  (fun _ c _=>(intOf c).toNat)
 case atStart=>exact ⟨k + 1,[],[],by go_num,by simp;omega,hA1,Fresh.nil _ _,by simp,D1,K1w⟩
 case round=>
  obtain ⟨W2,hnew⟩:∃ W,W = wr:=⟨_,rfl⟩
  subst hnew
  obtain ⟨j,gs,fs,rfl,hlen,hA,hF,hgl,hD,hK⟩:=hrel
  clear hA0 hA1 K1w D1 K1 ho
  by_cases hj:0 < j
  ·have hjI:(0:Int) < (j:Int):=by omega
   have hsz:=hK.size
   go_upto_region 6 with ((go_at_call 74;(with_reducible refine (Zfj n W2 (by omega)).mono ?_);rintro e w3 ⟨v3,rfl,hA3,t3⟩))
   have D3:=hD.keep t3
   have hg2:g < W2.heap.size:=hD.lt
   go_cut [22] (fun s22 wx=>∃ r4:Int,s22 = .int .i64 r4/\Src wx g fc l/\Only [g] w3 wx)
   case first=>
    go_wp2_with ((go_at_call 83;(with_reducible refine (Zae g fc l 4 w3 D3 hl (by omega)).mono ?_);rintro e w4 ⟨r4,rfl,r40,r41,D4,K4⟩))
    go_meet
    exact ⟨r4,rfl,D4,K4⟩
   case rest=>
    obtain ⟨W4,hnew⟩:∃ W,W = wc:=⟨_,rfl⟩
    subst hnew
    obtain ⟨r4,rfl,D4,K4⟩:=hcut
    have hA4:=hA3.only K4 (fun q hq hm=>by have:=hA3.ownlt q hq;simp at hm;omega)
    have K24:Only [g] W2 W4:=(t3.weaken [g]).trans K4
    refine (show ∀ a w,Code.wp Tryz.prog _ _ a w->_ from by assumption) _ _ ?_
    go_cut [7] (fun s7 wx=>∃ p,AccI W2.heap.size 2 wx s7 p/\p.length = n/\Src wx g fc l/\Only [g] W2 wx)
    case first=>
     have hmv:∀ {V:World} {q:Nat},v3.ownBlock = some q->q ∉ [g]:=fun hq hm=>by have:=hA3.ownlt _ hq;simp at hm;omega
     by_cases e0:r4 = 0
     ·subst e0
      go_wp2_with ((go_at_call 205;(with_reducible refine (Zfe g fc l n W4 D4 (by omega) hl).mono ?_);rintro e w5 ⟨v5,p5,rfl,hA5,hp5,D5,K5⟩))
      go_meet
      exact ⟨p5,hA5.low2 K24.size,hp5.1,D5,K24.trans K5⟩
     ·by_cases e1:r4 = 1
      ·subst e1
       go_wp2
       go_loopw [8] (fun c wr=>∃ (i:Nat) (p:List Int),c = .int .i64 i/\i<=n/\AccI W2.heap.size 2 wr v3 p/\p.length = n/\Src wr g fc l/\Only [g] W2 wr)
        (fun c _=>n - (intOf c).toNat)
       case atStart=>exact ⟨0,_,rfl,Nat.zero_le _,hA4,PM.pts_len n,D4,K24⟩
       case round=>
        obtain ⟨V,hnew⟩:∃ W,W = wr:=⟨_,rfl⟩
        subst hnew
        obtain ⟨i,p,rfl,hin,hAp,hpl,hDp,hKp⟩:=hrel
        by_cases hlt:i < n
        ·have hinI:(i:Int) < (n:Int):=by omega
         have hi0:(0:Int)<=(i:Int):=by omega
         have hwi:IntKind.i64.wrap ((i:Int) + 1) = (i:Int) + 1:=by rw [IntKind.wrap_i64];omega
         have hn0:(n:Int) ≠ 0:=by omega
         have hr0:=Int.emod_nonneg ((i:Int) + 1) hn0
         have hr1:=Int.emod_lt_of_pos ((i:Int) + 1) (show (0:Int) < (n:Int) by omega)
         obtain ⟨xx,hxx⟩:∃ xx,xx = ((i:Int) + 1) % (n:Int):=⟨_,rfl⟩
         have hmd:((i:Int) + 1) % (n:Int) = xx:=hxx.symm
         have hmd2:Int.tmod ((i:Int) + 1) (n:Int) = xx:=by rw [Int.tmod_eq_emod_of_nonneg (by omega)];exact hmd
         rw [<- hxx] at hr0 hr1
         obtain ⟨g3,c3,e3,hc3,hf3,hb3,hA3'⟩:=hAp.put (i:=i) (by omega) (x:=xx) (by unfold I64;omega)
         rw [hpl] at e3
         obtain ⟨y3,hy3⟩:∃ y,y = p[i]'(by omega):=⟨_,rfl⟩
         rw [<- hy3] at hc3
         have HA3:=zH hA3'
         have Hpl:=zH hpl
         clear hxx hAp hy3 hpl hA3' hmv hA3 hA4
         subst e3
         go_wp2
         exact ⟨⟨i + 1,_,by go_num,by omega,HA3.out,by rw [List.length_set];exact Hpl.out,hDp.only ((Only.refl [g3] V).setCell (by simp) _) (by simp;omega) (fun b hb hm=>by have:=hfc b hb;simp at hm;omega),hKp.then_ ((Only.refl [g3] V).setCell (by simp) _) (fun b hb hl=>by simp at hb;omega)⟩,by simp [intOf];omega⟩
        ·obtain rfl:i = n:=by omega
         go_wp2
         go_meet
         exact ⟨p,hAp,hpl,hDp,hKp⟩
      ·go_upto_region 9 with (first
        | (go_at_call 83;(with_reducible refine (Zae g fc l n W4 D4 hl (by omega)).mono ?_);rintro e w5 ⟨x5,rfl,x50,x51,D5,K5⟩)
        | (go_at_call 83;(with_reducible refine (Zae g fc l n w5 D5 hl (by omega)).mono ?_);rintro e w6 ⟨x6,rfl,x60,x61,D6,K6⟩)
        | fail)
       obtain ⟨xa,rfl⟩:=Int.eq_ofNat_of_zero_le x50
       obtain ⟨xb,rfl⟩:=Int.eq_ofNat_of_zero_le x60
       have hxa:xa < n:=by omega
       have hxb:xb < n:=by omega
       have hxaI:(xa:Int) < (n:Int):=by omega
       have hxbI:(xb:Int) < (n:Int):=by omega
       have hxa0:(0:Int)<=(xa:Int):=by omega
       have hxb0:(0:Int)<=(xb:Int):=by omega
       have hA6:=hA4.only (K5.trans K6) (fun q hq=>hmv (V:=W4) hq)
       obtain ⟨g3,c3,e3,hc3,hf3,hb3,hA7⟩:=hA6.put (i:=xa) (by rw [PM.pts_len];exact hxa) (x:=(xb:Int)) (by unfold I64;omega)
       obtain ⟨g4,c4,e4,hc4,hf4,hb4,hA8⟩:=hA7.put (i:=xb) (by rw [List.length_set,PM.pts_len];exact hxb) (x:=(xa:Int)) (by unfold I64;omega)
       rw [PM.pts_len] at e3
       rw [List.length_set,PM.pts_len] at e4
       have e34:=e3.symm.trans e4
       injection e34 with e5 _ e6
       subst e6
       injection e5 with e5
       injection e5 with e5 _ _
       subst e5
       obtain ⟨y3,hy3⟩:∃ y,w6.cell? ⟨g3,xa,none⟩ = some (.int .i64 y):=⟨_,hc3⟩
       obtain ⟨y4,hy4⟩:∃ y,(w6.setCell ⟨g3,xa,none⟩ (.int .i64 (xb:Int))).cell? ⟨g3,xb,none⟩ = some (.int .i64 y):=⟨_,hc4⟩
       have HA8:=zH hA8
       clear hc3 hc4 hA7 hA8 hA6 e4 hmv hA3 hA4
       subst e3
       have k68:Only [g3] w6 ((w6.setCell ⟨g3,xa,none⟩ (.int .i64 (xb:Int))).setCell ⟨g3,xb,none⟩ (.int .i64 (xa:Int))):=((Only.refl [g3] w6).setCell (by simp) _).setCell (by simp) _
       go_wp2
       go_meet
       exact ⟨_,HA8.out,by rw [List.length_set,List.length_set,PM.pts_len],D6.only k68 (by simp;omega) (fun b hb hm=>by have:=hfc b hb;simp at hm;omega),(K24.trans (K5.trans K6)).then_ k68 (fun b hb hl=>by simp at hb;omega)⟩
    case rest=>
     obtain ⟨W5,hnew⟩:∃ W,W = wc:=⟨_,rfl⟩
     subst hnew
     obtain ⟨p,hA5,hp5,D5,K5⟩:=hcut
     obtain ⟨a5,c5,rfl⟩:=hA5.form
     have Hp5:=zH hp5
     clear hp5
     have hA6:=hA.only K5 (fun q hq hm=>by have:=hF.ge q hq;simp at hm;omega) (fun q hq hm=>by have:=(hA.ownlt q hq).1;simp at hm;omega)
     have hF6:=hF
     have hrow:=hA5.rd
     have hfr:=hA5.fresh
     have hnl:gs.length + 1<=1073741824:=by omega
     have hbz:w.heap.size<=W5.heap.size:=Nat.le_trans hsz K5.size
     go_wp2_with (first
      | (at_builtin;refine Zec rfl _ _ 24 rfl w.heap.size 27 i0 _ 24 Tryz.underlying24 hi hz0 hz1 hz2 rfl (by decide) (by decide) W5 u5 gs fs rfl hA6 ((Only.refl [] W5).alloc _) hbz W5.heap.size 1 [.slice a5 p.length c5] p _ rfl (lit_src W5 [.slice a5 p.length c5] _ rfl) (by intro u hu;simp at hu;subst hu;rfl) (zK hrow ((Only.refl [] W5).alloc _)) ?hap hnl ?_;(case hap=>(intro b hb he;have h1:=hfr.ge b hb;have h2:=(hA.ownlt b he).2;omega));intro v7 w7 hA7 hO7 hN7)
      | fail)
     have D7:=(D5.keep ((Only.refl [] W5).alloc (.cells #[.slice a5 p.length c5] 27))).only hO7 (fun hm=>by have:=(hA.ownlt g (by simpa using hm)).1;omega) (fun b hb hm=>by have:=hfc b hb;have:=(hA.ownlt b (by simpa using hm)).1;omega)
     have K7:Only [g] w w7:=((hK.trans K5).alloc _).then_ hO7 (fun b hb hl=>by have:=(hA.ownlt b (by simpa using hb)).1;omega)
     have hs7:W5.heap.size<=w7.heap.size:=Nat.le_trans (by simp) hO7.size
     have hkal:Only [] W5 (W5.alloc (.cells #[.slice a5 p.length c5] 27)):=zO.alloc _
     have F1:Fresh w.heap.size w7 fs.flatten:=((hF.only K5 (fun q hq hm=>by have:=hF.ge q hq;simp at hm;omega)).keep hkal).only hO7 (fun q hq hm=>hA.apart q (by simpa using hm) hq)
     have F2:=(hfr.keep hkal).only hO7 (fun q hq hm=>by have h1:=hfr.ge q hq;have h2:=(hA.ownlt q (by simpa using hm)).2;omega)
     have F3:Fresh w.heap.size w7 (fs ++ [(Value.slice a5 p.length c5).ownBlock.toList]).flatten:=by
      have:=F1.append F2 hsz hF.lt
      simpa using this
     exact ⟨⟨j - 1,gs ++ [p],_,by congr 1;omega,by simp;omega,hA7,F3,by
      intro y hy
      rcases List.mem_append.1 hy with hy | hy
      ·exact hgl y hy
      ·rw [List.mem_singleton.1 hy];exact Hp5.out,D7,K7⟩,by simp [intOf];omega⟩
  ·obtain rfl:j = 0:=by omega
   go_wp2
   go_ret
   exact ⟨_,gs,fs,rfl,hA,hF,⟨by omega,hgl⟩,hD,hK⟩
set_option maxHeartbeats 4000000 in
theorem Zdg (g:Nat) (fc:List Nat) (l:List UInt8) (n:Nat) (w:World) (h:Src w g fc l) (hl:l.length<=4096) (hn:1<=n/\n<=1000) :
  Calls Tryz.prog 147 #[.pointer (some ⟨g,0,none⟩),.int .i64 n] w fun e w'=>∃ v,∃ p:List Int,∃ fp,e = .returned v/\Rd w' v p fp/\Fresh w.heap.size w' fp/\p.length<=n + 21/\Src w' g fc l/\Only [g] w w':=by
 obtain ⟨i0,hi,hz0,hz1,hz2⟩:=info_parts Tryz.info2
 have hg:=h.lt
 have hfc:∀ b∈fc,b < w.heap.size:=by obtain ⟨_,_,_,_,_,_,_,h4,_⟩:=h;exact fun b hb=>Rp.lt h4 b hb
 have hnI:(0:Int) < (n:Int):=by omega
 go_enter Tryz.func147,Tryz.ntmps147
 go_upto_region 2 with ((go_at_call 205;(with_reducible refine (Zfe g fc l n w h (by omega) hl).mono ?_);rintro e w1 ⟨v1,p1,rfl,hA1,hp1,D1,K1⟩))
 go_cut [14] (fun s14 wx=>∃ b:Bool,s14 = .bool b/\Src wx g fc l/\Only [g] w1 wx)
 case first=>
  go_wp2_with ((go_at_call 84;(with_reducible refine (Zbf g fc l 12 w1 D1 hl (by omega)).mono ?_);rintro e w2 ⟨b,rfl,D2,K2⟩))
  all_goals go_meet
  all_goals exact ⟨_,rfl,D2,K2⟩
 case rest=>
  obtain ⟨W2,hnew⟩:∃ W,W = wc:=⟨_,rfl⟩
  subst hnew
  obtain ⟨b,rfl,D2,K2⟩:=hcut
  have hmv:∀ {q:Nat},v1.ownBlock = some q->q ∉ [g]:=fun hq hm=>by have:=hA1.ownlt _ hq;simp at hm;omega
  have hA2:=hA1.only K2 (fun q hq=>hmv hq)
  have K12:=K1.trans K2
  refine (show ∀ a w,Code.wp Tryz.prog _ _ a w->_ from by assumption) _ _ ?_
  go_cut [5] (fun s5 wx=>∃ p:List Int,∃ fp,Rd wx s5 p fp/\Fresh w.heap.size wx fp/\p.length<=n + 1/\Src wx g fc l/\Only [g] w wx)
  case first=>
   have hln:=hp1.1
   have Hln:=zH hln
   have hs12:=K12.size
   clear hp1 hln
   cases b
   ·go_wp2
    go_meet
    exact ⟨p1,_,hA2.rd,hA2.fresh,by rw [Hln.out];omega,D2,K12⟩
   ·go_upto_region 4 with ((go_at_call 83;(with_reducible refine (Zae g fc l 3 W2 D2 hl (by omega)).mono ?_);rintro e w3 ⟨r,rfl,r0,r1,D3,K3⟩))
    have K13:=K12.trans K3
    have hA3:=hA2.only K3 (fun q hq=>hmv hq)
    by_cases e0:r = 0
    ·subst e0
     go_wp2_with (first
      | (go_at_call 83;(with_reducible refine (Zae g fc l n w3 D3 hl (by omega)).mono ?_);rintro e w4 ⟨x4,rfl,x40,x41,D4,K4⟩)
      | (go_at_call 38;(with_reducible refine (Zcz g fc l n w4 D4 hl (by unfold I64;omega)).mono ?_);rintro e w5 ⟨y,rfl,hy,D5,K5⟩;obtain ⟨xa,rfl⟩:=Int.eq_ofNat_of_zero_le x40;have hxa:xa < n:=(by omega);have hxaI:(xa:Int) < (n:Int):=(by omega);have hxa0:(0:Int)<=(xa:Int):=(by omega);have hA5:=hA3.only (K4.trans K5) (fun q hq=>hmv hq);obtain ⟨g3,c3,e3,hc3,hf3,hb3,hA7⟩:=hA5.put (i:=xa) (by rw [Hln.out];exact hxa) hy;obtain ⟨y3,hy3⟩:∃ z,w5.cell? ⟨g3,xa,none⟩ = some (.int .i64 z):=⟨_,hc3⟩;have HA7:=zH hA7;rw [Hln.out] at e3;clear hc3 hA7 hA5 hA3 hA2 hA1 hmv;subst e3)
      | fail)
     go_meet
     have k68:Only [g3] w5 (w5.setCell ⟨g3,xa,none⟩ (.int .i64 y)):=(Only.refl [g3] w5).setCell (by simp) _
     exact ⟨_,_,HA7.out.rd,HA7.out.fresh,by rw [List.length_set,Hln.out];omega,D5.only k68 (by simp;omega) (fun b hb hm=>by have:=hfc b hb;simp at hm;omega),(K13.trans (K4.trans K5)).then_ k68 (fun b hb hl=>by simp at hb;omega)⟩
    ·by_cases e1:r = 1
     ·subst e1
      obtain ⟨hO,hw⟩:=hA3.row
      obtain ⟨g3,c3,e3,hb3,hlt3⟩:=hO.form (by rw [Hln.out];omega)
      have hR:=hA3.rd
      have hFr:=hA3.fresh
      rw [e3] at hR hFr
      obtain ⟨a3,c3',e4,I3⟩:=hR.ints
      rw [Hln.out] at e3 e4
      injection e4 with e5 _ e6
      subst e5
      subst e6
      have hcap:=I3.len
      rw [Hln.out] at hcap
      have HI:=zH I3
      have hcI:(n:Int)<=(c3:Int):=by omega
      have hn1:(1:Int)<=(n:Int):=by omega
      have hFO:=zH hFr
      clear hA3 hA2 hA1 hmv hR hO I3 hFr
      subst e3
      by_cases hc1:c3 = 1
      ·subst hc1
       have hn11:n = 1:=by omega
       subst hn11
       go_wp2
       go_meet
       exact ⟨[],[],(IntsA.nil _ _ (by simp [maxLen])).rd,Fresh.nil _ _,by simp,D3,K13⟩
      ·go_wp2
       go_meet
       exact ⟨p1.drop 1,_,by have:=(HI.out.drop (k:=1) (by rw [Hln.out];omega)).rd;rw [List.length_drop,Hln.out] at this;exact this,hFO.out,by rw [List.length_drop,Hln.out];omega,D3,K13⟩
     ·have e2:r = 2:=by omega
      subst e2
      have hnI64:I64 (n:Int):=by unfold I64;omega
      have HnI:=zH hnI64
      have hdl:p1.length + 1<=1073741824:=by rw [Hln.out];omega
      have hbw:w.heap.size<=w3.heap.size:=K13.size
      have HA3:=zH hA3
      clear hnI64
      go_wp2_with (first
       | (at_builtin;refine Zbi rfl _ _ 27 rfl w.heap.size 2 i0 _ Tryz.underlying27 hi hz0 hz1 hz2 rfl w3 v1 p1 rfl HA3.out (zO.alloc _) hbw w3.heap.size 1 (n:Int) rfl (lit1 w3 _ _ rfl) HnI.out hdl ?_;intro v9 w9 hA9 hO9 hP9 hN9)
       | fail)
      go_meet
      exact ⟨_,_,hA9.rd,hA9.fresh,by rw [List.length_append,Hln.out];simp,(D3.keep ((Only.refl [] w3).alloc _)).only hO9 (fun hm=>by have:=(hA3.ownlt g (by simpa using hm)).1;omega) (fun b hb hm=>by have:=hfc b hb;have:=(hA3.ownlt b (by simpa using hm)).1;omega),(K13.alloc _).then_ hO9 (fun b hb hl=>by have:=(hA3.ownlt b (by simpa using hb)).1;omega)⟩
  case rest=>
   obtain ⟨W5,hnew⟩:∃ W,W = wc:=⟨_,rfl⟩
   subst hnew
   obtain ⟨p,fp,r5,F5,hp5,D5,K5⟩:=hcut
   go_wp2_with (first
    | (go_at_call 84;(with_reducible refine (Zbf g fc l 60 _ D5 hl (by omega)).mono ?_);rintro e w6 ⟨b6,rfl,D6,K6⟩)
    | (go_at_call 83;(with_reducible refine (Zae g fc l 2 w6 D6 hl (by omega)).mono ?_);rintro e w7 ⟨r,rfl,r0,r1,D7,K7⟩;obtain ⟨k,rfl⟩:=Int.eq_ofNat_of_zero_le r0;have hk:k<=1:=(by omega);obtain ⟨m,hm⟩:∃ m:Nat,m = 20 + k:=⟨_,rfl⟩;have hwk:IntKind.i64.wrap (20 + (k:Int)) = (m:Int):=(by rw [IntKind.wrap_i64];omega);have hm1:m<=21:=(by omega);clear hm)
    | (go_at_call 205;(with_reducible refine (Zfe g fc l m w7 D7 (by omega) hl).mono ?_);rintro e w8 ⟨v8,p8,rfl,hA8,hp8,D8,K8⟩)
    | fail)
   ·go_ret
    exact ⟨_,p8,_,rfl,hA8.rd,hA8.fresh.mono (Nat.le_trans K5.size (K6.trans K7).size),by rw [hp8.1];omega,D8,K5.trans ((K6.trans K7).trans K8)⟩
   ·go_ret
    exact ⟨_,p,fp,rfl,Rp.only r5 K6 (fun q hq hm=>by have:=F5.ge q hq;simp at hm;omega),F5.only K6 (fun q hq hm=>by have:=F5.ge q hq;simp at hm;omega),by omega,D6,K5.trans K6⟩
theorem Acc.low3 {α:Type} [Rp α] {B B':Nat} {e:TypeId} {w:World} {v:Value} {l:List α} {fs:List (List Nat)} (h:Acc B e w v l fs) (hB:B'<=B):Acc B' e w v l fs:=by
 obtain ⟨⟨css,ho,hcl,hr⟩,hf,ha⟩:=h
 refine ⟨⟨css,⟨ho.1,?_⟩,hcl,hr⟩,hf,ha⟩
 rcases ho.2 with h1 | ⟨g,cap,cur,h1,h2,h3⟩
 ·exact .inl h1
 ·exact .inr ⟨g,cap,cur,h1,Nat.le_trans hB h2,h3⟩
theorem Zry {w W w4 w5 w7:World} {g:Nat} {fc:List Nat} {l:List UInt8} {e:TypeId} {v:Value} {gs:List (List Int)} {fs:List (List Nat)} {f:List Nat} (hA:Acc w.heap.size e W v gs fs) (hF:Fresh w.heap.size W fs.flatten) (hK:Only [g] w W) (K4:Only [g] W w4) (hf:Fresh W.heap.size w4 f) (D4:Src w4 g fc l) (hg:g < w.heap.size) (hfc:∀ b∈fc,b < w.heap.size) (o5:Only [] w4 w5) (hO7:Only v.ownBlock.toList w5 w7) :
  Fresh w.heap.size w7 (fs ++ [f]).flatten/\Src w7 g fc l/\Only [g] w w7:=by
 have F1:Fresh w.heap.size w7 fs.flatten:=((hF.only K4 (fun q hq hm=>by have:=hF.ge q hq;simp at hm;omega)).keep o5).only hO7 (fun q hq hm=>hA.apart q (by simpa using hm) hq)
 have F2:=(hf.keep o5).only hO7 (fun q hq hm=>by have h1:=hf.ge q hq;have h2:=(hA.ownlt q (by simpa using hm)).2;omega)
 have D7:=(D4.keep o5).only hO7 (fun hm=>by have:=(hA.ownlt g (by simpa using hm)).1;omega) (fun b hb hm=>by have:=hfc b hb;have:=(hA.ownlt b (by simpa using hm)).1;omega)
 refine ⟨by have:=F1.append F2 hK.size hF.lt;simpa using this,D7,((hK.trans K4).trans (o5.weaken [g])).then_ hO7 (fun b hb hl=>by have:=(hA.ownlt b (by simpa using hb)).1;omega)⟩
structure OwnI where
 l:List Int
theorem AccI.frame {B:Nat} {e:TypeId} {w w':World} {v:Value} {l:List Int} (h:AccI B e w v l) (hf:∀ b∈v.ownBlock.toList,w'.heap[b]? = w.heap[b]?):AccI B e w' v l:=by
 obtain ⟨hO,hw⟩:=h.row
 refine AccI.ofRow ⟨hO.1,?_⟩ hw
 rcases hO.2 with h1 | ⟨g,cp,cur,rfl,hb,hg,hrest⟩
 ·exact .inl h1
 ·exact .inr ⟨g,cp,cur,rfl,hb,by rw [hf g (by simp [Value.ownBlock])];exact hg,hrest⟩
instance:Rp OwnI where
 size:=1
 rep w cs x fp:=∃ v,cs = [v]/\AccI 0 2 w v x.l/\fp = v.ownBlock.toList
 len h:=by obtain ⟨v,rfl,-⟩:=h;rfl
 frame h hf:=by
  obtain ⟨v,rfl,hA,rfl⟩:=h
  exact ⟨v,rfl,hA.frame hf,rfl⟩
 lt h:=by
  obtain ⟨v,rfl,hA,rfl⟩:=h
  exact fun b hb=>(hA.ownlt b (by simpa using hb)).2
theorem own_rd {w:World} {cs:List Value} {x:OwnI} {fp:List Nat} (h:Rp.rep w cs x fp):Rp.rep w cs x.l fp:=by
 obtain ⟨v,rfl,hA,rfl⟩:=h
 exact hA.rd
theorem Acc.ofOwn {B:Nat} {e:TypeId} {w:World} {v:Value} {L:List OwnI} {fs:List (List Nat)} (h:Acc B e w v L fs):Acc B e w v (L.map OwnI.l) fs:=by
 obtain ⟨⟨css,ho,hcl,hr⟩,hf,ha⟩:=h
 refine ⟨⟨css,?_,by rw [List.length_map];exact hcl,fun k h1 h2 h3=>?_⟩,by rw [List.length_map];exact hf,ha⟩
 ·rw [List.length_map];exact ho
 ·rw [List.length_map] at h2
  have:=own_rd (hr k h1 h2 h3)
  simpa using this
def PI (e:Ending) (w w':World):Prop:=∃ (x:Int) (b:Bool),e = .returned (.tuple #[.int .i64 x,.bool b])/\0<=x/\x<=999999999/\Only [] w w'
theorem PI.mk {x:Int} {b:Bool} {w w':World} (h0:0<=x) (h1:x<=999999999) (k:Only [] w w'):PI (.returned (.tuple #[.int .i64 x,.bool b])) w w':=⟨x,b,rfl,h0,h1,k⟩
theorem Zqi {j:Nat} (h:j<=9):10 ^ j<=1000000000:=Nat.pow_le_pow_right (n:=10) (by omega) h
theorem Zmy {j:Nat} (h:j<=8):10 ^ j<=100000000:=Nat.pow_le_pow_right (n:=10) (by omega) h
set_option maxHeartbeats 2000000 in
theorem Zql (s:ByteArray) (w:World) :
  Calls Tryz.prog 247 #[.string s] w fun e w'=>PI e w w':=by
 by_cases h1:s.size < 1
 ·have h1I:(s.size:Int) < 1:=by omega
  go_enter Tryz.func247,Tryz.ntmps247
  go_wp2
  refine bodyPost_ret (v:=.tuple #[.int .i64 0,.bool false]) (by simp [results,Tryz.results247,go_sem]) rfl (PI.mk (by omega) (by omega) zO)
 by_cases h9:9 < s.size
 ·have h9I:(9:Int) < (s.size:Int):=by omega
  have h1I:¬ (s.size:Int) < 1:=by omega
  go_enter Tryz.func247,Tryz.ntmps247
  go_wp2
  refine bodyPost_ret (v:=.tuple #[.int .i64 0,.bool false]) (by simp [results,Tryz.results247,go_sem]) rfl (PI.mk (by omega) (by omega) zO)
 have h0:0 < s.size:=by omega
 have h0I:(0:Int) < (s.size:Int):=by omega
 have h1I:¬ (s.size:Int) < 1:=by omega
 have h9I:¬ (9:Int) < (s.size:Int):=by omega
 rcases hc0:((s[0].toNat:Int) == 48)
 ·go_enter Tryz.func247,Tryz.ntmps247
  go_wp2
  go_loopw [4,5] (fun nv kv wr=>∃ (j x:Nat),j<=s.size/\kv = .int .i64 j/\nv = .int .i64 (x:Int)/\Hid (x < 10 ^ j)/\Only [] w wr)
   (fun _ kv _=>s.size - (intOf kv).toNat)
  case atStart=>exact ⟨0,0,Nat.zero_le _,rfl,rfl,zH (by decide),Only.refl _ _⟩
  case round=>
   obtain ⟨W2,hnew⟩:∃ W,W = wr:=⟨_,rfl⟩
   subst hnew
   obtain ⟨j,x,hj,rfl,rfl,hx,hO⟩:=hrel
   by_cases hlt:j < s.size
   ·have hj1:(0:Int)<=(j:Int):=by omega
    have hj2:(j:Int) < (s.size:Int):=by omega
    have hx8:x < 100000000:=Nat.lt_of_lt_of_le hx.out (Zmy (by omega))
    have hb:=UInt8.toNat_lt s[j]
    by_cases d1:(s[j].toNat:Int) < 48
    ·go_wp2
     refine bodyPost_ret (v:=.tuple #[.int .i64 0,.bool false]) (by simp [results,Tryz.results247,go_sem]) rfl (PI.mk (by omega) (by omega) hO)
    ·by_cases d2:(57:Int) < (s[j].toNat:Int)
     ·go_wp2
      refine bodyPost_ret (v:=.tuple #[.int .i64 0,.bool false]) (by simp [results,Tryz.results247,go_sem]) rfl (PI.mk (by omega) (by omega) hO)
     ·obtain ⟨d,hd⟩:∃ d:Nat,(d:Int) = (s[j].toNat:Int) - 48:=⟨s[j].toNat - 48,by omega⟩
      have hd9:d<=9:=by omega
      have Hst:Hid (x * 10 + d < 10 ^ (j + 1)):=zH (by have:=hx.out;rw [Nat.pow_succ];omega)
      have hwd:IntKind.u8.wrap ((s[j].toNat:Int) - 48) = (s[j].toNat:Int) - 48:=by unfold IntKind.wrap;simp [IntKind.signed,IntKind.bits];omega
      go_wp2
      go_roundw
      case rel=>exact ⟨j + 1,x * 10 + d,by omega,by go_num,by congr 1;push_cast;omega,Hst,hO⟩
      case measure=>simp [intOf];omega
   ·have hj9:j = s.size:=by omega
    have hx9:x < 1000000000:=Nat.lt_of_lt_of_le hx.out (Zqi (by omega))
    go_wp2
    refine bodyPost_ret (v:=.tuple #[.int .i64 (x:Int),.bool true]) (by simp [results,Tryz.results247,go_sem]) rfl (PI.mk (by omega) (by omega) hO)
 ·by_cases h2:1 < s.size
  ·have h2I:(1:Int) < (s.size:Int):=by omega
   go_enter Tryz.func247,Tryz.ntmps247
   go_wp2
   refine bodyPost_ret (v:=.tuple #[.int .i64 0,.bool false]) (by simp [results,Tryz.results247,go_sem]) rfl (PI.mk (by omega) (by omega) zO)
  ·have h2I:¬ (1:Int) < (s.size:Int):=by omega
   go_enter Tryz.func247,Tryz.ntmps247
   go_wp2
   go_loopw [4,5] (fun nv kv wr=>∃ (j x:Nat),j<=s.size/\kv = .int .i64 j/\nv = .int .i64 (x:Int)/\Hid (x < 10 ^ j)/\Only [] w wr)
    (fun _ kv _=>s.size - (intOf kv).toNat)
   case atStart=>exact ⟨0,0,Nat.zero_le _,rfl,rfl,zH (by decide),Only.refl _ _⟩
   case round=>
    obtain ⟨W2,hnew⟩:∃ W,W = wr:=⟨_,rfl⟩
    subst hnew
    obtain ⟨j,x,hj,rfl,rfl,hx,hO⟩:=hrel
    by_cases hlt:j < s.size
    ·have hj1:(0:Int)<=(j:Int):=by omega
     have hj2:(j:Int) < (s.size:Int):=by omega
     have hx8:x < 100000000:=Nat.lt_of_lt_of_le hx.out (Zmy (by omega))
     have hb:=UInt8.toNat_lt s[j]
     by_cases d1:(s[j].toNat:Int) < 48
     ·go_wp2
      refine bodyPost_ret (v:=.tuple #[.int .i64 0,.bool false]) (by simp [results,Tryz.results247,go_sem]) rfl (PI.mk (by omega) (by omega) hO)
     ·by_cases d2:(57:Int) < (s[j].toNat:Int)
      ·go_wp2
       refine bodyPost_ret (v:=.tuple #[.int .i64 0,.bool false]) (by simp [results,Tryz.results247,go_sem]) rfl (PI.mk (by omega) (by omega) hO)
      ·obtain ⟨d,hd⟩:∃ d:Nat,(d:Int) = (s[j].toNat:Int) - 48:=⟨s[j].toNat - 48,by omega⟩
       have hd9:d<=9:=by omega
       have Hst:Hid (x * 10 + d < 10 ^ (j + 1)):=zH (by have:=hx.out;rw [Nat.pow_succ];omega)
       have hwd:IntKind.u8.wrap ((s[j].toNat:Int) - 48) = (s[j].toNat:Int) - 48:=by unfold IntKind.wrap;simp [IntKind.signed,IntKind.bits];omega
       go_wp2
       go_roundw
       case rel=>exact ⟨j + 1,x * 10 + d,by omega,by go_num,by congr 1;push_cast;omega,Hst,hO⟩
       case measure=>simp [intOf];omega
    ·have hj9:j = s.size:=by omega
     have hx9:x < 1000000000:=Nat.lt_of_lt_of_le hx.out (Zqi (by omega))
     go_wp2
     refine bodyPost_ret (v:=.tuple #[.int .i64 (x:Int),.bool true]) (by simp [results,Tryz.results247,go_sem]) rfl (PI.mk (by omega) (by omega) hO)
instance:Rp ByteArray where
 size:=1
 rep _ cs s fp:=cs = [.string s]/\s.size<=maxLen/\fp = []
 len h:=by rw [h.1];rfl
 frame h _:=h
 lt h:=by rw [h.2.2];simp
theorem str_rd (w:World) {s:ByteArray} (h:s.size<=maxLen):Rp.rep w [.string s] s []:=⟨rfl,h,rfl⟩
theorem Tryz.infoStr:(Tryz.prog.info? 9).map (fun i=>(i.zero,i.size,i.bytes)) = some (some (.string ⟨#[]⟩),1,16):=by kernel_rfl
theorem Zbh (s:ByteArray) (a b:Nat):(s.extract a b).size<=s.size:=by rw [ByteArray.size_extract];omega
set_option maxHeartbeats 4000000 in
theorem Zhu (s:ByteArray) (c:Int) (w:World) (hs:s.size<=1000000) :
  Calls Tryz.prog 242 #[.string s,.int .u8 c] w fun e w'=>∃ v L fs,e = .returned v/\Acc w.heap.size 9 w' v (L:List ByteArray) fs/\Fresh w.heap.size w' fs.flatten/\L.length<=s.size + 1/\(∀ x∈L,x.size<=s.size)/\Only [] w w':=by
 obtain ⟨i0,hi,hz0,hz1,hz2⟩:=info_parts Tryz.infoStr
 have hA0:=Acc.made (α:=ByteArray) w w.heap.size 9 rfl (Nat.le_refl _)
 have ho:Only [] w (w.alloc (.cells #[] 9)):=zO.alloc _
 go_enter Tryz.func242,Tryz.ntmps242
 go_wp2
 go_loopw [5,6,7] (fun o fv iv wr=>∃ (i fr:Nat) (L:List ByteArray) (fs:List (List Nat)),i<=s.size + 1/\fr<=i/\fv = .int .i64 fr/\iv = .int .i64 i/\Acc w.heap.size 9 wr o L fs/\Fresh w.heap.size wr fs.flatten/\Hid (L.length<=i/\∀ x∈L,x.size<=s.size)/\Only [] w wr)
  (fun _ _ iv _=>s.size + 1 - (intOf iv).toNat)
 case atStart=>exact ⟨0,0,[],[],by omega,Nat.le_refl _,rfl,rfl,hA0,Fresh.nil _ _,Lib.hid ⟨by simp,by simp⟩,ho⟩
 case round=>
  obtain ⟨W2,hnew⟩:∃ W,W = wr:=⟨_,rfl⟩
  subst hnew
  clear hA0 ho
  obtain ⟨i,fr,L,fs,hi1,hfr,rfl,rfl,hA,hF,hL,hO⟩:=hrel
  have hsz:=hO.size
  by_cases hgo:i<=s.size
  ·have hgoI:(i:Int)<=(s.size:Int):=by omega
   have hi00:(0:Int)<=(i:Int):=by omega
   have hf00:(0:Int)<=(fr:Int):=by omega
   have hfiI:(fr:Int)<=(i:Int):=by omega
   have hlen:L.length + 1<=1073741824:=by have:=hL.out.1;omega
   have hex:(s.extract fr i).size<=maxLen:=by have:=Zbh s fr i;unfold maxLen;omega
   have Hex:=zH hex
   clear hex
   obtain ⟨x,hx⟩:∃ x,x = s.extract fr i:=⟨_,rfl⟩
   have hxs:Hid (x.size<=s.size):=zH (by rw [hx];exact Zbh _ _ _)
   rw [<- hx] at Hex
   have Hx:=zH hx
   clear hx
   by_cases hend:i = s.size
   ·subst hend
    go_wp2_with (first
     | (at_builtin;refine Zah (α:=ByteArray) rfl _ _ 230 rfl w.heap.size 9 i0 _ 16 Tryz.underlying230 hi hz0 hz1 hz2 rfl (by decide) (by decide) W2 _ L fs rfl hA hF (zO.alloc _) hsz W2.heap.size 1 [.string (s.extract fr s.size)] (s.extract fr s.size) [] rfl (lit_src W2 [_] _ rfl) (by intro u hu;simp at hu;subst hu;rfl) (str_rd _ (by rw [<- Hx.out];exact Hex.out)) (Fresh.nil _ _) hlen w (hO.alloc _) (Nat.le_refl _) ?_;intro v3 w3 hA3 hF3 hK3 _)
     | fail)
    go_roundw
    case rel=>exact ⟨s.size + 1,s.size + 1,_,_,by omega,Nat.le_refl _,by go_num,by go_num,hA3,hF3,Lib.hid ⟨by rw [List.length_append,List.length_singleton];have:=hL.out.1;omega,fun y hy=>by
     rcases List.mem_append.1 hy with h | h
     ·exact hL.out.2 y h
     ·rw [List.mem_singleton.1 h,<- Hx.out];exact hxs.out⟩,hK3⟩
    case measure=>simp [intOf]
   ·have hlt:i < s.size:=by omega
    have hltI:(i:Int) < (s.size:Int):=by omega
    have he1:((i:Int) == (s.size:Int)) = false:=by
     have:(i:Int) ≠ (s.size:Int):=by omega
     simpa using this
    rcases hcc:((s[i].toNat:Int) == c)
    ·clear hend
     go_wp2
     go_roundw
     case rel=>exact ⟨i + 1,fr,L,fs,by omega,by omega,rfl,by go_num,hA,hF,Lib.hid ⟨by have:=hL.out.1;omega,hL.out.2⟩,hO⟩
     case measure=>simp [intOf];omega
    ·clear hend
     go_wp2_with (first
      | (at_builtin;refine Zah (α:=ByteArray) rfl _ _ 230 rfl w.heap.size 9 i0 _ 16 Tryz.underlying230 hi hz0 hz1 hz2 rfl (by decide) (by decide) W2 _ L fs rfl hA hF (zO.alloc _) hsz W2.heap.size 1 [.string (s.extract fr i)] (s.extract fr i) [] rfl (lit_src W2 [_] _ rfl) (by intro u hu;simp at hu;subst hu;rfl) (str_rd _ (by rw [<- Hx.out];exact Hex.out)) (Fresh.nil _ _) hlen w (hO.alloc _) (Nat.le_refl _) ?_;intro v3 w3 hA3 hF3 hK3 _)
      | fail)
     go_roundw
     case rel=>exact ⟨i + 1,i + 1,_,_,by omega,Nat.le_refl _,by go_num,by go_num,hA3,hF3,Lib.hid ⟨by rw [List.length_append,List.length_singleton];have:=hL.out.1;omega,fun y hy=>by
      rcases List.mem_append.1 hy with h | h
      ·exact hL.out.2 y h
      ·rw [List.mem_singleton.1 h,<- Hx.out];exact hxs.out⟩,hK3⟩
     case measure=>simp [intOf];omega
  ·have hge:¬ (i:Int)<=(s.size:Int):=by omega
   have hLl:L.length<=s.size + 1:=by have:=hL.out.1;omega
   go_wp2
   go_ret
   exact ⟨_,rfl,L,fs,hA,hF,hLl,hL.out.2,hO⟩
def PC (B:Nat) (v:Value) (n:Nat) (w:World) (e:Ending) (w':World):Prop:=∃ (b:Bool) (p':List Int),e = .returned (.bool b)/\AccI B 2 w' v p'/\p'.length = n/\Only v.ownBlock.toList w w'
theorem PC.mk {B:Nat} {v:Value} {n:Nat} {w w':World} {b:Bool} {p':List Int} (h:AccI B 2 w' v p') (hl:p'.length = n) (k:Only v.ownBlock.toList w w'):PC B v n w (.returned (.bool b)) w':=⟨b,p',rfl,h,hl,k⟩
theorem SeqA.strAt {w:World} {a:Option Addr} {cap:Nat} {xs:List ByteArray} {ob:List Nat} {fps:List (List Nat)} (h:SeqA w a cap xs ob fps) (k:Nat) (hk:k < xs.length):∃ b off,a = some ⟨b,off,none⟩/\w.cell? ⟨b,off + k,none⟩ = some (.string xs[k]):=by
 obtain ⟨b,off,cs,e,-,hc,hr⟩:=h.at_ k hk
 obtain ⟨rfl,-,-⟩:=hr
 have h1:=hc 0 (.string xs[k]) rfl
 refine ⟨b,off,e,?_⟩
 have e2:Rp.size ByteArray = 1:=rfl
 rw [e2,Nat.mul_one,Nat.add_zero] at h1
 exact h1
set_option maxHeartbeats 4000000 in
theorem Zmq (B:Nat) (v:Value) (p:List Int) (s:ByteArray) (w:World) (hA:AccI B 2 w v p) (hp:p.length<=20) (hs:s.size<=1000000) :
  Calls Tryz.prog 243 #[v,.string s] w fun e w'=>PC B v p.length w e w':=by
 obtain ⟨i0,hi,hz0,hz1,hz2⟩:=info_parts Tryz.info2
 obtain ⟨av,cv,rfl⟩:=hA.form
 have HA:=zH hA
 clear hA
 go_enter Tryz.func243,Tryz.ntmps243
 go_wp2_with (first
  | (go_at_call 242;(with_reducible refine (Zhu s 32 w hs).mono ?_);rintro e w1 ⟨v1,L,fs1,rfl,A1,F1,l1,l2,t1⟩;obtain ⟨a1,c1,ob1,fps1,rfl,-,S1⟩:=(A1.rd (by decide)).open_)
  | fail)
 have hb1:=S1.bound
 have hz1':=t1.size
 have hA0:=Acc.made (α:=Int) w1 w1.heap.size 2 rfl (Nat.le_refl _)
 have ho:Only [] w1 (w1.alloc (.cells #[] 2)):=zO.alloc _
 go_loopw [6,7] (fun o iv wr=>∃ (i:Nat) (ps:List Int) (fs:List (List Nat)),i<=L.length/\iv = .int .i64 i/\Acc w1.heap.size 2 wr o ps fs/\Fresh w1.heap.size wr fs.flatten/\Hid (ps.length<=i/\∀ y∈ps,0<=y/\y < p.length)/\Only [] w1 wr)
  (fun _ iv _=>L.length - (intOf iv).toNat)
 case atStart=>exact ⟨0,[],[],Nat.zero_le _,rfl,hA0,Fresh.nil _ _,Lib.hid ⟨by simp,by simp⟩,ho⟩
 case round=>
  obtain ⟨W2,hnew⟩:∃ W,W = wr:=⟨_,rfl⟩
  subst hnew
  clear hA0 ho
  obtain ⟨i,ps,fs,hi1,rfl,hAp,hF,hL,hO⟩:=hrel
  have hsz:=hO.size
  by_cases hgo:i < L.length
  ·have hgoI:(i:Int) < (L.length:Int):=by omega
   have hi00:(0:Int)<=(i:Int):=by omega
   obtain ⟨b,off,rfl,hc0⟩:=S1.strAt i hgo
   have hc:=hO.cell (by simp) hc0
   have hlen:ps.length + 1<=1073741824:=by have:=hL.out.1;omega
   go_wp2_with (first
    | (go_at_call 247;(with_reducible refine (Zql L[i] W2).mono ?_);rintro e w3 ⟨x,ok,rfl,x0,x1,t3⟩;have k3:=hO.trans t3;have hAp3:=hAp.keep t3;have hF3:=hF.keep t3;have hsz3:=k3.size;have hxI:I64 x:=(by unfold I64;omega))
    | (at_builtin;refine Zah rfl _ _ 27 rfl w1.heap.size 2 i0 _ 8 Tryz.underlying27 hi hz0 hz1 hz2 rfl (by decide) (by decide) w3 _ ps fs rfl hAp3 hF3 (zO.alloc _) hsz3 w3.heap.size 1 [.int .i64 x] x [] rfl (lit_src w3 [_] _ rfl) (by intro u hu;simp at hu;subst hu;rfl) (int_rd _ hxI) (Fresh.nil _ _) hlen w1 (k3.alloc _) (Nat.le_refl _) ?_;intro v4 w4 hA4 hF4 hK4 _)
    | fail)
   ·go_ret
    exact PC.mk (HA.out.keep (t1.trans k3)) rfl ((t1.trans k3).weaken _)
   ·refine ⟨⟨i + 1,ps ++ [x],_,by omega,by go_num,hA4,hF4,Lib.hid ⟨by rw [List.length_append,List.length_singleton];have:=hL.out.1;omega,fun y hy=>?_⟩,hK4⟩,by simp [intOf];omega⟩
    rcases List.mem_append.1 hy with h | h
    ·exact hL.out.2 y h
    ·rw [List.mem_singleton.1 h];omega
   ·go_ret
    exact PC.mk (HA.out.keep (t1.trans k3)) rfl ((t1.trans k3).weaken _)
  ·have hge:¬ (i:Int) < (L.length:Int):=by omega
   have hRp:=hAp.rd (by decide)
   obtain ⟨ap,cp,rfl,Ip⟩:=Rd.ints hRp
   have hpb:=Ip.bound
   have hplo:=hAp.ownlt
   have hA2:=HA.out.keep (t1.trans hO)
   have Hps:=zH hL.out.2
   have Hlen:=zH (show p.length<=20 from hp)
   have hv1:∀ q,(Value.slice av p.length cv).ownBlock = some q->q < w.heap.size:=fun q hq=>(HA.out.ownlt q hq).2
   have hw1:w.heap.size<=w1.heap.size:=hz1'
   have kW:Only (Value.slice av p.length cv).ownBlock.toList w W2:=(t1.trans hO).weaken _
   have hdis:∀ q∈(Value.slice ap ps.length cp).ownBlock.toList ++ fs.flatten,q ∉ (Value.slice av p.length cv).ownBlock.toList:=fun q hq hm=>by
    rw [hAp.flat0,List.append_nil] at hq
    have h1:=(hplo q (by simpa using hq)).1
    have h2:=hv1 q (by simpa using hm)
    omega
   have Hdis:=zH hdis
   have Hv1:=zH hv1
   clear hdis hv1 hplo
   go_wp2
   go_loopw [10] (fun iv wr=>∃ (j:Nat) (q:List Int),j<=ps.length/\iv = .int .i64 j/\AccI B 2 wr (.slice av p.length cv) q/\q.length = p.length/\Only (Value.slice av p.length cv).ownBlock.toList W2 wr)
    (fun iv _=>ps.length - (intOf iv).toNat)
   case atStart=>exact ⟨0,p,Nat.zero_le _,rfl,hA2,rfl,Only.refl _ _⟩
   case round=>
    obtain ⟨W4,hnew⟩:∃ W,W = wr:=⟨_,rfl⟩
    subst hnew
    clear hA2
    obtain ⟨j,q,hj1,rfl,hAq,hql,hOq⟩:=hrel
    by_cases hlt:j < ps.length
    ·have hltI:(j:Int) < (ps.length:Int):=by omega
     have hj00:(0:Int)<=(j:Int):=by omega
     have hn0:(ps.length:Int) ≠ 0:=by omega
     have hn1:¬ ps.length = 0:=by omega
     have hn2:ps ≠ []:=by intro e;rw [e] at hlt;simp at hlt
     have hwj:IntKind.i64.wrap ((j:Int) + 1) = (j:Int) + 1:=by rw [IntKind.wrap_i64];omega
     obtain ⟨m,hm⟩:∃ m,m = (j + 1) % ps.length:=⟨_,rfl⟩
     have hml:m < ps.length:=by rw [hm];exact Nat.mod_lt _ (by omega)
     have hmd:((j:Int) + 1) % (ps.length:Int) = (m:Int):=by rw [hm];push_cast;rfl
     have hmd2:Int.tmod ((j:Int) + 1) (ps.length:Int) = (m:Int):=by rw [Int.tmod_eq_emod_of_nonneg (by omega)];exact hmd
     have hmI:(m:Int) < (ps.length:Int):=by omega
     have hm00:(0:Int)<=(m:Int):=by omega
     have IpW:=Rp.only Ip.rd hOq (fun b hb=>Hdis.out b hb)
     obtain ⟨a',c',e',I4⟩:=Rd.ints IpW
     injection e' with e1 _ e2
     subst e1
     subst e2
     obtain ⟨b,off,e3,-,hc1⟩:=I4.at_ j hlt
     obtain ⟨b',off',e4,-,hc2⟩:=I4.at_ m hml
     rw [e3] at e4
     injection e4 with e4
     injection e4 with e5 e6 _
     subst e5
     subst e6
     obtain ⟨y0,y1⟩:=Hps.out ps[j] (List.getElem_mem hlt)
     obtain ⟨z0,z1⟩:=Hps.out ps[m] (List.getElem_mem hml)
     obtain ⟨y,hy⟩:=Int.eq_ofNat_of_zero_le y0
     obtain ⟨z,hz⟩:=Int.eq_ofNat_of_zero_le z0
     rw [hy] at hc1 y1
     rw [hz] at hc2 z1
     have hyl:y < p.length:=by omega
     have hyI:(y:Int) < (p.length:Int):=by omega
     have hy00:(0:Int)<=(y:Int):=by omega
     have hl20:=Hlen.out
     obtain ⟨g3,c3,e7,hc3,hf3,hb3,hA3⟩:=hAq.put (i:=y) (by rw [hql];exact hyl) (x:=(z:Int)) (by unfold I64;omega)
     injection e7 with e8 e10 e9
     clear e10
     subst e8
     subst e9
     subst e3
     obtain ⟨y3,hy3⟩:∃ t,W4.cell? ⟨g3,y,none⟩ = some (.int .i64 t):=⟨_,hc3⟩
     have HA3:=zH hA3
     have Hql:=zH hql
     clear hA3 hql hc3 hAq hy hz hm I4 IpW HA
     go_wp2
     go_region_law (fail)
     all_goals go_wp2
     all_goals exact ⟨⟨j + 1,_,by omega,by go_num,HA3.out.keep (zO.drew),by rw [List.length_set];exact Hql.out,hOq.then_ (((Only.refl [g3] W4).drew).setCell (by simp) _) (fun b hb hl=>by simpa [Value.ownBlock] using hb)⟩,by simp [intOf];omega⟩
    ·have hge2:¬ (j:Int) < (ps.length:Int):=by omega
     have Hql:=zH hql
     clear hql
     go_wp2
     go_ret
     exact PC.mk hAq Hql.out (kW.trans hOq)
structure Claim where
 kind:Int
 value:Int
instance:Rp Claim where
 size:=2
 rep _ cs x fp:=cs = [Value.int .i64 x.kind,Value.int .i64 x.value]/\I64 x.kind/\I64 x.value/\fp = []
 len h:=by rw [h.1];rfl
 frame h _:=h
 lt h:=by rw [h.2.2.2];simp
def noClaim:Claim:=⟨0,0⟩
instance:Sm Claim where
 sm _:=True
def bA (l:List UInt8):ByteArray:=⟨l.toArray⟩
theorem bA_add (a b:List UInt8):bA a ++ bA b = bA (a ++ b):=by
 unfold bA
 apply ByteArray.ext
 simp [ByteArray.data_append]
def FmS (N u:Nat) (tl:List UInt8):Prop:=if u = 0/\tl ≠ [] then tl = Lib.decDigits N else Lib.decDigits N = Lib.decDigits u ++ tl
theorem FmS.start (N:Nat):FmS N N []:=by unfold FmS;rw [if_neg (by simp)];simp
theorem FmS.step {N u:Nat} {tl:List UInt8} (h:FmS N u tl) (hg:tl = []\/u ≠ 0):FmS N (u / 10) (UInt8.ofNat (48 + u % 10) :: tl):=by
 have h1:Lib.decDigits N = Lib.decDigits u ++ tl:=by
  unfold FmS at h
  rw [if_neg (by rintro ⟨a,b⟩;rcases hg with e | e;exact b e;exact e a)] at h
  exact h
 unfold FmS
 by_cases hu:u < 10
 ·have e1:u / 10 = 0:=by omega
  rw [e1,if_pos ⟨rfl,by simp⟩,h1,Lib.decDigits,dif_pos hu,show u % 10 = u by omega]
  rfl
 ·rw [if_neg (by rintro ⟨a,b⟩;omega),h1]
  conv=>lhs;rw [Lib.decDigits,dif_neg hu]
  simp
theorem FmS.fin {N u:Nat} {tl:List UInt8} (h:FmS N u tl) (h0:u = 0) (h1:tl ≠ []):tl = Lib.decDigits N:=by
 unfold FmS at h
 rwa [if_pos ⟨h0,h1⟩] at h
def lenOf:Value->Nat
 | .string s=>s.size
 | _=>0
theorem bA_size (l:List UInt8):(bA l).size = l.length:=by unfold bA;simp [ByteArray.size]
theorem bA_list (l:List UInt8):(bA l).toList = l:=by
 rw [Go.Lib.toList_data]
 unfold bA
 simp
theorem str1 (d:Nat):strOfNums [48 + (d:Int)] = bA [UInt8.ofNat (48 + d)]:=by
 unfold strOfNums bA
 have:(48 + (d:Int)).toNat = 48 + d:=by omega
 simp [this]
theorem FmS.len {N u:Nat} {tl:List UInt8} (h:FmS N u tl) (hN:N<=9223372036854775808):tl.length<=20:=by
 have h1:(Lib.decDigits N).length<=20:=by rw [Lib.decDigits_length];exact Lib.nDigits_le20 N (by omega)
 unfold FmS at h
 split at h
 ·rw [h];exact h1
 ·rw [h,List.length_append] at h1;omega
set_option maxHeartbeats 1000000 in
theorem Zog (N:Nat) (hN:N<=9223372036854775807) (w:World) :
  Calls Tryz.prog 253 #[.int .i64 (N:Int)] w fun e w'=>e = .returned (.string (bA (Lib.decDigits N)))/\Only [] w w':=by
 go_enter Tryz.func253,Tryz.ntmps253
 go_wp2
 go_loopw [0,3] (fun nv sv wr=>∃ (u:Nat) (tl:List UInt8),nv = .int .i64 (u:Int)/\sv = .string (bA tl)/\Hid (FmS N u tl)/\u<=9223372036854775807/\Only [] w wr)
  (fun nv sv _=>(intOf nv).toNat + (1 - lenOf sv))
 case atStart=>exact ⟨N,[],rfl,rfl,zH (FmS.start N),hN,Only.refl _ _⟩
 case round=>
  obtain ⟨W2,hnew⟩:∃ W,W = wr:=⟨_,rfl⟩
  subst hnew
  obtain ⟨u,tl,rfl,rfl,hF,hu,hO⟩:=hrel
  have hN0:¬ ((N:Int) < 0):=by omega
  obtain ⟨em,hem⟩:∃ em,em = tl.isEmpty:=⟨_,rfl⟩
  have hE:(bA tl).toList.isEmpty = em:=by rw [bA_list,hem]
  by_cases hgo:tl = []\/u ≠ 0
  ·obtain ⟨d,hd⟩:∃ d,d = u % 10:=⟨_,rfl⟩
   have hd10:d < 10:=by omega
   have hmd:(u:Int) % 10 = (d:Int):=by omega
   obtain ⟨q,hqd⟩:∃ q,q = u / 10:=⟨_,rfl⟩
   have hq:(u:Int) / 10 = (q:Int):=by omega
   have hst:=hF.out.step hgo
   rw [<- hd,<- hqd] at hst
   have Hd:=zH hd
   have Hqd:=zH hqd
   have hg2:(em || (u:Int) != 0) = true:=by
    rcases hgo with e | e
    ·subst e;rw [hem];simp
    ·simp [e]
   have Hme:Hid (q + (1 - (tl.length + 1)) < u + (1 - tl.length)):=zH (by
    rcases hgo with e | e
    ·subst e;simp;omega
    ·omega)
   have hcv:=run_convert_bytes_arg (P:=Tryz.prog) (W2.alloc (.cells #[.int .u8 (48 + (d:Int))] 5)) 22 5 Tryz.underlying22 Tryz.underlying5 W2.heap.size 0 1 1 [48 + (d:Int)] (by simp) (fun i hi=>by
    match i,hi with
    | 0,_=>simp) 9 Tryz.underlying9
   rw [str1] at hcv
   obtain ⟨ch,hch⟩:∃ ch,ch = UInt8.ofNat (48 + d):=⟨_,rfl⟩
   rw [<- hch] at hcv hst
   have Hst:=zH hst
   have hsz:¬ 9223372036854775807 < (bA [ch]).size + (bA tl).size:=by have:=hF.out.len (by omega);rw [bA_size,bA_size,List.length_singleton];omega
   clear hst hd hqd hF hem hgo hch
   rcases em with _ | _
   ·have hu1:((u:Int) != 0) = true:=by simpa using hg2
    go_wp2
    go_roundw
    case rel=>exact ⟨q,ch :: tl,rfl,by rw [bA_add];rfl,Hst,by have:=Hqd.out;omega,hO.trans (zO.alloc _)⟩
    case measure=>
     have:=Hme.out
     simp only [intOf,lenOf,bA_add,bA_size,List.length_append,List.length_singleton]
     omega
   ·go_wp2
    go_roundw
    case rel=>exact ⟨q,ch :: tl,rfl,by rw [bA_add];rfl,Hst,by have:=Hqd.out;omega,hO.trans (zO.alloc _)⟩
    case measure=>
     have:=Hme.out
     simp only [intOf,lenOf,bA_add,bA_size,List.length_append,List.length_singleton]
     omega
  ·have ht:tl ≠ []:=fun e=>hgo (.inl e)
   have hu0:u = 0:=by
    rcases Nat.eq_zero_or_pos u with e | e
    ·exact e
    ·exact absurd (.inr (by omega)) hgo
   have hfin:=zH (hF.out.fin hu0 ht)
   have hem2:em = false:=by rw [hem];cases tl with
    | nil=>exact absurd rfl ht
    | cons=>rfl
   subst hem2
   subst hu0
   clear hF hem hgo ht
   go_wp2
   go_ret
   exact ⟨by rw [hfin.out];rfl,hO⟩
set_option maxHeartbeats 1000000 in
theorem Znz (N:Nat) (hN1:1<=N) (hN:N<=9223372036854775808) (w:World) :
  Calls Tryz.prog 253 #[.int .i64 (-(N:Int))] w fun e w'=>e = .returned (.string (bA (45 :: Lib.decDigits N)))/\Only [] w w':=by
 have hNneg:-(N:Int) < 0:=by omega
 obtain ⟨y,hy⟩:∃ y,y = -(N:Int):=⟨_,rfl⟩
 rw [<- hy] at hNneg ⊢
 have Hy:=zH hy
 clear hy
 go_enter Tryz.func253,Tryz.ntmps253
 go_wp2
 go_loopw [0,3] (fun nv sv wr=>∃ (u:Nat) (x:Int) (tl:List UInt8),Hid (x = -(u:Int))/\nv = .int .i64 x/\sv = .string (bA tl)/\Hid (FmS N u tl)/\u<=9223372036854775808/\Only [] w wr)
  (fun nv sv _=>(intOf nv).natAbs + (1 - lenOf sv))
 case atStart=>exact ⟨N,y,[],Hy,rfl,rfl,zH (FmS.start N),hN,Only.refl _ _⟩
 case round=>
  obtain ⟨W2,hnew⟩:∃ W,W = wr:=⟨_,rfl⟩
  subst hnew
  obtain ⟨u,x,tl,hx,rfl,rfl,hF,hu,hO⟩:=hrel
  have hN0:decide (y < 0) = true:=by simpa using hNneg
  obtain ⟨em,hem⟩:∃ em,em = tl.isEmpty:=⟨_,rfl⟩
  have hE:(bA tl).toList.isEmpty = em:=by rw [bA_list,hem]
  by_cases hgo:tl = []\/u ≠ 0
  ·obtain ⟨d,hd⟩:∃ d,d = u % 10:=⟨_,rfl⟩
   have hd10:d < 10:=by omega
   have hmd:Int.tmod x 10 = -(d:Int):=by rw [hx.out,Int.neg_tmod,Int.tmod_eq_emod_of_nonneg (by omega)];omega
   obtain ⟨q,hqd⟩:∃ q,q = u / 10:=⟨_,rfl⟩
   have hq:Int.tdiv x 10 = -(q:Int):=by rw [hx.out,Int.neg_tdiv,Int.tdiv_eq_ediv_of_nonneg (by omega)];omega
   obtain ⟨x',hx'⟩:∃ x',x' = -(q:Int):=⟨_,rfl⟩
   rw [<- hx'] at hq
   have Hx':=zH hx'
   have hxI:IntKind.i64.wrap x' = x':=by rw [IntKind.wrap_i64];omega
   have hst:=hF.out.step hgo
   rw [<- hd,<- hqd] at hst
   have Hd:=zH hd
   have Hqd:=zH hqd
   have hg2:(em || x != 0) = true:=by
    rcases hgo with e | e
    ·subst e;rw [hem];simp
    ·have:x ≠ 0:=by rw [hx.out];omega
     simp [this]
   have Hme:Hid (q + (1 - (tl.length + 1)) < u + (1 - tl.length)):=zH (by
    rcases hgo with e | e
    ·subst e;simp;omega
    ·omega)
   have hcv:=run_convert_bytes_arg (P:=Tryz.prog) (W2.alloc (.cells #[.int .u8 (48 + (d:Int))] 5)) 22 5 Tryz.underlying22 Tryz.underlying5 W2.heap.size 0 1 1 [48 + (d:Int)] (by simp) (fun i hi=>by
    match i,hi with
    | 0,_=>simp) 9 Tryz.underlying9
   rw [str1] at hcv
   obtain ⟨ch,hch⟩:∃ ch,ch = UInt8.ofNat (48 + d):=⟨_,rfl⟩
   rw [<- hch] at hcv hst
   have Hst:=zH hst
   have hsz:¬ 9223372036854775807 < (bA [ch]).size + (bA tl).size:=by have:=hF.out.len (by omega);rw [bA_size,bA_size,List.length_singleton];omega
   clear hst hd hqd hF hem hgo hch hx'
   by_cases hd0:d = 0
   ·subst hd0
    have hmd0:Int.tmod x 10 = 0:=by simpa using hmd
    simp only [Int.ofNat_zero,Int.add_zero] at hcv
    clear hmd
    rcases em with _ | _
    ·have hu1:(x != 0) = true:=by simpa using hg2
     go_wp2
     go_roundw
     case rel=>exact ⟨q,x',ch :: tl,Hx',rfl,by rw [bA_add];rfl,Hst,by have:=Hqd.out;omega,hO.trans (zO.alloc _)⟩
     case measure=>
      have:=Hme.out
      have e1:x'.natAbs = q:=by rw [Hx'.out];omega
      have e2:x.natAbs = u:=by rw [hx.out];omega
      simp only [intOf,lenOf,bA_add,bA_size,List.length_append,List.length_singleton,e1,e2]
      omega
    ·go_wp2
     go_roundw
     case rel=>exact ⟨q,x',ch :: tl,Hx',rfl,by rw [bA_add];rfl,Hst,by have:=Hqd.out;omega,hO.trans (zO.alloc _)⟩
     case measure=>
      have:=Hme.out
      have e1:x'.natAbs = q:=by rw [Hx'.out];omega
      have e2:x.natAbs = u:=by rw [hx.out];omega
      simp only [intOf,lenOf,bA_add,bA_size,List.length_append,List.length_singleton,e1,e2]
      omega
   ·have hd1:0 < d:=by omega
    clear hd0
    rcases em with _ | _
    ·have hu1:(x != 0) = true:=by simpa using hg2
     go_wp2
     go_roundw
     case rel=>exact ⟨q,x',ch :: tl,Hx',rfl,by rw [bA_add];rfl,Hst,by have:=Hqd.out;omega,hO.trans (zO.alloc _)⟩
     case measure=>
      have:=Hme.out
      have e1:x'.natAbs = q:=by rw [Hx'.out];omega
      have e2:x.natAbs = u:=by rw [hx.out];omega
      simp only [intOf,lenOf,bA_add,bA_size,List.length_append,List.length_singleton,e1,e2]
      omega
    ·go_wp2
     go_roundw
     case rel=>exact ⟨q,x',ch :: tl,Hx',rfl,by rw [bA_add];rfl,Hst,by have:=Hqd.out;omega,hO.trans (zO.alloc _)⟩
     case measure=>
      have:=Hme.out
      have e1:x'.natAbs = q:=by rw [Hx'.out];omega
      have e2:x.natAbs = u:=by rw [hx.out];omega
      simp only [intOf,lenOf,bA_add,bA_size,List.length_append,List.length_singleton,e1,e2]
      omega
  ·have ht:tl ≠ []:=fun e=>hgo (.inl e)
   have hu0:u = 0:=by
    rcases Nat.eq_zero_or_pos u with e | e
    ·exact e
    ·exact absurd (.inr (by omega)) hgo
   have hfin:=zH (hF.out.fin hu0 ht)
   have hem2:em = false:=by rw [hem];cases tl with
    | nil=>exact absurd rfl ht
    | cons=>rfl
   subst hem2
   have hx0:x = 0:=by rw [hx.out,hu0];rfl
   have hbn:¬ 9223372036854775807 < (⟨#[45]⟩:ByteArray).size + (bA tl).size:=by
    have h1:=hF.out.len (by omega)
    have h2:(⟨#[45]⟩:ByteArray).size = 1:=rfl
    rw [h2,bA_size];omega
   subst hx0
   subst hu0
   clear hF hem hgo ht hx
   go_wp2
   go_ret
   exact ⟨by
    show Ending.returned (Value.string ((⟨#[45]⟩:ByteArray) ++ bA tl)) = _
    rw [hfin.out,show (⟨#[45]⟩:ByteArray) = bA [45] from rfl,bA_add]
    rfl,hO⟩
theorem Zoj (n:Int) (hn:I64 n) (w:World) :
  Calls Tryz.prog 253 #[.int .i64 n] w fun e w'=>e = .returned (.string (bA (Lib.itoa n)))/\Only [] w w':=by
 unfold I64 at hn
 by_cases h:n < 0
 ·obtain ⟨N,rfl⟩:∃ N:Nat,n = -(N:Int):=⟨n.natAbs,by omega⟩
  rw [Lib.itoa_neg N (by omega)]
  exact Znz N (by omega) (by omega) w
 ·obtain ⟨N,rfl⟩:=Int.eq_ofNat_of_zero_le (show 0<=n by omega)
  rw [Lib.itoa_nonneg N]
  exact Zog N (by omega) w
end Go.Proofs.YthleokaeobdamaaGreat

namespace PM
def it (p:List Int):Nat->Int->Int
 | 0,x=>x
 | k + 1,x=>at_ p (it p k x)
theorem it_add (p:List Int) (a:Nat) (x:Int):∀ b,it p (b + a) x = it p b (it p a x)
 | 0=>by simp [it]
 | b + 1=>by rw [Nat.succ_add];show at_ p (it p (b + a) x) = at_ p (it p b (it p a x));rw [it_add p a x b]
theorem it_rng {n:Nat} {p:List Int} (hp:PN n p) {x:Int} (h0:0<=x) (h1:x < n):∀ k,0<=it p k x/\it p k x < n
 | 0=>⟨h0,h1⟩
 | k + 1=>hp.rng (it_rng hp h0 h1 k).1 (it_rng hp h0 h1 k).2
theorem it_inj {n:Nat} {p:List Int} (hp:PN n p) {x y:Int} (x0:0<=x) (x1:x < n) (y0:0<=y) (y1:y < n):∀ k,it p k x = it p k y->x = y
 | 0,h=>h
 | k + 1,h=>it_inj hp x0 x1 y0 y1 k (hp.inj (it_rng hp x0 x1 k).1 (it_rng hp x0 x1 k).2 (it_rng hp y0 y1 k).1 (it_rng hp y0 y1 k).2 h)
theorem it_ret {n:Nat} {p:List Int} (hp:PN n p) {x:Int} (x0:0<=x) (x1:x < n) {i j:Nat} (h:i < j) (e:it p i x = it p j x):it p (j - i) x = x:=by
 have hj:j = i + (j - i):=by omega
 rw [hj,it_add] at e
 exact (it_inj hp x0 x1 (it_rng hp x0 x1 _).1 (it_rng hp x0 x1 _).2 i e).symm
theorem Zto (P:Nat->Prop):∀ k,P k->∃ m,P m/\m<=k/\∀ j,j < m->¬ P j:=by
 intro k
 induction k using Nat.strongRecOn with
 | ind k ih=>
  intro h
  by_cases hx:∃ j,j < k/\P j
  ·obtain ⟨j,hj,hP⟩:=hx
   obtain ⟨m,h1,h2,h3⟩:=ih j hj hP
   exact ⟨m,h1,by omega,h3⟩
  ·exact ⟨k,h,Nat.le_refl _,fun j hj hP=>hx ⟨j,hj,hP⟩⟩
theorem it_back {n:Nat} {p:List Int} (hp:PN n p) {x:Int} (x0:0<=x) (x1:x < n):∃ k,(0 < k/\it p k x = x)/\k<=n:=by
 apply Classical.byContradiction
 intro hno
 have hnd:((List.range (n + 1)).map fun i=>it p i x).Nodup:=by
  unfold List.Nodup
  rw [List.pairwise_map]
  refine List.Pairwise.imp_of_mem (R:=fun a b=>a < b) (fun {a b} ha hb hab e=>?_) (List.pairwise_lt_range)
  exact hno ⟨b - a,⟨by omega,it_ret hp x0 x1 hab e⟩,by have:=List.mem_range.1 hb;omega⟩
 have:=Zdh hnd (l2:=pts n) fun y hy=>by
  obtain ⟨k,-,rfl⟩:=List.mem_map.1 hy
  exact mem_pts.2 (it_rng hp x0 x1 k)
 rw [pts_len,List.length_map,List.length_range] at this
 omega
open Classical in
noncomputable def per (p:List Int) (x:Int):Nat:=if h:∃ m,(0 < m/\it p m x = x)/\∀ j,j < m->¬ (0 < j/\it p j x = x) then choose h else 0
theorem per_ok {n:Nat} {p:List Int} (hp:PN n p) {x:Int} (x0:0<=x) (x1:x < n):0 < per p x/\per p x<=n/\it p (per p x) x = x/\∀ j,0 < j->j < per p x->it p j x ≠ x:=by
 obtain ⟨k,hk,hkn⟩:=it_back hp x0 x1
 obtain ⟨m,h1,h2,h3⟩:=Zto (fun k=>0 < k/\it p k x = x) k hk
 have hex:∃ m,(0 < m/\it p m x = x)/\∀ j,j < m->¬ (0 < j/\it p j x = x):=⟨m,h1,h3⟩
 have hper:per p x = Classical.choose hex:=by unfold per;rw [dif_pos hex]
 obtain ⟨⟨c1,c2⟩,c3⟩:=Classical.choose_spec hex
 rw [hper]
 refine ⟨c1,?_,c2,fun j h0 hj e=>c3 j hj ⟨h0,e⟩⟩
 have:Classical.choose hex<=m:=by
  apply Classical.byContradiction
  intro hlt
  exact c3 m (by omega) h1
 omega
def cyT (p:List Int) (x:Int) (k:Nat):List Int:=(List.range k).map fun i=>it p i x
noncomputable def cyl (p:List Int) (x:Int):List Int:=cyT p x (per p x)
theorem cyT_len (p:List Int) (x:Int) (k:Nat):(cyT p x k).length = k:=by simp [cyT]
theorem Zug (p:List Int) (x:Int) (k:Nat):cyT p x (k + 1) = cyT p x k ++ [it p k x]:=by unfold cyT;rw [List.range_succ,List.map_append];rfl
theorem cyl_len (p:List Int) (x:Int):(cyl p x).length = per p x:=cyT_len ..
section
variable {n:Nat} {p:List Int} (hp:PN n p) {x:Int} (x0:0<=x) (x1:x < n)
end
def Mn (p:List Int) (x:Int):Prop:=∀ y∈cyl p x,x<=y
open Classical in
noncomputable def mns (p:List Int) (k:Nat):List Int:=(pts k).filter fun x=>decide (Mn p x)
noncomputable def cycs (p:List Int) (k:Nat):List (List Int):=(mns p k).map (cyl p)
theorem Zdj (n:Nat):pts (n + 1) = pts n ++ [(n:Int)]:=by unfold pts;rw [List.range_succ,List.map_append];rfl
theorem mns_yes {p:List Int} {k:Nat} (h:Mn p k):mns p (k + 1) = mns p k ++ [(k:Int)]:=by
 unfold mns;rw [Zdj,List.filter_append];simp [h]
theorem mns_no {p:List Int} {k:Nat} (h:¬ Mn p k):mns p (k + 1) = mns p k:=by
 unfold mns;rw [Zdj,List.filter_append];simp [h]
theorem Ztg {p:List Int} {k:Nat} (h:Mn p k):cycs p (k + 1) = cycs p k ++ [cyl p k]:=by unfold cycs;rw [mns_yes h,List.map_append];rfl
theorem cycs_no {p:List Int} {k:Nat} (h:¬ Mn p k):cycs p (k + 1) = cycs p k:=by unfold cycs;rw [mns_no h]
theorem mem_mns {p:List Int} {k:Nat} {x:Int}:x∈mns p k ↔ (0<=x/\x < k)/\Mn p x:=by
 unfold mns;rw [List.mem_filter,mem_pts];simp
theorem Zku (p:List Int) (k:Nat):(cycs p k).length<=k:=by
 have h:(mns p k).length<=(pts k).length:=List.length_filter_le ..
 rw [pts_len] at h
 unfold cycs;rw [List.length_map];exact h
end PM

namespace PM
def dn (T:Rows) (n:Nat):Nat->Nat->List Int->List (List Int)
 | 0,_,m=>[m]
 | k + 1,i,m=>(cho n T i m).flatMap fun v=>dn T n k (i + 1) (putV T i m v)
end PM

namespace Go.Proofs.YthleokaeobdamaaGreat
open Go.RowKit
set_option maxRecDepth 10000
structure KL (C:List Int) (left:Lit->Bool) (l:List Int):Prop where
 nd:l.Nodup
 iff:∀ x,I64 x->(x∈l ↔ x∈C/\left (.int .i64 x) = false)
 big:∀ x∈l,I64 x
 dom:∀ x,I64 x->left (.int .i64 x) = true->x∈C
end Go.Proofs.YthleokaeobdamaaGreat
