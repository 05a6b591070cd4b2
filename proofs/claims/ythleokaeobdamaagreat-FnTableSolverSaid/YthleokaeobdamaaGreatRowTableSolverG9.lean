/- The reference's search from a list on (law 16). -/
import Derived.Test.YthleokaeobdamaaGreatRowTableSolverG8
import Derived.Test.YthleokaeobdamaaGreatRowTableSolverG6
import Derived.Deep.RegionHeld3
import Derived.Test.YthleokaeobdamaaGreatRowTableSolverG2
import Derived.Deep.DeepCutAuto
import Derived.Test.YthleokaeobdamaaGreatRowTableSolverG3
import Derived.Test.YthleokaeobdamaaGreatRowTableSolverG7
import Derived.Deep.QuietTactic
import Derived.BigQuiet
import Derived.BigRegion
import Derived.Laws.Bits64b
import Derived.Test.YthleokaeobdamaaGreatRowTableSolverG1
import Derived.Test.YthleokaeobdamaaGreatRowTableSolverG5
import Derived.Maps.OwnSet
import Derived.StringKeys
import Derived.Laws.BytesArg
namespace Go.Proofs.YthleokaeobdamaaGreat
open Go.RowKit
set_option maxRecDepth 10000
theorem Zoc (B m:Nat) (v:Value) (s:List Int) (f:List Nat) (d:Int) (w:World) (hv:Rd w v s f) (hs:s.length = m) (hB:B<=w.heap.size) (hF:Fresh B w f) :
  Calls Tryz.prog 218 #[.agg #[.slice none 0 0,.slice none 0 0,.slice none 0 0,.bool false],v,.int .i64 d] w fun e w'=>∃ A1' A2' A3' C1' C2' C3' so',e = .returned (.agg #[.slice A1' 1 C1',.slice A2' 1 C2',.slice A3' 1 C3',.bool false]) /\
   SrO B w' (.slice A1' 1 C1') (.slice A2' 1 C2') (.slice A3' 1 C3') [s] [d] (soI so') [f] []/\Srt m [s] so'/\so'.length = 1/\Only [] w w':=by
 have h0:SrO B w (.slice none ([]:List (List Int)).length 0) (.slice none ([]:List Int).length 0) (.slice none ([]:List Nat).length 0) [] [] (soI []) [] f:=
  ⟨Acc.nil _ _ _,⟨by simp,.inl ⟨rfl,rfl⟩⟩,⟨by simp [soI],.inl ⟨rfl,rfl⟩⟩,by simpa [Value.ownBlock] using hF⟩
 refine (Zhv B none none none 0 0 0 false [] [] [] [] m v s f d w h0 (Srt.nil m) hv hs (by simp) (by simp) rfl (by simp) hB).mono ?_
 rintro e w' ⟨A1',A2',A3',C1',C2',C3',so',rfl,h1,h2,h3,h4,-⟩
 exact ⟨A1',A2',A3',C1',C2',C3',so',rfl,h1,h2,h3,by simpa [Value.ownBlock] using h4⟩
set_option maxHeartbeats 8000000 in
theorem Zgw (cs:List Value) (x:Puzzle) (fp:List Nat) (v:Value) (tr:List Int) (ft:List Nat) (w:World) (h:Rp.rep w cs x fp) (hv:Rd w v tr ft) (hx:validPz x = true) (hp:patB x.points tr.length tr = true) (htl:tr.length<=1000) :
  Calls Tryz.prog 163 #[.agg cs.toArray,v] w fun e w'=>∃ A1 A2 A3 C1 C2 C3 n3 wh L D fL fD,e = .returned (.agg #[.slice A1 (List.length L) C1,.slice A2 (List.length D) C2,.slice A3 n3 C3,.bool wh]) /\
   Rd w' (.slice A1 L.length C1) L fL/\Rd w' (.slice A2 D.length C2) D fD/\(bFrom x 3001 0 ([tr],[0]) = if wh = true then some (L,D) else none)/\Only [] w w'/\(∀ g∈fL ++ fD,w.heap.size<=g)/\L.length<=3000/\D.length<=3000/\(∀ q∈L,q.length<=1000)/\∃ so ob fps fd fz,n3 = List.length so/\SrR w' A1 A2 A3 C1 C2 C3 L D so ob fps fd fz/\Srt tr.length L so/\∀ g∈(ob ++ fps.flatten) ++ (fd ++ fz),w.heap.size<=g:=by
 have h0:=h
 obtain ⟨v2,rfl,p0,p1,h2⟩:=h
 obtain ⟨A2,C2,_,_,rfl,-,-⟩:=h2.open_
 obtain ⟨a,cap,rfl,Iv⟩:=hv.ints
 have hxm:=(Zad hx).2.2.1
 clear Iv h2 p0 p1
 have Hp:=zH hp
 have Hx:=zH hx
 clear hp hx
 have X0:Blk ((w.alloc (.cells #[.int .i64 x.points,.string x.names,.slice A2 x.moves.length C2] 26)).alloc (.cells #[.slice none 0 0,.slice none 0 0,.slice none 0 0,.bool false] 78)) w.heap.size [.int .i64 x.points,.string x.names,.slice A2 x.moves.length C2]:=(Blk.new w [.int .i64 x.points,.string x.names,.slice A2 x.moves.length C2] 26).keep (zO.alloc _)
 have Y0:Blk ((w.alloc (.cells #[.int .i64 x.points,.string x.names,.slice A2 x.moves.length C2] 26)).alloc (.cells #[.slice none 0 0,.slice none 0 0,.slice none 0 0,.bool false] 78)) (w.heap.size + 1) [.slice none 0 0,.slice none 0 0,.slice none 0 0,.bool false]:=Blk.new_at (by simp)
 go_enter Tryz.func163,Tryz.ntmps163
 go_wp2_with (first
  | (go_at_call 100;(with_reducible refine (Zbc _ tr _ _ (zK hv zA) (by omega)).mono ?_);rintro e w1 ⟨v1,f1,rfl,r1,F1,t1⟩;obtain ⟨a1,c1,rfl,I1⟩:=r1.ints;clear I1;have F1':Fresh (w.heap.size + 2) w1 f1:=F1.mono (by simp);have z1:w.heap.size + 2<=w1.heap.size:=(by have:=t1.size;simp at this;omega))
  | (go_at_call 218;(with_reducible refine (Zoc (w.heap.size + 2) tr.length _ tr f1 0 _ (zK r1 zA) rfl z1 F1').mono ?_);rintro e w2 ⟨B1,B2,B3,D1,D2,D3,so1,rfl,S2,T2,l2,t2⟩;have XB:=(((X0.keep t1).keep t2).keep ((Only.refl [] w2).alloc (.cells #[.slice B1 1 D1,.slice B2 1 D2,.slice B3 1 D3,.bool false] 78)));obtain ⟨y0,y1,y2⟩:=XB.c3)
  | (go_at_call 183;(with_reducible refine (Zhq [.int .i64 x.points,.string x.names,.slice A2 x.moves.length C2] x _ _ (zK h0 zA) (by omega)).mono ?_);rintro e w3 ⟨v3,f3,rfl,r3,F3,t3⟩;obtain ⟨a3,c3,rfl,I3⟩:=r3.ints)
  | fail)
 have K3:Only [] w w3:=zA
 have z2:=t2.size
 have z3:w2.heap.size + 1<=w3.heap.size:=by have:=t3.size;simp at this;omega
 have X3:=XB.keep t3
 have Y3:=(((Y0.keep t1).keep t2).keep ((Only.refl [] w2).alloc (.cells #[.slice B1 1 D1,.slice B2 1 D2,.slice B3 1 D3,.bool false] 78))).keep t3
 have hS:SFi x tr.length w w3 w2.heap.size [tr] [0] w3 B1 B2 B3 D1 D2 D3 so1 [f1]:=by
  refine ⟨?_,?_,T2,rfl,by simp,by simpa using Hp.out,by simp,fun g hg=>.inl ?_,fun g hg=>.inl ?_,fun _ _=>rfl,K3,Nat.le_refl _,by omega,by omega⟩
  ·have:=((Blk.new w2 [.slice B1 1 D1,.slice B2 1 D2,.slice B3 1 D3,.bool false] 78).keep t3)
   simpa [l2] using this
  ·have:=(S2.keep ((Only.refl [] w2).alloc (.cells #[.slice B1 1 D1,.slice B2 1 D2,.slice B3 1 D3,.bool false] 78))).keep t3
   simpa [l2] using this
  ·refine S2.fr.lt g ?_
   simp only [List.mem_append] at hg ⊢
   rw [l2] at hg
   rcases hg with hg | hg | hg
   ·exact .inl hg
   ·exact .inr (.inr (.inl hg))
   ·exact .inr (.inr (.inr hg))
  ·refine S2.fr.lt g ?_
   simp only [List.mem_append]
   exact .inr (.inl (.inl hg))
 have hf3:∀ g∈f3,w2.heap.size < g/\g < w3.heap.size:=fun g hg=>⟨by have:=F3.ge g hg;simp at this;omega,F3.lt g hg⟩
 clear F3
 clear S2 T2 l2 XB y0 y1 y2 X0 Y0 r1 F1 F1' t1 t2 t3 z1 z2 z3
 obtain ⟨b5,hb5⟩:∃ b5,b5 = w2.heap.size:=⟨_,rfl⟩
 rw [<- hb5] at hS hf3 ⊢
 clear hb5
 obtain ⟨R,hR⟩:∃ R,R = bFrom x 3001 0 ([tr],[0]):=⟨_,rfl⟩
 have HR:=zH hR
 have hll:(ltrs x.moves.length).length<=1000:=by rw [Zfk];omega
 obtain ⟨ls,hls⟩:∃ ls,ls = ltrs x.moves.length:=⟨_,rfl⟩
 rw [<- hls] at r3 I3 hll
 rw [<- hls]
 have Hls:=zH hls
 clear hR hls
 go_loopw [7] (fun s7 wr=>∃ (k:Nat) (L:List (List Int)) (D:List Int),s7 = .int .i64 k/\k<=L.length/\(∃ A1 A2 A3 C1 C2 C3 so fs,SFi x tr.length w w3 b5 L D wr A1 A2 A3 C1 C2 C3 so fs)/\R = bFrom x (3001 - k) k (L,D))
  (fun s7 _=>3001 - (intOf s7).toNat)
 case atStart=>exact ⟨0,[tr],[0],rfl,by simp,⟨_,_,_,_,_,_,_,_,hS⟩,HR.out⟩
 case round=>
  obtain ⟨W2,hnew⟩:∃ W,W = wr:=⟨_,rfl⟩
  subst hnew
  obtain ⟨k,L,D,rfl,hk,⟨A1,A2',A3,C1,C2',C3,so,fs,hF⟩,hRk⟩:=hrel
  have HRk:=zH hRk
  have hL3:=hF.ll
  have y0:=hF.blk.cell 0 rfl
  clear hRk
  by_cases hlt:k < L.length
  ·have hst:=HRk.out.trans (Zlc hlt hL3)
   rw [<- Hls.out] at hst
   have Hst:=zH hst
   clear hst
   obtain ⟨q,hq⟩:∃ q,q = L.getD k []:=⟨_,rfl⟩
   obtain ⟨d1,hd1⟩:∃ d,d = D.getD k 0 + 1:=⟨_,rfl⟩
   rw [<- hq,<- hd1] at Hst
   have Hq:=zH hq.symm
   have Hd:=zH hd1.symm
   clear hq hd1
   go_wp2
   go_loopw [8] (fun s8 wr=>∃ (i:Nat) (L:List (List Int)) (D:List Int),s8 = .int .i64 i/\i<=ls.length/\(∃ A1 A2 A3 C1 C2 C3 so fs,SFi x tr.length w w3 b5 L D wr A1 A2 A3 C1 C2 C3 so fs)/\k < L.length/\L.getD k [] = q/\D.getD k 0 + 1 = d1/\R = (bLets x q d1 (ls.drop i) (L,D)).bind (bFrom x (3001 - (k + 1)) (k + 1)))
    (fun s8 _=>ls.length - (intOf s8).toNat)
   case atStart=>exact ⟨0,L,D,rfl,Nat.zero_le _,⟨_,_,_,_,_,_,_,_,hF⟩,hlt,Hq.out,Hd.out,by rw [List.drop_zero];exact Hst.out⟩
   case round=>
    clear y0 hL3 hF HRk Hst Hq Hd hlt hk
    obtain ⟨W3,hnew⟩:∃ W,W = wr:=⟨_,rfl⟩
    subst hnew
    obtain ⟨i,L,D,rfl,hi,⟨A1,A2',A3,C1,C2',C3,so,fs,hF⟩,hlt,hq,hd,hRi⟩:=hrel
    have Hq:=zH hq
    have Hd:=zH hd
    have HRi:=zH hRi
    have hL3:=hF.ll
    have hDl:=hF.dl
    have HDl:=zH hDl
    clear hq hd hRi hDl
    have hXx:=hF.oldBlk X3 (by omega)
    obtain ⟨x0,x1,x2⟩:=hXx.c3
    have y0:=hF.blk.cell 0 rfl
    have K:=hF.on
    have IL:=I3.frame (fun g hg=>hF.keep g (.inr (hf3 g hg)))
    by_cases hil:i < ls.length
    ·obtain ⟨b3,off3,rfl,-,hc3⟩:=IL.at_ i hil
     have hla:ls[i]∈ltrs x.moves.length:=by rw [<- Hls.out];exact List.getElem_mem hil
     have hacc:=(hF.sro.acc.rd (by decide)).open_
     obtain ⟨a1',c1',ob,fps,hv1,-,hS1⟩:=hacc
     injection hv1 with e1 _ e2
     subst e1
     subst e2
     obtain ⟨b1,off1,u,rfl,-,hc1,hu⟩:=hS1.atRow k hlt
     have hqk:L[k] = q:=by have:=Hq.out;rw [List.getD_eq_getElem?_getD,List.getElem?_eq_getElem hlt] at this;exact this
     have hpat:=hF.pat L[k] (List.getElem_mem hlt)
     rw [hqk] at hu hpat
     have Hpat:=zH hpat
     have Hla:=zH hla
     have hql:q.length<=1000:=by rw [(Zaz.1 hpat).1];exact htl
     have Hrng:=zH (Zaz.1 hpat).2.1
     clear hqk hpat hla
     have Hc:=zH (fun (W:World) (hh:Only [] W3 W)=>Zdx [.int .i64 x.points,.string x.names,.slice A2 x.moves.length C2] x _ _ q _ ls[i] W (zK h0 (K.trans hh)) (zK hu hh) Hx.out Hla.out Hrng.out hql)
     go_wp2
     go_region_held3 (fun w'=>Only [] W3 w'/\w'.cell? ⟨w.heap.size,0,none⟩ = some (.int .i64 x.points)/\w'.cell? ⟨w.heap.size,1,none⟩ = some (.string x.names)/\w'.cell? ⟨w.heap.size,2,none⟩ = some (.slice A2 x.moves.length C2)/\w'.cell? ⟨b5,0,none⟩ = some (.slice (some ⟨b1,off1,none⟩) L.length C1)/\w'.cell? ⟨b1,off1 + k,none⟩ = some (u)/\w'.cell? ⟨b3,off3 + i,none⟩ = some (.int .i64 ls[i])) (((refine and_of ?_ (fun q_=>⟨q_.ce x0,q_.ce x1,q_.ce x2,q_.ce y0,q_.ce hc1,q_.ce hc3⟩));first | exact zO.drew | exact (zO.drewN _).drew | exact Only.trans (And.left (by assumption)) (by assumption) | exact Only.alloc (And.left (by assumption)) _ | assumption)) (first | (go_at_call 184;(with_reducible refine (Hc.out _ (And.left (by assumption))).mono ?_);rintro e w4 ⟨u4,f4,rfl,r4,F4,t4⟩;have F4':=F4.mono (((Only.refl [] W3).trans (And.left (by assumption))).size)) | fail)
     have k4:Only [] W3 w4:=(Only.refl [] W3).trans (And.left (by assumption))
     obtain ⟨s,hs⟩:∃ s,s = nxt x q ls[i]:=⟨_,rfl⟩
     rw [<- hs] at r4
     have hps:patB x.points tr.length s = true:=by rw [hs];exact nxt_pat Hx.out Hpat.out Hla.out
     have hsl:s.length = tr.length:=(Zaz.1 hps).1
     have hdr:ls.drop i = ls[i] :: ls.drop (i + 1):=List.drop_eq_getElem_cons hil
     have HRi2:=zH hdr
     have Hs:=zH hs
     have Hps:=zH hps
     have Hsl:=zH hsl
     have hF4:=hF.only k4
     obtain ⟨ob4,fps4,fd4,fz4,hR4⟩:=hF4.sro.srR (fun z hz=>by have:=hF4.dep z hz;have:=HDl.out;unfold I64;omega) (fun j hj=>by have:=hF4.srt.in_ j hj;omega)
     have q0:=hF4.blk.cell 0 rfl
     have q1:=hF4.blk.cell 1 rfl
     have q2:=hF4.blk.cell 2 rfl
     have q3:=hF4.blk.cell 3 rfl
     have hS4:=zH hF4.srt
     clear hs hps hsl hdr x0 x1 x2 y0 hc1 hc3 hu hS1 Hc
     by_cases hmem:s∈L
     ·have Hmem:=zH hmem
      clear hmem
      go_wp2_with (first
       | (go_at_call 166;(with_reducible refine (Zdy (some ⟨b1,off1,none⟩) A2' A3 C1 C2' C3 false L D so ob4 fps4 fd4 fz4 tr.length _ s f4 _ (hR4.keep zA) hS4.out (zK r4 zA) Hsl.out hL3).mono ?_);rintro e w5 ⟨r,rfl,hr,t5⟩;have hr2:=hr.2 Hmem.out;clear hr)
       | fail)
      go_roundw
      case rel=>exact ⟨i + 1,L,D,by go_num,by omega,⟨_,_,_,_,_,_,_,_,hF4.only t5⟩,hlt,Hq.out,Hd.out,by rw [HRi.out,HRi2.out,Znc (by rw [<- Hs.out];exact Hmem.out)]⟩
      case measure=>simp [intOf];omega
     ·have Hmem:=zH hmem
      clear hmem
      by_cases hfull:L.length = 3000
      ·have Hfull:=zH hfull
       have hfb:((L.length:Int) == 3000) = true:=by simp [hfull]
       clear hfull
       go_wp2_with (first
        | (go_at_call 166;(with_reducible refine (Zdy (some ⟨b1,off1,none⟩) A2' A3 C1 C2' C3 false L D so ob4 fps4 fd4 fz4 tr.length _ s f4 _ (hR4.keep zA) hS4.out (zK r4 zA) Hsl.out hL3).mono ?_);rintro e w5 ⟨r,rfl,hr,t5⟩;have hr2:¬ 0<=r:=(fun hh=>Hmem.out (hr.1 hh));clear hr;have hF5:=hF4.only t5;clear q0 q1 q2 q3;have q0:=hF5.blk.cell 0 rfl;have q1:=hF5.blk.cell 1 rfl;have q2:=hF5.blk.cell 2 rfl;have q3:=hF5.blk.cell 3 rfl;have hY5:=hF5.oldBlk Y3 (by omega);obtain ⟨g0,g1,g2,g3⟩:=hY5.c4;obtain ⟨p0,p1,p2,p3⟩:=hY5.f4)
        | fail)
       have Yf:=((((hY5).set 0 (.slice (some ⟨b1,off1,none⟩) L.length C1)).set 1 (.slice A2' D.length C2')).set 2 (.slice A3 so.length C3)).set 3 (.bool false)
       have kf:Only [w.heap.size + 1] w5 ((((w5.setCell ⟨w.heap.size + 1,0,none⟩ (.slice (some ⟨b1,off1,none⟩) L.length C1)).setCell ⟨w.heap.size + 1,1,none⟩ (.slice A2' D.length C2')).setCell ⟨w.heap.size + 1,2,none⟩ (.slice A3 so.length C3)).setCell ⟨w.heap.size + 1,3,none⟩ (.bool false)):=(((zO.setCell (by simp) _).setCell (by simp) _).setCell (by simp) _).setCell (by simp) _
       have o9:=hF5.srt
       obtain ⟨fL,fD,o1,o2,o3,o4,o5,o6⟩:=hF5.out kf (by simp) htl
       obtain ⟨ob9,fps9,fd9,fz9,o8,o10⟩:=hF5.out2 kf (by simp)
       obtain ⟨wf,hwf⟩:∃ wf,wf = ((((w5.setCell ⟨w.heap.size + 1,0,none⟩ (.slice (some ⟨b1,off1,none⟩) L.length C1)).setCell ⟨w.heap.size + 1,1,none⟩ (.slice A2' D.length C2')).setCell ⟨w.heap.size + 1,2,none⟩ (.slice A3 so.length C3)).setCell ⟨w.heap.size + 1,3,none⟩ (.bool false)):=⟨_,rfl⟩
       rw [<- hwf] at Yf o1 o2 o3 o8 ⊢
       simp only [List.set] at Yf
       clear hwf kf q0 q1 q2 q3 g0 g1 g2 g3 p0 p1 p2 p3
       obtain ⟨r0,r1,r2,r3⟩:=Yf.c4
       refine bodyPost_ret (v:=.agg #[.slice (some ⟨b1,off1,none⟩) L.length C1,.slice A2' D.length C2',.slice A3 so.length C3,.bool false]) (by simp [results,Tryz.results163,go_sem,r0,r1,r2,r3]) rfl ⟨_,_,_,_,_,_,_,false,L,D,fL,fD,rfl,o1,o2,?_,o3,o4,o5,o6.1,o6.2,so,ob9,fps9,fd9,fz9,rfl,o8,o9,o10⟩
       rw [<- HR.out,HRi.out,HRi2.out,Zkn (by rw [<- Hs.out];exact Hmem.out) Hfull.out]
       rfl
      ·have hfb:((L.length:Int) == 3000) = false:=by simp;omega
       have hL4:L.length < 3000:=by omega
       clear hfull
       obtain ⟨b2,off2,rfl,-,hcd⟩:=hR4.dp.at_ k (by have:=HDl.out;omega)
       have hdk:=hF4.dep (D[k]'(by have:=HDl.out;omega)) (List.getElem_mem _)
       obtain ⟨dk,hdk0⟩:∃ dk,dk = D[k]'(by have:=HDl.out;omega):=⟨_,rfl⟩
       rw [<- hdk0] at hcd hdk
       have hdd:dk + 1 = d1:=by
        have:=Hd.out
        rw [List.getD_eq_getElem?_getD,List.getElem?_eq_getElem (show k < D.length by have:=HDl.out;omega)] at this
        rw [hdk0];exact this
       have Hdd:=zH hdd
       have hdk1:0<=dk:=hdk.1
       have hdk2:dk<=3000:=by have:=hdk.2;have:=HDl.out;omega
       have hdk3:=hdk.2
       have Hdk3:=zH hdk3
       have hkD:k < D.length:=by have:=HDl.out;omega
       have hw1:IntKind.i64.wrap (dk + 1) = dk + 1:=by rw [IntKind.wrap_i64];omega
       clear hdk hdk0 hdd hdk3
       go_wp2_with (first
        | (go_at_call 166;(with_reducible refine (Zdy (some ⟨b1,off1,none⟩) (some ⟨b2,off2,none⟩) A3 C1 C2' C3 false L D so ob4 fps4 fd4 fz4 tr.length _ s f4 _ (hR4.keep zA) hS4.out (zK r4 zA) Hsl.out hL3).mono ?_);rintro e w5 ⟨r,rfl,hr,t5⟩;have hr2:¬ 0<=r:=(fun hh=>Hmem.out (hr.1 hh));clear hr;have hF5:=hF4.only t5;clear q0 q1 q2 q3;have q0:=hF5.blk.cell 0 rfl;have q1:=hF5.blk.cell 1 rfl;have q2:=hF5.blk.cell 2 rfl;have q3:=hF5.blk.cell 3 rfl;have hcd5:=t5.cell (by simp) hcd)
        | fail)
       have hb5s:=hF5.sz
       have hBW:w.heap.size + 2<=W3.heap.size:=by have:=hF.sz;have:=hF.bW;have:=hF.wb;omega
       have hDI:∀ z∈D,I64 z:=fun z hz=>by have:=hF5.dep z hz;have:=HDl.out;unfold I64;omega
       have Hc6:=zH (fun (W:World) (hh:Only [] w5 W)=>Zhv (w.heap.size + 2) (some ⟨b1,off1,none⟩) (some ⟨b2,off2,none⟩) A3 C1 C2' C3 false L D so fs tr.length u4 s f4 (dk + 1) W (hF.sro.pend ((k4.trans t5).trans hh) hBW (F4'.keep (t5.trans hh))) hS4.out (zK r4 (t5.trans hh)) Hsl.out Hmem.out hL4 HDl.out hDI (Nat.le_trans hBW ((k4.trans t5).trans hh).size))
       clear hDI
       go_region_law (first
        | (go_simp;go_at_call 218;(with_reducible refine (Hc6.out _ zA).mono ?_);rintro e w6 ⟨A1n,A2n,A3n,C1n,C2n,C3n,son,rfl,S6,T6,l6,t6,v6⟩;have B6:=(hF5.only zA).blk.only t6 (fun hm=>by have:=hF5.ap b5 hm;have:=hF5.bW;omega);obtain ⟨g0,g1,g2,g3⟩:=B6.c4;obtain ⟨p0,p1,p2,p3⟩:=B6.f4;rw [Hdd.out] at S6)
        | fail)
       all_goals go_wp2_with fail
       all_goals go_roundw
       all_goals first
        | (simp [intOf];omega)
        | exact ⟨i + 1,L ++ [s],D ++ [d1],by go_num,by omega,⟨_,_,_,_,_,_,_,_,SFi.step (hF5.only zA) (fun g hg=>by have:=F4'.ge g hg;have:=hF.sz;omega) hL4 Hps.out (by have:=Hdd.out;have:=Hdk3.out;omega) S6 T6 l6 t6 v6 (fpw:=[b5]) (by with_reducible repeat (first | exact Only.refl _ _ | refine Only.drew ?_ | refine Only.setCell ?_ (by simp) _)) (by simp) ((((B6.set 0 _).set 1 _).set 2 _).set 3 _)⟩,by simp;omega,by rw [Zdn hlt];exact Hq.out,by rw [Zdn hkD];exact Hd.out,by rw [HRi.out,HRi2.out,Znu (by rw [<- Hs.out];exact Hmem.out) (by omega),<- Hs.out]⟩
    ·obtain rfl:i = ls.length:=by omega
     go_wp2
     exact ⟨⟨k + 1,L,D,by go_num,by omega,⟨_,_,_,_,_,_,_,_,hF⟩,by rw [HRi.out,List.drop_length];rfl⟩,by simp [intOf];omega⟩
  ·obtain rfl:k = L.length:=by omega
   have hY5:=hF.oldBlk Y3 (by omega)
   have hb5:=hF.wb
   have q3:=hF.blk.cell 3 rfl
   have z3:=hF.blk.frozen 3
   have hB6:=hF.blk.set 3 (.bool true)
   have hY6:=hY5.only ((Only.refl [b5] W2).setCell (p:=⟨b5,3,none⟩) (by simp) (.bool true)) (by simp;omega)
   obtain ⟨q0,q1,q2,q4⟩:=hB6.c4
   obtain ⟨g0,g1,g2,g3⟩:=hY6.c4
   obtain ⟨p0,p1,p2,p3⟩:=hY6.f4
   go_wp2
   have Yf:=((((hY6).set 0 (.slice A1 L.length C1)).set 1 (.slice A2' D.length C2')).set 2 (.slice A3 so.length C3)).set 3 (.bool true)
   have kf:Only [b5,w.heap.size + 1] W2 (((((W2.setCell ⟨b5,3,none⟩ (.bool true)).setCell ⟨w.heap.size + 1,0,none⟩ (.slice A1 L.length C1)).setCell ⟨w.heap.size + 1,1,none⟩ (.slice A2' D.length C2')).setCell ⟨w.heap.size + 1,2,none⟩ (.slice A3 so.length C3)).setCell ⟨w.heap.size + 1,3,none⟩ (.bool true)):=((((((Only.refl [b5,w.heap.size + 1] W2).setCell (by simp) _)).setCell (by simp) _).setCell (by simp) _).setCell (by simp) _).setCell (by simp) _
   have o9:=hF.srt
   obtain ⟨fL,fD,o1,o2,o3,o4,o5,o6⟩:=hF.out kf (by simp) htl
   obtain ⟨ob9,fps9,fd9,fz9,o8,o10⟩:=hF.out2 kf (by simp)
   obtain ⟨wf,hwf⟩:∃ wf,wf = (((((W2.setCell ⟨b5,3,none⟩ (.bool true)).setCell ⟨w.heap.size + 1,0,none⟩ (.slice A1 L.length C1)).setCell ⟨w.heap.size + 1,1,none⟩ (.slice A2' D.length C2')).setCell ⟨w.heap.size + 1,2,none⟩ (.slice A3 so.length C3)).setCell ⟨w.heap.size + 1,3,none⟩ (.bool true)):=⟨_,rfl⟩
   rw [<- hwf] at Yf o1 o2 o3 o8 ⊢
   simp only [List.set] at Yf
   clear hwf kf hB6 hY6 q4 z3 q0 q1 q2 q3 g0 g1 g2 g3 p0 p1 p2 p3
   obtain ⟨r0,r1,r2,r3⟩:=Yf.c4
   refine bodyPost_ret (v:=.agg #[.slice A1 L.length C1,.slice A2' D.length C2',.slice A3 so.length C3,.bool true]) (by simp [results,Tryz.results163,go_sem,r0,r1,r2,r3]) rfl ⟨_,_,_,_,_,_,_,true,L,D,fL,fD,rfl,o1,o2,?_,o3,o4,o5,o6.1,o6.2,so,ob9,fps9,fd9,fz9,rfl,o8,o9,o10⟩
   rw [<- HR.out,HRk.out,Znv hlt hL3]
   rfl
theorem Zml (cs:List Value) (x:Puzzle) (fp:List Nat) (v:Value) (tr:List Int) (ft:List Nat) (w:World) (h:Rp.rep w cs x fp) (hv:Rd w v tr ft) (hx:validPz x = true) (hp:patB x.points tr.length tr = true) (htl:tr.length<=1000) :
  Calls Tryz.prog 163 #[.agg cs.toArray,v] w fun e w'=>∃ A1 A2 A3 C1 C2 C3 n3 wh L D fL fD,e = .returned (.agg #[.slice A1 (List.length L) C1,.slice A2 (List.length D) C2,.slice A3 n3 C3,.bool wh]) /\
   Rd w' (.slice A1 L.length C1) L fL/\Rd w' (.slice A2 D.length C2) D fD/\(bFrom x 3001 0 ([tr],[0]) = if wh = true then some (L,D) else none)/\Only [] w w'/\(∀ g∈fL ++ fD,w.heap.size<=g)/\L.length<=3000/\D.length<=3000/\∀ q∈L,q.length<=1000:=by
 refine (Zgw cs x fp v tr ft w h hv hx hp htl).mono ?_
 rintro e w' ⟨A1,A2,A3,C1,C2,C3,n3,wh,L,D,fL,fD,e1,o1,o2,o3,o4,o5,o6,o7,o8,-⟩
 exact ⟨A1,A2,A3,C1,C2,C3,n3,wh,L,D,fL,fD,e1,o1,o2,o3,o4,o5,o6,o7,o8⟩
def bTab (x:Puzzle) (tr:List Int):Option Table:=(bfs16 x tr).map fun s=>⟨tr,s.1,s.2⟩
theorem Zhk {x:Puzzle} {tr:List Int} (h:(validPz x && trackB x.points tr) = false):bfs16 x tr = none:=by unfold bfs16;rw [h];rfl
theorem Zek {x:Puzzle} {tr:List Int} (h:(validPz x && trackB x.points tr) = true):bfs16 x tr = bFrom x 3001 0 ([tr],[0]):=by unfold bfs16;rw [if_pos h]
set_option maxHeartbeats 4000000 in
theorem Zep (cs:List Value) (x:Puzzle) (fp:List Nat) (v:Value) (tr:List Int) (ft:List Nat) (w:World) (h:Rp.rep w cs x fp) (hv:Rd w v tr ft) :
  Calls Tryz.prog 103 #[.agg cs.toArray,v] w fun e w'=>∃ A1 A2 A3 C1 C2 C3 n3 wh L D fL fD,e = .returned (.tuple #[.agg #[.slice A1 (List.length L) C1,.slice A2 (List.length D) C2,.slice A3 n3 C3,.bool wh],.bool wh]) /\
   Rd w' (.slice A1 L.length C1) L fL/\Rd w' (.slice A2 D.length C2) D fD/\(bfs16 x tr = if wh = true then some (L,D) else none)/\Only [] w w'/\(∀ g∈fL ++ fD,w.heap.size<=g)/\L.length<=3000/\D.length<=3000/\∀ q∈L,q.length<=1000:=by
 have h0:=h
 obtain ⟨v2,rfl,p0,p1,h2⟩:=h
 obtain ⟨A2,C2,_,_,rfl,-,-⟩:=h2.open_
 obtain ⟨a,cap,rfl,Iv⟩:=hv.ints
 clear Iv h2 p0 p1
 have X0:Blk ((w.alloc (.cells #[.int .i64 x.points,.string x.names,.slice A2 x.moves.length C2] 26)).alloc (.cells #[.slice none 0 0,.slice none 0 0,.slice none 0 0,.bool false] 78)) w.heap.size [.int .i64 x.points,.string x.names,.slice A2 x.moves.length C2]:=(Blk.new w [.int .i64 x.points,.string x.names,.slice A2 x.moves.length C2] 26).keep (zO.alloc _)
 have Y0:Blk ((w.alloc (.cells #[.int .i64 x.points,.string x.names,.slice A2 x.moves.length C2] 26)).alloc (.cells #[.slice none 0 0,.slice none 0 0,.slice none 0 0,.bool false] 78)) (w.heap.size + 1) [.slice none 0 0,.slice none 0 0,.slice none 0 0,.bool false]:=Blk.new_at (by simp)
 rcases hq:validPz x && trackB x.points tr
 ·have Hn:=zH (Zhk hq)
  have Hq:=zH hq
  clear hq
  go_enter Tryz.func103,Tryz.ntmps103
  go_wp2_with (first
   | (go_at_call 162;(with_reducible refine (Zdv [.int .i64 x.points,.string x.names,.slice A2 x.moves.length C2] x _ _ tr _ _ (zK h0 zA) (zK hv zA)).mono ?_);rintro e w1 ⟨he,t1⟩;rw [Hq.out] at he;subst he;have Y1:=Y0.keep t1;obtain ⟨g0,g1,g2,g3⟩:=Y1.c4;obtain ⟨p0,p1,p2,p3⟩:=Y1.f4)
   | fail)
  have K1:Only [] w w1:=zA
  have Yf:=(((Y1.set 0 (.slice none 0 0)).set 1 (.slice none 0 0)).set 2 (.slice none 0 0)).set 3 (.bool false)
  have kf:Only [] w ((((w1.setCell ⟨w.heap.size + 1,0,none⟩ (.slice none 0 0)).setCell ⟨w.heap.size + 1,1,none⟩ (.slice none 0 0)).setCell ⟨w.heap.size + 1,2,none⟩ (.slice none 0 0)).setCell ⟨w.heap.size + 1,3,none⟩ (.bool false)):=K1.then_ (((((Only.refl [w.heap.size + 1] w1).setCell (by simp) _).setCell (by simp) _).setCell (by simp) _).setCell (by simp) _) (by simp)
  obtain ⟨wf,hwf⟩:∃ wf,wf = ((((w1.setCell ⟨w.heap.size + 1,0,none⟩ (.slice none 0 0)).setCell ⟨w.heap.size + 1,1,none⟩ (.slice none 0 0)).setCell ⟨w.heap.size + 1,2,none⟩ (.slice none 0 0)).setCell ⟨w.heap.size + 1,3,none⟩ (.bool false)):=⟨_,rfl⟩
  rw [<- hwf] at Yf kf ⊢
  simp only [List.set] at Yf
  clear hwf g0 g1 g2 g3 p0 p1 p2 p3
  obtain ⟨r0,r1,r2,r3⟩:=Yf.c4
  refine bodyPost_ret (v:=.tuple #[.agg #[.slice none 0 0,.slice none 0 0,.slice none 0 0,.bool false],.bool false]) (by simp [results,Tryz.results103,go_sem,r0,r1,r2,r3]) rfl ⟨none,none,none,0,0,0,0,false,[],[],[],[],rfl,nil_rd _,nil_rd _,?_,kf,by simp,by simp,by simp,by simp⟩
  rw [Hn.out];rfl
 ·have Hn:=zH (Zek hq)
  obtain ⟨q1,q2⟩:=(Bool.and_eq_true _ _).mp hq
  have Hq:=zH hq
  have Hv:=zH q1
  have Hp:=zH (Zev q2)
  have htl:tr.length<=1000:=by
   have h3:=(Zbb.1 q2).2.len
   have:=(Zad q1).2.1
   omega
  clear hq q1 q2
  go_enter Tryz.func103,Tryz.ntmps103
  go_wp2_with (first
   | (go_at_call 162;(with_reducible refine (Zdv [.int .i64 x.points,.string x.names,.slice A2 x.moves.length C2] x _ _ tr _ _ (zK h0 zA) (zK hv zA)).mono ?_);rintro e w1 ⟨he,t1⟩;rw [Hq.out] at he;subst he;have X1:=X0.keep t1;obtain ⟨g0,g1,g2⟩:=X1.c3)
   | (go_at_call 163;(with_reducible refine (Zml [.int .i64 x.points,.string x.names,.slice A2 x.moves.length C2] x _ _ tr _ _ (zK h0 zA) (zK hv zA) Hv.out Hp.out htl).mono ?_);rintro e w2 ⟨B1,B2,B3,D1,D2,D3,n3,wh,L,D,fL,fD,rfl,o1,o2,o3,t2,o4,o5⟩;have O3:=zH o3;clear o3)
   | fail)
  have K2:Only [] w w2:=zA
  have Y1:=(((Y0.keep t1).keep t2).keep ((Only.refl [] w2).alloc (.cells #[.slice B1 L.length D1,.slice B2 D.length D2,.slice B3 n3 D3,.bool wh] 78)))
  have B4:=Blk.new w2 [.slice B1 L.length D1,.slice B2 D.length D2,.slice B3 n3 D3,.bool wh] 78
  have hsz:w.heap.size + 2<=w2.heap.size:=by have h5:=t1.size;have h6:=t2.size;simp at h5;omega
  have h1s:w.heap.size + 2<=w1.heap.size:=by have h5:=t1.size;simp at h5;omega
  have o1':=zK o1 ((Only.refl [] w2).alloc (.cells #[.slice B1 L.length D1,.slice B2 D.length D2,.slice B3 n3 D3,.bool wh] 78))
  have o2':=zK o2 ((Only.refl [] w2).alloc (.cells #[.slice B1 L.length D1,.slice B2 D.length D2,.slice B3 n3 D3,.bool wh] 78))
  have K3:=K2.alloc (.cells #[.slice B1 L.length D1,.slice B2 D.length D2,.slice B3 n3 D3,.bool wh] 78)
  obtain ⟨b,hb⟩:∃ b,b = w2.heap.size:=⟨_,rfl⟩
  obtain ⟨w3,hw3⟩:∃ w3,w3 = w2.alloc (.cells #[.slice B1 L.length D1,.slice B2 D.length D2,.slice B3 n3 D3,.bool wh] 78):=⟨_,rfl⟩
  rw [<- hb] at B4 hsz ⊢
  rw [<- hw3] at Y1 B4 o1' o2' K3 ⊢
  clear hb hw3 g0 g1 g2 X1 X0 Y0 t1 t2 o1 o2 K2
  have hne:b ≠ w.heap.size + 1:=by omega
  obtain ⟨c0,c1,c2,c3⟩:=B4.c4
  obtain ⟨g0,g1,g2,g3⟩:=Y1.c4
  obtain ⟨p0,p1,p2,p3⟩:=Y1.f4
  have Yf:=(((Y1.set 0 (.slice B1 L.length D1)).set 1 (.slice B2 D.length D2)).set 2 (.slice B3 n3 D3)).set 3 (.bool wh)
  simp only [List.set] at Yf
  obtain ⟨r0,r1,r2,r3⟩:=Yf.c4
  have hno1:∀ g∈fL,g ∉ [w.heap.size + 1]:=fun g hg hm=>by have:=o4 g (by simp [hg]);simp at hm;omega
  have hno2:∀ g∈fD,g ∉ [w.heap.size + 1]:=fun g hg hm=>by have:=o4 g (by simp [hg]);simp at hm;omega
  have hno3:∀ g∈fL ++ fD,w.heap.size<=g:=fun g hg=>by have:=o4 g hg;omega
  go_region
  all_goals go_wp2
  all_goals refine bodyPost_ret (v:=.tuple #[.agg #[.slice B1 L.length D1,.slice B2 D.length D2,.slice B3 n3 D3,.bool wh],.bool wh]) (by simp [results,Tryz.results103,go_sem,r0,r1,r2,r3]) rfl ⟨B1,B2,B3,D1,D2,D3,n3,wh,L,D,fL,fD,rfl,Rp.only o1' (fp':=[w.heap.size + 1]) (by with_reducible repeat (first | exact Only.refl _ _ | refine Only.drew ?_ | refine Only.setCell ?_ (by simp) _)) hno1,Rp.only o2' (fp':=[w.heap.size + 1]) (by with_reducible repeat (first | exact Only.refl _ _ | refine Only.drew ?_ | refine Only.setCell ?_ (by simp) _)) hno2,by rw [Hn.out];exact O3.out,K3.then_ (fp':=[w.heap.size + 1]) (by with_reducible repeat (first | exact Only.refl _ _ | refine Only.drew ?_ | refine Only.setCell ?_ (by simp) _)) (by simp),hno3,o5⟩
def noTab:Table:=⟨[],[],[]⟩
theorem wh_no {x:Puzzle} {tr:List Int} {wh:Bool} {L:List (List Int)} {D:List Int} (h:bfs16 x tr = if wh = true then some (L,D) else none) (hb:bfs16 x tr = none):wh = false:=by
 cases wh
 ·rfl
 ·rw [hb] at h;simp at h
theorem wh_yes {x:Puzzle} {tr:List Int} {wh:Bool} {L:List (List Int)} {D:List Int} {s:Met16} (h:bfs16 x tr = if wh = true then some (L,D) else none) (hb:bfs16 x tr = some s):wh = true/\s = (L,D):=by
 cases wh
 ·rw [hb] at h;simp at h
 ·rw [hb] at h;simp at h;exact ⟨rfl,h⟩
set_option maxHeartbeats 4000000 in
theorem Zcy (cs:List Value) (x:Puzzle) (fp:List Nat) (v:Value) (tr:List Int) (ft:List Nat) (w:World) (h:Rp.rep w cs x fp) (hv:Rd w v tr ft) (htl:tr.length<=2097152) :
  Calls Tryz.prog 54 #[.agg cs.toArray,v] w fun e w'=>∃ cs' fp',e = .returned (.tuple #[.agg (List.toArray cs'),.bool (bTab x tr).isSome])/\Rp.rep w' cs' ((bTab x tr).getD noTab) fp'/\Fresh w.heap.size w' fp'/\Only [] w w':=by
 have h0:=h
 obtain ⟨v2,rfl,p0,p1,h2⟩:=h
 obtain ⟨A2,C2,_,_,rfl,-,-⟩:=h2.open_
 obtain ⟨a,cap,rfl,Iv⟩:=hv.ints
 clear Iv h2 p0 p1
 have X0:Blk ((w.alloc (.cells #[.int .i64 x.points,.string x.names,.slice A2 x.moves.length C2] 26)).alloc (.cells #[.slice none 0 0,.slice none 0 0,.slice none 0 0] 41)) w.heap.size [.int .i64 x.points,.string x.names,.slice A2 x.moves.length C2]:=(Blk.new w [.int .i64 x.points,.string x.names,.slice A2 x.moves.length C2] 26).keep (zO.alloc _)
 have Y0:Blk ((w.alloc (.cells #[.int .i64 x.points,.string x.names,.slice A2 x.moves.length C2] 26)).alloc (.cells #[.slice none 0 0,.slice none 0 0,.slice none 0 0] 41)) (w.heap.size + 1) [.slice none 0 0,.slice none 0 0,.slice none 0 0]:=Blk.new_at (by simp)
 rcases hq:bfs16 x tr with _ | s
 ·have Hq:=zH hq
  have hb:bTab x tr = none:=by unfold bTab;rw [hq];rfl
  have Hb:=zH hb
  clear hq hb
  go_enter Tryz.func54,Tryz.ntmps54
  go_wp2_with (first
   | (go_at_call 103;(with_reducible refine (Zep [.int .i64 x.points,.string x.names,.slice A2 x.moves.length C2] x _ _ tr _ _ (zK h0 zA) (zK hv zA)).mono ?_);rintro e w2 ⟨B1,B2,B3,D1,D2,D3,n3,wh,L,D,fL,fD,rfl,o1,o2,o3,t2,-,-,-,-⟩;obtain rfl:=wh_no o3 Hq.out;clear o3;have Y1:=(Y0.keep t2).keep ((Only.refl [] w2).alloc (.cells #[.slice B1 L.length D1,.slice B2 D.length D2,.slice B3 n3 D3,.bool false] 78));obtain ⟨g0,g1,g2⟩:=Y1.c3;obtain ⟨p0,p1,p2⟩:=Y1.f3)
   | fail)
  have K2:Only [] w w2:=zA
  have K3:=K2.alloc (.cells #[.slice B1 L.length D1,.slice B2 D.length D2,.slice B3 n3 D3,.bool false] 78)
  have Yf:=((Y1.set 0 (.slice none 0 0)).set 1 (.slice none 0 0)).set 2 (.slice none 0 0)
  have kf:=K3.then_ ((((Only.refl [w.heap.size + 1] (w2.alloc (.cells #[.slice B1 L.length D1,.slice B2 D.length D2,.slice B3 n3 D3,.bool false] 78))).setCell (p:=⟨w.heap.size + 1,0,none⟩) (by simp) (.slice none 0 0)).setCell (p:=⟨w.heap.size + 1,1,none⟩) (by simp) (.slice none 0 0)).setCell (p:=⟨w.heap.size + 1,2,none⟩) (by simp) (.slice none 0 0)) (by simp)
  obtain ⟨wf,hwf⟩:∃ wf,wf = ((((w2.alloc (.cells #[.slice B1 L.length D1,.slice B2 D.length D2,.slice B3 n3 D3,.bool false] 78)).setCell ⟨w.heap.size + 1,0,none⟩ (.slice none 0 0)).setCell ⟨w.heap.size + 1,1,none⟩ (.slice none 0 0)).setCell ⟨w.heap.size + 1,2,none⟩ (.slice none 0 0)):=⟨_,rfl⟩
  rw [<- hwf] at Yf kf ⊢
  simp only [List.set] at Yf
  clear hwf g0 g1 g2 p0 p1 p2
  obtain ⟨r0,r1,r2⟩:=Yf.c3
  refine bodyPost_ret (v:=.tuple #[.agg #[.slice none 0 0,.slice none 0 0,.slice none 0 0],.bool false]) (by simp [results,Tryz.results54,go_sem,r0,r1,r2]) rfl ⟨[.slice none 0 0,.slice none 0 0,.slice none 0 0],[],by rw [Hb.out];rfl,?_,Fresh.nil _ _,kf⟩
  rw [Hb.out]
  exact ⟨_,_,_,[],[],[],rfl,rfl,nil_rd _,nil_rd _,nil_rd _⟩
 ·have Hq:=zH hq
  have hb:bTab x tr = some ⟨tr,s.1,s.2⟩:=by unfold bTab;rw [hq];rfl
  have Hb:=zH hb
  clear hq hb
  go_enter Tryz.func54,Tryz.ntmps54
  go_wp2_with (first
   | (go_at_call 103;(with_reducible refine (Zep [.int .i64 x.points,.string x.names,.slice A2 x.moves.length C2] x _ _ tr _ _ (zK h0 zA) (zK hv zA)).mono ?_);rintro e w2 ⟨B1,B2,B3,D1,D2,D3,n3,wh,L,D,fL,fD,rfl,o1,o2,o3,t2,m0,m1,m2,m3⟩;obtain ⟨rfl,he⟩:=wh_yes o3 Hq.out;have He:=zH he;clear o3 he)
   | fail)
  have K2:Only [] w w2:=zA
  have Y1:=((Y0.keep t2).keep ((Only.refl [] w2).alloc (.cells #[.slice B1 L.length D1,.slice B2 D.length D2,.slice B3 n3 D3,.bool true] 78)))
  have B4:=Blk.new w2 [.slice B1 L.length D1,.slice B2 D.length D2,.slice B3 n3 D3,.bool true] 78
  have o1':=zK o1 ((Only.refl [] w2).alloc (.cells #[.slice B1 L.length D1,.slice B2 D.length D2,.slice B3 n3 D3,.bool true] 78))
  have o2':=zK o2 ((Only.refl [] w2).alloc (.cells #[.slice B1 L.length D1,.slice B2 D.length D2,.slice B3 n3 D3,.bool true] 78))
  have K3:=K2.alloc (.cells #[.slice B1 L.length D1,.slice B2 D.length D2,.slice B3 n3 D3,.bool true] 78)
  have hsz:w.heap.size + 2<=w2.heap.size:=by have h6:=t2.size;simp at h6;omega
  obtain ⟨b,hb⟩:∃ b,b = w2.heap.size:=⟨_,rfl⟩
  obtain ⟨w3,hw3⟩:∃ w3,w3 = w2.alloc (.cells #[.slice B1 L.length D1,.slice B2 D.length D2,.slice B3 n3 D3,.bool true] 78):=⟨_,rfl⟩
  have hs3:w.heap.size + 3<=w3.heap.size:=by rw [hw3];simp;omega
  rw [<- hb] at B4 hsz ⊢
  rw [<- hw3] at Y1 B4 o1' o2' K3 ⊢
  clear hb hw3 X0 Y0 t2 o1 o2 K2
  have hv':=zK hv K3
  obtain ⟨c0,c1⟩:=B4.c2
  have ml:L.length<=2097152:=by omega
  have mr:∀ y∈L,y.length<=2097152:=fun y hy=>by have:=m3 y hy;omega
  have hdt:∀ g∈ft,g ∉ [w.heap.size + 1]:=fun g hg hm=>by have:=Rp.lt hv g hg;simp at hm;omega
  have hdL:∀ g∈fL,g ∉ [w.heap.size + 1]:=fun g hg hm=>by have:=m0 g (by simp [hg]);simp at this hm;omega
  have hdD:∀ g∈fD,g ∉ [w.heap.size + 1]:=fun g hg hm=>by have:=m0 g (by simp [hg]);simp at this hm;omega
  have hbn:b ∉ [w.heap.size + 1]:=by simp;omega
  go_region_held3 (fun w'=>Only [w.heap.size + 1] w3 w'/\w'.cell? ⟨b,0,none⟩ = some (.slice B1 L.length D1)/\w'.cell? ⟨b,1,none⟩ = some (.slice B2 D.length D2))
   ((
    refine and_of ?_ (fun q_=>⟨q_.cell hbn c0,q_.cell hbn c1⟩);first
    | with_reducible exact zO.drew
    | with_reducible exact Only.keepThen (And.left (by assumption)) (by assumption)
    | with_reducible exact Only.setCell (Only.setCell (Only.setCell (And.left (by assumption)) (by simp) _) (by simp) _) (by simp) _
    | with_reducible exact And.left (by assumption)
    | assumption))
   (first
    | (go_at_call 100;(with_reducible refine (Zbc (.slice a tr.length cap) tr _ _ (Rp.only hv' (And.left (by assumption)) hdt) (by omega)).mono ?_);rintro e x1 ⟨u1,q1,rfl,r1,F1,y1⟩;have hq:=r1.open_;obtain ⟨a1,k1,_,_,rfl,-⟩:=hq)
    | (go_at_call 104;(with_reducible refine (Zic (.slice B1 L.length D1) L _ _ (Rp.only o1' (And.left (by assumption)) hdL) ml mr).mono ?_);rintro e x2 ⟨u2,q2,rfl,r2,F2,y2⟩;have hq:=r2.open_;obtain ⟨a2,k2,_,_,rfl,-⟩:=hq)
    | (go_at_call 100;(with_reducible refine (Zbc (.slice B2 D.length D2) D _ _ (Rp.only o2' (And.left (by assumption)) hdD) (by omega)).mono ?_);rintro e x3 ⟨u3,q3,rfl,r3,F3,y3⟩;have hq:=r3.open_;obtain ⟨a3,k3,_,_,rfl,-⟩:=hq;have kk:=(((Only.refl [] w3).drew.trans y1).trans y2).trans y3;have Y3:=Y1.keep kk;obtain ⟨g0,g1,g2⟩:=Y3.c3;obtain ⟨p0,p1,p2⟩:=Y3.f3)
    | fail)
  have F23:=(F2.keep y3).append F3 y2.size (fun g hg=>F2.lt g hg)
  have F:=(F1.keep (y2.trans y3)).append F23 y1.size (fun g hg=>F1.lt g hg)
  have hFg:∀ g∈q1 ++ (q2 ++ q3),g ∉ [w.heap.size + 1]:=fun g hg hm=>by have:=F.ge g hg;simp at this hm;omega
  have Yf:=((Y3.set 0 (.slice a1 tr.length k1)).set 1 (.slice a2 L.length k2)).set 2 (.slice a3 D.length k3)
  have kf:Only [w.heap.size + 1] x3 (((x3.setCell ⟨w.heap.size + 1,0,none⟩ (.slice a1 tr.length k1)).setCell ⟨w.heap.size + 1,1,none⟩ (.slice a2 L.length k2)).setCell ⟨w.heap.size + 1,2,none⟩ (.slice a3 D.length k3)):=((zO.setCell (by simp) _).setCell (by simp) _).setCell (by simp) _
  have K4:Only [] w x3:=K3.trans kk
  go_wp2_with fail
  obtain ⟨wf,hwf⟩:∃ wf,wf = (((x3.setCell ⟨w.heap.size + 1,0,none⟩ (.slice a1 tr.length k1)).setCell ⟨w.heap.size + 1,1,none⟩ (.slice a2 L.length k2)).setCell ⟨w.heap.size + 1,2,none⟩ (.slice a3 D.length k3)):=⟨_,rfl⟩
  rw [<- hwf] at Yf kf ⊢
  simp only [List.set] at Yf
  clear hwf g0 g1 g2 p0 p1 p2
  obtain ⟨z0,z1,z2⟩:=Yf.c3
  refine bodyPost_ret (v:=.tuple #[.agg #[.slice a1 tr.length k1,.slice a2 L.length k2,.slice a3 D.length k3],.bool true]) (by simp [results,Tryz.results54,go_sem,z0,z1,z2]) rfl ⟨[.slice a1 tr.length k1,.slice a2 L.length k2,.slice a3 D.length k3],q1 ++ (q2 ++ q3),by rw [Hb.out];rfl,?_,(F.mono (by simp;omega)).only kf hFg,K4.then_ kf (by simp)⟩
  rw [Hb.out,He.out]
  exact ⟨_,_,_,q1,q2,q3,rfl,rfl,Rp.only (zK r1 (y2.trans y3)) kf (fun g hg=>hFg g (by simp [hg])),Rp.only (zK r2 y3) kf (fun g hg=>hFg g (by simp [hg])),Rp.only r3 kf (fun g hg=>hFg g (by simp [hg]))⟩
def bTabsK (x:Puzzle):List (List Int)->Option (List Table)
 | []=>some []
 | tr :: trs=>(bTab x tr).bind fun t=>(bTabsK x trs).map (t :: ·)
def bTabs (x:Puzzle) (trs:List (List Int)):Option (List Table):=if inR trs.length 1 4 = true then bTabsK x trs else none
theorem Zgp (x:Puzzle) (tr:List Int):∀ (trs:List (List Int)),bTabsK x (trs ++ [tr]) = (bTabsK x trs).bind fun ts=>(bTab x tr).map fun t=>ts ++ [t]
 | []=>by simp [bTabsK];cases bTab x tr <;> rfl
 | a :: trs=>by
  simp only [List.cons_append,bTabsK,Zgp x tr trs]
  cases bTab x a with
  | none=>rfl
  | some t=>cases bTabsK x trs with
   | none=>rfl
   | some ts=>cases bTab x tr <;> rfl
theorem Zjg {x:Puzzle} {trs:List (List Int)} {tr:List Int} (hm:tr∈trs) (h:bTab x tr = none):bTabsK x trs = none:=by
 induction trs with
 | nil=>cases hm
 | cons a trs ih=>
  rcases List.mem_cons.1 hm with rfl | hm
  ·simp [bTabsK,h]
  ·simp only [bTabsK,ih hm]
   cases bTab x a <;> rfl
def BT1 (W wx:World) (s8 s9:Value) (t:Option Table):Prop:=
 ∃ g A1 A2 A3 C1 C2 C3 f,s8 = .pointer (some ⟨g,0,none⟩)/\s9 = .bool t.isSome/\Blk wx g [.slice A1 (t.getD noTab).tracked.length C1,.slice A2 (t.getD noTab).patterns.length C2,.slice A3 (t.getD noTab).distances.length C3] /\
  Rp.rep wx [.slice A1 (t.getD noTab).tracked.length C1,.slice A2 (t.getD noTab).patterns.length C2,.slice A3 (t.getD noTab).distances.length C3] (t.getD noTab) f/\Fresh W.heap.size wx f/\Only [] W wx
theorem BT1.of {W w5:World} {t:Option Table} {g:Nat} {A1 A2 A3:Option Addr} {n1 n2 n3 C1 C2 C3:Nat} {f:List Nat} {cs:List Value} (hz:Blk w5 g cs) (hcs:cs.length = 3) (hK:Only [] W w5) (e1:n1 = (t.getD noTab).tracked.length) (e2:n2 = (t.getD noTab).patterns.length) (e3:n3 = (t.getD noTab).distances.length)
  (hr:Rp.rep w5 [.slice A1 n1 C1,.slice A2 n2 C2,.slice A3 n3 C3] (t.getD noTab) f) (hF:Fresh W.heap.size w5 f) (hg:g ∉ f) (hW:W.heap.size<=g) :
  BT1 W (((w5.setCell ⟨g,0,none⟩ (.slice A1 n1 C1)).setCell ⟨g,1,none⟩ (.slice A2 n2 C2)).setCell ⟨g,2,none⟩ (.slice A3 n3 C3)) (.pointer (some ⟨g,0,none⟩)) (.bool t.isSome) t:=by
 subst e1;subst e2;subst e3
 have ho:Only [g] w5 (((w5.setCell ⟨g,0,none⟩ (.slice A1 (t.getD noTab).tracked.length C1)).setCell ⟨g,1,none⟩ (.slice A2 (t.getD noTab).patterns.length C2)).setCell ⟨g,2,none⟩ (.slice A3 (t.getD noTab).distances.length C3)):=((zO.setCell (by simp) _).setCell (by simp) _).setCell (by simp) _
 have hb:=((hz.set 0 (.slice A1 (t.getD noTab).tracked.length C1)).set 1 (.slice A2 (t.getD noTab).patterns.length C2)).set 2 (.slice A3 (t.getD noTab).distances.length C3)
 have hnf:∀ b∈f,b ∉ [g]:=fun b hm1 hm=>by simp at hm;subst hm;exact hg hm1
 refine ⟨g,A1,A2,A3,C1,C2,C3,f,rfl,rfl,?_,Rp.only hr ho hnf,hF.only ho hnf,hK.then_ ho (by intro b hm hl;simp at hm;omega)⟩
 obtain ⟨u0,u1,u2,rfl⟩:∃ u0 u1 u2,cs = [u0,u1,u2]:=by
  match cs,hcs with
  | [u0,u1,u2],_=>exact ⟨u0,u1,u2,rfl⟩
 simpa only [List.set] using hb
theorem BT1.of2 {W w5:World} {t:Option Table} {g:Nat} {A1 A2 A3:Option Addr} {n1 n2 n3 C1 C2 C3:Nat} {f:List Nat} {e:TypeId} (hK:Only [] W w5) (e1:n1 = (t.getD noTab).tracked.length) (e2:n2 = (t.getD noTab).patterns.length) (e3:n3 = (t.getD noTab).distances.length)
  (hr:Rp.rep w5 [.slice A1 n1 C1,.slice A2 n2 C2,.slice A3 n3 C3] (t.getD noTab) f) (hF:Fresh W.heap.size w5 f) (hg:g = w5.heap.size) :
  BT1 W (w5.alloc (.cells #[.slice A1 n1 C1,.slice A2 n2 C2,.slice A3 n3 C3] e)) (.pointer (some ⟨g,0,none⟩)) (.bool t.isSome) t:=by
 subst e1;subst e2;subst e3;subst hg
 have ho:Only [] w5 (w5.alloc (.cells #[.slice A1 (t.getD noTab).tracked.length C1,.slice A2 (t.getD noTab).patterns.length C2,.slice A3 (t.getD noTab).distances.length C3] e)):=zO.alloc _
 exact ⟨_,A1,A2,A3,C1,C2,C3,f,rfl,rfl,Blk.new w5 [.slice A1 (t.getD noTab).tracked.length C1,.slice A2 (t.getD noTab).patterns.length C2,.slice A3 (t.getD noTab).distances.length C3] e,zK hr ho,hF.keep ho,hK.trans ho⟩
theorem Tryz.infoTab:(Tryz.prog.info? 41).map (fun i=>(i.zero,i.size,i.bytes)) = some (some (.agg #[.slice none 0 0,.slice none 0 0,.slice none 0 0]),3,72):=by kernel_rfl
set_option maxHeartbeats 4000000 in
theorem Zaq (cs:List Value) (x:Puzzle) (fp:List Nat) (v:Value) (trs:List (List Int)) (ft:List Nat) (w:World) (h:Rp.rep w cs x fp) (hv:Rd w v trs ft) (hsm:∀ y∈trs,y.length<=2097152) :
  Calls Tryz.prog 13 #[.agg cs.toArray,v] w fun e w'=>∃ u fp',e = .returned (.tuple #[u,.bool (bTabs x trs).isSome])/\Rd w' u ((bTabs x trs).getD []) fp'/\Fresh w.heap.size w' fp'/\Only [] w w':=by
 have h0:=h
 obtain ⟨v2,rfl,p0,p1,h2⟩:=h
 obtain ⟨A2,C2,_,_,rfl,-,-⟩:=h2.open_
 obtain ⟨a,cap,ob,fps,rfl,-,hS⟩:=hv.open_
 have hb:=hS.bound
 obtain ⟨i0,hi,hz0,hz1,hz2⟩:=info_parts Tryz.infoTab
 clear p0 p1
 rcases hq:inR trs.length 1 4
 ·have Hn:=zH (by unfold bTabs;rw [hq];rfl:bTabs x trs = none)
  have Hq:=zH hq
  clear hq
  go_enter Tryz.func13,Tryz.ntmps13
  go_wp2_with (first
   | (go_at_call 53;(with_reducible refine (Zaj trs.length 1 4 _).mono ?_);rintro e w1 ⟨he,h1⟩;subst h1;rw [Hq.out] at he;subst he)
   | fail)
  refine bodyPost_ret (v:=.tuple #[.slice (some ⟨w.heap.size + 1,0,none⟩) 0 0,.bool false]) (by simp [results,Tryz.results13,go_sem]) rfl ⟨.slice (some ⟨w.heap.size + 1,0,none⟩) 0 0,[],by rw [Hn.out];rfl,?_,Fresh.nil _ _,zA⟩
  rw [Hn.out]
  exact ⟨some ⟨w.heap.size + 1,0,none⟩,0,[],[],rfl,rfl,SeqA.nil _ _ (by simp [maxLen])⟩
 ·have Hn:=zH (by unfold bTabs;rw [if_pos hq]:bTabs x trs = bTabsK x trs)
  obtain ⟨q1,q2⟩:=inR_iff.1 hq
  have Hq:=zH hq
  have Hsm:=zH hsm
  clear hq hsm
  go_enter Tryz.func13,Tryz.ntmps13
  go_wp2_with (first
   | (go_at_call 53;(with_reducible refine (Zaj trs.length 1 4 _).mono ?_);rintro e w1 ⟨he,h1⟩;subst h1;rw [Hq.out] at he;subst he)
   | fail)
  have X1:=Blk.new w [.int .i64 x.points,.string x.names,.slice A2 x.moves.length C2] 26
  have hA0:Acc (w.heap.size + 1) 41 ((w.alloc (.cells #[.int .i64 x.points,.string x.names,.slice A2 x.moves.length C2] 26)).alloc (.cells #[] 41)) (.slice (some ⟨w.heap.size + 1,0,none⟩) 0 0) ([]:List Table) []:=Acc.made _ _ _ (by simp) (by omega)
  have K1:Only [] w (w.alloc (.cells #[.int .i64 x.points,.string x.names,.slice A2 x.moves.length C2] 26)):=zO.alloc _
  have s1:(w.alloc (.cells #[.int .i64 x.points,.string x.names,.slice A2 x.moves.length C2] 26)).heap.size = w.heap.size + 1:=by simp
  simp only [List.toArray] at X1
  obtain ⟨w1,hw1⟩:∃ w1,w1 = (w.alloc (.cells #[.int .i64 x.points,.string x.names,.slice A2 x.moves.length C2] 26)):=⟨_,rfl⟩
  rw [<- hw1] at X1 hA0 K1 s1 ⊢
  have hs1:=Nat.le_of_eq s1
  have hs2:=Nat.le_of_eq s1.symm
  clear hw1 s1
  go_loopw [6,7] (fun o i wr=>∃ (j:Nat) (ts:List Table) (fs:List (List Nat)),j<=trs.length/\i = .int .i64 j/\bTabsK x (trs.take j) = some ts/\ts.length = j/\Acc (w.heap.size + 1) 41 wr o ts fs/\Fresh (w.heap.size + 1) wr fs.flatten/\Only [] w1 wr)
   (fun _ i _=>trs.length - (intOf i).toNat)
  case atStart=>exact ⟨0,[],[],Nat.zero_le _,rfl,rfl,rfl,hA0,Fresh.nil _ _,zO.alloc _⟩
  case round=>
   obtain ⟨W2,hnew⟩:∃ W,W = wr:=⟨_,rfl⟩
   subst hnew
   obtain ⟨j,ts,fs,hj,rfl,hts,htl,hA,hF,hK⟩:=hrel
   have Hts:=zH hts
   have htl4:ts.length<=4:=by omega
   have Htl:=zH htl
   clear hts htl
   by_cases hlt:j < trs.length
   ·obtain ⟨b,off,u,rfl,-,hc0,hu0⟩:=hS.atRow j hlt
    have hc:=(K1.trans hK).cell (by simp) hc0
    have hu:=zK hu0 (K1.trans hK)
    have X2:=X1.keep hK
    obtain ⟨x0,x1,x2⟩:=X2.c3
    have KK:=K1.trans hK
    have Hc:=zH (fun (W:World) (hh:Only [] W2 W)=>Zcy [.int .i64 x.points,.string x.names,.slice A2 x.moves.length C2] x _ u trs[j] _ W (zK h0 (KK.trans hh)) (zK hu hh) (Hsm.out _ (List.getElem_mem hlt)))
    have ka:=(Only.refl [] W2).alloc (.cells #[.slice none 0 0,.slice none 0 0,.slice none 0 0] 41)
    have hca:=ka.cell (by simp) hc
    have xa0:=ka.cell (by simp) x0
    have xa1:=ka.cell (by simp) x1
    have xa2:=ka.cell (by simp) x2
    clear hc0 hu0
    go_upto_region 7 with fail
    have hzW:=KK.size
    have hc3:([.slice none 0 0,.slice none 0 0,.slice none 0 0]:List Value).length = 3:=rfl
    go_cut [8,9] (fun s8 s9 wx=>BT1 W2 wx s8 s9 (bTab x trs[j]))
    case first=>
     go_region_law (first
      | (go_simp;go_at_call 54;(with_reducible refine (Hc.out _ zA).mono ?_);rintro e w4 ⟨cs4,f4,he4,r4,F4,t4⟩;have rr:=id r4;obtain ⟨u1,u2,u3,e1,e2,e3,rfl,-,s1,s2,s3⟩:=r4;simp only [List.cons_append,List.nil_append] at rr;have hq1:=s1.open_;have hq2:=s2.open_;have hq3:=s3.open_;obtain ⟨a1,k1,_,_,rfl,-,-⟩:=hq1;obtain ⟨a2,k2,_,_,rfl,-,-⟩:=hq2;obtain ⟨a3,k3,_,_,rfl,-,-⟩:=hq3;subst he4;have hz4:=t4.size;simp at hz4;first
       | (have Z:=(Blk.new W2 [.slice none 0 0,.slice none 0 0,.slice none 0 0] 41).keep t4;have hgf:W2.heap.size ∉ f4:=(fun hm=>by have:=F4.ge _ hm;simp at this;omega);have FF:=F4.mono (B':=W2.heap.size) (by simp);obtain ⟨g0,g1,g2⟩:=Z.c3;obtain ⟨p0,p1,p2⟩:=Z.f3)
       | (have Z:=((Blk.new W2 [.slice none 0 0,.slice none 0 0,.slice none 0 0] 41).keep ((Only.refl [] _).drew)).keep t4;have hgf:W2.heap.size ∉ f4:=(fun hm=>by have:=F4.ge _ hm;simp at this;omega);have FF:=F4.mono (B':=W2.heap.size) (by simp);obtain ⟨g0,g1,g2⟩:=Z.c3;obtain ⟨p0,p1,p2⟩:=Z.f3)
       | (have Z:=Blk.new w4 [.slice none 0 0,.slice none 0 0,.slice none 0 0] 41;have hgf:w4.heap.size ∉ f4:=(fun hm=>by have:=F4.lt _ hm;omega);have FF:=F4.mono (B':=W2.heap.size) (by simp);have rra:=zK rr ((Only.refl [] w4).alloc (.cells #[.slice none 0 0,.slice none 0 0,.slice none 0 0] 41));have FFa:=FF.keep ((Only.refl [] w4).alloc (.cells #[.slice none 0 0,.slice none 0 0,.slice none 0 0] 41));obtain ⟨g0,g1,g2⟩:=Z.c3;obtain ⟨p0,p1,p2⟩:=Z.f3))
      | fail)
     all_goals go_wp2_with fail
     all_goals go_meet
     all_goals have KK5:Only [] W2 w4:=(by with_reducible repeat (first | exact Only.refl _ _ | assumption | refine Only.drew ?_ | refine Only.alloc ?_ _ | refine Only.trans ?_ (by assumption)))
     all_goals first
      | with_reducible exact BT1.of2 KK5 rfl rfl rfl rr FF rfl
      | with_reducible exact BT1.of Z hc3 (KK5.alloc _) rfl rfl rfl rra FFa hgf (by omega)
      | with_reducible exact BT1.of Z hc3 KK5 rfl rfl rfl rr FF hgf (by omega)
    case rest=>
     have q7:=hcut
     clear hcut
     obtain ⟨g,B1,B2,B3,D1,D2,D3,f,rfl,rfl,z,r,F,k⟩:=q7
     rcases hbt:bTab x trs[j] with _ | t
     ·have Hno:=zH (Zjg (List.getElem_mem hlt) hbt)
      rw [hbt] at z r
      simp only [Option.getD,Option.isSome] at z r ⊢
      clear hbt
      go_wp2
      refine bodyPost_ret (v:=.tuple #[.slice (some ⟨wc.heap.size,0,none⟩) 0 0,.bool false]) (by simp [results,Tryz.results13,go_sem]) rfl ⟨.slice (some ⟨wc.heap.size,0,none⟩) 0 0,[],by rw [Hn.out,Hno.out];rfl,by rw [Hn.out,Hno.out];exact ⟨some ⟨wc.heap.size,0,none⟩,0,[],[],rfl,rfl,SeqA.nil _ _ (by simp [maxLen])⟩,Fresh.nil _ _,(KK.trans k).alloc _⟩
     ·have hsn:bTabsK x (trs.take (j + 1)) = some (ts ++ [t]):=by rw [Zab trs j hlt,Zgp,Hts.out,hbt];rfl
      have Hsn:=zH hsn
      rw [hbt] at z r
      simp only [Option.getD,Option.isSome] at z r ⊢
      obtain ⟨d0,d1,d2⟩:=z.c3
      clear hbt hsn
      have hF3:=F.keep ((Only.refl [] wc).alloc (.cells #[.slice B1 t.tracked.length D1,.slice B2 t.patterns.length D2,.slice B3 t.distances.length D3] 41))
      have hr3:=zK r ((Only.refl [] wc).alloc (.cells #[.slice B1 t.tracked.length D1,.slice B2 t.patterns.length D2,.slice B3 t.distances.length D3] 41))
      have kz:=(hK.trans k).alloc (.cells #[.slice B1 t.tracked.length D1,.slice B2 t.patterns.length D2,.slice B3 t.distances.length D3] 41)
      have hwB:w.heap.size + 1<=W2.heap.size:=Nat.le_trans hs2 hK.size
      go_wp2_with (at_builtin;refine Zah rfl _ _ 30 rfl (w.heap.size + 1) 41 i0 _ 72 Tryz.underlying30 hi hz0 hz1 hz2 rfl (by decide) (by decide) W2 _ ts fs rfl hA hF (k.alloc _) hwB wc.heap.size 1 [.slice B1 t.tracked.length D1,.slice B2 t.patterns.length D2,.slice B3 t.distances.length D3] t f rfl (lit_src wc [.slice B1 t.tracked.length D1,.slice B2 t.patterns.length D2,.slice B3 t.distances.length D3] _ rfl) (by intro u hu;simp at hu;rcases hu with rfl | rfl | rfl <;> rfl) hr3 hF3 (by omega) w1 kz hs1 ?_;intro v9 w9 hA9 hF9 hK9 hW9)
      go_roundw
      case rel=>exact ⟨j + 1,ts ++ [t],fs ++ [f],by omega,by go_num,Hsn.out,by simp [Htl.out],hA9,hF9,hK9⟩
      case measure=>simp [intOf];omega
   ·obtain rfl:j = trs.length:=by omega
    rw [List.take_length] at Hts
    have HA:=zH hA
    clear hA
    go_wp2
    refine bodyPost_ret (v:=.tuple #[u6,.bool true]) (by simp [results,Tryz.results13,go_sem]) rfl ⟨u6,_,by rw [Hn.out,Hts.out];rfl,?_,((HA.out.fresh hF).mono (by omega)),K1.trans hK⟩
    rw [Hn.out,Hts.out]
    exact HA.out.rd (by decide)
instance:Rp UInt8 where
 size:=1
 rep _ cs x fp:=cs = [.int .u8 (x.toNat:Int)]/\fp = []
 len h:=by rw [h.1];rfl
 frame h _:=h
 lt h:=by rw [h.2];simp
set_option maxHeartbeats 1000000 in
theorem big_any (v:Value) (l:List UInt8) (fc:List Nat) (w:World) (h:Rd w v l fc) :
  Calls Tryz.prog 6 #[v] w fun e w'=>e = .returned (.bool (decide (4096 < l.length)))/\Only [] w w':=by
 obtain ⟨a,cap,ob,fps,rfl,-,hs⟩:=h.open_
 have hb:=hs.bound
 have he:decide ((4096:Int) < (l.length:Int)) = decide (4096 < l.length):=by
  by_cases h:4096 < l.length
  ·rw [decide_eq_true h,decide_eq_true (by omega)]
  ·rw [decide_eq_false h,decide_eq_false (by omega)]
 have He:=zH he
 clear he
 go_enter Tryz.func6,Tryz.ntmps6
 go_wp2
 go_ret
 exact ⟨Zaa (by first | exact He.out | rfl),zA⟩
theorem and255 (n:Int):bits .and .i64 n 255 = n % 256:=by
 have h127:(BitVec.ofInt 64 255).toNat = 2 ^ 8 - 1:=by decide
 have key:(BitVec.ofInt 64 n &&& BitVec.ofInt 64 255).toNat = (n % ((2 ^ 64:Nat):Int)).toNat % 2 ^ 8:=by
  rw [BitVec.toNat_and,BitVec.toNat_ofInt,h127,Nat.and_two_pow_sub_one_eq_mod]
 show IntKind.i64.wrap ((BitVec.ofInt 64 n &&& BitVec.ofInt 64 255).toNat:Nat) = n % 256
 rw [key,IntKind.wrap_i64]
 omega
theorem and30 (n:Int):bits .and .i64 n 1073741823 = n % 1073741824:=by
 have h127:(BitVec.ofInt 64 1073741823).toNat = 2 ^ 30 - 1:=by decide
 have key:(BitVec.ofInt 64 n &&& BitVec.ofInt 64 1073741823).toNat = (n % ((2 ^ 64:Nat):Int)).toNat % 2 ^ 30:=by
  rw [BitVec.toNat_and,BitVec.toNat_ofInt,h127,Nat.and_two_pow_sub_one_eq_mod]
 show IntKind.i64.wrap ((BitVec.ofInt 64 n &&& BitVec.ofInt 64 1073741823).toNat:Nat) = n % 1073741824
 rw [key,IntKind.wrap_i64]
 omega
def Src (w:World) (g:Nat) (fc:List Nat) (l:List UInt8):Prop:=
 ∃ a c i h,Blk w g [.slice a l.length c,.int .i64 i,.int .i64 h]/\(0<=i/\i<=l.length)/\I64 h/\Rd w (.slice a l.length c) l fc/\g ∉ fc
theorem Src.keep {w w':World} {g:Nat} {fc:List Nat} {l:List UInt8} (h:Src w g fc l) (ho:Only [] w w'):Src w' g fc l:=by
 obtain ⟨a,c,i,x,h1,h2,h3,h4,h5⟩:=h
 exact ⟨a,c,i,x,h1.keep ho,h2,h3,zK h4 ho,h5⟩
theorem Src.only {w w':World} {g:Nat} {fc fp:List Nat} {l:List UInt8} (h:Src w g fc l) (ho:Only fp w w') (hg:g ∉ fp) (hc:∀ b∈fc,b ∉ fp):Src w' g fc l:=by
 obtain ⟨a,c,i,x,h1,h2,h3,h4,h5⟩:=h
 exact ⟨a,c,i,x,h1.only ho hg,h2,h3,Rp.only h4 ho hc,h5⟩
theorem Src.lt {w:World} {g:Nat} {fc:List Nat} {l:List UInt8} (h:Src w g fc l):g < w.heap.size:=by
 obtain ⟨a,c,i,x,h1,-⟩:=h;exact h1.lt
set_option maxHeartbeats 4000000 in
theorem Zot (v:Value) (l:List UInt8) (fc:List Nat) (w:World) (h:Rd w v l fc) (hl:l.length<=4096) :
  Calls Tryz.prog 35 #[v] w fun e w'=>∃ g,e = .returned (.pointer (some ⟨g,0,none⟩))/\Src w' g fc l/\w.heap.size<=g/\Only [] w w':=by
 obtain ⟨a,c,ob,fps,rfl,hfc,hS⟩:=h.open_
 have hlt:=Rp.lt h
 go_enter Tryz.func35,Tryz.ntmps35
 go_wp2
 go_loopw [3,4] (fun hv i wr=>∃ (j:Nat) (x:Int),j<=l.length/\i = .int .i64 j/\hv = .int .i64 x/\(0<=x/\x<=1073741823)/\Only [] w wr)
  (fun _ i _=>l.length - (intOf i).toNat)
 case atStart=>exact ⟨0,590033 + l.length,Nat.zero_le _,rfl,by first | rfl | (congr 1;rw [IntKind.wrap_i64];omega),by omega,Only.refl _ _⟩
 case round=>
  obtain ⟨W2,hnew⟩:∃ W,W = wr:=⟨_,rfl⟩
  subst hnew
  obtain ⟨j,x,hj,rfl,rfl,hr,hK⟩:=hrel
  by_cases hlt2:j < l.length
  ·obtain ⟨b,off,cs,rfl,-,hc0,hrb⟩:=hS.at_ j hlt2
   obtain ⟨rfl,-⟩:=hrb
   have hcb0:w.cell? ⟨b,off + j,none⟩ = some (.int .u8 (l[j].toNat:Int)):=by simpa [Rp.size] using hc0 0 _ rfl
   have hcb:=hK.cell (by simp) hcb0
   clear hc0 hcb0
   have hi0:(0:Int)<=(j:Int):=by omega
   have hi1:(j:Int) < (l.length:Int):=by omega
   go_wp2
   exact ⟨⟨j + 1,_,by omega,by go_num,rfl,by rw [and30];omega,hK⟩,by simp [intOf];omega⟩
  ·obtain rfl:j = l.length:=by omega
   have hW:=zK h hK
   have X0:=Blk.new W2 [.slice a l.length c,.int .i64 0,.int .i64 x] 96
   go_wp2
   go_ret
   exact ⟨W2.heap.size,rfl,⟨a,c,0,x,X0,⟨by omega,by omega⟩,by unfold I64;omega,zK hW (zO.alloc _),fun hm=>by have:=hlt _ hm;have:=hK.size;omega⟩,hK.size,hK.alloc _⟩
set_option maxHeartbeats 4000000 in
theorem Zcv (g:Nat) (fc:List Nat) (l:List UInt8) (w:World) (h:Src w g fc l) (hl:l.length<=4096) :
  Calls Tryz.prog 149 #[.pointer (some ⟨g,0,none⟩)] w fun e w'=>∃ r:Int,e = .returned (.int .i64 r)/\0<=r/\r<=255/\Src w' g fc l/\Only [g] w w':=by
 obtain ⟨a,c,i,x,h1,h2,h3,h4,h5⟩:=h
 obtain ⟨y0,y1,y2⟩:=h1.c3
 have p1:=h1.frozen 1
 have p2:=h1.frozen 2
 go_enter Tryz.func149,Tryz.ntmps149
 go_upto_region 2 with fail
 obtain ⟨x2,hx2⟩:∃ x2,x2 = wrap64 (wrap64 (x * 6364136223846793005) + 1442695040888963407):=⟨_,rfl⟩
 have hr2:I64 x2:=by rw [hx2];unfold wrap64 I64;omega
 rw [<- hx2]
 clear hx2
 have B1:=h1.set 2 (.int .i64 x2)
 simp only [List.set] at B1
 have k1:Only [g] w (w.setCell ⟨g,2,none⟩ (.int .i64 x2)):=zO.setCell (by simp) _
 have r1:Rd (w.setCell ⟨g,2,none⟩ (.int .i64 x2)) (.slice a l.length c) l fc:=Rp.only h4 k1 (fun b hb hm=>h5 (by simp at hm;rwa [<- hm]))
 obtain ⟨w1,hw1⟩:∃ w1,w1 = w.setCell ⟨g,2,none⟩ (.int .i64 x2):=⟨_,rfl⟩
 rw [<- hw1] at B1 k1 r1 ⊢
 clear hw1 y0 y1 y2 p1 p2 h1 h4 h3
 obtain ⟨y0,y1,y2⟩:=B1.c3
 go_quiet (fail)
 go_wp2
 obtain ⟨v3,hv3⟩:∃ v3,v3 = bits BinOp.and IntKind.i64 (bits BinOp.xor IntKind.i64 (x2 / 8589934592) (x2 / 35184372088832)) 255:=⟨_,rfl⟩
 have hr3:0<=v3/\v3<=255:=by rw [hv3,and255];omega
 rw [<- hv3]
 clear hv3
 obtain ⟨ob,fps,hfc,hS⟩:∃ ob fps,fc = ob ++ fps.flatten/\SeqA w1 a c l ob fps:=by obtain ⟨a',c',ob,fps,hv,hf,hs⟩:=r1.open_;injection hv with e1 _ e2;subst e1;subst e2;exact ⟨ob,fps,hf,hs⟩
 obtain ⟨k,rfl⟩:=Int.eq_ofNat_of_zero_le h2.1
 have hwk:IntKind.i64.wrap ((k:Int) + 1) = (k:Int) + 1:=by rw [IntKind.wrap_i64];omega
 by_cases hil:k < l.length
 ·have hilb:decide ((k:Int) < (l.length:Int)) = true:=decide_eq_true (by omega)
  obtain ⟨b,off,cs,rfl,-,hc0,hrb⟩:=hS.at_ k hil
  obtain ⟨rfl,-⟩:=hrb
  have hcb:w1.cell? ⟨b,off + k,none⟩ = some (.int .u8 (l[k].toNat:Int)):=by simpa [Rp.size] using hc0 0 _ rfl
  clear hc0
  have hby:l[k].toNat < 256:=UInt8.toNat_lt _
  have hw8:wrap64 (l[k].toNat:Int) = (l[k].toNat:Int):=by unfold wrap64;omega
  have hws:IntKind.i64.wrap (v3 + (l[k].toNat:Int)) = v3 + (l[k].toNat:Int):=by rw [IntKind.wrap_i64];omega
  have hi0:(0:Int)<=(k:Int):=by omega
  have hi1:(k:Int) < (l.length:Int):=by omega
  have p1:=B1.frozen 1
  go_quiet (fail)
  go_wp2
  go_quiet (fail)
  go_wp2
  go_ret
  refine ⟨_,rfl,by rw [and255];omega,by rw [and255];omega,⟨some ⟨b,off,none⟩,c,(k:Int) + 1,x2,?_,⟨by omega,by omega⟩,hr2,?_,h5⟩,(k1.drewN _).setCell (by simp) _⟩
  ·simpa [List.set] using ((B1.keep (Only.ofDrewN w1 _ [])).set 1 (.int .i64 ((k:Int) + 1)))
  ·exact Rp.only r1 (fp':=[g]) ((Only.ofDrewN _ _ _).setCell (by simp) _) (fun b hb hm=>h5 (by simp at hm;rwa [<- hm]))
 ·have hilb:decide ((k:Int) < (l.length:Int)) = false:=decide_eq_false (by omega)
  go_quiet (fail)
  go_wp2
  go_ret
  exact ⟨v3,rfl,hr3.1,hr3.2,⟨a,c,(k:Int),x2,B1.keep zA,h2,hr2,zK r1 zA,h5⟩,k1.trans (by with_reducible repeat (first | exact Only.refl _ _ | assumption | refine Only.drewN ?_ _ | refine Only.drew ?_))⟩
set_option maxHeartbeats 2000000 in
theorem Zae (g:Nat) (fc:List Nat) (l:List UInt8) (n:Int) (w:World) (h:Src w g fc l) (hl:l.length<=4096) (hn:n<=9223372036854775807) :
  Calls Tryz.prog 83 #[.pointer (some ⟨g,0,none⟩),.int .i64 n] w fun e w'=>∃ r:Int,e = .returned (.int .i64 r)/\0<=r/\(r < n\/r = 0)/\Src w' g fc l/\Only [g] w w':=by
 by_cases h0:n<=0
 ·go_enter Tryz.func83,Tryz.ntmps83
  go_wp2
  go_ret
  exact ⟨0,rfl,by omega,.inr rfl,h,Only.refl _ _⟩
 by_cases h1:n<=256
 ·have hn0:n ≠ 0:=by omega
  go_enter Tryz.func83,Tryz.ntmps83
  go_wp2_with (first
   | (go_at_call 149;(with_reducible refine (Zcv g fc l w h hl).mono ?_);rintro e w1 ⟨r,rfl,r0,r1,D1,K1⟩)
   | fail)
  go_ret
  exact ⟨r % n,rfl,Int.emod_nonneg _ hn0,.inl (Int.emod_lt_of_pos _ (by omega)),D1,K1⟩
 ·have hn0:n ≠ 0:=by omega
  go_enter Tryz.func83,Tryz.ntmps83
  go_wp2_with (first
   | (go_at_call 149;(with_reducible refine (Zcv g fc l w h hl).mono ?_);rintro e w1 ⟨r,rfl,r0,r1,D1,K1⟩)
   | (go_at_call 149;(with_reducible refine (Zcv g fc l w1 D1 hl).mono ?_);rintro e w2 ⟨r2,rfl,r20,r21,D2,K2⟩)
   | (go_at_call 149;(with_reducible refine (Zcv g fc l w2 D2 hl).mono ?_);rintro e w3 ⟨r3,rfl,r30,r31,D3,K3⟩)
   | (go_at_call 149;(with_reducible refine (Zcv g fc l w3 D3 hl).mono ?_);rintro e w4 ⟨r4,rfl,r40,r41,D4,K4⟩;have q1:IntKind.i64.wrap (r * 16777216) = r * 16777216:=(by rw [IntKind.wrap_i64];omega);have q2:IntKind.i64.wrap (r2 * 65536) = r2 * 65536:=(by rw [IntKind.wrap_i64];omega);have q3:IntKind.i64.wrap (r * 16777216 + r2 * 65536) = r * 16777216 + r2 * 65536:=(by rw [IntKind.wrap_i64];omega);have q4:IntKind.i64.wrap (r3 * 256) = r3 * 256:=(by rw [IntKind.wrap_i64];omega);have q5:IntKind.i64.wrap (r * 16777216 + r2 * 65536 + r3 * 256) = r * 16777216 + r2 * 65536 + r3 * 256:=(by rw [IntKind.wrap_i64];omega);have q6:IntKind.i64.wrap (r * 16777216 + r2 * 65536 + r3 * 256 + r4) = r * 16777216 + r2 * 65536 + r3 * 256 + r4:=(by rw [IntKind.wrap_i64];omega))
   | fail)
  go_ret
  exact ⟨(r * 16777216 + r2 * 65536 + r3 * 256 + r4) % n,rfl,Int.emod_nonneg _ hn0,.inl (Int.emod_lt_of_pos _ (by omega)),D4,((K1.trans K2).trans K3).trans K4⟩
set_option maxHeartbeats 1000000 in
theorem Zbf (g:Nat) (fc:List Nat) (l:List UInt8) (n:Int) (w:World) (h:Src w g fc l) (hl:l.length<=4096) (hn:n<=9223372036854775807) :
  Calls Tryz.prog 84 #[.pointer (some ⟨g,0,none⟩),.int .i64 n] w fun e w'=>∃ r:Bool,e = .returned (.bool r)/\Src w' g fc l/\Only [g] w w':=by
 go_enter Tryz.func84,Tryz.ntmps84
 go_wp2_with (first
  | (go_at_call 83;(with_reducible refine (Zae g fc l n w h hl hn).mono ?_);rintro e w1 ⟨r,rfl,r0,r1,D1,K1⟩)
  | fail)
 go_ret
 exact ⟨r == 0,rfl,D1,K1⟩
set_option maxHeartbeats 1000000 in
theorem Zra (g:Nat) (fc:List Nat) (l:List UInt8) (lo hi:Int) (w:World) (h:Src w g fc l) (hl:l.length<=4096) (h1:lo<=hi) (h2:-1000000<=lo) (h3:hi<=1000000) :
  Calls Tryz.prog 202 #[.pointer (some ⟨g,0,none⟩),.int .i64 lo,.int .i64 hi] w fun e w'=>∃ r:Int,e = .returned (.int .i64 r)/\lo<=r/\r<=hi/\Src w' g fc l/\Only [g] w w':=by
 have q1:IntKind.i64.wrap (hi - lo) = hi - lo:=by rw [IntKind.wrap_i64];omega
 have q2:IntKind.i64.wrap (hi - lo + 1) = hi - lo + 1:=by rw [IntKind.wrap_i64];omega
 go_enter Tryz.func202,Tryz.ntmps202
 go_wp2_with (first
  | (go_at_call 83;(with_reducible refine (Zae g fc l (hi - lo + 1) w h hl (by omega)).mono ?_);rintro e w1 ⟨r,rfl,r0,r1,D1,K1⟩;have q3:IntKind.i64.wrap (lo + r) = lo + r:=(by rw [IntKind.wrap_i64];omega))
  | fail)
 go_ret
 exact ⟨lo + r,rfl,by omega,by omega,D1,K1⟩
def extL:List Int:=[-1,0,1,2147483648,-2147483648,1099511627776,4611686018427387904,-4611686018427387904,9223372036854775807,-9223372036854775808]
theorem Zty:∀ y∈extL,I64 y:=by intro y hy;simp [extL] at hy;unfold I64;omega
set_option maxHeartbeats 1000000 in
theorem Zmt (g:Nat) (fc:List Nat) (l:List UInt8) (w:World) (h:Src w g fc l) (hl:l.length<=4096) :
  Calls Tryz.prog 85 #[.pointer (some ⟨g,0,none⟩)] w fun e w'=>∃ r:Int,e = .returned (.int .i64 r)/\I64 r/\Src w' g fc l/\Only [g] w w':=by
 have hlt:=h.lt
 have hB:=Blk.new w (extL.map (Value.int .i64)) 2
 have ho:Only [] w (w.alloc (.cells (extL.map (Value.int .i64)).toArray 2)):=zO.alloc _
 go_enter Tryz.func85,Tryz.ntmps85
 go_wp2_with (first
  | (go_at_call 83;(with_reducible refine (Zae g fc l 10 _ (h.keep zA) hl (by omega)).mono ?_);rintro e w1 ⟨r,rfl,r0,r1,D1,K1⟩;obtain ⟨k,rfl⟩:=Int.eq_ofNat_of_zero_le r0;have hk:k < extL.length:=(by show k < 10;omega);have hB1:=hB.only K1 (by simp;omega);have c1:=hB1.cell k (v:=.int .i64 extL[k]) (by simp [hk]);have hk0:(0:Int)<=(k:Int):=(by omega);have hk1:(k:Int) < 10:=(by omega))
  | fail)
 go_ret
 exact ⟨extL[k],rfl,Zty _ (List.getElem_mem _),D1,(ho.weaken [g]).trans K1⟩
theorem ins_isP {p:List Int} (h:PM.IsP p) {k:Nat} (_:k<=p.length):PM.IsP (p.take k ++ ((p.length:Int) :: p.drop k)):=by
 have hperm:(p.take k ++ ((p.length:Int) :: p.drop k)).Perm ((p.length:Int) :: p):=by
  have:=List.perm_middle (l₁:=p.take k) (l₂:=p.drop k) (a:=(p.length:Int))
  rwa [List.take_append_drop] at this
 have hl:(p.take k ++ ((p.length:Int) :: p.drop k)).length = p.length + 1:=by rw [hperm.length_eq];rfl
 refine ⟨fun x hx=>?_,hperm.nodup_iff.2 (List.nodup_cons.2 ⟨fun hm=>?_,h.2⟩)⟩
 ·rw [hl]
  rcases List.mem_cons.1 (hperm.mem_iff.1 hx) with rfl | hx
  ·omega
  ·have:=h.1 x hx;omega
 ·have:=h.1 _ hm;omega
theorem IntsA.drop {w:World} {b off cap:Nat} {l:List Int} {fp:List Nat} (h:IntsA w (some ⟨b,off,none⟩) cap l fp) {k:Nat} (hk:k<=l.length):IntsA w (some ⟨b,off + k,none⟩) (cap - k) (l.drop k) fp:=by
 have hl:=h.len
 have hc:=h.cap
 refine ⟨by rw [List.length_drop];omega,by omega,fun x hx=>h.wf x (List.mem_of_mem_drop hx),fun i hi=>?_,h.lt,h.one⟩
 rw [List.length_drop] at hi
 obtain ⟨b',off',ha,hf,hcell⟩:=h.at_ (k + i) (by omega)
 injection ha with ha;injection ha with e1 e2;subst e1;subst e2
 refine ⟨b,off + k,rfl,hf,?_⟩
 rw [Nat.add_assoc,List.getElem_drop]
 exact hcell
end Go.Proofs.YthleokaeobdamaaGreat

namespace PM
def insU (v:Int):List Int->List Int
 | []=>[v]
 | x :: l=>if x < v then x :: insU v l else if x = v then x :: l else v :: x :: l
def choO (m:List Int) (ys:List Int):List Int:=ys.foldl (fun l y=>insU (at_ m y) l) []
def rowP (n:Nat) (T:Rows) (i:Nat):List Int:=(pts n).filter fun y=>decide (tr T i y ≠ [])
def cho (n:Nat) (T:Rows) (i:Nat) (m:List Int):List Int:=choO m (rowP n T i)
def putV (T:Rows) (i:Nat) (m:List Int) (v:Int):List Int:=comp (tr T i (at_ (inv m) v)) m
section
variable {n:Nat} {gens:List (List Int)} {G:Gens} {T:Rows} (h:Chain n gens G T) (hn:0 < n) (hp:∀ g∈gens,PN n g)
end
end PM

namespace Go.Proofs.YthleokaeobdamaaGreat
open Go.RowKit
set_option maxRecDepth 10000
open Go.Maps (Keyed)
def kB (l:List Int):ByteArray:=strOfNums (l.map fun x=>x % 256)
theorem kB_size (l:List Int):(kB l).size = l.length:=by unfold kB;rw [strOfNums_size,List.length_map]
theorem kB_inj:∀ {l l':List Int},(∀ x∈l,0<=x/\x < 256)->(∀ x∈l',0<=x/\x < 256)->kB l = kB l'->l = l':=by
 intro l l' h h' he
 have hd:(kB l).data.toList = (kB l').data.toList:=by rw [he]
 unfold kB at hd
 rw [strOfNums_data,strOfNums_data,List.map_map,List.map_map] at hd
 clear he
 induction l generalizing l' with
 | nil=>cases l' with
  | nil=>rfl
  | cons y l'=>simp at hd
 | cons x l ih=>cases l' with
  | nil=>simp at hd
  | cons y l'=>
   simp only [List.map_cons,List.cons.injEq] at hd
   have hx:=h x (by simp);have hy:=h' y (by simp)
   have e1:x % 256 = x:=Int.emod_eq_of_lt hx.1 hx.2
   have e2:y % 256 = y:=Int.emod_eq_of_lt hy.1 hy.2
   have h1:=hd.1
   simp only [Function.comp,e1,e2] at h1
   have h2:=congrArg UInt8.toNat h1
   rw [UInt8.toNat_ofNat',UInt8.toNat_ofNat'] at h2
   have:x = y:=by omega
   subst this
   rw [ih (fun z hz=>h z (by simp [hz])) (fun z hz=>h' z (by simp [hz])) hd.2]
theorem kB_eq {l l':List Int} (h:∀ x∈l,0<=x/\x < 256) (h':∀ x∈l',0<=x/\x < 256):kB l = kB l' ↔ l = l':=⟨kB_inj h h',fun e=>by rw [e]⟩
theorem Tryz.lawStr:Keyed Tryz.prog 9:=Go.Maps.string_keyed Tryz.underlying9
section
variable {w:World} {M k:Nat} {g:ByteArray->Option Int}
end
theorem Tryz.infoByte:(Tryz.prog.info? 5).map (fun i=>(i.zero,i.size,i.bytes)) = some (some (.int .u8 0),1,1):=by kernel_rfl
theorem madeBytes (n:Nat):(madeCells (Value.cells (.int .u8 0)) n).toList = List.replicate n (.int .u8 0):=by
 apply List.ext_getElem (by simp [madeCells])
 intro i h1 h2
 simp [madeCells,Value.cells,Nat.mod_one]
theorem Zrm (l:List Int) (j:Nat) (hj:j < l.length):((l.take j).map (fun x=>Value.int .u8 (x % 256)) ++ List.replicate (l.length - j) (Value.int .u8 0)).set j (.int .u8 (l[j] % 256)) = (l.take (j + 1)).map (fun x=>Value.int .u8 (x % 256)) ++ List.replicate (l.length - (j + 1)) (.int .u8 0):=by
 have hl:((l.take j).map (fun x=>Value.int .u8 (x % 256))).length = j:=by rw [List.length_map,List.length_take];omega
 rw [show l.length - j = (l.length - (j + 1)) + 1 by omega,List.replicate_succ,List.set_append_right _ _ (by omega),hl,Nat.sub_self,Zab l j hj]
 simp only [List.map_append,List.map_cons,List.map_nil,List.append_assoc,List.cons_append,List.nil_append,List.set_cons_zero]
set_option maxHeartbeats 1000000 in
theorem Zcp (v:Value) (l:List Int) (fp:List Nat) (w:World) (h:Rd w v l fp) (hl:l.length<=1000) :
  Calls Tryz.prog 209 #[v] w fun e w'=>e = .returned (.string (kB l))/\Only [] w w':=by
 obtain ⟨a,cap,rfl,hI⟩:=h.ints
 obtain ⟨i0,hi,hz0,hz1,hz2⟩:=info_parts Tryz.infoByte
 go_enter Tryz.func209,Tryz.ntmps209
 go_wp2_with (at_make;refine wpList_make_full _ rfl _ _ 22 rfl w.heap.size 5 i0 _ 1 Tryz.underlying22 hi hz0 hz1 _ _ _ _ l.length rfl rfl rfl rfl (by rw [hz2];omega) (by unfold maxLen;omega) (Nat.le_refl _) ?_;intro w1 hown hg)
 rw [madeBytes,Nat.mul_one] at hown
 go_loopw [11] (fun i wr=>∃ j:Nat,j<=l.length/\i = .int .i64 j /\
   wr.ownsRow w.heap.size 5 1 (.slice (some ⟨w.heap.size,0,none⟩) l.length l.length) l.length ((l.take j).map (fun x=>Value.int .u8 (x % 256)) ++ List.replicate (l.length - j) (.int .u8 0))/\Only [] w wr)
  (fun i _=>l.length - (intOf i).toNat)
 case atStart=>exact ⟨0,Nat.zero_le _,rfl,by simpa using hown,zO.grown hg (by simp)⟩
 case round=>
  obtain ⟨j,hj,rfl,hO,hK⟩:=hrel
  by_cases hlt:j < l.length
  ·obtain ⟨b,off,rfl,-,hc0⟩:=hI.at_ j hlt
   have hc:=hK.cell (by simp) hc0
   have hO2:=(hO.stored j (.int .u8 (l[j] % 256))).1
   rw [Zrm l j hlt] at hO2
   obtain ⟨z2,hc2⟩:∃ z,wr.cell? ⟨w.heap.size,j,none⟩ = some z:=by
    rw [hO.cellAt j (by omega)]
    exact ⟨_,List.getElem?_eq_getElem (by simp;omega)⟩
   have hf2:=hO.frozenAt j
   have hK2:=hK.setCell (p:=⟨w.heap.size,j,none⟩) (by simp) (.int .u8 (l[j] % 256))
   have HO:=zH hO2
   clear hO hO2 hown hc0
   go_wp2
   go_roundw
   case rel=>exact ⟨j + 1,by omega,by go_num,HO.out,hK2⟩
   case measure=>simp [intOf];omega
  ·have hjl:j = l.length:=by omega
   rw [hjl] at hO
   simp only [Nat.sub_self,List.replicate_zero,List.append_nil,List.take_length] at hO
   have hcv:=run_convert_bytes_arg (P:=Tryz.prog) wr 22 5 Tryz.underlying22 Tryz.underlying5 w.heap.size 0 l.length l.length (l.map fun x=>x % 256) (by simp) (fun i hi=>by
    rw [Nat.zero_add,hO.cellAt i (by omega)]
    simp [hi]) 9 Tryz.underlying9
   have hKB:strOfNums (l.map fun x=>x % 256) = kB l:=rfl
   rw [hKB] at hcv
   clear hjl hO hown hKB
   go_wp2
   go_ret
   exact ⟨rfl,hK⟩
end Go.Proofs.YthleokaeobdamaaGreat
