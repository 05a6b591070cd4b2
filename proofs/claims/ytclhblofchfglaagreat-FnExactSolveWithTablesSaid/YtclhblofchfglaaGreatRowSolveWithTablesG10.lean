/- The reference's search from a list on (law 16). -/
import Derived.Test.YtclhblofchfglaaGreatRowSolveWithTablesG9
import Derived.Test.YtclhblofchfglaaGreatRowSolveWithTablesG7
import Derived.Deep.RegionHeld3
import Derived.Test.YtclhblofchfglaaGreatRowSolveWithTablesG4
import Derived.Test.YtclhblofchfglaaGreatRowSolveWithTablesG8
import Derived.Maps.OwnSet
import Derived.StringKeys
import Derived.Laws.BytesArg
namespace Go.Proofs.YtclhblofchfglaaGreat
open Go.RowKit
set_option maxRecDepth 10000
theorem Znb (B m:Nat) (v:Value) (s:List Int) (f:List Nat) (d:Int) (w:World) (hv:Rd w v s f) (hs:s.length = m) (hB:B<=w.heap.size) (hF:Fresh B w f) :
  Calls Tryz.prog 188 #[.agg #[.slice none 0 0,.slice none 0 0,.slice none 0 0,.bool false],v,.int .i64 d] w fun e w'=>∃ A1' A2' A3' C1' C2' C3' so',e = .returned (.agg #[.slice A1' 1 C1',.slice A2' 1 C2',.slice A3' 1 C3',.bool false]) /\
   SrO B w' (.slice A1' 1 C1') (.slice A2' 1 C2') (.slice A3' 1 C3') [s] [d] (soI so') [f] []/\Srt m [s] so'/\so'.length = 1/\Only [] w w':=by
 have h0:SrO B w (.slice none ([]:List (List Int)).length 0) (.slice none ([]:List Int).length 0) (.slice none ([]:List Nat).length 0) [] [] (soI []) [] f:=
  ⟨Acc.nil _ _ _,⟨by simp,.inl ⟨rfl,rfl⟩⟩,⟨by simp [soI],.inl ⟨rfl,rfl⟩⟩,by simpa [Value.ownBlock] using hF⟩
 refine (Zgs B none none none 0 0 0 false [] [] [] [] m v s f d w h0 (Srt.nil m) hv hs (by simp) (by simp) rfl (by simp) hB).mono ?_
 rintro e w' ⟨A1',A2',A3',C1',C2',C3',so',rfl,h1,h2,h3,h4,-⟩
 exact ⟨A1',A2',A3',C1',C2',C3',so',rfl,h1,h2,h3,by simpa [Value.ownBlock] using h4⟩
set_option maxHeartbeats 8000000 in
theorem Zkt (cs:List Value) (x:Puzzle) (fp:List Nat) (v:Value) (tr:List Int) (ft:List Nat) (w:World) (h:Rp.rep w cs x fp) (hv:Rd w v tr ft) (hx:validPz x = true) (hp:patB x.points tr.length tr = true) (htl:tr.length<=1000) :
  Calls Tryz.prog 155 #[.agg cs.toArray,v] w fun e w'=>∃ A1 A2 A3 C1 C2 C3 n3 wh L D fL fD,e = .returned (.agg #[.slice A1 (List.length L) C1,.slice A2 (List.length D) C2,.slice A3 n3 C3,.bool wh]) /\
   Rd w' (.slice A1 L.length C1) L fL/\Rd w' (.slice A2 D.length C2) D fD/\(bFrom x 3001 0 ([tr],[0]) = if wh = true then some (L,D) else none)/\Only [] w w'/\(∀ g∈fL ++ fD,w.heap.size<=g)/\L.length<=3000/\D.length<=3000/\(∀ q∈L,q.length<=1000)/\∃ so ob fps fd fz,n3 = List.length so/\SrR w' A1 A2 A3 C1 C2 C3 L D so ob fps fd fz/\Srt tr.length L so/\∀ g∈(ob ++ fps.flatten) ++ (fd ++ fz),w.heap.size<=g:=by
 have h0:=h
 obtain ⟨v2,rfl,p0,p1,h2⟩:=h
 obtain ⟨A2,C2,_,_,rfl,-,-⟩:=h2.open_
 obtain ⟨a,cap,rfl,Iv⟩:=hv.ints
 have hxm:=(Zad hx).2.2.1
 clear Iv h2 p0 p1
 have Hp:=zH hp
 have Hx:=zH hx
 clear hp hx
 have X0:Blk ((w.alloc (.cells #[.int .i64 x.points,.string x.names,.slice A2 x.moves.length C2] 33)).alloc (.cells #[.slice none 0 0,.slice none 0 0,.slice none 0 0,.bool false] 85)) w.heap.size [.int .i64 x.points,.string x.names,.slice A2 x.moves.length C2]:=(Blk.new w [.int .i64 x.points,.string x.names,.slice A2 x.moves.length C2] 33).keep (zO.alloc _)
 have Y0:Blk ((w.alloc (.cells #[.int .i64 x.points,.string x.names,.slice A2 x.moves.length C2] 33)).alloc (.cells #[.slice none 0 0,.slice none 0 0,.slice none 0 0,.bool false] 85)) (w.heap.size + 1) [.slice none 0 0,.slice none 0 0,.slice none 0 0,.bool false]:=Blk.new_at (by simp)
 go_enter Tryz.func155,Tryz.ntmps155
 go_wp2_with (first
  | (go_at_call 63;(with_reducible refine (Zaw _ tr _ _ (zK hv zA) (by omega)).mono ?_);rintro e w1 ⟨v1,f1,rfl,r1,F1,t1⟩;obtain ⟨a1,c1,rfl,I1⟩:=r1.ints;clear I1;have F1':Fresh (w.heap.size + 2) w1 f1:=F1.mono (by simp);have z1:w.heap.size + 2<=w1.heap.size:=(by have:=t1.size;simp at this;omega))
  | (go_at_call 188;(with_reducible refine (Znb (w.heap.size + 2) tr.length _ tr f1 0 _ (zK r1 zA) rfl z1 F1').mono ?_);rintro e w2 ⟨B1,B2,B3,D1,D2,D3,so1,rfl,S2,T2,l2,t2⟩;have XB:=(((X0.keep t1).keep t2).keep ((Only.refl [] w2).alloc (.cells #[.slice B1 1 D1,.slice B2 1 D2,.slice B3 1 D3,.bool false] 85)));obtain ⟨y0,y1,y2⟩:=XB.c3)
  | (go_at_call 127;(with_reducible refine (Zgr [.int .i64 x.points,.string x.names,.slice A2 x.moves.length C2] x _ _ (zK h0 zA) (by omega)).mono ?_);rintro e w3 ⟨v3,f3,rfl,r3,F3,t3⟩;obtain ⟨a3,c3,rfl,I3⟩:=r3.ints)
  | fail)
 have K3:Only [] w w3:=zA
 have z2:=t2.size
 have z3:w2.heap.size + 1<=w3.heap.size:=by have:=t3.size;simp at this;omega
 have X3:=XB.keep t3
 have Y3:=(((Y0.keep t1).keep t2).keep ((Only.refl [] w2).alloc (.cells #[.slice B1 1 D1,.slice B2 1 D2,.slice B3 1 D3,.bool false] 85))).keep t3
 have hS:SFi x tr.length w w3 w2.heap.size [tr] [0] w3 B1 B2 B3 D1 D2 D3 so1 [f1]:=by
  refine ⟨?_,?_,T2,rfl,by simp,by simpa using Hp.out,by simp,fun g hg=>.inl ?_,fun g hg=>.inl ?_,fun _ _=>rfl,K3,Nat.le_refl _,by omega,by omega⟩
  ·have:=((Blk.new w2 [.slice B1 1 D1,.slice B2 1 D2,.slice B3 1 D3,.bool false] 85).keep t3)
   simpa [l2] using this
  ·have:=(S2.keep ((Only.refl [] w2).alloc (.cells #[.slice B1 1 D1,.slice B2 1 D2,.slice B3 1 D3,.bool false] 85))).keep t3
   simpa [l2] using this
  ·refine S2.fr.lt g ?_
   simp only [List.mem_append] at hg ⊢
   rw [l2] at hg
   rcases hg with hg | hg | hg
   ·exact .inl hg
   ·exact .inr (.inr (.inl hg))
   ·exact .inr (.inr (.inr hg))
  ·refine S2.fr.lt g ?_
   simp only [List.mem_append]
   exact .inr (.inl (.inl hg))
 have hf3:∀ g∈f3,w2.heap.size < g/\g < w3.heap.size:=fun g hg=>⟨by have:=F3.ge g hg;simp at this;omega,F3.lt g hg⟩
 clear F3
 clear S2 T2 l2 XB y0 y1 y2 X0 Y0 r1 F1 F1' t1 t2 t3 z1 z2 z3
 obtain ⟨b5,hb5⟩:∃ b5,b5 = w2.heap.size:=⟨_,rfl⟩
 rw [<- hb5] at hS hf3 ⊢
 clear hb5
 obtain ⟨R,hR⟩:∃ R,R = bFrom x 3001 0 ([tr],[0]):=⟨_,rfl⟩
 have HR:=zH hR
 have hll:(ltrs x.moves.length).length<=1000:=by rw [Zet];omega
 obtain ⟨ls,hls⟩:∃ ls,ls = ltrs x.moves.length:=⟨_,rfl⟩
 rw [<- hls] at r3 I3 hll
 rw [<- hls]
 have Hls:=zH hls
 clear hR hls
 go_loopw [7] (fun s7 wr=>∃ (k:Nat) (L:List (List Int)) (D:List Int),s7 = .int .i64 k/\k<=L.length/\(∃ A1 A2 A3 C1 C2 C3 so fs,SFi x tr.length w w3 b5 L D wr A1 A2 A3 C1 C2 C3 so fs)/\R = bFrom x (3001 - k) k (L,D))
  (fun s7 _=>3001 - (intOf s7).toNat)
 case atStart=>exact ⟨0,[tr],[0],rfl,by simp,⟨_,_,_,_,_,_,_,_,hS⟩,HR.out⟩
 case round=>
  obtain ⟨W2,hnew⟩:∃ W,W = wr:=⟨_,rfl⟩
  subst hnew
  obtain ⟨k,L,D,rfl,hk,⟨A1,A2',A3,C1,C2',C3,so,fs,hF⟩,hRk⟩:=hrel
  have HRk:=zH hRk
  have hL3:=hF.ll
  have y0:=hF.blk.cell 0 rfl
  clear hRk
  by_cases hlt:k < L.length
  ·have hst:=HRk.out.trans (Zjq hlt hL3)
   rw [<- Hls.out] at hst
   have Hst:=zH hst
   clear hst
   obtain ⟨q,hq⟩:∃ q,q = L.getD k []:=⟨_,rfl⟩
   obtain ⟨d1,hd1⟩:∃ d,d = D.getD k 0 + 1:=⟨_,rfl⟩
   rw [<- hq,<- hd1] at Hst
   have Hq:=zH hq.symm
   have Hd:=zH hd1.symm
   clear hq hd1
   go_wp2
   go_loopw [8] (fun s8 wr=>∃ (i:Nat) (L:List (List Int)) (D:List Int),s8 = .int .i64 i/\i<=ls.length/\(∃ A1 A2 A3 C1 C2 C3 so fs,SFi x tr.length w w3 b5 L D wr A1 A2 A3 C1 C2 C3 so fs)/\k < L.length/\L.getD k [] = q/\D.getD k 0 + 1 = d1/\R = (bLets x q d1 (ls.drop i) (L,D)).bind (bFrom x (3001 - (k + 1)) (k + 1)))
    (fun s8 _=>ls.length - (intOf s8).toNat)
   case atStart=>exact ⟨0,L,D,rfl,Nat.zero_le _,⟨_,_,_,_,_,_,_,_,hF⟩,hlt,Hq.out,Hd.out,by rw [List.drop_zero];exact Hst.out⟩
   case round=>
    clear y0 hL3 hF HRk Hst Hq Hd hlt hk
    obtain ⟨W3,hnew⟩:∃ W,W = wr:=⟨_,rfl⟩
    subst hnew
    obtain ⟨i,L,D,rfl,hi,⟨A1,A2',A3,C1,C2',C3,so,fs,hF⟩,hlt,hq,hd,hRi⟩:=hrel
    have Hq:=zH hq
    have Hd:=zH hd
    have HRi:=zH hRi
    have hL3:=hF.ll
    have hDl:=hF.dl
    have HDl:=zH hDl
    clear hq hd hRi hDl
    have hXx:=hF.oldBlk X3 (by omega)
    obtain ⟨x0,x1,x2⟩:=hXx.c3
    have y0:=hF.blk.cell 0 rfl
    have K:=hF.on
    have IL:=I3.frame (fun g hg=>hF.keep g (.inr (hf3 g hg)))
    by_cases hil:i < ls.length
    ·obtain ⟨b3,off3,rfl,-,hc3⟩:=IL.at_ i hil
     have hla:ls[i]∈ltrs x.moves.length:=by rw [<- Hls.out];exact List.getElem_mem hil
     have hacc:=(hF.sro.acc.rd (by decide)).open_
     obtain ⟨a1',c1',ob,fps,hv1,-,hS1⟩:=hacc
     injection hv1 with e1 _ e2
     subst e1
     subst e2
     obtain ⟨b1,off1,u,rfl,-,hc1,hu⟩:=hS1.atRow k hlt
     have hqk:L[k] = q:=by have:=Hq.out;rw [List.getD_eq_getElem?_getD,List.getElem?_eq_getElem hlt] at this;exact this
     have hpat:=hF.pat L[k] (List.getElem_mem hlt)
     rw [hqk] at hu hpat
     have Hpat:=zH hpat
     have Hla:=zH hla
     have hql:q.length<=1000:=by rw [(Zat.1 hpat).1];exact htl
     have Hrng:=zH (Zat.1 hpat).2.1
     clear hqk hpat hla
     have Hc:=zH (fun (W:World) (hh:Only [] W3 W)=>Zds [.int .i64 x.points,.string x.names,.slice A2 x.moves.length C2] x _ _ q _ ls[i] W (zK h0 (K.trans hh)) (zK hu hh) Hx.out Hla.out Hrng.out hql)
     go_wp2
     go_region_held3 (fun w'=>Only [] W3 w'/\w'.cell? ⟨w.heap.size,0,none⟩ = some (.int .i64 x.points)/\w'.cell? ⟨w.heap.size,1,none⟩ = some (.string x.names)/\w'.cell? ⟨w.heap.size,2,none⟩ = some (.slice A2 x.moves.length C2)/\w'.cell? ⟨b5,0,none⟩ = some (.slice (some ⟨b1,off1,none⟩) L.length C1)/\w'.cell? ⟨b1,off1 + k,none⟩ = some (u)/\w'.cell? ⟨b3,off3 + i,none⟩ = some (.int .i64 ls[i])) (((refine and_of ?_ (fun q_=>⟨q_.ce x0,q_.ce x1,q_.ce x2,q_.ce y0,q_.ce hc1,q_.ce hc3⟩));first | exact zO.drew | exact (zO.drewN _).drew | exact Only.trans (And.left (by assumption)) (by assumption) | exact Only.alloc (And.left (by assumption)) _ | assumption)) (first | (go_at_call 128;(with_reducible refine (Hc.out _ (And.left (by assumption))).mono ?_);rintro e w4 ⟨u4,f4,rfl,r4,F4,t4⟩;have F4':=F4.mono (((Only.refl [] W3).trans (And.left (by assumption))).size)) | fail)
     have k4:Only [] W3 w4:=(Only.refl [] W3).trans (And.left (by assumption))
     obtain ⟨s,hs⟩:∃ s,s = nxt x q ls[i]:=⟨_,rfl⟩
     rw [<- hs] at r4
     have hps:patB x.points tr.length s = true:=by rw [hs];exact nxt_pat Hx.out Hpat.out Hla.out
     have hsl:s.length = tr.length:=(Zat.1 hps).1
     have hdr:ls.drop i = ls[i] :: ls.drop (i + 1):=List.drop_eq_getElem_cons hil
     have HRi2:=zH hdr
     have Hs:=zH hs
     have Hps:=zH hps
     have Hsl:=zH hsl
     have hF4:=hF.only k4
     obtain ⟨ob4,fps4,fd4,fz4,hR4⟩:=hF4.sro.srR (fun z hz=>by have:=hF4.dep z hz;have:=HDl.out;unfold I64;omega) (fun j hj=>by have:=hF4.srt.in_ j hj;omega)
     have q0:=hF4.blk.cell 0 rfl
     have q1:=hF4.blk.cell 1 rfl
     have q2:=hF4.blk.cell 2 rfl
     have q3:=hF4.blk.cell 3 rfl
     have hS4:=zH hF4.srt
     clear hs hps hsl hdr x0 x1 x2 y0 hc1 hc3 hu hS1 Hc
     by_cases hmem:s∈L
     ·have Hmem:=zH hmem
      clear hmem
      go_wp2_with (first
       | (go_at_call 126;(with_reducible refine (Zdo (some ⟨b1,off1,none⟩) A2' A3 C1 C2' C3 false L D so ob4 fps4 fd4 fz4 tr.length _ s f4 _ (hR4.keep zA) hS4.out (zK r4 zA) Hsl.out hL3).mono ?_);rintro e w5 ⟨r,rfl,hr,t5⟩;have hr2:=hr.2 Hmem.out;clear hr)
       | fail)
      go_roundw
      case rel=>exact ⟨i + 1,L,D,by go_num,by omega,⟨_,_,_,_,_,_,_,_,hF4.only t5⟩,hlt,Hq.out,Hd.out,by rw [HRi.out,HRi2.out,Zmb (by rw [<- Hs.out];exact Hmem.out)]⟩
      case measure=>simp [intOf];omega
     ·have Hmem:=zH hmem
      clear hmem
      by_cases hfull:L.length = 3000
      ·have Hfull:=zH hfull
       have hfb:((L.length:Int) == 3000) = true:=by simp [hfull]
       clear hfull
       go_wp2_with (first
        | (go_at_call 126;(with_reducible refine (Zdo (some ⟨b1,off1,none⟩) A2' A3 C1 C2' C3 false L D so ob4 fps4 fd4 fz4 tr.length _ s f4 _ (hR4.keep zA) hS4.out (zK r4 zA) Hsl.out hL3).mono ?_);rintro e w5 ⟨r,rfl,hr,t5⟩;have hr2:¬ 0<=r:=(fun hh=>Hmem.out (hr.1 hh));clear hr;have hF5:=hF4.only t5;clear q0 q1 q2 q3;have q0:=hF5.blk.cell 0 rfl;have q1:=hF5.blk.cell 1 rfl;have q2:=hF5.blk.cell 2 rfl;have q3:=hF5.blk.cell 3 rfl;have hY5:=hF5.oldBlk Y3 (by omega);obtain ⟨g0,g1,g2,g3⟩:=hY5.c4;obtain ⟨p0,p1,p2,p3⟩:=hY5.f4)
        | fail)
       have Yf:=((((hY5).set 0 (.slice (some ⟨b1,off1,none⟩) L.length C1)).set 1 (.slice A2' D.length C2')).set 2 (.slice A3 so.length C3)).set 3 (.bool false)
       have kf:Only [w.heap.size + 1] w5 ((((w5.setCell ⟨w.heap.size + 1,0,none⟩ (.slice (some ⟨b1,off1,none⟩) L.length C1)).setCell ⟨w.heap.size + 1,1,none⟩ (.slice A2' D.length C2')).setCell ⟨w.heap.size + 1,2,none⟩ (.slice A3 so.length C3)).setCell ⟨w.heap.size + 1,3,none⟩ (.bool false)):=(((zO.setCell (by simp) _).setCell (by simp) _).setCell (by simp) _).setCell (by simp) _
       have o9:=hF5.srt
       obtain ⟨fL,fD,o1,o2,o3,o4,o5,o6⟩:=hF5.out kf (by simp) htl
       obtain ⟨ob9,fps9,fd9,fz9,o8,o10⟩:=hF5.out2 kf (by simp)
       obtain ⟨wf,hwf⟩:∃ wf,wf = ((((w5.setCell ⟨w.heap.size + 1,0,none⟩ (.slice (some ⟨b1,off1,none⟩) L.length C1)).setCell ⟨w.heap.size + 1,1,none⟩ (.slice A2' D.length C2')).setCell ⟨w.heap.size + 1,2,none⟩ (.slice A3 so.length C3)).setCell ⟨w.heap.size + 1,3,none⟩ (.bool false)):=⟨_,rfl⟩
       rw [<- hwf] at Yf o1 o2 o3 o8 ⊢
       simp only [List.set] at Yf
       clear hwf kf q0 q1 q2 q3 g0 g1 g2 g3 p0 p1 p2 p3
       obtain ⟨r0,r1,r2,r3⟩:=Yf.c4
       refine bodyPost_ret (v:=.agg #[.slice (some ⟨b1,off1,none⟩) L.length C1,.slice A2' D.length C2',.slice A3 so.length C3,.bool false]) (by simp [results,Tryz.results155,go_sem,r0,r1,r2,r3]) rfl ⟨_,_,_,_,_,_,_,false,L,D,fL,fD,rfl,o1,o2,?_,o3,o4,o5,o6.1,o6.2,so,ob9,fps9,fd9,fz9,rfl,o8,o9,o10⟩
       rw [<- HR.out,HRi.out,HRi2.out,Zjr (by rw [<- Hs.out];exact Hmem.out) Hfull.out]
       rfl
      ·have hfb:((L.length:Int) == 3000) = false:=by simp;omega
       have hL4:L.length < 3000:=by omega
       clear hfull
       obtain ⟨b2,off2,rfl,-,hcd⟩:=hR4.dp.at_ k (by have:=HDl.out;omega)
       have hdk:=hF4.dep (D[k]'(by have:=HDl.out;omega)) (List.getElem_mem _)
       obtain ⟨dk,hdk0⟩:∃ dk,dk = D[k]'(by have:=HDl.out;omega):=⟨_,rfl⟩
       rw [<- hdk0] at hcd hdk
       have hdd:dk + 1 = d1:=by
        have:=Hd.out
        rw [List.getD_eq_getElem?_getD,List.getElem?_eq_getElem (show k < D.length by have:=HDl.out;omega)] at this
        rw [hdk0];exact this
       have Hdd:=zH hdd
       have hdk1:0<=dk:=hdk.1
       have hdk2:dk<=3000:=by have:=hdk.2;have:=HDl.out;omega
       have hdk3:=hdk.2
       have Hdk3:=zH hdk3
       have hkD:k < D.length:=by have:=HDl.out;omega
       have hw1:IntKind.i64.wrap (dk + 1) = dk + 1:=by rw [IntKind.wrap_i64];omega
       clear hdk hdk0 hdd hdk3
       go_wp2_with (first
        | (go_at_call 126;(with_reducible refine (Zdo (some ⟨b1,off1,none⟩) (some ⟨b2,off2,none⟩) A3 C1 C2' C3 false L D so ob4 fps4 fd4 fz4 tr.length _ s f4 _ (hR4.keep zA) hS4.out (zK r4 zA) Hsl.out hL3).mono ?_);rintro e w5 ⟨r,rfl,hr,t5⟩;have hr2:¬ 0<=r:=(fun hh=>Hmem.out (hr.1 hh));clear hr;have hF5:=hF4.only t5;clear q0 q1 q2 q3;have q0:=hF5.blk.cell 0 rfl;have q1:=hF5.blk.cell 1 rfl;have q2:=hF5.blk.cell 2 rfl;have q3:=hF5.blk.cell 3 rfl;have hcd5:=t5.cell (by simp) hcd)
        | fail)
       have hb5s:=hF5.sz
       have hBW:w.heap.size + 2<=W3.heap.size:=by have:=hF.sz;have:=hF.bW;have:=hF.wb;omega
       have hDI:∀ z∈D,I64 z:=fun z hz=>by have:=hF5.dep z hz;have:=HDl.out;unfold I64;omega
       have Hc6:=zH (fun (W:World) (hh:Only [] w5 W)=>Zgs (w.heap.size + 2) (some ⟨b1,off1,none⟩) (some ⟨b2,off2,none⟩) A3 C1 C2' C3 false L D so fs tr.length u4 s f4 (dk + 1) W (hF.sro.pend ((k4.trans t5).trans hh) hBW (F4'.keep (t5.trans hh))) hS4.out (zK r4 (t5.trans hh)) Hsl.out Hmem.out hL4 HDl.out hDI (Nat.le_trans hBW ((k4.trans t5).trans hh).size))
       clear hDI
       go_region_law (first
        | (go_simp;go_at_call 188;(with_reducible refine (Hc6.out _ zA).mono ?_);rintro e w6 ⟨A1n,A2n,A3n,C1n,C2n,C3n,son,rfl,S6,T6,l6,t6,v6⟩;have B6:=(hF5.only zA).blk.only t6 (fun hm=>by have:=hF5.ap b5 hm;have:=hF5.bW;omega);obtain ⟨g0,g1,g2,g3⟩:=B6.c4;obtain ⟨p0,p1,p2,p3⟩:=B6.f4;rw [Hdd.out] at S6)
        | fail)
       all_goals go_wp2_with fail
       all_goals go_roundw
       all_goals first
        | (simp [intOf];omega)
        | exact ⟨i + 1,L ++ [s],D ++ [d1],by go_num,by omega,⟨_,_,_,_,_,_,_,_,SFi.step (hF5.only zA) (fun g hg=>by have:=F4'.ge g hg;have:=hF.sz;omega) hL4 Hps.out (by have:=Hdd.out;have:=Hdk3.out;omega) S6 T6 l6 t6 v6 (fpw:=[b5]) (by with_reducible repeat (first | exact Only.refl _ _ | refine Only.drew ?_ | refine Only.setCell ?_ (by simp) _)) (by simp) ((((B6.set 0 _).set 1 _).set 2 _).set 3 _)⟩,by simp;omega,by rw [Zde hlt];exact Hq.out,by rw [Zde hkD];exact Hd.out,by rw [HRi.out,HRi2.out,Zma (by rw [<- Hs.out];exact Hmem.out) (by omega),<- Hs.out]⟩
    ·obtain rfl:i = ls.length:=by omega
     go_wp2
     exact ⟨⟨k + 1,L,D,by go_num,by omega,⟨_,_,_,_,_,_,_,_,hF⟩,by rw [HRi.out,List.drop_length];rfl⟩,by simp [intOf];omega⟩
  ·obtain rfl:k = L.length:=by omega
   have hY5:=hF.oldBlk Y3 (by omega)
   have hb5:=hF.wb
   have q3:=hF.blk.cell 3 rfl
   have z3:=hF.blk.frozen 3
   have hB6:=hF.blk.set 3 (.bool true)
   have hY6:=hY5.only ((Only.refl [b5] W2).setCell (p:=⟨b5,3,none⟩) (by simp) (.bool true)) (by simp;omega)
   obtain ⟨q0,q1,q2,q4⟩:=hB6.c4
   obtain ⟨g0,g1,g2,g3⟩:=hY6.c4
   obtain ⟨p0,p1,p2,p3⟩:=hY6.f4
   go_wp2
   have Yf:=((((hY6).set 0 (.slice A1 L.length C1)).set 1 (.slice A2' D.length C2')).set 2 (.slice A3 so.length C3)).set 3 (.bool true)
   have kf:Only [b5,w.heap.size + 1] W2 (((((W2.setCell ⟨b5,3,none⟩ (.bool true)).setCell ⟨w.heap.size + 1,0,none⟩ (.slice A1 L.length C1)).setCell ⟨w.heap.size + 1,1,none⟩ (.slice A2' D.length C2')).setCell ⟨w.heap.size + 1,2,none⟩ (.slice A3 so.length C3)).setCell ⟨w.heap.size + 1,3,none⟩ (.bool true)):=((((((Only.refl [b5,w.heap.size + 1] W2).setCell (by simp) _)).setCell (by simp) _).setCell (by simp) _).setCell (by simp) _).setCell (by simp) _
   have o9:=hF.srt
   obtain ⟨fL,fD,o1,o2,o3,o4,o5,o6⟩:=hF.out kf (by simp) htl
   obtain ⟨ob9,fps9,fd9,fz9,o8,o10⟩:=hF.out2 kf (by simp)
   obtain ⟨wf,hwf⟩:∃ wf,wf = (((((W2.setCell ⟨b5,3,none⟩ (.bool true)).setCell ⟨w.heap.size + 1,0,none⟩ (.slice A1 L.length C1)).setCell ⟨w.heap.size + 1,1,none⟩ (.slice A2' D.length C2')).setCell ⟨w.heap.size + 1,2,none⟩ (.slice A3 so.length C3)).setCell ⟨w.heap.size + 1,3,none⟩ (.bool true)):=⟨_,rfl⟩
   rw [<- hwf] at Yf o1 o2 o3 o8 ⊢
   simp only [List.set] at Yf
   clear hwf kf hB6 hY6 q4 z3 q0 q1 q2 q3 g0 g1 g2 g3 p0 p1 p2 p3
   obtain ⟨r0,r1,r2,r3⟩:=Yf.c4
   refine bodyPost_ret (v:=.agg #[.slice A1 L.length C1,.slice A2' D.length C2',.slice A3 so.length C3,.bool true]) (by simp [results,Tryz.results155,go_sem,r0,r1,r2,r3]) rfl ⟨_,_,_,_,_,_,_,true,L,D,fL,fD,rfl,o1,o2,?_,o3,o4,o5,o6.1,o6.2,so,ob9,fps9,fd9,fz9,rfl,o8,o9,o10⟩
   rw [<- HR.out,HRk.out,Zlt hlt hL3]
   rfl
theorem Zls (cs:List Value) (x:Puzzle) (fp:List Nat) (v:Value) (tr:List Int) (ft:List Nat) (w:World) (h:Rp.rep w cs x fp) (hv:Rd w v tr ft) (hx:validPz x = true) (hp:patB x.points tr.length tr = true) (htl:tr.length<=1000) :
  Calls Tryz.prog 155 #[.agg cs.toArray,v] w fun e w'=>∃ A1 A2 A3 C1 C2 C3 n3 wh L D fL fD,e = .returned (.agg #[.slice A1 (List.length L) C1,.slice A2 (List.length D) C2,.slice A3 n3 C3,.bool wh]) /\
   Rd w' (.slice A1 L.length C1) L fL/\Rd w' (.slice A2 D.length C2) D fD/\(bFrom x 3001 0 ([tr],[0]) = if wh = true then some (L,D) else none)/\Only [] w w'/\(∀ g∈fL ++ fD,w.heap.size<=g)/\L.length<=3000/\D.length<=3000/\∀ q∈L,q.length<=1000:=by
 refine (Zkt cs x fp v tr ft w h hv hx hp htl).mono ?_
 rintro e w' ⟨A1,A2,A3,C1,C2,C3,n3,wh,L,D,fL,fD,e1,o1,o2,o3,o4,o5,o6,o7,o8,-⟩
 exact ⟨A1,A2,A3,C1,C2,C3,n3,wh,L,D,fL,fD,e1,o1,o2,o3,o4,o5,o6,o7,o8⟩
def bTab (x:Puzzle) (tr:List Int):Option Table:=(bfs16 x tr).map fun s=>⟨tr,s.1,s.2⟩
theorem Zil {x:Puzzle} {tr:List Int} (h:(validPz x && trackB x.points tr) = false):bfs16 x tr = none:=by unfold bfs16;rw [h];rfl
theorem Zfh {x:Puzzle} {tr:List Int} (h:(validPz x && trackB x.points tr) = true):bfs16 x tr = bFrom x 3001 0 ([tr],[0]):=by unfold bfs16;rw [if_pos h]
set_option maxHeartbeats 4000000 in
theorem Zeb (cs:List Value) (x:Puzzle) (fp:List Nat) (v:Value) (tr:List Int) (ft:List Nat) (w:World) (h:Rp.rep w cs x fp) (hv:Rd w v tr ft) :
  Calls Tryz.prog 139 #[.agg cs.toArray,v] w fun e w'=>∃ A1 A2 A3 C1 C2 C3 n3 wh L D fL fD,e = .returned (.tuple #[.agg #[.slice A1 (List.length L) C1,.slice A2 (List.length D) C2,.slice A3 n3 C3,.bool wh],.bool wh]) /\
   Rd w' (.slice A1 L.length C1) L fL/\Rd w' (.slice A2 D.length C2) D fD/\(bfs16 x tr = if wh = true then some (L,D) else none)/\Only [] w w'/\(∀ g∈fL ++ fD,w.heap.size<=g)/\L.length<=3000/\D.length<=3000/\∀ q∈L,q.length<=1000:=by
 have h0:=h
 obtain ⟨v2,rfl,p0,p1,h2⟩:=h
 obtain ⟨A2,C2,_,_,rfl,-,-⟩:=h2.open_
 obtain ⟨a,cap,rfl,Iv⟩:=hv.ints
 clear Iv h2 p0 p1
 have X0:Blk ((w.alloc (.cells #[.int .i64 x.points,.string x.names,.slice A2 x.moves.length C2] 33)).alloc (.cells #[.slice none 0 0,.slice none 0 0,.slice none 0 0,.bool false] 85)) w.heap.size [.int .i64 x.points,.string x.names,.slice A2 x.moves.length C2]:=(Blk.new w [.int .i64 x.points,.string x.names,.slice A2 x.moves.length C2] 33).keep (zO.alloc _)
 have Y0:Blk ((w.alloc (.cells #[.int .i64 x.points,.string x.names,.slice A2 x.moves.length C2] 33)).alloc (.cells #[.slice none 0 0,.slice none 0 0,.slice none 0 0,.bool false] 85)) (w.heap.size + 1) [.slice none 0 0,.slice none 0 0,.slice none 0 0,.bool false]:=Blk.new_at (by simp)
 rcases hq:validPz x && trackB x.points tr
 ·have Hn:=zH (Zil hq)
  have Hq:=zH hq
  clear hq
  go_enter Tryz.func139,Tryz.ntmps139
  go_wp2_with (first
   | (go_at_call 173;(with_reducible refine (Zdr [.int .i64 x.points,.string x.names,.slice A2 x.moves.length C2] x _ _ tr _ _ (zK h0 zA) (zK hv zA)).mono ?_);rintro e w1 ⟨he,t1⟩;rw [Hq.out] at he;subst he;have Y1:=Y0.keep t1;obtain ⟨g0,g1,g2,g3⟩:=Y1.c4;obtain ⟨p0,p1,p2,p3⟩:=Y1.f4)
   | fail)
  have K1:Only [] w w1:=zA
  have Yf:=(((Y1.set 0 (.slice none 0 0)).set 1 (.slice none 0 0)).set 2 (.slice none 0 0)).set 3 (.bool false)
  have kf:Only [] w ((((w1.setCell ⟨w.heap.size + 1,0,none⟩ (.slice none 0 0)).setCell ⟨w.heap.size + 1,1,none⟩ (.slice none 0 0)).setCell ⟨w.heap.size + 1,2,none⟩ (.slice none 0 0)).setCell ⟨w.heap.size + 1,3,none⟩ (.bool false)):=K1.then_ (((((Only.refl [w.heap.size + 1] w1).setCell (by simp) _).setCell (by simp) _).setCell (by simp) _).setCell (by simp) _) (by simp)
  obtain ⟨wf,hwf⟩:∃ wf,wf = ((((w1.setCell ⟨w.heap.size + 1,0,none⟩ (.slice none 0 0)).setCell ⟨w.heap.size + 1,1,none⟩ (.slice none 0 0)).setCell ⟨w.heap.size + 1,2,none⟩ (.slice none 0 0)).setCell ⟨w.heap.size + 1,3,none⟩ (.bool false)):=⟨_,rfl⟩
  rw [<- hwf] at Yf kf ⊢
  simp only [List.set] at Yf
  clear hwf g0 g1 g2 g3 p0 p1 p2 p3
  obtain ⟨r0,r1,r2,r3⟩:=Yf.c4
  refine bodyPost_ret (v:=.tuple #[.agg #[.slice none 0 0,.slice none 0 0,.slice none 0 0,.bool false],.bool false]) (by simp [results,Tryz.results139,go_sem,r0,r1,r2,r3]) rfl ⟨none,none,none,0,0,0,0,false,[],[],[],[],rfl,nil_rd _,nil_rd _,?_,kf,by simp,by simp,by simp,by simp⟩
  rw [Hn.out];rfl
 ·have Hn:=zH (Zfh hq)
  obtain ⟨q1,q2⟩:=(Bool.and_eq_true _ _).mp hq
  have Hq:=zH hq
  have Hv:=zH q1
  have Hp:=zH (Zgk q2)
  have htl:tr.length<=1000:=by
   have h3:=(Zaz.1 q2).2.len
   have:=(Zad q1).2.1
   omega
  clear hq q1 q2
  go_enter Tryz.func139,Tryz.ntmps139
  go_wp2_with (first
   | (go_at_call 173;(with_reducible refine (Zdr [.int .i64 x.points,.string x.names,.slice A2 x.moves.length C2] x _ _ tr _ _ (zK h0 zA) (zK hv zA)).mono ?_);rintro e w1 ⟨he,t1⟩;rw [Hq.out] at he;subst he;have X1:=X0.keep t1;obtain ⟨g0,g1,g2⟩:=X1.c3)
   | (go_at_call 155;(with_reducible refine (Zls [.int .i64 x.points,.string x.names,.slice A2 x.moves.length C2] x _ _ tr _ _ (zK h0 zA) (zK hv zA) Hv.out Hp.out htl).mono ?_);rintro e w2 ⟨B1,B2,B3,D1,D2,D3,n3,wh,L,D,fL,fD,rfl,o1,o2,o3,t2,o4,o5⟩;have O3:=zH o3;clear o3)
   | fail)
  have K2:Only [] w w2:=zA
  have Y1:=(((Y0.keep t1).keep t2).keep ((Only.refl [] w2).alloc (.cells #[.slice B1 L.length D1,.slice B2 D.length D2,.slice B3 n3 D3,.bool wh] 85)))
  have B4:=Blk.new w2 [.slice B1 L.length D1,.slice B2 D.length D2,.slice B3 n3 D3,.bool wh] 85
  have hsz:w.heap.size + 2<=w2.heap.size:=by have h5:=t1.size;have h6:=t2.size;simp at h5;omega
  have h1s:w.heap.size + 2<=w1.heap.size:=by have h5:=t1.size;simp at h5;omega
  have o1':=zK o1 ((Only.refl [] w2).alloc (.cells #[.slice B1 L.length D1,.slice B2 D.length D2,.slice B3 n3 D3,.bool wh] 85))
  have o2':=zK o2 ((Only.refl [] w2).alloc (.cells #[.slice B1 L.length D1,.slice B2 D.length D2,.slice B3 n3 D3,.bool wh] 85))
  have K3:=K2.alloc (.cells #[.slice B1 L.length D1,.slice B2 D.length D2,.slice B3 n3 D3,.bool wh] 85)
  obtain ⟨b,hb⟩:∃ b,b = w2.heap.size:=⟨_,rfl⟩
  obtain ⟨w3,hw3⟩:∃ w3,w3 = w2.alloc (.cells #[.slice B1 L.length D1,.slice B2 D.length D2,.slice B3 n3 D3,.bool wh] 85):=⟨_,rfl⟩
  rw [<- hb] at B4 hsz ⊢
  rw [<- hw3] at Y1 B4 o1' o2' K3 ⊢
  clear hb hw3 g0 g1 g2 X1 X0 Y0 t1 t2 o1 o2 K2
  have hne:b ≠ w.heap.size + 1:=by omega
  obtain ⟨c0,c1,c2,c3⟩:=B4.c4
  obtain ⟨g0,g1,g2,g3⟩:=Y1.c4
  obtain ⟨p0,p1,p2,p3⟩:=Y1.f4
  have Yf:=(((Y1.set 0 (.slice B1 L.length D1)).set 1 (.slice B2 D.length D2)).set 2 (.slice B3 n3 D3)).set 3 (.bool wh)
  simp only [List.set] at Yf
  obtain ⟨r0,r1,r2,r3⟩:=Yf.c4
  have hno1:∀ g∈fL,g ∉ [w.heap.size + 1]:=fun g hg hm=>by have:=o4 g (by simp [hg]);simp at hm;omega
  have hno2:∀ g∈fD,g ∉ [w.heap.size + 1]:=fun g hg hm=>by have:=o4 g (by simp [hg]);simp at hm;omega
  have hno3:∀ g∈fL ++ fD,w.heap.size<=g:=fun g hg=>by have:=o4 g hg;omega
  go_region
  all_goals go_wp2
  all_goals refine bodyPost_ret (v:=.tuple #[.agg #[.slice B1 L.length D1,.slice B2 D.length D2,.slice B3 n3 D3,.bool wh],.bool wh]) (by simp [results,Tryz.results139,go_sem,r0,r1,r2,r3]) rfl ⟨B1,B2,B3,D1,D2,D3,n3,wh,L,D,fL,fD,rfl,Rp.only o1' (fp':=[w.heap.size + 1]) (by with_reducible repeat (first | exact Only.refl _ _ | refine Only.drew ?_ | refine Only.setCell ?_ (by simp) _)) hno1,Rp.only o2' (fp':=[w.heap.size + 1]) (by with_reducible repeat (first | exact Only.refl _ _ | refine Only.drew ?_ | refine Only.setCell ?_ (by simp) _)) hno2,by rw [Hn.out];exact O3.out,K3.then_ (fp':=[w.heap.size + 1]) (by with_reducible repeat (first | exact Only.refl _ _ | refine Only.drew ?_ | refine Only.setCell ?_ (by simp) _)) (by simp),hno3,o5⟩
def noTab:Table:=⟨[],[],[]⟩
theorem wh_no {x:Puzzle} {tr:List Int} {wh:Bool} {L:List (List Int)} {D:List Int} (h:bfs16 x tr = if wh = true then some (L,D) else none) (hb:bfs16 x tr = none):wh = false:=by
 cases wh
 ·rfl
 ·rw [hb] at h;simp at h
theorem wh_yes {x:Puzzle} {tr:List Int} {wh:Bool} {L:List (List Int)} {D:List Int} {s:Met16} (h:bfs16 x tr = if wh = true then some (L,D) else none) (hb:bfs16 x tr = some s):wh = true/\s = (L,D):=by
 cases wh
 ·rw [hb] at h;simp at h
 ·rw [hb] at h;simp at h;exact ⟨rfl,h⟩
set_option maxHeartbeats 4000000 in
theorem Zce (cs:List Value) (x:Puzzle) (fp:List Nat) (v:Value) (tr:List Int) (ft:List Nat) (w:World) (h:Rp.rep w cs x fp) (hv:Rd w v tr ft) (htl:tr.length<=2097152) :
  Calls Tryz.prog 89 #[.agg cs.toArray,v] w fun e w'=>∃ cs' fp',e = .returned (.tuple #[.agg (List.toArray cs'),.bool (bTab x tr).isSome])/\Rp.rep w' cs' ((bTab x tr).getD noTab) fp'/\Fresh w.heap.size w' fp'/\Only [] w w':=by
 have h0:=h
 obtain ⟨v2,rfl,p0,p1,h2⟩:=h
 obtain ⟨A2,C2,_,_,rfl,-,-⟩:=h2.open_
 obtain ⟨a,cap,rfl,Iv⟩:=hv.ints
 clear Iv h2 p0 p1
 have X0:Blk ((w.alloc (.cells #[.int .i64 x.points,.string x.names,.slice A2 x.moves.length C2] 33)).alloc (.cells #[.slice none 0 0,.slice none 0 0,.slice none 0 0] 82)) w.heap.size [.int .i64 x.points,.string x.names,.slice A2 x.moves.length C2]:=(Blk.new w [.int .i64 x.points,.string x.names,.slice A2 x.moves.length C2] 33).keep (zO.alloc _)
 have Y0:Blk ((w.alloc (.cells #[.int .i64 x.points,.string x.names,.slice A2 x.moves.length C2] 33)).alloc (.cells #[.slice none 0 0,.slice none 0 0,.slice none 0 0] 82)) (w.heap.size + 1) [.slice none 0 0,.slice none 0 0,.slice none 0 0]:=Blk.new_at (by simp)
 rcases hq:bfs16 x tr with _ | s
 ·have Hq:=zH hq
  have hb:bTab x tr = none:=by unfold bTab;rw [hq];rfl
  have Hb:=zH hb
  clear hq hb
  go_enter Tryz.func89,Tryz.ntmps89
  go_wp2_with (first
   | (go_at_call 139;(with_reducible refine (Zeb [.int .i64 x.points,.string x.names,.slice A2 x.moves.length C2] x _ _ tr _ _ (zK h0 zA) (zK hv zA)).mono ?_);rintro e w2 ⟨B1,B2,B3,D1,D2,D3,n3,wh,L,D,fL,fD,rfl,o1,o2,o3,t2,-,-,-,-⟩;obtain rfl:=wh_no o3 Hq.out;clear o3;have Y1:=(Y0.keep t2).keep ((Only.refl [] w2).alloc (.cells #[.slice B1 L.length D1,.slice B2 D.length D2,.slice B3 n3 D3,.bool false] 85));obtain ⟨g0,g1,g2⟩:=Y1.c3;obtain ⟨p0,p1,p2⟩:=Y1.f3)
   | fail)
  have K2:Only [] w w2:=zA
  have K3:=K2.alloc (.cells #[.slice B1 L.length D1,.slice B2 D.length D2,.slice B3 n3 D3,.bool false] 85)
  have Yf:=((Y1.set 0 (.slice none 0 0)).set 1 (.slice none 0 0)).set 2 (.slice none 0 0)
  have kf:=K3.then_ ((((Only.refl [w.heap.size + 1] (w2.alloc (.cells #[.slice B1 L.length D1,.slice B2 D.length D2,.slice B3 n3 D3,.bool false] 85))).setCell (p:=⟨w.heap.size + 1,0,none⟩) (by simp) (.slice none 0 0)).setCell (p:=⟨w.heap.size + 1,1,none⟩) (by simp) (.slice none 0 0)).setCell (p:=⟨w.heap.size + 1,2,none⟩) (by simp) (.slice none 0 0)) (by simp)
  obtain ⟨wf,hwf⟩:∃ wf,wf = ((((w2.alloc (.cells #[.slice B1 L.length D1,.slice B2 D.length D2,.slice B3 n3 D3,.bool false] 85)).setCell ⟨w.heap.size + 1,0,none⟩ (.slice none 0 0)).setCell ⟨w.heap.size + 1,1,none⟩ (.slice none 0 0)).setCell ⟨w.heap.size + 1,2,none⟩ (.slice none 0 0)):=⟨_,rfl⟩
  rw [<- hwf] at Yf kf ⊢
  simp only [List.set] at Yf
  clear hwf g0 g1 g2 p0 p1 p2
  obtain ⟨r0,r1,r2⟩:=Yf.c3
  refine bodyPost_ret (v:=.tuple #[.agg #[.slice none 0 0,.slice none 0 0,.slice none 0 0],.bool false]) (by simp [results,Tryz.results89,go_sem,r0,r1,r2]) rfl ⟨[.slice none 0 0,.slice none 0 0,.slice none 0 0],[],by rw [Hb.out];rfl,?_,Fresh.nil _ _,kf⟩
  rw [Hb.out]
  exact ⟨_,_,_,[],[],[],rfl,rfl,nil_rd _,nil_rd _,nil_rd _⟩
 ·have Hq:=zH hq
  have hb:bTab x tr = some ⟨tr,s.1,s.2⟩:=by unfold bTab;rw [hq];rfl
  have Hb:=zH hb
  clear hq hb
  go_enter Tryz.func89,Tryz.ntmps89
  go_wp2_with (first
   | (go_at_call 139;(with_reducible refine (Zeb [.int .i64 x.points,.string x.names,.slice A2 x.moves.length C2] x _ _ tr _ _ (zK h0 zA) (zK hv zA)).mono ?_);rintro e w2 ⟨B1,B2,B3,D1,D2,D3,n3,wh,L,D,fL,fD,rfl,o1,o2,o3,t2,m0,m1,m2,m3⟩;obtain ⟨rfl,he⟩:=wh_yes o3 Hq.out;have He:=zH he;clear o3 he)
   | fail)
  have K2:Only [] w w2:=zA
  have Y1:=((Y0.keep t2).keep ((Only.refl [] w2).alloc (.cells #[.slice B1 L.length D1,.slice B2 D.length D2,.slice B3 n3 D3,.bool true] 85)))
  have B4:=Blk.new w2 [.slice B1 L.length D1,.slice B2 D.length D2,.slice B3 n3 D3,.bool true] 85
  have o1':=zK o1 ((Only.refl [] w2).alloc (.cells #[.slice B1 L.length D1,.slice B2 D.length D2,.slice B3 n3 D3,.bool true] 85))
  have o2':=zK o2 ((Only.refl [] w2).alloc (.cells #[.slice B1 L.length D1,.slice B2 D.length D2,.slice B3 n3 D3,.bool true] 85))
  have K3:=K2.alloc (.cells #[.slice B1 L.length D1,.slice B2 D.length D2,.slice B3 n3 D3,.bool true] 85)
  have hsz:w.heap.size + 2<=w2.heap.size:=by have h6:=t2.size;simp at h6;omega
  obtain ⟨b,hb⟩:∃ b,b = w2.heap.size:=⟨_,rfl⟩
  obtain ⟨w3,hw3⟩:∃ w3,w3 = w2.alloc (.cells #[.slice B1 L.length D1,.slice B2 D.length D2,.slice B3 n3 D3,.bool true] 85):=⟨_,rfl⟩
  have hs3:w.heap.size + 3<=w3.heap.size:=by rw [hw3];simp;omega
  rw [<- hb] at B4 hsz ⊢
  rw [<- hw3] at Y1 B4 o1' o2' K3 ⊢
  clear hb hw3 X0 Y0 t2 o1 o2 K2
  have hv':=zK hv K3
  obtain ⟨c0,c1⟩:=B4.c2
  have ml:L.length<=2097152:=by omega
  have mr:∀ y∈L,y.length<=2097152:=fun y hy=>by have:=m3 y hy;omega
  have hdt:∀ g∈ft,g ∉ [w.heap.size + 1]:=fun g hg hm=>by have:=Rp.lt hv g hg;simp at hm;omega
  have hdL:∀ g∈fL,g ∉ [w.heap.size + 1]:=fun g hg hm=>by have:=m0 g (by simp [hg]);simp at this hm;omega
  have hdD:∀ g∈fD,g ∉ [w.heap.size + 1]:=fun g hg hm=>by have:=m0 g (by simp [hg]);simp at this hm;omega
  have hbn:b ∉ [w.heap.size + 1]:=by simp;omega
  go_region_held3 (fun w'=>Only [w.heap.size + 1] w3 w'/\w'.cell? ⟨b,0,none⟩ = some (.slice B1 L.length D1)/\w'.cell? ⟨b,1,none⟩ = some (.slice B2 D.length D2))
   ((
    refine and_of ?_ (fun q_=>⟨q_.cell hbn c0,q_.cell hbn c1⟩);first
    | with_reducible exact zO.drew
    | with_reducible exact Only.keepThen (And.left (by assumption)) (by assumption)
    | with_reducible exact Only.setCell (Only.setCell (Only.setCell (And.left (by assumption)) (by simp) _) (by simp) _) (by simp) _
    | with_reducible exact And.left (by assumption)
    | assumption))
   (first
    | (go_at_call 63;(with_reducible refine (Zaw (.slice a tr.length cap) tr _ _ (Rp.only hv' (And.left (by assumption)) hdt) (by omega)).mono ?_);rintro e x1 ⟨u1,q1,rfl,r1,F1,y1⟩;have hq:=r1.open_;obtain ⟨a1,k1,_,_,rfl,-⟩:=hq)
    | (go_at_call 140;(with_reducible refine (Zhg (.slice B1 L.length D1) L _ _ (Rp.only o1' (And.left (by assumption)) hdL) ml mr).mono ?_);rintro e x2 ⟨u2,q2,rfl,r2,F2,y2⟩;have hq:=r2.open_;obtain ⟨a2,k2,_,_,rfl,-⟩:=hq)
    | (go_at_call 63;(with_reducible refine (Zaw (.slice B2 D.length D2) D _ _ (Rp.only o2' (And.left (by assumption)) hdD) (by omega)).mono ?_);rintro e x3 ⟨u3,q3,rfl,r3,F3,y3⟩;have hq:=r3.open_;obtain ⟨a3,k3,_,_,rfl,-⟩:=hq;have kk:=(((Only.refl [] w3).drew.trans y1).trans y2).trans y3;have Y3:=Y1.keep kk;obtain ⟨g0,g1,g2⟩:=Y3.c3;obtain ⟨p0,p1,p2⟩:=Y3.f3)
    | fail)
  have F23:=(F2.keep y3).append F3 y2.size (fun g hg=>F2.lt g hg)
  have F:=(F1.keep (y2.trans y3)).append F23 y1.size (fun g hg=>F1.lt g hg)
  have hFg:∀ g∈q1 ++ (q2 ++ q3),g ∉ [w.heap.size + 1]:=fun g hg hm=>by have:=F.ge g hg;simp at this hm;omega
  have Yf:=((Y3.set 0 (.slice a1 tr.length k1)).set 1 (.slice a2 L.length k2)).set 2 (.slice a3 D.length k3)
  have kf:Only [w.heap.size + 1] x3 (((x3.setCell ⟨w.heap.size + 1,0,none⟩ (.slice a1 tr.length k1)).setCell ⟨w.heap.size + 1,1,none⟩ (.slice a2 L.length k2)).setCell ⟨w.heap.size + 1,2,none⟩ (.slice a3 D.length k3)):=((zO.setCell (by simp) _).setCell (by simp) _).setCell (by simp) _
  have K4:Only [] w x3:=K3.trans kk
  go_wp2_with fail
  obtain ⟨wf,hwf⟩:∃ wf,wf = (((x3.setCell ⟨w.heap.size + 1,0,none⟩ (.slice a1 tr.length k1)).setCell ⟨w.heap.size + 1,1,none⟩ (.slice a2 L.length k2)).setCell ⟨w.heap.size + 1,2,none⟩ (.slice a3 D.length k3)):=⟨_,rfl⟩
  rw [<- hwf] at Yf kf ⊢
  simp only [List.set] at Yf
  clear hwf g0 g1 g2 p0 p1 p2
  obtain ⟨z0,z1,z2⟩:=Yf.c3
  refine bodyPost_ret (v:=.tuple #[.agg #[.slice a1 tr.length k1,.slice a2 L.length k2,.slice a3 D.length k3],.bool true]) (by simp [results,Tryz.results89,go_sem,z0,z1,z2]) rfl ⟨[.slice a1 tr.length k1,.slice a2 L.length k2,.slice a3 D.length k3],q1 ++ (q2 ++ q3),by rw [Hb.out];rfl,?_,(F.mono (by simp;omega)).only kf hFg,K4.then_ kf (by simp)⟩
  rw [Hb.out,He.out]
  exact ⟨_,_,_,q1,q2,q3,rfl,rfl,Rp.only (zK r1 (y2.trans y3)) kf (fun g hg=>hFg g (by simp [hg])),Rp.only (zK r2 y3) kf (fun g hg=>hFg g (by simp [hg])),Rp.only r3 kf (fun g hg=>hFg g (by simp [hg]))⟩
def Met16.ok (m:Nat) (s:Met16):Prop:=s.1.length = s.2.length/\s.1.length<=3000/\∀ q∈s.1,q.length = m
theorem Zqz {m:Nat} {s s':Met16} {d:Int} {y:List Int} (h:bMeet s d y = some s') (hs:s.ok m) (hy:y.length = m):s'.ok m:=by
 obtain ⟨a,b,-⟩:=Zlx h hs.1 hs.2.1
 refine ⟨a,b,fun q hq=>?_⟩
 unfold bMeet at h
 split at h
 ·injection h with h;subst h;exact hs.2.2 q hq
 ·split at h
  ·cases h
  ·injection h with h;subst h
   rcases List.mem_append.1 hq with hq | hq
   ·exact hs.2.2 q hq
   ·simp at hq;subst hq;exact hy
theorem Zov {x:Puzzle} {m:Nat} {q:List Int} {d:Int} (hq:q.length = m):∀ {ls:List Int} {s s':Met16},bLets x q d ls s = some s'->s.ok m->s'.ok m
 | [],s,s',h,hs=>by unfold bLets at h;injection h with h;subst h;exact hs
 | l :: ls,s,s',h,hs=>by
  unfold bLets at h
  rw [Option.bind_eq_some_iff] at h
  obtain ⟨s1,e1,e2⟩:=h
  exact Zov hq e2 (Zqz e1 hs (by unfold nxt;rw [PM.Zag];exact hq))
theorem Znr {x:Puzzle} {m:Nat}:∀ {n k:Nat} {s s':Met16},bFrom x n k s = some s'->s.ok m->s'.ok m
 | 0,_,s,s',h,hs=>by unfold bFrom at h;injection h with h;subst h;exact hs
 | n + 1,k,s,s',h,hs=>by
  unfold bFrom at h
  split at h
  ·rename_i hk
   rw [Option.bind_eq_some_iff] at h
   obtain ⟨s1,e1,e2⟩:=h
   refine Znr e2 (Zov ?_ e1 hs)
   rw [List.getD_eq_getElem?_getD,List.getElem?_eq_getElem hk]
   exact hs.2.2 _ (List.getElem_mem hk)
  ·injection h with h;subst h;exact hs
theorem Zmi {n:Nat}:∀ {L:List (List Int)},(∀ q∈L,q.length<=n)->cntL L<=L.length * n
 | [],_=>by simp [cntL]
 | a :: L,h=>by
  have h1:=Zmi (L:=L) fun q hq=>h q (by simp [hq])
  have h2:=h a (by simp)
  have h3:Mk.cnt a = a.length:=Zav a
  simp only [cntL,List.length_cons,h3]
  rw [Nat.add_mul]
  omega
theorem Zem {x:Puzzle} {tr:List Int} {t:Table} (h:bTab x tr = some t):validPz x = true/\trackB x.points tr = true/\t.tracked = tr/\bfs16 x tr = some (t.patterns,t.distances)/\Met16.ok tr.length (t.patterns,t.distances):=by
 unfold bTab at h
 rcases hb:bfs16 x tr with _ | s
 ·rw [hb] at h;cases h
 ·rw [hb] at h
  injection h with h
  subst h
  rcases hq:validPz x && trackB x.points tr
  ·rw [Zil hq] at hb;cases hb
  ·obtain ⟨q1,q2⟩:=(Bool.and_eq_true _ _).mp hq
   refine ⟨q1,q2,rfl,rfl,?_⟩
   rw [Zfh hq] at hb
   exact Znr hb ⟨rfl,by simp,by simp⟩
theorem Zre {x:Puzzle} {tr:List Int} {t:Table} (h:bTab x tr = some t):Mk.cnt t<=64000:=by
 obtain ⟨h1,h2,h3,-,h5,h6,h7⟩:=Zem h
 have h8:=(Zaz.1 h2).2.len
 have h9:=(Zad h1).2.1
 have ha:tr.length<=20:=by omega
 have hb:Mk.cnt t.patterns<=t.patterns.length * 20:=Zmi fun q hq=>by rw [h7 q hq];exact ha
 have hc:Mk.cnt t.distances = t.distances.length:=Zav _
 have hd:Mk.cnt t.tracked = tr.length:=by rw [<- h3];exact Zav _
 have he:Mk.cnt t = Mk.cnt t.tracked + (Mk.cnt t.patterns + Mk.cnt t.distances):=by simp only [Mk.cnt];omega
 simp only at h5 h6
 omega
theorem Zrd {l:List (List Int)} {p:List Int} (h:0<=idxL l p):p∈l/\(idxL l p).toNat < l.length:=by
 rcases Zks (fun q=>decide (q = p)) l with h1 | ⟨k,hk,h1,h2⟩
 ·unfold idxL at h;omega
 ·have:l[k] = p:=of_decide_eq_true h2
  unfold idxL
  rw [h1]
  exact ⟨by rw [<- this];exact List.getElem_mem hk,by simpa using hk⟩
theorem Zmj {α:Type} (l:List α) (a z:α):(l ++ [a]).getD l.length z = a:=by
 simp [List.getD_eq_getElem?_getD]
theorem Zau {α:Type} {l:List α} {z:α} {k:Nat} (h:k < l.length):l.getD k z = l[k]:=by
 rw [List.getD_eq_getElem?_getD,List.getElem?_eq_getElem h];rfl
theorem Zim {α:Type} {l:List α} (h:l.Nodup) {i j:Nat} (hi:i < l.length) (hj:j < l.length) (e:l[i] = l[j]):i = j:=by
 rcases Nat.lt_trichotomy i j with h1 | h1 | h1
 ·exact absurd e (List.pairwise_iff_getElem.1 h i j hi hj h1)
 ·exact h1
 ·exact absurd e.symm (List.pairwise_iff_getElem.1 h j i hj hi h1)
theorem Zrn {n:Nat} {l:Int} (h:l∈ltrs n):-l∈ltrs n:=by
 rw [Zbg] at h ⊢;omega
theorem mv_opp {n:Nat} {gens:List (List Int)} (hg:∀ g∈gens,PM.PN n g) {l:Int} (h:l∈ltrs gens.length):mv gens (-l) = PM.inv (mv gens l):=by
 rcases Zdl h with ⟨k,hk,rfl⟩ | ⟨k,hk,rfl⟩
 ·rw [mv_pos rfl hk,mv_neg (k:=k) rfl hk]
 ·rw [mv_neg rfl hk,mv_pos (k:=k) (by omega) hk,PM.inv_inv (hg _ (List.getElem_mem hk))]
theorem Zrx {x:Puzzle} {k:Nat} {q:List Int} {l:Int} (hv:validPz x = true) (hq:patB x.points k q = true) (h:l∈ltrs x.moves.length):nxt x (nxt x q l) (-l) = q:=by
 have hg:=Zdh hv
 have hm:=mv_pn hg h
 have hf:=Zad hv
 have hr:=(Zat.1 hq).2.1
 unfold nxt
 rw [mv_opp hg h]
 show (q.map (PM.at_ (mv x.moves l))).map (PM.at_ (PM.inv (mv x.moves l))) = q
 rw [List.map_map]
 refine (List.map_congr_left fun z hz=>?_).trans (List.map_id q)
 have:=hr z hz
 exact PM.at_inv hm this.1 (by omega)
structure BI (x:Puzzle) (tr:List Int) (k:Nat) (done:List Int) (s:Met16):Prop where
 nd:s.1.Nodup
 dl:s.2.length = s.1.length
 p0:s.1.getD 0 [] = tr
 d0:s.2.getD 0 0 = 0
 ne:0 < s.1.length
 mono:∀ i j,i<=j->j < s.1.length->s.2.getD i 0<=s.2.getD j 0
 top:k < s.1.length->∀ i,i < s.1.length->s.2.getD i 0<=s.2.getD k 0 + 1
 par:∀ i,0 < i->i < s.1.length->∃ j l,j < i/\l∈ltrs x.moves.length/\nxt x (s.1.getD j []) l = s.1.getD i []/\s.2.getD i 0 = s.2.getD j 0 + 1
 clo:∀ j l,l∈ltrs x.moves.length->(j < k\/(j = k/\l∈done))->j < s.1.length->∃ i,i < s.1.length/\s.1.getD i [] = nxt x (s.1.getD j []) l/\s.2.getD i 0<=s.2.getD j 0 + 1
 kl:k<=s.1.length
 pat:∀ q∈s.1,patB x.points tr.length q = true
section
variable {x:Puzzle} {tr:List Int} {k:Nat} {done:List Int} {s s':Met16}
theorem BI.start (hp:patB x.points tr.length tr = true):BI x tr 0 [] ([tr],[0]):=by
 refine ⟨by simp,rfl,rfl,rfl,by simp,fun i j h1 h2=>?_,fun _ i hi=>?_,fun i h1 h2=>?_,fun j l h1 h2=>?_,by simp,by simpa using hp⟩
 ·have:j = 0:=by simpa using h2
  subst this
  have:i = 0:=by omega
  subst this;exact Int.le_refl _
 ·have:i = 0:=by simpa using hi
  subst this;simp
 ·have:i = 0:=by simpa using h2
  omega
 ·rcases h2 with h2 | ⟨-,h2⟩
  ·omega
  ·cases h2
theorem BI.meet (h:BI x tr k done s) (hv:validPz x = true) (hk:k < s.1.length) {l:Int} (hl:l∈ltrs x.moves.length) (hm:bMeet s (s.2.getD k 0 + 1) (nxt x (s.1.getD k []) l) = some s') :
  BI x tr k (l :: done) s'/\s'.1.getD k [] = s.1.getD k []/\s'.2.getD k 0 = s.2.getD k 0/\k < s'.1.length:=by
 have hkm:s.1.getD k []∈s.1:=by rw [Zau hk];exact List.getElem_mem hk
 have hpn:=nxt_pat hv (h.pat _ hkm) hl
 unfold bMeet at hm
 split at hm
 ·rename_i hmem
  injection hm with hm
  subst hm
  refine ⟨⟨h.nd,h.dl,h.p0,h.d0,h.ne,h.mono,h.top,h.par,fun j l' h1 h2 h3=>?_,h.kl,h.pat⟩,rfl,rfl,hk⟩
  rcases h2 with h2 | ⟨rfl,h2⟩
  ·exact h.clo j l' h1 (.inl h2) h3
  ·rcases List.mem_cons.1 h2 with rfl | h2
   ·obtain ⟨i,hi,e⟩:=List.getElem_of_mem hmem
    exact ⟨i,hi,by rw [Zau hi,e],h.top hk i hi⟩
   ·exact h.clo j l' h1 (.inr ⟨rfl,h2⟩) h3
 ·rename_i hmem
  split at hm
  ·cases hm
  ·injection hm with hm
   have hkd:k < s.2.length:=by rw [h.dl];exact hk
   have hle:∀ i,i < s.1.length->s.2.getD i 0<=s.2.getD k 0 + 1:=h.top hk
   have g1:∀ i,i < s.1.length->(s.1 ++ [nxt x (s.1.getD k []) l]).getD i [] = s.1.getD i []:=fun i hi=>Zde hi
   have g2:∀ i,i < s.1.length->(s.2 ++ [s.2.getD k 0 + 1]).getD i 0 = s.2.getD i 0:=fun i hi=>Zde (by rw [h.dl];exact hi)
   have e1:(s.1 ++ [nxt x (s.1.getD k []) l]).getD s.1.length [] = nxt x (s.1.getD k []) l:=Zmj _ _ _
   have e2:(s.2 ++ [s.2.getD k 0 + 1]).getD s.1.length 0 = s.2.getD k 0 + 1:=by rw [<- h.dl];exact Zmj _ _ _
   subst hm
   refine ⟨⟨?_,by simp [h.dl],by rw [g1 0 h.ne];exact h.p0,by rw [g2 0 h.ne];exact h.d0,by simp,fun i j h1 h2=>?_,fun _ i hi=>?_,fun i h1 h2=>?_,fun j l' h1 h2 h3=>?_,by simp;omega,fun q hq=>?_⟩,g1 k hk,g2 k hk,by simp;omega⟩
   ·rw [List.nodup_append]
    exact ⟨h.nd,by simp,fun a ha b hb e=>hmem (by rw [<- List.mem_singleton.1 hb,<- e];exact ha)⟩
   ·simp only [List.length_append,List.length_singleton] at h2
    by_cases hj:j < s.1.length
    ·show (s.2 ++ _).getD i 0<=(s.2 ++ _).getD j 0
     rw [g2 i (by omega),g2 j hj];exact h.mono i j h1 hj
    ·obtain rfl:j = s.1.length:=by omega
     show (s.2 ++ _).getD i 0<=(s.2 ++ _).getD _ 0
     rw [e2]
     by_cases hi:i < s.1.length
     ·rw [g2 i hi];exact hle i hi
     ·obtain rfl:i = s.1.length:=by omega
      rw [e2];exact Int.le_refl _
   ·simp only [List.length_append,List.length_singleton] at hi
    show (s.2 ++ _).getD i 0<=(s.2 ++ _).getD k 0 + 1
    rw [g2 k hk]
    by_cases hi2:i < s.1.length
    ·rw [g2 i hi2];exact hle i hi2
    ·obtain rfl:i = s.1.length:=by omega
     rw [e2];exact Int.le_refl _
   ·simp only [List.length_append,List.length_singleton] at h2
    by_cases hi:i < s.1.length
    ·obtain ⟨j,l',a1,a2,a3,a4⟩:=h.par i h1 hi
     refine ⟨j,l',a1,a2,?_,?_⟩
     ·show nxt x ((s.1 ++ _).getD j []) l' = (s.1 ++ _).getD i []
      rw [g1 j (by omega),g1 i hi];exact a3
     ·show (s.2 ++ _).getD i 0 = (s.2 ++ _).getD j 0 + 1
      rw [g2 j (by omega),g2 i hi];exact a4
    ·obtain rfl:i = s.1.length:=by omega
     refine ⟨k,l,hk,hl,?_,?_⟩
     ·show nxt x ((s.1 ++ _).getD k []) l = (s.1 ++ _).getD _ []
      rw [g1 k hk,e1]
     ·show (s.2 ++ _).getD _ 0 = (s.2 ++ _).getD k 0 + 1
      rw [g2 k hk,e2]
   ·simp only [List.length_append,List.length_singleton] at h3
    have hj:j < s.1.length:=by rcases h2 with h2 | ⟨rfl,-⟩ <;> omega
    have hold:(j < k\/(j = k/\l'∈done))->∃ i,i < (s.1 ++ [nxt x (s.1.getD k []) l]).length/\(s.1 ++ [nxt x (s.1.getD k []) l]).getD i [] = nxt x ((s.1 ++ [nxt x (s.1.getD k []) l]).getD j []) l'/\(s.2 ++ [s.2.getD k 0 + 1]).getD i 0<=(s.2 ++ [s.2.getD k 0 + 1]).getD j 0 + 1:=fun h4=>by
     obtain ⟨i,b1,b2,b3⟩:=h.clo j l' h1 h4 hj
     exact ⟨i,by simp;omega,by rw [g1 i b1,g1 j hj];exact b2,by rw [g2 i b1,g2 j hj];exact b3⟩
    rcases h2 with h2 | ⟨rfl,h2⟩
    ·exact hold (.inl h2)
    ·rcases List.mem_cons.1 h2 with rfl | h2
     ·exact ⟨s.1.length,by simp,by show (s.1 ++ _).getD _ [] = nxt x ((s.1 ++ _).getD j []) l';rw [e1,g1 j hk],by show (s.2 ++ _).getD _ 0<=(s.2 ++ _).getD j 0 + 1;rw [e2,g2 j hk];exact Int.le_refl _⟩
     ·exact hold (.inr ⟨rfl,h2⟩)
   ·rcases List.mem_append.1 hq with hq | hq
    ·exact h.pat q hq
    ·simp at hq;subst hq;exact hpn
theorem BI.lets (hv:validPz x = true):∀ {ls done:List Int} {s s':Met16},BI x tr k done s->k < s.1.length->(∀ l∈ls,l∈ltrs x.moves.length)->bLets x (s.1.getD k []) (s.2.getD k 0 + 1) ls s = some s' ->
  ∃ done',BI x tr k done' s'/\k < s'.1.length/\(∀ l∈ls,l∈done')/\∀ l∈done,l∈done'
 | [],done,s,s',h,hk,_,he=>by
  unfold bLets at he;injection he with he;subst he
  exact ⟨done,h,hk,by simp,fun _ h=>h⟩
 | l :: ls,done,s,s',h,hk,hl,he=>by
  unfold bLets at he
  rw [Option.bind_eq_some_iff] at he
  obtain ⟨s1,e1,e2⟩:=he
  obtain ⟨b1,b2,b3,b4⟩:=h.meet hv hk (hl l (by simp)) e1
  rw [<- b2,<- b3] at e2
  obtain ⟨done',c1,c2,c3,c4⟩:=BI.lets hv b1 b4 (fun l hl2=>hl l (by simp [hl2])) e2
  refine ⟨done',c1,c2,fun l' hl'=>?_,fun l' hl'=>c4 l' (by simp [hl'])⟩
  rcases List.mem_cons.1 hl' with rfl | hl'
  ·exact c4 _ (by simp)
  ·exact c3 l' hl'
theorem BI.next (h:BI x tr k done s) (hk:k < s.1.length) (ha:∀ l∈ltrs x.moves.length,l∈done):BI x tr (k + 1) [] s:=by
 refine ⟨h.nd,h.dl,h.p0,h.d0,h.ne,h.mono,fun h1 i hi=>?_,h.par,fun j l h1 h2 h3=>?_,hk,h.pat⟩
 ·have h2:=h.top hk i hi
  have h3:=h.mono k (k + 1) (by omega) h1
  omega
 ·rcases h2 with h2 | ⟨-,h2⟩
  ·by_cases hj:j < k
   ·exact h.clo j l h1 (.inl hj) h3
   ·obtain rfl:j = k:=by omega
    exact h.clo j l h1 (.inr ⟨rfl,ha l h1⟩) h3
  ·cases h2
theorem BI.from_ (hv:validPz x = true):∀ {n k:Nat} {s s':Met16},bFrom x n k s = some s'->BI x tr k [] s->s.1.length<=3000->3001<=n + k->BI x tr s'.1.length [] s'
 | 0,k,s,s',he,h,h1,h2=>by have:=h.kl;omega
 | n + 1,k,s,s',he,h,h1,h2=>by
  unfold bFrom at he
  split at he
  ·rename_i hk
   rw [Option.bind_eq_some_iff] at he
   obtain ⟨s1,e1,e2⟩:=he
   obtain ⟨done',c1,c2,c3,-⟩:=h.lets hv hk (fun l hl=>hl) e1
   have hlen:=Zmf e1 h.dl.symm h1
   exact BI.from_ hv e2 (c1.next c2 c3) hlen.2.1 (by omega)
  ·injection he with he;subst he
   have:k = s.1.length:=by have:=h.kl;omega
   subst this;exact h
end
structure Built (x:Puzzle) (t:Table):Prop where
 v:validPz x = true
 tk:trackB x.points t.tracked = true
 bi:BI x t.tracked t.patterns.length [] (t.patterns,t.distances)
 ll:t.patterns.length<=3000
theorem Zpt {x:Puzzle} {tr:List Int} {t:Table} (h:bTab x tr = some t):Built x t/\t.tracked = tr:=by
 obtain ⟨h1,h2,h3,h4,h5,h6,h7⟩:=Zem h
 subst h3
 refine ⟨⟨h1,h2,?_,h6⟩,rfl⟩
 rw [Zfh (by rw [h1,h2];rfl)] at h4
 exact BI.from_ h1 h4 (BI.start (Zgk h2)) (by simp) (by omega)
section
variable {x:Puzzle} {t:Table}
theorem Built.dep (h:Built x t):∀ i:Nat,i < t.patterns.length->0<=t.distances.getD i 0/\t.distances.getD i 0<=i/\(0 < i->0 < t.distances.getD i 0):=by
 intro i
 induction i using Nat.strongRecOn with
 | ind i ih=>
  intro hi
  by_cases h0:i = 0
  ·subst h0
   have:t.distances.getD 0 0 = 0:=h.bi.d0
   omega
  ·obtain ⟨j,l,a1,a2,a3,a4⟩:=h.bi.par i (by omega) hi
   have h1:=ih j a1 (Nat.lt_trans a1 hi)
   simp only at a4
   omega
theorem Built.step (h:Built x t) {j:Nat} (hj:j < t.patterns.length) {l:Int} (hl:l∈ltrs x.moves.length) :
  ∃ i:Nat,i < t.patterns.length/\t.patterns.getD i [] = nxt x (t.patterns.getD j []) l/\t.distances.getD i 0<=t.distances.getD j 0 + 1/\t.distances.getD j 0<=t.distances.getD i 0 + 1:=by
 obtain ⟨i,b1,b2,b3⟩:=h.bi.clo j l hl (.inl hj) hj
 obtain ⟨j',c1,c2,c3⟩:=h.bi.clo i (-l) (Zrn hl) (.inl b1) b1
 simp only at b1 b2 b3 c1 c2 c3
 rw [b2,Zrx h.v (h.bi.pat _ (by rw [Zau hj];exact List.getElem_mem hj)) hl] at c2
 have:j' = j:=by
  rw [Zau c1,Zau hj] at c2
  have hnd:t.patterns.Nodup:=h.bi.nd
  exact Zim hnd c1 hj c2
 subst this
 exact ⟨i,b1,b2,b3,c3⟩
theorem Built.idx (h:Built x t) {i:Nat} (hi:i < t.patterns.length):idxL t.patterns (t.patterns.getD i []) = i:=by
 refine Zec (j:=i) hi (fun q hq=>?_) ?_
 ·rw [List.mem_take_iff_getElem] at hq
  obtain ⟨k,hk,rfl⟩:=hq
  refine decide_eq_false fun e=>?_
  rw [Zau hi] at e
  have hnd:t.patterns.Nodup:=h.bi.nd
  have:=Zim hnd (by omega) hi e
  omega
 ·exact decide_eq_true (Zau hi).symm
end
noncomputable def validT (x:Puzzle) (t:Table):Bool:=(bTab x t.tracked).isSome && eqV ((bTab x t.tracked).getD noTab) t
noncomputable def tabSet (x:Puzzle) (ts:List Table):Bool:=validPz x && (decide (ts.length<=4) && ts.all (validT x))
def lookT (t:Table) (s:List Int):Int:=t.distances.getD (idxL t.patterns (PM.comp t.tracked s)).toNat 0
def lbs (ts:List Table) (s:List Int):List Int:=ts.map fun t=>lookT t s
def lbMax (ts:List Table) (s:List Int):Int:=(lbs ts s).foldl max 0
noncomputable def lb (x:Puzzle) (ts:List Table) (s:List Int):Int:=if (tabSet x ts && reachB x s) = true then lbMax ts s else -1
theorem Zcl {x:Puzzle} {t:Table} (h:validT x t = true):Built x t:=by
 unfold validT at h
 rw [Bool.and_eq_true] at h
 obtain ⟨u,hu⟩:=Option.isSome_iff_exists.1 h.1
 have h2:=h.2
 rw [hu] at h2
 have e:u = t:=eqV_iff.1 h2
 subst e
 exact (Zpt hu).1
theorem Zct {x:Puzzle} {ts:List Table}:tabSet x ts = true ↔ validPz x = true/\ts.length<=4/\∀ t∈ts,validT x t = true:=by
 unfold tabSet
 rw [Bool.and_eq_true,Bool.and_eq_true,decide_eq_true_iff,List.all_eq_true]
theorem Built.reach {x:Puzzle} {t:Table} (h:Built x t) {s:List Int} (hs:reachB x s = true):PM.comp t.tracked s∈t.patterns:=by
 have hg:=Zdh h.v
 have hf:=Zad h.v
 have htr:=Zaz.1 h.tk
 have hG:PM.Grp x.points.toNat x.moves s:=by
  unfold reachB memB at hs
  rw [Bool.and_eq_true] at hs
  exact @of_decide_eq_true _ (Classical.propDecidable _) hs.2
 have hr:∀ z∈t.tracked,0<=z/\z < x.points.toNat:=fun z hz=>by have:=htr.2.1 z hz;omega
 have h0:t.patterns.getD 0 [] = t.tracked:=h.bi.p0
 have hne:0 < t.patterns.length:=h.bi.ne
 have:=PM.grp_sub (n:=x.points.toNat) (G:=x.moves) hg (S:=fun p=>PM.PN x.points.toNat p/\PM.comp t.tracked p∈t.patterns) (fun p hp=>hp.1) ⟨PM.PN.id _,?_⟩ ?_ hG
 ·exact this.2
 ·have e:PM.comp t.tracked (PM.pts x.points.toNat) = t.tracked:=by
   unfold PM.comp
   refine (List.map_congr_left fun z hz=>?_).trans (List.map_id _)
   exact PM.at_pts (hr z hz).1 (hr z hz).2
  rw [e,<- h0,Zau hne]
  exact List.getElem_mem hne
 ·rintro p g ⟨hp,hm⟩ hgm
  refine ⟨hp.comp (hg g hgm),?_⟩
  obtain ⟨k,hk,rfl⟩:=List.getElem_of_mem hgm
  obtain ⟨j,hj,e⟩:=List.getElem_of_mem hm
  have hl:((k:Int) + 1)∈ltrs x.moves.length:=Zbg.2 ⟨by omega,by omega,by omega⟩
  obtain ⟨i,hi,e2,-⟩:=h.step hj hl
  have e3:PM.comp t.tracked (PM.comp p x.moves[k]) = nxt x (PM.comp t.tracked p) ((k:Int) + 1):=by
   unfold nxt
   rw [mv_pos rfl hk]
   unfold PM.comp
   rw [List.map_map]
   refine List.map_congr_left fun z hz=>?_
   have:=hr z hz
   exact PM.at_comp this.1 (by rw [hp.1];omega)
  rw [e3,<- e,<- Zau (z:=[]) hj,<- e2,Zau hi]
  exact List.getElem_mem hi
theorem Zfx {x:Puzzle} {t:Table} (h:validT x t = true) {s:List Int} (hs:reachB x s = true):∃ i:Nat,i < t.patterns.length/\i < t.distances.length/\idxL t.patterns (PM.comp t.tracked s) = i/\t.patterns.getD i [] = PM.comp t.tracked s/\lookT t s = t.distances.getD i 0:=by
 have hb:=Zcl h
 obtain ⟨i,hi,e⟩:=List.getElem_of_mem (hb.reach hs)
 have hx:=hb.idx hi
 have hdl:=hb.bi.dl
 simp only at hdl
 rw [Zau hi,e] at hx
 refine ⟨i,hi,by omega,hx,by rw [Zau hi,e],?_⟩
 unfold lookT
 rw [hx,Int.toNat_natCast]
theorem Zch {x:Puzzle} {t:Table} (h:validT x t = true) {s:List Int} (hs:reachB x s = true):0<=lookT t s/\lookT t s<=3000:=by
 obtain ⟨i,hi,-,-,-,e⟩:=Zfx h hs
 have hb:=Zcl h
 have:=hb.dep i hi
 have:=hb.ll
 rw [e];omega
theorem Zbt {l:List Int} {m a:Int} (h:∀ y∈l,0<=y/\y<=m) (ha:0<=a/\a<=m):0<=l.foldl max a/\l.foldl max a<=m:=by
 induction l generalizing a with
 | nil=>exact ha
 | cons y l ih=>
  have:=h y (by simp)
  exact ih (fun z hz=>h z (by simp [hz])) (by omega)
theorem Zhe {x:Puzzle} {ts:List Table} {s:List Int} (h:(tabSet x ts && reachB x s) = true):0<=lbMax ts s:=by
 rw [Bool.and_eq_true,Zct] at h
 have:=Zbt (l:=lbs ts s) (m:=3000) (a:=0) (fun y hy=>by
  obtain ⟨t,ht,rfl⟩:=List.mem_map.1 hy
  exact Zch (h.1.2.2 t ht) h.2) (by omega)
 unfold lbMax;omega
abbrev Out:=Option (Option (List Int))
def lastL (w:List Int):Int:=w.getD (w.length - 1) 0
theorem Zfb {w:List Int} (h:w.length = 0):lastL w = 0:=by
 have:w = []:=List.eq_nil_of_length_eq_zero h
 subst this;rfl
theorem Zfq {w:List Int} {k:Nat} (h:k + 1 = w.length):lastL w = w[k]:=by
 unfold lastL
 rw [show w.length - 1 = k by omega,List.getD_eq_getElem?_getD,List.getElem?_eq_getElem (by omega)];rfl
def visG (x:Puzzle) (ts:List Table) (D:Nat) (s w:List Int) (more:Nat->Nat × Out) (c:Nat):Nat × Out:=
 if c = 20000 then (c,some none)
 else if (D:Int) < (w.length:Int) + lbMax ts s then (c + 1,none)
 else if w.length = D then (c + 1,if s = PM.pts x.points.toNat then some (some w) else none)
 else more (c + 1)
def visL (x:Puzzle) (rec:List Int->List Int->Nat->Nat × Out) (s w:List Int):List Int->Nat->Nat × Out
 | [],c=>(c,none)
 | l :: ls,c=>if l = -(lastL w) then visL x rec s w ls c else
  match (rec (nxt x s l) (w ++ [l]) c).2 with
  | none=>visL x rec s w ls (rec (nxt x s l) (w ++ [l]) c).1
  | some o=>((rec (nxt x s l) (w ++ [l]) c).1,some o)
def vis (x:Puzzle) (ts:List Table) (D:Nat):Nat->List Int->List Int->Nat->Nat × Out
 | 0,s,w,c=>visG x ts D s w (fun c=>(c,none)) c
 | f + 1,s,w,c=>visG x ts D s w (visL x (vis x ts D f) s w (ltrs x.moves.length)) c
theorem Zhd {x:Puzzle} {rec:List Int->List Int->Nat->Nat × Out} {s w:List Int} {l:Int} {ls:List Int} {c:Nat} (h:l = -(lastL w)):visL x rec s w (l :: ls) c = visL x rec s w ls c:=by
 rw [visL,if_pos h]
theorem visL_go {x:Puzzle} {rec:List Int->List Int->Nat->Nat × Out} {s w:List Int} {l:Int} {ls:List Int} {c c':Nat} (h:l ≠ -(lastL w)) (hr:rec (nxt x s l) (w ++ [l]) c = (c',none)):visL x rec s w (l :: ls) c = visL x rec s w ls c':=by
 rw [visL,if_neg h,hr]
theorem Zdz {x:Puzzle} {rec:List Int->List Int->Nat->Nat × Out} {s w:List Int} {l:Int} {ls:List Int} {c c':Nat} {o:Option (List Int)} (h:l ≠ -(lastL w)) (hr:rec (nxt x s l) (w ++ [l]) c = (c',some o)):visL x rec s w (l :: ls) c = (c',some o):=by
 rw [visL,if_neg h,hr]
theorem Zfy {x:Puzzle} {rec:List Int->List Int->Nat->Nat × Out} {s w:List Int}:∀ (ls:List Int) (c:Nat),visL x rec s w (ls.filter fun l=>decide (l ≠ -(lastL w))) c = visL x rec s w ls c
 | [],_=>rfl
 | l :: ls,c=>by
  by_cases h:l = -(lastL w)
  ·rw [Zhd h,List.filter_cons_of_neg (by simpa using h)]
   exact Zfy ls c
  ·rw [List.filter_cons_of_pos (by simpa using h)]
   rcases hr:rec (nxt x s l) (w ++ [l]) c with ⟨c',o⟩
   cases o with
   | none=>rw [visL_go h hr,visL_go h hr];exact Zfy ls c'
   | some o=>rw [Zdz h hr,Zdz h hr]
theorem Zog {x:Puzzle} {ts:List Table} {D:Nat} {s w:List Int} {more:Nat->Nat × Out} {c:Nat} (hc:c<=20000) (hm:∀ c,c<=20000->(more c).1<=20000):(visG x ts D s w more c).1<=20000:=by
 unfold visG
 split
 ·exact hc
 split
 ·simp only;omega
 split
 ·simp only;omega
 exact hm _ (by omega)
theorem Ziu {x:Puzzle} {rec:List Int->List Int->Nat->Nat × Out} {s w:List Int} (hr:∀ s w c,c<=20000->(rec s w c).1<=20000):∀ (ls:List Int) (c:Nat),c<=20000->(visL x rec s w ls c).1<=20000
 | [],_,h=>h
 | l :: ls,c,h=>by
  by_cases hl:l = -(lastL w)
  ·rw [Zhd hl];exact Ziu hr ls c h
  ·have h2:=hr (nxt x s l) (w ++ [l]) c h
   rcases hq:rec (nxt x s l) (w ++ [l]) c with ⟨c',o⟩
   rw [hq] at h2
   cases o with
   | none=>rw [visL_go hl hq];exact Ziu hr ls c' h2
   | some o=>rw [Zdz hl hq];exact h2
theorem vis_rng {x:Puzzle} {ts:List Table} {D:Nat}:∀ (f:Nat) (s w:List Int) (c:Nat),c<=20000->(vis x ts D f s w c).1<=20000
 | 0,_,_,_,h=>Zog h fun _ h=>h
 | f + 1,s,w,_,h=>Zog h fun c h=>Ziu (fun s w c h=>vis_rng f s w c h) _ c h
def deepN (x:Puzzle) (ts:List Table) (s:List Int):Nat->Nat->Out
 | 0,_=>none
 | k + 1,d=>match (vis x ts d d s [] 0).2 with
  | none=>deepN x ts s k (d + 1)
  | some o=>some o
theorem Zro {x:Puzzle} {ts:List Table} {s:List Int} {k d:Nat} (h:(vis x ts d d s [] 0).2 = none):deepN x ts s (k + 1) d = deepN x ts s k (d + 1):=by rw [deepN,h]
theorem Zpq {x:Puzzle} {ts:List Table} {s:List Int} {k d:Nat} {o:Option (List Int)} (h:(vis x ts d d s [] 0).2 = some o):deepN x ts s (k + 1) d = some o:=by rw [deepN,h]
noncomputable def ida (x:Puzzle) (ts:List Table) (s:List Int) (m:Int):Option (List Int):=
 if (tabSet x ts && reachB x s && inR m 0 30) = true then (deepN x ts s (m + 1 - lbMax ts s).toNat (lbMax ts s).toNat).join else none
theorem Zme {x:Puzzle} {s:List Int} (hs:reachB x s = true) {l:Int} (hl:l∈ltrs x.moves.length):reachB x (nxt x s l) = true:=by
 have hst:=Zck hs
 obtain ⟨h1,h2,h3,h4⟩:=Zcb hst
 have hG:PM.Grp x.points.toNat x.moves s:=by
  unfold reachB memB at hs
  rw [Bool.and_eq_true] at hs
  exact @of_decide_eq_true _ (Classical.propDecidable _) hs.2
 have hgm:PM.Grp x.points.toNat x.moves (mv x.moves l):=by
  obtain ⟨l0,l1,l2⟩:=Zbg.1 hl
  by_cases hp:0 < l
  ·obtain ⟨k,hk⟩:∃ k:Nat,l = (k:Int) + 1:=⟨(l - 1).toNat,by omega⟩
   have hkl:k < x.moves.length:=by omega
   rw [mv_pos hk hkl]
   exact PM.Grp.gen h3 (List.getElem_mem hkl)
  ·obtain ⟨k,hk⟩:∃ k:Nat,l = -((k:Int) + 1):=⟨(-l - 1).toNat,by omega⟩
   have hkl:k < x.moves.length:=by omega
   rw [mv_neg hk hkl]
   exact PM.Grp.gen_inv h3 (List.getElem_mem hkl)
 have hn:PM.Grp x.points.toNat x.moves (nxt x s l):=PM.Grp.comp h3 hG hgm
 have hpn:PM.PN x.points.toNat (nxt x s l):=h4.comp (PM.Grp.pn h3 hgm)
 unfold reachB
 rw [Bool.and_eq_true]
 refine ⟨?_,?_⟩
 ·unfold stateB at hst ⊢
  rw [Bool.and_eq_true] at hst ⊢
  exact ⟨hst.1,(Zoj (by omega) (by omega)).2 hpn⟩
 ·unfold memB
  exact @decide_eq_true _ (Classical.propDecidable _) hn
open Go.Maps (Keyed)
def kB (l:List Int):ByteArray:=strOfNums (l.map fun x=>x % 256)
theorem kB_size (l:List Int):(kB l).size = l.length:=by unfold kB;rw [strOfNums_size,List.length_map]
theorem kB_inj:∀ {l l':List Int},(∀ x∈l,0<=x/\x < 256)->(∀ x∈l',0<=x/\x < 256)->kB l = kB l'->l = l':=by
 intro l l' h h' he
 have hd:(kB l).data.toList = (kB l').data.toList:=by rw [he]
 unfold kB at hd
 rw [strOfNums_data,strOfNums_data,List.map_map,List.map_map] at hd
 clear he
 induction l generalizing l' with
 | nil=>cases l' with
  | nil=>rfl
  | cons y l'=>simp at hd
 | cons x l ih=>cases l' with
  | nil=>simp at hd
  | cons y l'=>
   simp only [List.map_cons,List.cons.injEq] at hd
   have hx:=h x (by simp);have hy:=h' y (by simp)
   have e1:x % 256 = x:=Int.emod_eq_of_lt hx.1 hx.2
   have e2:y % 256 = y:=Int.emod_eq_of_lt hy.1 hy.2
   have h1:=hd.1
   simp only [Function.comp,e1,e2] at h1
   have h2:=congrArg UInt8.toNat h1
   rw [UInt8.toNat_ofNat',UInt8.toNat_ofNat'] at h2
   have:x = y:=by omega
   subst this
   rw [ih (fun z hz=>h z (by simp [hz])) (fun z hz=>h' z (by simp [hz])) hd.2]
theorem kB_eq {l l':List Int} (h:∀ x∈l,0<=x/\x < 256) (h':∀ x∈l',0<=x/\x < 256):kB l = kB l' ↔ l = l':=⟨kB_inj h h',fun e=>by rw [e]⟩
theorem Tryz.lawStr:Keyed Tryz.prog 9:=Go.Maps.string_keyed Tryz.underlying9
section
variable {w:World} {M k:Nat} {g:ByteArray->Option Int}
end
theorem Tryz.infoByte:(Tryz.prog.info? 5).map (fun i=>(i.zero,i.size,i.bytes)) = some (some (.int .u8 0),1,1):=by kernel_rfl
theorem madeBytes (n:Nat):(madeCells (Value.cells (.int .u8 0)) n).toList = List.replicate n (.int .u8 0):=by
 apply List.ext_getElem (by simp [madeCells])
 intro i h1 h2
 simp [madeCells,Value.cells,Nat.mod_one]
theorem Zpp (l:List Int) (j:Nat) (hj:j < l.length):((l.take j).map (fun x=>Value.int .u8 (x % 256)) ++ List.replicate (l.length - j) (Value.int .u8 0)).set j (.int .u8 (l[j] % 256)) = (l.take (j + 1)).map (fun x=>Value.int .u8 (x % 256)) ++ List.replicate (l.length - (j + 1)) (.int .u8 0):=by
 have hl:((l.take j).map (fun x=>Value.int .u8 (x % 256))).length = j:=by rw [List.length_map,List.length_take];omega
 rw [show l.length - j = (l.length - (j + 1)) + 1 by omega,List.replicate_succ,List.set_append_right _ _ (by omega),hl,Nat.sub_self,Zab l j hj]
 simp only [List.map_append,List.map_cons,List.map_nil,List.append_assoc,List.cons_append,List.nil_append,List.set_cons_zero]
set_option maxHeartbeats 1000000 in
theorem Zby (v:Value) (l:List Int) (fp:List Nat) (w:World) (h:Rd w v l fp) (hl:l.length<=1000) :
  Calls Tryz.prog 160 #[v] w fun e w'=>e = .returned (.string (kB l))/\Only [] w w':=by
 obtain ⟨a,cap,rfl,hI⟩:=h.ints
 obtain ⟨i0,hi,hz0,hz1,hz2⟩:=info_parts Tryz.infoByte
 go_enter Tryz.func160,Tryz.ntmps160
 go_wp2_with (at_make;refine wpList_make_full _ rfl _ _ 190 rfl w.heap.size 5 i0 _ 1 Tryz.underlying190 hi hz0 hz1 _ _ _ _ l.length rfl rfl rfl rfl (by rw [hz2];omega) (by unfold maxLen;omega) (Nat.le_refl _) ?_;intro w1 hown hg)
 rw [madeBytes,Nat.mul_one] at hown
 go_loopw [11] (fun i wr=>∃ j:Nat,j<=l.length/\i = .int .i64 j /\
   wr.ownsRow w.heap.size 5 1 (.slice (some ⟨w.heap.size,0,none⟩) l.length l.length) l.length ((l.take j).map (fun x=>Value.int .u8 (x % 256)) ++ List.replicate (l.length - j) (.int .u8 0))/\Only [] w wr)
  (fun i _=>l.length - (intOf i).toNat)
 case atStart=>exact ⟨0,Nat.zero_le _,rfl,by simpa using hown,zO.grown hg (by simp)⟩
 case round=>
  obtain ⟨j,hj,rfl,hO,hK⟩:=hrel
  by_cases hlt:j < l.length
  ·obtain ⟨b,off,rfl,-,hc0⟩:=hI.at_ j hlt
   have hc:=hK.cell (by simp) hc0
   have hO2:=(hO.stored j (.int .u8 (l[j] % 256))).1
   rw [Zpp l j hlt] at hO2
   obtain ⟨z2,hc2⟩:∃ z,wr.cell? ⟨w.heap.size,j,none⟩ = some z:=by
    rw [hO.cellAt j (by omega)]
    exact ⟨_,List.getElem?_eq_getElem (by simp;omega)⟩
   have hf2:=hO.frozenAt j
   have hK2:=hK.setCell (p:=⟨w.heap.size,j,none⟩) (by simp) (.int .u8 (l[j] % 256))
   have HO:=zH hO2
   clear hO hO2 hown hc0
   go_wp2
   go_roundw
   case rel=>exact ⟨j + 1,by omega,by go_num,HO.out,hK2⟩
   case measure=>simp [intOf];omega
  ·have hjl:j = l.length:=by omega
   rw [hjl] at hO
   simp only [Nat.sub_self,List.replicate_zero,List.append_nil,List.take_length] at hO
   have hcv:=run_convert_bytes_arg (P:=Tryz.prog) wr 190 5 Tryz.underlying190 Tryz.underlying5 w.heap.size 0 l.length l.length (l.map fun x=>x % 256) (by simp) (fun i hi=>by
    rw [Nat.zero_add,hO.cellAt i (by omega)]
    simp [hi]) 9 Tryz.underlying9
   have hKB:strOfNums (l.map fun x=>x % 256) = kB l:=rfl
   rw [hKB] at hcv
   clear hjl hO hown hKB
   go_wp2
   go_ret
   exact ⟨rfl,hK⟩
open Go.Maps (Keyed)
theorem Tryz.zeroBool (w:World):(zeroValue 4).run Tryz.prog w = .ok (.bool false) w:=by kernel_rfl
theorem Zhj {P:Program} {e:TypeId} {H:Type} (he:P.underlying e = some .bool) {v:Value} {z:DataW H × List MemPlace} (h:plainElem P e v = some z):∃ a,v = .bool a/\z = (.lit (.bool a),[]):=by
 unfold plainElem at h
 rw [he] at h
 cases v <;> simp at h
 obtain rfl:=h
 exact ⟨_,rfl,rfl⟩
def MpB (w:World) (M k:Nat) (g:ByteArray->Bool):Prop:=
 ∃ D:DataW Unit,w.ownsMap Tryz.prog 9 (plainElem Tryz.prog 4) M k D/\∀ s:ByteArray,s.size<=maxLen ->
  D.atKey (.string s.data.toList) (.lit (.bool false)) = .lit (.bool (g s))
theorem MpB.lt {w:World} {M k:Nat} {g:ByteArray->Bool} (h:MpB w M k g):M < w.heap.size:=by
 obtain ⟨D,h1,-⟩:=h;exact h1.lt
theorem MpB.frame {w w':World} {M k:Nat} {g:ByteArray->Bool} (h:MpB w M k g) (hf:w'.heap[M]? = w.heap[M]?):MpB w' M k g:=by
 obtain ⟨D,⟨es,c,h1,h2⟩,h3⟩:=h
 exact ⟨D,⟨es,c,by rw [hf];exact h1,h2⟩,h3⟩
theorem MpB.only {w w':World} {fp:List Nat} {M k:Nat} {g:ByteArray->Bool} (h:MpB w M k g) (ho:Only fp w w') (hn:M ∉ fp):MpB w' M k g:=h.frame (ho.block M h.lt hn)
theorem MpB.keep {w w':World} {M k:Nat} {g:ByteArray->Bool} (h:MpB w M k g) (ho:Only [] w w'):MpB w' M k g:=h.only ho (by simp)
theorem MpB.made (w:World) {M:Nat} (hM:M = w.heap.size):MpB (w.alloc (.map #[] 0)) M 0 (fun _=>false):=by
 subst hM
 exact ⟨.map [],World.ownsMap_made _ _ _ _,fun s _=>rfl⟩
theorem MpB.congr {w:World} {M k:Nat} {g g':ByteArray->Bool} (h:MpB w M k g) (hg:∀ s,g s = g' s):MpB w M k g':=by
 have:g = g':=funext hg
 rw [<- this];exact h
section
variable {w:World} {M k:Nat} {g:ByteArray->Bool}
theorem MpB.run_at (h:MpB w M k g) {s:ByteArray} (hs:s.size<=maxLen):(Instr.lookup 203 (.map (some M)) (.string s) false).run Tryz.prog w = .ok (.bool (g s)) w:=by
 obtain ⟨D,hown,hg⟩:=h
 obtain ⟨v,ps,hrun,hv⟩:=hown.lookup Tryz.lawStr Tryz.underlying203 (Tryz.zeroBool w) (plainElem_bool Tryz.underlying4 false) (Go.WideMaps.keyOf_string_mk Tryz.underlying9 hs)
 obtain ⟨c,rfl,hc⟩:=Zhj Tryz.underlying4 hv
 have hc1:=congrArg Prod.fst hc
 simp only at hc1
 rw [hg s hs] at hc1
 injection hc1 with hc1;injection hc1 with hc1
 rw [hrun,hc1]
theorem MpB.run_put (h:MpB w M k g) {s:ByteArray} (hs:s.size<=maxLen) (b:Bool) (hk:k < maxLen) :
  ∃ w',(Instr.mapUpdate 203 (.map (some M)) (.string s) (.bool b)).run Tryz.prog w = .ok () w'/\MpB w' M (k + 1) (fun s'=>if s' = s then b else g s')/\Only [M] w w':=by
 obtain ⟨D,hown,hg⟩:=h
 obtain ⟨w',hrun,r1,r2⟩:=hown.store Tryz.lawStr Tryz.underlying203 hk (Go.WideMaps.keyOf_string_mk Tryz.underlying9 hs) (plainElem_bool Tryz.underlying4 b)
 have hmap:=hown.isMap
 refine ⟨w',hrun,⟨_,r1,fun s' hs'=>?_⟩,?_⟩
 ·by_cases he:s' = s
  ·subst he
   have hkl:WideAt.IsKeyLit (Lit.string s'.data.toList):=trivial
   rw [Go.Maps.atKey_put_same hmap hkl];simp
  ·have hne:(Lit.string s'.data.toList) ≠ .string s.data.toList:=by
    intro e;injection e with e
    apply he
    have:s'.data = s.data:=Array.toList_inj.1 e
    cases s';cases s;simp at this;rw [this]
   rw [Go.Maps.atKey_put_other hne];simp [he];exact hg s' hs'
 ·exact zO.grown r2.grown (by intro j hj _;injection hj with hj;subst hj;simp)
end
end Go.Proofs.YtclhblofchfglaaGreat
