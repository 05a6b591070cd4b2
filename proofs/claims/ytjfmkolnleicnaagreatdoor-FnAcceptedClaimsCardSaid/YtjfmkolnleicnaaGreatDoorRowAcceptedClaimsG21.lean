/- The reference's drawn words: drawWord, drawAnyWord (laws 45, 50, 55, 59). -/
import Derived.Test.YtjfmkolnleicnaaGreatDoorRowAcceptedClaimsG12
import Derived.Test.YtjfmkolnleicnaaGreatDoorRowAcceptedClaimsG20
import Derived.Test.YtjfmkolnleicnaaGreatDoorRowAcceptedClaimsG8
import Derived.Test.YtjfmkolnleicnaaGreatDoorRowAcceptedClaimsG3
import Derived.Test.YtjfmkolnleicnaaGreatDoorRowAcceptedClaimsG2
namespace Go.Proofs.YtjfmkolnleicnaaGreatDoor
open Go.RowKit
set_option maxRecDepth 10000
set_option maxHeartbeats 4000000 in
theorem Zps (g:Nat) (fc:List Nat) (l:List UInt8) (m:Int) (w:World) (h:Src w g fc l) (hl:l.length<=4096) (hm:m<=1000) :
  Calls Tryz.prog 43 #[.pointer (some ⟨g,0,none⟩),.int .i64 m] w fun e w'=>∃ v p,e = .returned v/\AccI w.heap.size 2 w' v p/\p.length<=7/\Src w' g fc l/\Only [g] w w':=by
 obtain ⟨i0,hi,hz0,hz1,hz2⟩:=info_parts Tryz.info2
 have hg:=h.lt
 have hfc:∀ b∈fc,b < w.heap.size:=by obtain ⟨_,_,_,_,_,_,_,h4,_⟩:=h;exact fun b hb=>Rp.lt h4 b hb
 have hA0:=AccI.made w w.heap.size 2 rfl (Nat.le_refl _)
 have ho:Only [] w (w.alloc (.cells #[] 2)):=zO.alloc _
 go_enter Tryz.func43,Tryz.ntmps43
 go_wp2_with (first
  | (go_at_call 34;(with_reducible refine (Zaf g fc l 7 _ (h.keep ho) hl (by omega)).mono ?_);rintro e w1 ⟨k,rfl,k0,k7,D1,K1⟩)
  | fail)
 have A1:=hA0.only K1 (fun q hq hm=>by
  have e:w.heap.size = q:=by simpa [Value.ownBlock] using hq
  simp at hm
  omega)
 have K1':Only [g] w w1:=(ho.weaken [g]).trans K1
 have hk7:k<=7:=by omega
 clear hA0 K1 ho k7
 go_loopw [5,6] (fun o x wr=>∃ (k:Int) (p:List Int),0<=k/\x = .int .i64 k/\(p.length:Int) + k<=7/\AccI w.heap.size 2 wr o p/\Src wr g fc l/\Only [g] w wr)
  (fun _ x _=>(intOf x).toNat)
 case atStart=>exact ⟨k,[],k0,rfl,by simpa using hk7,A1,D1,K1'⟩
 case round=>
  obtain ⟨W2,hnew⟩:∃ W,W = wr:=⟨_,rfl⟩
  subst hnew
  clear A1 D1 K1' k0 hk7
  obtain ⟨k,p,k0,rfl,hpk,hA,hD,hO⟩:=hrel
  have hsz:=hO.size
  by_cases hgo:0 < k/\0 < m
  ·obtain ⟨h1,h2⟩:=hgo
   have hw:IntKind.i64.wrap (k - 1) = k - 1:=by rw [IntKind.wrap_i64];omega
   have hlen:p.length + 1<=1073741824:=by omega
   have Hown:=zH (show ∀ q,u5.ownBlock = some q->q ∉ [g] from fun q hq hm=>by have:=hA.ownlt q hq;simp at hm;omega)
   have Hol:=zH (show ∀ b∈u5.ownBlock.toList,w.heap.size<=b from fun b hb=>(hA.ownlt b (by simpa using hb)).1)
   go_wp2_with (first
    | (go_at_call 34;(with_reducible refine (Zaf g fc l m W2 hD hl (by omega)).mono ?_);rintro e w4 ⟨r,rfl,r0,r1,D4,K4⟩;have hr1:r < m:=(by omega);have hw1:IntKind.i64.wrap (1 + r) = 1 + r:=(by rw [IntKind.wrap_i64];omega))
    | (go_at_call 40;(with_reducible refine (Zbc g fc l 2 w4 D4 hl (by omega)).mono ?_);rintro e w5 ⟨b5,rfl,D5,K5⟩;have K25:=K4.trans K5;have A5:=hA.only K25 Hown.out;have hw2:IntKind.i64.wrap (-(1 + r)) = -(1 + r):=(by rw [IntKind.wrap_i64];omega);have hb5:w.heap.size<=w5.heap.size:=Nat.le_trans hsz K25.size)
    | (at_builtin;refine Zbj rfl _ _ 27 rfl w.heap.size 2 i0 _ Tryz.underlying27 hi hz0 hz1 hz2 rfl w5 _ p rfl A5 (zO.alloc _) hb5 w5.heap.size 1 _ rfl (lit1 w5 _ _ rfl) ?hn hlen ?_;(case hn=>(unfold I64;omega));intro v9 w9 hA9 hO9 hP9 hN9;have kal:=(Only.refl [] w5).alloc (.cells #[] 2))
    | fail)
   all_goals go_roundw
   all_goals first
    | exact ⟨k - 1,_,by omega,rfl,by rw [List.length_append,List.length_singleton];omega,hA9,(D5.keep (zO.alloc _)).only hO9 (fun hm=>by have:=Hol.out g hm;omega) (fun b hb hm=>by have h1:=hfc b hb;have h2:=Hol.out b hm;omega),((hO.trans K25).alloc _).then_ hO9 (fun b hb hl=>by have:=Hol.out b hb;omega)⟩
    | (simp [intOf];omega)
  ·have hend:¬ (0 < k)\/(0 < k/\¬ (0 < m)):=by omega
   clear hgo
   rcases hend with h1 | ⟨h0,h1⟩
   all_goals go_wp2
   all_goals go_ret
   all_goals exact ⟨_,rfl,p,hA,by omega,hD,hO⟩
theorem Zsw {w:World} {k' u1 u2 u3:Value} {c:Certificate} {f:List Nat} (h:Rp.rep w [k',u1,u2,u3] c f):∃ f1 f2 f3,k' = .int .i64 c.kind/\I64 c.kind/\Rd w u1 c.numbers f1/\Rd w u2 c.words f2/\Rd w u3 c.tables f3:=by
 obtain ⟨v1,v2,v3,f1,f2,f3,e,-,hk,h1,h2,h3⟩:=h
 simp at e
 obtain ⟨rfl,rfl,rfl,rfl⟩:=e
 exact ⟨f1,f2,f3,rfl,hk,h1,h2,h3⟩
theorem ka_of {fp:List Nat} {w V w9:World} (_:Only fp V w9) (h:Only [] w V):Only [] w V:=h
theorem Zun {P:Program} {α:Type} [Rp α] {ops:Array Oper} {o:Oper} {a:Act} {w:World} {Q:Exit->Act->World->Prop} {K:Act->World->Prop} {E:Prop} (hgd:o.guard = none) (s x:Operand) (t:TypeId)
  (ho:o.op = .call { callee:=.builtin .append,args:=#[s,x],argTypes:=#[t,t] })
  (B:Nat) (e:TypeId) (i:TypeInfo) (z:Value) (bytes:Nat) (ht:P.underlying t = some (.slice e)) (hi:P.info? e = some i) (hz:i.zero = some z)
  (hsize:i.size = Rp.size α) (hby:i.bytes = bytes) (hzs:z.cells.size = Rp.size α) (hsz:0 < Rp.size α) (hbb:bytes<=65536)
  (w0:World) (v:Value) (l:List α) (fs:List (List Nat)) (hs:a.eval s = v) (hA:Acc B e w0 v l fs) (hK0:Only [] w0 w) (hB:B<=w0.heap.size)
  (B2:Nat) (e2:TypeId) (u:Value) (ys:List α) (gs:List (List Nat)) (hx:a.eval x = u) (hU:Acc B2 e2 w u ys gs) (hone:∀ (cs:List Value) (y:α) (f:List Nat),Rp.rep w cs y f->∀ q∈cs,q.oneCell' = true)
  (hap:∀ b∈gs.flatten,v.ownBlock ≠ some b) (hlen:l.length + ys.length<=1073741824)
  (h:∀ v' w',Acc B e w' v' (l ++ ys) (fs ++ gs)->Only v.ownBlock.toList w w'->(v'.ownBlock = v.ownBlock\/v'.ownBlock = some w.heap.size)->K (a.put o.dst v') w'):if Region.wanted o (yielded ops a.tmps) = true then Oper.wp P o a w K Q else E:=by
 rw [if_pos (by simp [Region.wanted,hgd])]
 exact wp_cat s x t ho B e i z bytes ht hi hz hsize hby hzs hsz hbb w0 v l fs hs hA hK0 hB B2 e2 u ys gs hx hU hone hap hlen h
set_option maxHeartbeats 16000000 in
theorem Zio (g:Nat) (fc:List Nat) (l:List UInt8) (cs:List Value) (x:Puzzle) (fp:List Nat) (v:Value) (s:List Int) (fs:List Nat) (w:World) (h:Src w g fc l) (hl:l.length<=4096) (hx:Rp.rep w cs x fp) (hgx:g ∉ fp) (hv:Rd w v s fs) (hgs:g ∉ fs) (hm:x.moves.length<=1000) :
  Calls Tryz.prog 16 #[.pointer (some ⟨g,0,none⟩),.agg cs.toArray,v] w (DCR w g fc l):=by
 obtain ⟨i0,hi,hz0,hz1,hz2⟩:=info_parts Tryz.info2
 obtain ⟨j0,hj,hj0,hj1,hj2⟩:=info_parts Tryz.info22
 obtain ⟨m0,hm0,hmz,hm1,hm2⟩:=info_parts Tryz.infoTable
 have hg:=h.lt
 have hfc:∀ b∈fc,b < w.heap.size:=by obtain ⟨_,_,_,_,_,_,_,h4,_⟩:=h;exact fun b hb=>Rp.lt h4 b hb
 have hgc:DCg w g fc:=⟨hg,hfc⟩
 obtain ⟨v2,rfl,p0,p1,h2⟩:=hx
 obtain ⟨Ap,Cp,_,_,rfl,-,-⟩:=h2.open_
 have hx0:Rp.rep w [.int .i64 x.points,.string x.names,.slice Ap x.moves.length Cp] x fp:=⟨_,rfl,p0,p1,h2⟩
 obtain ⟨As,Cs,rfl,-⟩:=id hv.ints
 have hdx:=zH (show ∀ b∈fp,b ∉ [g] from fun b hb hm=>hgx (by simp at hm;subst hm;exact hb))
 have hds:=zH (show ∀ b∈fs,b ∉ [g] from fun b hb hm=>hgs (by simp at hm;subst hm;exact hb))
 have Hpl:Hid (∀ b∈fp,b < w.heap.size):=zH (Rp.lt hx0)
 have kw:Only [] w (((w.alloc (.cells #[.int .i64 x.points,.string x.names,.slice Ap x.moves.length Cp] 26)).alloc (.cells #[.int .i64 0,.slice none 0 0,.slice none 0 0,.slice none 0 0] 30)).alloc (.cells #[.int .i64 4,.slice none 0 0,.slice none 0 0,.slice none 0 0] 30)):=((zO.alloc _).alloc _).alloc _
 have b1:=((Blk.new w [.int .i64 x.points,.string x.names,.slice Ap x.moves.length Cp] 26).keep (zO.alloc (.cells #[.int .i64 0,.slice none 0 0,.slice none 0 0,.slice none 0 0] 30))).keep (zO.alloc (.cells #[.int .i64 4,.slice none 0 0,.slice none 0 0,.slice none 0 0] 30))
 have r1:=(Blk.new (w.alloc (.cells #[.int .i64 x.points,.string x.names,.slice Ap x.moves.length Cp] 26)) [.int .i64 0,.slice none 0 0,.slice none 0 0,.slice none 0 0] 30).keep (zO.alloc (.cells #[.int .i64 4,.slice none 0 0,.slice none 0 0,.slice none 0 0] 30))
 have X1:=Blk.new ((w.alloc (.cells #[.int .i64 x.points,.string x.names,.slice Ap x.moves.length Cp] 26)).alloc (.cells #[.int .i64 0,.slice none 0 0,.slice none 0 0,.slice none 0 0] 30)) [.int .i64 4,.slice none 0 0,.slice none 0 0,.slice none 0 0] 30
 have e1:(w.alloc (.cells #[.int .i64 x.points,.string x.names,.slice Ap x.moves.length Cp] 26)).heap.size = w.heap.size + 1:=by simp
 have e2:((w.alloc (.cells #[.int .i64 x.points,.string x.names,.slice Ap x.moves.length Cp] 26)).alloc (.cells #[.int .i64 0,.slice none 0 0,.slice none 0 0,.slice none 0 0] 30)).heap.size = w.heap.size + 2:=by simp
 rw [e1] at r1
 rw [e2] at X1
 have T1:DCt w g fc l [.int .i64 x.points,.string x.names,.slice Ap x.moves.length Cp] (((w.alloc (.cells #[.int .i64 x.points,.string x.names,.slice Ap x.moves.length Cp] 26)).alloc (.cells #[.int .i64 0,.slice none 0 0,.slice none 0 0,.slice none 0 0] 30)).alloc (.cells #[.int .i64 4,.slice none 0 0,.slice none 0 0,.slice none 0 0] 30)):=⟨b1,r1,h.keep kw,kw.weaken [g],by simp⟩
 have hx1:=zK hx0 kw
 have hv1:=zK hv kw
 clear b1 r1 e1 e2
 go_enter Tryz.func16,Tryz.ntmps16
 go_upto_region 2 with fail
 obtain ⟨W1,hW1⟩:∃ W,W = (((w.alloc (.cells #[.int .i64 x.points,.string x.names,.slice Ap x.moves.length Cp] 26)).alloc (.cells #[.int .i64 0,.slice none 0 0,.slice none 0 0,.slice none 0 0] 30)).alloc (.cells #[.int .i64 4,.slice none 0 0,.slice none 0 0,.slice none 0 0] 30)):=⟨_,rfl⟩
 rw [<- hW1] at T1 X1 hx1 hv1 ⊢
 clear hW1 kw hx0 hv h2 h
 go_cut [12] (fun s12 wx=>∃ r:Int,s12 = .int .i64 r/\0<=r/\r < 4/\Src wx g fc l/\Only [g] W1 wx)
 case first=>
  go_wp2_with ((go_at_call 34;(with_reducible refine (Zaf g fc l 4 W1 T1.sr hl (by omega)).mono ?_);rintro e w2 ⟨r,rfl,r0,r4,D2,K2⟩))
  go_meet
  exact ⟨r,rfl,r0,by omega,D2,K2⟩
 case rest=>
 obtain ⟨w2,hnew⟩:∃ W,W = wc:=⟨_,rfl⟩
 subst hnew
 obtain ⟨r,rfl,r0,r4,D2,K2⟩:=hcut
 have T2:=T1.step hgc K2 D2
 have X2:=X1.only K2 (by simp;omega)
 have hx2:=Rp.only hx1 K2 hdx.out
 have hv2:=Rp.only hv1 K2 hds.out
 clear T1 X1 hx1 hv1 D2 K2
 have s2:=T2.sz
 refine (show ∀ a w,Code.wp Tryz.prog _ _ a w->_ from by assumption) _ _ ?_
 go_cut [] (fun wx=>DCF 500 w g fc l [.int .i64 x.points,.string x.names,.slice Ap x.moves.length Cp] wx/\Rp.rep wx [.int .i64 x.points,.string x.names,.slice Ap x.moves.length Cp] x fp)
 case first=>
  have y0:=T2.bx.cell 0 rfl;have y1:=T2.bx.cell 1 rfl;have y2:=T2.bx.cell 2 rfl
  obtain ⟨c0,c1,c2,c3⟩:=X2.c4;have zx:=X2.frozen
  by_cases e0:r = 0
  ·subst e0
   go_wp2_with (first
    | (go_at_call 35;(with_reducible refine (Zjk [.int .i64 x.points,.string x.names,.slice Ap x.moves.length Cp] x fp (.slice As s.length Cs) s fs w2 hx2 hv2).mono ?_);rintro e w3 ⟨cs3,f3,rfl,r3,F3,t3⟩;obtain ⟨A1,n1,C1,A2,n2,C2,A3,n3,C3,rfl⟩:=Zis r3;have X3:=X2.keep t3;obtain ⟨c03,c13,c23,c33⟩:=X3.c4;have zx3:=X3.frozen)
    | fail)
   go_meet
   have T3:=T2.keep hgc t3
   exact ⟨DCF.store T3 hgc X3 r3 (fun b hb=>by have:=F3.ge b hb;omega) (csm_sd x s),Rp.only (zK hx2 t3) (Zdb _ _ _ _ _ _) (fun b hb hm=>by have:=Hpl.out b hb;simp at hm;omega)⟩
  ·by_cases e1:r = 1
   ·subst e1
    go_wp2_with (first
     | (go_at_call 36;(with_reducible refine (Zcy [.int .i64 x.points,.string x.names,.slice Ap x.moves.length Cp] x fp (.slice As s.length Cs) s fs w2 hx2 hv2).mono ?_);rintro e w4 ⟨u4,f4,rfl,r4,F4,t4⟩)
     | (go_at_call 37;(with_reducible refine (Zmd u4 ((optX x s).getD []) f4 w4 r4).mono ?_);rintro e w3 ⟨cs3,f3,rfl,r3,F3,t3⟩;obtain ⟨A1,n1,C1,A2,n2,C2,A3,n3,C3,rfl⟩:=Zis r3;have X3:=(X2.keep t4).keep t3;obtain ⟨c03,c13,c23,c33⟩:=X3.c4;have zx3:=X3.frozen)
     | fail)
    go_meet
    have T3:=(T2.keep hgc t4).keep hgc t3
    exact ⟨DCF.store T3 hgc X3 r3 (fun b hb=>by have:=F3.ge b hb;have:=t4.size;omega) (csm_sol _),Rp.only (zK (zK hx2 t4) t3) (Zdb _ _ _ _ _ _) (fun b hb hm=>by have:=Hpl.out b hb;simp at hm;omega)⟩
   ·by_cases e2:r = 2
    ·subst e2
     go_upto_region 9 with fail
     go_region_law (first
      | (go_simp;first
      | (go_at_call 34;(with_reducible refine (Zaf g fc l 4 _ (T2.sr.keep zC) hl (by omega)).mono ?_);rintro en w3 ⟨k3,rfl,k30,k34,D3,K3⟩;have K23:Only [g] w2 w3:=Only.trans zC K3;have T3:=T2.step hgc K23 D3;have X3:=X2.only K23 (by simp;omega);have hx3:=Rp.only hx2 K23 hdx.out;have y03:=T3.bx.cell 0 rfl;have y13:=T3.bx.cell 1 rfl;have y23:=T3.bx.cell 2 rfl)
      | (go_at_call 39;(with_reducible refine (Zhi g fc l [.int .i64 x.points,.string x.names,.slice Ap x.moves.length Cp] x fp _ (T3.sr.keep zC) hl (zK hx3 zC) hgx).mono ?_);rintro en w4 ⟨v4,L4,f4,rfl,hA4,hF4,l4,sm4,D4,K4⟩;have K34:Only [g] w3 w4:=Only.trans zC K4;have T4:=T3.step hgc K34 D4;have X4:=X3.only K34 (by simp;omega);have hx4:=Rp.only hx3 K34 hdx.out;have R4:=zH (hA4.rd (by decide));have S4:=zH sm4;clear hA4 hF4 sm4)
      | (go_at_call 38;(with_reducible refine (Zor k3 (by unfold I64;omega) v4 L4 _ _ (zK R4.out zC) S4.out).mono ?_);rintro en w5 ⟨cs5,f5,rfl,r5,F5,t5⟩;obtain ⟨A1,n1,C1,A2,n2,C2,A3,n3,C3,rfl⟩:=Zis r5;have K45:Only [] w4 w5:=Only.trans zC t5;have T5:=T4.keep hgc K45;have X5:=X4.keep K45;obtain ⟨c05,c15,c25,c35⟩:=X5.c4;have zx5:=X5.frozen;have F5':∀ b∈f5,w4.heap.size<=b:=F5.ge;have HF5:=zH F5';have R5:=zH r5;clear F5 F5' r5))
      | fail)
     all_goals
      go_wp2
      go_meet
      have s4:=T4.sz
      exact ⟨DCF.store T5 hgc X5 R5.out (fun b hb=>by have:=HF5.out b hb;omega) (csm_lb k3 S4.out (by omega)),Rp.only (zK hx4 K45) (Zdb _ _ _ _ _ _) (fun b hb hm=>by have:=Hpl.out b hb;simp at hm;omega)⟩
    ·go_wp2
     go_meet
     exact ⟨⟨T2,unCert,none,0,0,none,0,0,none,0,0,[],X2,Zlb _,by simp,csm_un⟩,hx2⟩
 case rest=>
  obtain ⟨W3,hnew⟩:∃ W,W = wc:=⟨_,rfl⟩
  subst hnew
  obtain ⟨⟨T3,DX3⟩,hx3⟩:=hcut
  clear T2 X2 hx2 hv2 r0 r4 s2
  refine (show ∀ a w,Code.wp Tryz.prog _ _ a w->_ from by assumption) _ _ ?_
  go_upto_region 10 with fail
  go_cut [41] (fun s41 wx=>∃ b:Bool,s41 = .bool b/\Src wx g fc l/\Only [g] W3 wx)
  case first=>
   go_wp2_with ((go_at_call 40;(with_reducible refine (Zbc g fc l 3 W3 T3.sr hl (by omega)).mono ?_);rintro e w4 ⟨b,rfl,D4,K4⟩))
   go_meet
   exact ⟨_,rfl,D4,K4⟩
  case rest=>
   obtain ⟨W4,hnew⟩:∃ W,W = wc:=⟨_,rfl⟩
   subst hnew
   obtain ⟨b4,rfl,D4,K4⟩:=hcut
   have T4:=T3.step hgc K4 D4
   have DX4:=DCX.keep DX3 hgc K4
   have hx4:=Rp.only hx3 K4 hdx.out
   clear T3 DX3 hx3 D4 K4
   obtain ⟨⟨k,n,ws,ts⟩,A1,n1,C1,A2,n2,C2,A3,n3,C3,f,X4,hr,hf,hs⟩:=DX4
   have HR:=zH hr
   have Hf:=zH hf
   have HS5:=zH hs
   obtain ⟨f1,f2,f3,-,hk,hn,hw,ht⟩:=Zsw hr
   clear hr hf
   refine (show ∀ a w,Code.wp Tryz.prog _ _ a w->_ from by assumption) _ _ ?_
   cases b4
   case true=>
    have HS:=hs.mono
    clear hs hn hw ht
    obtain ⟨d0,d1,d2,d3⟩:=X4.c4
    have g0:=T4.rs.cell 0 rfl;have g1:=T4.rs.cell 1 rfl;have g2:=T4.rs.cell 2 rfl;have g3:=T4.rs.cell 3 rfl;have zb:=T4.rs.frozen
    go_wp2
    have Yf:=T4.rs.set4 (.int .i64 k) (.slice A1 n1 C1) (.slice A2 n2 C2) (.slice A3 n3 C3)
    obtain ⟨q0,q1,q2,q3⟩:=Yf.c4
    exact bodyPost_ret (v:=.agg #[.int .i64 k,.slice A1 n1 C1,.slice A2 n2 C2,.slice A3 n3 C3]) (by simp [results,Tryz.results16,go_sem,q0,q1,q2,q3]) rfl (DCR.mk T4 hgc HR.out Hf.out HS)
   case false=>
    have B4s:=T4.sz
    obtain ⟨d0,d1,d2,d3⟩:=X4.c4;have zx4:=X4.frozen
    have hsn:Sm.sm n:=hs.1.1
    have hsw:Sm.sm ws:=hs.1.2.1
    have hst:Sm.sm ts:=hs.1.2.2
    have hn:Rd W4 (.slice A1 n1 C1) n f1:=hn
    have hw:Rd W4 (.slice A2 n2 C2) ws f2:=hw
    have ht:Rd W4 (.slice A3 n3 C3) ts f3:=ht
    clear HR Hf
    go_upto_region 13 with (first
     | (go_at_call 41;(with_reducible refine (Zip k (.slice A1 n1 C1) (.slice A2 n2 C2) (.slice A3 n3 C3) n ws ts f1 f2 f3 W4 hn hw ht hsn hsw hst).mono ?_);rintro e w5 ⟨vn,vw,vt,fw,ft,B1,B2,rfl,CA,t5⟩;obtain ⟨L,hL'⟩:∃ L,L = ws.map OwnI.mk:=⟨_,rfl⟩;rw [<- hL'] at CA;have hL:=zH hL';clear hL';obtain ⟨a1,c1,rfl⟩:=CA.an.form;obtain ⟨a2,c2,rfl⟩:=CA.aw.form;obtain ⟨a3,c3,rfl⟩:=CA.at_.form;have X5:=X4.keep t5;obtain ⟨d05,d15,d25,d35⟩:=X5.c4;have zx5:=X5.frozen)
     | fail)
    rw [show w.heap.size + 1 + 1 = w.heap.size + 2 from rfl]
    have kst:=Zdb w5 (w.heap.size + 2) (.int .i64 k) (.slice a1 n.length c1) (.slice a2 L.length c2) (.slice a3 ts.length c3)
    have hcs:CSm 500 ⟨k,n,L.map OwnI.l,ts⟩:=by rw [hL.out,map_own];exact hs
    have T5:=(T4.keep hgc t5).low hgc kst (fun b hb=>by simp at hb;omega)
    have X6:=X5.set4 (.int .i64 k) (.slice a1 n.length c1) (.slice a2 L.length c2) (.slice a3 ts.length c3)
    have CA5:=CA.only kst (fun b hb=>by simp at hb;omega)
    have hx5:=Rp.only (zK hx4 t5) kst (fun b hb hm=>by have:=Hpl.out b hb;simp at hm;omega)
    have hBW:W4.heap.size<=w5.heap.size:=t5.size
    have hBV:=Nat.le_trans hBW kst.size
    obtain ⟨B,hB⟩:∃ B,B = W4.heap.size:=⟨_,rfl⟩
    obtain ⟨W5,hW5⟩:∃ W,W = ((((w5.setCell ⟨w.heap.size + 2,0,none⟩ (.int .i64 k)).setCell ⟨w.heap.size + 2,1,none⟩ (.slice a1 n.length c1)).setCell ⟨w.heap.size + 2,2,none⟩ (.slice a2 L.length c2)).setCell ⟨w.heap.size + 2,3,none⟩ (.slice a3 ts.length c3)):=⟨_,rfl⟩
    rw [<- hW5] at T5 X6 CA5 hx5 hBV ⊢
    rw [<- hB] at CA5 hBV B4s
    clear hB hW5 kst CA X5 hBW t5 hs hsn hsw hst hn hw ht hx4 T4 X4 hL HS5
    have HC:=zH hcs
    clear hcs
    go_cut [46] (fun s46 wx=>∃ r:Int,s46 = .int .i64 r/\0<=r/\r < 5/\Src wx g fc l/\Only [g] W5 wx)
    case first=>
     go_wp2_with ((go_at_call 34;(with_reducible refine (Zaf g fc l 5 W5 T5.sr hl (by omega)).mono ?_);rintro e w6 ⟨r,rfl,r0,r5,D6,K6⟩))
     go_meet
     exact ⟨r,rfl,r0,by omega,D6,K6⟩
    case rest=>
    obtain ⟨W6,hnew⟩:∃ W,W = wc:=⟨_,rfl⟩
    subst hnew
    obtain ⟨r,rfl,r0,r5,D6,K6⟩:=hcut
    have hgB:∀ b∈[g],b < B:=fun b hb=>by simp at hb;omega
    have T6:=T5.step hgc K6 D6
    have X7:=X6.only K6 (by simp;omega)
    have CA6:=CA5.only K6 hgB
    have hx6:=Rp.only hx5 K6 hdx.out
    have hB6:B<=W6.heap.size:=Nat.le_trans hBV K6.size
    clear T5 X6 CA5 hx5 hBV D6 K6
    have HCA:=zH CA6
    refine (show ∀ a w,Code.wp Tryz.prog _ _ a w->_ from by assumption) _ _ ?_
    go_cut [] (fun wx=>DCF 1000 w g fc l [.int .i64 x.points,.string x.names,.slice Ap x.moves.length Cp] wx)
    case first=>
     have y0:=T6.bx.cell 0 rfl;have y1:=T6.bx.cell 1 rfl;have y2:=T6.bx.cell 2 rfl
     obtain ⟨d0,d1,d2,d3⟩:=X7.c4;have zx:=X7.frozen
     have hlt6:=CA6.lt
     have HLT:=zH hlt6
     clear hlt6
     by_cases e0:r = 0
     ·subst e0
      go_wp2_with (first
       | (go_at_call 42;(with_reducible refine (Zgz g fc l 0 5 W6 T6.sr hl (by omega) (by omega) (by omega)).mono ?_);rintro e w7 ⟨y,rfl,y50,y55,D7,K7⟩;have T7:=T6.step hgc K7 D7;have X8:=X7.only K7 (by simp;omega);have CA7:=CA6.only K7 hgB;obtain ⟨d07,d17,d27,d37⟩:=X8.c4;have zx7:=X8.frozen)
       | fail)
      go_meet
      have hyI:I64 y:=by unfold I64;omega
      exact DCF.fld T7 hgc X8 0 (.int .i64 y) rfl (CA7.rep (k:=y) hyI) (fun b hb=>by have:=(HLT.out b hb).1;omega) (csm_n HC.out (by have:=HC.out.2.1;simp only at this;omega))
     ·by_cases e1:r = 1
      ·subst e1
       have hln:n.length + 1<=1073741824:=by have:=HC.out.2.1;simp only at this;omega
       have HX7:=zH X7
       go_upto_region 17 with fail
       go_region_law (first
        | (go_simp;first
        | (go_at_call 42;(with_reducible refine (Zgz g fc l (-1) 4 _ (T6.sr.keep zC) hl (by omega) (by omega) (by omega)).mono ?_);rintro en w7 ⟨y,rfl,y50,y55,D7,K7⟩;have K67:Only [g] W6 w7:=Only.trans zC K7;have T7:=T6.step hgc K67 D7;have X8:=X7.only K67 (by simp;omega);have CA7:=CA6.only K67 hgB;obtain ⟨d07,d17,d27,d37⟩:=X8.c4;have zx7:=X8.frozen;have hB7:B<=w7.heap.size:=Nat.le_trans hB6 K67.size;have kal7:Only [] w7 (w7.alloc (.cells #[.int .i64 y] 2)):=zO.alloc _;have T7a:=T7.keep hgc kal7;have X8a:=X8.keep kal7;have d17a:=X8a.cell 1 rfl;have d27a:=X8a.cell 2 rfl;have zx7a:=X8a.frozen;have CA7a:=CA7.keep kal7;have HCA7:=zH CA7a;have hyI:I64 y:=(by unfold I64;omega);have A7:=CA7.an;clear CA7 CA7a))
        | (refine Zei rfl (.tmp 55) (.tmp 58) 27 rfl B 2 i0 _ Tryz.underlying27 hi hz0 hz1 hz2 rfl w7 (.slice a1 n.length c1) n rfl A7 zC hB7 _ 1 y rfl (lit1 _ _ _ rfl) hyI hln ?_;intro v9 w9 hA9 hO9 hN9;obtain ⟨a9,c9,rfl⟩:=hA9.form;rw [List.length_append,List.length_singleton] at hA9 hN9;obtain ⟨T9,X9⟩:=T7a.fin hgc hO9 (fun b hb=>by have:=(HCA7.out.nge b hb).1;omega) X8a;obtain ⟨d09,d19,d29,d39⟩:=X9.c4;have zx9:=X9.frozen;have R9:=zH hA9.rd;have O9:=zH hO9;have N9:=zH hN9;clear hA9 hO9 hN9)
        | fail)
       all_goals
        go_wp2
        go_meet
        obtain ⟨f9,hr9,hf9⟩:=CAcc.setN hk HCA7.out R9.out O9.out N9.out (Nat.le_trans hB7 kal7.size)
        exact DCF.fld T9 hgc X9 1 (.slice a9 (n.length + 1) c9) rfl hr9 (fun b hb=>by have:=hf9 b hb;omega) (csm_n HC.out (by have:=HC.out.2.1;simp only at this;rw [List.length_append,List.length_singleton];omega))
      ·by_cases e2:r = 2
       ·subst e2
        have hlL:L.length + 1<=1073741824:=by have:=HC.out.2.2.1;simp only [List.length_map] at this;omega
        go_upto_region 19 with fail
        go_region_law (first
         | (go_simp;first
         | (go_at_call 43;(with_reducible refine (Zps g fc l (x.moves.length:Int) _ (T6.sr.keep zC) hl (by omega)).mono ?_);rintro en w7 ⟨v7,p7,rfl,hA7,p77,D7,K7⟩;obtain ⟨a7,c7,rfl⟩:=hA7.form;have K67:Only [g] W6 w7:=Only.trans zC K7;have T7:=T6.step hgc K67 D7;have X8:=X7.only K67 (by simp;omega);have CA7:=CA6.only K67 hgB;obtain ⟨d07,d17,d27,d37⟩:=X8.c4;have zx7:=X8.frozen;have hB7:B<=w7.heap.size:=Nat.le_trans hB6 K67.size;have kal7:Only [] w7 (w7.alloc (.cells #[.slice a7 p7.length c7] 27)):=zO.alloc _;have T7a:=T7.keep hgc kal7;have X8a:=X8.keep kal7;have d17a:=X8a.cell 1 rfl;have d27a:=X8a.cell 2 rfl;have zx7a:=X8a.frozen;have CA7a:=CA7.keep kal7;have HCA7:=zH CA7a;have hA7':=hA7.low2 (B':=W6.heap.size) (by first | omega | simp);have A7:=CA7.aw.low3 CA7.b0;have hap7:Rp.rep w7 [.slice a7 p7.length c7] (OwnI.mk p7) (Value.slice a7 p7.length c7).ownBlock.toList:=⟨_,rfl,hA7.low2 (Nat.zero_le _),rfl⟩;have HA7:=zH hA7';clear CA7 CA7a hA7 hA7'))
         | (refine Zgw (α:=OwnI) rfl (.tmp 64) (.tmp 70) 24 rfl B 27 j0 _ 24 Tryz.underlying24 hj hj0 hj1 hj2 rfl (by decide) (by decide) w7 (.slice a2 L.length c2) L fw rfl A7 zC hB7 _ 1 [.slice a7 p7.length c7] (OwnI.mk p7) _ rfl (lit_src _ [.slice a7 p7.length c7] _ rfl) (by intro u hu;simp at hu;subst hu;rfl) (zK hap7 zC) ?hap hlL ?_;(case hap=>(intro b hb he;have h1:=(HA7.out.ownlt b (by simpa using hb)).1;have h2:=(HLT.out b (List.mem_append_right _ (List.mem_append_left _ (List.mem_append_left _ (by simp [he]))))).2;omega));intro v9 w9 hA9 hO9 hN9;obtain ⟨a9,c9,rfl⟩:=hA9.form;rw [List.length_append,List.length_singleton] at hA9 hN9;obtain ⟨T9,X9⟩:=T7a.fin hgc hO9 (fun b hb=>by have:=(HLT.out b (List.mem_append_right _ (List.mem_append_left _ (List.mem_append_left _ hb)))).1;omega) X8a;obtain ⟨d09,d19,d29,d39⟩:=X9.c4;have zx9:=X9.frozen;have R9:=zH hA9;have O9:=zH hO9;clear hA9 hO9 hN9)
         | fail)
        all_goals
         go_wp2
         go_meet
         have hr:=(Acc.ofOwn R9.out).rd (by decide)
         rw [List.map_append] at hr
         obtain ⟨f9,hr9,hf9⟩:=CAcc.setW hk HCA7.out hr O9.out (fun b hb=>List.mem_append_left _ hb) (fun b hb=>by
          rcases List.mem_append.1 hb with hb | hb
          ·exact (R9.out.ownlt b (by simpa using hb)).1
          ·rw [List.flatten_append] at hb
           rcases List.mem_append.1 hb with hb | hb
           ·exact (HLT.out b (List.mem_append_right _ (List.mem_append_left _ (List.mem_append_right _ hb)))).1
           ·have:=(HA7.out.ownlt b (by simpa using hb)).1
            omega)
         exact DCF.fld T9 hgc X9 2 (.slice a9 (L.length + 1) c9) rfl hr9 (fun b hb=>by have:=hf9 b hb;omega) (csm_w HC.out (by have:=HC.out.2.2.1;simp only [List.length_map] at this;simp;omega) (fun z hz=>by
          rcases List.mem_append.1 hz with hz | hz
          ·have:=HC.out.2.2.2.1 z hz;omega
          ·have e:z = p7:=by simpa using hz
           rw [e];omega))
       ·by_cases e3:r = 3
        ·subst e3
         have hlL:L.length<=500:=by have:=HC.out.2.2.1;simp only [List.length_map] at this;exact this
         by_cases hL0:0 < L.length
         ·obtain ⟨gs,cc,u,ev,hcl,hc0,hfz,hA0,hf0,hgsB⟩:=CA6.aw.row0 hL0
          injection ev with ev1 ev2 ev3
          subst ev1
          subst ev3
          clear ev2
          obtain ⟨q0,hq0⟩:∃ q0,q0 = (L[0]'hL0).l:=⟨_,rfl⟩
          have hq8:q0.length<=500:=by rw [hq0];exact HC.out.2.2.2.1 _ (List.mem_map.2 ⟨_,List.getElem_mem _,rfl⟩)
          rw [<- hq0] at hA0
          obtain ⟨au,cu,rfl⟩:=hA0.form
          have Hq0:=zH hq0
          have hgl:gs < W6.heap.size:=(CA6.aw.ownlt gs rfl).2
          have hL0I:(0:Int) < (L.length:Int):=by omega
          have hu0:∀ b∈(Value.slice au q0.length cu).ownBlock.toList,b∈fw.flatten:=fun b hb=>by
           obtain ⟨h0,e0⟩:=List.getElem?_eq_some_iff.1 hf0
           exact List.mem_flatten.2 ⟨_,List.getElem_mem h0,by rw [e0];exact hb⟩
          have Hu0:=zH hu0
          have hsep:gs ∉ (Value.slice au q0.length cu).ownBlock.toList:=fun hm=>CA6.aw.apart gs rfl (hu0 gs hm)
          have Hsep:=zH hsep
          have hlen0:q0.length + 1<=1073741824:=by omega
          have kal0:Only [] W6 (W6.alloc (.cells #[.int .i64 1] 2)):=zO.alloc _
          have c0a:=kal0.cell (p:=⟨gs,0,none⟩) (by simp) hc0
          have d2a:=(X7.keep kal0).cell 2 rfl
          have hgsx:gs ≠ w.heap.size + 2:=by have:=CA6.b0;omega
          have HCA6':=zH CA6
          clear hq0 hu0 hsep CA6 HCA
          go_upto_region 22 with fail
          go_region_law (first
           | (refine Zei rfl (.tmp 84) (.tmp 85) 27 rfl 0 2 i0 _ Tryz.underlying27 hi hz0 hz1 hz2 rfl W6 (.slice au q0.length cu) q0 rfl hA0 zC (Nat.zero_le _) _ 1 1 rfl (lit1 _ _ _ rfl) (by unfold I64;omega) hlen0 ?_;intro v9 w9 hA9 hO9 hN9;obtain ⟨a9,c9,rfl⟩:=hA9.form;rw [List.length_append,List.length_singleton] at hA9 hN9;have kal:=ka_of (w:=W6) hO9 zC;have X9w:=(X7.keep kal).only hO9 (fun hm=>by have:=(HLT.out _ (List.mem_append_right _ (List.mem_append_left _ (List.mem_append_right _ (Hu0.out _ hm))))).1;omega);have d2w:=X9w.cell 2 rfl;have c09:=hO9.cell (p:=⟨gs,0,none⟩) Hsep.out (kal.cell (by simp) hc0);have z09:=Zdm (Zdm hfz kal hgl (by simp)) hO9 (Nat.lt_of_lt_of_le hgl kal.size) Hsep.out;have HA9:=zH hA9;have O9:=zH hO9;have N9:=zH hN9;clear hA9 hO9 hN9)
           | fail)
          all_goals
           go_wp2
           go_meet
           have T6a:=T6.keep hgc kal
           have X7a:=X7.keep kal
           have CA6a:=HCA6'.out.keep kal
           have hA9':AccI 0 2 w9 (.slice a9 (q0.length + 1) c9) ((L[0]'hL0).l ++ [1]):=by rw [<- Hq0.out];exact HA9.out
           obtain ⟨hR,hsub⟩:=Acc.put0 HCA6'.out.aw HCA6'.out.fwF hL0 (u:=.slice au q0.length cu) hf0 kal hA9' O9.out N9.out (by rw [c09];rfl)
           have kst:Only [gs] w9 (w9.setCell ⟨gs,0,none⟩ (.slice a9 (q0.length + 1) c9)):=zO.setCell (by simp) _
           have hO:=(O9.out.mono (fun b hb _=>List.mem_append_right [gs] hb)).trans (kst.mono (fun b hb _=>List.mem_append_left _ hb))
           have hFw:∀ b∈[gs] ++ (Value.slice au q0.length cu).ownBlock.toList,b∈(Value.slice (some ⟨gs,0,none⟩) L.length c2).ownBlock.toList ++ fw.flatten:=fun b hb=>by
            rcases List.mem_append.1 hb with hb | hb
            ·exact List.mem_append_left _ (by simpa [Value.ownBlock] using hb)
            ·exact List.mem_append_right _ (Hu0.out b hb)
           have hFB:∀ b∈[gs] ++ (Value.slice au q0.length cu).ownBlock.toList,B<=b:=fun b hb=>(HLT.out b (List.mem_append_right _ (List.mem_append_left _ (hFw b hb)))).1
           obtain ⟨T9,X9⟩:=T6a.fin hgc hO (fun b hb=>by have:=hFB b hb;omega) X7a
           obtain ⟨f9,hr9,hf9⟩:=CAcc.setW hk CA6a hR hO hFw (fun b hb=>by
            rcases List.mem_append.1 hb with hb | hb
            ·exact hFB b (List.mem_append_left _ hb)
            ·rcases hsub b hb with hb | hb
             ·exact (HLT.out b (List.mem_append_right _ (List.mem_append_left _ (List.mem_append_right _ hb)))).1
             ·have:=kal.size;omega)
           exact ⟨T9,_,_,_,_,_,_,_,_,_,_,f9,X9,hr9,fun b hb=>by have:=hf9 b hb;omega,csm_w HC.out (by simp;omega) (fun z hz=>by
            rcases List.mem_or_eq_of_mem_set hz with hz | rfl
            ·have:=HC.out.2.2.2.1 z hz;omega
            ·rw [<- Hq0.out,List.length_append,List.length_singleton];omega)⟩
         ·have hL00:L.length = 0:=by omega
          go_wp2
          go_meet
          exact ⟨T6,⟨k,n,L.map OwnI.l,ts⟩,_,_,_,_,_,_,_,_,_,_,X7,HCA.out.rep hk,fun b hb=>by have:=(HLT.out b hb).1;omega,HC.out.mono⟩
        ·have e4:r = 4:=by omega
         subst e4
         have hlT:ts.length<=500:=HC.out.2.2.2.2
         go_upto_region 24 with fail
         go_region_law (first
          | (go_simp;first
          | (go_at_call 39;(with_reducible refine (Zhi g fc l [.int .i64 x.points,.string x.names,.slice Ap x.moves.length Cp] x fp _ (T6.sr.keep zC) hl (zK hx6 zC) hgx).mono ?_);rintro en w7 ⟨v7,L7,g7,rfl,hA7,hF7,l7,sm7,D7,K7⟩;obtain ⟨a7,c7,rfl⟩:=hA7.form;have K67:Only [g] W6 w7:=Only.trans zC K7;have T7:=T6.step hgc K67 D7;have X8:=X7.only K67 (by simp;omega);have CA7:=CA6.only K67 hgB;obtain ⟨d07,d17,d27,d37⟩:=X8.c4;have zx7:=X8.frozen;have hB7:B<=w7.heap.size:=Nat.le_trans hB6 K67.size;have HCA7:=zH CA7;have A7:=CA7.at_.low3 (Nat.le_trans CA7.b0 CA7.b1);have HF7:=zH (show ∀ b∈g7.flatten,W6.heap.size<=b from fun b hb=>by have:=hF7.ge b hb;first | omega | (simp at this;omega));have S7:=zH sm7;clear CA7 hF7 sm7))
          | (refine Zun rfl (.tmp 91) (.tmp 94) 28 rfl B 105 m0 _ 72 Tryz.underlying28 hm0 hmz hm1 hm2 rfl (by decide) (by decide) w7 (.slice a3 ts.length c3) ts ft rfl A7 zC hB7 _ 105 (.slice a7 L7.length c7) L7 g7 rfl (hA7.keep zC) (Zti _) ?hap (by omega) ?_;(case hap=>(intro b hb he;have h1:=HF7.out b hb;have h2:=(HLT.out b (List.mem_append_right _ (List.mem_append_right _ (List.mem_append_left _ (by simp [he]))))).2;omega));intro v9 w9 hA9 hO9 hN9;obtain ⟨a9,c9,rfl⟩:=hA9.form;rw [List.length_append] at hA9 hN9;obtain ⟨T9,X9⟩:=(T7.keep hgc (show Only [] w7 _ from zC)).fin hgc hO9 (fun b hb=>by have:=(HLT.out b (List.mem_append_right _ (List.mem_append_right _ (List.mem_append_left _ hb)))).1;omega) (X8.keep zC);obtain ⟨d09,d19,d29,d39⟩:=X9.c4;have zx9:=X9.frozen;have R9:=zH hA9;have O9:Only (Value.slice a3 ts.length c3).ownBlock.toList w7 w9:=(Only.trans ((show Only [] w7 _ from zC).weaken _) hO9);have HO9:=zH O9;clear hA9 hO9 hN9 O9)
          | fail)
         all_goals
          go_wp2
          go_meet
          have hr:=R9.out.rd (by decide)
          obtain ⟨f9,hr9,hf9⟩:=CAcc.setT hk HCA7.out hr HO9.out (fun b hb=>List.mem_append_left _ hb) (fun b hb=>by
           rcases List.mem_append.1 hb with hb | hb
           ·exact (R9.out.ownlt b (by simpa using hb)).1
           ·rw [List.flatten_append] at hb
            rcases List.mem_append.1 hb with hb | hb
            ·exact (HLT.out b (List.mem_append_right _ (List.mem_append_right _ (List.mem_append_right _ hb)))).1
            ·have:=HF7.out b hb
             omega)
          exact DCF.fld T9 hgc X9 3 (.slice a9 (ts.length + L7.length) c9) rfl hr9 (fun b hb=>by have:=hf9 b hb;omega) (csm_t HC.out l7 S7.out)
    case rest=>
     obtain ⟨W9,hnew⟩:∃ W,W = wc:=⟨_,rfl⟩
     subst hnew
     obtain ⟨T9,DX9⟩:=hcut
     clear HCA CA6 T6 X7 hx6 hk
     obtain ⟨⟨k,n,ws,ts⟩,A1,n1,C1,A2,n2,C2,A3,n3,C3,f,X9,hr,hf,HS⟩:=DX9
     have HR:=zH hr
     have Hf:=zH hf
     refine (show ∀ a w,Code.wp Tryz.prog _ _ a w->_ from by assumption) _ _ ?_
     obtain ⟨d0,d1,d2,d3⟩:=X9.c4
     have g0:=T9.rs.cell 0 rfl;have g1:=T9.rs.cell 1 rfl;have g2:=T9.rs.cell 2 rfl;have g3:=T9.rs.cell 3 rfl;have zb:=T9.rs.frozen
     go_wp2
     have Yf:=T9.rs.set4 (.int .i64 k) (.slice A1 n1 C1) (.slice A2 n2 C2) (.slice A3 n3 C3)
     obtain ⟨q0,q1,q2,q3⟩:=Yf.c4
     exact bodyPost_ret (v:=.agg #[.int .i64 k,.slice A1 n1 C1,.slice A2 n2 C2,.slice A3 n3 C3]) (by simp [results,Tryz.results16,go_sem,q0,q1,q2,q3]) rfl (DCR.mk T9 hgc HR.out Hf.out HS)
theorem fall {w W V:World} {g:Nat} (h:Only [] w W) (ho:Only [g] W V) (hg:w.heap.size<=g):Only [] w V:=h.then_ ho (fun b hb hl=>by simp at hb;omega)
def DCC (w:World) (e:Ending) (w':World):Prop:=
 ∃ (n:Int) (nm:ByteArray) (am:Option Addr) (cm:Nat) (gs:List (List Int)) (fp:List Nat) (aS:Option Addr) (cS:Nat) (s:List Int) (fs:List Nat) (c:Certificate) (A1 A2 A3:Option Addr) (n1 n2 n3 C1 C2 C3:Nat) (f:List Nat),e = .returned (.tuple #[.agg #[.int .i64 n,.string nm,.slice am gs.length cm],.slice aS s.length cS,.agg #[.int .i64 c.kind,.slice A1 n1 C1,.slice A2 n2 C2,.slice A3 n3 C3]])/\Rp.rep w' [.int .i64 n,.string nm,.slice am gs.length cm] (⟨n,nm,gs⟩:Puzzle) fp/\Rd w' (.slice aS s.length cS) s fs/\Rp.rep w' [.int .i64 c.kind,.slice A1 n1 C1,.slice A2 n2 C2,.slice A3 n3 C3] c f/\CSm 1000 c/\Only [] w w'
theorem DCC.mk {w V:World} {n:Int} {nm:ByteArray} {am:Option Addr} {cm:Nat} {gs:List (List Int)} {fp:List Nat} {aS:Option Addr} {cS:Nat} {s:List Int} {fs:List Nat} {c:Certificate} {A1 A2 A3:Option Addr} {n1 n2 n3 C1 C2 C3:Nat} {f:List Nat} {x0 x1 x2 y0 y1 y2 y3:Value} (k:Only [] w V) (R0:Blk V w.heap.size [x0,x1,x2]) (R1:Blk V (w.heap.size + 1) [y0,y1,y2,y3])
  (hp:Rp.rep V [.int .i64 n,.string nm,.slice am gs.length cm] (⟨n,nm,gs⟩:Puzzle) fp) (hfp:∀ b∈fp,w.heap.size + 2<=b) (hs:Rd V (.slice aS s.length cS) s fs) (hfs:∀ b∈fs,w.heap.size + 2<=b) (hr:Rp.rep V [.int .i64 c.kind,.slice A1 n1 C1,.slice A2 n2 C2,.slice A3 n3 C3] c f) (hf:∀ b∈f,w.heap.size + 2<=b) (hc:CSm 1000 c) :
  Blk ((((((((V.setCell ⟨w.heap.size,0,none⟩ (.int .i64 n)).setCell ⟨w.heap.size,1,none⟩ (.string nm)).setCell ⟨w.heap.size,2,none⟩ (.slice am gs.length cm)).setCell ⟨w.heap.size + 1,0,none⟩ (.int .i64 c.kind)).setCell ⟨w.heap.size + 1,1,none⟩ (.slice A1 n1 C1)).setCell ⟨w.heap.size + 1,2,none⟩ (.slice A2 n2 C2)).setCell ⟨w.heap.size + 1,3,none⟩ (.slice A3 n3 C3))) w.heap.size [.int .i64 n,.string nm,.slice am gs.length cm]/\Blk ((((((((V.setCell ⟨w.heap.size,0,none⟩ (.int .i64 n)).setCell ⟨w.heap.size,1,none⟩ (.string nm)).setCell ⟨w.heap.size,2,none⟩ (.slice am gs.length cm)).setCell ⟨w.heap.size + 1,0,none⟩ (.int .i64 c.kind)).setCell ⟨w.heap.size + 1,1,none⟩ (.slice A1 n1 C1)).setCell ⟨w.heap.size + 1,2,none⟩ (.slice A2 n2 C2)).setCell ⟨w.heap.size + 1,3,none⟩ (.slice A3 n3 C3))) (w.heap.size + 1) [.int .i64 c.kind,.slice A1 n1 C1,.slice A2 n2 C2,.slice A3 n3 C3]/\DCC w (.returned (.tuple #[.agg #[.int .i64 n,.string nm,.slice am gs.length cm],.slice aS s.length cS,.agg #[.int .i64 c.kind,.slice A1 n1 C1,.slice A2 n2 C2,.slice A3 n3 C3]])) ((((((((V.setCell ⟨w.heap.size,0,none⟩ (.int .i64 n)).setCell ⟨w.heap.size,1,none⟩ (.string nm)).setCell ⟨w.heap.size,2,none⟩ (.slice am gs.length cm)).setCell ⟨w.heap.size + 1,0,none⟩ (.int .i64 c.kind)).setCell ⟨w.heap.size + 1,1,none⟩ (.slice A1 n1 C1)).setCell ⟨w.heap.size + 1,2,none⟩ (.slice A2 n2 C2)).setCell ⟨w.heap.size + 1,3,none⟩ (.slice A3 n3 C3))):=by
 have k0:=Zfe V w.heap.size (.int .i64 n) (.string nm) (.slice am gs.length cm)
 have k1:=Zdb ((((V.setCell ⟨w.heap.size,0,none⟩ (.int .i64 n)).setCell ⟨w.heap.size,1,none⟩ (.string nm)).setCell ⟨w.heap.size,2,none⟩ (.slice am gs.length cm))) (w.heap.size + 1) (.int .i64 c.kind) (.slice A1 n1 C1) (.slice A2 n2 C2) (.slice A3 n3 C3)
 have S0:=R0.set3 (.int .i64 n) (.string nm) (.slice am gs.length cm)
 have S1:=(R1.only k0 (by simp)).set4 (.int .i64 c.kind) (.slice A1 n1 C1) (.slice A2 n2 C2) (.slice A3 n3 C3)
 refine ⟨S0.only k1 (by simp),S1,n,nm,am,cm,gs,fp,aS,cS,s,fs,c,A1,A2,A3,n1,n2,n3,C1,C2,C3,f,rfl,Rp.only (Rp.only hp k0 fun b hb hm=>?_) k1 fun b hb hm=>?_,Rp.only (Rp.only hs k0 fun b hb hm=>?_) k1 fun b hb hm=>?_,Rp.only (Rp.only hr k0 fun b hb hm=>?_) k1 fun b hb hm=>?_,hc,(k.then_ k0 fun b hb hl=>?_).then_ k1 fun b hb hl=>?_⟩
 ·have:=hfp b hb;simp at hm;omega
 ·have:=hfp b hb;simp at hm;omega
 ·have:=hfs b hb;simp at hm;omega
 ·have:=hfs b hb;simp at hm;omega
 ·have:=hf b hb;simp at hm;omega
 ·have:=hf b hb;simp at hm;omega
 ·simp at hb;omega
 ·simp at hb;omega
set_option maxHeartbeats 16000000 in
theorem Zov (v:Value) (l:List UInt8) (fc:List Nat) (w:World) (h:Rd w v l fc) (hl:l.length<=4096) :
  Calls Tryz.prog 5 #[v] w (DCC w):=by
 have kw:Only [] w ((w.alloc (.cells #[.int .i64 0,.string ⟨#[]⟩,.slice none 0 0] 26)).alloc (.cells #[.int .i64 0,.slice none 0 0,.slice none 0 0,.slice none 0 0] 30)):=(zO.alloc _).alloc _
 have R0:=(Blk.new w [.int .i64 0,.string ⟨#[]⟩,.slice none 0 0] 26).keep (zO.alloc (.cells #[.int .i64 0,.slice none 0 0,.slice none 0 0,.slice none 0 0] 30))
 have R1:=Blk.new (w.alloc (.cells #[.int .i64 0,.string ⟨#[]⟩,.slice none 0 0] 26)) [.int .i64 0,.slice none 0 0,.slice none 0 0,.slice none 0 0] 30
 have e1:(w.alloc (.cells #[.int .i64 0,.string ⟨#[]⟩,.slice none 0 0] 26)).heap.size = w.heap.size + 1:=by simp
 have e2:((w.alloc (.cells #[.int .i64 0,.string ⟨#[]⟩,.slice none 0 0] 26)).alloc (.cells #[.int .i64 0,.slice none 0 0,.slice none 0 0,.slice none 0 0] 30)).heap.size = w.heap.size + 2:=by simp
 rw [e1] at R1
 have hv0:=zK h kw
 go_enter Tryz.func5,Tryz.ntmps5
 go_upto_region 1 with fail
 rw [show (w.alloc (.cells #[.int .i64 0,.string ⟨#[]⟩,.slice none 0 0] 26)).heap.size = w.heap.size + 1 from e1] at *
 obtain ⟨W0,hW0⟩:∃ W,W = ((w.alloc (.cells #[.int .i64 0,.string ⟨#[]⟩,.slice none 0 0] 26)).alloc (.cells #[.int .i64 0,.slice none 0 0,.slice none 0 0,.slice none 0 0] 30)):=⟨_,rfl⟩
 rw [<- hW0] at kw R0 R1 e2 hv0 ⊢
 clear hW0 e1
 go_upto_region 3 with (first
  | (go_at_call 14;(with_reducible refine (Zol v l fc W0 hv0 hl).mono ?_);rintro e w1 ⟨g,rfl,D1,hg,t1⟩;have R01:=R0.keep t1;have R11:=R1.keep t1)
  | (go_at_call 15;(with_reducible refine (Zgy g fc l w1 D1 hl).mono ?_);rintro e w2 ⟨n,nm,vm,gs,fp,vs,s,fs,rfl,hn,nl,rm,gem,l9,rs,ges,D2,K2⟩;obtain ⟨am,cm,_,_,rfl,-,-⟩:=rm.open_;obtain ⟨aS,cS,rfl,-⟩:=id rs.ints;have R02:=R01.only K2 (by simp;omega);have R12:=R11.only K2 (by simp;omega))
  | fail)
 have kal:Only [] w2 (w2.alloc (.cells #[.int .i64 n,.string nm,.slice am gs.length cm] 26)):=zO.alloc _
 have hg1:=D1.lt
 have hs1:=t1.size
 have hs2:=K2.size
 have X2:=Blk.new w2 [.int .i64 n,.string nm,.slice am gs.length cm] 26
 have D3:=D2.keep kal
 have R03:=R02.keep kal
 have R13:=R12.keep kal
 have hx:Rp.rep (w2.alloc (.cells #[.int .i64 n,.string nm,.slice am gs.length cm] 26)) [.int .i64 n,.string nm,.slice am gs.length cm] (⟨n,nm,gs⟩:Puzzle) fp:=zK (PzR.rep hn nl rm) kal
 have hs:=zK rs kal
 have hgx:g ∉ fp:=fun hm=>by have:=gem g hm;omega
 have hgs:g ∉ fs:=fun hm=>by have:=ges g hm;omega
 have k3:Only [] w (w2.alloc (.cells #[.int .i64 n,.string nm,.slice am gs.length cm] 26)):=(fall (kw.trans t1) K2 (by omega)).alloc _
 have hgg:W0.heap.size<=g:=hg
 have gem':∀ b∈fp,w.heap.size + 2<=b:=fun b hb=>by have:=gem b hb;omega
 have ges':∀ b∈fs,w.heap.size + 2<=b:=fun b hb=>by have:=ges b hb;omega
 have Hgem:=zH gem';have Hges:=zH ges'
 obtain ⟨W2,hW2⟩:∃ W,W = w2.alloc (.cells #[.int .i64 n,.string nm,.slice am gs.length cm] 26):=⟨_,rfl⟩
 obtain ⟨pb,hpb⟩:∃ pb,pb = w2.heap.size:=⟨_,rfl⟩
 rw [<- hW2] at X2 D3 R03 R13 hx hs k3 ⊢
 rw [<- hpb] at X2 ⊢
 have hpg:g < pb:=by omega
 have hpw:w.heap.size + 2<=pb:=by omega
 have hpl:pb < W2.heap.size:=X2.lt
 clear hW2 hpb kal D1 D2 R0 R1 R01 R11 R02 R12 t1 K2 kw hv0 hs1 hs2 hg rm rs gem ges gem' ges' h
 obtain ⟨c0,c1,c2⟩:=X2.c3
 have hm9:(⟨n,nm,gs⟩:Puzzle).moves.length<=1000:=by show gs.length<=1000;omega
 have hdx:=zH (show ∀ b∈fp,b ∉ [g] from fun b hb hm=>hgx (by simp at hm;subst hm;exact hb))
 have hds:=zH (show ∀ b∈fs,b ∉ [g] from fun b hb hm=>hgs (by simp at hm;subst hm;exact hb))
 obtain ⟨z0,z1,z2⟩:=R03.c3;have zf:=R03.frozen
 obtain ⟨u0,u1,u2,u3⟩:=R13.c4;have uf:=R13.frozen
 go_region_law (first
  | (go_simp;go_at_call 16;(with_reducible refine (Zio g fc l [.int .i64 n,.string nm,.slice am gs.length cm] ⟨n,nm,gs⟩ fp (.slice aS s.length cS) s fs _ (D3.keep zC) hl (zK hx zC) hgx (zK hs zC) hgs hm9).mono ?_);rintro en w6 ⟨c,A1,n1,C1,A2,n2,C2,A3,n3,C3,f,rfl,rd6,ged,csd,D7,K7⟩;have K56:Only [g] W2 w6:=Only.trans zC K7;have X6:=X2.only K56 (by simp;omega);have R06:=R03.only K56 (by simp;omega);have R16:=R13.only K56 (by simp;omega);obtain ⟨c06,c16,c26⟩:=X6.c3;obtain ⟨z06,z16,z26⟩:=R06.c3;have zf6:=R06.frozen;obtain ⟨u06,u16,u26,u36⟩:=R16.c4;have uf6:=R16.frozen)
  | fail)
 all_goals
  go_wp2
  have ged':∀ b∈f,w.heap.size + 2<=b:=fun b hb=>by have h1:=ged b hb;first | omega | (simp at h1;omega)
  obtain ⟨q0,q1,hD⟩:=DCC.mk (c:=c) (fall k3 K56 (by omega)) R06 R16 (Rp.only hx K56 hdx.out) Hgem.out (Rp.only hs K56 hds.out) Hges.out rd6 ged' csd
  obtain ⟨q00,q01,q02⟩:=q0.c3
  obtain ⟨q10,q11,q12,q13⟩:=q1.c4
  exact bodyPost_ret (v:=.tuple #[.agg #[.int .i64 n,.string nm,.slice am gs.length cm],.slice aS s.length cS,.agg #[.int .i64 c.kind,.slice A1 n1 C1,.slice A2 n2 C2,.slice A3 n3 C3]]) (by simp [results,Tryz.results5,go_sem,q00,q01,q02,q10,q11,q12,q13]) rfl hD
def solB (x:Puzzle) (s l:List Int):Bool:=validW x.moves.length l && decide (appW x s l = PM.pts x.points.toNat)
theorem appW_pn {x:Puzzle} {s l:List Int} (h:stateB x s = true) (hl:validW x.moves.length l = true):PM.PN x.points.toNat (appW x s l):=by
 obtain ⟨-,a,b,c⟩:=Zav h
 exact c.comp (evW_pn b l (Zex a hl).2)
theorem Zry {x:Puzzle} {s t:List Int} (h:stateB x s = true) (ht:PM.PN x.points.toNat t):stateB x t = true:=by
 have h1:=(Zav h).1
 unfold stateB at h ⊢
 rw [Bool.and_eq_true] at h ⊢
 exact ⟨h.1,(Zdq h1.1 h1.2).2 ht⟩
theorem eqV_dec' {α:Type} [DecidableEq α] (a b:α):eqV a b = decide (a = b):=by
 by_cases h:a = b
 ·rw [eqV_yes h,decide_eq_true h]
 ·rw [eqV_no h,decide_eq_false h]
set_option maxHeartbeats 1000000 in
theorem Zmm (v:Value) (p:List Int) (fp:List Nat) (w:World) (h:Rd w v p fp) :
  Calls Tryz.prog 47 #[v] w fun e w'=>e = .returned (.bool (decide (p = PM.pts p.length)))/\Only [] w w':=by
 obtain ⟨a,cap,rfl,hI⟩:=h.ints
 have hb:=hI.bound
 go_enter Tryz.func47,Tryz.ntmps47
 go_wp2
 go_loopw [7] (fun i wr=>∃ j:Nat,j<=p.length/\i = .int .i64 j/\(∀ k (hk:k < p.length),k < j->p[k] = (k:Int))/\Only [] w wr)
  (fun i _=>p.length - (intOf i).toNat)
 case atStart=>exact ⟨0,Nat.zero_le _,rfl,fun k _ h=>absurd h (Nat.not_lt_zero _),Only.refl _ _⟩
 case round=>
  obtain ⟨j,hj,rfl,hr,hK⟩:=hrel
  have Hr:=zH hr
  clear hr
  by_cases hlt:j < p.length
  ·obtain ⟨b,off,rfl,-,hc0⟩:=hI.at_ j hlt
   have hc:=hK.cell (by simp) hc0
   clear hc0
   by_cases he:p[j] = (j:Int)
   ·have hne:((j:Int) != p[j]) = false:=by simp [he]
    have He:=zH he
    clear he
    go_wp2
    go_roundw
    case rel=>exact ⟨j + 1,by omega,by go_num,fun k hk hkj=>by
     by_cases hk2:k < j
     ·exact Hr.out k hk hk2
     ·obtain rfl:k = j:=by omega
      exact He.out,hK⟩
    case measure=>simp [intOf];omega
   ·have hne:((j:Int) != p[j]) = true:=by simp;exact fun e=>he e.symm
    have hno:p ≠ PM.pts p.length:=fun e=>he (by
     have h1:=PM.pts_get p.length j (by rw [PM.pts_len];exact hlt)
     rw [<- h1]
     exact List.getElem_of_eq e hlt)
    have Hno:=zH hno
    clear he hno
    go_wp2
    go_ret
    exact ⟨Zaa (decide_eq_false Hno.out).symm,hK⟩
  ·have hall:p = PM.pts p.length:=by
    apply List.ext_getElem (by rw [PM.pts_len])
    intro k h1 h2
    rw [PM.pts_get,Hr.out k h1 (by omega)]
   have Hall:=zH hall
   clear hall
   go_wp2
   go_ret
   exact ⟨Zaa (decide_eq_true Hall.out).symm,hK⟩
set_option maxHeartbeats 2000000 in
theorem Zch (cs:List Value) (x:Puzzle) (fp:List Nat) (vs vl:Value) (s l:List Int) (fs fl:List Nat) (w:World) (h:Rp.rep w cs x fp) (hs:Rd w vs s fs) (hl:Rd w vl l fl) (hst:stateB x s = true) :
  Calls Tryz.prog 19 #[.agg cs.toArray,vs,vl] w fun e w'=>e = .returned (.bool (solB x s l))/\Only [] w w':=by
 have h0:=h
 obtain ⟨v2,rfl,p0,p1,h2⟩:=h
 have hml:=(Zav hst).2.1
 have X0:=Blk.new w [.int .i64 x.points,.string x.names,v2] 26
 simp only [List.toArray] at X0
 rcases hq:validW x.moves.length l
 ·have Hf:=zH (by unfold solB;rw [hq];rfl:solB x s l = false)
  go_enter Tryz.func19,Tryz.ntmps19
  go_wp2_with ((go_at_call 46;(with_reducible refine (Zgi [.int .i64 x.points,.string x.names,v2] x _ vl l _ _ (zK h0 zA) (zK hl zA) (by omega)).mono ?_);rintro e w1 ⟨he,t1⟩;rw [hq] at he;subst he))
  go_ret
  exact ⟨Zaa Hf.out.symm,zA⟩
 ·have hap:=appW_pn hst hq
  have Hf:=zH (by unfold solB;rw [hq,Bool.true_and,hap.1]:solB x s l = decide (appW x s l = PM.pts (appW x s l).length))
  have Hlt:=zH (Zex hml hq).2
  clear hap
  go_enter Tryz.func19,Tryz.ntmps19
  go_wp2_with (first
   | (go_at_call 46;(with_reducible refine (Zgi [.int .i64 x.points,.string x.names,v2] x _ vl l _ _ (zK h0 zA) (zK hl zA) (by omega)).mono ?_);rintro e w1 ⟨he,t1⟩;rw [hq] at he;subst he;have X1:=X0.keep t1;obtain ⟨y0,y1,y2⟩:=X1.c3)
   | (go_at_call 48;(with_reducible refine (Zou [.int .i64 x.points,.string x.names,v2] x _ vs vl s l _ _ _ (zK h0 zA) (zK hs zA) (zK hl zA) hst Hlt.out).mono ?_);rintro e w2 ⟨u2,f2,rfl,r2,F2,t2⟩)
   | (go_at_call 47;(with_reducible refine (Zmm u2 (appW x s l) _ _ (zK r2 zA)).mono ?_);rintro e w3 ⟨rfl,t3⟩)
   | fail)
  go_ret
  exact ⟨Zaa Hf.out.symm,zA⟩
set_option maxHeartbeats 2000000 in
theorem Zki (cs:List Value) (x:Puzzle) (fp:List Nat) (vs vl:Value) (s l:List Int) (fs fl:List Nat) (w:World) (h:Rp.rep w cs x fp) (hs:Rd w vs s fs) (hl:Rd w vl l fl) (hst:stateB x s = true) (hq:validW x.moves.length l = false) :
  Calls Tryz.prog 97 #[.agg cs.toArray,vs,vl] w fun e w'=>∃ v,e = .returned (.tuple #[v,.bool false])/\Only [] w w':=by
 have h0:=h
 obtain ⟨v2,rfl,p0,p1,h2⟩:=h
 obtain ⟨A2,C2,_,_,rfl,-,-⟩:=h2.open_
 have hml:=(Zav hst).2.1
 have X0:=Blk.new w [.int .i64 x.points,.string x.names,.slice A2 x.moves.length C2] 26
 simp only [List.toArray] at X0
 go_enter Tryz.func97,Tryz.ntmps97
 go_wp2_with (first
  | (go_at_call 23;(with_reducible refine (Zag [.int .i64 x.points,.string x.names,.slice A2 x.moves.length C2] x _ vs s _ _ (zK h0 zA) (zK hs zA)).mono ?_);rintro e w1 ⟨he,t1⟩;rw [hst] at he;subst he;have X1:=X0.keep t1;have y2:=X1.cell 2 rfl)
  | (go_at_call 119;(with_reducible refine (Zgu x.moves.length vl l _ _ (zK hl zA) (by omega) (by omega)).mono ?_);rintro e w2 ⟨he,d2⟩;rw [hq] at he;subst he;have t2:=d2.only [])
  | fail)
 exact bodyPost_ret (v:=.tuple #[.slice (some ⟨w2.heap.size,0,none⟩) 0 0,.bool false]) (by simp [results,Tryz.results97,go_sem]) rfl ⟨_,rfl,zA⟩
set_option maxHeartbeats 2000000 in
theorem Zjr (cs:List Value) (x:Puzzle) (fp:List Nat) (vs vl:Value) (s l:List Int) (fs fl:List Nat) (w:World) (h:Rp.rep w cs x fp) (hs:Rd w vs s fs) (hl:Rd w vl l fl) (hst:stateB x s = true) (hq:validW x.moves.length l = true) :
  Calls Tryz.prog 97 #[.agg cs.toArray,vs,vl] w fun e w'=>∃ v fp',e = .returned (.tuple #[v,.bool true])/\Rd w' v (appW x s l) fp'/\Fresh w.heap.size w' fp'/\Only [] w w':=by
 have h0:=h
 obtain ⟨v2,rfl,p0,p1,h2⟩:=h
 obtain ⟨A2,C2,_,_,rfl,-,-⟩:=h2.open_
 obtain ⟨⟨n1,n20⟩,hml,hmp,hpn⟩:=Zav hst
 have hlt:=(Zex hml hq).2
 have hev:=evW_pn hmp l hlt
 have Hmp:=zH hmp
 have Hpn:=zH hpn
 have Hlt:=zH hlt
 have Hev:=zH hev
 clear hmp hpn hlt hev
 have X0:=Blk.new w [.int .i64 x.points,.string x.names,.slice A2 x.moves.length C2] 26
 simp only [List.toArray] at X0
 go_enter Tryz.func97,Tryz.ntmps97
 go_wp2_with (first
  | (go_at_call 23;(with_reducible refine (Zag [.int .i64 x.points,.string x.names,.slice A2 x.moves.length C2] x _ vs s _ _ (zK h0 zA) (zK hs zA)).mono ?_);rintro e w1 ⟨he,t1⟩;rw [hst] at he;subst he;have X1:=X0.keep t1;have y2:=X1.cell 2 rfl)
  | (go_at_call 119;(with_reducible refine (Zgu x.moves.length vl l _ _ (zK hl zA) (by omega) (by omega)).mono ?_);rintro e w2 ⟨he,d2⟩;rw [hq] at he;subst he;have t2:=d2.only [];have X2:=X1.keep t2;have z0:=X2.cell 0 rfl;have z2:=X2.cell 2 rfl)
  | (go_at_call 133;(with_reducible refine (Znj x.points n1 n20 _ _ x.moves l _ _ _ (zK h2 zA) (zK hl zA) Hmp.out (by omega) Hlt.out).mono ?_);rintro en w3 ⟨v3,f3,rfl,r3,F3,t3⟩)
  | (go_at_call 115;(with_reducible refine (Zbo x.points.toNat _ _ _ _ _ _ _ (zK hs zA) r3 Hpn.out Hev.out (by omega)).mono ?_);rintro en w4 ⟨v4,f4,rfl,r4,F4,t4⟩)
  | fail)
 exact bodyPost_ret (v:=.tuple #[v4,.bool true]) (by simp [results,Tryz.results97,go_sem]) rfl ⟨_,f4,rfl,r4,F4.mono (Only.size (fp:=[]) zA),zA⟩
set_option maxHeartbeats 2000000 in
theorem Zkn (cs:List Value) (x:Puzzle) (fp:List Nat) (vs:Value) (s:List Int) (fs:List Nat) (w:World) (h:Rp.rep w cs x fp) (hs:Rd w vs s fs) (hst:stateB x s = true) :
  Calls Tryz.prog 98 #[.agg cs.toArray,vs] w fun e w'=>e = .returned (.bool (eqV s (PM.pts x.points.toNat)))/\Only [] w w':=by
 have h0:=h
 obtain ⟨v2,rfl,p0,p1,h2⟩:=h
 obtain ⟨n1,n20⟩:=(Zav hst).1
 have X0:=Blk.new w [.int .i64 x.points,.string x.names,v2] 26
 simp only [List.toArray] at X0
 go_enter Tryz.func98,Tryz.ntmps98
 go_wp2_with (first
  | (go_at_call 23;(with_reducible refine (Zag [.int .i64 x.points,.string x.names,v2] x _ vs s _ _ (zK h0 zA) (zK hs zA)).mono ?_);rintro e w1 ⟨he,t1⟩;rw [hst] at he;subst he;have X1:=X0.keep t1;have y0:=X1.cell 0 rfl)
  | (go_at_call 73;(with_reducible refine (Zdj x.points _ (by omega) (by omega)).mono ?_);rintro e w2 ⟨v3,f3,rfl,r3,F3,t3⟩)
  | (go_at_call 134;(with_reducible refine (Zaz vs v3 s (PM.pts x.points.toNat) _ _ _ (zK hs zA) (zK r3 zA)).mono ?_);rintro e w3 ⟨rfl,d3⟩;have t4:=d3.only [])
  | fail)
 go_ret
 exact ⟨rfl,zA⟩
set_option maxHeartbeats 2000000 in
theorem Zcj (cs:List Value) (x:Puzzle) (fp:List Nat) (vs vl:Value) (s l:List Int) (fs fl:List Nat) (w:World) (h:Rp.rep w cs x fp) (hs:Rd w vs s fs) (hl:Rd w vl l fl) (hst:stateB x s = true) :
  Calls Tryz.prog 55 #[.agg cs.toArray,vs,vl] w fun e w'=>e = .returned (.bool (solB x s l))/\Only [] w w':=by
 have h0:=h
 obtain ⟨v2,rfl,p0,p1,h2⟩:=h
 have X0:=Blk.new w [.int .i64 x.points,.string x.names,v2] 26
 simp only [List.toArray] at X0
 rcases hq:validW x.moves.length l
 ·have Hf:=zH (by unfold solB;rw [hq];rfl:solB x s l = false)
  go_enter Tryz.func55,Tryz.ntmps55
  go_wp2_with ((go_at_call 97;(with_reducible refine (Zki [.int .i64 x.points,.string x.names,v2] x _ vs vl s l _ _ _ (zK h0 zA) (zK hs zA) (zK hl zA) hst hq).mono ?_);rintro e w1 ⟨u1,rfl,t1⟩))
  go_ret
  exact ⟨Zaa Hf.out.symm,zA⟩
 ·have hap:=appW_pn hst hq
  have Hf:=zH (by unfold solB;rw [hq,Bool.true_and,eqV_dec']:solB x s l = eqV (appW x s l) (PM.pts x.points.toNat))
  have hst2:=Zry hst hap
  clear hap
  go_enter Tryz.func55,Tryz.ntmps55
  go_wp2_with (first
   | (go_at_call 97;(with_reducible refine (Zjr [.int .i64 x.points,.string x.names,v2] x _ vs vl s l _ _ _ (zK h0 zA) (zK hs zA) (zK hl zA) hst hq).mono ?_);rintro e w1 ⟨u1,f1,rfl,r1,F1,t1⟩;have X1:=X0.keep t1;obtain ⟨y0,y1,y2⟩:=X1.c3)
   | (go_at_call 98;(with_reducible refine (Zkn [.int .i64 x.points,.string x.names,v2] x _ u1 (appW x s l) _ _ (zK h0 zA) (zK r1 zA) hst2).mono ?_);rintro e w2 ⟨rfl,t2⟩)
   | fail)
  go_ret
  exact ⟨Zaa Hf.out.symm,zA⟩
end Go.Proofs.YtjfmkolnleicnaaGreatDoor
