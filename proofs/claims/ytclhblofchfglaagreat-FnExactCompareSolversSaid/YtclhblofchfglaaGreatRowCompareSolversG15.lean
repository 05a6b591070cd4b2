/- The word of the first phase, by the reference (laws 46, 51, 57, 58). -/
import Derived.Test.YtclhblofchfglaaGreatRowCompareSolversG14
import Derived.Test.YtclhblofchfglaaGreatRowCompareSolversG10
import Derived.Test.YtclhblofchfglaaGreatRowCompareSolversG13
import Derived.Deep.RegionHeld3
import Derived.Deep.RegionLaw
namespace Go.Proofs.YtclhblofchfglaaGreat
open Go.RowKit
set_option maxRecDepth 10000
set_option maxHeartbeats 8000000 in
theorem Zjy (cs:List Value) (x:Puzzle) (fp:List Nat) (t:Table) (src:List Int->Bool) (B:Nat) (A1 A2 A3:Option Addr) (n1 n2 n3 C1 C2 C3:Nat) (wh:Bool) (vd:Value) (fd:List Nat) (u:Value) (fu:List Nat) (i0 N:Nat) (w:World) (h:Rp.rep w cs x fp)
  (hS:SrF B w x t (.agg #[.slice A1 n1 C1,.slice A2 n2 C2,.slice A3 n3 C3,.bool wh])) (he:expl x = some t) (h0s:src t.tracked = true) (hvd:Rd w vd (mD x t src) fd) (hi0:i0 < t.patterns.length) (hu:Rd w u (t.patterns.getD i0 []) fu) (hN:(mD x t src).getD i0 0 = N) (hN3:N<=3000) :
  Calls Tryz.prog 72 #[.agg cs.toArray,.agg #[.slice A1 n1 C1,.slice A2 n2 C2,.slice A3 n3 C3,.bool wh],vd,u] w fun e w'=>∃ v fp',e = .returned v/\Rd w' v (oW x (tD x t src) N (t.patterns.getD i0 [])) fp'/\Fresh w.heap.size w' fp'/\Only [] w w':=by
 have h0:=h
 obtain ⟨v2,rfl,p0,p1,h2⟩:=h
 clear p0 p1 h2
 obtain ⟨hb,-⟩:=Zad he
 obtain ⟨q1,q20,q8,-⟩:=Zae hb.v
 have hll:=hb.ll
 obtain ⟨aD,cD,rfl,ID⟩:=hvd.ints
 have hbD:=ID.bound
 have hlD:(mD x t src).length = t.patterns.length:=(mD_F hb).dl
 obtain ⟨D,hDe⟩:∃ D,D = mD x t src:=⟨_,rfl⟩
 have HDe:=zH hDe
 rw [<- hDe] at ID hlD hbD hN ⊢
 have HlD:=zH hlD
 have Hb:=zH hb
 have He:=zH he
 have HN:=zH hN
 have hid0:i0 < D.length:=by omega
 obtain ⟨bD,oD,rfl,-,hcD0⟩:=ID.at_ i0 hid0
 rw [show D[i0] = (N:Int) by rw [<- hN,Zab hid0]] at hcD0
 obtain ⟨T,hT⟩:∃ T,T = tD x t src:=⟨_,rfl⟩
 have HT:=zH hT
 rw [<- hT]
 obtain ⟨nD,hnD⟩:∃ n,n = D.length:=⟨_,rfl⟩
 rw [<- hnD] at hbD ⊢
 have hid1:(i0:Int) < nD:=by omega
 have HnD:=zH hnD
 have hnD3:nD<=3000:=by omega
 clear he hN hb hDe hT hlD hnD hvd
 have X0:Blk (((w.alloc (.cells #[.int .i64 x.points,.string x.names,v2] 33)).alloc (.cells #[.slice A1 n1 C1,.slice A2 n2 C2,.slice A3 n3 C3,.bool wh] 85)).alloc (.cells #[] 2)) w.heap.size [.int .i64 x.points,.string x.names,v2]:=((Blk.new w [.int .i64 x.points,.string x.names,v2] 33).keep (zO.alloc _)).keep (zO.alloc _)
 have Y0:Blk (((w.alloc (.cells #[.int .i64 x.points,.string x.names,v2] 33)).alloc (.cells #[.slice A1 n1 C1,.slice A2 n2 C2,.slice A3 n3 C3,.bool wh] 85)).alloc (.cells #[] 2)) (w.heap.size + 1) [.slice A1 n1 C1,.slice A2 n2 C2,.slice A3 n3 C3,.bool wh]:=(Blk.new_at (w:=w.alloc (.cells #[.int .i64 x.points,.string x.names,v2] 33)) (cs:=[.slice A1 n1 C1,.slice A2 n2 C2,.slice A3 n3 C3,.bool wh]) (by simp)).keep (zO.alloc _)
 obtain ⟨iI,hi,hz0,hz1,hz2⟩:=info_parts Tryz.info2
 obtain ⟨s0,hs0⟩:∃ s0,s0 = t.patterns.getD i0 []:=⟨_,rfl⟩
 rw [<- hs0] at hu
 have Hs0:=zH hs0
 rw [<- hs0]
 clear hs0
 go_enter Tryz.func72,Tryz.ntmps72
 go_upto_region 4 with (first
  | (go_at_call 127;(with_reducible refine (Zcf [.int .i64 x.points,.string x.names,v2] x _ _ (zK h0 zA) (by omega)).mono ?_);rintro e w1 ⟨u1,f1,rfl,r1,F1,t1⟩;obtain ⟨a1,c1,rfl,I1⟩:=r1.ints;have Y1:=Y0.keep t1;obtain ⟨y0,y1,y2,y3⟩:=Y1.c4)
  | (go_at_call 126;(with_reducible refine (sIdx_at x t _ u s0 fu i0 _ (SrF.keep hS zA) He.out (zK hu zA) hi0 Hs0.out.symm).mono ?_);rintro e w2 ⟨rfl,t2⟩;have hcD2:=(show Only [] w w2 from zA).cell (by simp) hcD0)
  | fail)
 have K2:Only [] w w2:=zA
 have X2:=(X0.keep t1).keep t2
 have Y2:=Y1.keep t2
 have I2:=I1.keep t2
 have hz1s:=t1.size
 have hz2s:=t2.size
 simp at hz1s
 obtain ⟨ls,hls⟩:∃ ls,ls = ltrs x.moves.length:=⟨_,rfl⟩
 rw [<- hls] at I2 ⊢
 have Hls:=zH hls
 have hf1:=F1.ge
 have hf1l:=I2.lt
 have A0:AccI w.heap.size 2 w2 (.slice (some ⟨w.heap.size + 2,0,none⟩) 0 0) []:=((AccI.made ((w.alloc (.cells #[.int .i64 x.points,.string x.names,v2] 33)).alloc (.cells #[.slice A1 n1 C1,.slice A2 n2 C2,.slice A3 n3 C3,.bool wh] 85)) w.heap.size 2 (by simp) (by omega)).keep t1).keep t2
 have D0:DWn x t w w2 2 (f1 ++ [w.heap.size,w.heap.size + 1]) w2 (.slice (some ⟨w.heap.size + 2,0,none⟩) 0 0) u [] i0 fu:=by
  refine ⟨A0,by rw [<- Hs0.out];exact zK hu K2,fun b hb he=>?_,K2,fun _ _=>rfl,fun b hb he=>?_,fun b hb=>?_⟩
  ·have:=Rp.lt hu b hb;simp [Value.ownBlock] at he;omega
  ·simp [Value.ownBlock] at he
   simp only [List.mem_append,List.mem_cons,List.not_mem_nil,or_false] at hb
   rcases hb with hb | hb | hb
   ·have:=hf1 b hb;simp at this;omega
   ·omega
   ·omega
  ·simp only [List.mem_append,List.mem_cons,List.not_mem_nil,or_false] at hb
   rcases hb with hb | hb | hb
   ·exact hf1l b hb
   ·omega
   ·omega
 clear X0 Y0 Y1 y0 y1 y2 y3 r1 F1 I1 A0 hls t1 t2 hz1s hf1 hf1l hcD0 hcD2
 go_loopw [3,9,11] (fun s2 o d wr=>∃ (n i:Nat) (f2:List Nat) (dn:List Int),d = .int .i64 n/\n<=3000/\dn.length + n = N/\i < t.patterns.length/\D.getD i 0 = n/\dn ++ oW x T n (t.patterns.getD i []) = oW x T N s0/\DWn x t w w2 2 (f1 ++ [w.heap.size,w.heap.size + 1]) wr o s2 dn i f2)
  (fun _ _ d _=>(intOf d).toNat)
 case atStart=>exact ⟨N,i0,fu,[],rfl,hN3,by simp,hi0,HN.out,by rw [Hs0.out];rfl,D0⟩
 case round=>
  obtain ⟨W3,hnew⟩:∃ W,W = wr:=⟨_,rfl⟩
  subst hnew
  obtain ⟨n,i,f2,dn,rfl,hn3,hlen,hil,hdi,hcat,hD⟩:=hrel
  have Hcat:=zH hcat
  have Hdi:=zH hdi
  have Hlen:=zH hlen
  clear hcat hdi hlen
  by_cases hn:0 < n
  ·obtain ⟨m,hm⟩:∃ m,n = m + 1:=⟨n - 1,by omega⟩
   have hm1:m + 1<=n:=by omega
   have hm2:n<=m + 1:=by omega
   have Hm:=zH hm
   have hdm:(mD x t src).getD i 0 = (m:Int) + 1:=by rw [<- HDe.out,Hdi.out,hm];push_cast;rfl
   obtain ⟨k,j,hDn⟩:=mDown (n:=m) Hb.out h0s hil hdm
   clear hm
   have hk0:k < (ltrs x.moves.length).length:=hDn.hk
   have hkl:k < ls.length:=by rw [Hls.out];exact hk0
   have e9:oW x T (m + 1) (t.patterns.getD i []) = (ltrs x.moves.length)[k]'hk0 :: oW x T m (t.patterns.getD j []):=by rw [HT.out];exact hDn.oW_
   have e8:t.patterns.getD j [] = nxt x (t.patterns.getD i []) ((ltrs x.moves.length)[k]'hk0):=hDn.nx
   have e7:D.getD j 0 = m:=by rw [HDe.out];exact hDn.ds
   have hjp:j < t.patterns.length:=hDn.hj
   have e6:∀ j' (hj':j' < k) (i':Nat),i' < t.patterns.length->t.patterns.getD i' [] = nxt x (t.patterns.getD i []) ((ltrs x.moves.length)[j']'(by omega))->D.getD i' 0 ≠ m:=fun j' hj' i' hi' hx=>by rw [HDe.out];exact (hDn.no j' hj' i' hi' hx).1
   have E9:=zH e9
   have E8:=zH e8
   have E7:=zH e7
   have E6:=zH e6
   clear hDn e9 e8 e7 e6 hdm
   go_wp2
   go_loopw [3,9,12] (fun s2 o c wr=>∃ j':Nat,j'<=k/\c = .int .i64 j'/\s2 = u3/\o = u9/\Only [] W3 wr)
    (fun _ _ c _=>ls.length - (intOf c).toNat)
   case atStart=>exact ⟨0,Nat.zero_le _,rfl,rfl,rfl,Only.refl _ _⟩
   case round=>
    obtain ⟨j',hj',rfl,rfl,rfl,hK⟩:=hrel
    obtain ⟨W4,hnew⟩:∃ W,W = wr:=⟨_,rfl⟩
    subst hnew
    have hD4:=hD.keep hK
    have hjl:j' < ls.length:=by omega
    have I4:=hD4.ints I2 (by intro b hb;simp [hb])
    have hlb:=I4.bound
    obtain ⟨b3,off3,rfl,-,hc3⟩:=I4.at_ j' hjl
    have X4:=hD4.blk X2 (by simp)
    have Y4:=hD4.blk Y2 (by simp)
    obtain ⟨x0,x1,x2⟩:=X4.c3
    have hrd:=hD4.rd
    have K4:=hD4.on
    have hla:ls[j']∈ltrs x.moves.length:=by rw [<- Hls.out];exact List.getElem_mem hjl
    obtain ⟨i',hi',hnx,-,-⟩:=Hb.out.step hil hla
    have hpat:=Zda He.out hil
    have Hrng:=zH (Zaq.1 hpat).2.1
    have hql:(t.patterns.getD i []).length<=1000:=by rw [Zbc He.out hil];omega
    have hI:I64 ls[j']:=by have:=Zas.1 hla;unfold I64;omega
    have HI:=zH hI
    have Hla:=zH hla
    obtain ⟨cur,hcur⟩:∃ cur,cur = t.patterns.getD i []:=⟨_,rfl⟩
    have Hcur:=zH hcur
    rw [<- hcur] at hrd hql hnx
    rw [<- hcur] at Hrng
    clear hpat hla hI hcur
    have Hc:=zH (fun (W:World) (hh:Only [] W4 W)=>Zbj [.int .i64 x.points,.string x.names,v2] x _ u3 cur _ ls[j'] W (zK h0 (K4.trans hh)) (zK hrd hh) Hb.out.v Hla.out Hrng.out hql)
    go_wp2
    go_region_held3 (fun w'=>Only [] W4 w'/\w'.cell? ⟨w.heap.size,0,none⟩ = some (.int .i64 x.points)/\w'.cell? ⟨w.heap.size,1,none⟩ = some (.string x.names)/\w'.cell? ⟨w.heap.size,2,none⟩ = some (v2)/\w'.cell? ⟨b3,off3 + j',none⟩ = some (.int .i64 ls[j'])) (((refine and_of ?_ (fun q_=>⟨q_.ce x0,q_.ce x1,q_.ce x2,q_.ce hc3⟩));first | exact zO.drew | exact (zO.drewN _).drew | exact Only.trans (And.left (by assumption)) (by assumption) | exact Only.alloc (And.left (by assumption)) _ | assumption)) (first | (go_at_call 128;(with_reducible refine (Hc.out _ (And.left (by assumption))).mono ?_);rintro e w5 ⟨u5,f5,rfl,r5,F5,t5⟩;have F5':=F5.mono (((Only.refl [] W4).trans (And.left (by assumption))).size)) | fail)
    have k5:Only [] W4 w5:=(Only.refl [] W4).trans (And.left (by assumption))
    obtain ⟨s',hs'⟩:∃ s',s' = nxt x cur ls[j']:=⟨_,rfl⟩
    rw [<- hs'] at r5 hnx
    have Y5:=Y4.keep k5
    obtain ⟨y0,y1,y2,y3⟩:=Y5.c4
    have I5:=I4.keep k5
    obtain ⟨b3',off3',e3,-,hc5⟩:=I5.at_ j' hjl
    injection e3 with e3;injection e3 with e3 e4;subst e3;subst e4
    have hD5:=hD4.keep k5
    have hKw5:Only [] w w5:=K4.trans k5
    have hdi':i' < D.length:=by rw [HlD.out];exact hi'
    obtain ⟨bD',oD',eD,-,hcD⟩:=(ID.keep hKw5).at_ i' hdi'
    injection eD with eD;injection eD with eD1 eD2;subst eD1;subst eD2
    obtain ⟨d',hd9⟩:∃ d',d' = D[i']:=⟨_,rfl⟩
    have hdg:D.getD i' 0 = d':=by rw [Zab hdi',hd9]
    rw [<- hd9] at hcD
    have hin:(i':Int) < nD:=by have:=HnD.out;omega
    have Hsi:=zH (fun (W:World) (hh:Only [] w5 W)=>sIdx_at x t (.agg #[.slice A1 n1 C1,.slice A2 n2 C2,.slice A3 n3 C3,.bool wh]) u5 s' f5 i' W (SrF.keep hS (hKw5.trans hh)) He.out (zK r5 hh) hi' hnx)
    have Hs':=zH hs'
    have Hnx:=zH hnx
    have Hdg:=zH hdg
    clear x0 x1 x2 hc3 X4 Y4 I4 Hc hrd hs' hnx hd9 hdg
    by_cases hjk:j' = k
    ·subst hjk
     have hjj:t.patterns.getD j [] = s':=by rw [E8.out,Hs'.out,Hcur.out];simp [Hls.out]
     have hij:i' = j:=by
      have a1:=Hb.out.idx hi'
      have a2:=Hb.out.idx hjp
      rw [Hnx.out] at a1
      rw [hjj] at a2
      omega
     have Hjj:=zH hjj
     have hdm:d' = m:=by rw [<- Hdg.out,hij,E7.out]
     subst hdm
     clear hjj hij
     have hdl:dn.length + 1<=1073741824:=by have:=Hlen.out;omega
     have hcmp:((m:Int) == (n:Int) - 1) = true:=by simp;omega
     go_wp2_with (first
      | (go_at_call 126;(with_reducible refine (Hsi.out _ zA).mono ?_);rintro e w6 ⟨rfl,t6⟩;have hc6:=t6.cell (by simp) hc5;have hcD6:=t6.cell (by simp) hcD;have hD6:=hD5.keep t6;have hB6:=hD6.on.size)
      | (at_builtin;refine Zap rfl _ _ 25 rfl w.heap.size 2 iI _ Tryz.underlying25 hi hz0 hz1 hz2 rfl w6 _ dn rfl hD6.acc (zO.alloc _) hB6 w6.heap.size 1 ls[j'] rfl (lit1 w6 _ _ rfl) HI.out hdl ?_;intro v9 w9 hA9 hO9 hP9 hN9)
      | fail)
     have hf5:∀ b∈f5,u9.ownBlock ≠ some b:=fun b hb he=>by
      obtain ⟨fs7,hA7⟩:=hD4.acc
      have:=(hA7.ownlt b he).2
      have:=F5'.ge b hb
      omega
     have hD9:=DWn.step hD6 (zO.alloc _) hA9 hO9 hN9 hP9 (j:=j) (zK (zK (show Rd w5 u5 (t.patterns.getD j []) f5 by rw [Hjj.out];exact r5) t6) (zO.alloc _)) hf5
     exact ⟨⟨m,j,f5,dn ++ [ls[j']],by congr 1;omega,by omega,by have:=Hlen.out;simp;omega,hjp,E7.out,by rw [<- Hcat.out,Hm.out,E9.out];simp [Hls.out],hD9⟩,by simp [intOf];omega⟩
    ·have hne:d' ≠ m:=by rw [<- Hdg.out];exact E6.out j' (by omega) i' hi' (by rw [Hnx.out,Hs'.out,Hcur.out];simp [Hls.out])
     have hcmp:(d' == (n:Int) - 1) = false:=by simp;omega
     clear hne
     go_wp2_with (first
      | (go_at_call 126;(with_reducible refine (Hsi.out _ zA).mono ?_);rintro e w6 ⟨rfl,t6⟩;have hcD6:=t6.cell (by simp) hcD)
      | fail)
     go_roundw
     case rel=>exact ⟨j' + 1,by omega,by go_num,rfl,rfl,hK.trans (k5.trans t6)⟩
     case measure=>simp [intOf];omega
  ·obtain rfl:n = 0:=by omega
   have hfin:dn = oW x T N s0:=by have:=Hcat.out;rwa [show oW x T 0 (t.patterns.getD i []) = [] from rfl,List.append_nil] at this
   have Hfin:=zH hfin
   clear hfin
   go_wp2
   go_ret
   exact ⟨_,_,rfl,by rw [<- Hfin.out];exact hD.acc.rd,hD.acc.fresh,hD.on⟩
def Two (B:Nat) (e:TypeId) (w:World) (o o':Value) (l l':List Int):Prop:=AccI B e w o l/\AccI B e w o' l'/\∀ b,o.ownBlock = some b->o'.ownBlock ≠ some b
theorem Two.keep {B:Nat} {e:TypeId} {w w':World} {o o':Value} {l l':List Int} (h:Two B e w o o' l l') (ho:Only [] w w'):Two B e w' o o' l l':=⟨h.1.keep ho,h.2.1.keep ho,h.2.2⟩
theorem Two.fst {B:Nat} {e:TypeId} {wa wb:World} {o o' v:Value} {l l':List Int} {n:Int} (h:Two B e wa o o' l l') (hA:AccI B e wb v (l ++ [n])) (oA:Only o.ownBlock.toList wa wb) (nA:v.ownBlock = o.ownBlock\/v.ownBlock = some wa.heap.size):Two B e wb v o' (l ++ [n]) l':=by
 refine ⟨hA,h.2.1.only oA (fun g hg hm=>h.2.2 g (by simpa using hm) hg),fun b hb he=>?_⟩
 rcases nA with e | e
 ·exact h.2.2 b (by rw [<- e];exact hb) he
 ·rw [e] at hb;injection hb with hb
  have:=(h.2.1.ownlt b he).2;omega
theorem Two.snd {B:Nat} {e:TypeId} {wa wb:World} {o o' v:Value} {l l':List Int} {n:Int} (h:Two B e wa o o' l l') (hA:AccI B e wb v (l' ++ [n])) (oA:Only o'.ownBlock.toList wa wb) (nA:v.ownBlock = o'.ownBlock\/v.ownBlock = some wa.heap.size):Two B e wb o v l (l' ++ [n]):=by
 refine ⟨h.1.only oA (fun g hg hm=>h.2.2 g hg (by simpa using hm)),hA,fun b hb he=>?_⟩
 rcases nA with e | e
 ·exact h.2.2 b hb (by rw [<- e];exact he)
 ·rw [e] at he;injection he with he
  have:=(h.1.ownlt b hb).2;omega
set_option maxHeartbeats 4000000 in
theorem Zrt (x:Puzzle) (t:Table) (v:Value) (i:Nat) (w:World) (h:Exp w x t v) (he:expl x = some t) (hi:i < t.patterns.length) :
  Calls Tryz.prog 138 #[v,.int .i64 i] w fun e w'=>∃ u1 u2 f1 f2,e = .returned (.tuple #[u1,u2])/\Rd w' u1 (clL x t i (ltrs x.moves.length)) f1/\Rd w' u2 (clS x t i (ltrs x.moves.length)) f2/\(∀ b∈f2,w.heap.size<=b)/\Only [] w w':=by
 obtain ⟨g,M,v2,us,ud,up,uy,un,fm,f1,f2,f3,km,rfl,hB,hp,-,hD,hN,-⟩:=h
 obtain ⟨hb,-⟩:=Zad he
 obtain ⟨q1,q20,q8,-⟩:=Zae hb.v
 obtain ⟨v2',hvv,-,-,h2⟩:=hp
 have e2:v2 = v2':=by simpa using hvv
 subst e2
 obtain ⟨A2,C2,_,_,rfl,-,-⟩:=h2.open_
 obtain ⟨aD,cD,rfl,ID⟩:=hD.ints
 obtain ⟨aN,cN,obN,fpN,rfl,-,SN⟩:=hN.open_
 have hil:i < (t.patterns.map (rowT x t)).length:=by simpa using hi
 obtain ⟨bN,oN,ur,rfl,-,hcN,hur⟩:=SN.atRow i hil
 rw [List.getElem_map] at hur
 have hri:rowT x t t.patterns[i] = rowT x t (t.patterns.getD i []):=by rw [Zab hi]
 rw [hri] at hur
 obtain ⟨row,hrow⟩:∃ row,row = rowT x t (t.patterns.getD i []):=⟨_,rfl⟩
 rw [<- hrow] at hur
 obtain ⟨aR,cR,rfl,IR⟩:=hur.ints
 have hdl:t.distances.length = t.patterns.length:=hb.bi.dl
 have hid:i < t.distances.length:=by omega
 obtain ⟨bD,oD,rfl,-,hcD⟩:=ID.at_ i hid
 obtain ⟨iI,hiI,hzI0,hzI1,hzI2⟩:=info_parts Tryz.info2
 have x2:=hB.cell 2 rfl
 have y4:=hB.cell 4 rfl
 have y8:=hB.cell 8 rfl
 have hll0:=hb.ll
 have hbN:=SN.bound
 have hrl:row.length = (ltrs x.moves.length).length:=by rw [hrow];simp [rowT]
 obtain ⟨np,hnp⟩:∃ np,np = (t.patterns.map (rowT x t)).length:=⟨_,rfl⟩
 rw [<- hnp] at hil hbN y8
 obtain ⟨di,hdi⟩:∃ di,di = t.distances[i]:=⟨_,rfl⟩
 rw [<- hdi] at hcD
 have hid2:i < t.distances.length:=hid
 have Hdi:=zH (show t.distances.getD i 0 = di by rw [hdi,Zab hid])
 have Hb:=zH hb
 have Hrow:=zH hrow
 have Hdl:=zH hdl
 have Hrl:=zH hrl
 clear hnp hdi hdl hrow hrl hri he hb hvv
 go_enter Tryz.func138,Tryz.ntmps138
 go_wp2_with (first
  | (go_at_call 118;(with_reducible refine (Zep x.moves.length _ (by omega)).mono ?_);rintro e w1 ⟨u1,f8,rfl,r1,F1,t1⟩;obtain ⟨a1,c1,rfl,I1⟩:=r1.ints;have y8':=t1.cell (by simp) y8;have hcN':=t1.cell (by simp) hcN)
  | fail)
 obtain ⟨ls,hls⟩:∃ ls,ls = ltrs x.moves.length:=⟨_,rfl⟩
 rw [<- hls] at I1 ⊢
 have Hls:=zH hls
 have hrl2:row.length = ls.length:=by rw [Hrl.out,hls]
 have hll:ls.length<=1000:=by rw [hls,Zel];omega
 have Hrl2:=zH hrl2
 have hr1000:row.length<=1000:=by omega
 clear hls hrl2 r1 F1 Hrl
 go_loopw [6,7,26] (fun o o' k wr=>∃ j:Nat,j<=row.length/\k = .int .i64 j/\Two w1.heap.size 2 wr o o' (clL x t i (ls.take j)) (clS x t i (ls.take j))/\Only [] w1 wr)
  (fun _ _ k _=>row.length - (intOf k).toNat)
 case atStart=>exact ⟨0,Nat.zero_le _,rfl,⟨AccI.nil _ _ _,AccI.nil _ _ _,by simp [Value.ownBlock]⟩,Only.refl _ _⟩
 case round=>
  obtain ⟨W2,hnew⟩:∃ W,W = wr:=⟨_,rfl⟩
  subst hnew
  obtain ⟨j,hj,rfl,hT,hK⟩:=hrel
  by_cases hlt:j < row.length
  ·have hjl:j < ls.length:=by have:=Hrl2.out;omega
   have hla:ls[j]∈ltrs x.moves.length:=by rw [<- Hls.out];exact List.getElem_mem hjl
   obtain ⟨tz,hto,-,hidx⟩:=Zei Hb.out hi hla
   have hrj:row[j] = (tz:Int):=by rw [<- hidx];simp [Hrow.out,rowT,Hls.out]
   have htd:tz < t.distances.length:=by have:=Hdl.out;omega
   have IRw:=IR.keep (t1.trans hK)
   obtain ⟨bR,oR,rfl,-,hcR⟩:=IRw.at_ j hlt
   rw [hrj] at hcR
   have IDw:=ID.keep (t1.trans hK)
   obtain ⟨bD',oD',eD,-,hcT⟩:=IDw.at_ tz htd
   injection eD with eD;injection eD with eD1 eD2;subst eD1;subst eD2
   have hcDw:=(t1.trans hK).cell (by simp) hcD
   have y4w:=(t1.trans hK).cell (by simp) y4
   obtain ⟨b1,o1,rfl,-,hc1⟩:=(I1.keep hK).at_ j hjl
   obtain ⟨dt,hdt⟩:∃ dt,dt = t.distances[tz]:=⟨_,rfl⟩
   rw [<- hdt] at hcT
   have hclp:clP x t i ls[j] = decide (dt < di):=by
    unfold clP
    rw [hidx,Int.toNat_natCast,Hdi.out,hdt,Zab htd]
   have HIt:=zH (show I64 (tz:Int) by unfold I64;omega)
   have HIl:=zH (show I64 ls[j] by have:=Zas.1 hla;unfold I64;omega)
   have hsn1:=Zqr (x:=x) (t:=t) i (ls.take j) ls[j]
   have hsn2:=Zuf (x:=x) (t:=t) i (ls.take j) ls[j]
   rw [<- Zac ls j hjl] at hsn1 hsn2
   rw [hidx] at hsn2
   rw [hclp] at hsn1 hsn2
   have hB2:w1.heap.size<=W2.heap.size:=hK.size
   have hl1:(clL x t i (ls.take j)).length + 1<=1073741824:=by
    have:=List.length_filter_le (clP x t i) (ls.take j)
    unfold clL;rw [List.length_take] at this;omega
   have hl2:(clS x t i (ls.take j)).length + 1<=1073741824:=by
    unfold clS;rw [List.length_map];exact hl1
   have HT:=zH hT
   clear hla hidx hrj hdt hclp IRw IDw hT
   by_cases hc:dt < di
   ·rw [if_pos (decide_eq_true hc)] at hsn1 hsn2
    have Hs1:=zH hsn1
    have Hs2:=zH hsn2
    clear hsn1 hsn2
    go_wp2
    go_quiet (fail)
    have hKq:Only [] W2 (W2.drewN nq):=Only.ofDrewN W2 nq []
    have hT5:=HT.out.keep hKq
    have hc5:=hKq.cell (by simp) hc1
    have hK5:=hK.trans hKq
    have hB5:w1.heap.size<=(W2.drewN nq).heap.size:=hK5.size
    clear hc1 hcR hcT hcDw y4w HT
    generalize W2.drewN nq = W5 at *
    have HT:=zH hT5
    clear hT5
    go_wp2_with (first
     | (at_builtin;refine Zap rfl _ _ 25 rfl w1.heap.size 2 iI _ Tryz.underlying25 hiI hzI0 hzI1 hzI2 rfl W5 u6 _ rfl HT.out.1 (zO.alloc _) hB5 W5.heap.size 1 ls[j] rfl (lit1 W5 _ _ rfl) HIl.out hl1 ?_;intro v6 w6 hA6 hO6 hP6 hN6;have HT6:=zH ((HT.out.keep (zO.alloc (.cells #[.int .i64 ls[j]] 2))).fst hA6 hO6 hN6);have hK6:=hP6 w1 (hK5.alloc _) (Nat.le_refl _);have hB6:=hK6.size)
     | (at_builtin;refine Zap rfl _ _ 25 rfl w1.heap.size 2 iI _ Tryz.underlying25 hiI hzI0 hzI1 hzI2 rfl w6 u7 _ rfl HT6.out.2.1 (zO.alloc _) hB6 w6.heap.size 1 (tz:Int) rfl (lit1 w6 _ _ rfl) HIt.out hl2 ?_;intro v7 w7 hA7 hO7 hP7 hN7)
     | fail)
    have hT7:=(HT6.out.keep (zO.alloc (.cells #[.int .i64 (tz:Int)] 2))).snd hA7 hO7 hN7
    have hK7:=hP7 w1 (hK6.alloc _) (Nat.le_refl _)
    go_roundw
    case rel=>exact ⟨j + 1,by omega,by go_num,by rw [Hs1.out,Hs2.out];exact hT7,hK7⟩
    case measure=>simp [intOf];omega
   ·rw [if_neg (by simpa using hc)] at hsn1 hsn2
    have Hs1:=zH hsn1
    have Hs2:=zH hsn2
    have hcb:decide (dt < di) = false:=decide_eq_false hc
    clear hsn1 hsn2
    go_wp2
    go_quiet (fail)
    go_wp2
    go_roundw
    case rel=>exact ⟨j + 1,by omega,by go_num,by rw [Hs1.out,Hs2.out];exact HT.out.keep zA,zA⟩
    case measure=>simp [intOf];omega
  ·obtain rfl:j = row.length:=by omega
   rw [Hrl2.out,List.take_length,Hls.out] at hT
   have HT:=zH hT
   clear hT
   go_wp2
   exact bodyPost_ret (v:=.tuple #[u6,u7]) (by simp [results,Tryz.results138,go_sem]) rfl ⟨u6,u7,_,_,rfl,HT.out.1.rd,HT.out.2.1.rd,fun b hb=>Nat.le_trans t1.size (HT.out.2.1.fresh.ge b hb),t1.trans hK⟩
theorem Exp.depth {w:World} {x:Puzzle} {t:Table} {v:Value} (h:Exp w x t v):∃ g aD cD fD,v = .pointer (some ⟨g,0,none⟩)/\w.cell? ⟨g,4,none⟩ = some (.slice aD t.distances.length cD)/\IntsA w aD cD t.distances fD:=by
 obtain ⟨g,M,v2,us,ud,up,uy,un,fm,f1,f2,f3,k,rfl,hB,-,-,hD,-,-⟩:=h
 obtain ⟨aD,cD,rfl,ID⟩:=hD.ints
 exact ⟨g,aD,cD,_,rfl,hB.cell 4 rfl,ID⟩
set_option maxHeartbeats 2000000 in
theorem Zgi (x:Puzzle) (t:Table) (v:Value) (i:Nat) (w:World) (h:Exp w x t v) (he:expl x = some t) (hi:i < t.patterns.length) (hN:200 < t.distances.getD i 0) :
  Calls Tryz.prog 87 #[v,.int .i64 i] w fun e w'=>e = .returned (.tuple #[.slice none 0 0,.bool false])/\Only [] w w':=by
 obtain ⟨hb,-⟩:=Zad he
 have hid:i < t.distances.length:=by have:t.distances.length = t.patterns.length:=hb.bi.dl;omega
 obtain ⟨g,aD,cD,fD,rfl,y4,ID⟩:=h.depth
 obtain ⟨bD,oD,rfl,-,hcD⟩:=ID.at_ i hid
 rw [Zab hid] at hN
 obtain ⟨d,hd⟩:∃ d,d = t.distances[i]:=⟨_,rfl⟩
 rw [<- hd] at hcD hN
 clear hd hb he
 go_enter Tryz.func87,Tryz.ntmps87
 go_wp2
 exact bodyPost_ret (v:=.tuple #[.slice none 0 0,.bool false]) (by simp [results,Tryz.results87,go_sem]) rfl ⟨rfl,Only.refl _ _⟩
set_option maxHeartbeats 4000000 in
theorem Zgc (x:Puzzle) (t:Table) (v:Value) (i0 N:Nat) (w:World) (h:Exp w x t v) (he:expl x = some t) (hi0:i0 < t.patterns.length) (hN:t.distances.getD i0 0 = N) (h200:N<=200) :
  Calls Tryz.prog 87 #[v,.int .i64 i0] w fun e w'=>∃ u f,e = .returned (.tuple #[u,.bool true])/\Rd w' u (oW x t N (t.patterns.getD i0 [])) f/\Fresh w.heap.size w' f/\Only [] w w':=by
 obtain ⟨hb,-⟩:=Zad he
 have hdl:t.distances.length = t.patterns.length:=hb.bi.dl
 have hX:=h
 obtain ⟨g,aD,cD,fD,rfl,y4,ID⟩:=h.depth
 have hid:i0 < t.distances.length:=by omega
 obtain ⟨bD,oD,rfl,-,hcD⟩:=ID.at_ i0 hid
 obtain ⟨iI,hiI,hzI0,hzI1,hzI2⟩:=info_parts Tryz.info2
 have hll:=hb.ll
 have hds:t.distances[i0] = (N:Int):=by rw [<- hN,Zab hid]
 rw [hds] at hcD
 obtain ⟨s0,hs0⟩:∃ s0,s0 = t.patterns.getD i0 []:=⟨_,rfl⟩
 have Hs0:=zH hs0
 rw [<- hs0]
 have HN:=zH hN
 have Hb:=zH hb
 have He:=zH he
 have Hdl:=zH hdl
 have hlD:=ID.bound
 clear hN hb he hs0 hdl hds
 go_enter Tryz.func87,Tryz.ntmps87
 go_wp2
 go_loopw [1,6] (fun c o wr=>∃ (n i:Nat) (dn:List Int),c = .int .i64 i/\n<=200/\dn.length + n = N/\i < t.patterns.length/\t.distances.getD i 0 = n/\dn ++ oW x t n (t.patterns.getD i []) = oW x t N s0/\AccI w.heap.size 2 wr o dn/\Only [] w wr)
  (fun c _ _=>(t.distances.getD (intOf c).toNat 0).toNat)
 case atStart=>exact ⟨N,i0,[],rfl,h200,by simp,hi0,HN.out,by rw [Hs0.out];rfl,AccI.nil _ _ _,Only.refl _ _⟩
 case round=>
  clear hcD hid
  obtain ⟨W3,hnew⟩:∃ W,W = wr:=⟨_,rfl⟩
  subst hnew
  obtain ⟨n,i,dn,rfl,hn,hlen,hil,hdi,hcat,hA,hK⟩:=hrel
  have hid:i < t.distances.length:=by have:=Hdl.out;omega
  have y4w:=hK.cell (by simp) y4
  obtain ⟨bD',oD',eD,-,hcD⟩:=(ID.keep hK).at_ i hid
  injection eD with eD;injection eD with eD1 eD2;subst eD1;subst eD2
  rw [show t.distances[i] = (n:Int) by rw [<- hdi,Zab hid]] at hcD
  have Hcat:=zH hcat
  have Hdi:=zH hdi
  have Hlen:=zH hlen
  have HA:=zH hA
  clear hcat hdi hlen hA
  by_cases h0:0 < n
  ·obtain ⟨m,hm⟩:∃ m,n = m + 1:=⟨n - 1,by omega⟩
   have hdm:t.distances.getD i 0 = (m:Int) + 1:=by rw [Hdi.out,hm];push_cast;rfl
   obtain ⟨k,j,hDn⟩:=Hb.out.down hil hdm
   obtain ⟨r1,r2,hL1,hL2⟩:=hDn.head Hb.out hil hdm
   obtain ⟨l,hl⟩:∃ l,l = (ltrs x.moves.length)[k]'hDn.hk:=⟨_,rfl⟩
   have hla:l∈ltrs x.moves.length:=by rw [hl];exact List.getElem_mem _
   have hv:=Zae Hb.out.v
   have HIl:=zH (show I64 l by have:=Zas.1 hla;unfold I64;omega)
   rw [<- hl] at hL1
   have HL1:=zH hL1
   have HL2:=zH hL2
   have HDn:=zH hDn
   have Hl:=zH hl
   have Hm:=zH hm
   have hm1:m + 1<=n:=by omega
   have hm2:n<=m + 1:=by omega
   have hbw:w.heap.size<=W3.heap.size:=hK.size
   have hdl1:dn.length + 1<=1073741824:=by have:=Hlen.out;omega
   clear hL1 hL2 hl hm hdm hla hv
   go_wp2_with (first
    | (go_at_call 138;(with_reducible refine (Zrt x t _ i _ (hX.keep hK) He.out hil).mono ?_);rintro e w4 ⟨u1,u2,f1,f2,rfl,r1',r2',hf2,t4⟩;rw [HL1.out] at r1';rw [HL2.out] at r2';obtain ⟨a1,c1,rfl,I1⟩:=r1'.ints;obtain ⟨a2,c2,rfl,I2⟩:=r2'.ints;obtain ⟨b1,o1,rfl,-,hc1⟩:=I1.at_ 0 (by simp);obtain ⟨b2,o2,rfl,hfb2,hc2⟩:=I2.at_ 0 (by simp);have hb2w:=hf2 b2 (by rw [hfb2];simp);clear hfb2 hf2;simp only [List.getElem_cons_zero,Nat.add_zero] at hc1 hc2;have hbw4:w.heap.size<=w4.heap.size:=(Nat.le_trans hbw t4.size);have hA4:=zH (HA.out.keep t4))
    | (at_builtin;refine Zap rfl _ _ 25 rfl w.heap.size 2 iI _ Tryz.underlying25 hiI hzI0 hzI1 hzI2 rfl w4 u6 _ rfl hA4.out (zO.alloc _) hbw4 w4.heap.size 1 l rfl (lit1 w4 _ _ rfl) HIl.out hdl1 ?_;intro v9 w9 hA9 hO9 hP9 hN9;have hc29:=hO9.cell (p:=⟨b2,o2,none⟩) (fun hm=>by have h7:=(HA.out.ownlt b2 (by simpa using hm)).2;omega) (((Only.refl [] w4).alloc _).cell (by simp) hc2))
    | fail)
   have hA9':=hA9
   have hK9:=hP9 w ((hK.trans t4).alloc _) (Nat.le_refl _)
   exact ⟨⟨m,j,dn ++ [l],rfl,by omega,by have:=Hlen.out;simp;omega,HDn.out.hj,HDn.out.ds,by rw [<- Hcat.out,Hm.out,HDn.out.oW_,Hl.out];simp,hA9',hK9⟩,by show (t.distances.getD ((j:Nat):Int).toNat 0).toNat < (t.distances.getD ((i:Nat):Int).toNat 0).toNat;rw [Int.toNat_natCast,Int.toNat_natCast,HDn.out.ds,Hdi.out];omega⟩
  ·obtain rfl:n = 0:=by omega
   have hfin:dn = oW x t N s0:=by have:=Hcat.out;rwa [show oW x t 0 (t.patterns.getD i []) = [] from rfl,List.append_nil] at this
   have Hfin:=zH hfin
   clear hfin
   go_wp2
   exact bodyPost_ret (v:=.tuple #[u6,.bool true]) (by simp [results,Tryz.results87,go_sem]) rfl ⟨u6,rfl,_,by rw [<- Hfin.out];exact HA.out.rd,HA.out.fresh,hK⟩
set_option maxHeartbeats 2000000 in
theorem Zeh (cs:List Value) (x:Puzzle) (fp:List Nat) (v:Value) (s:List Int) (fs:List Nat) (w:World) (h:Rp.rep w cs x fp) (hs:Rd w v s fs) :
  Calls Tryz.prog 46 #[.agg cs.toArray,v] w fun e w'=>∃ u fp',e = .returned (.tuple #[u,.bool (optX x s).isSome])/\Rd w' u ((optX x s).getD []) fp'/\Fresh w.heap.size w' fp'/\Only [] w w':=by
 have h0:=h
 obtain ⟨v2,rfl,p0,p1,h2⟩:=h
 clear p0 p1 h2
 rcases he:expl x with _ | t
 ·have Hn:=zH (optX_no (x:=x) (s:=s) (fun hh=>by rw [Zhs he] at hh;omega))
  have He:=zH he
  clear he
  go_enter Tryz.func46,Tryz.ntmps46
  go_wp2_with (first
   | (go_at_call 64;(with_reducible refine (Zfc [.int .i64 x.points,.string x.names,v2] x _ v _ (zK h0 zA) He.out).mono ?_);rintro e w1 ⟨rfl,t1⟩)
   | fail)
  exact bodyPost_ret (v:=.tuple #[.slice none 0 0,.bool false]) (by simp [results,Tryz.results46,go_sem]) rfl ⟨.slice none 0 0,[],by rw [Hn.out];rfl,by rw [Hn.out];exact nil_rd _,Fresh.nil _ _,zA⟩
 rcases hr:reachB x s
 ·have Hn:=zH (optX_no (x:=x) (s:=s) (fun hh=>by rw [Zhr hr] at hh;omega))
  have hm:s ∉ t.patterns:=fun hm=>by rw [(Zak he).1 hm] at hr;cases hr
  have He:=zH he
  have Hm:=zH hm
  clear he hr hm
  go_enter Tryz.func46,Tryz.ntmps46
  go_wp2_with (first
   | (go_at_call 64;(with_reducible refine (Zgl [.int .i64 x.points,.string x.names,v2] x t _ v s fs _ (zK h0 zA) (zK hs zA) He.out Hm.out).mono ?_);rintro e w1 ⟨z,rfl,t1⟩)
   | fail)
  exact bodyPost_ret (v:=.tuple #[.slice none 0 0,.bool false]) (by simp [results,Tryz.results46,go_sem]) rfl ⟨.slice none 0 0,[],by rw [Hn.out];rfl,by rw [Hn.out];exact nil_rd _,Fresh.nil _ _,zA⟩
 ·obtain ⟨i,hi,e1,-,e2,hd0,hd3⟩:=Zif he hr
  obtain ⟨N,hN⟩:∃ N:Nat,t.distances.getD i 0 = (N:Int):=⟨_,(Int.toNat_of_nonneg hd0).symm⟩
  have He:=zH he
  have E1:=zH e1
  have HN:=zH hN
  by_cases h200:N<=200
  ·have hox:=Zop he (s:=s) ⟨by omega,by omega⟩
   rw [e2,hN,Int.toNat_natCast] at hox
   have Hn:=zH hox
   clear he hr e1 e2 hN hox hd0 hd3
   go_enter Tryz.func46,Tryz.ntmps46
   go_wp2_with (first
    | (go_at_call 64;(with_reducible refine (Zcc [.int .i64 x.points,.string x.names,v2] x t _ v s fs i _ (zK h0 zA) (zK hs zA) He.out hi E1.out).mono ?_);rintro e w1 ⟨z,rfl,hX,t1⟩)
    | (go_at_call 87;(with_reducible refine (Zgc x t z i N _ (hX.keep zA) He.out hi HN.out h200).mono ?_);rintro e w2 ⟨u2,f2,rfl,r2,F2,t2⟩)
    | fail)
   have K2:Only [] w w2:=zA
   have hsz:=t1.size
   simp at hsz
   exact bodyPost_ret (v:=.tuple #[u2,.bool true]) (by simp [results,Tryz.results46,go_sem]) rfl ⟨u2,f2,by rw [Hn.out];rfl,by rw [Hn.out,<- E1.out];exact r2,F2.mono (by omega),K2⟩
  ·have Hn:=zH (optX_no (x:=x) (s:=s) (fun hh=>by omega))
   have h201:=zH (show 200 < t.distances.getD i 0 by omega)
   clear he hr e1 e2 hN hd0 hd3
   go_enter Tryz.func46,Tryz.ntmps46
   go_wp2_with (first
    | (go_at_call 64;(with_reducible refine (Zcc [.int .i64 x.points,.string x.names,v2] x t _ v s fs i _ (zK h0 zA) (zK hs zA) He.out hi E1.out).mono ?_);rintro e w1 ⟨z,rfl,hX,t1⟩)
    | (go_at_call 87;(with_reducible refine (Zgi x t z i _ (hX.keep zA) He.out hi h201.out).mono ?_);rintro e w2 ⟨rfl,t2⟩)
    | fail)
   exact bodyPost_ret (v:=.tuple #[.slice none 0 0,.bool false]) (by simp [results,Tryz.results46,go_sem]) rfl ⟨.slice none 0 0,[],by rw [Hn.out];rfl,by rw [Hn.out];exact nil_rd _,Fresh.nil _ _,zA⟩
set_option maxHeartbeats 1000000 in
theorem Zlq (gb ib:Nat) (vd:Value) (D:List Int) (fd:List Nat) (i k:Nat) (w:World) (h1:w.cell? ⟨gb,0,none⟩ = some vd) (h2:w.cell? ⟨ib,0,none⟩ = some (.int .i64 i)) (hD:Rd w vd D fd) (hi:i < D.length) (hk:k < D.length) :
  Calls Tryz.prog 120 #[.int .i64 k,.pointer (some ⟨gb,0,none⟩),.pointer (some ⟨ib,0,none⟩)] w fun e w'=>e = .returned (.bool (decide (D.getD k 0 < D.getD i 0)))/\Only [] w w':=by
 obtain ⟨a,c,rfl,I⟩:=hD.ints
 have hb:=I.bound
 obtain ⟨b,off,rfl,-,c1⟩:=I.at_ i hi
 obtain ⟨b',off',hA,-,c2⟩:=I.at_ k hk
 injection hA with hA;injection hA with hA1 hA2;subst hA1;subst hA2
 have e1:D.getD k 0 = D[k]:=Zab hk
 have e2:D.getD i 0 = D[i]:=Zab hi
 obtain ⟨dk,hdk⟩:∃ d,d = D[k]:=⟨_,rfl⟩
 obtain ⟨di,hdi⟩:∃ d,d = D[i]:=⟨_,rfl⟩
 rw [<- hdk] at c2 e1
 rw [<- hdi] at c1 e2
 rw [e1,e2]
 clear e1 e2 hdk hdi
 go_enter Tryz.func120,Tryz.ntmps120
 go_wp2
 go_quiet (fail)
 go_wp2
 go_ret
 exact ⟨rfl,Only.ofDrewN _ _ _⟩
set_option maxHeartbeats 1000000 in
theorem Zjd (v vd:Value) (D:List Int) (fd:List Nat) (i:Nat) (w:World) (hv:Rd w vd D fd) (hi:i < D.length) (hN:200 < D.getD i 0) :
  Calls Tryz.prog 66 #[v,vd,.int .i64 i] w fun e w'=>e = .returned (.tuple #[.slice none 0 0,.int .i64 0,.bool false])/\Only [] w w':=by
 obtain ⟨a,c,rfl,I⟩:=hv.ints
 have hb:=I.bound
 obtain ⟨b,off,rfl,-,c1⟩:=I.at_ i hi
 rw [Zab hi] at hN
 obtain ⟨di,hdi⟩:∃ d,d = D[i]:=⟨_,rfl⟩
 rw [<- hdi] at c1 hN
 have hK:Only [] w ((w.alloc (.cells #[.slice (some ⟨b,off,none⟩) D.length c] 25)).alloc (.cells #[.int .i64 i] 2)):=(zO.alloc _).alloc _
 have d1:=hK.cell (by simp) c1
 have d2:=lit1 (w.alloc (.cells #[.slice (some ⟨b,off,none⟩) D.length c] 25)) (.int .i64 i) 2 (g:=w.heap.size + 1) (by simp)
 have d3:=((Only.refl [] _).alloc (.cells #[.int .i64 i] 2)).cell (by simp) (lit1 w (.slice (some ⟨b,off,none⟩) D.length c) 25 rfl)
 clear hdi c1
 go_enter Tryz.func66,Tryz.ntmps66
 go_wp2
 exact bodyPost_ret (v:=.tuple #[.slice none 0 0,.int .i64 0,.bool false]) (by simp [results,Tryz.results66,go_sem]) rfl ⟨rfl,hK⟩
theorem Zug {x:Puzzle} {t:Table} {src:List Int->Bool} (hb:Built x t) {i n k j:Nat} (hi:i < t.patterns.length) (hd:(mD x t src).getD i 0 = (n:Int) + 1) (h:Down x (tD x t src) i n k j) :
  idxF (fun y:Int=>decide ((mD x t src).getD y.toNat 0 < (mD x t src).getD i 0)) (rowT x t (t.patterns.getD i [])) = k/\k < (rowT x t (t.patterns.getD i [])).length/\(rowT x t (t.patterns.getD i [])).getD k 0 = j:=by
 have hk:=h.hk
 have hrl:(rowT x t (t.patterns.getD i [])).length = (ltrs x.moves.length).length:=by simp [rowT]
 have hget:∀ m (hm:m < (ltrs x.moves.length).length),∃ i':Nat,i' < t.patterns.length/\t.patterns.getD i' [] = nxt x (t.patterns.getD i []) ((ltrs x.moves.length)[m])/\(rowT x t (t.patterns.getD i []))[m]'(by omega) = i':=fun m hm=>by
  obtain ⟨i',a,b,c⟩:=Zei hb hi (List.getElem_mem hm)
  exact ⟨i',a,b,by simpa [rowT] using c⟩
 obtain ⟨j',j1,j2,j3⟩:=hget k hk
 have hjj:j' = j:=by
  have e1:=hb.idx j1
  have e2:=hb.idx h.hj
  have e3:t.patterns.getD j [] = nxt x (t.patterns.getD i []) ((ltrs x.moves.length)[k]):=h.nx
  rw [j2,<- e3] at e1
  have e4:idxL t.patterns ((tD x t src).patterns.getD j []) = j:=e2
  have e5:(tD x t src).patterns = t.patterns:=rfl
  rw [e5] at e4
  omega
 subst hjj
 refine ⟨Zdh (by omega) (fun y hy=>?_) ?_,by omega,by rw [Zab (by omega),j3]⟩
 ·rw [List.mem_take_iff_getElem] at hy
  obtain ⟨m,hm,rfl⟩:=hy
  obtain ⟨i',a,b,c⟩:=hget m (by omega)
  rw [c,Int.toNat_natCast,hd]
  exact decide_eq_false (h.no m (by omega) i' a b).2
 ·rw [j3,Int.toNat_natCast,hd]
  have:(mD x t src).getD j' 0 = n:=h.ds
  exact decide_eq_true (by omega)
set_option maxHeartbeats 4000000 in
theorem Zje (x:Puzzle) (t:Table) (v vd:Value) (src:List Int->Bool) (fd:List Nat) (i0 N:Nat) (w:World) (h:Exp w x t v) (he:expl x = some t) (h0:src t.tracked = true) (hv:Rd w vd (mD x t src) fd)
  (hi0:i0 < t.patterns.length) (hN:(mD x t src).getD i0 0 = N) (h200:N<=200) :
  Calls Tryz.prog 66 #[v,vd,.int .i64 i0] w fun e w'=>∃ (u:Value) (j:Nat),e = .returned (.tuple #[u,.int .i64 j,.bool true])/\AccI w.heap.size 2 w' u (oW x (tD x t src) N (t.patterns.getD i0 []))/\j < t.patterns.length/\t.patterns.getD j [] = wEnd x (t.patterns.getD i0 []) (oW x (tD x t src) N (t.patterns.getD i0 []))/\(mD x t src).getD j 0 = 0/\Only [] w w':=by
 obtain ⟨hb,-⟩:=Zad he
 obtain ⟨q1,q20,q8,-⟩:=Zae hb.v
 obtain ⟨g,M,v2,us,ud,up,uy,un,fm,f1,f2,f3,km,rfl,hB,hp,-,-,hNx,-⟩:=h
 obtain ⟨v2',hvv,-,-,h2⟩:=hp
 have e2:v2 = v2':=by simpa using hvv
 subst e2
 obtain ⟨A2,C2,_,_,rfl,-,-⟩:=h2.open_
 obtain ⟨aN,cN,obN,fpN,rfl,-,SN⟩:=hNx.open_
 obtain ⟨aD,cD,rfl,ID⟩:=hv.ints
 obtain ⟨iI,hiI,hzI0,hzI1,hzI2⟩:=info_parts Tryz.info2
 have hlD:(mD x t src).length = t.patterns.length:=(mD_F hb).dl
 have hbD:=ID.bound
 obtain ⟨D,hDe⟩:∃ D,D = mD x t src:=⟨_,rfl⟩
 have HDe:=zH hDe
 rw [<- hDe] at ID hN hlD hbD ⊢
 have x2:=hB.cell 2 rfl
 have y8:=hB.cell 8 rfl
 have hlm:(t.patterns.map (rowT x t)).length = t.patterns.length:=List.length_map _
 have hll:=hb.ll
 obtain ⟨np,hnp⟩:∃ np,np = t.patterns.length:=⟨_,rfl⟩
 rw [hlm,<- hnp] at y8
 have hnp3:np<=3000:=by omega
 have hi0n:(i0:Int) < np:=by omega
 have hi0m:i0 < np:=by omega
 have hlDn:D.length = np:=by omega
 have Hnp:=zH hnp
 have HlD:=zH hlDn
 obtain ⟨s0,hs0⟩:∃ s0,s0 = t.patterns.getD i0 []:=⟨_,rfl⟩
 have Hs0:=zH hs0
 rw [<- hs0]
 rw [hlDn] at hbD
 have Hb:=zH hb
 have HN:=zH hN
 obtain ⟨T,hT⟩:∃ T,T = tD x t src:=⟨_,rfl⟩
 have HT:=zH hT
 rw [<- hT]
 have hK0:Only [] w ((w.alloc (.cells #[.slice aD D.length cD] 25)).alloc (.cells #[.int .i64 i0] 2)):=(zO.alloc _).alloc _
 have B1:Blk ((w.alloc (.cells #[.slice aD D.length cD] 25)).alloc (.cells #[.int .i64 i0] 2)) w.heap.size [.slice aD D.length cD]:=(Blk.new w [.slice aD D.length cD] 25).keep (zO.alloc _)
 have B2:Blk ((w.alloc (.cells #[.slice aD D.length cD] 25)).alloc (.cells #[.int .i64 i0] 2)) (w.heap.size + 1) [.int .i64 i0]:=Blk.new_at (cs:=[.int .i64 i0]) (by simp)
 obtain ⟨W0,hW0⟩:∃ W0,W0 = (w.alloc (.cells #[.slice aD D.length cD] 25)).alloc (.cells #[.int .i64 i0] 2):=⟨_,rfl⟩
 have hz0:W0.heap.size = w.heap.size + 2:=by rw [hW0];simp
 have hid:i0 < D.length:=by omega
 have cI:=(ID.keep hK0).at_ i0 hid
 rw [show D[i0] = (N:Int) by rw [<- hN,Zab hid]] at cI
 obtain ⟨bD,oD,rfl,-,cI⟩:=cI
 have x2':=hK0.cell (by simp) x2
 rw [hlDn] at B1 hW0 cI x2' ⊢
 rw [hlDn] at B2 hK0
 rw [<- hW0] at B1 B2 hK0 cI x2'
 have b1:=B1.cell 0 rfl
 have b2:=B2.cell 0 rfl
 clear he hDe hlD hlm hnp hlDn hs0 hb hN hT hvv h2 hNx hv x2 hid
 go_enter Tryz.func66,Tryz.ntmps66
 go_upto_region 1 with fail
 rw [<- hW0]
 clear hW0
 go_upto_region 5 with (first
  | (go_at_call 118;(with_reducible refine (Zep x.moves.length _ (by omega)).mono ?_);rintro e w1 ⟨u1,f8,rfl,r1,F1,t1⟩;obtain ⟨a1,c1,rfl,I1⟩:=r1.ints)
  | fail)
 obtain ⟨ls,hls⟩:∃ ls,ls = ltrs x.moves.length:=⟨_,rfl⟩
 rw [<- hls] at I1 ⊢
 have Hls:=zH hls
 have hK1:=hK0.trans t1
 have hz1:=hK1.size
 have hz1':=t1.size
 have B1':=B1.keep t1
 have B2':=B2.keep t1
 have hf8:∀ b∈f8,b ∉ [w.heap.size + 1]:=fun b hb hm=>by have:=F1.ge b hb;simp at hm;omega
 clear hls r1 F1 B1 B2 b1 b2 cI x2' t1 hi0n
 go_loopw [9] (fun o wr=>∃ (n i:Nat) (dn:List Int),n<=200/\dn.length + n = N/\i < np/\D.getD i 0 = n/\dn ++ oW x T n (t.patterns.getD i []) = oW x T N s0/\wEnd x s0 dn = t.patterns.getD i []/\Blk wr (w.heap.size + 1) [.int .i64 i]/\AccI w1.heap.size 2 wr o dn/\Only [w.heap.size + 1] w1 wr)
  (fun o _=>N - lenV o)
 case atStart=>exact ⟨N,i0,[],h200,by simp,hi0m,HN.out,by rw [Hs0.out];rfl,by rw [Hs0.out];rfl,B2',AccI.nil _ _ _,Only.refl _ _⟩
 case round=>
  obtain ⟨W3,hnew⟩:∃ W,W = wr:=⟨_,rfl⟩
  subst hnew
  obtain ⟨n,i,dn,hn,hlen,hil,hdi,hcat,hend,hB2,hA,hO⟩:=hrel
  have hB1:=B1'.only hO (by simp)
  have hK3:Only [] w W3:=hK1.then_ hO (by simp)
  have hid:i < D.length:=by rw [HlD.out];exact hil
  have cI:=(ID.keep hK3).at_ i hid
  rw [show D[i] = (n:Int) by rw [<- hdi,Zab hid]] at cI
  obtain ⟨bD',oD',eD,-,cI⟩:=cI
  injection eD with eD;injection eD with eD1 eD2;subst eD1;subst eD2
  have b1:=hB1.cell 0 rfl
  have b2:=hB2.cell 0 rfl
  have hinp:(i:Int) < np:=by omega
  have Hcat:=zH hcat
  have Hdi:=zH hdi
  have Hlen:=zH hlen
  have Hend:=zH hend
  have HA:=zH hA
  have HB2:=zH hB2
  clear hcat hdi hlen hend hA hB2
  by_cases hn0:0 < n
  ·obtain ⟨m,hm⟩:∃ m,n = m + 1:=⟨n - 1,by omega⟩
   have hdm:(mD x t src).getD i 0 = (m:Int) + 1:=by rw [<- HDe.out,Hdi.out,hm];push_cast;rfl
   have hip:i < t.patterns.length:=by rw [<- Hnp.out];exact hil
   obtain ⟨k,j,hDn⟩:=mDown (n:=m) Hb.out h0 hip hdm
   obtain ⟨k1,k2,k3⟩:=Zug Hb.out hip hdm hDn
   have hjp:j < np:=by rw [Hnp.out];exact hDn.hj
   have e9:oW x T (m + 1) (t.patterns.getD i []) = (ltrs x.moves.length)[k]'hDn.hk :: oW x T m (t.patterns.getD j []):=by rw [HT.out];exact hDn.oW_
   have e8:t.patterns.getD j [] = nxt x (t.patterns.getD i []) ((ltrs x.moves.length)[k]'hDn.hk):=hDn.nx
   have e7:(mD x t src).getD j 0 = m:=hDn.ds
   obtain ⟨l,hl⟩:∃ l,l = (ltrs x.moves.length)[k]'hDn.hk:=⟨_,rfl⟩
   have hla:l∈ltrs x.moves.length:=by rw [hl];exact List.getElem_mem _
   have hkl:k < ls.length:=by rw [Hls.out];exact hDn.hk
   have hlk:ls[k] = l:=by rw [hl];simp [Hls.out]
   rw [<- hl] at e9 e8
   rw [<- HDe.out] at e7 k1
   have HIl:=zH (show I64 l by have:=Zas.1 hla;unfold I64;omega)
   have hrm:∀ y∈rowT x t (t.patterns.getD i []),∃ z:Nat,y = z/\z < D.length:=fun y hy=>by
    unfold rowT at hy
    obtain ⟨l',hl',rfl⟩:=List.mem_map.1 hy
    obtain ⟨z,z1,-,z2⟩:=Zei Hb.out hip hl'
    exact ⟨z,z2,by rw [HlD.out,Hnp.out];exact z1⟩
   obtain ⟨bN,oN,ur,hAN,-,hcN,hur⟩:=SN.atRow i (by rw [List.length_map];exact hip)
   subst hAN
   rw [List.getElem_map,show t.patterns[i] = t.patterns.getD i [] from (Zab hip).symm] at hur
   obtain ⟨row,hrow⟩:∃ row,row = rowT x t (t.patterns.getD i []):=⟨_,rfl⟩
   rw [<- hrow] at hur k1 k2 k3 hrm
   obtain ⟨aR,cR,rfl,IR⟩:=hur.ints
   have IR3:=IR.keep hK3
   have hrb:=IR.bound
   have hcR0:=IR.at_ k k2
   rw [show row[k] = (j:Int) by rw [<- k3,Zab k2]] at hcR0
   obtain ⟨bR,oR,rfl,-,hcR0⟩:=hcR0
   have y8w:=hK3.cell (by simp) y8
   have hcNw:=hK3.cell (by simp) hcN
   have hix:∀ W,Only [] W3 W->Calls Tryz.prog 119 #[.slice (some ⟨bR,oR,none⟩) row.length cR,.func (.func 120) #[] #[.pointer (some ⟨w.heap.size,0,none⟩),.pointer (some ⟨w.heap.size + 1,0,none⟩)]] W fun e w'=>e = .returned (.int .i64 k)/\Only [] W w':=fun W hW=>by
    have hq:=Zhf 120 #[.pointer (some ⟨w.heap.size,0,none⟩),.pointer (some ⟨w.heap.size + 1,0,none⟩)] (fun y=>decide (D.getD y.toNat 0 < D.getD i 0)) Tryz.call120 (.slice (some ⟨bR,oR,none⟩) row.length cR) row _ W (IR3.keep hW).rd (fun y hy W' hW'=>by
     obtain ⟨z,rfl,hz⟩:=hrm y hy
     rw [Int.toNat_natCast]
     have hKw:=hK3.trans (hW.trans hW')
     refine Zlq w.heap.size (w.heap.size + 1) (.slice (some ⟨bD,oD,none⟩) D.length cD) D _ i z W' ?_ ((HB2.out.keep (hW.trans hW')).cell 0 rfl) (ID.keep hKw).rd hid hz
     rw [HlD.out];exact (hB1.keep (hW.trans hW')).cell 0 rfl)
    rw [k1] at hq;exact hq
   have Hix:=zH hix
   have hlm:m + 1 = n:=hm.symm
   have hm200:m<=200:=by omega
   have hlen1:dn.length + 1<=1073741824:=by have:=Hlen.out;omega
   have hsz1:w1.heap.size<=W3.heap.size:=hO.size
   have I3:=I1.only hO hf8
   have hlb:=I1.bound
   obtain ⟨bl,ol,rfl,-,hcl⟩:=I3.at_ k hkl
   rw [hlk] at hcl
   have hki:(k:Int) < ls.length:=by omega
   have hkr:(k:Int) < row.length:=by omega
   have HcN:=zH hcN
   have HcR:=zH (show w.cell? ⟨bR,oR + k,none⟩ = some (.int .i64 j) from hcR0)
   have He9:=zH e9
   have He8:=zH e8
   have He7:=zH e7
   have Hm:=zH hm
   clear hix hrm hm hrow IR hcR0 k1 k3 e9 e8 e7 hl hlk hla hDn IR3 hcN hur hdm hlm
   go_wp2
   go_region_held3 (fun w'=>Only [] W3 w'/\w'.cell? ⟨g,8,none⟩ = some (.slice (some ⟨bN,oN,none⟩) np cN)/\w'.cell? ⟨w.heap.size + 1,0,none⟩ = some (.int .i64 i)/\w'.cell? ⟨bN,oN + i,none⟩ = some (.slice (some ⟨bR,oR,none⟩) row.length cR)) (((refine and_of ?_ (fun q_=>⟨q_.ce y8w,q_.ce b2,q_.ce hcNw⟩));first | exact zO.drew | exact (zO.drewN _).drew | exact Only.trans (And.left (by assumption)) (by assumption) | exact Only.alloc (And.left (by assumption)) _ | assumption)) (first | (go_at_call 119;(with_reducible refine (Hix.out _ (And.left (by assumption))).mono ?_);rintro e w5 ⟨rfl,t5⟩) | fail)
   have k5:Only [] W3 w5:=(Only.refl [] W3).trans (And.left (by assumption))
   have hA5:=HA.out.keep k5
   have HA5:=zH hA5
   have hcl5:=k5.cell (by simp) hcl
   have hO5:Only [w.heap.size + 1] w1 w5:=hO.keepThen k5
   have hsz5:w1.heap.size<=w5.heap.size:=hO5.size
   have hK5:=hK3.trans k5
   have HB5:=zH (HB2.out.keep k5)
   clear hA5 hcl b1 b2 cI y8w hcNw I3
   go_upto_region 8 with (at_builtin;refine Zap rfl _ _ 25 rfl w1.heap.size 2 iI _ Tryz.underlying25 hiI hzI0 hzI1 hzI2 rfl w5 u9 dn rfl HA5.out (zO.alloc _) hsz5 w5.heap.size 1 l rfl (lit1 w5 _ _ rfl) HIl.out hlen1 ?_;intro v9 w9 hA9 hO9 hP9 hN9)
   have hO9w:Only [w.heap.size + 1] w1 w9:=hO5.then_ (fp':=u9.ownBlock.toList) ((zO.alloc _).trans hO9) (fun b hb hlt=>by have:=(HA5.out.ownlt b (by simpa using hb)).1;omega)
   have hK9:Only [] w w9:=hP9 w (hK5.alloc _) (by omega)
   have hib:w.heap.size + 1 ∉ u9.ownBlock.toList:=fun hm=>by have:=(HA5.out.ownlt _ (by simpa using hm)).1;omega
   have hB9:Blk w9 (w.heap.size + 1) [.int .i64 i]:=(HB5.out.keep (zO.alloc _)).only hO9 hib
   have kd:Only [] w9 w9.drew:=zO.drew
   have z0:=(hB9.keep kd).cell 0 rfl
   have z1:=(hB9.keep kd).frozen 0
   have z2:=(hK9.trans kd).cell (by simp) y8
   have z3:=(hK9.trans kd).cell (by simp) HcN.out
   have z4:=(hK9.trans kd).cell (by simp) HcR.out
   have hap:(v9.ownBlock ≠ some (w.heap.size + 1)):=fun e=>by have:=(hA9.ownlt _ e).1;omega
   have kf:Only [w.heap.size + 1] w9.drew (w9.drew.setCell ⟨w.heap.size + 1,0,none⟩ (.int .i64 j)):=zO.setCell (by simp) _
   have HBf:=zH (show Blk (w9.drew.setCell ⟨w.heap.size + 1,0,none⟩ (.int .i64 j)) (w.heap.size + 1) [.int .i64 j] from (hB9.keep kd).set 0 (.int .i64 j))
   have HAf:=zH (show AccI w1.heap.size 2 (w9.drew.setCell ⟨w.heap.size + 1,0,none⟩ (.int .i64 j)) v9 (dn ++ [l]) from (hA9.keep kd).only kf (fun b hb hm=>hap (by rw [hb];simp at hm;rw [hm])))
   have HOf:=zH (show Only [w.heap.size + 1] w1 (w9.drew.setCell ⟨w.heap.size + 1,0,none⟩ (.int .i64 j)) from (hO9w.drew).trans kf)
   have Hl1:=zH (show (dn ++ [l]).length + m = N by have:=Hlen.out;have:=Hm.out;rw [List.length_append,List.length_singleton];omega)
   have Hl2:=zH (show (dn ++ [l]) ++ oW x T m (t.patterns.getD j []) = oW x T N s0 by rw [<- Hcat.out,Hm.out,He9.out,List.append_assoc];rfl)
   have Hl3:=zH (show wEnd x s0 (dn ++ [l]) = t.patterns.getD j [] by rw [Zmw,Hend.out,He8.out])
   have Hl4:=zH (show N - lenV v9 < N - lenV u9 by
    obtain ⟨_,_,ev⟩:=hA9.form
    obtain ⟨_,_,eu⟩:=HA5.out.form
    rw [ev,eu]
    show N - (dn ++ [l]).length < N - dn.length
    have:=Hlen.out
    rw [List.length_append,List.length_singleton];omega)
   clear hA9 hO9w hO9 hP9 hN9 hB9 HA5 HA HB5 HB2 hcl5 hO5 k5 t5 hB1 hO
   go_wp2
   go_region_law (fail)
   all_goals go_wp2_with fail
   all_goals exact ⟨⟨m,j,dn ++ [l],hm200,Hl1.out,hjp,He7.out,Hl2.out,Hl3.out,HBf.out,HAf.out,HOf.out⟩,Hl4.out⟩
  ·obtain rfl:n = 0:=by omega
   have hfin:dn = oW x T N s0:=by have:=Hcat.out;rwa [show oW x T 0 (t.patterns.getD i []) = [] from rfl,List.append_nil] at this
   have Hfin:=zH hfin
   clear hfin
   go_wp2
   go_quiet (fail)
   go_wp2
   exact bodyPost_ret (v:=.tuple #[u9,.int .i64 i,.bool true]) (by simp [results,Tryz.results66,go_sem]) rfl ⟨u9,i,rfl,by rw [<- Hfin.out];exact (HA.out.mono (by omega)).keep (Only.ofDrewN _ _ _),by rw [<- Hnp.out];exact hil,by rw [<- Hfin.out,Hend.out],Hdi.out,hK3.drewN _⟩
theorem Zoy {f:Int->Int}:∀ {l:List Int},l.map f = l ↔ ∀ y∈l,f y = y
 | []=>by simp
 | a :: l=>by
  rw [List.map_cons,List.cons_eq_cons,Zoy]
  simp
theorem gS_any (goal s:List Int):gS goal s = !(goal.any fun y=>!decide (PM.at_ s y = y)):=by
 unfold gS PM.comp
 rw [Bool.eq_iff_iff,decide_eq_true_iff,Zoy]
 simp
set_option maxHeartbeats 1000000 in
theorem Zoi (gb:Nat) (vs:Value) (s:List Int) (fs:List Nat) (y:Int) (w:World) (h1:w.cell? ⟨gb,0,none⟩ = some vs) (hs:Rd w vs s fs) (h2:0<=y) (h3:y < s.length) :
  Calls Tryz.prog 164 #[.int .i64 y,.pointer (some ⟨gb,0,none⟩)] w fun e w'=>e = .returned (.bool (!decide (PM.at_ s y = y)))/\Only [] w w':=by
 obtain ⟨a,c,rfl,I⟩:=hs.ints
 have hb:=I.bound
 obtain ⟨b,off,rfl,-,hc⟩:=I.at_pm h2 h3
 obtain ⟨z,hz⟩:∃ z,z = PM.at_ s y:=⟨_,rfl⟩
 rw [<- hz] at hc ⊢
 clear hz
 by_cases hzy:z = y
 ·have hb2:(z != y) = false:=by simp [hzy]
  have Hf:=zH (show (!decide (z = y)) = false by simp [hzy])
  clear hzy
  go_enter Tryz.func164,Tryz.ntmps164
  go_wp2
  go_ret
  exact ⟨Zaa Hf.out.symm,Only.refl _ _⟩
 ·have hb2:(z != y) = true:=by simpa using hzy
  have Hf:=zH (show (!decide (z = y)) = true by simp [hzy])
  clear hzy
  go_enter Tryz.func164,Tryz.ntmps164
  go_wp2
  go_ret
  exact ⟨Zaa Hf.out.symm,Only.refl _ _⟩
set_option maxHeartbeats 1000000 in
theorem Znw (vg:Value) (goal:List Int) (fg:List Nat) (vs:Value) (s:List Int) (fs:List Nat) (w:World) (hg:Rd w vg goal fg) (hs:Rd w vs s fs) (hr:∀ y∈goal,0<=y/\y < s.length) :
  Calls Tryz.prog 122 #[vg,vs] w fun e w'=>e = .returned (.bool (gS goal s))/\Only [] w w':=by
 obtain ⟨av,cv,rfl,Is⟩:=hs.ints
 have Hfin:=zH (gS_any goal s)
 have k0:Only [] w (w.alloc (.cells #[.slice av s.length cv] 25)):=zO.alloc _
 have Hc:=zH (Zbw 164 #[.pointer (some ⟨w.heap.size,0,none⟩)] (fun y=>!decide (PM.at_ s y = y)) Tryz.call164 vg goal _ (w.alloc (.cells #[.slice av s.length cv] 25)) (zK hg k0) (fun y hy W hW=>Zoi w.heap.size (.slice av s.length cv) s _ y W (hW.cell (by simp) (lit1 w (.slice av s.length cv) 25 rfl)) (zK hs (k0.trans hW)) (hr y hy).1 (hr y hy).2))
 go_enter Tryz.func122,Tryz.ntmps122
 go_wp2_with (first
  | (go_at_call 115;(with_reducible refine (Hc.out).mono ?_);rintro e w1 ⟨rfl,t1⟩)
  | fail)
 go_ret
 exact ⟨Zaa Hfin.out.symm,k0.trans t1⟩
set_option maxHeartbeats 1000000 in
theorem Zpm (x:Puzzle) (t:Table) (v vg:Value) (goal:List Int) (fg:List Nat) (gb eb i:Nat) (w:World) (h:Exp w x t v) (he:expl x = some t) (hg:Rd w vg goal fg) (ht:trackB x.points goal = true) (hi:i < t.patterns.length) (h1:w.cell? ⟨gb,0,none⟩ = some vg) (h2:w.cell? ⟨eb,0,none⟩ = some v) :
  Calls Tryz.prog 121 #[.int .i64 i,.pointer (some ⟨gb,0,none⟩),.pointer (some ⟨eb,0,none⟩)] w fun e w'=>e = .returned (.bool (gS goal (t.patterns.getD i [])))/\Only [] w w':=by
 have hr:∀ y∈goal,0<=y/\y < (t.patterns.getD i []).length:=fun y hy=>by
  have a:=(Zal.1 ht).2.1 y hy
  rw [Zbc he hi];omega
 obtain ⟨g,M,v2,us,ud,up,uy,un,fm,f1,f2,f3,km,rfl,hB,-,hS,-,-,-⟩:=h
 obtain ⟨aS,cS,obS,fpS,rfl,-,SS⟩:=hS.open_
 obtain ⟨ag,cg,rfl,Ig⟩:=hg.ints
 have hbS:=SS.bound
 obtain ⟨bS,oS,ur,rfl,-,hcS,hur⟩:=SS.atRow i hi
 rw [show t.patterns[i] = t.patterns.getD i [] from (Zab hi).symm] at hur
 obtain ⟨au,cu,rfl,Iu⟩:=hur.ints
 have y3:=hB.cell 3 rfl
 have hil:(i:Int) < t.patterns.length:=by omega
 have Hs:=zH (fun (W:World) (hW:Only [] w W)=>Znw _ goal _ _ (t.patterns.getD i []) _ W (zK Ig.rd hW) (zK Iu.rd hW) hr)
 obtain ⟨s,hs⟩:∃ s,s = t.patterns.getD i []:=⟨_,rfl⟩
 rw [<- hs] at Hs hcS ⊢
 clear hs hr hS hg
 go_enter Tryz.func121,Tryz.ntmps121
 go_wp2
 go_region_held3 (fun w'=>Only [] w w'/\w'.cell? ⟨gb,0,none⟩ = some (.slice ag goal.length cg)/\w'.cell? ⟨eb,0,none⟩ = some (.pointer (some ⟨g,0,none⟩))/\w'.cell? ⟨g,3,none⟩ = some (.slice (some ⟨bS,oS,none⟩) t.patterns.length cS)/\w'.cell? ⟨bS,oS + i,none⟩ = some (.slice au s.length cu)) (((refine and_of ?_ (fun q_=>⟨q_.ce h1,q_.ce h2,q_.ce y3,q_.ce hcS⟩));first | exact zO.drew | exact (zO.drewN _).drew | exact Only.trans (And.left (by assumption)) (by assumption) | exact Only.alloc (And.left (by assumption)) _ | assumption)) (first | (go_at_call 122;(with_reducible refine (Hs.out _ (And.left (by assumption))).mono ?_);rintro e w5 ⟨rfl,t5⟩) | fail)
 have k5:Only [] w w5:=(Only.refl [] w).trans (And.left (by assumption))
 go_wp2
 go_ret
 exact ⟨rfl,k5⟩
set_option maxHeartbeats 1000000 in
theorem Ziw (x:Puzzle) (t:Table) (v vg:Value) (goal:List Int) (fg:List Nat) (w:World) (h:Exp w x t v) (he:expl x = some t) (hg:Rd w vg goal fg) (ht:trackB x.points goal = true) :
  Calls Tryz.prog 67 #[v,vg] w fun e w'=>∃ u,e = .returned u/\AccI w.heap.size 2 w' u (mD x t (gS goal))/\Only [] w w':=by
 obtain ⟨ag,cg,rfl,Ig⟩:=hg.ints
 have hv:∃ g:Nat,v = .pointer (some ⟨g,0,none⟩):=by obtain ⟨g,_,_,_,_,_,_,_,_,_,_,_,_,hv,-⟩:=h;exact ⟨g,hv⟩
 obtain ⟨g,rfl⟩:=hv
 have k0:Only [] w ((w.alloc (.cells #[.pointer (some ⟨g,0,none⟩)] 75)).alloc (.cells #[.slice ag goal.length cg] 25)):=(zO.alloc _).alloc _
 have c1:=lit1 (w.alloc (.cells #[.pointer (some ⟨g,0,none⟩)] 75)) (.slice ag goal.length cg) 25 (g:=w.heap.size + 1) (by simp)
 have c2:=((Only.refl [] _).alloc (.cells #[.slice ag goal.length cg] 25)).cell (by simp) (lit1 w (.pointer (some ⟨g,0,none⟩)) 75 rfl)
 have Hd:=zH (Zgm x t (.pointer (some ⟨g,0,none⟩)) 121 #[] #[.pointer (some ⟨w.heap.size + 1,0,none⟩),.pointer (some ⟨w.heap.size,0,none⟩)] (gS goal) _ (h.keep k0) he Tryz.call121 (fun i hi W hW=>Zpm x t (.pointer (some ⟨g,0,none⟩)) (.slice ag goal.length cg) goal _ (w.heap.size + 1) w.heap.size i W ((h.keep k0).keep hW) he (zK hg (k0.trans hW)) ht hi (hW.cell (by simp) c1) (hW.cell (by simp) c2)))
 go_enter Tryz.func67,Tryz.ntmps67
 go_wp2_with (first
  | (go_at_call 78;(with_reducible refine (Hd.out).mono ?_);rintro e w1 ⟨u1,rfl,A1,t1⟩)
  | fail)
 go_ret
 exact ⟨u1,rfl,A1.mono (by simp;omega),k0.trans t1⟩
def Phs (w:World) (x:Puzzle) (t ts:Table) (sub:List Int) (h:Value):Prop:=
 ∃ g ve vs vsub f,h = .pointer (some ⟨g,0,none⟩)/\Blk w g [ve,vsub,vs]/\Exp w x t ve/\Rd w vsub sub f/\Exp w (subP x sub) ts vs
theorem Phs.keep {w w':World} {x:Puzzle} {t ts:Table} {sub:List Int} {h:Value} (hp:Phs w x t ts sub h) (ho:Only [] w w'):Phs w' x t ts sub h:=by
 obtain ⟨g,ve,vs,vsub,f,h1,h2,h3,h4,h5⟩:=hp
 exact ⟨g,ve,vs,vsub,f,h1,h2.keep ho,h3.keep ho,zK h4 ho,h5.keep ho⟩
theorem Exp.ptr {w:World} {x:Puzzle} {t:Table} {v:Value} (h:Exp w x t v):∃ g,v = .pointer (some ⟨g,0,none⟩):=by
 obtain ⟨g,_,_,_,_,_,_,_,_,_,_,_,_,hv,-⟩:=h
 exact ⟨g,hv⟩
theorem Exp.state {w:World} {x:Puzzle} {t:Table} {v:Value} (h:Exp w x t v) {i:Nat} (hi:i < t.patterns.length):∃ (g b o c a1:_) (cc:Nat) (fu:List Nat),v = .pointer (some ⟨g,0,none⟩)/\w.cell? ⟨g,3,none⟩ = some (.slice (some ⟨b,o,none⟩) t.patterns.length c)/\t.patterns.length<=9223372036854775807 /\
  w.cell? ⟨b,o + i,none⟩ = some (.slice a1 (t.patterns.getD i []).length cc)/\Rd w (.slice a1 (t.patterns.getD i []).length cc) (t.patterns.getD i []) fu:=by
 obtain ⟨g,M,v2,us,ud,up,uy,un,fm,f1,f2,f3,km,rfl,hB,-,hS,-,-,-⟩:=h
 obtain ⟨aS,cS,obS,fpS,rfl,-,SS⟩:=hS.open_
 obtain ⟨bS,oS,ur,rfl,-,hcS,hur⟩:=SS.atRow i hi
 rw [show t.patterns[i] = t.patterns.getD i [] from (Zab hi).symm] at hur
 obtain ⟨au,cu,rfl,Iu⟩:=hur.ints
 exact ⟨g,bS,oS,cS,au,cu,_,rfl,hB.cell 3 rfl,SS.bound,hcS,Iu.rd⟩
set_option maxHeartbeats 1000000 in
theorem Zds (cs:List Value) (x:Puzzle) (fp:List Nat) (v:Value) (sub:List Int) (fs0:List Nat) (w:World) (h:Rp.rep w cs x fp) (hs:Rd w v sub fs0) :
  Calls Tryz.prog 168 #[.agg cs.toArray,v] w fun e w'=>e = .returned (.bool (validPz x && trackB x.moves.length sub))/\Only [] w w':=by
 have h0:=h
 obtain ⟨v2,rfl,p0,p1,h2⟩:=h
 have X0:Blk (w.alloc (.cells #[.int .i64 x.points,.string x.names,v2] 33)) w.heap.size [.int .i64 x.points,.string x.names,v2]:=Blk.new w [.int .i64 x.points,.string x.names,v2] 33
 rcases hv:validPz x
 ·have Hv:=zH hv
  clear hv p0 p1
  go_enter Tryz.func168,Tryz.ntmps168
  go_wp2_with (first
   | (go_at_call 85;(with_reducible refine (Zai [.int .i64 x.points,.string x.names,v2] x _ _ (zK h0 zA)).mono ?_);rintro e w1 ⟨he,t1⟩;rw [Hv.out] at he;subst he)
   | fail)
  go_ret
  exact ⟨rfl,zA⟩
 ·obtain ⟨q1,q20,q8,-⟩:=Zae hv
  have Hv:=zH hv
  obtain ⟨r,hr⟩:∃ r,r = trackB x.moves.length sub:=⟨_,rfl⟩
  have Hr:=zH hr
  rw [<- hr]
  clear hv hr p0 p1
  go_enter Tryz.func168,Tryz.ntmps168
  go_wp2_with (first
   | (go_at_call 85;(with_reducible refine (Zai [.int .i64 x.points,.string x.names,v2] x _ _ (zK h0 zA)).mono ?_);rintro e w1 ⟨he,t1⟩;rw [Hv.out] at he;subst he;have X1:=X0.keep t1;have x2:=X1.cell 2 rfl;have K1:Only [] w w1:=zA)
   | (go_at_call 97;(with_reducible refine (Zcg v2 x.moves _ w1 (zK h2 K1)).mono ?_);rintro e w1 ⟨rfl,rfl⟩)
   | (go_at_call 114;(with_reducible refine (Zfk (x.moves.length:Int) v sub _ w1 (zK hs K1) (by omega) (by omega)).mono ?_);rintro e w3 ⟨he,d3⟩;rw [<- Hr.out] at he;subst he;have t3:=d3.only [])
   | fail)
  go_ret
  exact ⟨rfl,K1.trans t3⟩
set_option maxHeartbeats 2000000 in
theorem Zlv (cs:List Value) (x:Puzzle) (fp:List Nat) (v:Value) (sub:List Int) (fs0:List Nat) (w:World) (h:Rp.rep w cs x fp) (hs:Rd w v sub fs0) (hn:((expl x).isSome && trackB x.moves.length sub) = false) :
  Calls Tryz.prog 129 #[.agg cs.toArray,v] w fun e w'=>e = .returned (.tuple #[.pointer none,.bool false])/\Only [] w w':=by
 have h0:=h
 obtain ⟨v2,rfl,p0,p1,h2⟩:=h
 clear p0 p1 h2
 have X0:Blk (w.alloc (.cells #[.int .i64 x.points,.string x.names,v2] 33)) w.heap.size [.int .i64 x.points,.string x.names,v2]:=Blk.new w [.int .i64 x.points,.string x.names,v2] 33
 rcases he:expl x with _ | t
 ·have He:=zH he
  clear he hn
  go_enter Tryz.func129,Tryz.ntmps129
  go_wp2_with (first
   | (go_at_call 112;(with_reducible refine (Zig [.int .i64 x.points,.string x.names,v2] x _ _ (zK h0 zA) He.out).mono ?_);rintro e w1 ⟨rfl,t1⟩)
   | fail)
  exact bodyPost_ret (v:=.tuple #[.pointer none,.bool false]) (by simp [results,Tryz.results129,go_sem]) rfl ⟨rfl,zA⟩
 ·rw [he] at hn
  have hq:(validPz x && trackB x.moves.length sub) = false:=by
   have:trackB x.moves.length sub = false:=by simpa using hn
   rw [this];simp
  have Hq:=zH hq
  have He:=zH he
  clear he hn hq
  go_enter Tryz.func129,Tryz.ntmps129
  go_wp2_with (first
   | (go_at_call 112;(with_reducible refine (Zcs [.int .i64 x.points,.string x.names,v2] x t _ _ (zK h0 zA) He.out).mono ?_);rintro e w1 ⟨z,rfl,hX,t1⟩;have X1:=X0.keep t1;obtain ⟨x0,x1,x2⟩:=X1.c3)
   | (go_at_call 168;(with_reducible refine (Zds [.int .i64 x.points,.string x.names,v2] x _ v sub _ _ (zK h0 zA) (zK hs zA)).mono ?_);rintro e w2 ⟨he,t2⟩;rw [Hq.out] at he;subst he)
   | fail)
  exact bodyPost_ret (v:=.tuple #[.pointer none,.bool false]) (by simp [results,Tryz.results129,go_sem]) rfl ⟨rfl,zA⟩
set_option maxHeartbeats 2000000 in
theorem Zhc (cs:List Value) (x:Puzzle) (t ts:Table) (fp:List Nat) (v:Value) (sub:List Int) (fs0:List Nat) (w:World) (h:Rp.rep w cs x fp) (hs:Rd w v sub fs0) (he:expl x = some t) (ht:trackB x.moves.length sub = true) (h2:expl (subP x sub) = some ts) :
  Calls Tryz.prog 129 #[.agg cs.toArray,v] w fun e w'=>∃ z,e = .returned (.tuple #[z,.bool true])/\Phs w' x t ts sub z/\Only [] w w':=by
 have h0:=h
 obtain ⟨v2,rfl,p0,p1,hm⟩:=h
 obtain ⟨a,cap,rfl,I⟩:=hs.ints
 clear p0 p1 hm
 obtain ⟨hb,-⟩:=Zad he
 have X0:Blk (w.alloc (.cells #[.int .i64 x.points,.string x.names,v2] 33)) w.heap.size [.int .i64 x.points,.string x.names,v2]:=Blk.new w [.int .i64 x.points,.string x.names,v2] 33
 have Hq:=zH (show (validPz x && trackB x.moves.length sub) = true by rw [hb.v,ht];rfl)
 have Hv:=zH hb.v
 have Ht:=zH ht
 have He:=zH he
 have H2:=zH h2
 clear he ht h2 hb
 go_enter Tryz.func129,Tryz.ntmps129
 go_wp2_with (first
  | (go_at_call 112;(with_reducible refine (Zcs [.int .i64 x.points,.string x.names,v2] x t _ _ (zK h0 zA) He.out).mono ?_);rintro e w1 ⟨z,rfl,hX,t1⟩;obtain ⟨gz,rfl⟩:=hX.ptr;have X1:=X0.keep t1;obtain ⟨x0,x1,x2⟩:=X1.c3)
  | (go_at_call 168;(with_reducible refine (Zds [.int .i64 x.points,.string x.names,v2] x _ _ sub _ _ (zK h0 zA) (zK hs zA)).mono ?_);rintro e w2 ⟨he,t2⟩;rw [Hq.out] at he;subst he;have X2:=X1.keep t2;obtain ⟨y0,y1,y2⟩:=X2.c3)
  | (go_at_call 169;(with_reducible refine (Zkc [.int .i64 x.points,.string x.names,v2] x _ _ sub _ _ (zK h0 zA) (zK hs zA) Hv.out Ht.out).mono ?_);rintro e w3 ⟨cs3,f3,rfl,r3,t3⟩)
  | (go_at_call 112;(with_reducible refine (Zcs cs3 (subP x sub) ts _ w3 r3 H2.out).mono ?_);rintro e w4 ⟨z4,rfl,hX4,t4⟩;obtain ⟨g4,rfl⟩:=hX4.ptr)
  | fail)
 have K4:Only [] w w4:=zA
 have k14:Only [] w1 w4:=(t2.trans t3).trans t4
 have ka:Only [] w4 (w4.alloc (.cells #[.pointer (some ⟨gz,0,none⟩),.slice a sub.length cap,.pointer (some ⟨g4,0,none⟩)] 98)):=zO.alloc _
 exact bodyPost_ret (v:=.tuple #[.pointer (some ⟨w4.heap.size,0,none⟩),.bool true]) (by simp [results,Tryz.results129,go_sem]) rfl ⟨_,rfl,⟨w4.heap.size,_,_,_,_,rfl,Blk.new w4 _ _,(hX.keep k14).keep ka,zK hs (K4.trans ka),hX4.keep ka⟩,K4.trans ka⟩
set_option maxHeartbeats 2000000 in
theorem Ztr (x:Puzzle) (t ts:Table) (sub:List Int) (h:Value) (i:Nat) (w:World) (hp:Phs w x t ts sub h) (h2:expl (subP x sub) = some ts) (hi:i < t.patterns.length) :
  Calls Tryz.prog 79 #[h,.int .i64 i] w fun e w'=>e = .returned (.bool (subS ts (t.patterns.getD i [])))/\Only [] w w':=by
 obtain ⟨gh,ve,vs,vsub,f,rfl,hB,hE,-,hS⟩:=hp
 obtain ⟨ge,b,o,c,a1,cc,fu,rfl,y3,hlen,hcS,hu⟩:=hE.state hi
 obtain ⟨gs,rfl⟩:=hS.ptr
 have x0:=hB.cell 0 rfl
 have x2:=hB.cell 2 rfl
 have hil:(i:Int) < t.patterns.length:=by omega
 obtain ⟨s,hs⟩:∃ s,s = t.patterns.getD i []:=⟨_,rfl⟩
 rw [<- hs] at hcS hu ⊢
 clear hs
 by_cases hm:s∈ts.patterns
 ·obtain ⟨j,hj,hjs⟩:=List.getElem_of_mem hm
  have hf:=zH (fun (W:World) (hW:Only [] w W)=>Zfz (subP x sub) ts (.pointer (some ⟨gs,0,none⟩)) (.slice a1 s.length cc) s _ j W (hS.keep hW) h2 (zK hu hW) hj (by rw [Zab hj,hjs]))
  have Hfin:=zH (show true = subS ts s by unfold subS;rw [decide_eq_true hm])
  clear hm hj hjs h2 hE
  go_enter Tryz.func79,Tryz.ntmps79
  go_wp2
  go_region_held3 (fun w'=>Only [] w w'/\w'.cell? ⟨gh,2,none⟩ = some (.pointer (some ⟨gs,0,none⟩))/\w'.cell? ⟨gh,0,none⟩ = some (.pointer (some ⟨ge,0,none⟩))/\w'.cell? ⟨ge,3,none⟩ = some (.slice (some ⟨b,o,none⟩) t.patterns.length c)/\w'.cell? ⟨b,o + i,none⟩ = some (.slice a1 s.length cc)) (((refine and_of ?_ (fun q_=>⟨q_.ce x2,q_.ce x0,q_.ce y3,q_.ce hcS⟩));first | exact zO.drew | exact (zO.drewN _).drew | exact Only.trans (And.left (by assumption)) (by assumption) | exact Only.alloc (And.left (by assumption)) _ | assumption)) (first | (go_at_call 113;(with_reducible refine (hf.out _ (And.left (by assumption))).mono ?_);rintro e w5 ⟨rfl,t5⟩) | fail)
  have k5:Only [] w w5:=(Only.refl [] w).trans (And.left (by assumption))
  go_wp2
  go_ret
  exact ⟨Zaa Hfin.out,k5⟩
 ·have hf:=zH (fun (W:World) (hW:Only [] w W)=>find_no (subP x sub) ts (.pointer (some ⟨gs,0,none⟩)) (.slice a1 s.length cc) s _ W (hS.keep hW) h2 (zK hu hW) hm)
  have Hfin:=zH (show false = subS ts s by unfold subS;rw [decide_eq_false hm])
  clear hm h2 hE
  go_enter Tryz.func79,Tryz.ntmps79
  go_wp2
  go_region_held3 (fun w'=>Only [] w w'/\w'.cell? ⟨gh,2,none⟩ = some (.pointer (some ⟨gs,0,none⟩))/\w'.cell? ⟨gh,0,none⟩ = some (.pointer (some ⟨ge,0,none⟩))/\w'.cell? ⟨ge,3,none⟩ = some (.slice (some ⟨b,o,none⟩) t.patterns.length c)/\w'.cell? ⟨b,o + i,none⟩ = some (.slice a1 s.length cc)) (((refine and_of ?_ (fun q_=>⟨q_.ce x2,q_.ce x0,q_.ce y3,q_.ce hcS⟩));first | exact zO.drew | exact (zO.drewN _).drew | exact Only.trans (And.left (by assumption)) (by assumption) | exact Only.alloc (And.left (by assumption)) _ | assumption)) (first | (go_at_call 113;(with_reducible refine (hf.out _ (And.left (by assumption))).mono ?_);rintro e w5 ⟨rfl,t5⟩) | fail)
  have k5:Only [] w w5:=(Only.refl [] w).trans (And.left (by assumption))
  go_wp2
  go_ret
  exact ⟨Zaa Hfin.out,k5⟩
set_option maxHeartbeats 2000000 in
theorem Zqk (cs:List Value) (x:Puzzle) (fp:List Nat) (v:Value) (sub:List Int) (fs0:List Nat) (u:Value) (w:World) (h:Rp.rep w cs x fp) (hs:Rd w v sub fs0) (hn:((expl x).isSome && trackB x.moves.length sub) = false) :
  Calls Tryz.prog 77 #[.agg cs.toArray,v,u] w fun e w'=>e = .returned (.tuple #[.pointer none,.int .i64 0,.bool false])/\Only [] w w':=by
 have h0:=h
 obtain ⟨v2,rfl,p0,p1,h2⟩:=h
 clear p0 p1 h2
 have X0:Blk (w.alloc (.cells #[.int .i64 x.points,.string x.names,v2] 33)) w.heap.size [.int .i64 x.points,.string x.names,v2]:=Blk.new w [.int .i64 x.points,.string x.names,v2] 33
 have Hn:=zH hn
 clear hn
 go_enter Tryz.func77,Tryz.ntmps77
 go_wp2_with (first
  | (go_at_call 129;(with_reducible refine (Zlv [.int .i64 x.points,.string x.names,v2] x _ _ sub _ _ (zK h0 zA) (zK hs zA) Hn.out).mono ?_);rintro e w1 ⟨rfl,t1⟩)
  | fail)
 exact bodyPost_ret (v:=.tuple #[.pointer none,.int .i64 0,.bool false]) (by simp [results,Tryz.results77,go_sem]) rfl ⟨rfl,zA⟩
theorem Phs.fst {w:World} {x:Puzzle} {t ts:Table} {sub:List Int} {h:Value} (hp:Phs w x t ts sub h):∃ g ge gs vsub f,h = .pointer (some ⟨g,0,none⟩)/\Blk w g [.pointer (some ⟨ge,0,none⟩),vsub,.pointer (some ⟨gs,0,none⟩)]/\Exp w x t (.pointer (some ⟨ge,0,none⟩))/\Rd w vsub sub f/\Exp w (subP x sub) ts (.pointer (some ⟨gs,0,none⟩)):=by
 obtain ⟨g,ve,vs,vsub,f,h1,h2,h3,h4,h5⟩:=hp
 obtain ⟨ge,rfl⟩:=h3.ptr
 obtain ⟨gs,rfl⟩:=h5.ptr
 exact ⟨g,ge,gs,vsub,f,h1,h2,h3,h4,h5⟩
set_option maxHeartbeats 2000000 in
theorem Zrb (cs:List Value) (x:Puzzle) (t ts:Table) (fp:List Nat) (v:Value) (sub:List Int) (fs0:List Nat) (u:Value) (s:List Int) (fs1:List Nat) (w:World) (h:Rp.rep w cs x fp) (hs:Rd w v sub fs0) (hu:Rd w u s fs1) (he:expl x = some t) (ht:trackB x.moves.length sub = true) (h2:expl (subP x sub) = some ts) (hm:s ∉ t.patterns) :
  Calls Tryz.prog 77 #[.agg cs.toArray,v,u] w fun e w'=>(∃ z,e = .returned (.tuple #[z,.int .i64 0,.bool false]))/\Only [] w w':=by
 have h0:=h
 obtain ⟨v2,rfl,p0,p1,h3⟩:=h
 clear p0 p1 h3
 have X0:Blk (w.alloc (.cells #[.int .i64 x.points,.string x.names,v2] 33)) w.heap.size [.int .i64 x.points,.string x.names,v2]:=Blk.new w [.int .i64 x.points,.string x.names,v2] 33
 have He:=zH he
 have Ht:=zH ht
 have H2:=zH h2
 have Hm:=zH hm
 clear he ht h2 hm
 go_enter Tryz.func77,Tryz.ntmps77
 go_wp2_with (first
  | (go_at_call 129;(with_reducible refine (Zhc [.int .i64 x.points,.string x.names,v2] x t ts _ _ sub _ _ (zK h0 zA) (zK hs zA) He.out Ht.out H2.out).mono ?_);rintro e w1 ⟨z,rfl,hP,t1⟩;obtain ⟨g,ge,gs,vsub,f,rfl,hB,hE,-,-⟩:=hP.fst;have x0:=hB.cell 0 rfl;have K1:Only [] w w1:=zA)
  | (go_at_call 113;(with_reducible refine (find_no x t _ u s _ w1 hE He.out (zK hu K1) Hm.out).mono ?_);rintro e w2 ⟨rfl,t2⟩)
  | fail)
 exact bodyPost_ret (v:=.tuple #[.pointer (some ⟨g,0,none⟩),.int .i64 0,.bool false]) (by simp [results,Tryz.results77,go_sem]) rfl ⟨⟨_,rfl⟩,K1.trans t2⟩
set_option maxHeartbeats 2000000 in
theorem Zfn (cs:List Value) (x:Puzzle) (t ts:Table) (fp:List Nat) (v:Value) (sub:List Int) (fs0:List Nat) (u:Value) (s:List Int) (fs1:List Nat) (i:Nat) (w:World) (h:Rp.rep w cs x fp) (hs:Rd w v sub fs0) (hu:Rd w u s fs1) (he:expl x = some t) (ht:trackB x.moves.length sub = true) (h2:expl (subP x sub) = some ts) (hi:i < t.patterns.length) (his:t.patterns.getD i [] = s) :
  Calls Tryz.prog 77 #[.agg cs.toArray,v,u] w fun e w'=>∃ z,e = .returned (.tuple #[z,.int .i64 i,.bool true])/\Phs w' x t ts sub z/\Only [] w w':=by
 have h0:=h
 obtain ⟨v2,rfl,p0,p1,h3⟩:=h
 clear p0 p1 h3
 have X0:Blk (w.alloc (.cells #[.int .i64 x.points,.string x.names,v2] 33)) w.heap.size [.int .i64 x.points,.string x.names,v2]:=Blk.new w [.int .i64 x.points,.string x.names,v2] 33
 have He:=zH he
 have Ht:=zH ht
 have H2:=zH h2
 have Hm:=zH his
 clear he ht h2 his
 go_enter Tryz.func77,Tryz.ntmps77
 go_wp2_with (first
  | (go_at_call 129;(with_reducible refine (Zhc [.int .i64 x.points,.string x.names,v2] x t ts _ _ sub _ _ (zK h0 zA) (zK hs zA) He.out Ht.out H2.out).mono ?_);rintro e w1 ⟨z,rfl,hP,t1⟩;obtain ⟨g,ge,gs,vsub,f,rfl,hB,hE,-,-⟩:=hP.fst;have x0:=hB.cell 0 rfl;have K1:Only [] w w1:=zA)
  | (go_at_call 113;(with_reducible refine (Zfz x t _ u s _ i w1 hE He.out (zK hu K1) hi Hm.out).mono ?_);rintro e w2 ⟨rfl,t2⟩)
  | fail)
 exact bodyPost_ret (v:=.tuple #[.pointer (some ⟨g,0,none⟩),.int .i64 i,.bool true]) (by simp [results,Tryz.results77,go_sem]) rfl ⟨_,rfl,hP.keep t2,K1.trans t2⟩
end Go.Proofs.YtclhblofchfglaaGreat
