/- The reference's iterative deepening (laws 52, 56). -/
import Derived.Test.YthleokaeobdamaaGreatRowTableSolverG19
import Derived.Test.YthleokaeobdamaaGreatRowTableSolverG16
import Derived.Test.YthleokaeobdamaaGreatRowTableSolverG10
import Derived.Deep.RegionHeld3
import Derived.Test.YthleokaeobdamaaGreatRowTableSolverG18
namespace Go.Proofs.YthleokaeobdamaaGreat
open Go.RowKit
set_option maxRecDepth 10000
theorem Zhw (v2:Value) (x:Puzzle) (fp:List Nat) (vt:Value) (ts:List Table) (ft:List Nat) (D:Nat) (W0:World)
  (h:Rp.rep W0 [.int .i64 x.points,.string x.names,v2] x fp) (hv:Rd W0 vt ts ft) (hts:∀ t∈ts,validT x t = true) (hl:ts.length<=4) (hD:D<=30) (hx:validPz x = true) :
  ∀ f:Nat,VNode v2 x vt ts D W0 f
 | 0=>Zgu v2 x fp vt ts ft D W0 h hv hts hl hD hx 0 (fun f' hf=>by omega)
 | f + 1=>Zgu v2 x fp vt ts ft D W0 h hv hts hl hD hx (f + 1) (fun f' hf=>by
   obtain rfl:f = f':=by omega
   exact Zhw v2 x fp vt ts ft D W0 h hv hts hl hD hx f)
theorem Zrb (v2:Value) (x:Puzzle) (fp:List Nat) (vt:Value) (ts:List Table) (ft:List Nat) (D:Nat) (vs:Value) (s:List Int) (fs:List Nat) (g:Nat) (w:World)
  (h:Rp.rep w [.int .i64 x.points,.string x.names,v2] x fp) (hv:Rd w vt ts ft) (hts:∀ t∈ts,validT x t = true) (hl:ts.length<=4) (hD:D<=30) (hx:validPz x = true) (hs:Rd w vs s fs) (hr:reachB x s = true)
  (hw:AccI 0 2 w (.slice (some ⟨g,0,none⟩) 0 0) []) :
  Calls Tryz.prog 213 #[.agg #[.int .i64 x.points,.string x.names,v2],vt,vs,.slice (some ⟨g,0,none⟩) 0 0,.int .i64 D,.agg #[.int .i64 0,.int .i64 0,.slice none 0 0,.bool false,.bool false]] w fun e w'=>(∃ cs,e = .returned (.agg (List.toArray cs))/\VC w' w.heap.size (vis x ts D D s [] 0) cs)/\Only [] w w':=
 Zhw v2 x fp vt ts ft D w h hv hts hl hD hx D s [] 0 vs _ fs _ w zO hs hw.rd hr (by simp) (by simp) (by omega)
set_option maxHeartbeats 2000000 in
theorem Zil (v2:Value) (x:Puzzle) (fp:List Nat) (vt:Value) (ts:List Table) (ft:List Nat) (D:Nat) (vs:Value) (s:List Int) (fs:List Nat) (w:World)
  (h:Rp.rep w [.int .i64 x.points,.string x.names,v2] x fp) (hv:Rd w vt ts ft) (hts:∀ t∈ts,validT x t = true) (hl:ts.length<=4) (hD:D<=30) (hx:validPz x = true) (hs:Rd w vs s fs) (hr:reachB x s = true) :
  Calls Tryz.prog 157 #[.agg #[.int .i64 x.points,.string x.names,v2],vt,vs,.int .i64 D,.bool false] w fun e w'=>(∃ cs,e = .returned (.agg (List.toArray cs))/\VC w' w.heap.size (vis x ts D D s [] 0) cs)/\Only [] w w':=by
 have Hts:=zH hts
 have Hr:=zH hr
 have Hx:=zH hx
 clear hts hr hx
 go_enter Tryz.func157,Tryz.ntmps157
 go_upto_region 1 with fail
 obtain ⟨w1,hw1⟩:∃ w1,w1 = (w.alloc (.cells #[.int .i64 x.points,.string x.names,v2] 26)).alloc (.cells #[.int .i64 0,.int .i64 0,.slice none 0 0,.bool false,.bool false] 115):=⟨_,rfl⟩
 have P1:Blk w1 w.heap.size [.int .i64 x.points,.string x.names,v2]:=by rw [hw1];exact ((Blk.new w [.int .i64 x.points,.string x.names,v2] 26).keep ((Only.refl [] _).alloc _))
 have R1:Blk w1 (w.heap.size + 1) [.int .i64 0,.int .i64 0,.slice none 0 0,.bool false,.bool false]:=by rw [hw1];exact Blk.new_at (cs:=[.int .i64 0,.int .i64 0,.slice none 0 0,.bool false,.bool false]) (by simp)
 have K1:Only [] w w1:=by rw [hw1];exact ((Only.refl [] w).alloc _).alloc _
 have hz1:w1.heap.size = w.heap.size + 2:=by rw [hw1];simp
 rw [<- hw1]
 clear hw1
 obtain ⟨x0,x1,x2⟩:=P1.c3
 have ka:=(Only.refl [] w1).alloc (.cells #[] 2)
 have A1:=AccI.made w1 0 2 rfl (Nat.zero_le _)
 have hz2:=ka.size
 have Hz1:=zH hz1
 clear hz1
 go_wp2_with (first
  | (go_at_call 213;(with_reducible refine (Zrb v2 x fp vt ts ft D _ s fs w1.heap.size _ (zK h (K1.trans ka)) (zK hv (K1.trans ka)) Hts.out hl hD Hx.out (zK hs (K1.trans ka)) Hr.out A1).mono ?_);rintro e w3 ⟨⟨cs3,rfl,VC3⟩,t3⟩;obtain ⟨m,a,n,c,b,rfl,-⟩:=VC3.six;have R3:=(R1.keep ka).keep t3;obtain ⟨o0,o1,o2,o3,o4⟩:=R3.c5;obtain ⟨p0,p1,p2,p3,p4⟩:=R3.f5)
  | fail)
 obtain ⟨Yf,kf⟩:=store5 R3 (.int .i64 ((vis x ts D D s [] 0).1:Int)) (.int .i64 m) (.slice a n c) (.bool b) (.bool false)
 obtain ⟨wf,hwf⟩:∃ wf,wf = (((((w3.setCell ⟨w.heap.size + 1,0,none⟩ (.int .i64 ((vis x ts D D s [] 0).1:Int))).setCell ⟨w.heap.size + 1,1,none⟩ (.int .i64 m)).setCell ⟨w.heap.size + 1,2,none⟩ (.slice a n c)).setCell ⟨w.heap.size + 1,3,none⟩ (.bool b)).setCell ⟨w.heap.size + 1,4,none⟩ (.bool false)):=⟨_,rfl⟩
 rw [<- hwf] at Yf kf ⊢
 clear hwf o0 p0 o1 p1 o2 p2 o3 p3 o4 p4
 obtain ⟨r0,r1,r2,r3,r4⟩:=Yf.c5
 have hz4:w.heap.size + 2<=(w1.alloc (.cells #[] 2)).heap.size:=by have:=Hz1.out;omega
 exact bodyPost_ret (v:=.agg #[.int .i64 ((vis x ts D D s [] 0).1:Int),.int .i64 m,.slice a n c,.bool b,.bool false]) (by simp [results,Tryz.results157,go_sem,r0,r1,r2,r3,r4]) rfl ⟨⟨_,rfl,(VC3.only kf (by intro b hb;simp at hb;omega)).mono (by omega)⟩,((K1.trans ka).trans t3).then_ kf (by intro b hb hl;simp at hb;omega)⟩
theorem AccI.base0 {w:World} {B:Nat} {e:TypeId} {v:Value} {l:List Int} (h:AccI B e w v l):AccI 0 e w v l:=by
 obtain ⟨hO,hI⟩:=h.row
 refine AccI.ofRow ⟨hO.1,?_⟩ hI
 rcases hO.2 with h | ⟨g,cap,cur,hv,hb,r⟩
 ·exact .inl h
 ·exact .inr ⟨g,cap,cur,hv,Nat.zero_le _,r⟩
def contO (o:Out) (g:Out):Out:=match o with
 | none=>g
 | some _=>o
theorem Zlg {o g:Out} (h:o.isSome = true):contO o g = o:=by cases o with
 | none=>cases h
 | some _=>rfl
theorem Zkr {o g:Out} (h:o = none):contO o g = g:=by subst h;rfl
theorem Zkx {x:Puzzle} {ts:List Table} {s:List Int} {k d:Nat}:deepN x ts s (k + 1) d = contO (vis x ts d d s [] 0).2 (deepN x ts s k (d + 1)):=by
 rcases h:(vis x ts d d s [] 0).2 with _ | o
 ·rw [Zjm h];rfl
 ·rw [Zhl h];rfl
def RIt (w w':World) (o:Out) (e:Ending):Prop:=∃ (cs:List Value) (v:Value) (L:List Int) (n:Nat),e = .returned (.tuple #[v,.agg (List.toArray cs)])/\VC w' w.heap.size (n,o) cs/\AccI 0 2 w' v L/\L.length<=31
set_option maxHeartbeats 4000000 in
theorem Zit (v2:Value) (x:Puzzle) (fp:List Nat) (vt:Value) (ts:List Table) (ft:List Nat) (M:Nat) (vs:Value) (s:List Int) (fs:List Nat) (w:World)
  (h:Rp.rep w [.int .i64 x.points,.string x.names,v2] x fp) (hv:Rd w vt ts ft) (hts:∀ t∈ts,validT x t = true) (hl:ts.length<=4) (hM:M<=30) (hx:validPz x = true) (hs:Rd w vs s fs) (hr:reachB x s = true) :
  Calls Tryz.prog 95 #[.agg #[.int .i64 x.points,.string x.names,v2],vt,vs,.int .i64 M] w fun e w'=>RIt w w' (deepN x ts s (M + 1 - (lbMax ts s).toNat) (lbMax ts s).toNat) e/\Only [] w w':=by
 have Hts:=zH hts
 have Hr:=zH hr
 have Hx:=zH hx
 have hlb:0<=lbMax ts s:=(Zbs (l:=lbs ts s) (m:=3000) (a:=0) (fun y hy=>by
   obtain ⟨t,ht,rfl⟩:=List.mem_map.1 hy
   exact Zcd (Hts.out t ht) Hr.out) (by omega)).1
 obtain ⟨d0,hd0⟩:∃ d0:Nat,d0 = (lbMax ts s).toNat:=⟨_,rfl⟩
 have hlk:∀ W,Only [] w W->Calls Tryz.prog 97 #[vt,vs] W fun e w'=>e = .returned (.int .i64 (d0:Int))/\Only [] W w':=fun W hh=>by
  rw [hd0,Int.toNat_of_nonneg hlb]
  exact Zdt x vt ts ft _ s fs W (zK hv hh) (zK hs hh) Hts.out Hr.out hl
 have Hlk:=zH hlk
 rw [<- hd0]
 clear hts hr hx hlb hd0 hlk
 obtain ⟨i0,hi,hz0,hz1,hz2⟩:=info_parts Tryz.info2
 go_enter Tryz.func95,Tryz.ntmps95
 go_upto_region 3 with fail
 obtain ⟨w1,hw1⟩:∃ w1,w1 = (((w.alloc (.cells #[.int .i64 x.points,.string x.names,v2] 26)).alloc (.cells #[.int .i64 0,.int .i64 0,.slice none 0 0,.bool false,.bool false] 115)).alloc (.cells #[] 2)).alloc (.cells #[.int .i64 0,.int .i64 0,.slice none 0 0,.bool false,.bool false] 115):=⟨_,rfl⟩
 have P1:Blk w1 w.heap.size [.int .i64 x.points,.string x.names,v2]:=by rw [hw1];exact ((((Blk.new w [.int .i64 x.points,.string x.names,v2] 26).keep ((Only.refl [] _).alloc _)).keep ((Only.refl [] _).alloc _)).keep ((Only.refl [] _).alloc _))
 have R1:Blk w1 (w.heap.size + 1) [.int .i64 0,.int .i64 0,.slice none 0 0,.bool false,.bool false]:=by rw [hw1];exact (((Blk.new_at (w:=w.alloc (.cells #[.int .i64 x.points,.string x.names,v2] 26)) (cs:=[.int .i64 0,.int .i64 0,.slice none 0 0,.bool false,.bool false]) (by simp)).keep ((Only.refl [] _).alloc _)).keep ((Only.refl [] _).alloc _))
 have A1:AccI (w.heap.size + 2) 2 w1 (.slice (some ⟨w.heap.size + 1 + 1,0,none⟩) 0 0) []:=by rw [hw1];exact (AccI.made _ _ _ (by simp) (by simp)).keep ((Only.refl [] _).alloc _)
 have V1:Blk w1 (w.heap.size + 1 + 1 + 1) [.int .i64 0,.int .i64 0,.slice none 0 0,.bool false,.bool false]:=by rw [hw1];exact Blk.new_at (cs:=[.int .i64 0,.int .i64 0,.slice none 0 0,.bool false,.bool false]) (by simp)
 have K1:Only [] w w1:=by rw [hw1];exact ((((Only.refl [] w).alloc _).alloc _).alloc _).alloc _
 have hsz1:w1.heap.size = w.heap.size + 4:=by rw [hw1];simp
 rw [<- hw1]
 clear hw1
 go_upto_region 4 with ((go_at_call 97;(with_reducible refine (Hlk.out _ K1).mono ?_);rintro e w2 ⟨rfl,t2⟩))
 have hzb:w.heap.size + 4<=w2.heap.size:=by have:=t2.size;omega
 have hc0:∀ q:Nat,.int .i64 (q:Int) = Value.int .i64 (q:Int):=fun _=>rfl
 clear hc0
 go_loopw [10,12] (fun o i wr=>∃ (d:Nat) (L:List Int) (n:Nat) (O:Out) (cs:List Value),d0<=d/\(d<=M + 1\/d = d0)/\i = .int .i64 d/\AccI (w.heap.size + 2) 2 wr o L/\L.length<=d - d0/\o.ownBlock ≠ some (w.heap.size + 1 + 1 + 1) /\
   Blk wr w.heap.size [.int .i64 x.points,.string x.names,v2]/\Blk wr (w.heap.size + 1) [.int .i64 0,.int .i64 0,.slice none 0 0,.bool false,.bool false]/\Blk wr (w.heap.size + 1 + 1 + 1) cs/\VC wr (w.heap.size + 4) (n,O) cs/\n<=20000 /\
   deepN x ts s (M + 1 - d0) d0 = contO O (deepN x ts s (M + 1 - d) d)/\Only [] w wr)
  (fun _ i _=>M + 1 - (intOf i).toNat)
 case atStart=>exact ⟨d0,[],0,none,_,Nat.le_refl _,.inr rfl,rfl,A1.keep t2,by simp,by simp [Value.ownBlock],P1.keep t2,R1.keep t2,V1.keep t2,.inl ⟨rfl,rfl⟩,by omega,rfl,K1.trans t2⟩
 case round=>
  obtain ⟨W2,hnew⟩:∃ W,W = wr:=⟨_,rfl⟩
  subst hnew
  obtain ⟨d,L,n,O,cs5,hd0d,hdM,rfl,hA,hL,hne,hP,hR,hV,hvc,hn,hfold,hK⟩:=hrel
  have HVC:=zH hvc
  obtain ⟨m5,a5,n5,c5,b5,rfl,hdone⟩:=hvc.six
  have Hfold:=zH hfold
  have Hdone:=zH (show (b5 || (decide ((0:Int) < m5) && !false)) = O.isSome from hdone)
  have HA:=zH hA
  have hzw:=hK.size
  obtain ⟨y0,y1,y2,y3,y4⟩:=hV.c5
  clear hvc hfold hdone hA
  obtain ⟨a9,c9,rfl⟩:=HA.out.form
  by_cases hlt:d<=M
  ·rcases hrs:O.isSome with _ | _
   ·have Hd:=zH (Hdone.out.trans hrs)
    have hrn:O = none:=by simpa using hrs
    have Hrn:=zH hrn
    clear hrs hrn
    go_upto_region 6 with (first
     | (go_at_call 156;(with_reducible refine (Zdc (n:Int) m5 (.slice a5 n5 c5) b5 false _).mono ?_);rintro e w4 ⟨he,t4⟩;rw [Hd.out] at he;subst he)
     | fail)
    have P4:=hP.keep t4
    have R4:=hR.keep t4
    have V4:=hV.keep t4
    have A4:=HA.out.keep t4
    have K4:=hK.trans t4
    obtain ⟨x0,x1,x2⟩:=P4.c3
    have hz4:w.heap.size + 4<=w4.heap.size:=by have:=hV.lt;have:=t4.size;omega
    have hob4:∀ b,(Value.slice a9 L.length c9).ownBlock = some b->b < w4.heap.size:=fun b hb=>(A4.ownlt b hb).2
    clear y0 y1 y2 y3 y4 hP hR hV HA t4
    go_upto_region 7 with (first
     | (go_at_call 157;(with_reducible refine (Zil v2 x fp vt ts ft d _ s fs _ (zK h K4) (zK hv K4) Hts.out hl (by omega) Hx.out (zK hs K4) Hr.out).mono ?_);rintro e w5 ⟨⟨cs6,rfl,VC5⟩,t5⟩;obtain ⟨m6,a6,n6,c6,b6,rfl,-⟩:=VC5.six;have V5:=V4.keep t5;obtain ⟨o0,o1,o2,o3,o4⟩:=V5.c5;obtain ⟨p0,p1,p2,p3,p4⟩:=V5.f5)
     | fail)
    obtain ⟨Yf,kf⟩:=store5 V5 (.int .i64 ((vis x ts d d s [] 0).1:Int)) (.int .i64 m6) (.slice a6 n6 c6) (.bool b6) (.bool false)
    have hz5:=t5.size
    obtain ⟨w6,hw6⟩:∃ w6,w6 = (((((w5.setCell ⟨w.heap.size + 1 + 1 + 1,0,none⟩ (.int .i64 ((vis x ts d d s [] 0).1:Int))).setCell ⟨w.heap.size + 1 + 1 + 1,1,none⟩ (.int .i64 m6)).setCell ⟨w.heap.size + 1 + 1 + 1,2,none⟩ (.slice a6 n6 c6)).setCell ⟨w.heap.size + 1 + 1 + 1,3,none⟩ (.bool b6)).setCell ⟨w.heap.size + 1 + 1 + 1,4,none⟩ (.bool false)):=⟨_,rfl⟩
    rw [<- hw6] at Yf kf ⊢
    have P6:=(P4.keep t5).only kf (by simp;omega)
    have R6:=(R4.keep t5).only kf (by simp)
    have A6:=(A4.keep t5).only kf (fun g hg hm=>by simp at hm;subst hm;exact hne hg)
    have VC6:=VC5.only kf (by intro b hb;simp at hb;omega)
    have K6:=(K4.trans t5).then_ kf (by intro b hb hl;simp at hb;omega)
    have hz6:=kf.size
    have hn6:(vis x ts d d s [] 0).1<=20000:=vis_rng _ _ _ _ (by omega)
    obtain ⟨N6,hN6⟩:∃ N6,N6 = (vis x ts d d s [] 0).1:=⟨_,rfl⟩
    rw [<- hN6] at Yf hn6 ⊢
    have HN6:=zH hN6
    clear hw6 o0 o1 o2 o3 o4 p0 p1 p2 p3 p4 V5 V4 P4 R4 A4 K4 t5 kf hN6
    have y0:=Yf.cell 0 rfl
    have hnI:I64 (N6:Int):=by unfold I64;omega
    have HnI:=zH hnI
    have hLl:L.length + 1<=1073741824:=by omega
    clear hnI
    go_wp2_with (at_builtin;refine Zbi rfl _ _ 27 rfl (w.heap.size + 2) 2 i0 _ Tryz.underlying27 hi hz0 hz1 hz2 rfl w6 (.slice a9 L.length c9) L rfl A6 (zO.alloc _) (by omega) w6.heap.size 1 (N6:Int) rfl (lit1 w6 _ _ rfl) HnI.out hLl ?_;intro v7 w7 hA7 hO7 hP7 hN7)
    have kb:=(Only.refl [] w6).alloc (.cells #[.int .i64 (N6:Int)] 2)
    have hob:∀ b∈(Value.slice a9 L.length c9).ownBlock.toList,w.heap.size + 2<=b/\b < w6.heap.size/\b ≠ w.heap.size + 1 + 1 + 1:=fun b hb=>by
     have hb2:(Value.slice a9 L.length c9).ownBlock = some b:=by simpa using hb
     exact ⟨(A6.ownlt b hb2).1,(A6.ownlt b hb2).2,fun e=>hne (by rw [hb2,e])⟩
    have hVC7:VC w7 (w.heap.size + 4) (N6,(vis x ts d d s [] 0).2) [.int .i64 (N6:Int),.int .i64 m6,.slice a6 n6 c6,.bool b6,.bool false]:=by
     rw [HN6.out]
     exact (((VC6.only kb (by simp)).only hO7 (fun b hb=>hob4 b (by simpa using hb))).mono hz4)
    have hF7:deepN x ts s (M + 1 - d0) d0 = contO (vis x ts d d s [] 0).2 (deepN x ts s (M + 1 - (d + 1)) (d + 1)):=by
     rw [Hfold.out,Zkr Hrn.out,show M + 1 - d = (M + 1 - (d + 1)) + 1 by omega,Zkx]
    have HF7:=zH hF7
    clear hF7
    go_roundw
    case rel=>exact ⟨d + 1,L ++ [(N6:Int)],N6,(vis x ts d d s [] 0).2,_,by omega,by omega,by go_num,hA7,by rw [List.length_append];simp;omega,Zga hN7 hne (by simp;omega),(P6.keep kb).only hO7 (fun hm=>by have:=hob _ hm;omega),(R6.keep kb).only hO7 (fun hm=>by have:=hob _ hm;omega),(Yf.keep kb).only hO7 (fun hm=>(hob _ hm).2.2 rfl),hVC7,hn6,HF7.out,(K6.trans kb).then_ hO7 (fun b hb hl=>by have:=(hob b hb).1;omega)⟩
    case measure=>simp [intOf];omega
   ·have HF:=zH (show deepN x ts s (M + 1 - d0) d0 = O from Hfold.out.trans (Zlg hrs))
    have Hd:=zH (Hdone.out.trans hrs)
    clear hrs
    go_upto_region 8 with (first
     | (go_at_call 156;(with_reducible refine (Zdc (n:Int) m5 (.slice a5 n5 c5) b5 false _).mono ?_);rintro e w4 ⟨he,t4⟩;rw [Hd.out] at he;subst he)
     | fail)
    have KD:=(Only.refl [] w4).drew
    have V9:=hV.keep t4
    have RA:=hR.keep t4
    have R9:=RA.keep KD
    obtain ⟨y0,y1,y2,y3,y4⟩:=V9.c5
    obtain ⟨o0,o1,o2,o3,o4⟩:=R9.c5
    obtain ⟨p0,p1,p2,p3,p4⟩:=R9.f5
    obtain ⟨o0,o1,o2,o3,o4⟩:=RA.c5
    obtain ⟨p0,p1,p2,p3,p4⟩:=RA.f5
    obtain ⟨Yf,kf⟩:=store5 RA (.int .i64 (n:Int)) (.int .i64 m5) (.slice a5 n5 c5) (.bool b5) (.bool false)
    go_region_law (fail)
    go_wp2_with fail
    obtain ⟨wf,hwf⟩:∃ wf,wf = (((((w4.setCell ⟨w.heap.size + 1,0,none⟩ (.int .i64 (n:Int))).setCell ⟨w.heap.size + 1,1,none⟩ (.int .i64 m5)).setCell ⟨w.heap.size + 1,2,none⟩ (.slice a5 n5 c5)).setCell ⟨w.heap.size + 1,3,none⟩ (.bool b5)).setCell ⟨w.heap.size + 1,4,none⟩ (.bool false)):=⟨_,rfl⟩
    rw [<- hwf] at Yf kf ⊢
    clear hwf
    have KD9:=(Only.refl [] wf).drew
    have Yf:=Yf.keep KD9
    obtain ⟨r0,r1,r2,r3,r4⟩:=Yf.c5
    have hA9:=HA.out.keep t4
    exact bodyPost_ret (v:=.tuple #[.slice a9 L.length c9,.agg #[.int .i64 (n:Int),.int .i64 m5,.slice a5 n5 c5,.bool b5,.bool false]]) (by simp [results,Tryz.results95,go_sem,r0,r1,r2,r3,r4]) rfl ⟨⟨_,_,L,n,rfl,by rw [HF.out];exact (((HVC.out.only t4 (by simp)).only kf (by intro b hb;simp at hb;omega)).only KD9 (by simp)).mono (by omega),(((hA9.only kf (fun g hg hm=>by have:=hA9.ownlt g hg;simp at hm;omega)).keep KD9).base0),by omega⟩,((hK.trans t4).then_ kf (by intro b hb hl;simp at hb;omega)).trans KD9⟩
  ·have HF:=zH (show deepN x ts s (M + 1 - d0) d0 = O by
    rw [Hfold.out,show M + 1 - d = 0 by omega]
    show contO O none = O
    cases O <;> rfl)
   go_upto_region 8 with fail
   have KD:=(Only.refl [] W2).drew
   have V9:=hV
   have RA:=hR
   have R9:=RA.keep KD
   obtain ⟨y0,y1,y2,y3,y4⟩:=V9.c5
   obtain ⟨o0,o1,o2,o3,o4⟩:=R9.c5
   obtain ⟨p0,p1,p2,p3,p4⟩:=R9.f5
   obtain ⟨o0,o1,o2,o3,o4⟩:=RA.c5
   obtain ⟨p0,p1,p2,p3,p4⟩:=RA.f5
   obtain ⟨Yf,kf⟩:=store5 RA (.int .i64 (n:Int)) (.int .i64 m5) (.slice a5 n5 c5) (.bool b5) (.bool false)
   go_region_law (fail)
   go_wp2_with fail
   obtain ⟨wf,hwf⟩:∃ wf,wf = (((((W2.setCell ⟨w.heap.size + 1,0,none⟩ (.int .i64 (n:Int))).setCell ⟨w.heap.size + 1,1,none⟩ (.int .i64 m5)).setCell ⟨w.heap.size + 1,2,none⟩ (.slice a5 n5 c5)).setCell ⟨w.heap.size + 1,3,none⟩ (.bool b5)).setCell ⟨w.heap.size + 1,4,none⟩ (.bool false)):=⟨_,rfl⟩
   rw [<- hwf] at Yf kf ⊢
   clear hwf
   have KD9:=(Only.refl [] wf).drew
   have Yf:=Yf.keep KD9
   obtain ⟨r0,r1,r2,r3,r4⟩:=Yf.c5
   have hA9:=HA.out
   exact bodyPost_ret (v:=.tuple #[.slice a9 L.length c9,.agg #[.int .i64 (n:Int),.int .i64 m5,.slice a5 n5 c5,.bool b5,.bool false]]) (by simp [results,Tryz.results95,go_sem,r0,r1,r2,r3,r4]) rfl ⟨⟨_,_,L,n,rfl,by rw [HF.out];exact (((HVC.out).only kf (by intro b hb;simp at hb;omega)).only KD9 (by simp)).mono (by omega),(((hA9.only kf (fun g hg hm=>by have:=hA9.ownlt g hg;simp at hm;omega)).keep KD9).base0),by omega⟩,((hK).then_ kf (by intro b hb hl;simp at hb;omega)).trans KD9⟩
theorem ida_yes {x:Puzzle} {ts:List Table} {s:List Int} {M:Nat} (h:(tabSet x ts && reachB x s) = true) (hM:M<=30) (hlb:0<=lbMax ts s):ida x ts s (M:Int) = (deepN x ts s (M + 1 - (lbMax ts s).toNat) (lbMax ts s).toNat).join:=by
 unfold ida
 have h30:inR (M:Int) 0 30 = true:=by unfold inR;simp;omega
 rw [h,h30,if_pos (show (true && true) = true from rfl)]
 congr 2
 omega
theorem ida_no {x:Puzzle} {ts:List Table} {s:List Int} {m:Int} (h:(tabSet x ts && reachB x s && inR m 0 30) = false):ida x ts s m = none:=by
 unfold ida;rw [h];rfl
def IdR (w':World) (o:Option (List Int)) (e:Ending):Prop:=
 (o = none/\∃ v n,e = .returned (.tuple #[v,.int .i64 n,.bool false]))\/(∃ u v n f,o = some u/\e = .returned (.tuple #[v,.int .i64 n,.bool true])/\Rd w' v u f)
set_option maxHeartbeats 2000000 in
theorem Zfd (cs:List Value) (x:Puzzle) (fp:List Nat) (v:Value) (ts:List Table) (ft:List Nat) (u:Value) (s:List Int) (fs0:List Nat) (m:Int) (w:World) (h:Rp.rep w cs x fp) (hv:Rd w v ts ft) (hu:Rd w u s fs0) (hsm:∀ t∈ts,t.tracked.length<=2097152) :
  Calls Tryz.prog 94 #[.agg cs.toArray,v,u,.int .i64 m] w fun e w'=>e = .returned (.bool (tabSet x ts && reachB x s && inR m 0 30))/\Only [] w w':=by
 have h0:=h
 obtain ⟨v2,rfl,p0,p1,h2⟩:=h
 clear p0 p1 h2
 rcases hq:tabSet x ts && reachB x s
 ·go_enter Tryz.func94,Tryz.ntmps94
  go_wp2_with ((go_at_call 96;(with_reducible refine (Zbq [.int .i64 x.points,.string x.names,v2] x _ v ts _ u s _ _ (zK h0 zA) (zK hv zA) (zK hu zA) hsm).mono ?_);rintro e w1 ⟨he,t1⟩;rw [hq] at he;subst he))
  go_ret
  exact ⟨rfl,zA⟩
 ·go_enter Tryz.func94,Tryz.ntmps94
  go_wp2_with (first
   | (go_at_call 96;(with_reducible refine (Zbq [.int .i64 x.points,.string x.names,v2] x _ v ts _ u s _ _ (zK h0 zA) (zK hv zA) (zK hu zA) hsm).mono ?_);rintro e w1 ⟨he,t1⟩;rw [hq] at he;subst he)
   | (go_at_call 53;(with_reducible refine (Zaj m 0 30 _).mono ?_);rintro e w2 ⟨rfl,rfl⟩)
   | fail)
  go_ret
  exact ⟨rfl,zA⟩
set_option maxHeartbeats 4000000 in
theorem Zgn (cs:List Value) (x:Puzzle) (fp:List Nat) (v:Value) (ts:List Table) (ft:List Nat) (u:Value) (s:List Int) (fs0:List Nat) (m:Int) (w:World) (h:Rp.rep w cs x fp) (hv:Rd w v ts ft) (hu:Rd w u s fs0) (hsm:∀ t∈ts,t.tracked.length<=2097152) :
  Calls Tryz.prog 44 #[.agg cs.toArray,v,u,.int .i64 m] w fun e w'=>IdR w' (ida x ts s m) e/\Only [] w w':=by
 have h0:=h
 obtain ⟨v2,rfl,p0,p1,h2⟩:=h
 clear p0 p1 h2
 rcases hq:tabSet x ts && reachB x s && inR m 0 30
 ·have Hn:=zH (ida_no hq)
  go_enter Tryz.func44,Tryz.ntmps44
  go_wp2_with ((go_at_call 94;(with_reducible refine (Zfd [.int .i64 x.points,.string x.names,v2] x _ v ts _ u s _ m _ (zK h0 zA) (zK hv zA) (zK hu zA) hsm).mono ?_);rintro e w1 ⟨he,t1⟩;rw [hq] at he;subst he))
  go_ret3
  exact ⟨.inl ⟨Hn.out,_,_,rfl⟩,zA⟩
 ·have hq2:=hq
  rw [Bool.and_eq_true,Bool.and_eq_true,Zbu] at hq2
  obtain ⟨⟨⟨hx,q1,q2⟩,q3⟩,q4⟩:=hq2
  obtain ⟨hm0,hm1⟩:0<=m/\m<=30:=by unfold inR at q4;simpa using q4
  obtain ⟨M,rfl⟩:∃ M:Nat,m = (M:Int):=⟨m.toNat,by omega⟩
  have hM:M<=30:=by omega
  have q5:(tabSet x ts && reachB x s) = true:=by rw [Bool.and_eq_true] at hq;exact hq.1
  have Hn:=zH (ida_yes (M:=M) q5 hM (Zfl q5))
  have Q2:=zH q2
  have Q3:=zH q3
  have HX:=zH hx
  clear q2 q3 q4 q5 hx hm0 hm1
  go_enter Tryz.func44,Tryz.ntmps44
  have X0:=Blk.new w [.int .i64 x.points,.string x.names,v2] 26
  simp only [List.toArray] at X0
  go_upto_region 3 with ((go_at_call 94;(with_reducible refine (Zfd [.int .i64 x.points,.string x.names,v2] x _ v ts _ u s _ (M:Int) _ (zK h0 zA) (zK hv zA) (zK hu zA) hsm).mono ?_);rintro e w1 ⟨he,t1⟩;rw [hq] at he;subst he))
  have X1:=X0.keep t1
  obtain ⟨x0,x1,x2⟩:=X1.c3
  have K1:Only [] w w1:=zA
  clear X0 t1
  go_upto_region 4 with ((go_at_call 95;(with_reducible refine (Zit v2 x _ v ts _ M u s _ _ (zK h0 K1) (zK hv K1) Q2.out q1 hM HX.out (zK hu K1) Q3.out).mono ?_);rintro e w2 ⟨⟨cs2,v9,L,n2,rfl,VC2,A2,hL⟩,t2⟩;obtain ⟨a9,c9,rfl⟩:=A2.form;obtain ⟨m6,a6,n6,c6,b6,rfl,-⟩:=VC2.six))
  have V2:Blk (w2.alloc (.cells #[.int .i64 (n2:Int),.int .i64 m6,.slice a6 n6 c6,.bool b6,.bool false] 115)) w2.heap.size [.int .i64 (n2:Int),.int .i64 m6,.slice a6 n6 c6,.bool b6,.bool false]:=Blk.new _ _ _
  have ka:=(Only.refl [] w2).alloc (.cells #[.int .i64 (n2:Int),.int .i64 m6,.slice a6 n6 c6,.bool b6,.bool false] 115)
  have VC3:=VC2.only ka (by simp)
  have A3:=A2.keep ka
  have K3:=(K1.trans t2).trans ka
  obtain ⟨w3,hw3⟩:∃ w3,w3 = w2.alloc (.cells #[.int .i64 (n2:Int),.int .i64 m6,.slice a6 n6 c6,.bool b6,.bool false] 115):=⟨_,rfl⟩
  rw [<- hw3] at V2 VC3 A3 K3 ⊢
  clear hw3 ka A2 VC2 x0 x1 x2 X1
  obtain ⟨gb,hgb⟩:∃ gb,gb = w2.heap.size:=⟨_,rfl⟩
  rw [<- hgb] at V2 ⊢
  clear hgb t2 K1
  obtain ⟨aI,cI,hvI,I3⟩:=A3.rd.ints
  injection hvI with e1 e2 e3
  subst e1;subst e3
  clear e2
  have hbI:=I3.bound
  go_upto_region 6 with fail
  go_loopw [13,14] (fun t i wr=>∃ (j:Nat) (z:Int),j<=L.length/\i = .int .i64 j/\t = .int .i64 z/\Only [] w3 wr)
   (fun _ i _=>L.length - (intOf i).toNat)
  case atStart=>exact ⟨0,0,Nat.zero_le _,rfl,rfl,Only.refl _ _⟩
  case round=>
   obtain ⟨W2,hnew⟩:∃ W,W = wr:=⟨_,rfl⟩
   subst hnew
   obtain ⟨j,z,hj,rfl,rfl,hK⟩:=hrel
   by_cases hlt:j < L.length
   ·obtain ⟨bl,ol,rfl,-,hcl0⟩:=I3.at_ j hlt
    have hcl:=hK.cell (by simp) hcl0
    clear hcl0
    go_wp2
    go_roundw
    case rel=>exact ⟨j + 1,_,by omega,by go_num,rfl,hK⟩
    case measure=>simp [intOf];omega
   ·have V4:=V2.keep hK
    have y1:=V4.cell 1 rfl
    have y2:=V4.cell 2 rfl
    rcases VC3 with ⟨h1,h2⟩ | ⟨h1,h2⟩ | ⟨q,aq,cq,fq,h1,h2,h3,h4⟩
    ·have hm6:m6 = 0:=by simp at h2;exact h2.1
     have Ho:=zH (show ida x ts s (M:Int) = none by rw [Hn.out];simp only at h1;rw [h1];rfl)
     subst hm6
     clear h1 h2
     go_wp2
     go_ret3
     exact ⟨.inl ⟨Ho.out,_,_,rfl⟩,(K3.trans hK).alloc _⟩
    ·have hm6:m6 = 0:=by simp at h2;exact h2.1
     have Ho:=zH (show ida x ts s (M:Int) = none by rw [Hn.out];simp only at h1;rw [h1];rfl)
     subst hm6
     clear h1 h2
     go_wp2
     go_ret3
     exact ⟨.inl ⟨Ho.out,_,_,rfl⟩,(K3.trans hK).alloc _⟩
    ·have hm6:m6 = 1:=by simp at h2;exact h2.1
     have Ho:=zH (show ida x ts s (M:Int) = some q by rw [Hn.out];simp only at h1;rw [h1];rfl)
     have h6:a6 = aq/\n6 = q.length/\c6 = cq:=by simp at h2;exact h2.2.1
     obtain ⟨rfl,rfl,rfl⟩:=h6
     subst hm6
     clear h1 h2
     go_wp2
     go_ret3
     exact ⟨.inr ⟨q,_,_,fq,Ho.out,rfl,zK h3 hK⟩,K3.trans hK⟩
def LBx (w:World) (B g:Nat) (O:Out):Prop:=
 ∃ (cs:List Value) (wd:List Int) (n fo:Nat) (ab:Bool) (a:Option Addr) (C:Nat),Blk w g cs/\B<=g/\n<=20000/\cs[6]? = some (.slice a wd.length C)/\cs[7]? = some (.int .i64 (n:Int))/\cs[8]? = some (.int .i64 (fo:Int))/\cs[9]? = some (.bool ab) /\
  ((O = none/\fo = 0/\ab = false)\/(O = some none/\fo = 0/\ab = true)\/(∃ f,O = some (some wd)/\fo = 1/\ab = false/\Rd w (.slice a wd.length C) wd f/\∀ b∈f,B<=b))
theorem LBx.only {w w':World} {B g:Nat} {O:Out} {fp:List Nat} (h:LBx w B g O) (ho:Only fp w w') (hd:∀ b∈fp,b < B):LBx w' B g O:=by
 obtain ⟨cs,wd,n,fo,ab,a,C,h1,h2,hn,h3,h7,h4,h5,h6⟩:=h
 refine ⟨cs,wd,n,fo,ab,a,C,h1.only ho (fun hm=>by have:=hd _ hm;omega),h2,hn,h3,h7,h4,h5,?_⟩
 rcases h6 with h | h | ⟨f,i1,i2,i3,i4,i5⟩
 ·exact .inl h
 ·exact .inr (.inl h)
 ·exact .inr (.inr ⟨f,i1,i2,i3,Rp.only i4 ho (fun b hb hm=>by have:=i5 b hb;have:=hd b hm;omega),i5⟩)
theorem LBx.lt {w:World} {B g:Nat} {O:Out} (h:LBx w B g O):B<=g/\g < w.heap.size:=by
 obtain ⟨cs,wd,n,fo,ab,a,C,h1,h2,-⟩:=h
 exact ⟨h2,h1.lt⟩
theorem LBx.mono {w:World} {B B' g:Nat} {O:Out} (h:LBx w B g O) (hB:B'<=B):LBx w B' g O:=by
 obtain ⟨cs,wd,n,fo,ab,a,C,h1,h2,hn,h3,h7,h4,h5,h6⟩:=h
 refine ⟨cs,wd,n,fo,ab,a,C,h1,by omega,hn,h3,h7,h4,h5,?_⟩
 rcases h6 with h | h | ⟨f,i1,i2,i3,i4,i5⟩
 ·exact .inl h
 ·exact .inr (.inl h)
 ·exact .inr (.inr ⟨f,i1,i2,i3,i4,fun b hb=>by have:=i5 b hb;omega⟩)
theorem LBx.cells {w:World} {B g:Nat} {O:Out} (h:LBx w B g O):∃ (n fo:Nat) (ab:Bool) (a:Option Addr) (N C:Nat),n<=20000/\w.cell? ⟨g,6,none⟩ = some (.slice a N C)/\w.cell? ⟨g,7,none⟩ = some (.int .i64 (n:Int))/\w.cell? ⟨g,8,none⟩ = some (.int .i64 (fo:Int))/\w.cell? ⟨g,9,none⟩ = some (.bool ab) /\
  (ab || decide (0 < fo)) = O.isSome/\(fo = 0\/fo = 1)/\(fo = 0->O.join = none)/\(fo = 1->∃ (u:List Int) (f:List Nat),O.join = some u/\N = u.length/\Rd w (.slice a N C) u f):=by
 obtain ⟨cs,wd,n,fo,ab,a,C,h1,h2,hn,h3,h7,h4,h5,h6⟩:=h
 refine ⟨n,fo,ab,a,wd.length,C,hn,h1.cell 6 h3,h1.cell 7 h7,h1.cell 8 h4,h1.cell 9 h5,?_⟩
 rcases h6 with ⟨rfl,rfl,rfl⟩ | ⟨rfl,rfl,rfl⟩ | ⟨f,rfl,rfl,rfl,i4,i5⟩
 ·exact ⟨rfl,.inl rfl,fun _=>rfl,(fun h=>by cases h)⟩
 ·exact ⟨rfl,.inl rfl,fun _=>rfl,(fun h=>by cases h)⟩
 ·exact ⟨rfl,.inr rfl,(fun h=>by cases h),fun _=>⟨wd,f,rfl,rfl,i4⟩⟩
def SPd (w w':World) (O:Out) (e:Ending):Prop:=∃ g,e = .returned (.pointer (some ⟨g,0,none⟩))/\LBx w' w.heap.size g O/\Only [] w w'
set_option maxHeartbeats 2000000 in
theorem Zpy (v2:Value) (x:Puzzle) (fp:List Nat) (gb:Nat) (ts:List Table) (ft:List Nat) (D:Nat) (vs:Value) (s:List Int) (fs:List Nat) (w:World)
  (h:Rp.rep w [.int .i64 x.points,.string x.names,v2] x fp) (hb:BD w gb ts ft) (hts:∀ t∈ts,validT x t = true) (hl:ts.length<=4) (hD:D<=30) (hx:validPz x = true) (hs:Rd w vs s fs) (hr:reachB x s = true) :
  Calls Tryz.prog 152 #[.agg #[.int .i64 x.points,.string x.names,v2],.pointer (some ⟨gb,0,none⟩),vs,.int .i64 D,.bool false] w fun e w'=>SPd w w' (vis x ts D D s [] 0).2 e:=by
 have hv:=Znd w.heap.size (w.heap.size + 1) gb v2 x fp ts ft D w h hb (Nat.le_refl _) (by omega) (by omega) hts hl hD hx D
 unfold VVs at hv
 have hsl:∀ b∈fs,b < w.heap.size:=Rp.lt hs
 have Hv:=zH hv
 have Hr:=zH hr
 have q8:=(Zad hx).2.2.1
 clear hv hts hx hr hb
 go_enter Tryz.func152,Tryz.ntmps152
 go_upto_region 2 with fail
 obtain ⟨w1,hw1⟩:∃ w1,w1 = (w.alloc (.cells #[.int .i64 x.points,.string x.names,v2] 26)).alloc (.cells #[.int .i64 x.points,.string x.names,v2,.pointer (some ⟨gb,0,none⟩),.int .i64 D,.bool false,.slice none 0 0,.int .i64 0,.int .i64 0,.bool false] 108):=⟨_,rfl⟩
 have S1:Sx w1 w.heap.size (w.heap.size + 1) gb x v2 D [] 0 0 false none 0:=by
  rw [hw1]
  exact ⟨Blk.new_at (cs:=[.int .i64 x.points,.string x.names,v2,.pointer (some ⟨gb,0,none⟩),.int .i64 D,.bool false,.slice none 0 0,.int .i64 0,.int .i64 0,.bool false]) (by simp),⟨by simp,.inl ⟨rfl,rfl⟩⟩,by simp,fun b hb=>by cases hb⟩
 have K1:Only [] w w1:=by rw [hw1];exact ((Only.refl [] w).alloc _).alloc _
 rw [<- hw1]
 clear hw1
 go_wp2_with (first
  | (go_at_call 210;(with_reducible refine (Hv.out s [] 0 vs fs none 0 _ K1 S1 (zK hs K1) (fun b hb=>⟨by have:=hsl b hb;omega,by simp [Value.ownBlock]⟩) Hr.out (by simp) (by omega)).mono ?_);rintro e w2 ⟨wd,fo,ab,a,C,rfl,S2,V2,O2,N2⟩)
  | fail)
 go_ret
 have hO:Only [] w w2:=K1.then_ O2 (fun b hb hl=>by simp [Value.ownBlock] at hb;omega)
 refine ⟨_,rfl,⟨_,wd,_,fo,ab,a,C,S2.blk,by omega,vis_rng _ _ _ _ (by omega),rfl,rfl,rfl,rfl,?_⟩,hO⟩
 rcases V2 with ⟨h1,-,h3,h4⟩ | ⟨h1,h3,h4⟩ | ⟨h1,h3,h4⟩
 ·exact .inl ⟨h1,h3,h4⟩
 ·exact .inr (.inl ⟨h1,h3,h4⟩)
 ·have hI:=S2.ints (by omega)
  exact .inr (.inr ⟨_,h1,h3,h4,hI.rd,fun b hb=>(S2.ge b (by simpa using hb)).1⟩)
def DPd (w w':World) (O:Out) (e:Ending):Prop:=∃ (g:Nat) (v:Value) (L:List Int),e = .returned (.tuple #[.pointer (some ⟨g,0,none⟩),v])/\LBx w' w.heap.size g O/\AccI 0 2 w' v L/\L.length<=31
set_option maxHeartbeats 4000000 in
theorem Zqf (v2:Value) (x:Puzzle) (fp:List Nat) (gb:Nat) (ts:List Table) (ft:List Nat) (M:Nat) (vs:Value) (s:List Int) (fs:List Nat) (w:World)
  (h:Rp.rep w [.int .i64 x.points,.string x.names,v2] x fp) (hb:BD w gb ts ft) (hts:∀ t∈ts,validT x t = true) (hl:ts.length<=4) (hM:M<=30) (hx:validPz x = true) (hs:Rd w vs s fs) (hr:reachB x s = true) :
  Calls Tryz.prog 88 #[.agg #[.int .i64 x.points,.string x.names,v2],.pointer (some ⟨gb,0,none⟩),vs,.int .i64 M] w fun e w'=>DPd w w' (deepN x ts s (M + 1 - (lbMax ts s).toNat) (lbMax ts s).toNat) e/\Only [] w w':=by
 have Hts:=zH hts
 have Hr:=zH hr
 have Hx:=zH hx
 have hlb:0<=lbMax ts s:=(Zbs (l:=lbs ts s) (m:=3000) (a:=0) (fun y hy=>by
   obtain ⟨t,ht,rfl⟩:=List.mem_map.1 hy
   exact Zcd (Hts.out t ht) Hr.out) (by omega)).1
 obtain ⟨d0,hd0⟩:∃ d0:Nat,d0 = (lbMax ts s).toNat:=⟨_,rfl⟩
 have hlk:∀ W,Only [] w W->Calls Tryz.prog 89 #[.pointer (some ⟨gb,0,none⟩),vs] W fun e w'=>e = .returned (.int .i64 (d0:Int))/\Only [] W w':=fun W hh=>by
  rw [hd0,Int.toNat_of_nonneg hlb]
  exact Zds x gb ts ft _ s fs W (hb.keep hh) (zK hs hh) Hts.out Hr.out hl
 have Hlk:=zH hlk
 rw [<- hd0]
 clear hts hr hx hlb hd0 hlk
 obtain ⟨i0,hi,hq0,hq1,hq2⟩:=info_parts Tryz.info2
 go_enter Tryz.func88,Tryz.ntmps88
 go_upto_region 3 with fail
 obtain ⟨w1,hw1⟩:∃ w1,w1 = (w.alloc (.cells #[.int .i64 x.points,.string x.names,v2] 26)).alloc (.cells #[.int .i64 0,.string ⟨#[]⟩,.slice none 0 0,.pointer none,.int .i64 0,.bool false,.slice none 0 0,.int .i64 0,.int .i64 0,.bool false] 108):=⟨_,rfl⟩
 have P1:Blk w1 w.heap.size [.int .i64 x.points,.string x.names,v2]:=by rw [hw1];exact (Blk.new w [.int .i64 x.points,.string x.names,v2] 26).keep ((Only.refl [] _).alloc _)
 have L1:LBx w1 (w.heap.size + 1) (w.heap.size + 1) none:=by
  refine ⟨[.int .i64 0,.string ⟨#[]⟩,.slice none 0 0,.pointer none,.int .i64 0,.bool false,.slice none 0 0,.int .i64 0,.int .i64 0,.bool false],[],0,0,false,none,0,?_,Nat.le_refl _,by omega,rfl,rfl,rfl,rfl,.inl ⟨rfl,rfl,rfl⟩⟩
  rw [hw1];exact Blk.new_at (by simp)
 have K1:Only [] w w1:=by rw [hw1];exact ((Only.refl [] w).alloc _).alloc _
 have hsz1:w1.heap.size = w.heap.size + 2:=by rw [hw1];simp
 rw [<- hw1]
 clear hw1
 go_upto_region 4 with ((go_at_call 89;(with_reducible refine (Hlk.out _ K1).mono ?_);rintro e w2 ⟨rfl,t2⟩))
 have hzb:w.heap.size + 2<=w2.heap.size:=by have:=t2.size;omega
 go_loopw [10,11,12] (fun q o i wr=>∃ (d:Nat) (L:List Int) (gl:Nat) (O:Out),d0<=d/\(d<=M + 1\/d = d0)/\q = .pointer (some ⟨gl,0,none⟩)/\i = .int .i64 d/\AccI (w.heap.size + 2) 2 wr o L/\L.length<=d - d0 /\
   Blk wr w.heap.size [.int .i64 x.points,.string x.names,v2]/\LBx wr (w.heap.size + 1) gl O/\(O = none\/False)/\deepN x ts s (M + 1 - d0) d0 = deepN x ts s (M + 1 - d) d/\Only [] w wr)
  (fun _ _ i _=>M + 1 - (intOf i).toNat)
 case atStart=>exact ⟨d0,[],_,none,Nat.le_refl _,.inr rfl,rfl,rfl,AccI.nil _ _ _,by simp,P1.keep t2,L1.only t2 (by simp),.inl rfl,rfl,K1.trans t2⟩
 case round=>
  obtain ⟨W2,hnew⟩:∃ W,W = wr:=⟨_,rfl⟩
  subst hnew
  obtain ⟨d,L,gl,O,hd0d,hdM,rfl,rfl,hA,hL,hP,hLB,hOn,hfold,hK⟩:=hrel
  obtain rfl:O = none:=hOn.elim id (fun h=>h.elim)
  have Hfold:=zH hfold
  have HA:=zH hA
  have hzw:=hK.size
  clear hfold hA
  by_cases hlt:d<=M
  ·obtain ⟨x0,x1,x2⟩:=hP.c3
   have hzP:=hP.lt
   go_upto_region 7 with (first
    | (go_at_call 152;(with_reducible refine (Zpy v2 x _ gb ts ft d vs s fs _ (zK h hK) (hb.keep hK) Hts.out hl (by omega) Hx.out (zK hs hK) Hr.out).mono ?_);rintro e w5 ⟨g5,rfl,L5,t5⟩)
    | fail)
   obtain ⟨n6,fo6,ab6,a6,N6,C6,hn6,y6,y7,y8,y9,hsome,hfo,-,-⟩:=L5.cells
   have Hsome:=zH hsome
   obtain ⟨a9,c9,rfl⟩:=HA.out.form
   have A5:=HA.out.keep t5
   have P5:=hP.keep t5
   have K5:=hK.trans t5
   have hob4:∀ b,(Value.slice a9 L.length c9).ownBlock = some b->b < W2.heap.size:=fun b hb=>(HA.out.ownlt b hb).2
   have hnI:I64 (n6:Int):=by unfold I64;omega
   have HnI:=zH hnI
   have hLl:L.length + 1<=1073741824:=by omega
   have hz5:=t5.size
   have hwB:w.heap.size + 2<=w5.heap.size:=by have:=hLB.lt.1;have:=hLB.lt.2;have:=t5.size;omega
   clear hnI hsome hP x0 x1 x2 hLB HA t5 hK
   go_upto_region 8 with (at_builtin;refine Zbi rfl _ _ 27 rfl (w.heap.size + 2) 2 i0 _ Tryz.underlying27 hi hq0 hq1 hq2 rfl w5 (.slice a9 L.length c9) L rfl A5 (zO.alloc _) hwB w5.heap.size 1 (n6:Int) rfl (lit1 w5 _ _ rfl) HnI.out hLl ?_;intro v7 w7 hA7 hO7 hP7 hN7)
   have kb:=(Only.refl [] w5).alloc (.cells #[.int .i64 (n6:Int)] 2)
   have hobm:∀ b∈(Value.slice a9 L.length c9).ownBlock.toList,b < W2.heap.size:=fun b hb=>hob4 b (by simpa using hb)
   have hob2:∀ b∈(Value.slice a9 L.length c9).ownBlock.toList,w.heap.size + 2<=b:=fun b hb=>(A5.ownlt b (by simpa using hb)).1
   have L7:=(L5.only kb (by simp)).only hO7 hobm
   have P7:=(P5.keep kb).only hO7 (fun hm=>by have:=hob2 _ hm;omega)
   have K7:=(K5.trans kb).then_ hO7 (fun b hb hl=>by have:=hob2 b hb;omega)
   obtain ⟨n8,fo8,ab8,a8,N8,C8,hn8,z6,z7,z8,z9,hsome8,hfo8,-,-⟩:=L7.cells
   have hF:deepN x ts s (M + 1 - d0) d0 = contO (vis x ts d d s [] 0).2 (deepN x ts s (M + 1 - (d + 1)) (d + 1)):=by
    rw [Hfold.out,show M + 1 - d = (M + 1 - (d + 1)) + 1 by omega,Zkx]
   have hlen:(L ++ [(n6:Int)]).length<=d + 1 - d0:=by rw [List.length_append];simp;omega
   have Hlen:=zH hlen
   clear hlen y6 y7 y8 y9 L5 P5 A5 kb hobm hob2 hO7 hP7 hN7 hob4
   rcases hrs:(vis x ts d d s [] 0).2.isSome with _ | _
   ·have hnone:(vis x ts d d s [] 0).2 = none:=by simpa using hrs
    have HF:=zH (hF.trans (Zkr hnone))
    have Hsm:=zH (hsome8.trans hrs)
    obtain ⟨rfl,rfl⟩:ab8 = false/\fo8 = 0:=by
     have:=Hsm.out;rw [Bool.or_eq_false_iff] at this
     exact ⟨this.1,by have:=of_decide_eq_false this.2;omega⟩
    rw [hnone] at L7
    clear hsome8 hrs hF hnone hfo8
    go_wp2
    go_roundw
    case rel=>exact ⟨d + 1,_,_,none,by omega,by omega,rfl,by go_num,hA7,Hlen.out,P7,L7.mono (by omega),.inl rfl,HF.out,K7⟩
    case measure=>simp [intOf];omega
   ·have HF:=zH (hF.trans (Zlg hrs))
    have Hsm:=zH (hsome8.trans hrs)
    obtain ⟨a7,c7,rfl⟩:=hA7.form
    clear hsome8 hF
    have hpf:ab8 = true\/(ab8 = false/\fo8 = 1):=by
     have:=Hsm.out;rw [Bool.or_eq_true] at this
     rcases this with h1 | h1
     ·exact .inl h1
     ·cases ab8
      ·have:=of_decide_eq_true h1;exact .inr ⟨rfl,by omega⟩
      ·exact .inl rfl
    have hdp:DPd w w7 (deepN x ts s (M + 1 - d0) d0) (.returned (.tuple #[.pointer (some ⟨g5,0,none⟩),.slice a7 (L ++ [(n6:Int)]).length c7])):=by
     rw [HF.out]
     exact ⟨g5,_,_,rfl,L7.mono (by omega),hA7.base0,by have:=Hlen.out;omega⟩
    rcases hpf with rfl | ⟨rfl,rfl⟩
    ·clear hrs hfo8
     go_wp2
     go_ret2
     exact ⟨hdp,K7⟩
    ·clear hrs hfo8
     go_wp2
     go_ret2
     exact ⟨hdp,K7⟩
  ·have HF:=zH (show deepN x ts s (M + 1 - d0) d0 = none by rw [Hfold.out,show M + 1 - d = 0 by omega];rfl)
   obtain ⟨a7,c7,rfl⟩:=HA.out.form
   have hdp:DPd w W2 (deepN x ts s (M + 1 - d0) d0) (.returned (.tuple #[.pointer (some ⟨gl,0,none⟩),.slice a7 L.length c7])):=by
    rw [HF.out]
    exact ⟨gl,_,_,rfl,hLB.mono (by omega),HA.out.base0,by omega⟩
   go_wp2
   go_ret2
   exact ⟨hdp,hK⟩
theorem Zjc (m:Int) (w:World):Calls Tryz.prog 87 #[.int .i64 m] w fun e w'=>e = .returned (.bool (inR m 0 30))/\w' = w:=by
 go_enter Tryz.func87,Tryz.ntmps87
 go_wp2_with ((go_at_call 50;(with_reducible refine (Zai m 0 30 _).mono ?_);rintro e w ⟨rfl,rfl⟩))
 go_ret
 exact ⟨rfl,rfl⟩
set_option maxHeartbeats 4000000 in
theorem Zgq (cs:List Value) (x:Puzzle) (fp:List Nat) (v:Value) (ts:List Table) (ft:List Nat) (u:Value) (s:List Int) (fs0:List Nat) (m:Int) (w:World) (h:Rp.rep w cs x fp) (hv:Rd w v ts ft) (hu:Rd w u s fs0) (hsm:∀ t∈ts,t.tracked.length<=2097152) :
  Calls Tryz.prog 39 #[.agg cs.toArray,v,u,.int .i64 m] w fun e w'=>IdR w' (ida x ts s m) e/\Only [] w w':=by
 have h0:=h
 obtain ⟨v2,rfl,p0,p1,h2⟩:=h
 clear p0 p1 h2
 rcases hb:tabSet x ts && reachB x s
 ·have Hn:=zH (ida_no (m:=m) (show (tabSet x ts && reachB x s && inR m 0 30) = false by rw [hb];rfl))
  go_enter Tryz.func39,Tryz.ntmps39
  go_wp2_with (first
   | (go_at_call 86;(with_reducible refine (Ziw [.int .i64 x.points,.string x.names,v2] x _ v ts _ u s _ _ (zK h0 zA) (zK hv zA) (zK hu zA) hsm hb).mono ?_);rintro e w1 ⟨rfl,t1⟩)
   | fail)
  go_ret3
  exact ⟨.inl ⟨Hn.out,_,_,rfl⟩,zA⟩
 rcases hq:inR m 0 30
 ·have Hn:=zH (ida_no (m:=m) (show (tabSet x ts && reachB x s && inR m 0 30) = false by rw [hb,hq];rfl))
  go_enter Tryz.func39,Tryz.ntmps39
  go_wp2_with (first
   | (go_at_call 86;(with_reducible refine (Zfa [.int .i64 x.points,.string x.names,v2] x _ v ts _ u s _ _ (zK h0 zA) (zK hv zA) (zK hu zA) hsm hb).mono ?_);rintro e w1 ⟨gb,rfl,B1,t1⟩)
   | (go_at_call 87;(with_reducible refine (Zjc m _).mono ?_);rintro e w2 ⟨he,hw2⟩;rw [hq] at he;subst he;subst hw2)
   | fail)
  go_ret3
  exact ⟨.inl ⟨Hn.out,_,_,rfl⟩,zA⟩
 ·have hq2:=hb
  rw [Bool.and_eq_true,Zbu] at hq2
  obtain ⟨⟨hx,q1,q2⟩,q3⟩:=hq2
  obtain ⟨hm0,hm1⟩:0<=m/\m<=30:=by unfold inR at hq;simpa using hq
  obtain ⟨M,rfl⟩:∃ M:Nat,m = (M:Int):=⟨m.toNat,by omega⟩
  have hM:M<=30:=by omega
  have Hn:=zH (ida_yes (M:=M) hb hM (Zfl hb))
  have Q2:=zH q2
  have Q3:=zH q3
  have HX:=zH hx
  clear q2 q3 hx hm0 hm1
  go_enter Tryz.func39,Tryz.ntmps39
  have X0:=Blk.new w [.int .i64 x.points,.string x.names,v2] 26
  simp only [List.toArray] at X0
  go_upto_region 4 with (first
   | (go_at_call 86;(with_reducible refine (Zfa [.int .i64 x.points,.string x.names,v2] x _ v ts _ u s _ _ (zK h0 zA) (zK hv zA) (zK hu zA) hsm hb).mono ?_);rintro e w1 ⟨gb,rfl,B1,t1⟩)
   | (go_at_call 87;(with_reducible refine (Zjc (M:Int) _).mono ?_);rintro e w2 ⟨he,hw2⟩;rw [hq] at he;subst he;subst hw2)
   | fail)
  have X1:=X0.keep t1
  obtain ⟨x0,x1,x2⟩:=X1.c3
  have K1:=((Only.refl [] w).alloc (.cells #[.int .i64 x.points,.string x.names,v2] 26)).trans t1
  go_upto_region 5 with (first
   | (go_at_call 88;(with_reducible refine (Zqf v2 x _ gb ts _ M u s _ _ (zK h0 K1) B1 Q2.out q1 hM HX.out (zK hu K1) Q3.out).mono ?_);rintro e w3 ⟨⟨g3,v3,L,rfl,L3,A3,hL⟩,t3⟩;obtain ⟨a3,c3,rfl⟩:=A3.form)
   | fail)
  have K3:=K1.trans t3
  obtain ⟨aI,cI,hvI,I3⟩:=A3.rd.ints
  injection hvI with e1 e2 e3
  subst e1;subst e3
  clear e2 x0 x1 x2 X1 t3 B1 K1 A3
  have hbI:=I3.bound
  go_upto_region 7 with fail
  go_loopw [15,42] (fun t i wr=>∃ (j:Nat) (z:Int),j<=L.length/\i = .int .i64 j/\t = .int .i64 z/\Only [] w3 wr)
   (fun _ i _=>L.length - (intOf i).toNat)
  case atStart=>exact ⟨0,0,Nat.zero_le _,rfl,rfl,Only.refl _ _⟩
  case round=>
   obtain ⟨W2,hnew⟩:∃ W,W = wr:=⟨_,rfl⟩
   subst hnew
   obtain ⟨j,z,hj,rfl,rfl,hK⟩:=hrel
   by_cases hlt:j < L.length
   ·obtain ⟨bl,ol,rfl,-,hcl0⟩:=I3.at_ j hlt
    have hcl:=hK.cell (by simp) hcl0
    clear hcl0
    go_wp2
    go_roundw
    case rel=>exact ⟨j + 1,_,by omega,by go_num,rfl,hK⟩
    case measure=>simp [intOf];omega
   ·obtain ⟨n6,fo6,ab6,a6,N6,C6,-,y6,y7,y8,y9,-,hfo,h1,h2⟩:=(L3.only hK (by simp)).cells
    rcases hfo with hfo | hfo
    ·have Ho:=zH (Hn.out.trans (h1 hfo))
     subst hfo
     clear h1 h2
     go_wp2
     go_ret3
     exact ⟨.inl ⟨Ho.out,_,_,rfl⟩,K3.trans hK⟩
    ·obtain ⟨q,fq,hj2,rfl,h3⟩:=h2 hfo
     have Ho:=zH (Hn.out.trans hj2)
     subst hfo
     clear h1 h2 hj2
     go_wp2
     go_ret3
     exact ⟨.inr ⟨q,_,_,fq,Ho.out,rfl,h3⟩,K3.trans hK⟩
end Go.Proofs.YthleokaeobdamaaGreat
