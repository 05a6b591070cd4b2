/- The reference's depth-first search with a limit (law 52). -/
import Derived.Test.YthleokaeobdamaaGreatRowTableSolverG17
import Derived.Test.YthleokaeobdamaaGreatRowTableSolverG16
import Derived.Test.YthleokaeobdamaaGreatRowTableSolverG8
import Derived.Test.YthleokaeobdamaaGreatRowTableSolverG3
import Derived.Test.YthleokaeobdamaaGreatRowTableSolverG2
import Derived.Test.YthleokaeobdamaaGreatRowTableSolverG10
import Derived.Test.YthleokaeobdamaaGreatRowTableSolverG7
import Derived.Deep.RegionLaw
import Derived.Deep.DeepCutAuto
import Derived.Test.YthleokaeobdamaaGreatRowTableSolverG14
namespace Go.Proofs.YthleokaeobdamaaGreat
open Go.RowKit
set_option maxRecDepth 10000
theorem ltr_i64 {n:Nat} (hn:n<=1000) {l:Int} (hl:l∈ltrs n):I64 l:=by have:=Zaw.1 hl;unfold I64;omega
def lAft (x:Puzzle) (last:Int):List Int:=(ltrs x.moves.length).filter fun l=>decide (l ≠ -last)
theorem Zuh {x:Puzzle} {last l:Int}:l∈lAft x last ↔ l∈ltrs x.moves.length/\l ≠ -last:=by
 unfold lAft;rw [List.mem_filter,decide_eq_true_iff]
theorem Zpu {α β:Type} (f:α->β):∀ (l:List α),(l.map fun x=>[f x]).flatten = l.map f
 | []=>rfl
 | a :: l=>by rw [List.map_cons,List.flatten_cons,Zpu f l];rfl
theorem own_acc {w:World} {B:Nat} {e:TypeId} {v:Value} {l:List Int} (h:w.ownsRow B e 1 v l.length (l.map (Value.int .i64))) (hl:∀ x∈l,I64 x):Acc B e w v l (List.replicate l.length []):=by
 refine ⟨⟨l.map fun x=>[Value.int .i64 x],by rw [Zpu];exact h,by simp,fun k h1 h2 h3=>?_⟩,by simp,fun g _=>by rw [flatten_nil];simp⟩
 simp only [List.getElem_map,List.getElem_replicate]
 exact ⟨rfl,hl _ (List.getElem_mem h2),rfl⟩
set_option maxHeartbeats 400000 in
theorem Zfh (v:Value) (l:List Int) (fp:List Nat) (w:World) (h:Rd w v l fp) (hl:l.length<=1073741824) :
  Calls Tryz.prog 100 #[v] w fun e w'=>∃ v fs,e = .returned v/\Acc w.heap.size 2 w' v l fs/\fs.flatten = []/\Only [] w w':=by
 obtain ⟨a,cap,rfl,hI⟩:=h.ints
 obtain ⟨i0,hi,hz0,hz1,hz2⟩:=info_parts Tryz.info2
 obtain ⟨q1,q2⟩:=Zdl (hI.keep ((Only.refl _ w).alloc (.cells #[] 2)))
 go_enter Tryz.func100,Tryz.ntmps100
 go_wp2_with (at_builtin;refine Zbx _ rfl _ _ 27 rfl w.heap.size 2 i0 _ 1 8 Tryz.underlying27 hi hz0 hz1 hz2 rfl (by omega) (.slice (some ⟨w.heap.size,0,none⟩) 0 0) 0 [] rfl (World.ownsRow_made w #[] 0 (Nat.le_refl _) (by unfold maxLen;omega) rfl) a l.length cap (l.map (Value.int .i64)) rfl (by simp) q1 q2 (Zef l) (by unfold maxLen;omega) (by omega) (by simp) ?_;intro v1 w1 hO hg hb)
 rw [Nat.zero_add,List.nil_append] at hO
 have hK:Only [] w w1:=(zO.alloc _).grown hg (by simp [Value.ownBlock])
 have hA:Acc w.heap.size 2 w1 v1 l (List.replicate l.length []):=own_acc hO hI.wf
 have HA:=zH hA
 clear hO hg hb q1 q2 hA
 go_wp2
 go_ret
 exact ⟨_,_,rfl,HA.out,flatten_nil _,hK⟩
set_option maxHeartbeats 2000000 in
theorem Zjs (cs:List Value) (x:Puzzle) (fp:List Nat) (last:Int) (w:World) (h:Rp.rep w cs x fp) (hl:x.moves.length<=1000) (h0:-1000<=last) (h1:last<=1000) :
  Calls Tryz.prog 236 #[.agg cs.toArray,.int .i64 last] w fun e w'=>∃ v fp',e = .returned v/\Rd w' v (lAft x last) fp'/\Fresh w.heap.size w' fp'/\Only [] w w':=by
 have hh:=h
 obtain ⟨v2,rfl,p0,p1,h2⟩:=h
 clear p0 p1 h2
 obtain ⟨i0,hi,hz0,hz1,hz2⟩:=info_parts Tryz.info2
 go_enter Tryz.func236,Tryz.ntmps236
 go_upto_region 4 with (first
  | (go_at_call 183;(with_reducible refine (Zhq [.int .i64 x.points,.string x.names,v2] x _ _ (zK hh zA) hl).mono ?_);rintro e w1 ⟨u1,f1,rfl,r1,F1,t1⟩;obtain ⟨a1,c1,rfl,I1⟩:=r1.ints)
  | fail)
 have K1:Only [] w w1:=zA
 have hzt:=t1.size
 simp at hzt
 have A0:AccI w.heap.size 2 w1 (.slice (some ⟨w.heap.size + 1,0,none⟩) 0 0) []:=(AccI.made (w.alloc (.cells #[.int .i64 x.points,.string x.names,v2] 26)) w.heap.size 2 (by simp) (by omega)).keep t1
 obtain ⟨L,hL⟩:∃ L,L = ltrs x.moves.length:=⟨_,rfl⟩
 have hfin:lAft x last = L.filter fun l=>decide (l ≠ -last):=by rw [hL];rfl
 have hmem:∀ l∈L,l ≠ 0/\-1000<=l/\l<=1000:=fun l hl2=>by rw [hL] at hl2;have:=Zaw.1 hl2;omega
 have hLl:L.length<=2000:=by rw [hL,Zfk];omega
 have Hfin:=zH hfin
 have Hmem:=zH hmem
 rw [<- hL] at I1 ⊢
 clear hL hfin hmem r1
 have hwn:IntKind.i64.wrap (-last) = -last:=by rw [IntKind.wrap_i64];omega
 go_loopw [5,7] (fun o i wr=>∃ (j:Nat),j<=L.length/\i = .int .i64 j/\AccG w w1 f1 2 wr o ((L.take j).filter fun l=>decide (l ≠ -last)))
  (fun _ i _=>L.length - (intOf i).toNat)
 case atStart=>exact ⟨0,Nat.zero_le _,rfl,A0,K1,fun _ _=>rfl,fun b hb hm=>by have:=F1.ge b hb;simp [Value.ownBlock] at hm this;omega,I1.lt⟩
 case round=>
  obtain ⟨j,hj,rfl,hA⟩:=hrel
  have hK:=hA.on
  by_cases hlt:j < L.length
  ·obtain ⟨b,off,rfl,hfb,hc0⟩:=I1.at_ j hlt
   have hc:=(World.cell?_of_block (hA.kp b (by rw [hfb];simp))).trans hc0
   have hm:=Hmem.out L[j] (List.getElem_mem hlt)
   have hsz:=hK.size
   have hI:I64 L[j]:=by unfold I64;omega
   have HI:=zH hI
   have hlj:((L.take j).filter fun l=>decide (l ≠ -last)).length + 1<=1073741824:=by
    have h1:=List.length_filter_le (fun l=>decide (l ≠ -last)) (L.take j)
    have h2:=List.length_take_le j L
    omega
   have hsu:=Zab L j hlt
   by_cases c0:last = 0
   ·have hst:(L.take (j + 1)).filter (fun l=>decide (l ≠ -last)) = ((L.take j).filter fun l=>decide (l ≠ -last)) ++ [L[j]]:=by
     rw [hsu,List.filter_append,List.filter_cons_of_pos (by simp;omega)];rfl
    have Hst:=zH hst
    have cb:(last == 0) = true:=by simp [c0]
    clear hst hsu c0 hI hm hc0 hfb
    go_wp2_with (at_builtin;refine Zbi rfl _ _ 27 rfl w.heap.size 2 i0 _ Tryz.underlying27 hi hz0 hz1 hz2 rfl wr _ _ rfl hA.acc (zO.alloc _) hsz wr.heap.size 1 L[j] rfl (lit1 wr _ _ rfl) HI.out hlj ?_;intro v3 w3 hA3 hO3 hP3 hN3;have hA3:=(hA.keep (zO.alloc (.cells #[.int .i64 L[j]] 2))).push hA3 hO3 hP3 hN3)
    go_roundw
    case rel=>exact ⟨j + 1,by omega,by go_num,by rw [Hst.out];exact hA3⟩
    case measure=>simp [intOf];omega
   have cb:(last == 0) = false:=by simp [c0]
   by_cases ce:L[j] = -last
   ·have hst:(L.take (j + 1)).filter (fun l=>decide (l ≠ -last)) = ((L.take j).filter fun l=>decide (l ≠ -last)):=by
     rw [hsu,List.filter_append,List.filter_cons_of_neg (by simp [ce])];simp
    have Hst:=zH hst
    have cd:(L[j] != -last) = false:=by simp [ce]
    clear hst hsu c0 hI hm hc0 ce hfb
    go_wp2
    go_roundw
    case rel=>exact ⟨j + 1,by omega,by go_num,by rw [Hst.out];exact hA⟩
    case measure=>simp [intOf];omega
   ·have hst:(L.take (j + 1)).filter (fun l=>decide (l ≠ -last)) = ((L.take j).filter fun l=>decide (l ≠ -last)) ++ [L[j]]:=by
     rw [hsu,List.filter_append,List.filter_cons_of_pos (by simpa using ce)];rfl
    have Hst:=zH hst
    have cd:(L[j] != -last) = true:=by simpa using ce
    clear hst hsu c0 hI hm hc0 ce hfb
    go_wp2_with (at_builtin;refine Zbi rfl _ _ 27 rfl w.heap.size 2 i0 _ Tryz.underlying27 hi hz0 hz1 hz2 rfl wr _ _ rfl hA.acc (zO.alloc _) hsz wr.heap.size 1 L[j] rfl (lit1 wr _ _ rfl) HI.out hlj ?_;intro v3 w3 hA3 hO3 hP3 hN3;have hA3:=(hA.keep (zO.alloc (.cells #[.int .i64 L[j]] 2))).push hA3 hO3 hP3 hN3)
    go_roundw
    case rel=>exact ⟨j + 1,by omega,by go_num,by rw [Hst.out];exact hA3⟩
    case measure=>simp [intOf];omega
  ·have hjl:j = L.length:=by omega
   rw [hjl,List.take_length] at hA
   have HA:=zH hA
   clear hjl hA
   go_wp2
   go_ret
   exact ⟨_,_,rfl,by rw [Hfin.out];exact HA.out.acc.rd,HA.out.acc.fresh,hK⟩
def VP (B g gb:Nat) (v2:Value) (x:Puzzle) (D:Nat) (w:World) (a:Option Addr) (C:Nat) (wd:List Int) (r:Nat × Out) (e:Ending) (w':World):Prop:=
 ∃ (wd':List Int) (fo:Nat) (ab:Bool) (a':Option Addr) (C':Nat),e = .returned (.bool r.2.isSome)/\Sx w' B g gb x v2 D wd' r.1 fo ab a' C'/\VI r wd wd' fo ab /\
  Only (g :: (Value.slice a wd.length C).ownBlock.toList) w w'/\(∀ b,(Value.slice a' wd'.length C').ownBlock = some b->(Value.slice a wd.length C).ownBlock = some b\/w.heap.size<=b)
def VVs (B g gb:Nat) (v2:Value) (x:Puzzle) (ts:List Table) (D:Nat) (W0:World) (f:Nat):Prop:=
  ∀ (s wd:List Int) (c:Nat) (vs:Value) (fs:List Nat) (a:Option Addr) (C:Nat) (w:World),Only [] W0 w->Sx w B g gb x v2 D wd c 0 false a C->Rd w vs s fs->(∀ b∈fs,b ≠ g/\(Value.slice a wd.length C).ownBlock ≠ some b)->reachB x s = true->wd.length + f = D->c<=20000 ->
  Calls Tryz.prog 210 #[.pointer (some ⟨g,0,none⟩),vs] w fun e w'=>VP B g gb v2 x D w a C wd (vis x ts D f s wd c) e w'
theorem Sx.set_ {w:World} {B g gb:Nat} {x:Puzzle} {v2:Value} {D:Nat} {wd:List Int} {c fo:Nat} {ab:Bool} {a:Option Addr} {C:Nat} {u:Value} {i c' fo':Nat} {ab':Bool} (h:Sx w B g gb x v2 D wd c fo ab a C)
  (he:([.int .i64 x.points,.string x.names,v2,.pointer (some ⟨gb,0,none⟩),.int .i64 D,.bool false,.slice a wd.length C,.int .i64 c,.int .i64 fo,.bool ab]:List Value).set i u = [.int .i64 x.points,.string x.names,v2,.pointer (some ⟨gb,0,none⟩),.int .i64 D,.bool false,.slice a wd.length C,.int .i64 c',.int .i64 fo',.bool ab']) :
  Sx (w.setCell ⟨g,i,none⟩ u) B g gb x v2 D wd c' fo' ab' a C:=by
 have hb:=h.blk.set i u
 rw [he] at hb
 exact ⟨hb,Zkg h.row ((Only.refl [g] w).setCell (by simp) u) (fun b hb2 hm=>by simp at hm;exact h.ap b hb2 hm),h.wf,h.ap⟩
theorem Sx.word {w:World} {B g gb:Nat} {x:Puzzle} {v2:Value} {D:Nat} {wd wd':List Int} {c fo:Nat} {ab:Bool} {a a':Option Addr} {C C':Nat} (h:Blk w g [.int .i64 x.points,.string x.names,v2,.pointer (some ⟨gb,0,none⟩),.int .i64 D,.bool false,.slice a wd.length C,.int .i64 c,.int .i64 fo,.bool ab])
  (hr:w.ownsRow B 2 1 (.slice a' wd'.length C') wd'.length (wd'.map (Value.int .i64))) (hw:∀ l∈wd',l∈ltrs x.moves.length) (hn:∀ b,(Value.slice a' wd'.length C').ownBlock = some b->b ≠ g) :
  Sx (w.setCell ⟨g,6,none⟩ (.slice a' wd'.length C')) B g gb x v2 D wd' c fo ab a' C':=by
 exact ⟨h.set 6 _,Zkg hr ((Only.refl [g] w).setCell (by simp) _) (fun b hb2 hm=>by simp at hm;exact hn b hb2 hm),hw,hn⟩
theorem own_len (a:Option Addr) (n m c:Nat):(Value.slice a n c).ownBlock = (Value.slice a m c).ownBlock:=by
 rcases a with _ | ⟨b,o,t⟩ <;> rfl
theorem Sx.ge {w:World} {B g gb:Nat} {x:Puzzle} {v2:Value} {D:Nat} {wd:List Int} {c fo:Nat} {ab:Bool} {a:Option Addr} {C:Nat} (h:Sx w B g gb x v2 D wd c fo ab a C):∀ b,(Value.slice a wd.length C).ownBlock = some b->B<=b/\b < w.heap.size:=World.ownsRow.lt h.row
theorem VI.none {c:Nat} {wd:List Int}:VI (c,none) wd wd 0 false:=.inl ⟨rfl,rfl,rfl,rfl⟩
set_option maxHeartbeats 8000000 in
theorem Zkz (B g gb:Nat) (v2:Value) (x:Puzzle) (fp:List Nat) (ts:List Table) (ft:List Nat) (D:Nat) (W0:World)
  (h:Rp.rep W0 [.int .i64 x.points,.string x.names,v2] x fp) (hb:BD W0 gb ts ft) (hB:W0.heap.size<=B) (hg:W0.heap.size<=g) (hBg:B<=g) (hts:∀ t∈ts,validT x t = true) (hl:ts.length<=4) (hD:D<=30) (hx:validPz x = true)
  (f:Nat) (IH:∀ f',f = f' + 1->VVs B g gb v2 x ts D W0 f'):VVs B g gb v2 x ts D W0 f:=by
 obtain ⟨v3,hv3,-,-,h2⟩:=id h
 injection hv3 with _ hv3;injection hv3 with _ hv3;injection hv3 with hv3 _;subst hv3
 obtain ⟨A2,C2,-,-,rfl,-⟩:=id h2.open_
 intro s wd c vs fs a C w hW hS hs hd hr hf hc
 obtain ⟨q1,q20,q8,q9⟩:=Zad hx
 have hrg:=Zam (Zax hr)
 have hsl:s.length = x.points.toNat:=hrg.2.2.2.1
 have hI0:=hS.ints (by omega)
 obtain ⟨a1,c1,rfl,I1⟩:=hs.ints
 have Hsl:=zH hsl
 have Hrg:=zH hrg
 have Hts:=zH hts
 have Hr:=zH hr
 have Hx:=zH hx
 have Hq9:=zH q9
 have HIH:=zH IH
 have Hf:=zH hf
 have Hd:=zH hd
 have hb1:=I1.bound
 have hwl:wd.length<=D:=by omega
 have hgl:=hS.blk.lt
 clear hsl hrg hts hr hx q9 IH hf hd
 have hlb:0<=lbMax ts s/\lbMax ts s<=3000:=(Zbs (l:=lbs ts s) (m:=3000) (a:=0) (fun y hy=>by
   obtain ⟨t,ht,rfl⟩:=List.mem_map.1 hy
   exact Zcd (Hts.out t ht) Hr.out) (by omega))
 obtain ⟨E,hE⟩:∃ E,E = lbMax ts s:=⟨_,rfl⟩
 rw [<- hE] at hlb
 have hlk:∀ W,Only [] W0 W->Rd W (.slice a1 s.length c1) s fs->Calls Tryz.prog 89 #[.pointer (some ⟨gb,0,none⟩),.slice a1 s.length c1] W fun e w'=>e = .returned (.int .i64 E)/\Only [] W w':=fun W hh hs=>by
  rw [hE];exact Zds x gb ts ft _ s fs W (hb.keep hh) hs Hts.out Hr.out hl
 have Hlk:=zH hlk
 have HE:=zH hE
 obtain ⟨hlb0,hlb1⟩:=hlb
 clear hlk hE
 have hsg:=Only.setCell (Only.refl (g :: (Value.slice a wd.length C).ownBlock.toList) w) (p:=⟨g,7,none⟩) (fun _=>by simp) (.int .i64 ((c:Int) + 1))
 go_enter Tryz.func210,Tryz.ntmps210
 have y7:=hS.blk.cell 7 rfl
 by_cases h20:c = 20000
 ·have Hn:=zH (show vis x ts D f s wd c = (c,some none) by cases f <;> (unfold vis visG;rw [if_pos h20]))
  have cb:((c:Int) == 20000) = true:=by simp [h20]
  have p9:=hS.blk.frozen 9
  have y9:=hS.blk.cell 9 rfl
  clear h20
  go_wp2
  go_ret
  rw [Hn.out]
  exact ⟨wd,0,true,a,C,rfl,hS.set_ rfl,.inr (.inl ⟨rfl,rfl,rfl⟩),zO.setCell (by simp) _,fun b hb=>.inl hb⟩
 have H20:=zH h20
 have cb:((c:Int) == 20000) = false:=by simp;omega
 have hc2:c + 1<=20000:=by omega
 have hcw:IntKind.i64.wrap ((c:Int) + 1) = ((c:Int) + 1):=by rw [IntKind.wrap_i64];omega
 have p7:=hS.blk.frozen 7
 clear h20
 go_upto_region 5 with fail
 have S2:Sx (w.setCell ⟨g,7,none⟩ (.int .i64 ((c:Int) + 1))) B g gb x (.slice A2 x.moves.length C2) D wd (c + 1) 0 false a C:=hS.set_ rfl
 obtain ⟨w2,hw2⟩:∃ w2,w2 = w.setCell ⟨g,7,none⟩ (.int .i64 ((c:Int) + 1)):=⟨_,rfl⟩
 rw [<- hw2] at S2 hsg ⊢
 have hz2:w2.heap.size = w.heap.size:=by rw [hw2];simp
 clear hw2 y7 p7
 have hs2:Rd w2 (.slice a1 s.length c1) s fs:=Rp.only hs hsg (fun b hb hm=>by
  have:=Hd.out b hb
  rcases List.mem_cons.1 hm with hm | hm
  ·exact this.1 hm
  ·exact this.2 (by simpa using hm))
 have hge:=hS.ge
 have hW2:Only [] W0 w2:=hW.then_ hsg (fun b hb hl=>by
  rcases List.mem_cons.1 hb with rfl | hb
  ·omega
  ·have:=(hge b (by simpa using hb)).1;omega)
 have hI2:=S2.ints (by omega)
 have y6:=S2.blk.cell 6 rfl
 go_upto_region 6 with ((go_at_call 41;(with_reducible refine (Zbj _ wd _ _ hI2.rd).mono ?_);rintro e w2 ⟨rfl,rfl⟩))
 have y2:=S2.blk.cell 2 rfl
 have y3:=S2.blk.cell 3 rfl
 have y4:=S2.blk.cell 4 rfl
 have hws:IntKind.i64.wrap ((wd.length:Int) + E) = (wd.length:Int) + E:=by rw [IntKind.wrap_i64];omega
 go_region_held3 (fun w'=>Only [] w2 w'/\w'.cell? ⟨g,3,none⟩ = some (.pointer (some ⟨gb,0,none⟩))/\w'.cell? ⟨g,4,none⟩ = some (.int .i64 (D:Int))) (((refine and_of ?_ (fun q_=>⟨q_.ce y3,q_.ce y4⟩));first | exact zO.drew | exact (zO.drewN _).drew | exact Only.trans (And.left (by assumption)) (by assumption) | exact Only.alloc (And.left (by assumption)) _ | assumption)) (first | (go_at_call 89;(with_reducible refine (Hlk.out _ (hW2.trans zA) (zK hs2 zA)).mono ?_);rintro e w3 ⟨rfl,t3⟩) | fail)
 have k3:Only [] w2 w3:=zA
 have S3:=S2.keep k3
 have hsg3:=hsg.keepThen k3
 have hs3:=zK hs2 k3
 have hW3:=hW2.trans k3
 have hz3:=k3.size
 by_cases hbd:(D:Int) < (wd.length:Int) + E
 ·have Hn:=zH (show vis x ts D f s wd c = (c + 1,none) by cases f <;> (unfold vis visG;rw [if_neg H20.out,if_pos (by rw [<- HE.out];exact hbd)]))
  go_wp2
  go_ret
  rw [Hn.out]
  exact ⟨wd,0,false,a,C,rfl,S3,VI.none,hsg3,fun b hb=>.inl hb⟩
 have Hbd:=zH (show ¬ (D:Int) < (wd.length:Int) + lbMax ts s by rw [<- HE.out];exact hbd)
 have y4:=S3.blk.cell 4 rfl
 clear S2 hsg hs2 hW2 t3 k3 hI2 y2 y3 y6 Hlk
 by_cases hleaf:wd.length = D
 ·have y5:=S3.blk.cell 5 rfl
  have y8:=S3.blk.cell 8 rfl
  have p8:=S3.blk.frozen 8
  have hvl:vis x ts D f s wd c = (c + 1,if s = PM.pts x.points.toNat then some (some wd) else none):=by
   cases f <;> (unfold vis visG;rw [if_neg H20.out,if_neg Hbd.out,if_pos hleaf])
  rw [<- Hsl.out] at hvl
  subst hleaf
  rcases hid:decide (s = PM.pts s.length) with _ | _
  ·have Hn:=zH (hvl.trans (by rw [if_neg (of_decide_eq_false hid)]))
   have Hi:=zH hid
   clear hvl hid
   go_wp2_with (first
    | (go_at_call 137;(with_reducible refine (Zdd _ s fs _ hs3).mono ?_);rintro e w4 ⟨he,t4⟩;rw [Hi.out] at he;subst he;have y4:=t4.cell (by simp) y4)
    | fail)
   go_ret
   rw [Hn.out]
   exact ⟨wd,0,false,a,C,rfl,S3.keep t4,VI.none,hsg3.keepThen t4,fun b hb=>.inl hb⟩
  ·have Hn:=zH (hvl.trans (by rw [if_pos (of_decide_eq_true hid)]))
   have Hi:=zH hid
   clear hvl hid
   go_wp2_with (first
    | (go_at_call 137;(with_reducible refine (Zdd _ s fs _ hs3).mono ?_);rintro e w4 ⟨he,t4⟩;rw [Hi.out] at he;subst he;have S4:=S3.keep t4;have y4:=S4.blk.cell 4 rfl;have y5:=S4.blk.cell 5 rfl;have y8:=S4.blk.cell 8 rfl;have p8:=S4.blk.frozen 8)
    | fail)
   go_ret
   rw [Hn.out]
   exact ⟨wd,1,false,a,C,rfl,S4.set_ rfl,.inr (.inr ⟨rfl,rfl,rfl⟩),(hsg3.keepThen t4).setCell (by simp) _,fun b hb=>.inl hb⟩
 obtain ⟨f',rfl⟩:∃ f',f = f' + 1:=⟨f - 1,by have:=Hf.out;omega⟩
 have Hn:=zH (show vis x ts D (f' + 1) s wd c = visL x (vis x ts D f') s wd (ltrs x.moves.length) (c + 1) by unfold vis visG;rw [if_neg H20.out,if_neg Hbd.out,if_neg hleaf])
 have hih:=HIH.out f' rfl
 unfold VVs at hih
 have HIHf:=zH hih
 clear hih HIH
 go_upto_region 8 with fail
 go_cut [51] (fun s51 wx=>s51 = .bool false/\Only [] w3 wx)
 case first=>
  rcases hid:decide (s = PM.pts s.length) with _ | _
  ·have Hi:=zH hid
   clear hid
   go_wp2_with (first
    | (go_at_call 137;(with_reducible refine (Zdd _ s fs _ hs3).mono ?_);rintro e w4 ⟨he,t4⟩;rw [Hi.out] at he;subst he;have y4:=t4.cell (by simp) y4)
    | fail)
   go_meet
   exact ⟨rfl,t4⟩
  ·have Hi:=zH hid
   clear hid
   go_wp2_with (first
    | (go_at_call 137;(with_reducible refine (Zdd _ s fs _ hs3).mono ?_);rintro e w4 ⟨he,t4⟩;rw [Hi.out] at he;subst he;have y4:=t4.cell (by simp) y4)
    | fail)
   go_meet
   exact ⟨by congr 1;simp;omega,t4⟩
 case rest=>
 obtain ⟨rfl,hk3⟩:=hcut
 obtain ⟨w4,hnew⟩:∃ W,W = wc:=⟨_,rfl⟩
 subst hnew
 refine (show ∀ a w,Code.wp Tryz.prog _ _ a w->_ from by assumption) _ _ ?_
 have S4:=S3.keep hk3
 have hsg4:=hsg3.keepThen hk3
 have hs4:=zK hs3 hk3
 have hW4:=hW3.trans hk3
 have hz4:=hk3.size
 have y4:=S4.blk.cell 4 rfl
 clear S3 hsg3 hs3 hW3 hk3
 go_upto_region 14 with fail
 obtain ⟨bg,hbg⟩:∃ bg,bg = decide (0 < wd.length):=⟨_,rfl⟩
 have Hbg:=zH hbg
 go_cut [71] (fun s71 wx=>s71 = .bool bg/\Only [] w4 wx)
 case first=>
  clear hbg
  go_wp2_with fail
  go_meet
  exact ⟨by rw [Hbg.out],Only.refl _ _⟩
 case rest=>
 obtain ⟨rfl,hk5⟩:=hcut
 clear hbg
 obtain ⟨w5,hnew⟩:∃ W,W = wc:=⟨_,rfl⟩
 subst hnew
 refine (show ∀ a w,Code.wp Tryz.prog _ _ a w->_ from by assumption) _ _ ?_
 go_cut [6] (fun s6 wx=>s6 = .int .i64 (lastL wd)/\Only [] w4 wx)
 case first=>
  rcases bg with _ | _
  ·have h0:wd.length = 0:=by have:=of_decide_eq_false Hbg.out.symm;omega
   have Hl0:=zH (Zfz h0)
   clear h0
   go_wp2_with fail
   go_meet
   exact ⟨by rw [Hl0.out],hk5⟩
  ·have h0:0 < wd.length:=of_decide_eq_true Hbg.out.symm
   obtain ⟨k,hk⟩:∃ k,k + 1 = wd.length:=⟨wd.length - 1,by omega⟩
   have hkl:k < wd.length:=by omega
   have Hl0:=zH (show lastL wd = wd[k]'hkl from Zgh hk)
   have S5:=S4.keep hk5
   have y6:=S5.blk.cell 6 rfl
   obtain ⟨b,off,rfl,-,hcw⟩:=(S5.ints (by omega)).at_ k hkl
   have hwk:IntKind.i64.wrap ((wd.length:Int) - 1) = (k:Int):=by rw [IntKind.wrap_i64];omega
   have hkk:(wd.length:Int) - 1 = (k:Int):=by omega
   clear h0 hk
   go_wp2_with fail
   go_meet
   exact ⟨by rw [Hl0.out],hk5⟩
 case rest=>
 obtain ⟨rfl,hk6⟩:=hcut
 obtain ⟨w6,hnew⟩:∃ W,W = wc:=⟨_,rfl⟩
 subst hnew
 refine (show ∀ a w,Code.wp Tryz.prog _ _ a w->_ from by assumption) _ _ ?_
 have S6:=S4.keep hk6
 have hsg6:=hsg4.keepThen hk6
 have hs6:=zK hs4 hk6
 have hW6:=hW4.trans hk6
 have hz6:=hk6.size
 have y2:=S6.blk.cell 2 rfl
 clear S4 hsg4 hs4 hW4 hk6 hk5 y4 w5
 go_upto_region 17 with ((go_at_call 169;(with_reducible refine (Zix x.moves.length _ (by omega)).mono ?_);rintro e w7 ⟨uL,fL,rfl,rL,FL,t7⟩;obtain ⟨aL,cL,rfl,IL⟩:=rL.ints))
 have S7:=S6.keep t7
 have hsg7:=hsg6.keepThen t7
 have hs7:=zK hs6 t7
 have hW7:=hW6.trans t7
 have hz7:=t7.size
 have FLb:∀ b∈fL,w6.heap.size<=b:=FL.ge
 have FLl:∀ b∈fL,b < w7.heap.size:=IL.lt
 obtain ⟨L,hL⟩:∃ L,L = ltrs x.moves.length:=⟨_,rfl⟩
 have HmL:=zH (show ∀ l∈L,l∈ltrs x.moves.length by rw [hL];exact fun l hl=>hl)
 have Hn:=zH (show vis x ts D (f' + 1) s wd c = visL x (vis x ts D f') s wd L (c + 1) by rw [hL];exact Hn.out)
 rw [<- hL] at IL ⊢
 clear hL rL t7 FL S6 hsg6 hs6 hW6 y2
 have hbL:=IL.bound
 have hlast:-1000<=lastL wd/\lastL wd<=1000:=by
  by_cases h0:wd.length = 0
  ·rw [Zfz h0];omega
  ·obtain ⟨k,hk⟩:∃ k,k + 1 = wd.length:=⟨wd.length - 1,by omega⟩
   rw [Zgh hk]
   have:=Zaw.1 (S7.wf wd[k] (List.getElem_mem (by omega)))
   omega
 obtain ⟨hla0,hla1⟩:=hlast
 have hneg:IntKind.i64.wrap (-(lastL wd)) = -(lastL wd):=by rw [IntKind.wrap_i64];omega
 obtain ⟨i0,hi,hq0,hq1,hq2⟩:=info_parts Tryz.info2
 go_loopw [88] (fun i wr=>∃ (j:Nat) (c':Nat) (a':Option Addr) (C':Nat),j<=L.length/\i = .int .i64 j/\Sx wr B g gb x (.slice A2 x.moves.length C2) D wd c' 0 false a' C'/\c'<=20000/\visL x (vis x ts D f') s wd L (c + 1) = visL x (vis x ts D f') s wd (L.drop j) c'/\Only (g :: (Value.slice a wd.length C).ownBlock.toList) w7 wr/\(∀ b,(Value.slice a' wd.length C').ownBlock = some b->(Value.slice a wd.length C).ownBlock = some b\/w7.heap.size<=b))
  (fun i _=>L.length - (intOf i).toNat)
 case atStart=>exact ⟨0,c + 1,a,C,Nat.zero_le _,rfl,S7,hc2,rfl,Only.refl _ _,fun b hb=>.inl hb⟩
 case round=>
  obtain ⟨W2,hnew⟩:∃ W,W = wr:=⟨_,rfl⟩
  subst hnew
  obtain ⟨j,c',a',C',hj,rfl,hS',hc',hfold,hO,hN⟩:=hrel
  have Hfold:=zH hfold
  have hzw:=hO.size
  have hnL:∀ b∈fL,b ∉ g :: (Value.slice a wd.length C).ownBlock.toList:=fun b hb hm=>by
   have:=FLb b hb
   rcases List.mem_cons.1 hm with rfl | hm
   ·omega
   ·have:=(hge b (by simpa using hm)).2;omega
  have hsW:Rd W2 (.slice a1 s.length c1) s fs:=Rp.only hs7 hO (fun b hb hm=>by
   have:=Hd.out b hb
   rcases List.mem_cons.1 hm with hm | hm
   ·exact this.1 hm
   ·exact this.2 (by simpa using hm))
  have hWW:Only [] W0 W2:=hW7.then_ hO (fun b hb hl=>by
   rcases List.mem_cons.1 hb with rfl | hb
   ·omega
   ·have:=(hge b (by simpa using hb)).1;omega)
  have hOW:Only (g :: (Value.slice a wd.length C).ownBlock.toList) w W2:=hsg7.trans hO
  have hgW:g < W2.heap.size:=hS'.blk.lt
  clear hfold
  by_cases hlt:j < L.length
  ·obtain ⟨bl,ol,rfl,hfl,hcl0⟩:=IL.at_ j hlt
   have hcl:=hO.cell (hnL bl (by rw [hfl];simp)) hcl0
   obtain ⟨l,hl⟩:∃ l,l = L[j]:=⟨_,rfl⟩
   rw [<- hl] at hcl
   have hlm:=HmL.out l (by rw [hl];exact List.getElem_mem hlt)
   have Hl2:=zH hlm
   have hdr:L.drop j = l :: L.drop (j + 1):=by rw [hl];exact List.drop_eq_getElem_cons hlt
   have Hdr:=zH hdr
   have hlI:I64 l:=ltr_i64 (n:=x.moves.length) (by omega) hlm
   have HlI:=zH hlI
   clear hl hlI hcl0 hfl hdr
   by_cases hsk:l = -(lastL wd)
   ·have Hsk:=zH hsk
    have cb:(l == -(lastL wd)) = true:=by simp [hsk]
    have hF:=zH (Hfold.out.trans (by rw [Hdr.out,Zdr hsk]))
    clear hsk hlm
    go_wp2
    go_roundw
    case rel=>exact ⟨j + 1,c',a',C',hlt,by go_num,hS',hc',hF.out,hO,hN⟩
    case measure=>simp [intOf];omega
   ·have Hne:=zH hsk
    have cb:(l == -(lastL wd)) = false:=by simpa using hsk
    obtain ⟨s',hs'⟩:∃ s',s' = nxt x s l:=⟨_,rfl⟩
    obtain ⟨wd',hwd'⟩:∃ wd',wd' = wd ++ [l]:=⟨_,rfl⟩
    have hF:=zH (show visL x (vis x ts D f') s wd L (c + 1) = visL x (vis x ts D f') s wd (l :: L.drop (j + 1)) c' by rw [<- Hdr.out];exact Hfold.out)
    have Hre:=zH (show reachB x s' = true by rw [hs'];exact Zfq Hr.out hlm)
    have hlf:wd'.length + f' = D:=by rw [hwd',List.length_append];have:=Hf.out;simp;omega
    have hwl':wd'.length = wd.length + 1:=by rw [hwd'];simp
    have Hlf:=zH hlf
    have Hwl':=zH hwl'
    have Hwf:=zH (show ∀ y∈wd',y∈ltrs x.moves.length by
     rw [hwd'];intro y hy
     rcases List.mem_append.1 hy with hy | hy
     ·exact hS'.wf y hy
     ·simp at hy;subst hy;exact hlm)
    have Hwd:=zH hwd'
    have Hss:=zH hs'
    have hAw:AccI B 2 W2 (.slice a' wd.length C') wd:=AccI.ofRow hS'.row (fun y hy=>ltr_i64 (n:=x.moves.length) (by omega) (hS'.wf y hy))
    have HAw:=zH hAw
    have hwd1:wd.length + 1<=1073741824:=by omega
    have hge':=hS'.ge
    have hap':=hS'.ap
    have y6:=hS'.blk.cell 6 rfl
    have hBW:B<=W2.heap.size:=by omega
    clear hsk hlm hs' hwd' hlf hwl' hAw
    go_upto_region 21 with (at_builtin;refine Zbi rfl _ _ 27 rfl B 2 i0 _ Tryz.underlying27 hi hq0 hq1 hq2 rfl W2 (.slice a' wd.length C') wd rfl HAw.out (zO.alloc _) hBW W2.heap.size 1 l rfl (lit1 W2 _ _ rfl) HlI.out hwd1 ?_;intro v8 w8 hA8 hO8 hP8 hN8;rw [<- Hwd.out] at hA8;obtain ⟨a8,c8,rfl⟩:=hA8.form;have B8:=(hS'.blk.keep ((Only.refl [] W2).alloc (.cells #[.int .i64 l] 2))).only hO8 (fun hm=>hap' g (by simpa using hm) rfl);have z6:=B8.cell 6 rfl;have q6:=B8.frozen 6)
    have hnog:(Value.slice a8 wd'.length c8).ownBlock ≠ some g:=Zga hN8 (fun h0=>hap' g h0 rfl) (by simp;omega)
    have S9:Sx (w8.setCell ⟨g,6,none⟩ (.slice a8 wd'.length c8)) B g gb x (.slice A2 x.moves.length C2) D wd' c' 0 false a8 c8:=
     Sx.word B8 hA8.row.1 Hwf.out (fun b hb e=>hnog (by rw [<- e];exact hb))
    have ka:=(Only.refl [] W2).alloc (.cells #[.int .i64 l] 2)
    have hz8:W2.heap.size<=w8.heap.size:=Nat.le_trans ka.size hO8.size
    have k9:=(Only.refl [g] w8).setCell (p:=⟨g,6,none⟩) (by simp) (.slice a8 wd'.length c8)
    have hown8:∀ b,(Value.slice a8 wd'.length c8).ownBlock = some b->(Value.slice a wd.length C).ownBlock = some b\/w7.heap.size<=b:=fun b hb=>by
     rcases hN8 with e | e
     ·exact hN b (by rw [<- e];exact hb)
     ·rw [e] at hb;injection hb with hb;have h5:=ka.size;simp at hb;omega
    -- what lies ahead of the search stays as it was
    have hO9:Only (g :: (Value.slice a wd.length C).ownBlock.toList) w7 (w8.setCell ⟨g,6,none⟩ (.slice a8 wd'.length c8)):=by
     refine ((hO.keepThen ka).then_ hO8 (fun b hb hl=>?_)).then_ k9 (by simp)
     rcases hN b (by simpa using hb) with h0 | h0
     ·simp [h0]
     ·omega
    have h8s:∀ b∈fs,b ≠ g/\(Value.slice a8 wd'.length c8).ownBlock ≠ some b:=fun b hb=>⟨(Hd.out b hb).1,fun e=>by
     rcases hown8 b e with h0 | h0
     ·exact (Hd.out b hb).2 h0
     ·have:=I1.lt b hb;omega⟩
    obtain ⟨w9,hw9⟩:∃ w9,w9 = w8.setCell ⟨g,6,none⟩ (.slice a8 wd'.length c8):=⟨_,rfl⟩
    have hz9:w9.heap.size = w8.heap.size:=by rw [hw9];simp
    rw [<- hw9] at S9 hO9 ⊢
    clear hw9 z6 q6 B8 hO8 hP8 hN8 hA8 ka k9 y6
    have hs9:Rd w9 (.slice a1 s.length c1) s fs:=Rp.only hs7 hO9 (fun b hb hm=>by
     have:=Hd.out b hb
     rcases List.mem_cons.1 hm with hm | hm
     ·exact this.1 hm
     ·exact this.2 (by simpa using hm))
    have hW9:Only [] W0 w9:=hW7.then_ hO9 (fun b hb hl=>by
     rcases List.mem_cons.1 hb with rfl | hb
     ·omega
     ·have:=(hge b (by simpa using hb)).1;omega)
    have hm9:=zK h2 hW9
    have y2:=S9.blk.cell 2 rfl
    have hgl9:g < w9.heap.size:=S9.blk.lt
    have hown9:=S9.ge
    have HlM:=zH (mv_pn (n:=x.points.toNat) (gens:=x.moves) Hrg.out.2.2.1 Hl2.out)
    have Hgen:=zH (show ∀ y∈x.moves,PM.IsP y/\y.length<=1000 from fun y hy=>by
     have:=Hrg.out.2.2.1 y hy
     exact ⟨this.2,by rw [this.1];omega⟩)
    have h1000:x.points.toNat<=1000:=by omega
    rcases hrs:(vis x ts D f' s' wd' c').2.isSome with _ | _
    ·have Hrs:=zH hrs
     clear hrs
     go_upto_region 23 with (first
      | (go_at_call 217;(with_reducible refine (Zgl (.slice A2 x.moves.length C2) x.moves l _ _ hm9 Hgen.out Hl2.out (by omega)).mono ?_);rintro e w10 ⟨u10,f10,rfl,r10,G10,t10⟩)
      | (go_at_call 194;(with_reducible refine (Zbm x.points.toNat _ _ s (mv x.moves l) _ _ _ (zK hs9 t10) r10 Hrg.out.2.2.2 HlM.out h1000).mono ?_);rintro e w11 ⟨u11,f11,rfl,r11,F11,t11⟩;have r11:Rd w11 u11 s' f11:=(by rw [Hss.out];exact r11);have k11:=t10.trans t11;have hz11:=t11.size;have hz10:=t10.size)
      | (go_at_call 210;(with_reducible refine (HIHf.out s' wd' c' u11 f11 a8 c8 w11 (hW9.trans k11) (S9.keep k11) r11 (fun b hb=>by have h3:=F11.ge b hb;exact ⟨by omega,fun e=>by have:=(hown9 b e).2;omega⟩) Hre.out Hlf.out hc').mono ?_);rintro e w12 ⟨wd2,fo2,ab2,a2,C2',he,S12,V12,O12,N12⟩;rw [Hrs.out] at he;subst he)
      | fail)
     have hv2:wd2 = wd'/\fo2 = 0/\ab2 = false:=by
      rcases V12 with ⟨-,h1,h2,h3⟩ | ⟨h1,-⟩ | ⟨h1,-⟩
      ·exact ⟨h1,h2,h3⟩
      ·have:=Hrs.out;rw [h1] at this;cases this
      ·have:=Hrs.out;rw [h1] at this;cases this
     obtain ⟨hv2,rfl,rfl⟩:=hv2
     rw [hv2] at S12 N12
     have S12r:=own_cut S12.row (m:=wd.length) (by have:=Hwl'.out;omega)
     have hrow:w12.ownsRow B 2 1 (.slice a2 wd.length C2') wd.length (wd.map (Value.int .i64)):=by
      have h0:=S12r.1
      rwa [Hwd.out,List.map_append,List.take_left' (by simp)] at h0
     have hcap:=S12r.2
     have B12:=S12.blk
     have y6:=B12.cell 6 rfl
     have p6:=B12.frozen 6
     have hapf:=S12.ap
     have S13:Sx (w12.setCell ⟨g,6,none⟩ (.slice a2 wd.length C2')) B g gb x (.slice A2 x.moves.length C2) D wd (vis x ts D f' s' wd' c').1 0 false a2 C2':=
      Sx.word B12 hrow hS'.wf (fun b hb e=>hapf b ((own_len _ _ _ _).trans hb) e)
     have hr13:(vis x ts D f' s' wd' c').1<=20000:=vis_rng _ _ _ _ hc'
     have hfold:visL x (vis x ts D f') s wd L (c + 1) = visL x (vis x ts D f') s wd (L.drop (j + 1)) (vis x ts D f' s' wd' c').1:=by
      rw [hF.out]
      refine visL_go Hne.out ?_
      rw [<- Hss.out,<- Hwd.out]
      exact Prod.ext rfl (by simpa using Hrs.out)
     have HF13:=zH hfold
     have hO13:Only (g :: (Value.slice a wd.length C).ownBlock.toList) w7 (w12.setCell ⟨g,6,none⟩ (.slice a2 wd.length C2')):=by
      refine ((hO9.keepThen k11).then_ O12 (fun b hb hl=>?_)).setCell (by simp) _
      rcases List.mem_cons.1 hb with h0 | h0
      ·rw [h0];simp
      ·rcases hown8 b (by simpa using h0) with h0 | h0
       ·simp [h0]
       ·omega
     have hN13:∀ b,(Value.slice a2 wd.length C2').ownBlock = some b->(Value.slice a wd.length C).ownBlock = some b\/w7.heap.size<=b:=fun b hb=>by
      rcases N12 b ((own_len _ _ _ _).trans hb) with h0 | h0
      ·exact hown8 b h0
      ·right;omega
     have hcapI:(wd.length:Int)<=(C2':Int):=by omega
     have hwp:0 < wd'.length:=by have:=Hwl'.out;omega
     clear S12 S12r hrow hapf hfold V12 hv2
     go_wp2
     go_roundw
     case rel=>exact ⟨j + 1,_,a2,C2',hlt,by go_num,S13,hr13,HF13.out,hO13,hN13⟩
     case measure=>simp [intOf];omega
    ·have Hrs:=zH hrs
     clear hrs
     go_wp2_with (first
      | (go_at_call 217;(with_reducible refine (Zgl (.slice A2 x.moves.length C2) x.moves l _ _ hm9 Hgen.out Hl2.out (by omega)).mono ?_);rintro e w10 ⟨u10,f10,rfl,r10,G10,t10⟩)
      | (go_at_call 194;(with_reducible refine (Zbm x.points.toNat _ _ s (mv x.moves l) _ _ _ (zK hs9 t10) r10 Hrg.out.2.2.2 HlM.out h1000).mono ?_);rintro e w11 ⟨u11,f11,rfl,r11,F11,t11⟩;have r11:Rd w11 u11 s' f11:=(by rw [Hss.out];exact r11);have k11:=t10.trans t11;have hz11:=t11.size;have hz10:=t10.size)
      | (go_at_call 210;(with_reducible refine (HIHf.out s' wd' c' u11 f11 a8 c8 w11 (hW9.trans k11) (S9.keep k11) r11 (fun b hb=>by have h3:=F11.ge b hb;exact ⟨by omega,fun e=>by have:=(hown9 b e).2;omega⟩) Hre.out Hlf.out hc').mono ?_);rintro e w12 ⟨wd2,fo2,ab2,a2,C2',he,S12,V12,O12,N12⟩;rw [Hrs.out] at he;subst he)
      | fail)
     go_ret
     have hr:vis x ts D (f' + 1) s wd c = vis x ts D f' s' wd' c':=by
      obtain ⟨o,ho⟩:=Option.isSome_iff_exists.1 Hrs.out
      rw [Hn.out,hF.out]
      refine (Zcf (c':=(vis x ts D f' s' wd' c').1) (o:=o) Hne.out ?_).trans (Prod.ext rfl ho.symm)
      rw [<- Hss.out,<- Hwd.out]
      exact Prod.ext rfl ho
     rw [hr]
     refine ⟨wd2,fo2,ab2,a2,C2',by rw [Hrs.out];rfl,S12,?_,?_,fun b hb=>?_⟩
     ·rcases V12 with ⟨h1,-⟩ | h1 | h1
      ·have:=Hrs.out;rw [h1] at this;cases this
      ·exact .inr (.inl h1)
      ·exact .inr (.inr h1)
     ·refine hsg7.trans ((hO9.keepThen k11).then_ O12 (fun b hb hl=>?_))
      rcases List.mem_cons.1 hb with h0 | h0
      ·rw [h0];simp
      ·rcases hown8 b (by simpa using h0) with h0 | h0
       ·simp [h0]
       ·omega
     ·rcases N12 b hb with h0 | h0
      ·rcases hown8 b h0 with h1 | h1
       ·exact .inl h1
       ·right;omega
      ·right;omega
  ·have hr:vis x ts D (f' + 1) s wd c = (c',none):=by
    rw [Hn.out,Hfold.out,List.drop_eq_nil_of_le (by omega)];rfl
   have Hr9:=zH hr
   clear hr
   go_wp2
   go_ret
   rw [Hr9.out]
   exact ⟨wd,0,false,a',C',rfl,hS',VI.none,hOW,fun b hb=>(hN b hb).imp id (fun h0=>by omega)⟩
theorem Znd (B g gb:Nat) (v2:Value) (x:Puzzle) (fp:List Nat) (ts:List Table) (ft:List Nat) (D:Nat) (W0:World)
  (h:Rp.rep W0 [.int .i64 x.points,.string x.names,v2] x fp) (hb:BD W0 gb ts ft) (hB:W0.heap.size<=B) (hg:W0.heap.size<=g) (hBg:B<=g) (hts:∀ t∈ts,validT x t = true) (hl:ts.length<=4) (hD:D<=30) (hx:validPz x = true) :
  ∀ f:Nat,VVs B g gb v2 x ts D W0 f
 | 0=>Zkz B g gb v2 x fp ts ft D W0 h hb hB hg hBg hts hl hD hx 0 (fun f' hf=>by omega)
 | f + 1=>Zkz B g gb v2 x fp ts ft D W0 h hb hB hg hBg hts hl hD hx (f + 1) (fun f' hf=>by
   obtain rfl:f = f':=by omega
   exact Znd B g gb v2 x fp ts ft D W0 h hb hB hg hBg hts hl hD hx f)
section
variable {P:Program} {ops:Array Oper} {Q:Exit->Act->World->Prop} {S:World->Prop}
def lastPost (P:Program) (ops:Array Oper) (Q:Exit->Act->World->Prop) (m:Nat):Exit->Act->World->Prop
 | .normal,a,w=>wpOp P ops Q m (fun a' w'=>Q .normal a' w') a w
 | e,a,w=>Q e a w
def lastOk (ops:Array Oper) (m:Nat):Bool:=
 ((List.range m).all fun k=>(List.range (m + 1)).any fun j=>decide (k < j) && ((ops.toList[j]?).map fun o=>o.after.toList.any fun e=>(e.on == k) && Region.binds .any e).getD false) &&
 ((List.range (m + 1)).all fun j=>((ops.toList[j]?).map fun o=>o.guard.isNone && o.after.toList.all fun e=>decide (e.on < j)).getD false)
theorem Zpz {m:Nat} {o:Oper} {a:Act} {w:World} {K:Act->World->Prop} (h:Oper.wp P o a w K (lastPost P ops Q m)):Oper.wp P o a w K Q:=by
 unfold Oper.wp at *
 generalize (execOp a.eval o).run P w = r at *
 cases r with
 | ok n w'=>
  cases n <;> simp only [Oper.upon] at h ⊢ <;>
   first
    | exact h
    | exact Calls.mono h (fun e w'' he=>by cases e <;> exact he)
 | halt x w'=>cases x <;> simp only [Oper.upon] at h ⊢ <;> exact h
theorem Zti {m i:Nat} {o:Oper} {a:Act} {w:World} {K:Act->World->Prop} (hi:ops[i]? = some o) (hi':ops.pop[i]? = some o) (hg:o.guard = none) (h:wpOp P ops.pop (lastPost P ops Q m) i K a w):wpOp P ops Q i K a w:=by
 have hw:∀ q,Region.wanted o q = true:=fun q=>by simp [Region.wanted,hg]
 unfold wpOp at *
 simp only [hi,hi',hw,if_true] at *
 exact h.imp Zpz id
def Clo (ops:Array Oper) (listed:Array Bool):Prop:=∀ j,listed.getD j false = true->∀ o,ops[j]? = some o->∀ e∈o.after,Region.binds .any e = true->listed.getD e.on false = true
theorem Zkh {listed:Array Bool} {m k:Nat} (hs:listed.size = m + 1) (hk:k < m) (d:Bool):listed.pop.getD k d = listed.getD k d:=by
 simp only [Array.getD_eq_getD_getElem?,Array.getElem?_pop]
 rw [if_pos (by omega)]
theorem Zlq (m:Nat) {id:Nat} {a:Act} {w:World} (hm:P.follows .mixedOrders = true) (hsz:ops.size = m + 1) (hok:lastOk ops m = true) (hS:S w.drew)
  (h:S w.drew->wpAnyH P .any ops.pop (lastPost P ops Q m) S m (Array.replicate m false) a w.drew):(Code.region id ops true).wp P Q a w:=by
 unfold lastOk at hok
 rw [Bool.and_eq_true,List.all_eq_true,List.all_eq_true] at hok
 obtain ⟨hA,hB⟩:=hok
 have hop:∀ j,j<=m->∃ o,ops[j]? = some o/\o.guard = none/\∀ e∈o.after,e.on < j:=fun j hj=>by
  have h1:=hB j (by simp;omega)
  rw [Array.getElem?_toList] at h1
  rcases ho:ops[j]? with _ | o
  ·rw [ho] at h1;cases h1
  ·rw [ho] at h1
   simp only [Option.map_some,Option.getD_some,Bool.and_eq_true,List.all_eq_true] at h1
   refine ⟨o,rfl,by simpa using h1.1,fun e he=>of_decide_eq_true (h1.2 e (by simpa using he))⟩
 have hpop:∀ j,j < m->ops.pop[j]? = ops[j]?:=fun j hj=>by
  rw [Array.getElem?_pop,if_pos (by omega)]
 -- a set of operations that is whole and lets the last one come up has all the others
 have hall:∀ listed:Array Bool,Clo ops listed->m∈Region.ready .any ops listed->∀ k,k < m->listed.getD k false = true:=fun listed hc hr k=>by
  obtain ⟨n,hn⟩:∃ n,n = m - k:=⟨_,rfl⟩
  induction n using Nat.strongRecOn generalizing k with
  | ind n ih=>
   intro hk
   have h1:=hA k (by simpa using hk)
   rw [List.any_eq_true] at h1
   obtain ⟨j,hj,h2⟩:=h1
   rw [Bool.and_eq_true] at h2
   have hkj:k < j:=of_decide_eq_true h2.1
   have hjm:j<=m:=by simp at hj;omega
   obtain ⟨o,ho,-,-⟩:=hop j hjm
   have h3:=h2.2
   rw [Array.getElem?_toList,ho] at h3
   simp only [Option.map_some,Option.getD_some,List.any_eq_true,Bool.and_eq_true] at h3
   obtain ⟨e,he,he2,hb⟩:=h3
   have he3:e.on = k:=by simpa using he2
   rw [<- he3]
   by_cases hjm2:j = m
   ·subst hjm2
    obtain ⟨-,o2,ho2,h4⟩:=mem_ready.1 hr
    rw [ho] at ho2;injection ho2 with ho2;subst ho2
    exact h4 e (by simpa using he) hb
   ·exact hc j (ih (m - j) (by omega) j rfl (by omega)) o ho e (by simpa using he) hb
 refine Zod (I:=fun listed a w=>Clo ops listed/\((listed.getD m true = false/\∃ fuel,wpAnyH P .any ops.pop (lastPost P ops Q m) S fuel listed.pop a w)\/((∀ k,k<=m->listed.getD k false = true)/\Q .normal a w))) hm ?_ ?_ ?_
 ·refine ⟨fun j hj=>?_,.inl ⟨?_,m,?_⟩⟩
  ·rw [Zub] at hj;cases hj
  ·rw [Array.getD_eq_getD_getElem?,Array.getElem?_eq_getElem (by simp [hsz])];simp
  ·have he:(Array.replicate ops.size false).pop = Array.replicate m false:=by rw [hsz];simp
   rw [he];exact h hS
 ·intro listed a w i hs hI hr
  obtain ⟨hc,hI⟩:=hI
  obtain ⟨hil,hiu⟩:=Zhd hr
  have hcs:Clo ops (listed.setIfInBounds i true):=fun j hj o ho e he hb=>by
   by_cases hji:j = i
   ·subst hji
    obtain ⟨-,o2,ho2,h4⟩:=mem_ready.1 hr
    rw [ho] at ho2;injection ho2 with ho2;subst ho2
    exact getD_set_true (h4 e he hb)
   ·rw [getD_set_ne false (Ne.symm hji)] at hj
    exact getD_set_true (hc j hj o ho e he hb)
  rcases hI with ⟨hmu,fuel,hW⟩ | ⟨hal,-⟩
  ·by_cases him:i = m
   ·subst him
    have hk:=hall listed hc hr
    have hno:Region.ready .any ops.pop listed.pop = []:=by
     rw [List.eq_nil_iff_forall_not_mem]
     intro k hk2
     obtain ⟨hk3,hk4⟩:=Zhd hk2
     have hki:k < i:=by simp [hsz] at hk3;omega
     rw [Zkh (by omega) hki] at hk4
     have h5:=hk k hki
     simp only [Array.getD_eq_getD_getElem?] at hk4 h5
     rw [Array.getElem?_eq_getElem (show k < listed.size by omega)] at hk4 h5
     simp at hk4 h5
     rw [hk4] at h5;cases h5
    have hq:lastPost P ops Q i .normal a w:=by
     cases fuel with
     | zero=>exact hW.2
     | succ n=>exact hW.1 hno
    refine wpOp_mono (fun a' w' h'=>⟨hcs,.inr ⟨fun k hk2=>?_,h'⟩⟩) hq
    by_cases hki:k = i
    ·subst hki;exact (Zud (by omega)).2 (.inl rfl)
    ·exact getD_set_true (hk k (by omega))
   ·have hlt:i < m:=by omega
    obtain ⟨o,ho,hg,haf⟩:=hop i (by omega)
    have hrp:i∈Region.ready .any ops.pop listed.pop:=by
     obtain ⟨-,o2,ho2,h4⟩:=mem_ready.1 hr
     rw [ho] at ho2;injection ho2 with ho2;subst ho2
     refine mem_ready.2 ⟨by rw [Zkh (by omega) hlt];exact hiu,o,by rw [hpop i hlt];exact ho,fun e he hb=>?_⟩
     rw [Zkh (m:=m) (k:=e.on) (by omega) (by have:=haf e he;omega)]
     exact h4 e he hb
    cases fuel with
    | zero=>have:=hW.1;rw [this] at hrp;cases hrp
    | succ n=>
     refine wpOp_mono (fun a' w' h'=>⟨hcs,.inl ⟨?_,n,?_⟩⟩) (Zti ho ((hpop i hlt).trans ho) hg (hW.2 i hrp))
     ·rw [getD_set_ne true him];exact hmu
     ·have he:(listed.setIfInBounds i true).pop = listed.pop.setIfInBounds i true:=by
       apply Array.ext (by simp)
       intro k h1 h2
       have hk1:k < listed.size:=by simp at h1;omega
       rw [Array.getElem_pop,Array.getElem_setIfInBounds hk1,Array.getElem_setIfInBounds (by simp at h1 ⊢;omega),Array.getElem_pop]
      rw [he];exact h'.2
  ·have:=hal i (by omega)
   exfalso
   simp only [Array.getD_eq_getD_getElem?] at this hiu
   rw [Array.getElem?_eq_getElem (show i < listed.size by omega)] at this hiu
   simp at this hiu
   rw [hiu] at this;cases this
 ·intro listed a w hs hI hr
  obtain ⟨hc,hI⟩:=hI
  rcases hI with ⟨hmu,-⟩ | ⟨-,hq⟩
  ·exfalso
   have:=Zrv hr hs (by
    rw [List.all_eq_true]
    intro i hi
    obtain ⟨o,ho,-,haf⟩:=hop i (by simp [hsz] at hi;omega)
    rw [Array.getElem?_toList,ho]
    simp only [Option.map_some,Option.getD_some,List.all_eq_true]
    intro e he
    exact decide_eq_true (haf e (by simpa using he))) m (by omega)
   simp only [Array.getD_eq_getD_getElem?] at this hmu
   rw [Array.getElem?_eq_getElem (show m < listed.size by omega)] at this hmu
   simp at this hmu
   rw [hmu] at this;cases this
  ·exact hq
theorem Zhg {m:Nat} {o:Oper} {a:Act} {w:World} (ho:ops[m]? = some o) (hg:o.guard = none) (h:∀ K':Act->World->Prop,(∀ a w,Q .normal a w->K' a w)->Oper.wp P o a w K' Q):lastPost P ops Q m .normal a w:=
 (Zrk ho hg h:wpOp P ops Q m (fun a' w'=>Q .normal a' w') a w)
theorem tkL {md:Region.Mode} {oi:Oper} {v:Value} {fuel:Nat} {listed:Array Bool} {a:Act} {w:World} (i:Nat) (hy:∀ w,S w->(execOp a.eval oi).run P w = .ok (.value v) w) (h:wpAnyH P md ops Q S fuel (listed.setIfInBounds i true) (a.put oi.dst v) w) (hi:ops[i]? = some oi:=by rfl)
  (hs:Region.noSelect ops = true:=by kernel_rfl) (hf:Region.free md ops listed i = true:=by kernel_rfl) (hr:(Region.ready md ops listed).contains i = true:=by kernel_rfl) (hQ:∀ c a w,Q (.panic c) (a.put oi.dst v) w->Q (.panic c) a w:=by exact fun _ _ _ h=>h)
  (hw:Region.wanted oi (yielded ops a.tmps) = true:=by rfl) (hS:S w:=by assumption):wpAnyH P md ops Q S (fuel + 1) listed a w:=wpAnyH_take hi hs hf hr hQ (.inl ⟨hw,hy⟩) hS h
end
end Go.Proofs.YthleokaeobdamaaGreat
