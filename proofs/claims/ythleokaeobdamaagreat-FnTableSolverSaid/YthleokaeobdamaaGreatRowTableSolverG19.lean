/- The reference's depth-first search with a limit: a node (law 52). -/
import Derived.Test.YthleokaeobdamaaGreatRowTableSolverG18
import Derived.Deep.DeepCutAuto
namespace Go.Proofs.YthleokaeobdamaaGreat
open Go.RowKit
set_option maxRecDepth 10000
def cont (r:Nat × Out) (g:Nat->Nat × Out):Nat × Out:=match r.2 with
 | none=>g r.1
 | some _=>r
theorem Zsc {r:Nat × Out} {g:Nat->Nat × Out} {o:Option (List Int)} (h:r.2 = some o):cont r g = r:=by unfold cont;rw [h]
theorem Zsw {r:Nat × Out} {g:Nat->Nat × Out} (h:r.2 = none):cont r g = g r.1:=by unfold cont;rw [h]
theorem Ztd (r:Nat × Out):cont r (fun c=>(c,none)) = r:=by
 rcases r with ⟨c,o⟩
 cases o <;> rfl
theorem Zsj {x:Puzzle} {rec:List Int->List Int->Nat->Nat × Out} {s w:List Int} {l:Int} {ls:List Int} {c:Nat} (h:l ≠ -(lastL w)):visL x rec s w (l :: ls) c = cont (rec (nxt x s l) (w ++ [l]) c) (visL x rec s w ls):=by
 rcases hq:rec (nxt x s l) (w ++ [l]) c with ⟨c',o⟩
 cases o with
 | none=>rw [visL_go h hq];rfl
 | some o=>rw [Zcf h hq];rfl
theorem Ztv {x:Puzzle} {rec:List Int->List Int->Nat->Nat × Out} {s w:List Int}:visL x rec s w [] = fun c=>(c,none):=rfl
theorem Zue {x:Puzzle} {ts:List Table} {D f:Nat} {s w:List Int} {c:Nat} (h:c = 20000):vis x ts D f s w c = (c,some none):=by
 cases f <;> (unfold vis visG;rw [if_pos h])
theorem Zsg {x:Puzzle} {ts:List Table} {D f:Nat} {s w:List Int} {c:Nat} (h:c ≠ 20000) (h2:(D:Int) < (w.length:Int) + lbMax ts s):vis x ts D f s w c = (c + 1,none):=by
 cases f <;> (unfold vis visG;rw [if_neg h,if_pos h2])
theorem Zpl {x:Puzzle} {ts:List Table} {D f:Nat} {s w:List Int} {c:Nat} (h:c ≠ 20000) (h2:¬ (D:Int) < (w.length:Int) + lbMax ts s) (h3:w.length = D):vis x ts D f s w c = (c + 1,if s = PM.pts x.points.toNat then some (some w) else none):=by
 cases f <;> (unfold vis visG;rw [if_neg h,if_neg h2,if_pos h3])
theorem Zui {x:Puzzle} {ts:List Table} {D f:Nat} {s w:List Int} {c:Nat} (h:c ≠ 20000) (h2:¬ (D:Int) < (w.length:Int) + lbMax ts s) (h3:w.length ≠ D):vis x ts D (f + 1) s w c = visL x (vis x ts D f) s w (lAft x (lastL w)) (c + 1):=by
 unfold vis visG
 rw [if_neg h,if_neg h2,if_neg h3]
 exact (Zgr _ _).symm
def VC (w:World) (B:Nat) (r:Nat × Out) (cs:List Value):Prop:=
 (r.2 = none/\cs = [.int .i64 r.1,.int .i64 0,.slice none 0 0,.bool false,.bool false]) \/
 (r.2 = some none/\cs = [.int .i64 r.1,.int .i64 0,.slice none 0 0,.bool true,.bool false]) \/
 (∃ u a c f,r.2 = some (some u)/\cs = [.int .i64 r.1,.int .i64 1,.slice a (List.length u) c,.bool false,.bool false]/\Rd w (.slice a (List.length u) c) u f/\∀ b∈f,B<=b)
theorem VC.only {w w':World} {B:Nat} {r:Nat × Out} {cs:List Value} {fp:List Nat} (h:VC w B r cs) (ho:Only fp w w') (hd:∀ b∈fp,b < B):VC w' B r cs:=by
 rcases h with h | h | ⟨u,a,c,f,h1,h2,h3,h4⟩
 ·exact .inl h
 ·exact .inr (.inl h)
 ·exact .inr (.inr ⟨u,a,c,f,h1,h2,Rp.only h3 ho (fun b hb hm=>by have:=h4 b hb;have:=hd b hm;omega),h4⟩)
theorem VC.mono {w:World} {B B':Nat} {r:Nat × Out} {cs:List Value} (h:VC w B r cs) (hB:B'<=B):VC w B' r cs:=by
 rcases h with h | h | ⟨u,a,c,f,h1,h2,h3,h4⟩
 ·exact .inl h
 ·exact .inr (.inl h)
 ·exact .inr (.inr ⟨u,a,c,f,h1,h2,h3,fun b hb=>by have:=h4 b hb;omega⟩)
theorem VC.six {w:World} {B:Nat} {r:Nat × Out} {cs:List Value} (h:VC w B r cs):∃ m a n c b,cs = [.int .i64 r.1,.int .i64 m,.slice a n c,.bool b,.bool false]/\(b || (decide ((0:Int) < m) && !false)) = r.2.isSome:=by
 rcases h with ⟨h1,rfl⟩ | ⟨h1,rfl⟩ | ⟨u,a,c,f,h1,rfl,-⟩
 ·exact ⟨_,_,_,_,_,rfl,by rw [h1];rfl⟩
 ·exact ⟨_,_,_,_,_,rfl,by rw [h1];rfl⟩
 ·exact ⟨_,_,_,_,_,rfl,by rw [h1];rfl⟩
theorem VC.zero {w:World} {B:Nat} {r:Nat × Out} {m:Int} {a:Option Addr} {n c:Nat} {b:Bool} (h:VC w B r [.int .i64 r.1,.int .i64 m,.slice a n c,.bool b,.bool false]) (h0:r.2 = none):m = 0/\a = none/\n = 0/\c = 0/\b = false:=by
 rcases h with ⟨h1,h2⟩ | ⟨h1,h2⟩ | ⟨u,a',c',f,h1,-⟩
 ·simp at h2;exact ⟨h2.1,h2.2.1.1,h2.2.1.2.1,h2.2.1.2.2,h2.2.2⟩
 ·rw [h0] at h1;cases h1
 ·rw [h0] at h1;cases h1
theorem Zsz {r:Nat × Out} {g:Nat->Nat × Out} (h:r.2.isSome = true):cont r g = r:=by
 obtain ⟨o,ho⟩:=Option.isSome_iff_exists.1 h
 exact Zsc ho
def VR (x:Puzzle) (ts:List Table) (D f:Nat) (s wd L:List Int) (c vB B:Nat) (w0:World) (j:Nat) (wr:World):Prop:=
 ∃ (r:Nat × Out) (cs:List Value),Blk wr vB cs/\VC wr B r cs/\r.1<=20000/\visL x (vis x ts D f) s wd L (c + 1) = cont r (visL x (vis x ts D f) s wd (L.drop j))/\Only [vB] w0 wr
theorem VR.step {x:Puzzle} {ts:List Table} {D f:Nat} {s wd L:List Int} {c vB B:Nat} {w0 W2 w8 wf:World} {j:Nat} {r:Nat × Out} {cs:List Value} {l:Int} {s' wd':List Int}
  (hj:j < L.length) (hf:visL x (vis x ts D f) s wd L (c + 1) = cont r (visL x (vis x ts D f) s wd (L.drop j))) (h0:r.2 = none) (hl:l = L[j]) (hne:l ≠ -(lastL wd)) (hs:s' = nxt x s l) (hw:wd' = wd ++ [l])
  (hO:Only [vB] w0 W2) (hT:Only [] W2 w8) (kf:Only [vB] w8 wf) (Y:Blk wf vB cs) (hv:VC w8 B (vis x ts D f s' wd' r.1) cs) (hr:r.1<=20000) (hB:vB < B):VR x ts D f s wd L c vB B w0 (j + 1) wf:=by
 refine ⟨vis x ts D f s' wd' r.1,cs,Y,hv.only kf (by intro b hb;simp at hb;omega),vis_rng _ _ _ _ hr,?_,(hO.trans (hT.weaken _)).trans kf⟩
 rw [hf,Zsw h0,List.drop_eq_getElem_cons hj,<- hl,Zsj hne,hs,hw]
theorem store5 {w1:World} {r:Nat} {o0 o1 o2 o3 o4:Value} (hR:Blk w1 r [o0,o1,o2,o3,o4]) (a b c d e:Value) :
  Blk (((((w1.setCell ⟨r,0,none⟩ a).setCell ⟨r,1,none⟩ b).setCell ⟨r,2,none⟩ c).setCell ⟨r,3,none⟩ d).setCell ⟨r,4,none⟩ e) r [a,b,c,d,e] /\
  Only [r] w1 (((((w1.setCell ⟨r,0,none⟩ a).setCell ⟨r,1,none⟩ b).setCell ⟨r,2,none⟩ c).setCell ⟨r,3,none⟩ d).setCell ⟨r,4,none⟩ e):=by
 refine ⟨?_,((((zO.setCell (by simp) _).setCell (by simp) _).setCell (by simp) _).setCell (by simp) _).setCell (by simp) _⟩
 exact ((((hR.set 0 a).set 1 b).set 2 c).set 3 d).set 4 e
theorem Zdc (n m:Int) (u:Value) (a b:Bool) (w:World) :
  Calls Tryz.prog 156 #[.agg #[.int .i64 n,.int .i64 m,u,.bool a,.bool b]] w fun e w'=>e = .returned (.bool (a || (decide ((0:Int) < m) && !b)))/\Only [] w w':=by
 by_cases hm:0 < m
 ·have hm2:decide (0 < m) = true:=decide_eq_true hm
  rw [hm2]
  cases a <;> (go_enter Tryz.func156,Tryz.ntmps156;go_wp2;go_ret;exact ⟨rfl,zA⟩)
 ·have hm2:decide (0 < m) = false:=decide_eq_false hm
  rw [hm2]
  cases a <;> (go_enter Tryz.func156,Tryz.ntmps156;go_wp2;go_ret;exact ⟨rfl,zA⟩)
def VNode (v2:Value) (x:Puzzle) (vt:Value) (ts:List Table) (D:Nat) (W0:World) (f:Nat):Prop:=
  ∀ (s wd:List Int) (c:Nat) (vs vw:Value) (fs fw:List Nat) (w:World),Only [] W0 w->Rd w vs s fs->Rd w vw wd fw->reachB x s = true->(∀ l∈wd,l∈ltrs x.moves.length)->wd.length + f = D->c<=20000 ->
  Calls Tryz.prog 213 #[.agg #[.int .i64 x.points,.string x.names,v2],vt,vs,vw,.int .i64 D,.agg #[.int .i64 c,.int .i64 0,.slice none 0 0,.bool false,.bool false]] w fun e w'=>(∃ cs,e = .returned (.agg (List.toArray cs))/\VC w' w.heap.size (vis x ts D f s wd c) cs)/\Only [] w w'
set_option maxHeartbeats 8000000 in
theorem Zgu (v2:Value) (x:Puzzle) (fp:List Nat) (vt:Value) (ts:List Table) (ft:List Nat) (D:Nat) (W0:World)
  (h:Rp.rep W0 [.int .i64 x.points,.string x.names,v2] x fp) (hv:Rd W0 vt ts ft) (hts:∀ t∈ts,validT x t = true) (hl:ts.length<=4) (hD:D<=30) (hx:validPz x = true)
  (f:Nat) (IH:∀ f',f = f' + 1->VNode v2 x vt ts D W0 f'):VNode v2 x vt ts D W0 f:=by
 intro s wd c vs vw fs fw w hW hs hw hr hlt hf hc
 obtain ⟨a1,c1,rfl,I1⟩:=hs.ints
 obtain ⟨a2,c2,rfl,I2⟩:=hw.ints
 obtain ⟨q1,q20,q8,-⟩:=Zad hx
 have hsl:s.length = x.points.toNat:=(Zam (Zax hr)).2.2.2.1
 have hrg:=Zam (Zax hr)
 have Hts:=zH hts
 have Hr:=zH hr
 have Hlt:=zH hlt
 have Hx:=zH hx
 have HIH:=zH IH
 have hb1:=I1.bound
 have hb2:=I2.bound
 have hwl:wd.length<=D:=by omega
 have Hf:=zH hf
 have Hsl:=zH hsl
 have Hrg:=zH hrg
 clear hts hr hlt hx IH hf hsl hrg
 have hlk:∀ W,Only [] w W->Calls Tryz.prog 97 #[vt,.slice a1 s.length c1] W fun e w'=>e = .returned (.int .i64 (lbMax ts s))/\Only [] W w':=fun W hh=>Zdt x vt ts ft _ s fs W (zK hv (hW.trans hh)) (zK hs hh) Hts.out Hr.out hl
 have Hlk:=zH hlk
 have hlb:0<=lbMax ts s/\lbMax ts s<=3000:=(Zbs (l:=lbs ts s) (m:=3000) (a:=0) (fun y hy=>by
   obtain ⟨t,ht,rfl⟩:=List.mem_map.1 hy
   exact Zcd (Hts.out t ht) Hr.out) (by omega))
 obtain ⟨B,hB⟩:∃ B,B = lbMax ts s:=⟨_,rfl⟩
 rw [<- hB] at hlb
 have HB:=zH hB
 obtain ⟨hlb0,hlb1⟩:=hlb
 clear hlk hB
 go_enter Tryz.func213,Tryz.ntmps213
 go_upto_region 1 with fail
 obtain ⟨w1,hw1⟩:∃ w1,w1 = ((w.alloc (.cells #[.int .i64 x.points,.string x.names,v2] 26)).alloc (.cells #[.int .i64 c,.int .i64 0,.slice none 0 0,.bool false,.bool false] 115)).alloc (.cells #[.int .i64 0,.int .i64 0,.slice none 0 0,.bool false,.bool false] 115):=⟨_,rfl⟩
 have P1:Blk w1 w.heap.size [.int .i64 x.points,.string x.names,v2]:=by rw [hw1];exact ((Blk.new w [.int .i64 x.points,.string x.names,v2] 26).keep ((Only.refl [] _).alloc _)).keep ((Only.refl [] _).alloc _)
 have V1:Blk w1 (w.heap.size + 1) [.int .i64 c,.int .i64 0,.slice none 0 0,.bool false,.bool false]:=by rw [hw1];exact (Blk.new_at (w:=w.alloc (.cells #[.int .i64 x.points,.string x.names,v2] 26)) (cs:=[.int .i64 c,.int .i64 0,.slice none 0 0,.bool false,.bool false]) (by simp)).keep ((Only.refl [] _).alloc _)
 have R1:Blk w1 (w.heap.size + 1 + 1) [.int .i64 0,.int .i64 0,.slice none 0 0,.bool false,.bool false]:=by rw [hw1];exact Blk.new_at (cs:=[.int .i64 0,.int .i64 0,.slice none 0 0,.bool false,.bool false]) (by simp)
 have K1:Only [] w w1:=by rw [hw1];exact (((Only.refl [] w).alloc _).alloc _).alloc _
 have hz1:w1.heap.size = w.heap.size + 3:=by rw [hw1];simp
 rw [<- hw1]
 clear hw1
 have y0:=V1.cell 0 rfl
 by_cases h20:c = 20000
 ·have Hn:=zH (Zue (x:=x) (ts:=ts) (D:=D) (f:=f) (s:=s) (w:=wd) h20)
  have cb:((c:Int) == 20000) = true:=by simp [h20]
  have HC:=zH h20
  clear h20
  have p3:=V1.frozen 3
  have y3:=V1.cell 3 rfl
  go_upto_region 3 with fail
  have V2:=V1.set 3 (.bool true)
  simp only [List.set] at V2
  have k2:Only [w.heap.size + 1] w1 (w1.setCell ⟨w.heap.size + 1,3,none⟩ (.bool true)):=zO.setCell (by simp) _
  have R2:=R1.only k2 (by simp)
  obtain ⟨w2,hw2⟩:∃ w2,w2 = w1.setCell ⟨w.heap.size + 1,3,none⟩ (.bool true):=⟨_,rfl⟩
  rw [<- hw2] at V2 R2 k2 ⊢
  clear hw2 y0 y3 p3 P1 V1 R1
  obtain ⟨y0,y1,y2,y3,y4⟩:=V2.c5
  obtain ⟨o0,o1,o2,o3,o4⟩:=R2.c5
  obtain ⟨p0,p1,p2,p3,p4⟩:=R2.f5
  obtain ⟨Yf,kf⟩:=store5 R2 (.int .i64 c) (.int .i64 0) (.slice none 0 0) (.bool true) (.bool false)
  go_wp2
  obtain ⟨wf,hwf⟩:∃ wf,wf = (((((w2.setCell ⟨w.heap.size + 1 + 1,0,none⟩ (.int .i64 c)).setCell ⟨w.heap.size + 1 + 1,1,none⟩ (.int .i64 0)).setCell ⟨w.heap.size + 1 + 1,2,none⟩ (.slice none 0 0)).setCell ⟨w.heap.size + 1 + 1,3,none⟩ (.bool true)).setCell ⟨w.heap.size + 1 + 1,4,none⟩ (.bool false)):=⟨_,rfl⟩
  rw [<- hwf] at Yf kf ⊢
  clear hwf y0 o0 p0 y1 o1 p1 y2 o2 p2 y3 o3 p3 y4 o4 p4
  obtain ⟨r0,r1,r2,r3,r4⟩:=Yf.c5
  exact bodyPost_ret (v:=.agg #[.int .i64 c,.int .i64 0,.slice none 0 0,.bool true,.bool false]) (by simp [results,Tryz.results213,go_sem,r0,r1,r2,r3,r4]) rfl ⟨⟨[.int .i64 c,.int .i64 0,.slice none 0 0,.bool true,.bool false],rfl,by rw [Hn.out];exact .inr (.inl ⟨rfl,rfl⟩)⟩,(K1.then_ k2 (by intro b hb hl;simp at hb;omega)).then_ kf (by intro b hb hl;simp at hb;omega)⟩
 have H20:=zH h20
 have cb:((c:Int) == 20000) = false:=by simp;omega
 have hc2:c + 1<=20000:=by omega
 have hcw:IntKind.i64.wrap ((c:Int) + 1) = ((c:Int) + 1):=by rw [IntKind.wrap_i64];omega
 have p0:=V1.frozen 0
 clear h20
 go_upto_region 5 with fail
 have V2:=V1.set 0 (.int .i64 ((c:Int) + 1))
 simp only [List.set] at V2
 have k2:Only [w.heap.size + 1] w1 (w1.setCell ⟨w.heap.size + 1,0,none⟩ (.int .i64 ((c:Int) + 1))):=zO.setCell (by simp) _
 have R2:=R1.only k2 (by simp)
 have P2:=P1.only k2 (by simp)
 have K2:Only [] w (w1.setCell ⟨w.heap.size + 1,0,none⟩ (.int .i64 ((c:Int) + 1))):=K1.then_ k2 (by intro b hb hl;simp at hb;omega)
 obtain ⟨w2,hw2⟩:∃ w2,w2 = w1.setCell ⟨w.heap.size + 1,0,none⟩ (.int .i64 ((c:Int) + 1)):=⟨_,rfl⟩
 have hz2:w2.heap.size = w.heap.size + 3:=by rw [hw2];simpa using hz1
 rw [<- hw2] at V2 R2 P2 K2 ⊢
 clear hw2 y0 p0 P1 V1 R1 k2 K1 hz1 w1
 have hws:IntKind.i64.wrap ((wd.length:Int) + B) = (wd.length:Int) + B:=by rw [IntKind.wrap_i64];omega
 by_cases hbd:(D:Int) < (wd.length:Int) + B
 ·have Hn:=zH (Zsg (x:=x) (ts:=ts) (D:=D) (f:=f) (s:=s) (w:=wd) H20.out (by rw [<- HB.out];exact hbd))
  go_upto_region 7 with ((go_at_call 97;(with_reducible refine (Hlk.out _ K2).mono ?_);rintro e w3 ⟨he,t3⟩;rw [<- HB.out] at he;subst he))
  have V3:=V2.keep t3
  have R3:=R2.keep t3
  have K3:=K2.trans t3
  have hs3:=t3.size
  clear V2 R2
  obtain ⟨y0,y1,y2,y3,y4⟩:=V3.c5
  obtain ⟨o0,o1,o2,o3,o4⟩:=R3.c5
  obtain ⟨p0,p1,p2,p3,p4⟩:=R3.f5
  obtain ⟨Yf,kf⟩:=store5 R3 (.int .i64 ((c:Int) + 1)) (.int .i64 0) (.slice none 0 0) (.bool false) (.bool false)
  go_wp2
  obtain ⟨wf,hwf⟩:∃ wf,wf = (((((w3.setCell ⟨w.heap.size + 1 + 1,0,none⟩ (.int .i64 ((c:Int) + 1))).setCell ⟨w.heap.size + 1 + 1,1,none⟩ (.int .i64 0)).setCell ⟨w.heap.size + 1 + 1,2,none⟩ (.slice none 0 0)).setCell ⟨w.heap.size + 1 + 1,3,none⟩ (.bool false)).setCell ⟨w.heap.size + 1 + 1,4,none⟩ (.bool false)):=⟨_,rfl⟩
  rw [<- hwf] at Yf kf ⊢
  clear hwf y0 o0 p0 y1 o1 p1 y2 o2 p2 y3 o3 p3 y4 o4 p4
  obtain ⟨r0,r1,r2,r3,r4⟩:=Yf.c5
  exact bodyPost_ret (v:=.agg #[.int .i64 ((c:Int) + 1),.int .i64 0,.slice none 0 0,.bool false,.bool false]) (by simp [results,Tryz.results213,go_sem,r0,r1,r2,r3,r4]) rfl ⟨⟨_,rfl,by rw [Hn.out];exact .inl ⟨rfl,rfl⟩⟩,K3.then_ kf (by intro b hb hl;simp at hb;omega)⟩
 have Hbd:=zH (show ¬ (D:Int) < (wd.length:Int) + lbMax ts s by rw [<- HB.out];exact hbd)
 have hpt:x.points = (x.points.toNat:Int):=by omega
 have Hid9:∀ W:World,Calls Tryz.prog 74 #[.int .i64 x.points] W fun e w'=>∃ v fp',e = .returned v/\Rd w' v (PM.pts x.points.toNat) fp'/\Fresh W.heap.size w' fp'/\Only [] W w':=fun W=>by
  have:=Zbn x.points.toNat W (by omega)
  rwa [<- hpt] at this
 have HI9:=zH Hid9
 clear Hid9
 have hVR:w.heap.size + 1 ≠ w.heap.size + 1 + 1:=by omega
 by_cases hleaf:wd.length = D
 ·subst hleaf
  have hPts:=zH hpt
  clear hpt
  go_upto_region 9 with ((go_at_call 97;(with_reducible refine (Hlk.out _ K2).mono ?_);rintro e w3 ⟨he,t3⟩;rw [<- HB.out] at he;subst he))
  have V3:=V2.keep t3
  have R3:=R2.keep t3
  have P3:=P2.keep t3
  have K3:=K2.trans t3
  have hz3:=t3.size
  have x0:=P3.cell 0 rfl
  clear P2 V2 R2 K2
  by_cases hsd:s = PM.pts x.points.toNat
  ·have Hn:=zH ((Zpl (x:=x) (ts:=ts) (D:=wd.length) (f:=f) (s:=s) (w:=wd) H20.out (by have:=Hbd.out;omega) rfl).trans (by rw [if_pos hsd]))
   have Hsd:=zH (show eqV s (PM.pts x.points.toNat) = true by rw [hsd];exact eqV_yes rfl)
   clear hsd
   go_upto_region 11 with (first
    | (go_at_call 74;(with_reducible refine (HI9.out _).mono ?_);rintro e w4 ⟨u4,f4,rfl,r4,F4,t4⟩)
    | (go_at_call 56;(with_reducible refine (Zar _ _ s _ _ _ w4 (zK hs (K3.trans t4)) r4).mono ?_);rintro e w5 ⟨he,d5⟩;rw [Hsd.out] at he;subst he;have t5:=d5.only [];have V5:=(V3.keep t4).keep t5;have y1:=V5.cell 1 rfl)
    | fail)
   have K5:=(K3.trans t4).trans t5
   have R5:=(R3.keep t4).keep t5
   have hz5:w.heap.size + 3<=w5.heap.size:=by have:=(t4.trans t5).size;omega
   clear x0 V3 R3 P3
   go_upto_region 12 with ((go_at_call 100;(with_reducible refine (Zbc _ wd _ _ (zK hw K5) (by omega)).mono ?_);rintro e w6 ⟨u6,f6,rfl,r6,F6,t6⟩;obtain ⟨a6,c6,rfl,I6⟩:=r6.ints;have V6:=V5.keep t6;have y2:=V6.cell 2 rfl;have p2:=V6.frozen 2))
   have R6:=R5.keep t6
   have K6:=K5.trans t6
   have hz6:=t6.size
   have V7:=V6.set 2 (.slice a6 wd.length c6)
   simp only [List.set] at V7
   have k7:Only [w.heap.size + 1] w6 (w6.setCell ⟨w.heap.size + 1,2,none⟩ (.slice a6 wd.length c6)):=zO.setCell (by simp) _
   obtain ⟨w7,hw7⟩:∃ w7,w7 = w6.setCell ⟨w.heap.size + 1,2,none⟩ (.slice a6 wd.length c6):=⟨_,rfl⟩
   rw [<- hw7] at V7 k7 ⊢
   have R7:=R6.only k7 (by simp)
   clear hw7 y1 y2 p2 V5 V6 R5 R6
   have y1:=V7.cell 1 rfl
   have p1:=V7.frozen 1
   go_upto_region 13 with fail
   have V8:=V7.set 1 (.int .i64 1)
   simp only [List.set] at V8
   have k8:Only [w.heap.size + 1] w7 (w7.setCell ⟨w.heap.size + 1,1,none⟩ (.int .i64 1)):=zO.setCell (by simp) _
   obtain ⟨w8,hw8⟩:∃ w8,w8 = w7.setCell ⟨w.heap.size + 1,1,none⟩ (.int .i64 1):=⟨_,rfl⟩
   rw [<- hw8] at V8 k8 ⊢
   have R8:=R7.only k8 (by simp)
   clear hw8 y1 p1 V7 R7
   obtain ⟨y0,y1,y2,y3,y4⟩:=V8.c5
   obtain ⟨o0,o1,o2,o3,o4⟩:=R8.c5
   obtain ⟨p0,p1,p2,p3,p4⟩:=R8.f5
   obtain ⟨Yf,kf⟩:=store5 R8 (.int .i64 ((c:Int) + 1)) (.int .i64 1) (.slice a6 wd.length c6) (.bool false) (.bool false)
   go_wp2
   obtain ⟨wf,hwf⟩:∃ wf,wf = (((((w8.setCell ⟨w.heap.size + 1 + 1,0,none⟩ (.int .i64 ((c:Int) + 1))).setCell ⟨w.heap.size + 1 + 1,1,none⟩ (.int .i64 1)).setCell ⟨w.heap.size + 1 + 1,2,none⟩ (.slice a6 wd.length c6)).setCell ⟨w.heap.size + 1 + 1,3,none⟩ (.bool false)).setCell ⟨w.heap.size + 1 + 1,4,none⟩ (.bool false)):=⟨_,rfl⟩
   rw [<- hwf] at Yf kf ⊢
   clear hwf y0 o0 p0 y1 o1 p1 y2 o2 p2 y3 o3 p3 y4 o4 p4
   obtain ⟨r0,r1,r2,r3,r4⟩:=Yf.c5
   have hg6:=F6.ge
   have If:=((I6.only k7 (fun b hb hm=>by have:=hg6 b hb;simp at hm;omega)).only k8 (fun b hb hm=>by have:=hg6 b hb;simp at hm;omega)).only kf (fun b hb hm=>by have:=hg6 b hb;simp at hm;omega)
   exact bodyPost_ret (v:=.agg #[.int .i64 ((c:Int) + 1),.int .i64 1,.slice a6 wd.length c6,.bool false,.bool false]) (by simp [results,Tryz.results213,go_sem,r0,r1,r2,r3,r4]) rfl ⟨⟨_,rfl,by rw [Hn.out];exact .inr (.inr ⟨wd,a6,c6,f6,rfl,rfl,If.rd,fun b hb=>by have:=hg6 b hb;omega⟩)⟩,((K6.then_ k7 (by intro b hb hl;simp at hb;omega)).then_ k8 (by intro b hb hl;simp at hb;omega)).then_ kf (by intro b hb hl;simp at hb;omega)⟩
  ·have Hn:=zH ((Zpl (x:=x) (ts:=ts) (D:=wd.length) (f:=f) (s:=s) (w:=wd) H20.out (by have:=Hbd.out;omega) rfl).trans (by rw [if_neg hsd]))
   have Hsd:=zH (show eqV s (PM.pts x.points.toNat) = false from eqV_no hsd)
   clear hsd
   go_upto_region 13 with (first
    | (go_at_call 74;(with_reducible refine (HI9.out _).mono ?_);rintro e w4 ⟨u4,f4,rfl,r4,F4,t4⟩)
    | (go_at_call 56;(with_reducible refine (Zar _ _ s _ _ _ w4 (zK hs (K3.trans t4)) r4).mono ?_);rintro e w5 ⟨he,d5⟩;rw [Hsd.out] at he;subst he;have t5:=d5.only [])
    | fail)
   have V8:=(V3.keep t4).keep t5
   have R8:=(R3.keep t4).keep t5
   have K8:=(K3.trans t4).trans t5
   clear x0 V3 R3 P3
   obtain ⟨y0,y1,y2,y3,y4⟩:=V8.c5
   obtain ⟨o0,o1,o2,o3,o4⟩:=R8.c5
   obtain ⟨p0,p1,p2,p3,p4⟩:=R8.f5
   obtain ⟨Yf,kf⟩:=store5 R8 (.int .i64 ((c:Int) + 1)) (.int .i64 0) (.slice none 0 0) (.bool false) (.bool false)
   go_wp2
   obtain ⟨wf,hwf⟩:∃ wf,wf = (((((w5.setCell ⟨w.heap.size + 1 + 1,0,none⟩ (.int .i64 ((c:Int) + 1))).setCell ⟨w.heap.size + 1 + 1,1,none⟩ (.int .i64 0)).setCell ⟨w.heap.size + 1 + 1,2,none⟩ (.slice none 0 0)).setCell ⟨w.heap.size + 1 + 1,3,none⟩ (.bool false)).setCell ⟨w.heap.size + 1 + 1,4,none⟩ (.bool false)):=⟨_,rfl⟩
   rw [<- hwf] at Yf kf ⊢
   clear hwf y0 o0 p0 y1 o1 p1 y2 o2 p2 y3 o3 p3 y4 o4 p4
   obtain ⟨r0,r1,r2,r3,r4⟩:=Yf.c5
   exact bodyPost_ret (v:=.agg #[.int .i64 ((c:Int) + 1),.int .i64 0,.slice none 0 0,.bool false,.bool false]) (by simp [results,Tryz.results213,go_sem,r0,r1,r2,r3,r4]) rfl ⟨⟨_,rfl,by rw [Hn.out];exact .inl ⟨rfl,rfl⟩⟩,K8.then_ kf (by intro b hb hl;simp at hb;omega)⟩
 obtain ⟨f',rfl⟩:∃ f',f = f' + 1:=⟨f - 1,by have:=Hf.out;omega⟩
 have Hn:=zH (Zui (x:=x) (ts:=ts) (D:=D) (f:=f') (s:=s) (w:=wd) H20.out Hbd.out hleaf)
 have hih:=HIH.out f' rfl
 unfold VNode at hih
 have HIHf:=zH hih
 clear hih
 have hf2:wd.length + f' + 1 = D:=by have:=Hf.out;omega
 have Hf2:=zH hf2
 have hlast:-1000<=lastL wd/\lastL wd<=1000:=by
  by_cases h0:wd.length = 0
  ·rw [Zfz h0];omega
  ·obtain ⟨k,hk⟩:∃ k,k + 1 = wd.length:=⟨wd.length - 1,by omega⟩
   rw [Zgh hk]
   have:=Zaw.1 (Hlt.out wd[k] (List.getElem_mem (by omega)))
   omega
 obtain ⟨hla0,hla1⟩:=hlast
 clear HIH hpt HI9 hf2
 go_upto_region 14 with ((go_at_call 97;(with_reducible refine (Hlk.out _ K2).mono ?_);rintro e w3 ⟨he,t3⟩;rw [<- HB.out] at he;subst he))
 have V3:=V2.keep t3
 have R3:=R2.keep t3
 have P3:=P2.keep t3
 have K3:=K2.trans t3
 have hz3:w.heap.size + 3<=w3.heap.size:=by have:=t3.size;omega
 clear P2 V2 R2 K2 t3 Hlk hws hbd hlb0 hlb1 HB
 go_upto_region 15 with fail
 obtain ⟨bg,hbg⟩:∃ bg,bg = decide (0 < wd.length):=⟨_,rfl⟩
 have Hbg:=zH hbg
 go_cut [56] (fun s56 wx=>s56 = .bool bg/\Only [] w3 wx)
 case first=>
  clear hbg
  go_wp2_with fail
  go_meet
  exact ⟨by rw [Hbg.out],Only.refl _ _⟩
 case rest=>
 obtain ⟨rfl,hk2⟩:=hcut
 clear hbg
 obtain ⟨w2',hnew⟩:∃ W,W = wc:=⟨_,rfl⟩
 subst hnew
 refine (show ∀ a w,Code.wp Tryz.prog _ _ a w->_ from by assumption) _ _ ?_
 go_cut [14] (fun s14 wx=>s14 = .int .i64 (lastL wd)/\Only [] w3 wx)
 case first=>
  rcases bg with _ | _
  ·have h0:wd.length = 0:=by have:=of_decide_eq_false Hbg.out.symm;omega
   have Hl0:=zH (Zfz h0)
   clear h0
   go_wp2_with fail
   go_meet
   exact ⟨by rw [Hl0.out],hk2⟩
  ·have h0:0 < wd.length:=of_decide_eq_true Hbg.out.symm
   obtain ⟨k,hk⟩:∃ k,k + 1 = wd.length:=⟨wd.length - 1,by omega⟩
   have hkl:k < wd.length:=by omega
   have Hl0:=zH (show lastL wd = wd[k]'hkl from Zgh hk)
   obtain ⟨b,off,rfl,-,hcw⟩:=(I2.keep (K3.trans hk2)).at_ k hkl
   have hwk:IntKind.i64.wrap ((wd.length:Int) - 1) = (k:Int):=by rw [IntKind.wrap_i64];omega
   have hkk:(wd.length:Int) - 1 = (k:Int):=by omega
   clear h0 hk
   go_wp2_with fail
   go_meet
   exact ⟨by rw [Hl0.out],hk2⟩
 case rest=>
  obtain ⟨rfl,hk3⟩:=hcut
  obtain ⟨w4,hnew⟩:∃ W,W = wc:=⟨_,rfl⟩
  subst hnew
  have P4:=P3.keep hk3
  have V4:=V3.keep hk3
  have R4:=R3.keep hk3
  have K4:=K3.trans hk3
  have hz4:w.heap.size + 3<=w4.heap.size:=Nat.le_trans hz3 hk3.size
  obtain ⟨x0,x1,x2⟩:=P4.c3
  clear P3 V3 R3 K3 hk3 hk2 hz3 w3
  refine (show ∀ a w,Code.wp Tryz.prog _ _ a w->_ from by assumption) _ _ ?_
  go_upto_region 18 with ((go_at_call 236;(with_reducible refine (Zjs [.int .i64 x.points,.string x.names,v2] x _ (lastL wd) _ (zK h (hW.trans K4)) (by omega) hla0 hla1).mono ?_);rintro e w9 ⟨uL,fL,rfl,rL,FL,t9⟩;obtain ⟨aL,cL,rfl,IL⟩:=rL.ints))
  have P9:=P4.keep t9
  have V9:=V4.keep t9
  have R9:=R4.keep t9
  have K9:=K4.trans t9
  have hz9:w.heap.size + 3<=w9.heap.size:=Nat.le_trans hz4 t9.size
  have FLb:∀ b∈fL,w.heap.size + 3<=b:=fun b hb=>Nat.le_trans hz4 (FL.ge b hb)
  obtain ⟨L,hL⟩:∃ L,L = lAft x (lastL wd):=⟨_,rfl⟩
  have HmL:=zH (show ∀ l∈L,l∈ltrs x.moves.length/\l ≠ -(lastL wd) by rw [hL];exact fun l hl=>Zuh.1 hl)
  have Hn:=zH (show vis x ts D (f' + 1) s wd c = visL x (vis x ts D f') s wd L (c + 1) by rw [hL];exact Hn.out)
  rw [<- hL] at IL ⊢
  clear hL rL x0 x1 x2 P4 V4 R4 K4 t9 FL hz4 w4
  have hbL:=IL.bound
  obtain ⟨i0,hi,hz0,hz1,hz2⟩:=info_parts Tryz.info2
  go_upto_region 19 with fail
  go_loopw [16] (fun i wr=>∃ j:Nat,j<=L.length/\i = .int .i64 j/\VR x ts D f' s wd L c (w.heap.size + 1) (w.heap.size + 3) w9 j wr)
   (fun i _=>L.length - (intOf i).toNat)
  case atStart=>exact ⟨0,Nat.zero_le _,rfl,(c + 1,none),_,V9,.inl ⟨rfl,rfl⟩,hc2,rfl,Only.refl _ _⟩
  case round=>
   obtain ⟨W2,hnew⟩:∃ W,W = wr:=⟨_,rfl⟩
   subst hnew
   obtain ⟨j,hj,rfl,r,cs5,VW,hvc,hr1,hfold,hO⟩:=hrel
   have HVC:=zH hvc
   obtain ⟨m5,a5,n5,c5,b5,rfl,hdone⟩:=hvc.six
   have Hfold:=zH hfold
   have Hdone:=zH hdone
   have K2:Only [] w W2:=K9.then_ hO (by intro b hb hl;simp at hb;omega)
   have hzw:=hO.size
   have R2:=R9.only hO (by simp)
   obtain ⟨y0,y1,y2,y3,y4⟩:=VW.c5
   have Hr1:=zH hr1
   clear hvc hfold hdone hr1
   by_cases hlt:j < L.length
   ·rcases hrs:r.2.isSome with _ | _
    ·have Hd:=zH (Hdone.out.trans hrs)
     have hrn:r.2 = none:=by simpa using hrs
     obtain ⟨rfl,rfl,rfl,rfl,rfl⟩:m5 = 0/\a5 = none/\n5 = 0/\c5 = 0/\b5 = false:=HVC.out.zero hrn
     have Hrn:=zH hrn
     clear hrs hrn
     obtain ⟨bl,ol,rfl,hfl,hcl0⟩:=IL.at_ j hlt
     have hcl:=hO.cell (by have:=FLb bl (by rw [hfl];simp);simp;omega) hcl0
     obtain ⟨l,hl⟩:∃ l,l = L[j]:=⟨_,rfl⟩
     rw [<- hl] at hcl
     have hlm:=HmL.out l (by rw [hl];exact List.getElem_mem hlt)
     have Hl2:=zH hlm.1
     have Hne:=zH hlm.2
     have Hle:=zH hl
     have hlI:I64 l:=ltr_i64 (n:=x.moves.length) (by omega) hlm.1
     have HlI:=zH hlI
     obtain ⟨s',hs'⟩:∃ s',s' = nxt x s l:=⟨_,rfl⟩
     obtain ⟨wd',hwd'⟩:∃ wd',wd' = wd ++ [l]:=⟨_,rfl⟩
     have Hwd:=zH hwd'
     have Hss:=zH hs'
     have Hre:=zH (show reachB x s' = true by rw [hs'];exact Zfq Hr.out hlm.1)
     have Hal:=zH (show ∀ y∈wd',y∈ltrs x.moves.length by
      rw [hwd'];intro y hy
      rcases List.mem_append.1 hy with hy | hy
      ·exact Hlt.out y hy
      ·simp at hy;subst hy;exact hlm.1)
     have Hlf:=zH (show wd'.length + f' = D by rw [hwd',List.length_append];have:=Hf2.out;simp;omega)
     have Hsr:=zH (show ∀ y∈s,0<=y/\y < x.points by
      intro y hy
      have:=Hrg.out.2.2.2.2.1 y hy
      have h5:=Hsl.out
      omega)
     have Hs1:=zH (show s.length<=1000 by have:=Hsl.out;omega)
     have hwd1:wd.length<=1073741824:=by omega
     have hwd2:wd.length + 1<=1073741824:=by omega
     clear hl hlm hlI hs' hwd' hcl0 hfl
     go_upto_region 21 with (first
      | (go_at_call 156;(with_reducible refine (Zdc (r.1:Int) 0 (.slice none 0 0) false false _).mono ?_);rintro e w4 ⟨he,t4⟩;rw [Hd.out] at he;subst he)
      | fail)
     have hO4:=hO.keepThen t4
     have VW4:=VW.keep t4
     have K4:=K2.trans t4
     have hzw4:=hO4.size
     have P4:=P9.only hO4 (by simp)
     have hcl:=t4.cell (by simp) hcl
     clear y0 y1 y2 y3 y4 VW R2 hO K2 hzw
     obtain ⟨x0,x1,x2⟩:=P4.c3
     obtain ⟨y0,y1,y2,y3,y4⟩:=VW4.c5
     have hW4:=hW.trans K4
     have hp4:=zK h hW4
     have hs4:=zK hs K4
     have hw4:=zK hw K4
     clear HVC Hdone
     refine Zlq (S:=fun w'=>Only [] w4 w'/\w'.cell? ⟨w.heap.size,0,none⟩ = some (.int .i64 x.points)/\w'.cell? ⟨w.heap.size,1,none⟩ = some (.string x.names)/\w'.cell? ⟨w.heap.size,2,none⟩ = some (v2)/\w'.cell? ⟨bl,ol + j,none⟩ = some (.int .i64 l)/\w'.cell? ⟨w.heap.size + 1,0,none⟩ = some (.int .i64 (r.1:Int))/\w'.cell? ⟨w.heap.size + 1,1,none⟩ = some (.int .i64 0)/\w'.cell? ⟨w.heap.size + 1,2,none⟩ = some (.slice none 0 0)/\w'.cell? ⟨w.heap.size + 1,3,none⟩ = some (.bool false)/\w'.cell? ⟨w.heap.size + 1,4,none⟩ = some (.bool false)) 20 (by kernel_rfl) rfl (by kernel_rfl) (and_of (Only.refl [] w4).drew (fun q_=>⟨q_.ce x0,q_.ce x1,q_.ce x2,q_.ce hcl,q_.ce y0,q_.ce y1,q_.ce y2,q_.ce y3,q_.ce y4⟩)) (fun hHeld=>?_)
     simp only [List.pop_toArray,List.dropLast_cons_cons,List.dropLast_singleton]
     refine tkL (v:=?v1) 0 ?h1 ?r1;(case h1=>(intro w__ hSw;(try dsimp only at hSw);go_simp;try with_reducible rfl));(try simp only [Act.put,List.getElem_toArray,List.getElem_cons_succ,List.getElem_cons_zero,List.setIfInBounds_toArray,List.set_cons_zero,List.set_cons_succ])
     refine tkL (v:=?v2) 1 ?h2 ?r2;(case h2=>(intro w__ hSw;(try dsimp only at hSw);go_simp;try with_reducible rfl));(try simp only [Act.put,List.getElem_toArray,List.getElem_cons_succ,List.getElem_cons_zero,List.setIfInBounds_toArray,List.set_cons_zero,List.set_cons_succ])
     refine tkL (v:=?v3) 2 ?h3 ?r3;(case h3=>(intro w__ hSw;(try dsimp only at hSw);go_simp;try with_reducible rfl));(try simp only [Act.put,List.getElem_toArray,List.getElem_cons_succ,List.getElem_cons_zero,List.setIfInBounds_toArray,List.set_cons_zero,List.set_cons_succ])
     refine tkL (v:=?v4) 3 ?h4 ?r4;(case h4=>(intro w__ hSw;(try dsimp only at hSw);go_simp;try with_reducible rfl));(try simp only [Act.put,List.getElem_toArray,List.getElem_cons_succ,List.getElem_cons_zero,List.setIfInBounds_toArray,List.set_cons_zero,List.set_cons_succ])
     refine tkL (v:=?v5) 4 ?h5 ?r5;(case h5=>(intro w__ hSw;(try dsimp only at hSw);go_simp;try with_reducible rfl));(try simp only [Act.put,List.getElem_toArray,List.getElem_cons_succ,List.getElem_cons_zero,List.setIfInBounds_toArray,List.set_cons_zero,List.set_cons_succ])
     refine tkL (v:=?v6) 5 ?h6 ?r6;(case h6=>(intro w__ hSw;(try dsimp only at hSw);go_simp;try with_reducible rfl));(try simp only [Act.put,List.getElem_toArray,List.getElem_cons_succ,List.getElem_cons_zero,List.setIfInBounds_toArray,List.set_cons_zero,List.set_cons_succ])
     refine tkL (v:=?v7) 6 ?h7 ?r7;(case h7=>(intro w__ hSw;(try dsimp only at hSw);go_simp;try with_reducible rfl));(try simp only [Act.put,List.getElem_toArray,List.getElem_cons_succ,List.getElem_cons_zero,List.setIfInBounds_toArray,List.set_cons_zero,List.set_cons_succ])
     refine tkL (v:=?v8) 7 ?h8 ?r8;(case h8=>(intro w__ hSw;(try dsimp only at hSw);go_simp;try with_reducible rfl));(try simp only [Act.put,List.getElem_toArray,List.getElem_cons_succ,List.getElem_cons_zero,List.setIfInBounds_toArray,List.set_cons_zero,List.set_cons_succ])
     refine tkL (v:=?v9) 9 ?h9 ?r9;(case h9=>(intro w__ hSw;(try dsimp only at hSw);go_simp;try with_reducible rfl));(try simp only [Act.put,List.getElem_toArray,List.getElem_cons_succ,List.getElem_cons_zero,List.setIfInBounds_toArray,List.set_cons_zero,List.set_cons_succ])
     refine tkL (v:=?v10) 11 ?h10 ?r10;(case h10=>(intro w__ hSw;(try dsimp only at hSw);go_simp;try with_reducible rfl));(try simp only [Act.put,List.getElem_toArray,List.getElem_cons_succ,List.getElem_cons_zero,List.setIfInBounds_toArray,List.set_cons_zero,List.set_cons_succ])
     refine tkL (v:=?v11) 12 ?h11 ?r11;(case h11=>(intro w__ hSw;(try dsimp only at hSw);go_simp;try with_reducible rfl));(try simp only [Act.put,List.getElem_toArray,List.getElem_cons_succ,List.getElem_cons_zero,List.setIfInBounds_toArray,List.set_cons_zero,List.set_cons_succ])
     refine tkL (v:=?v12) 13 ?h12 ?r12;(case h12=>(intro w__ hSw;(try dsimp only at hSw);go_simp;try with_reducible rfl));(try simp only [Act.put,List.getElem_toArray,List.getElem_cons_succ,List.getElem_cons_zero,List.setIfInBounds_toArray,List.set_cons_zero,List.set_cons_succ])
     refine tkL (v:=?v13) 14 ?h13 ?r13;(case h13=>(intro w__ hSw;(try dsimp only at hSw);go_simp;try with_reducible rfl));(try simp only [Act.put,List.getElem_toArray,List.getElem_cons_succ,List.getElem_cons_zero,List.setIfInBounds_toArray,List.set_cons_zero,List.set_cons_succ])
     refine tkL (v:=?v14) 17 ?h14 ?r14;(case h14=>(intro w__ hSw;(try dsimp only at hSw);go_simp;try with_reducible rfl));(try simp only [Act.put,List.getElem_toArray,List.getElem_cons_succ,List.getElem_cons_zero,List.setIfInBounds_toArray,List.set_cons_zero,List.set_cons_succ])
     refine tkL (v:=?v15) 18 ?h15 ?r15;(case h15=>(intro w__ hSw;(try dsimp only at hSw);go_simp;try with_reducible rfl));(try simp only [Act.put,List.getElem_toArray,List.getElem_cons_succ,List.getElem_cons_zero,List.setIfInBounds_toArray,List.set_cons_zero,List.set_cons_succ])
     refine wpAnyH_ready (rs:=[8,15]) (by kernel_rfl) (by simp) ?_
     refine AllReadyH.cons rfl (fun K hK=>?_) (AllReadyH.cons rfl (fun K hK=>?_) AllReadyH.nil)
     ·go_simp
      (go_at_call 184;(with_reducible refine (Zdx [.int .i64 x.points,.string x.names,v2] x _ _ s _ l _ (zK hp4 ((Only.refl [] w4).drew)) (zK hs4 ((Only.refl [] w4).drew)) Hx.out Hl2.out Hsr.out Hs1.out).mono ?_);rintro e w5 ⟨u5,f5,rfl,r5,F5,t5⟩)
      go_wp2_with fail
      have hz5:=t5.size
      (try simp at hz5)
      refine hK.out _ _ ?hS16 (fun hHeld=>?rest16)
      case hS16=>exact and_of (((Only.refl [] w4).drew).trans t5) (fun q_=>⟨q_.ce x0,q_.ce x1,q_.ce x2,q_.ce hcl,q_.ce y0,q_.ce y1,q_.ce y2,q_.ce y3,q_.ce y4⟩)
      clear hK K
      (try simp only [Act.put,List.getElem_toArray,List.getElem_cons_succ,List.getElem_cons_zero,List.setIfInBounds_toArray,List.set_cons_zero,List.set_cons_succ])
      refine wpAnyH_ready (rs:=[10,15]) (by kernel_rfl) (by simp) ?_
      refine AllReadyH.cons rfl (fun K hK=>?_) (AllReadyH.cons rfl (fun K hK=>?_) AllReadyH.nil)
      ·go_simp
       (go_at_call 100;(with_reducible refine (Zfh _ wd _ _ (zK hw4 (((Only.refl [] w4).drew).trans t5)) hwd1).mono ?_);rintro e w6 ⟨u6,fs6,rfl,A6,hf6,t6⟩)
       obtain ⟨a6,c6,rfl⟩:=A6.form
       go_wp2_with fail
       have hz6:=t6.size
       (try simp at hz6)
       have A6:AccI _ 2 w6 _ wd:=⟨fs6,A6⟩
       refine hK.out _ _ ?hS17 (fun hHeld=>?rest17)
       case hS17=>exact and_of ((((Only.refl [] w4).drew).trans t5).trans t6) (fun q_=>⟨q_.ce x0,q_.ce x1,q_.ce x2,q_.ce hcl,q_.ce y0,q_.ce y1,q_.ce y2,q_.ce y3,q_.ce y4⟩)
       clear hK K
       (try simp only [Act.put,List.getElem_toArray,List.getElem_cons_succ,List.getElem_cons_zero,List.setIfInBounds_toArray,List.set_cons_zero,List.set_cons_succ])
       refine wpAnyH_ready (rs:=[15]) (by kernel_rfl) (by simp) ?_
       refine AllReadyH.cons rfl (fun K hK=>?_) AllReadyH.nil
       go_simp
       refine hK.out _ _ ?hS18 (fun hHeld=>?rest18)
       case hS18=>exact and_of (((((Only.refl [] w4).drew).trans t5).trans t6).alloc (.cells #[.int .i64 l] 2)) (fun q_=>⟨q_.ce x0,q_.ce x1,q_.ce x2,q_.ce hcl,q_.ce y0,q_.ce y1,q_.ce y2,q_.ce y3,q_.ce y4⟩)
       clear hK K
       (try simp only [Act.put,List.getElem_toArray,List.getElem_cons_succ,List.getElem_cons_zero,List.setIfInBounds_toArray,List.set_cons_zero,List.set_cons_succ])
       refine wpAnyH_ready (rs:=[16]) (by kernel_rfl) (by simp) ?_
       refine AllReadyH.cons rfl (fun K hK=>?_) AllReadyH.nil
       refine Zey rfl _ _ 27 rfl _ 2 i0 _ Tryz.underlying27 hi hz0 hz1 hz2 rfl w6 (.slice a6 wd.length c6) wd rfl A6 ((Only.refl [] w6).alloc _) (by first | omega | (simp;omega)) _ 1 l rfl (lit1 w6 _ _ rfl) HlI.out hwd2 ?_
       intro v7 w7 hA7 hO7 hN7
       rw [<- Hwd.out] at hA7
       obtain ⟨a7,c7,rfl⟩:=hA7.form
       have T7:Only [] w4 w7:=(((((Only.refl [] w4).drew).trans t5).trans t6).alloc (.cells #[.int .i64 l] 2)).then_ hO7 (fun b hb hl=>by have:=(A6.ownlt b (by simpa using hb)).1;first | omega | (simp at this;omega))
       have hz7:=T7.size
       rw [<- Hss.out] at r5
       have r7:Rd w7 u5 s' f5:=Rp.only (zK r5 zA) hO7 (fun b hb hm=>by have h8:=A6.ownlt b (by simpa using hm);have h9:=Rp.lt r5 b hb;first | omega | (simp at h8;omega))
       refine hK.out _ _ ?hS19 (fun hHeld=>?rest19)
       case hS19=>exact and_of (T7) (fun q_=>⟨q_.ce x0,q_.ce x1,q_.ce x2,q_.ce hcl,q_.ce y0,q_.ce y1,q_.ce y2,q_.ce y3,q_.ce y4⟩)
       clear hK K
       (try simp only [Act.put,List.getElem_toArray,List.getElem_cons_succ,List.getElem_cons_zero,List.setIfInBounds_toArray,List.set_cons_zero,List.set_cons_succ])
       refine wpAnyH_ready (rs:=[19]) (by kernel_rfl) (by simp) ?_
       refine AllReadyH.cons rfl (fun K hK=>?_) AllReadyH.nil
       go_simp
       (go_at_call 213;(with_reducible refine (HIHf.out s' wd' r.1 _ _ _ _ w7 (hW4.trans T7) r7 hA7.rd Hre.out Hal.out Hlf.out Hr1.out).mono ?_);rintro e w8 ⟨⟨cs8,rfl,VC8⟩,t8⟩)
       obtain ⟨m8,a8,n8,c8,b8,rfl,-⟩:=VC8.six
       go_wp2_with fail
       refine hK.out _ _ ?hS20 (fun hHeld=>?rest20)
       case hS20=>exact and_of (T7.trans t8) (fun q_=>⟨q_.ce x0,q_.ce x1,q_.ce x2,q_.ce hcl,q_.ce y0,q_.ce y1,q_.ce y2,q_.ce y3,q_.ce y4⟩)
       clear hK K
       (try simp only [Act.put,List.getElem_toArray,List.getElem_cons_succ,List.getElem_cons_zero,List.setIfInBounds_toArray,List.set_cons_zero,List.set_cons_succ])
       refine wpAnyH_done (by kernel_rfl) ?_ _
       have V8:=VW4.keep (T7.trans t8)
       have z0:=V8.cell 0 rfl
       have q0:=V8.frozen 0
       have z1:=V8.cell 1 rfl
       have q1:=V8.frozen 1
       have z2:=V8.cell 2 rfl
       have q2:=V8.frozen 2
       have z3:=V8.cell 3 rfl
       have q3:=V8.frozen 3
       have z4:=V8.cell 4 rfl
       have q4:=V8.frozen 4
       obtain ⟨Yf,kf⟩:=store5 V8 (.int .i64 ((vis x ts D f' s' wd' r.1).1:Int)) (.int .i64 m8) (.slice a8 n8 c8) (.bool b8) (.bool false)
       refine Zhg rfl rfl (fun K' hK'=>?_)
       go_simp
       refine hK' _ _ ?_
       (try simp only [Act.put,List.getElem_toArray,List.getElem_cons_succ,List.getElem_cons_zero,List.setIfInBounds_toArray,List.set_cons_zero,List.set_cons_succ])
       clear hK'
       clear z0 q0
       clear z1 q1
       clear z2 q2
       clear z3 q3
       clear z4 q4
       refine (show ∀ a w,Code.wp Tryz.prog _ _ a w->_ from by assumption) _ _ ?_
       go_wp2_with fail
       exact ⟨⟨j + 1,hlt,by go_num,VR.step hlt Hfold.out Hrn.out Hle.out Hne.out Hss.out Hwd.out hO4 (T7.trans t8) kf Yf (VC8.mono (by omega)) Hr1.out (by omega)⟩,by simp [intOf];omega⟩
      ·go_simp
       refine hK.out _ _ ?hS21 (fun hHeld=>?rest21)
       case hS21=>exact and_of ((((Only.refl [] w4).drew).trans t5).alloc (.cells #[.int .i64 l] 2)) (fun q_=>⟨q_.ce x0,q_.ce x1,q_.ce x2,q_.ce hcl,q_.ce y0,q_.ce y1,q_.ce y2,q_.ce y3,q_.ce y4⟩)
       clear hK K
       (try simp only [Act.put,List.getElem_toArray,List.getElem_cons_succ,List.getElem_cons_zero,List.setIfInBounds_toArray,List.set_cons_zero,List.set_cons_succ])
       refine wpAnyH_ready (rs:=[10]) (by kernel_rfl) (by simp) ?_
       refine AllReadyH.cons rfl (fun K hK=>?_) AllReadyH.nil
       go_simp
       (go_at_call 100;(with_reducible refine (Zfh _ wd _ _ (zK hw4 ((((Only.refl [] w4).drew).trans t5).alloc (.cells #[.int .i64 l] 2))) hwd1).mono ?_);rintro e w6 ⟨u6,fs6,rfl,A6,hf6,t6⟩)
       obtain ⟨a6,c6,rfl⟩:=A6.form
       go_wp2_with fail
       have hz6:=t6.size
       (try simp at hz6)
       have A6:AccI _ 2 w6 _ wd:=⟨fs6,A6⟩
       refine hK.out _ _ ?hS22 (fun hHeld=>?rest22)
       case hS22=>exact and_of (((((Only.refl [] w4).drew).trans t5).alloc (.cells #[.int .i64 l] 2)).trans t6) (fun q_=>⟨q_.ce x0,q_.ce x1,q_.ce x2,q_.ce hcl,q_.ce y0,q_.ce y1,q_.ce y2,q_.ce y3,q_.ce y4⟩)
       clear hK K
       (try simp only [Act.put,List.getElem_toArray,List.getElem_cons_succ,List.getElem_cons_zero,List.setIfInBounds_toArray,List.set_cons_zero,List.set_cons_succ])
       refine wpAnyH_ready (rs:=[16]) (by kernel_rfl) (by simp) ?_
       refine AllReadyH.cons rfl (fun K hK=>?_) AllReadyH.nil
       refine Zey rfl _ _ 27 rfl _ 2 i0 _ Tryz.underlying27 hi hz0 hz1 hz2 rfl w6 (.slice a6 wd.length c6) wd rfl A6 (Only.refl [] w6) (by first | omega | (simp;omega)) _ 1 l rfl (t6.cell (by simp) (lit1 w5 _ _ rfl)) HlI.out hwd2 ?_
       intro v7 w7 hA7 hO7 hN7
       rw [<- Hwd.out] at hA7
       obtain ⟨a7,c7,rfl⟩:=hA7.form
       have T7:Only [] w4 w7:=(((((Only.refl [] w4).drew).trans t5).alloc (.cells #[.int .i64 l] 2)).trans t6).then_ hO7 (fun b hb hl=>by have:=(A6.ownlt b (by simpa using hb)).1;first | omega | (simp at this;omega))
       have hz7:=T7.size
       rw [<- Hss.out] at r5
       have r7:Rd w7 u5 s' f5:=Rp.only (zK r5 zA) hO7 (fun b hb hm=>by have h8:=A6.ownlt b (by simpa using hm);have h9:=Rp.lt r5 b hb;first | omega | (simp at h8;omega))
       refine hK.out _ _ ?hS23 (fun hHeld=>?rest23)
       case hS23=>exact and_of (T7) (fun q_=>⟨q_.ce x0,q_.ce x1,q_.ce x2,q_.ce hcl,q_.ce y0,q_.ce y1,q_.ce y2,q_.ce y3,q_.ce y4⟩)
       clear hK K
       (try simp only [Act.put,List.getElem_toArray,List.getElem_cons_succ,List.getElem_cons_zero,List.setIfInBounds_toArray,List.set_cons_zero,List.set_cons_succ])
       refine wpAnyH_ready (rs:=[19]) (by kernel_rfl) (by simp) ?_
       refine AllReadyH.cons rfl (fun K hK=>?_) AllReadyH.nil
       go_simp
       (go_at_call 213;(with_reducible refine (HIHf.out s' wd' r.1 _ _ _ _ w7 (hW4.trans T7) r7 hA7.rd Hre.out Hal.out Hlf.out Hr1.out).mono ?_);rintro e w8 ⟨⟨cs8,rfl,VC8⟩,t8⟩)
       obtain ⟨m8,a8,n8,c8,b8,rfl,-⟩:=VC8.six
       go_wp2_with fail
       refine hK.out _ _ ?hS24 (fun hHeld=>?rest24)
       case hS24=>exact and_of (T7.trans t8) (fun q_=>⟨q_.ce x0,q_.ce x1,q_.ce x2,q_.ce hcl,q_.ce y0,q_.ce y1,q_.ce y2,q_.ce y3,q_.ce y4⟩)
       clear hK K
       (try simp only [Act.put,List.getElem_toArray,List.getElem_cons_succ,List.getElem_cons_zero,List.setIfInBounds_toArray,List.set_cons_zero,List.set_cons_succ])
       refine wpAnyH_done (by kernel_rfl) ?_ _
       have V8:=VW4.keep (T7.trans t8)
       have z0:=V8.cell 0 rfl
       have q0:=V8.frozen 0
       have z1:=V8.cell 1 rfl
       have q1:=V8.frozen 1
       have z2:=V8.cell 2 rfl
       have q2:=V8.frozen 2
       have z3:=V8.cell 3 rfl
       have q3:=V8.frozen 3
       have z4:=V8.cell 4 rfl
       have q4:=V8.frozen 4
       obtain ⟨Yf,kf⟩:=store5 V8 (.int .i64 ((vis x ts D f' s' wd' r.1).1:Int)) (.int .i64 m8) (.slice a8 n8 c8) (.bool b8) (.bool false)
       refine Zhg rfl rfl (fun K' hK'=>?_)
       go_simp
       refine hK' _ _ ?_
       (try simp only [Act.put,List.getElem_toArray,List.getElem_cons_succ,List.getElem_cons_zero,List.setIfInBounds_toArray,List.set_cons_zero,List.set_cons_succ])
       clear hK'
       clear z0 q0
       clear z1 q1
       clear z2 q2
       clear z3 q3
       clear z4 q4
       refine (show ∀ a w,Code.wp Tryz.prog _ _ a w->_ from by assumption) _ _ ?_
       go_wp2_with fail
       exact ⟨⟨j + 1,hlt,by go_num,VR.step hlt Hfold.out Hrn.out Hle.out Hne.out Hss.out Hwd.out hO4 (T7.trans t8) kf Yf (VC8.mono (by omega)) Hr1.out (by omega)⟩,by simp [intOf];omega⟩
     ·go_simp
      refine hK.out _ _ ?hS25 (fun hHeld=>?rest25)
      case hS25=>exact and_of (((Only.refl [] w4).alloc (.cells #[.int .i64 l] 2)).drew) (fun q_=>⟨q_.ce x0,q_.ce x1,q_.ce x2,q_.ce hcl,q_.ce y0,q_.ce y1,q_.ce y2,q_.ce y3,q_.ce y4⟩)
      clear hK K
      (try simp only [Act.put,List.getElem_toArray,List.getElem_cons_succ,List.getElem_cons_zero,List.setIfInBounds_toArray,List.set_cons_zero,List.set_cons_succ])
      refine wpAnyH_ready (rs:=[8]) (by kernel_rfl) (by simp) ?_
      refine AllReadyH.cons rfl (fun K hK=>?_) AllReadyH.nil
      go_simp
      (go_at_call 184;(with_reducible refine (Zdx [.int .i64 x.points,.string x.names,v2] x _ _ s _ l _ (zK hp4 (((Only.refl [] w4).alloc (.cells #[.int .i64 l] 2)).drew)) (zK hs4 (((Only.refl [] w4).alloc (.cells #[.int .i64 l] 2)).drew)) Hx.out Hl2.out Hsr.out Hs1.out).mono ?_);rintro e w5 ⟨u5,f5,rfl,r5,F5,t5⟩)
      go_wp2_with fail
      have hz5:=t5.size
      (try simp at hz5)
      refine hK.out _ _ ?hS26 (fun hHeld=>?rest26)
      case hS26=>exact and_of ((((Only.refl [] w4).alloc (.cells #[.int .i64 l] 2)).drew).trans t5) (fun q_=>⟨q_.ce x0,q_.ce x1,q_.ce x2,q_.ce hcl,q_.ce y0,q_.ce y1,q_.ce y2,q_.ce y3,q_.ce y4⟩)
      clear hK K
      (try simp only [Act.put,List.getElem_toArray,List.getElem_cons_succ,List.getElem_cons_zero,List.setIfInBounds_toArray,List.set_cons_zero,List.set_cons_succ])
      refine wpAnyH_ready (rs:=[10]) (by kernel_rfl) (by simp) ?_
      refine AllReadyH.cons rfl (fun K hK=>?_) AllReadyH.nil
      go_simp
      (go_at_call 100;(with_reducible refine (Zfh _ wd _ _ (zK hw4 ((((Only.refl [] w4).alloc (.cells #[.int .i64 l] 2)).drew).trans t5)) hwd1).mono ?_);rintro e w6 ⟨u6,fs6,rfl,A6,hf6,t6⟩)
      obtain ⟨a6,c6,rfl⟩:=A6.form
      go_wp2_with fail
      have hz6:=t6.size
      (try simp at hz6)
      have A6:AccI _ 2 w6 _ wd:=⟨fs6,A6⟩
      refine hK.out _ _ ?hS27 (fun hHeld=>?rest27)
      case hS27=>exact and_of (((((Only.refl [] w4).alloc (.cells #[.int .i64 l] 2)).drew).trans t5).trans t6) (fun q_=>⟨q_.ce x0,q_.ce x1,q_.ce x2,q_.ce hcl,q_.ce y0,q_.ce y1,q_.ce y2,q_.ce y3,q_.ce y4⟩)
      clear hK K
      (try simp only [Act.put,List.getElem_toArray,List.getElem_cons_succ,List.getElem_cons_zero,List.setIfInBounds_toArray,List.set_cons_zero,List.set_cons_succ])
      refine wpAnyH_ready (rs:=[16]) (by kernel_rfl) (by simp) ?_
      refine AllReadyH.cons rfl (fun K hK=>?_) AllReadyH.nil
      refine Zey rfl _ _ 27 rfl _ 2 i0 _ Tryz.underlying27 hi hz0 hz1 hz2 rfl w6 (.slice a6 wd.length c6) wd rfl A6 (Only.refl [] w6) (by first | omega | (simp;omega)) _ 1 l rfl (t6.cell (by simp) (t5.cell (by simp) (lit1 _ _ _ rfl))) HlI.out hwd2 ?_
      intro v7 w7 hA7 hO7 hN7
      rw [<- Hwd.out] at hA7
      obtain ⟨a7,c7,rfl⟩:=hA7.form
      have T7:Only [] w4 w7:=(((((Only.refl [] w4).alloc (.cells #[.int .i64 l] 2)).drew).trans t5).trans t6).then_ hO7 (fun b hb hl=>by have:=(A6.ownlt b (by simpa using hb)).1;first | omega | (simp at this;omega))
      have hz7:=T7.size
      rw [<- Hss.out] at r5
      have r7:Rd w7 u5 s' f5:=Rp.only (zK r5 zA) hO7 (fun b hb hm=>by have h8:=A6.ownlt b (by simpa using hm);have h9:=Rp.lt r5 b hb;first | omega | (simp at h8;omega))
      refine hK.out _ _ ?hS28 (fun hHeld=>?rest28)
      case hS28=>exact and_of (T7) (fun q_=>⟨q_.ce x0,q_.ce x1,q_.ce x2,q_.ce hcl,q_.ce y0,q_.ce y1,q_.ce y2,q_.ce y3,q_.ce y4⟩)
      clear hK K
      (try simp only [Act.put,List.getElem_toArray,List.getElem_cons_succ,List.getElem_cons_zero,List.setIfInBounds_toArray,List.set_cons_zero,List.set_cons_succ])
      refine wpAnyH_ready (rs:=[19]) (by kernel_rfl) (by simp) ?_
      refine AllReadyH.cons rfl (fun K hK=>?_) AllReadyH.nil
      go_simp
      (go_at_call 213;(with_reducible refine (HIHf.out s' wd' r.1 _ _ _ _ w7 (hW4.trans T7) r7 hA7.rd Hre.out Hal.out Hlf.out Hr1.out).mono ?_);rintro e w8 ⟨⟨cs8,rfl,VC8⟩,t8⟩)
      obtain ⟨m8,a8,n8,c8,b8,rfl,-⟩:=VC8.six
      go_wp2_with fail
      refine hK.out _ _ ?hS29 (fun hHeld=>?rest29)
      case hS29=>exact and_of (T7.trans t8) (fun q_=>⟨q_.ce x0,q_.ce x1,q_.ce x2,q_.ce hcl,q_.ce y0,q_.ce y1,q_.ce y2,q_.ce y3,q_.ce y4⟩)
      clear hK K
      (try simp only [Act.put,List.getElem_toArray,List.getElem_cons_succ,List.getElem_cons_zero,List.setIfInBounds_toArray,List.set_cons_zero,List.set_cons_succ])
      refine wpAnyH_done (by kernel_rfl) ?_ _
      have V8:=VW4.keep (T7.trans t8)
      have z0:=V8.cell 0 rfl
      have q0:=V8.frozen 0
      have z1:=V8.cell 1 rfl
      have q1:=V8.frozen 1
      have z2:=V8.cell 2 rfl
      have q2:=V8.frozen 2
      have z3:=V8.cell 3 rfl
      have q3:=V8.frozen 3
      have z4:=V8.cell 4 rfl
      have q4:=V8.frozen 4
      obtain ⟨Yf,kf⟩:=store5 V8 (.int .i64 ((vis x ts D f' s' wd' r.1).1:Int)) (.int .i64 m8) (.slice a8 n8 c8) (.bool b8) (.bool false)
      refine Zhg rfl rfl (fun K' hK'=>?_)
      go_simp
      refine hK' _ _ ?_
      (try simp only [Act.put,List.getElem_toArray,List.getElem_cons_succ,List.getElem_cons_zero,List.setIfInBounds_toArray,List.set_cons_zero,List.set_cons_succ])
      clear hK'
      clear z0 q0
      clear z1 q1
      clear z2 q2
      clear z3 q3
      clear z4 q4
      refine (show ∀ a w,Code.wp Tryz.prog _ _ a w->_ from by assumption) _ _ ?_
      go_wp2_with fail
      exact ⟨⟨j + 1,hlt,by go_num,VR.step hlt Hfold.out Hrn.out Hle.out Hne.out Hss.out Hwd.out hO4 (T7.trans t8) kf Yf (VC8.mono (by omega)) Hr1.out (by omega)⟩,by simp [intOf];omega⟩
    ·have Hd:=zH (Hdone.out.trans hrs)
     have HF:=zH (show visL x (vis x ts D f') s wd L (c + 1) = r from Hfold.out.trans (Zsz hrs))
     clear hrs
     go_upto_region 22 with (first
      | (go_at_call 156;(with_reducible refine (Zdc (r.1:Int) m5 (.slice a5 n5 c5) b5 false _).mono ?_);rintro e w4 ⟨he,t4⟩;rw [Hd.out] at he;subst he)
      | fail)
     have VW':=VW.keep t4
     have R2':=R2.keep t4
     have y0:=VW'.cell 0 rfl
     have y1:=VW'.cell 1 rfl
     have y2:=VW'.cell 2 rfl
     have y3:=VW'.cell 3 rfl
     have y4:=VW'.cell 4 rfl
     have o0:=R2'.cell 0 rfl
     have o1:=R2'.cell 1 rfl
     have o2:=R2'.cell 2 rfl
     have o3:=R2'.cell 3 rfl
     have o4:=R2'.cell 4 rfl
     have p0:=R2'.frozen 0
     have p1:=R2'.frozen 1
     have p2:=R2'.frozen 2
     have p3:=R2'.frozen 3
     have p4:=R2'.frozen 4
     obtain ⟨Yf,kf⟩:=store5 R2' (.int .i64 (r.1:Int)) (.int .i64 m5) (.slice a5 n5 c5) (.bool b5) (.bool false)
     go_wp2
     obtain ⟨wf,hwf⟩:∃ wf,wf = (((((w4.setCell ⟨w.heap.size + 1 + 1,0,none⟩ (.int .i64 (r.1:Int))).setCell ⟨w.heap.size + 1 + 1,1,none⟩ (.int .i64 m5)).setCell ⟨w.heap.size + 1 + 1,2,none⟩ (.slice a5 n5 c5)).setCell ⟨w.heap.size + 1 + 1,3,none⟩ (.bool b5)).setCell ⟨w.heap.size + 1 + 1,4,none⟩ (.bool false)):=⟨_,rfl⟩
     rw [<- hwf] at Yf kf ⊢
     clear hwf y0 o0 p0 y1 o1 p1 y2 o2 p2 y3 o3 p3 y4 o4 p4
     obtain ⟨r0,r1,r2,r3,r4⟩:=Yf.c5
     exact bodyPost_ret (v:=.agg #[.int .i64 (r.1:Int),.int .i64 m5,.slice a5 n5 c5,.bool b5,.bool false]) (by simp [results,Tryz.results213,go_sem,r0,r1,r2,r3,r4]) rfl ⟨⟨[.int .i64 (r.1:Int),.int .i64 m5,.slice a5 n5 c5,.bool b5,.bool false],rfl,by rw [Hn.out,HF.out];exact ((HVC.out.only t4 (by simp)).only kf (by intro b hb;simp at hb;omega)).mono (by omega)⟩,(K2.trans t4).then_ kf (by intro b hb hl;simp at hb;omega)⟩
   ·have HF:=zH (show visL x (vis x ts D f') s wd L (c + 1) = r from Hfold.out.trans (by rw [List.drop_eq_nil_of_le (by omega),Ztv];exact Ztd r))
    go_upto_region 22 with fail
    obtain ⟨y0,y1,y2,y3,y4⟩:=VW.c5
    obtain ⟨o0,o1,o2,o3,o4⟩:=R2.c5
    obtain ⟨p0,p1,p2,p3,p4⟩:=R2.f5
    obtain ⟨Yf,kf⟩:=store5 R2 (.int .i64 (r.1:Int)) (.int .i64 m5) (.slice a5 n5 c5) (.bool b5) (.bool false)
    go_wp2
    obtain ⟨wf,hwf⟩:∃ wf,wf = (((((W2.setCell ⟨w.heap.size + 1 + 1,0,none⟩ (.int .i64 (r.1:Int))).setCell ⟨w.heap.size + 1 + 1,1,none⟩ (.int .i64 m5)).setCell ⟨w.heap.size + 1 + 1,2,none⟩ (.slice a5 n5 c5)).setCell ⟨w.heap.size + 1 + 1,3,none⟩ (.bool b5)).setCell ⟨w.heap.size + 1 + 1,4,none⟩ (.bool false)):=⟨_,rfl⟩
    rw [<- hwf] at Yf kf ⊢
    clear hwf y0 o0 p0 y1 o1 p1 y2 o2 p2 y3 o3 p3 y4 o4 p4
    obtain ⟨r0,r1,r2,r3,r4⟩:=Yf.c5
    exact bodyPost_ret (v:=.agg #[.int .i64 (r.1:Int),.int .i64 m5,.slice a5 n5 c5,.bool b5,.bool false]) (by simp [results,Tryz.results213,go_sem,r0,r1,r2,r3,r4]) rfl ⟨⟨[.int .i64 (r.1:Int),.int .i64 m5,.slice a5 n5 c5,.bool b5,.bool false],rfl,by rw [Hn.out,HF.out];exact ((HVC.out).only kf (by intro b hb;simp at hb;omega)).mono (by omega)⟩,(K2).then_ kf (by intro b hb hl;simp at hb;omega)⟩
end Go.Proofs.YthleokaeobdamaaGreat
