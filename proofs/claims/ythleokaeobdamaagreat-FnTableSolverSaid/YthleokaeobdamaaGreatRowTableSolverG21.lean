/- CheckCertificate, IsAcceptedCertificate: the reference's and the program's (laws 42, 43). (Printed by mkchk.py.) -/
import Derived.Test.YthleokaeobdamaaGreatRowTableSolverG17
import Derived.Test.YthleokaeobdamaaGreatRowTableSolverG16
import Derived.Test.YthleokaeobdamaaGreatRowTableSolverG11
import Derived.Deep.RegionHeld3
import Derived.Deep.RegionLaw
import Derived.Deep.RegionWith
import Derived.Deep.AppendLies
import Derived.Test.YthleokaeobdamaaGreatRowTableSolverG10
import Derived.Test.YthleokaeobdamaaGreatRowTableSolverG8
import Derived.Test.YthleokaeobdamaaGreatRowTableSolverG7
import Derived.Test.YthleokaeobdamaaGreatRowTableSolverG1
import Derived.Test.YthleokaeobdamaaGreatRowTableSolverG2
import Derived.RangeFuncBox
import Derived.RangeFuncLeaves
import Derived.RangeFuncWrites
import Derived.RangeFuncNested
import Derived.Shelf.Abstract
import Derived.OwnWalkIn
import Derived.TacticsInMore
import Derived.LoopNIn
import Derived.LoopIn
import Derived.Maps.AppendAt
namespace Go.Proofs.YthleokaeobdamaaGreat
open Go.RowKit
set_option maxRecDepth 10000
def hasP (c:Certificate) (n m:Int) (b:Bool):Bool:=decide ((c.numbers.length:Int) = n) && (decide ((c.words.length:Int) = m) && (decide (0 < c.tables.length) == b))
def word0 (c:Certificate):List Int:=c.words.getD 0 []
def num0 (c:Certificate):Int:=c.numbers.getD 0 0
noncomputable def accC (x:Puzzle) (s:List Int) (c:Certificate):Option Claim:=
 if c.kind = 1 then (if hasP c 0 1 false = true then (if solB x s (word0 c) = true then some ⟨1,(word0 c).length⟩ else none) else none)
 else if c.kind = 2 then (if hasP c 0 1 true = true then (if solB x s (word0 c) = true then (if lb x c.tables s = (word0 c).length then some ⟨2,(word0 c).length⟩ else none) else none) else none)
 else if c.kind = 3 then (if hasP c 1 0 true = true then (if 0<=num0 c then (if num0 c<=lb x c.tables s then some ⟨3,num0 c⟩ else none) else none) else none)
 else if c.kind = 4 then (if hasP c 0 0 false = true then (if reachB x s = true then none else some ⟨4,0⟩) else none)
 else none
noncomputable def chkC (x:Puzzle) (s:List Int) (c:Certificate):Option Claim:=if stateB x s = true then accC x s c else none
theorem tkU {P:Program} {ops:Array Oper} {Q:Exit->Act->World->Prop} {md:Region.Mode} {S:World->Prop} {oi:Oper} {fuel:Nat} {listed:Array Bool} {a:Act} {w:World} (i:Nat) (h:wpAnyH P md ops Q S fuel (listed.setIfInBounds i true) (a.put oi.dst undef) w) (hi:ops[i]? = some oi:=by rfl)
  (hs:Region.noSelect ops = true:=by kernel_rfl) (hf:Region.free md ops listed i = true:=by kernel_rfl) (hr:(Region.ready md ops listed).contains i = true:=by kernel_rfl) (hQ:∀ c a w,Q (.panic c) (a.put oi.dst undef) w->Q (.panic c) a w:=by exact fun _ _ _ h=>h)
  (hy:Region.wanted oi (yielded ops a.tmps) = false:=by rfl) (hS:S w:=by assumption):wpAnyH P md ops Q S (fuel + 1) listed a w:=wpAnyH_take hi hs hf hr hQ (.inr ⟨hy,rfl⟩) hS h
theorem tkV {P:Program} {ops:Array Oper} {Q:Exit->Act->World->Prop} {md:Region.Mode} {S:World->Prop} {oi:Oper} {v:Value} {fuel:Nat} {listed:Array Bool} {a:Act} {w:World} (i:Nat) (hy:∀ w,S w->(execOp a.eval oi).run P w = .ok (.value v) w) (h:wpAnyH P md ops Q S fuel (listed.setIfInBounds i true) (a.put oi.dst v) w) (hi:ops[i]? = some oi:=by rfl)
  (hs:Region.noSelect ops = true:=by kernel_rfl) (hf:Region.free md ops listed i = true:=by kernel_rfl) (hr:(Region.ready md ops listed).contains i = true:=by kernel_rfl) (hQ:∀ c a w,Q (.panic c) (a.put oi.dst v) w->Q (.panic c) a w:=by exact fun _ _ _ h=>h)
  (hw:Region.wanted oi (yielded ops a.tmps) = true:=by rfl) (hS:S w:=by assumption):wpAnyH P md ops Q S (fuel + 1) listed a w:=wpAnyH_take hi hs hf hr hQ (.inl ⟨hw,hy⟩) hS h
theorem only_eq {w w':World} (h:w' = w):Only [] w w':=h ▸ Only.refl _ _
theorem aT {α:Type} {l:List α} {i:Nat} (h:i < l.toArray.size):l.toArray[i] = l[i]'(by simpa using h):=by simp
theorem aZ {α:Type} {a:α} {l:List α} (h:0 < (a :: l).length):(a :: l)[0] = a:=rfl
theorem aS {α:Type} {a:α} {l:List α} {i:Nat} (h:i + 1 < (a :: l).length):(a :: l)[i + 1] = l[i]'(by simpa using h):=rfl
theorem sB {α:Type} {l:List α} {i:Nat} {a:α}:l.toArray.setIfInBounds i a = (l.set i a).toArray:=by simp
theorem sZ {α:Type} {a b:α} {l:List α}:(a :: l).set 0 b = b :: l:=rfl
theorem sS {α:Type} {a b:α} {l:List α} {i:Nat}:(a :: l).set (i + 1) b = a :: l.set i b:=rfl
theorem Zjt {c:Certificate} {n m:Int} {b:Bool}:hasP c n m b = true ↔ (c.numbers.length:Int) = n/\(c.words.length:Int) = m/\decide (0 < c.tables.length) = b:=by
 unfold hasP
 rw [Bool.and_eq_true,Bool.and_eq_true,decide_eq_true_iff,decide_eq_true_iff,beq_iff_eq]
set_option maxHeartbeats 1000000 in
theorem Zao (cs:List Value) (c:Certificate) (fp:List Nat) (n m:Int) (b:Bool) (w:World) (h:Rp.rep w cs c fp) :
  Calls Tryz.prog 164 #[.agg cs.toArray,.int .i64 n,.int .i64 m,.bool b] w fun e w'=>e = .returned (.bool (hasP c n m b))/\Only [] w w':=by
 obtain ⟨v1,v2,v3,f1,f2,f3,rfl,rfl,p0,h1,h2,h3⟩:=h
 obtain ⟨B1,D1,_,_,rfl,-,-⟩:=h1.open_
 obtain ⟨B2,D2,_,_,rfl,-,-⟩:=h2.open_
 obtain ⟨B3,D3,_,_,rfl,-,-⟩:=h3.open_
 by_cases q1:(c.numbers.length:Int) = n
 ·have b1:((c.numbers.length:Int) == n) = true:=by simp [q1]
  by_cases q2:(c.words.length:Int) = m
  ·have b2:((c.words.length:Int) == m) = true:=by simp [q2]
   have Hq:=zH (by unfold hasP;rw [decide_eq_true q1,decide_eq_true q2];rfl:hasP c n m b = (decide (0 < c.tables.length) == b))
   clear q1 q2
   go_enter Tryz.func164,Tryz.ntmps164
   go_wp2
   go_ret
   exact ⟨Zaa Hq.out.symm,zV⟩
  ·have b2:((c.words.length:Int) == m) = false:=by simp [q2]
   have Hq:=zH (by unfold hasP;rw [decide_eq_true q1,decide_eq_false q2];rfl:hasP c n m b = false)
   clear q1 q2
   go_enter Tryz.func164,Tryz.ntmps164
   go_wp2
   go_ret
   exact ⟨Zaa Hq.out.symm,zV⟩
 ·have b1:((c.numbers.length:Int) == n) = false:=by simp [q1]
  have Hq:=zH (by unfold hasP;rw [decide_eq_false q1];rfl:hasP c n m b = false)
  clear q1
  go_enter Tryz.func164,Tryz.ntmps164
  go_wp2
  go_ret
  exact ⟨Zaa Hq.out.symm,zV⟩
set_option maxHeartbeats 8000000 in
theorem Zqs (cs ds:List Value) (x:Puzzle) (c:Certificate) (fp fc:List Nat) (u:Value) (s:List Int) (fs0:List Nat) (w:World) (h:Rp.rep w cs x fp) (hu:Rd w u s fs0) (hc:Rp.rep w ds c fc) (hst:stateB x s = true) (hsm:∀ t∈c.tables,t.tracked.length<=2097152) :
  Calls Tryz.prog 105 #[.agg cs.toArray,u,.agg ds.toArray] w fun e w'=>e = .returned (.tuple #[.agg #[.int .i64 ((accC x s c).getD noClaim).kind,.int .i64 ((accC x s c).getD noClaim).value],.bool (accC x s c).isSome])/\Only [] w w':=by
 have h0:=h
 have hc0:=hc
 obtain ⟨v2,rfl,p0,p1,h2⟩:=h
 obtain ⟨A3,C3,_,_,rfl,-,-⟩:=h2.open_
 obtain ⟨v1,v2,v3,f1,f2,f3,rfl,rfl,p2,i1,i2,i3⟩:=hc
 simp only [List.cons_append,List.nil_append] at hc0 ⊢
 obtain ⟨B1,D1,rfl,I1⟩:=i1.ints
 obtain ⟨B2,D2,ob2,fp2,rfl,-,S2⟩:=i2.open_
 obtain ⟨B3,D3,_,_,rfl,-,-⟩:=i3.open_
 have hb2:=S2.bound
 have hb1:=I1.bound
 have X0:Blk (((w.alloc (.cells #[.int .i64 x.points,.string x.names,.slice A3 x.moves.length C3] 26)).alloc (.cells #[.int .i64 c.kind,.slice B1 c.numbers.length D1,.slice B2 c.words.length D2,.slice B3 c.tables.length D3] 32)).alloc (.cells #[.int .i64 0,.int .i64 0] 52)) w.heap.size [.int .i64 x.points,.string x.names,.slice A3 x.moves.length C3]:=((Blk.new w [.int .i64 x.points,.string x.names,.slice A3 x.moves.length C3] 26).keep (zO.alloc _)).keep (zO.alloc _)
 have Y0:Blk (((w.alloc (.cells #[.int .i64 x.points,.string x.names,.slice A3 x.moves.length C3] 26)).alloc (.cells #[.int .i64 c.kind,.slice B1 c.numbers.length D1,.slice B2 c.words.length D2,.slice B3 c.tables.length D3] 32)).alloc (.cells #[.int .i64 0,.int .i64 0] 52)) (w.heap.size + 1) [.int .i64 c.kind,.slice B1 c.numbers.length D1,.slice B2 c.words.length D2,.slice B3 c.tables.length D3]:=(Blk.new_at (by simp)).keep (zO.alloc _)
 have R0:Blk (((w.alloc (.cells #[.int .i64 x.points,.string x.names,.slice A3 x.moves.length C3] 26)).alloc (.cells #[.int .i64 c.kind,.slice B1 c.numbers.length D1,.slice B2 c.words.length D2,.slice B3 c.tables.length D3] 32)).alloc (.cells #[.int .i64 0,.int .i64 0] 52)) (w.heap.size + 1 + 1) [.int .i64 0,.int .i64 0]:=Blk.new_at (by simp)
 obtain ⟨c0,c1,c2⟩:=X0.c3
 obtain ⟨d0,d1,d2,d3⟩:=Y0.c4
 clear h2 p0 p1 p2
 by_cases k1:c.kind = 1
 ·have kb:(c.kind == 1) = true:=by simp [k1]
  rcases hP:hasP c 0 1 false
  ·have Ha:=zH (by unfold accC;rw [if_pos k1,hP];rfl:accC x s c = none)
   clear k1
   go_enter Tryz.func105,Tryz.ntmps105
   go_upto_region 3 with fail
   have KW:Only [] w (((w.alloc (.cells #[.int .i64 x.points,.string x.names,.slice A3 x.moves.length C3] 26)).alloc (.cells #[.int .i64 c.kind,.slice B1 c.numbers.length D1,.slice B2 c.words.length D2,.slice B3 c.tables.length D3] 32)).alloc (.cells #[.int .i64 0,.int .i64 0] 52)):=(((Only.refl [] w).alloc _).alloc _).alloc _
   obtain ⟨W,hW⟩:∃ W,W = (((w.alloc (.cells #[.int .i64 x.points,.string x.names,.slice A3 x.moves.length C3] 26)).alloc (.cells #[.int .i64 c.kind,.slice B1 c.numbers.length D1,.slice B2 c.words.length D2,.slice B3 c.tables.length D3] 32)).alloc (.cells #[.int .i64 0,.int .i64 0] 52)):=⟨_,rfl⟩
   rw [<- hW] at X0 Y0 R0 KW c0 c1 c2 d0 d1 d2 d3 ⊢
   clear hW
   have XW:=X0
   have YW:=Y0
   have RW:=R0
   have pW:=zK h0 KW
   have cW:=zK hc0 KW
   have uW:=zK hu KW
   refine wp_region_held_drew (S:=fun w'=>Only [] W w'/\w'.cell? ⟨w.heap.size,0,none⟩ = some (.int .i64 x.points)/\w'.cell? ⟨w.heap.size,1,none⟩ = some (.string x.names)/\w'.cell? ⟨w.heap.size,2,none⟩ = some (.slice A3 x.moves.length C3)/\w'.cell? ⟨w.heap.size + 1,0,none⟩ = some (.int .i64 c.kind)/\w'.cell? ⟨w.heap.size + 1,1,none⟩ = some (.slice B1 c.numbers.length D1)/\w'.cell? ⟨w.heap.size + 1,2,none⟩ = some (.slice B2 c.words.length D2)/\w'.cell? ⟨w.heap.size + 1,3,none⟩ = some (.slice B3 c.tables.length D3)) (by kernel_rfl) (and_of (Only.refl [] W).drew (fun q_=>⟨q_.ce c0,q_.ce c1,q_.ce c2,q_.ce d0,q_.ce d1,q_.ce d2,q_.ce d3⟩)) (fun hHeld=>?_)
   refine tkV (v:=?v1) 0 ?h1 ?r1;(case h1=>(intro w__ hSw;(try dsimp only at hSw);go_simp;try with_reducible rfl));(try simp only [Act.put,aT,aZ,sB,sZ,sS])
   refine wpAnyH_ready (rs:=[1]) (by kernel_rfl) (by simp) ?_
   refine AllReadyH.cons rfl (fun K hK=>?_) AllReadyH.nil
   go_simp
   (go_at_call 164;(with_reducible refine (Zao [.int .i64 c.kind,.slice B1 c.numbers.length D1,.slice B2 c.words.length D2,.slice B3 c.tables.length D3] c _ 0 1 false _ (zK cW zV)).mono ?_);rintro e w1 ⟨he,t1⟩;rw [hP] at he;subst he)
   go_wp2_with fail
   refine hK.out _ _ ?hS2 (fun hHeld=>?rest2)
   case hS2=>((refine and_of ?_ (fun q_=>⟨q_.ce c0,q_.ce c1,q_.ce c2,q_.ce d0,q_.ce d1,q_.ce d2,q_.ce d3⟩));first | exact Only.trans (And.left (by assumption)) (by assumption) | exact And.left (by assumption) | assumption)
   clear hK K
   (try simp only [Act.put,aT,aZ,aS,sB,sZ,sS])
   refine tkV (v:=?v3) 2 ?h3 ?r3;(case h3=>(intro w__ hSw;(try dsimp only at hSw);go_simp;try with_reducible rfl));(try simp only [Act.put,aT,aZ,aS,sB,sZ,sS])
   refine tkU 3 ?_;(try simp only [Act.put,aT,aZ,aS,sB,sZ,sS])
   refine tkU 4 ?_;(try simp only [Act.put,aT,aZ,aS,sB,sZ,sS])
   refine tkU 5 ?_;(try simp only [Act.put,aT,aZ,aS,sB,sZ,sS])
   refine tkU 6 ?_;(try simp only [Act.put,aT,aZ,aS,sB,sZ,sS])
   refine tkU 7 ?_;(try simp only [Act.put,aT,aZ,aS,sB,sZ,sS])
   refine tkU 8 ?_;(try simp only [Act.put,aT,aZ,aS,sB,sZ,sS])
   refine tkU 9 ?_;(try simp only [Act.put,aT,aZ,aS,sB,sZ,sS])
   refine tkV (v:=?v4) 10 ?h4 ?r4;(case h4=>(intro w__ hSw;(try dsimp only at hSw);go_simp;try with_reducible rfl));(try simp only [Act.put,aT,aZ,aS,sB,sZ,sS])
   refine wpAnyH_done (by kernel_rfl) ?_ _
   have KL:Only [] W w1:=And.left (by assumption)
   have RL:=RW.keep KL
   have XL:=XW.keep KL
   have YL:=YW.keep KL
   have g0:=RL.cell 0 rfl
   have p0:=RL.frozen 0
   have g1:=RL.cell 1 rfl
   have p1:=RL.frozen 1
   obtain ⟨m0,m1,m2,m3⟩:=YL.c4
   go_wp2
   have Rf:=(RL.set 0 (.int .i64 0)).set 1 (.int .i64 0)
   simp only [List.set] at Rf
   obtain ⟨z0,z1⟩:=Rf.c2
   have Kf:Only [] w ((w1.setCell ⟨w.heap.size + 1 + 1,0,none⟩ (.int .i64 0)).setCell ⟨w.heap.size + 1 + 1,1,none⟩ (.int .i64 0)):=((KW.trans KL).setCell (by simp;omega) _).setCell (by simp;omega) _
   refine bodyPost_ret (v:=.tuple #[.agg #[.int .i64 0,.int .i64 0],.bool false]) (by simp [results,Tryz.results105,go_sem,z0,z1]) rfl ⟨by rw [Ha.out];rfl,Kf⟩
  ·have hw0:0 < c.words.length:=by have:=(Zjt.1 hP).2.1;omega
   obtain ⟨bw,ow,uw,rfl,-,cw0,hw⟩:=S2.atRow 0 hw0
   have hwd:word0 c = c.words[0]:=by unfold word0;rw [List.getD_eq_getElem?_getD,List.getElem?_eq_getElem hw0];rfl
   rw [<- hwd] at hw
   simp only [Nat.add_zero] at cw0
   have hwi:(0:Int) < (c.words.length:Int):=by omega
   have hwl:(word0 c).length<=9223372036854775807:=by obtain ⟨_,_,_,_,hq,-,hs⟩:=hw.open_;exact hs.bound
   obtain ⟨aw,lw,_,_,rfl,-,-⟩:=hw.open_
   rcases hS:solB x s (word0 c)
   ·have Ha:=zH (by unfold accC;rw [if_pos k1,hP,hS];rfl:accC x s c = none)
    clear k1 hwd
    go_enter Tryz.func105,Tryz.ntmps105
    go_upto_region 3 with fail
    have KW:Only [] w (((w.alloc (.cells #[.int .i64 x.points,.string x.names,.slice A3 x.moves.length C3] 26)).alloc (.cells #[.int .i64 c.kind,.slice B1 c.numbers.length D1,.slice (some ⟨bw,ow,none⟩) c.words.length D2,.slice B3 c.tables.length D3] 32)).alloc (.cells #[.int .i64 0,.int .i64 0] 52)):=(((Only.refl [] w).alloc _).alloc _).alloc _
    obtain ⟨W,hW⟩:∃ W,W = (((w.alloc (.cells #[.int .i64 x.points,.string x.names,.slice A3 x.moves.length C3] 26)).alloc (.cells #[.int .i64 c.kind,.slice B1 c.numbers.length D1,.slice (some ⟨bw,ow,none⟩) c.words.length D2,.slice B3 c.tables.length D3] 32)).alloc (.cells #[.int .i64 0,.int .i64 0] 52)):=⟨_,rfl⟩
    rw [<- hW] at X0 Y0 R0 KW c0 c1 c2 d0 d1 d2 d3 ⊢
    clear hW
    have XW:=X0
    have YW:=Y0
    have RW:=R0
    have pW:=zK h0 KW
    have cW:=zK hc0 KW
    have uW:=zK hu KW
    have cw:=KW.cell (by simp) cw0
    have wW:=zK hw KW
    go_region_held3 (fun w'=>Only [] W w'/\w'.cell? ⟨w.heap.size,0,none⟩ = some (.int .i64 x.points)/\w'.cell? ⟨w.heap.size,1,none⟩ = some (.string x.names)/\w'.cell? ⟨w.heap.size,2,none⟩ = some (.slice A3 x.moves.length C3)/\w'.cell? ⟨w.heap.size + 1,0,none⟩ = some (.int .i64 c.kind)/\w'.cell? ⟨w.heap.size + 1,1,none⟩ = some (.slice B1 c.numbers.length D1)/\w'.cell? ⟨w.heap.size + 1,2,none⟩ = some (.slice (some ⟨bw,ow,none⟩) c.words.length D2)/\w'.cell? ⟨w.heap.size + 1,3,none⟩ = some (.slice B3 c.tables.length D3)/\w'.cell? ⟨bw,ow,none⟩ = some ((.slice aw (word0 c).length lw))) (((refine and_of ?_ (fun q_=>⟨q_.ce c0,q_.ce c1,q_.ce c2,q_.ce d0,q_.ce d1,q_.ce d2,q_.ce d3,q_.ce cw⟩));first | exact zO.drew | exact (zO.drewN _).drew | exact Only.trans (And.left (by assumption)) (by assumption) | exact Only.alloc (And.left (by assumption)) _ | assumption)) (first | (go_at_call 164;(with_reducible refine (Zao [.int .i64 c.kind,.slice B1 c.numbers.length D1,.slice (some ⟨bw,ow,none⟩) c.words.length D2,.slice B3 c.tables.length D3] c _ 0 1 false _ (zK cW zV)).mono ?_);rintro e w1 ⟨he,t1⟩;rw [hP] at he;subst he) | (go_at_call 165;(with_reducible refine (Zbz [.int .i64 x.points,.string x.names,.slice A3 x.moves.length C3] x _ u (.slice aw (word0 c).length lw) s (word0 c) _ _ _ (zK pW zV) (zK uW zV) (zK wW zV) hst).mono ?_);rintro e w2 ⟨he,t2⟩;rw [hS] at he;subst he) | fail)
    have KL:Only [] W w2:=And.left (by assumption)
    have RL:=RW.keep KL
    have XL:=XW.keep KL
    have YL:=YW.keep KL
    have g0:=RL.cell 0 rfl
    have p0:=RL.frozen 0
    have g1:=RL.cell 1 rfl
    have p1:=RL.frozen 1
    obtain ⟨m0,m1,m2,m3⟩:=YL.c4
    go_wp2
    have Rf:=(RL.set 0 (.int .i64 0)).set 1 (.int .i64 0)
    simp only [List.set] at Rf
    obtain ⟨z0,z1⟩:=Rf.c2
    have Kf:Only [] w ((w2.setCell ⟨w.heap.size + 1 + 1,0,none⟩ (.int .i64 0)).setCell ⟨w.heap.size + 1 + 1,1,none⟩ (.int .i64 0)):=((KW.trans KL).setCell (by simp;omega) _).setCell (by simp;omega) _
    refine bodyPost_ret (v:=.tuple #[.agg #[.int .i64 0,.int .i64 0],.bool false]) (by simp [results,Tryz.results105,go_sem,z0,z1]) rfl ⟨by rw [Ha.out];rfl,Kf⟩
   ·have Ha:=zH (by unfold accC;rw [if_pos k1,hP,hS];rfl:accC x s c = some ⟨1,(word0 c).length⟩)
    clear k1 hwd
    go_enter Tryz.func105,Tryz.ntmps105
    go_upto_region 3 with fail
    have KW:Only [] w (((w.alloc (.cells #[.int .i64 x.points,.string x.names,.slice A3 x.moves.length C3] 26)).alloc (.cells #[.int .i64 c.kind,.slice B1 c.numbers.length D1,.slice (some ⟨bw,ow,none⟩) c.words.length D2,.slice B3 c.tables.length D3] 32)).alloc (.cells #[.int .i64 0,.int .i64 0] 52)):=(((Only.refl [] w).alloc _).alloc _).alloc _
    obtain ⟨W,hW⟩:∃ W,W = (((w.alloc (.cells #[.int .i64 x.points,.string x.names,.slice A3 x.moves.length C3] 26)).alloc (.cells #[.int .i64 c.kind,.slice B1 c.numbers.length D1,.slice (some ⟨bw,ow,none⟩) c.words.length D2,.slice B3 c.tables.length D3] 32)).alloc (.cells #[.int .i64 0,.int .i64 0] 52)):=⟨_,rfl⟩
    rw [<- hW] at X0 Y0 R0 KW c0 c1 c2 d0 d1 d2 d3 ⊢
    clear hW
    have XW:=X0
    have YW:=Y0
    have RW:=R0
    have pW:=zK h0 KW
    have cW:=zK hc0 KW
    have uW:=zK hu KW
    have cw:=KW.cell (by simp) cw0
    have wW:=zK hw KW
    go_region_held3 (fun w'=>Only [] W w'/\w'.cell? ⟨w.heap.size,0,none⟩ = some (.int .i64 x.points)/\w'.cell? ⟨w.heap.size,1,none⟩ = some (.string x.names)/\w'.cell? ⟨w.heap.size,2,none⟩ = some (.slice A3 x.moves.length C3)/\w'.cell? ⟨w.heap.size + 1,0,none⟩ = some (.int .i64 c.kind)/\w'.cell? ⟨w.heap.size + 1,1,none⟩ = some (.slice B1 c.numbers.length D1)/\w'.cell? ⟨w.heap.size + 1,2,none⟩ = some (.slice (some ⟨bw,ow,none⟩) c.words.length D2)/\w'.cell? ⟨w.heap.size + 1,3,none⟩ = some (.slice B3 c.tables.length D3)/\w'.cell? ⟨bw,ow,none⟩ = some ((.slice aw (word0 c).length lw))) (((refine and_of ?_ (fun q_=>⟨q_.ce c0,q_.ce c1,q_.ce c2,q_.ce d0,q_.ce d1,q_.ce d2,q_.ce d3,q_.ce cw⟩));first | exact zO.drew | exact (zO.drewN _).drew | exact Only.trans (And.left (by assumption)) (by assumption) | exact Only.alloc (And.left (by assumption)) _ | assumption)) (first | (go_at_call 164;(with_reducible refine (Zao [.int .i64 c.kind,.slice B1 c.numbers.length D1,.slice (some ⟨bw,ow,none⟩) c.words.length D2,.slice B3 c.tables.length D3] c _ 0 1 false _ (zK cW zV)).mono ?_);rintro e w1 ⟨he,t1⟩;rw [hP] at he;subst he) | (go_at_call 165;(with_reducible refine (Zbz [.int .i64 x.points,.string x.names,.slice A3 x.moves.length C3] x _ u (.slice aw (word0 c).length lw) s (word0 c) _ _ _ (zK pW zV) (zK uW zV) (zK wW zV) hst).mono ?_);rintro e w2 ⟨he,t2⟩;rw [hS] at he;subst he) | fail)
    have KL:Only [] W w2:=And.left (by assumption)
    have RL:=RW.keep KL
    have XL:=XW.keep KL
    have YL:=YW.keep KL
    have g0:=RL.cell 0 rfl
    have p0:=RL.frozen 0
    have g1:=RL.cell 1 rfl
    have p1:=RL.frozen 1
    obtain ⟨m0,m1,m2,m3⟩:=YL.c4
    have mw:=KL.cell (by simp) cw
    go_wp2
    have Rf:=(RL.set 0 (.int .i64 1)).set 1 (.int .i64 (word0 c).length)
    simp only [List.set] at Rf
    obtain ⟨z0,z1⟩:=Rf.c2
    have Kf:Only [] w ((w2.setCell ⟨w.heap.size + 1 + 1,0,none⟩ (.int .i64 1)).setCell ⟨w.heap.size + 1 + 1,1,none⟩ (.int .i64 (word0 c).length)):=((KW.trans KL).setCell (by simp;omega) _).setCell (by simp;omega) _
    refine bodyPost_ret (v:=.tuple #[.agg #[.int .i64 1,.int .i64 (word0 c).length],.bool true]) (by simp [results,Tryz.results105,go_sem,z0,z1]) rfl ⟨by rw [Ha.out];rfl,Kf⟩
 have kb1:(c.kind == 1) = false:=by simp [k1]
 by_cases k2:c.kind = 2
 ·have kb:(c.kind == 2) = true:=by simp [k2]
  rcases hP:hasP c 0 1 true
  ·have Ha:=zH (by unfold accC;rw [if_neg k1,if_pos k2,hP];rfl:accC x s c = none)
   clear k1 k2
   go_enter Tryz.func105,Tryz.ntmps105
   go_upto_region 6 with fail
   have KW:Only [] w (((w.alloc (.cells #[.int .i64 x.points,.string x.names,.slice A3 x.moves.length C3] 26)).alloc (.cells #[.int .i64 c.kind,.slice B1 c.numbers.length D1,.slice B2 c.words.length D2,.slice B3 c.tables.length D3] 32)).alloc (.cells #[.int .i64 0,.int .i64 0] 52)):=(((Only.refl [] w).alloc _).alloc _).alloc _
   obtain ⟨W,hW⟩:∃ W,W = (((w.alloc (.cells #[.int .i64 x.points,.string x.names,.slice A3 x.moves.length C3] 26)).alloc (.cells #[.int .i64 c.kind,.slice B1 c.numbers.length D1,.slice B2 c.words.length D2,.slice B3 c.tables.length D3] 32)).alloc (.cells #[.int .i64 0,.int .i64 0] 52)):=⟨_,rfl⟩
   rw [<- hW] at X0 Y0 R0 KW c0 c1 c2 d0 d1 d2 d3 ⊢
   clear hW
   have XW:=X0
   have YW:=Y0
   have RW:=R0
   have pW:=zK h0 KW
   have cW:=zK hc0 KW
   have uW:=zK hu KW
   refine wp_region_held_drew (S:=fun w'=>Only [] W w'/\w'.cell? ⟨w.heap.size,0,none⟩ = some (.int .i64 x.points)/\w'.cell? ⟨w.heap.size,1,none⟩ = some (.string x.names)/\w'.cell? ⟨w.heap.size,2,none⟩ = some (.slice A3 x.moves.length C3)/\w'.cell? ⟨w.heap.size + 1,0,none⟩ = some (.int .i64 c.kind)/\w'.cell? ⟨w.heap.size + 1,1,none⟩ = some (.slice B1 c.numbers.length D1)/\w'.cell? ⟨w.heap.size + 1,2,none⟩ = some (.slice B2 c.words.length D2)/\w'.cell? ⟨w.heap.size + 1,3,none⟩ = some (.slice B3 c.tables.length D3)) (by kernel_rfl) (and_of (Only.refl [] W).drew (fun q_=>⟨q_.ce c0,q_.ce c1,q_.ce c2,q_.ce d0,q_.ce d1,q_.ce d2,q_.ce d3⟩)) (fun hHeld=>?_)
   refine tkV (v:=?v5) 0 ?h5 ?r5;(case h5=>(intro w__ hSw;(try dsimp only at hSw);go_simp;try with_reducible rfl));(try simp only [Act.put,aT,aZ,sB,sZ,sS])
   refine wpAnyH_ready (rs:=[1]) (by kernel_rfl) (by simp) ?_
   refine AllReadyH.cons rfl (fun K hK=>?_) AllReadyH.nil
   go_simp
   (go_at_call 164;(with_reducible refine (Zao [.int .i64 c.kind,.slice B1 c.numbers.length D1,.slice B2 c.words.length D2,.slice B3 c.tables.length D3] c _ 0 1 true _ (zK cW zV)).mono ?_);rintro e w1 ⟨he,t1⟩;rw [hP] at he;subst he)
   go_wp2_with fail
   refine hK.out _ _ ?hS6 (fun hHeld=>?rest6)
   case hS6=>((refine and_of ?_ (fun q_=>⟨q_.ce c0,q_.ce c1,q_.ce c2,q_.ce d0,q_.ce d1,q_.ce d2,q_.ce d3⟩));first | exact Only.trans (And.left (by assumption)) (by assumption) | exact And.left (by assumption) | assumption)
   clear hK K
   (try simp only [Act.put,aT,aZ,aS,sB,sZ,sS])
   refine tkV (v:=?v7) 2 ?h7 ?r7;(case h7=>(intro w__ hSw;(try dsimp only at hSw);go_simp;try with_reducible rfl));(try simp only [Act.put,aT,aZ,aS,sB,sZ,sS])
   refine tkU 3 ?_;(try simp only [Act.put,aT,aZ,aS,sB,sZ,sS])
   refine tkU 4 ?_;(try simp only [Act.put,aT,aZ,aS,sB,sZ,sS])
   refine tkU 5 ?_;(try simp only [Act.put,aT,aZ,aS,sB,sZ,sS])
   refine tkU 6 ?_;(try simp only [Act.put,aT,aZ,aS,sB,sZ,sS])
   refine tkU 7 ?_;(try simp only [Act.put,aT,aZ,aS,sB,sZ,sS])
   refine tkU 8 ?_;(try simp only [Act.put,aT,aZ,aS,sB,sZ,sS])
   refine tkU 9 ?_;(try simp only [Act.put,aT,aZ,aS,sB,sZ,sS])
   refine tkV (v:=?v8) 10 ?h8 ?r8;(case h8=>(intro w__ hSw;(try dsimp only at hSw);go_simp;try with_reducible rfl));(try simp only [Act.put,aT,aZ,aS,sB,sZ,sS])
   refine tkV (v:=?v9) 11 ?h9 ?r9;(case h9=>(intro w__ hSw;(try dsimp only at hSw);go_simp;try with_reducible rfl));(try simp only [Act.put,aT,aZ,aS,sB,sZ,sS])
   refine tkU 12 ?_;(try simp only [Act.put,aT,aZ,aS,sB,sZ,sS])
   refine tkU 13 ?_;(try simp only [Act.put,aT,aZ,aS,sB,sZ,sS])
   refine tkU 14 ?_;(try simp only [Act.put,aT,aZ,aS,sB,sZ,sS])
   refine tkU 15 ?_;(try simp only [Act.put,aT,aZ,aS,sB,sZ,sS])
   refine tkU 16 ?_;(try simp only [Act.put,aT,aZ,aS,sB,sZ,sS])
   refine tkU 17 ?_;(try simp only [Act.put,aT,aZ,aS,sB,sZ,sS])
   refine tkU 18 ?_;(try simp only [Act.put,aT,aZ,aS,sB,sZ,sS])
   refine tkU 19 ?_;(try simp only [Act.put,aT,aZ,aS,sB,sZ,sS])
   refine tkU 20 ?_;(try simp only [Act.put,aT,aZ,aS,sB,sZ,sS])
   refine tkU 21 ?_;(try simp only [Act.put,aT,aZ,aS,sB,sZ,sS])
   refine tkU 22 ?_;(try simp only [Act.put,aT,aZ,aS,sB,sZ,sS])
   refine tkV (v:=?v10) 23 ?h10 ?r10;(case h10=>(intro w__ hSw;(try dsimp only at hSw);go_simp;try with_reducible rfl));(try simp only [Act.put,aT,aZ,aS,sB,sZ,sS])
   refine wpAnyH_done (by kernel_rfl) ?_ _
   have KL:Only [] W w1:=And.left (by assumption)
   have RL:=RW.keep KL
   have XL:=XW.keep KL
   have YL:=YW.keep KL
   have g0:=RL.cell 0 rfl
   have p0:=RL.frozen 0
   have g1:=RL.cell 1 rfl
   have p1:=RL.frozen 1
   obtain ⟨m0,m1,m2,m3⟩:=YL.c4
   go_wp2
   have Rf:=(RL.set 0 (.int .i64 0)).set 1 (.int .i64 0)
   simp only [List.set] at Rf
   obtain ⟨z0,z1⟩:=Rf.c2
   have Kf:Only [] w ((w1.setCell ⟨w.heap.size + 1 + 1,0,none⟩ (.int .i64 0)).setCell ⟨w.heap.size + 1 + 1,1,none⟩ (.int .i64 0)):=((KW.trans KL).setCell (by simp;omega) _).setCell (by simp;omega) _
   refine bodyPost_ret (v:=.tuple #[.agg #[.int .i64 0,.int .i64 0],.bool false]) (by simp [results,Tryz.results105,go_sem,z0,z1]) rfl ⟨by rw [Ha.out];rfl,Kf⟩
  ·have hw0:0 < c.words.length:=by have:=(Zjt.1 hP).2.1;omega
   obtain ⟨bw,ow,uw,rfl,-,cw0,hw⟩:=S2.atRow 0 hw0
   have hwd:word0 c = c.words[0]:=by unfold word0;rw [List.getD_eq_getElem?_getD,List.getElem?_eq_getElem hw0];rfl
   rw [<- hwd] at hw
   simp only [Nat.add_zero] at cw0
   have hwi:(0:Int) < (c.words.length:Int):=by omega
   have hwl:(word0 c).length<=9223372036854775807:=by obtain ⟨_,_,_,_,hq,-,hs⟩:=hw.open_;exact hs.bound
   obtain ⟨aw,lw,_,_,rfl,-,-⟩:=hw.open_
   rcases hS:solB x s (word0 c)
   ·have Ha:=zH (by unfold accC;rw [if_neg k1,if_pos k2,hP,hS];rfl:accC x s c = none)
    clear k1 k2 hwd
    go_enter Tryz.func105,Tryz.ntmps105
    go_upto_region 6 with fail
    have KW:Only [] w (((w.alloc (.cells #[.int .i64 x.points,.string x.names,.slice A3 x.moves.length C3] 26)).alloc (.cells #[.int .i64 c.kind,.slice B1 c.numbers.length D1,.slice (some ⟨bw,ow,none⟩) c.words.length D2,.slice B3 c.tables.length D3] 32)).alloc (.cells #[.int .i64 0,.int .i64 0] 52)):=(((Only.refl [] w).alloc _).alloc _).alloc _
    obtain ⟨W,hW⟩:∃ W,W = (((w.alloc (.cells #[.int .i64 x.points,.string x.names,.slice A3 x.moves.length C3] 26)).alloc (.cells #[.int .i64 c.kind,.slice B1 c.numbers.length D1,.slice (some ⟨bw,ow,none⟩) c.words.length D2,.slice B3 c.tables.length D3] 32)).alloc (.cells #[.int .i64 0,.int .i64 0] 52)):=⟨_,rfl⟩
    rw [<- hW] at X0 Y0 R0 KW c0 c1 c2 d0 d1 d2 d3 ⊢
    clear hW
    have XW:=X0
    have YW:=Y0
    have RW:=R0
    have pW:=zK h0 KW
    have cW:=zK hc0 KW
    have uW:=zK hu KW
    have cw:=KW.cell (by simp) cw0
    have wW:=zK hw KW
    refine wp_region_held_drew (S:=fun w'=>Only [] W w'/\w'.cell? ⟨w.heap.size,0,none⟩ = some (.int .i64 x.points)/\w'.cell? ⟨w.heap.size,1,none⟩ = some (.string x.names)/\w'.cell? ⟨w.heap.size,2,none⟩ = some (.slice A3 x.moves.length C3)/\w'.cell? ⟨w.heap.size + 1,0,none⟩ = some (.int .i64 c.kind)/\w'.cell? ⟨w.heap.size + 1,1,none⟩ = some (.slice B1 c.numbers.length D1)/\w'.cell? ⟨w.heap.size + 1,2,none⟩ = some (.slice (some ⟨bw,ow,none⟩) c.words.length D2)/\w'.cell? ⟨w.heap.size + 1,3,none⟩ = some (.slice B3 c.tables.length D3)/\w'.cell? ⟨bw,ow,none⟩ = some ((.slice aw (word0 c).length lw))) (by kernel_rfl) (and_of (Only.refl [] W).drew (fun q_=>⟨q_.ce c0,q_.ce c1,q_.ce c2,q_.ce d0,q_.ce d1,q_.ce d2,q_.ce d3,q_.ce cw⟩)) (fun hHeld=>?_)
    refine tkV (v:=?v11) 0 ?h11 ?r11;(case h11=>(intro w__ hSw;(try dsimp only at hSw);go_simp;try with_reducible rfl));(try simp only [Act.put,aT,aZ,sB,sZ,sS])
    refine wpAnyH_ready (rs:=[1]) (by kernel_rfl) (by simp) ?_
    refine AllReadyH.cons rfl (fun K hK=>?_) AllReadyH.nil
    go_simp
    (go_at_call 164;(with_reducible refine (Zao [.int .i64 c.kind,.slice B1 c.numbers.length D1,.slice (some ⟨bw,ow,none⟩) c.words.length D2,.slice B3 c.tables.length D3] c _ 0 1 true _ (zK cW zV)).mono ?_);rintro e w1 ⟨he,t1⟩;rw [hP] at he;subst he)
    go_wp2_with fail
    refine hK.out _ _ ?hS12 (fun hHeld=>?rest12)
    case hS12=>((refine and_of ?_ (fun q_=>⟨q_.ce c0,q_.ce c1,q_.ce c2,q_.ce d0,q_.ce d1,q_.ce d2,q_.ce d3,q_.ce cw⟩));first | exact Only.trans (And.left (by assumption)) (by assumption) | exact And.left (by assumption) | assumption)
    clear hK K
    (try simp only [Act.put,aT,aZ,aS,sB,sZ,sS])
    refine tkV (v:=?v13) 2 ?h13 ?r13;(case h13=>(intro w__ hSw;(try dsimp only at hSw);go_simp;try with_reducible rfl));(try simp only [Act.put,aT,aZ,aS,sB,sZ,sS])
    refine tkV (v:=?v14) 3 ?h14 ?r14;(case h14=>(intro w__ hSw;(try dsimp only at hSw);go_simp;try with_reducible rfl));(try simp only [Act.put,aT,aZ,aS,sB,sZ,sS])
    refine tkV (v:=?v15) 4 ?h15 ?r15;(case h15=>(intro w__ hSw;(try dsimp only at hSw);go_simp;try with_reducible rfl));(try simp only [Act.put,aT,aZ,aS,sB,sZ,sS])
    refine tkV (v:=?v16) 5 ?h16 ?r16;(case h16=>(intro w__ hSw;(try dsimp only at hSw);go_simp;try with_reducible rfl));(try simp only [Act.put,aT,aZ,aS,sB,sZ,sS])
    refine tkV (v:=?v17) 6 ?h17 ?r17;(case h17=>(intro w__ hSw;(try dsimp only at hSw);go_simp;try with_reducible rfl));(try simp only [Act.put,aT,aZ,aS,sB,sZ,sS])
    refine tkV (v:=?v18) 7 ?h18 ?r18;(case h18=>(intro w__ hSw;(try dsimp only at hSw);go_simp;try with_reducible rfl));(try simp only [Act.put,aT,aZ,aS,sB,sZ,sS])
    refine tkV (v:=?v19) 8 ?h19 ?r19;(case h19=>(intro w__ hSw;(try dsimp only at hSw);go_simp;try with_reducible rfl));(try simp only [Act.put,aT,aZ,aS,sB,sZ,sS])
    refine wpAnyH_ready (rs:=[9]) (by kernel_rfl) (by simp) ?_
    refine AllReadyH.cons rfl (fun K hK=>?_) AllReadyH.nil
    go_simp
    (go_at_call 165;(with_reducible refine (Zbz [.int .i64 x.points,.string x.names,.slice A3 x.moves.length C3] x _ u (.slice aw (word0 c).length lw) s (word0 c) _ _ _ (zK pW zV) (zK uW zV) (zK wW zV) hst).mono ?_);rintro e w2 ⟨he,t2⟩;rw [hS] at he;subst he)
    go_wp2_with fail
    refine hK.out _ _ ?hS20 (fun hHeld=>?rest20)
    case hS20=>((refine and_of ?_ (fun q_=>⟨q_.ce c0,q_.ce c1,q_.ce c2,q_.ce d0,q_.ce d1,q_.ce d2,q_.ce d3,q_.ce cw⟩));first | exact Only.trans (And.left (by assumption)) (by assumption) | exact And.left (by assumption) | assumption)
    clear hK K
    (try simp only [Act.put,aT,aZ,aS,sB,sZ,sS])
    refine tkV (v:=?v21) 10 ?h21 ?r21;(case h21=>(intro w__ hSw;(try dsimp only at hSw);go_simp;try with_reducible rfl));(try simp only [Act.put,aT,aZ,aS,sB,sZ,sS])
    refine tkV (v:=?v22) 11 ?h22 ?r22;(case h22=>(intro w__ hSw;(try dsimp only at hSw);go_simp;try with_reducible rfl));(try simp only [Act.put,aT,aZ,aS,sB,sZ,sS])
    refine tkU 12 ?_;(try simp only [Act.put,aT,aZ,aS,sB,sZ,sS])
    refine tkU 13 ?_;(try simp only [Act.put,aT,aZ,aS,sB,sZ,sS])
    refine tkU 14 ?_;(try simp only [Act.put,aT,aZ,aS,sB,sZ,sS])
    refine tkU 15 ?_;(try simp only [Act.put,aT,aZ,aS,sB,sZ,sS])
    refine tkU 16 ?_;(try simp only [Act.put,aT,aZ,aS,sB,sZ,sS])
    refine tkU 17 ?_;(try simp only [Act.put,aT,aZ,aS,sB,sZ,sS])
    refine tkU 18 ?_;(try simp only [Act.put,aT,aZ,aS,sB,sZ,sS])
    refine tkU 19 ?_;(try simp only [Act.put,aT,aZ,aS,sB,sZ,sS])
    refine tkU 20 ?_;(try simp only [Act.put,aT,aZ,aS,sB,sZ,sS])
    refine tkU 21 ?_;(try simp only [Act.put,aT,aZ,aS,sB,sZ,sS])
    refine tkU 22 ?_;(try simp only [Act.put,aT,aZ,aS,sB,sZ,sS])
    refine tkV (v:=?v23) 23 ?h23 ?r23;(case h23=>(intro w__ hSw;(try dsimp only at hSw);go_simp;try with_reducible rfl));(try simp only [Act.put,aT,aZ,aS,sB,sZ,sS])
    refine wpAnyH_done (by kernel_rfl) ?_ _
    have KL:Only [] W w2:=And.left (by assumption)
    have RL:=RW.keep KL
    have XL:=XW.keep KL
    have YL:=YW.keep KL
    have g0:=RL.cell 0 rfl
    have p0:=RL.frozen 0
    have g1:=RL.cell 1 rfl
    have p1:=RL.frozen 1
    obtain ⟨m0,m1,m2,m3⟩:=YL.c4
    go_wp2
    have Rf:=(RL.set 0 (.int .i64 0)).set 1 (.int .i64 0)
    simp only [List.set] at Rf
    obtain ⟨z0,z1⟩:=Rf.c2
    have Kf:Only [] w ((w2.setCell ⟨w.heap.size + 1 + 1,0,none⟩ (.int .i64 0)).setCell ⟨w.heap.size + 1 + 1,1,none⟩ (.int .i64 0)):=((KW.trans KL).setCell (by simp;omega) _).setCell (by simp;omega) _
    refine bodyPost_ret (v:=.tuple #[.agg #[.int .i64 0,.int .i64 0],.bool false]) (by simp [results,Tryz.results105,go_sem,z0,z1]) rfl ⟨by rw [Ha.out];rfl,Kf⟩
   ·obtain ⟨b,hbd⟩:∃ b,b = lb x c.tables s:=⟨_,rfl⟩
    have HB:=zH hbd.symm
    by_cases hE:b = (word0 c).length
    ·have hbe:(b == ((word0 c).length:Int)) = true:=by simp [hE]
     have Ha:=zH (by unfold accC;rw [if_neg k1,if_pos k2,hP,hS];simp only [if_true];rw [<- hbd,if_pos hE]:accC x s c = some ⟨2,(word0 c).length⟩)
     clear k1 k2 hwd hbd hE
     go_enter Tryz.func105,Tryz.ntmps105
     go_upto_region 6 with fail
     have KW:Only [] w (((w.alloc (.cells #[.int .i64 x.points,.string x.names,.slice A3 x.moves.length C3] 26)).alloc (.cells #[.int .i64 c.kind,.slice B1 c.numbers.length D1,.slice (some ⟨bw,ow,none⟩) c.words.length D2,.slice B3 c.tables.length D3] 32)).alloc (.cells #[.int .i64 0,.int .i64 0] 52)):=(((Only.refl [] w).alloc _).alloc _).alloc _
     obtain ⟨W,hW⟩:∃ W,W = (((w.alloc (.cells #[.int .i64 x.points,.string x.names,.slice A3 x.moves.length C3] 26)).alloc (.cells #[.int .i64 c.kind,.slice B1 c.numbers.length D1,.slice (some ⟨bw,ow,none⟩) c.words.length D2,.slice B3 c.tables.length D3] 32)).alloc (.cells #[.int .i64 0,.int .i64 0] 52)):=⟨_,rfl⟩
     rw [<- hW] at X0 Y0 R0 KW c0 c1 c2 d0 d1 d2 d3 ⊢
     clear hW
     have XW:=X0
     have YW:=Y0
     have RW:=R0
     have pW:=zK h0 KW
     have cW:=zK hc0 KW
     have uW:=zK hu KW
     have cw:=KW.cell (by simp) cw0
     have wW:=zK hw KW
     have tW:=zK i3 KW
     go_region_held3 (fun w'=>Only [] W w'/\w'.cell? ⟨w.heap.size,0,none⟩ = some (.int .i64 x.points)/\w'.cell? ⟨w.heap.size,1,none⟩ = some (.string x.names)/\w'.cell? ⟨w.heap.size,2,none⟩ = some (.slice A3 x.moves.length C3)/\w'.cell? ⟨w.heap.size + 1,0,none⟩ = some (.int .i64 c.kind)/\w'.cell? ⟨w.heap.size + 1,1,none⟩ = some (.slice B1 c.numbers.length D1)/\w'.cell? ⟨w.heap.size + 1,2,none⟩ = some (.slice (some ⟨bw,ow,none⟩) c.words.length D2)/\w'.cell? ⟨w.heap.size + 1,3,none⟩ = some (.slice B3 c.tables.length D3)/\w'.cell? ⟨bw,ow,none⟩ = some ((.slice aw (word0 c).length lw))) (((refine and_of ?_ (fun q_=>⟨q_.ce c0,q_.ce c1,q_.ce c2,q_.ce d0,q_.ce d1,q_.ce d2,q_.ce d3,q_.ce cw⟩));first | exact zO.drew | exact (zO.drewN _).drew | exact Only.trans (And.left (by assumption)) (by assumption) | exact Only.alloc (And.left (by assumption)) _ | assumption)) (first | (go_at_call 164;(with_reducible refine (Zao [.int .i64 c.kind,.slice B1 c.numbers.length D1,.slice (some ⟨bw,ow,none⟩) c.words.length D2,.slice B3 c.tables.length D3] c _ 0 1 true _ (zK cW zV)).mono ?_);rintro e w1 ⟨he,t1⟩;rw [hP] at he;subst he) | (go_at_call 165;(with_reducible refine (Zbz [.int .i64 x.points,.string x.names,.slice A3 x.moves.length C3] x _ u (.slice aw (word0 c).length lw) s (word0 c) _ _ _ (zK pW zV) (zK uW zV) (zK wW zV) hst).mono ?_);rintro e w2 ⟨he,t2⟩;rw [hS] at he;subst he) | (go_at_call 45;(with_reducible refine (Zas [.int .i64 x.points,.string x.names,.slice A3 x.moves.length C3] x _ (.slice B3 c.tables.length D3) c.tables _ u s _ _ (zK pW zV) (zK tW zV) (zK uW zV) hsm).mono ?_);rintro e w3 ⟨he,t3⟩;rw [HB.out] at he;subst he) | fail)
     have KL:Only [] W w3:=And.left (by assumption)
     have RL:=RW.keep KL
     have XL:=XW.keep KL
     have YL:=YW.keep KL
     have g0:=RL.cell 0 rfl
     have p0:=RL.frozen 0
     have g1:=RL.cell 1 rfl
     have p1:=RL.frozen 1
     obtain ⟨m0,m1,m2,m3⟩:=YL.c4
     have mw:=KL.cell (by simp) cw
     go_wp2
     have Rf:=(RL.set 0 (.int .i64 2)).set 1 (.int .i64 (word0 c).length)
     simp only [List.set] at Rf
     obtain ⟨z0,z1⟩:=Rf.c2
     have Kf:Only [] w ((w3.setCell ⟨w.heap.size + 1 + 1,0,none⟩ (.int .i64 2)).setCell ⟨w.heap.size + 1 + 1,1,none⟩ (.int .i64 (word0 c).length)):=((KW.trans KL).setCell (by simp;omega) _).setCell (by simp;omega) _
     refine bodyPost_ret (v:=.tuple #[.agg #[.int .i64 2,.int .i64 (word0 c).length],.bool true]) (by simp [results,Tryz.results105,go_sem,z0,z1]) rfl ⟨by rw [Ha.out];rfl,Kf⟩
    ·have hbe:(b == ((word0 c).length:Int)) = false:=by simp [hE]
     have Ha:=zH (by unfold accC;rw [if_neg k1,if_pos k2,hP,hS];simp only [if_true];rw [<- hbd,if_neg hE]:accC x s c = none)
     clear k1 k2 hwd hbd hE
     go_enter Tryz.func105,Tryz.ntmps105
     go_upto_region 6 with fail
     have KW:Only [] w (((w.alloc (.cells #[.int .i64 x.points,.string x.names,.slice A3 x.moves.length C3] 26)).alloc (.cells #[.int .i64 c.kind,.slice B1 c.numbers.length D1,.slice (some ⟨bw,ow,none⟩) c.words.length D2,.slice B3 c.tables.length D3] 32)).alloc (.cells #[.int .i64 0,.int .i64 0] 52)):=(((Only.refl [] w).alloc _).alloc _).alloc _
     obtain ⟨W,hW⟩:∃ W,W = (((w.alloc (.cells #[.int .i64 x.points,.string x.names,.slice A3 x.moves.length C3] 26)).alloc (.cells #[.int .i64 c.kind,.slice B1 c.numbers.length D1,.slice (some ⟨bw,ow,none⟩) c.words.length D2,.slice B3 c.tables.length D3] 32)).alloc (.cells #[.int .i64 0,.int .i64 0] 52)):=⟨_,rfl⟩
     rw [<- hW] at X0 Y0 R0 KW c0 c1 c2 d0 d1 d2 d3 ⊢
     clear hW
     have XW:=X0
     have YW:=Y0
     have RW:=R0
     have pW:=zK h0 KW
     have cW:=zK hc0 KW
     have uW:=zK hu KW
     have cw:=KW.cell (by simp) cw0
     have wW:=zK hw KW
     have tW:=zK i3 KW
     go_region_held3 (fun w'=>Only [] W w'/\w'.cell? ⟨w.heap.size,0,none⟩ = some (.int .i64 x.points)/\w'.cell? ⟨w.heap.size,1,none⟩ = some (.string x.names)/\w'.cell? ⟨w.heap.size,2,none⟩ = some (.slice A3 x.moves.length C3)/\w'.cell? ⟨w.heap.size + 1,0,none⟩ = some (.int .i64 c.kind)/\w'.cell? ⟨w.heap.size + 1,1,none⟩ = some (.slice B1 c.numbers.length D1)/\w'.cell? ⟨w.heap.size + 1,2,none⟩ = some (.slice (some ⟨bw,ow,none⟩) c.words.length D2)/\w'.cell? ⟨w.heap.size + 1,3,none⟩ = some (.slice B3 c.tables.length D3)/\w'.cell? ⟨bw,ow,none⟩ = some ((.slice aw (word0 c).length lw))) (((refine and_of ?_ (fun q_=>⟨q_.ce c0,q_.ce c1,q_.ce c2,q_.ce d0,q_.ce d1,q_.ce d2,q_.ce d3,q_.ce cw⟩));first | exact zO.drew | exact (zO.drewN _).drew | exact Only.trans (And.left (by assumption)) (by assumption) | exact Only.alloc (And.left (by assumption)) _ | assumption)) (first | (go_at_call 164;(with_reducible refine (Zao [.int .i64 c.kind,.slice B1 c.numbers.length D1,.slice (some ⟨bw,ow,none⟩) c.words.length D2,.slice B3 c.tables.length D3] c _ 0 1 true _ (zK cW zV)).mono ?_);rintro e w1 ⟨he,t1⟩;rw [hP] at he;subst he) | (go_at_call 165;(with_reducible refine (Zbz [.int .i64 x.points,.string x.names,.slice A3 x.moves.length C3] x _ u (.slice aw (word0 c).length lw) s (word0 c) _ _ _ (zK pW zV) (zK uW zV) (zK wW zV) hst).mono ?_);rintro e w2 ⟨he,t2⟩;rw [hS] at he;subst he) | (go_at_call 45;(with_reducible refine (Zas [.int .i64 x.points,.string x.names,.slice A3 x.moves.length C3] x _ (.slice B3 c.tables.length D3) c.tables _ u s _ _ (zK pW zV) (zK tW zV) (zK uW zV) hsm).mono ?_);rintro e w3 ⟨he,t3⟩;rw [HB.out] at he;subst he) | fail)
     have KL:Only [] W w3:=And.left (by assumption)
     have RL:=RW.keep KL
     have XL:=XW.keep KL
     have YL:=YW.keep KL
     have g0:=RL.cell 0 rfl
     have p0:=RL.frozen 0
     have g1:=RL.cell 1 rfl
     have p1:=RL.frozen 1
     obtain ⟨m0,m1,m2,m3⟩:=YL.c4
     go_wp2
     have Rf:=(RL.set 0 (.int .i64 0)).set 1 (.int .i64 0)
     simp only [List.set] at Rf
     obtain ⟨z0,z1⟩:=Rf.c2
     have Kf:Only [] w ((w3.setCell ⟨w.heap.size + 1 + 1,0,none⟩ (.int .i64 0)).setCell ⟨w.heap.size + 1 + 1,1,none⟩ (.int .i64 0)):=((KW.trans KL).setCell (by simp;omega) _).setCell (by simp;omega) _
     refine bodyPost_ret (v:=.tuple #[.agg #[.int .i64 0,.int .i64 0],.bool false]) (by simp [results,Tryz.results105,go_sem,z0,z1]) rfl ⟨by rw [Ha.out];rfl,Kf⟩
 have kb2:(c.kind == 2) = false:=by simp [k2]
 by_cases k3:c.kind = 3
 ·have kb:(c.kind == 3) = true:=by simp [k3]
  rcases hP:hasP c 1 0 true
  ·have Ha:=zH (by unfold accC;rw [if_neg k1,if_neg k2,if_pos k3,hP];rfl:accC x s c = none)
   clear k1 k2 k3
   go_enter Tryz.func105,Tryz.ntmps105
   go_upto_region 9 with fail
   have KW:Only [] w (((w.alloc (.cells #[.int .i64 x.points,.string x.names,.slice A3 x.moves.length C3] 26)).alloc (.cells #[.int .i64 c.kind,.slice B1 c.numbers.length D1,.slice B2 c.words.length D2,.slice B3 c.tables.length D3] 32)).alloc (.cells #[.int .i64 0,.int .i64 0] 52)):=(((Only.refl [] w).alloc _).alloc _).alloc _
   obtain ⟨W,hW⟩:∃ W,W = (((w.alloc (.cells #[.int .i64 x.points,.string x.names,.slice A3 x.moves.length C3] 26)).alloc (.cells #[.int .i64 c.kind,.slice B1 c.numbers.length D1,.slice B2 c.words.length D2,.slice B3 c.tables.length D3] 32)).alloc (.cells #[.int .i64 0,.int .i64 0] 52)):=⟨_,rfl⟩
   rw [<- hW] at X0 Y0 R0 KW c0 c1 c2 d0 d1 d2 d3 ⊢
   clear hW
   have XW:=X0
   have YW:=Y0
   have RW:=R0
   have pW:=zK h0 KW
   have cW:=zK hc0 KW
   have uW:=zK hu KW
   refine wp_region_held_drew (S:=fun w'=>Only [] W w'/\w'.cell? ⟨w.heap.size,0,none⟩ = some (.int .i64 x.points)/\w'.cell? ⟨w.heap.size,1,none⟩ = some (.string x.names)/\w'.cell? ⟨w.heap.size,2,none⟩ = some (.slice A3 x.moves.length C3)/\w'.cell? ⟨w.heap.size + 1,0,none⟩ = some (.int .i64 c.kind)/\w'.cell? ⟨w.heap.size + 1,1,none⟩ = some (.slice B1 c.numbers.length D1)/\w'.cell? ⟨w.heap.size + 1,2,none⟩ = some (.slice B2 c.words.length D2)/\w'.cell? ⟨w.heap.size + 1,3,none⟩ = some (.slice B3 c.tables.length D3)) (by kernel_rfl) (and_of (Only.refl [] W).drew (fun q_=>⟨q_.ce c0,q_.ce c1,q_.ce c2,q_.ce d0,q_.ce d1,q_.ce d2,q_.ce d3⟩)) (fun hHeld=>?_)
   refine tkV (v:=?v24) 0 ?h24 ?r24;(case h24=>(intro w__ hSw;(try dsimp only at hSw);go_simp;try with_reducible rfl));(try simp only [Act.put,aT,aZ,sB,sZ,sS])
   refine wpAnyH_ready (rs:=[1]) (by kernel_rfl) (by simp) ?_
   refine AllReadyH.cons rfl (fun K hK=>?_) AllReadyH.nil
   go_simp
   (go_at_call 164;(with_reducible refine (Zao [.int .i64 c.kind,.slice B1 c.numbers.length D1,.slice B2 c.words.length D2,.slice B3 c.tables.length D3] c _ 1 0 true _ (zK cW zV)).mono ?_);rintro e w1 ⟨he,t1⟩;rw [hP] at he;subst he)
   go_wp2_with fail
   refine hK.out _ _ ?hS25 (fun hHeld=>?rest25)
   case hS25=>((refine and_of ?_ (fun q_=>⟨q_.ce c0,q_.ce c1,q_.ce c2,q_.ce d0,q_.ce d1,q_.ce d2,q_.ce d3⟩));first | exact Only.trans (And.left (by assumption)) (by assumption) | exact And.left (by assumption) | assumption)
   clear hK K
   (try simp only [Act.put,aT,aZ,aS,sB,sZ,sS])
   refine tkV (v:=?v26) 2 ?h26 ?r26;(case h26=>(intro w__ hSw;(try dsimp only at hSw);go_simp;try with_reducible rfl));(try simp only [Act.put,aT,aZ,aS,sB,sZ,sS])
   refine tkU 3 ?_;(try simp only [Act.put,aT,aZ,aS,sB,sZ,sS])
   refine tkU 4 ?_;(try simp only [Act.put,aT,aZ,aS,sB,sZ,sS])
   refine tkU 5 ?_;(try simp only [Act.put,aT,aZ,aS,sB,sZ,sS])
   refine tkU 6 ?_;(try simp only [Act.put,aT,aZ,aS,sB,sZ,sS])
   refine tkU 7 ?_;(try simp only [Act.put,aT,aZ,aS,sB,sZ,sS])
   refine tkV (v:=?v27) 8 ?h27 ?r27;(case h27=>(intro w__ hSw;(try dsimp only at hSw);go_simp;try with_reducible rfl));(try simp only [Act.put,aT,aZ,aS,sB,sZ,sS])
   refine tkV (v:=?v28) 9 ?h28 ?r28;(case h28=>(intro w__ hSw;(try dsimp only at hSw);go_simp;try with_reducible rfl));(try simp only [Act.put,aT,aZ,aS,sB,sZ,sS])
   refine tkU 10 ?_;(try simp only [Act.put,aT,aZ,aS,sB,sZ,sS])
   refine tkU 11 ?_;(try simp only [Act.put,aT,aZ,aS,sB,sZ,sS])
   refine tkU 12 ?_;(try simp only [Act.put,aT,aZ,aS,sB,sZ,sS])
   refine tkU 13 ?_;(try simp only [Act.put,aT,aZ,aS,sB,sZ,sS])
   refine tkU 14 ?_;(try simp only [Act.put,aT,aZ,aS,sB,sZ,sS])
   refine tkU 15 ?_;(try simp only [Act.put,aT,aZ,aS,sB,sZ,sS])
   refine tkU 16 ?_;(try simp only [Act.put,aT,aZ,aS,sB,sZ,sS])
   refine tkU 17 ?_;(try simp only [Act.put,aT,aZ,aS,sB,sZ,sS])
   refine tkU 18 ?_;(try simp only [Act.put,aT,aZ,aS,sB,sZ,sS])
   refine tkU 19 ?_;(try simp only [Act.put,aT,aZ,aS,sB,sZ,sS])
   refine tkV (v:=?v29) 20 ?h29 ?r29;(case h29=>(intro w__ hSw;(try dsimp only at hSw);go_simp;try with_reducible rfl));(try simp only [Act.put,aT,aZ,aS,sB,sZ,sS])
   refine wpAnyH_done (by kernel_rfl) ?_ _
   have KL:Only [] W w1:=And.left (by assumption)
   have RL:=RW.keep KL
   have XL:=XW.keep KL
   have YL:=YW.keep KL
   have g0:=RL.cell 0 rfl
   have p0:=RL.frozen 0
   have g1:=RL.cell 1 rfl
   have p1:=RL.frozen 1
   obtain ⟨m0,m1,m2,m3⟩:=YL.c4
   go_wp2
   have Rf:=(RL.set 0 (.int .i64 0)).set 1 (.int .i64 0)
   simp only [List.set] at Rf
   obtain ⟨z0,z1⟩:=Rf.c2
   have Kf:Only [] w ((w1.setCell ⟨w.heap.size + 1 + 1,0,none⟩ (.int .i64 0)).setCell ⟨w.heap.size + 1 + 1,1,none⟩ (.int .i64 0)):=((KW.trans KL).setCell (by simp;omega) _).setCell (by simp;omega) _
   refine bodyPost_ret (v:=.tuple #[.agg #[.int .i64 0,.int .i64 0],.bool false]) (by simp [results,Tryz.results105,go_sem,z0,z1]) rfl ⟨by rw [Ha.out];rfl,Kf⟩
  ·have hn0:0 < c.numbers.length:=by have:=(Zjt.1 hP).1;omega
   obtain ⟨bn,on,rfl,-,cn0⟩:=I1.at_ 0 hn0
   have hnd:num0 c = c.numbers[0]:=by unfold num0;rw [List.getD_eq_getElem?_getD,List.getElem?_eq_getElem hn0];rfl
   rw [<- hnd] at cn0
   simp only [Nat.add_zero] at cn0
   have hni:(0:Int) < (c.numbers.length:Int):=by omega
   by_cases hN:0<=num0 c
   ·obtain ⟨b,hbd⟩:∃ b,b = lb x c.tables s:=⟨_,rfl⟩
    have HB:=zH hbd.symm
    by_cases hE:num0 c<=b
    ·have Ha:=zH (by unfold accC;rw [if_neg k1,if_neg k2,if_pos k3,hP];simp only [if_true];rw [<- hbd,if_pos hN,if_pos hE]:accC x s c = some ⟨3,num0 c⟩)
     clear k1 k2 k3 hnd hbd
     go_enter Tryz.func105,Tryz.ntmps105
     go_upto_region 9 with fail
     have KW:Only [] w (((w.alloc (.cells #[.int .i64 x.points,.string x.names,.slice A3 x.moves.length C3] 26)).alloc (.cells #[.int .i64 c.kind,.slice (some ⟨bn,on,none⟩) c.numbers.length D1,.slice B2 c.words.length D2,.slice B3 c.tables.length D3] 32)).alloc (.cells #[.int .i64 0,.int .i64 0] 52)):=(((Only.refl [] w).alloc _).alloc _).alloc _
     obtain ⟨W,hW⟩:∃ W,W = (((w.alloc (.cells #[.int .i64 x.points,.string x.names,.slice A3 x.moves.length C3] 26)).alloc (.cells #[.int .i64 c.kind,.slice (some ⟨bn,on,none⟩) c.numbers.length D1,.slice B2 c.words.length D2,.slice B3 c.tables.length D3] 32)).alloc (.cells #[.int .i64 0,.int .i64 0] 52)):=⟨_,rfl⟩
     rw [<- hW] at X0 Y0 R0 KW c0 c1 c2 d0 d1 d2 d3 ⊢
     clear hW
     have XW:=X0
     have YW:=Y0
     have RW:=R0
     have pW:=zK h0 KW
     have cW:=zK hc0 KW
     have uW:=zK hu KW
     have cn:=KW.cell (by simp) cn0
     have tW:=zK i3 KW
     go_region_held3 (fun w'=>Only [] W w'/\w'.cell? ⟨w.heap.size,0,none⟩ = some (.int .i64 x.points)/\w'.cell? ⟨w.heap.size,1,none⟩ = some (.string x.names)/\w'.cell? ⟨w.heap.size,2,none⟩ = some (.slice A3 x.moves.length C3)/\w'.cell? ⟨w.heap.size + 1,0,none⟩ = some (.int .i64 c.kind)/\w'.cell? ⟨w.heap.size + 1,1,none⟩ = some (.slice (some ⟨bn,on,none⟩) c.numbers.length D1)/\w'.cell? ⟨w.heap.size + 1,2,none⟩ = some (.slice B2 c.words.length D2)/\w'.cell? ⟨w.heap.size + 1,3,none⟩ = some (.slice B3 c.tables.length D3)/\w'.cell? ⟨bn,on,none⟩ = some (.int .i64 (num0 c))) (((refine and_of ?_ (fun q_=>⟨q_.ce c0,q_.ce c1,q_.ce c2,q_.ce d0,q_.ce d1,q_.ce d2,q_.ce d3,q_.ce cn⟩));first | exact zO.drew | exact (zO.drewN _).drew | exact Only.trans (And.left (by assumption)) (by assumption) | exact Only.alloc (And.left (by assumption)) _ | assumption)) (first | (go_at_call 164;(with_reducible refine (Zao [.int .i64 c.kind,.slice (some ⟨bn,on,none⟩) c.numbers.length D1,.slice B2 c.words.length D2,.slice B3 c.tables.length D3] c _ 1 0 true _ (zK cW zV)).mono ?_);rintro e w1 ⟨he,t1⟩;rw [hP] at he;subst he) | (go_at_call 45;(with_reducible refine (Zas [.int .i64 x.points,.string x.names,.slice A3 x.moves.length C3] x _ (.slice B3 c.tables.length D3) c.tables _ u s _ _ (zK pW zV) (zK tW zV) (zK uW zV) hsm).mono ?_);rintro e w3 ⟨he,t3⟩;rw [HB.out] at he;subst he) | fail)
     have KL:Only [] W w3:=And.left (by assumption)
     have RL:=RW.keep KL
     have XL:=XW.keep KL
     have YL:=YW.keep KL
     have g0:=RL.cell 0 rfl
     have p0:=RL.frozen 0
     have g1:=RL.cell 1 rfl
     have p1:=RL.frozen 1
     obtain ⟨m0,m1,m2,m3⟩:=YL.c4
     have mn:=KL.cell (by simp) cn
     go_wp2
     have Rf:=(RL.set 0 (.int .i64 3)).set 1 (.int .i64 (num0 c))
     simp only [List.set] at Rf
     obtain ⟨z0,z1⟩:=Rf.c2
     have Kf:Only [] w ((w3.setCell ⟨w.heap.size + 1 + 1,0,none⟩ (.int .i64 3)).setCell ⟨w.heap.size + 1 + 1,1,none⟩ (.int .i64 (num0 c))):=((KW.trans KL).setCell (by simp;omega) _).setCell (by simp;omega) _
     refine bodyPost_ret (v:=.tuple #[.agg #[.int .i64 3,.int .i64 (num0 c)],.bool true]) (by simp [results,Tryz.results105,go_sem,z0,z1]) rfl ⟨by rw [Ha.out];rfl,Kf⟩
    ·have Ha:=zH (by unfold accC;rw [if_neg k1,if_neg k2,if_pos k3,hP];simp only [if_true];rw [<- hbd,if_pos hN,if_neg hE]:accC x s c = none)
     clear k1 k2 k3 hnd hbd
     go_enter Tryz.func105,Tryz.ntmps105
     go_upto_region 9 with fail
     have KW:Only [] w (((w.alloc (.cells #[.int .i64 x.points,.string x.names,.slice A3 x.moves.length C3] 26)).alloc (.cells #[.int .i64 c.kind,.slice (some ⟨bn,on,none⟩) c.numbers.length D1,.slice B2 c.words.length D2,.slice B3 c.tables.length D3] 32)).alloc (.cells #[.int .i64 0,.int .i64 0] 52)):=(((Only.refl [] w).alloc _).alloc _).alloc _
     obtain ⟨W,hW⟩:∃ W,W = (((w.alloc (.cells #[.int .i64 x.points,.string x.names,.slice A3 x.moves.length C3] 26)).alloc (.cells #[.int .i64 c.kind,.slice (some ⟨bn,on,none⟩) c.numbers.length D1,.slice B2 c.words.length D2,.slice B3 c.tables.length D3] 32)).alloc (.cells #[.int .i64 0,.int .i64 0] 52)):=⟨_,rfl⟩
     rw [<- hW] at X0 Y0 R0 KW c0 c1 c2 d0 d1 d2 d3 ⊢
     clear hW
     have XW:=X0
     have YW:=Y0
     have RW:=R0
     have pW:=zK h0 KW
     have cW:=zK hc0 KW
     have uW:=zK hu KW
     have cn:=KW.cell (by simp) cn0
     have tW:=zK i3 KW
     go_region_held3 (fun w'=>Only [] W w'/\w'.cell? ⟨w.heap.size,0,none⟩ = some (.int .i64 x.points)/\w'.cell? ⟨w.heap.size,1,none⟩ = some (.string x.names)/\w'.cell? ⟨w.heap.size,2,none⟩ = some (.slice A3 x.moves.length C3)/\w'.cell? ⟨w.heap.size + 1,0,none⟩ = some (.int .i64 c.kind)/\w'.cell? ⟨w.heap.size + 1,1,none⟩ = some (.slice (some ⟨bn,on,none⟩) c.numbers.length D1)/\w'.cell? ⟨w.heap.size + 1,2,none⟩ = some (.slice B2 c.words.length D2)/\w'.cell? ⟨w.heap.size + 1,3,none⟩ = some (.slice B3 c.tables.length D3)/\w'.cell? ⟨bn,on,none⟩ = some (.int .i64 (num0 c))) (((refine and_of ?_ (fun q_=>⟨q_.ce c0,q_.ce c1,q_.ce c2,q_.ce d0,q_.ce d1,q_.ce d2,q_.ce d3,q_.ce cn⟩));first | exact zO.drew | exact (zO.drewN _).drew | exact Only.trans (And.left (by assumption)) (by assumption) | exact Only.alloc (And.left (by assumption)) _ | assumption)) (first | (go_at_call 164;(with_reducible refine (Zao [.int .i64 c.kind,.slice (some ⟨bn,on,none⟩) c.numbers.length D1,.slice B2 c.words.length D2,.slice B3 c.tables.length D3] c _ 1 0 true _ (zK cW zV)).mono ?_);rintro e w1 ⟨he,t1⟩;rw [hP] at he;subst he) | (go_at_call 45;(with_reducible refine (Zas [.int .i64 x.points,.string x.names,.slice A3 x.moves.length C3] x _ (.slice B3 c.tables.length D3) c.tables _ u s _ _ (zK pW zV) (zK tW zV) (zK uW zV) hsm).mono ?_);rintro e w3 ⟨he,t3⟩;rw [HB.out] at he;subst he) | fail)
     have KL:Only [] W w3:=And.left (by assumption)
     have RL:=RW.keep KL
     have XL:=XW.keep KL
     have YL:=YW.keep KL
     have g0:=RL.cell 0 rfl
     have p0:=RL.frozen 0
     have g1:=RL.cell 1 rfl
     have p1:=RL.frozen 1
     obtain ⟨m0,m1,m2,m3⟩:=YL.c4
     go_wp2
     have Rf:=(RL.set 0 (.int .i64 0)).set 1 (.int .i64 0)
     simp only [List.set] at Rf
     obtain ⟨z0,z1⟩:=Rf.c2
     have Kf:Only [] w ((w3.setCell ⟨w.heap.size + 1 + 1,0,none⟩ (.int .i64 0)).setCell ⟨w.heap.size + 1 + 1,1,none⟩ (.int .i64 0)):=((KW.trans KL).setCell (by simp;omega) _).setCell (by simp;omega) _
     refine bodyPost_ret (v:=.tuple #[.agg #[.int .i64 0,.int .i64 0],.bool false]) (by simp [results,Tryz.results105,go_sem,z0,z1]) rfl ⟨by rw [Ha.out];rfl,Kf⟩
   ·have Ha:=zH (by unfold accC;rw [if_neg k1,if_neg k2,if_pos k3,hP];simp only [if_true];rw [if_neg hN]:accC x s c = none)
    clear k1 k2 k3 hnd
    go_enter Tryz.func105,Tryz.ntmps105
    go_upto_region 9 with fail
    have KW:Only [] w (((w.alloc (.cells #[.int .i64 x.points,.string x.names,.slice A3 x.moves.length C3] 26)).alloc (.cells #[.int .i64 c.kind,.slice (some ⟨bn,on,none⟩) c.numbers.length D1,.slice B2 c.words.length D2,.slice B3 c.tables.length D3] 32)).alloc (.cells #[.int .i64 0,.int .i64 0] 52)):=(((Only.refl [] w).alloc _).alloc _).alloc _
    obtain ⟨W,hW⟩:∃ W,W = (((w.alloc (.cells #[.int .i64 x.points,.string x.names,.slice A3 x.moves.length C3] 26)).alloc (.cells #[.int .i64 c.kind,.slice (some ⟨bn,on,none⟩) c.numbers.length D1,.slice B2 c.words.length D2,.slice B3 c.tables.length D3] 32)).alloc (.cells #[.int .i64 0,.int .i64 0] 52)):=⟨_,rfl⟩
    rw [<- hW] at X0 Y0 R0 KW c0 c1 c2 d0 d1 d2 d3 ⊢
    clear hW
    have XW:=X0
    have YW:=Y0
    have RW:=R0
    have pW:=zK h0 KW
    have cW:=zK hc0 KW
    have uW:=zK hu KW
    have cn:=KW.cell (by simp) cn0
    have hNb:decide (0<=num0 c) = false:=decide_eq_false (by omega)
    clear hN
    refine wp_region_held_drew (S:=fun w'=>Only [] W w'/\w'.cell? ⟨w.heap.size,0,none⟩ = some (.int .i64 x.points)/\w'.cell? ⟨w.heap.size,1,none⟩ = some (.string x.names)/\w'.cell? ⟨w.heap.size,2,none⟩ = some (.slice A3 x.moves.length C3)/\w'.cell? ⟨w.heap.size + 1,0,none⟩ = some (.int .i64 c.kind)/\w'.cell? ⟨w.heap.size + 1,1,none⟩ = some (.slice (some ⟨bn,on,none⟩) c.numbers.length D1)/\w'.cell? ⟨w.heap.size + 1,2,none⟩ = some (.slice B2 c.words.length D2)/\w'.cell? ⟨w.heap.size + 1,3,none⟩ = some (.slice B3 c.tables.length D3)/\w'.cell? ⟨bn,on,none⟩ = some (.int .i64 (num0 c))) (by kernel_rfl) (and_of (Only.refl [] W).drew (fun q_=>⟨q_.ce c0,q_.ce c1,q_.ce c2,q_.ce d0,q_.ce d1,q_.ce d2,q_.ce d3,q_.ce cn⟩)) (fun hHeld=>?_)
    refine tkV (v:=?v30) 0 ?h30 ?r30;(case h30=>(intro w__ hSw;(try dsimp only at hSw);go_simp;try with_reducible rfl));(try simp only [Act.put,aT,aZ,sB,sZ,sS])
    refine wpAnyH_ready (rs:=[1]) (by kernel_rfl) (by simp) ?_
    refine AllReadyH.cons rfl (fun K hK=>?_) AllReadyH.nil
    go_simp
    (go_at_call 164;(with_reducible refine (Zao [.int .i64 c.kind,.slice (some ⟨bn,on,none⟩) c.numbers.length D1,.slice B2 c.words.length D2,.slice B3 c.tables.length D3] c _ 1 0 true _ (zK cW zV)).mono ?_);rintro e w1 ⟨he,t1⟩;rw [hP] at he;subst he)
    go_wp2_with fail
    refine hK.out _ _ ?hS31 (fun hHeld=>?rest31)
    case hS31=>((refine and_of ?_ (fun q_=>⟨q_.ce c0,q_.ce c1,q_.ce c2,q_.ce d0,q_.ce d1,q_.ce d2,q_.ce d3,q_.ce cn⟩));first | exact Only.trans (And.left (by assumption)) (by assumption) | exact And.left (by assumption) | assumption)
    clear hK K
    (try simp only [Act.put,aT,aZ,aS,sB,sZ,sS])
    refine tkV (v:=?v32) 2 ?h32 ?r32;(case h32=>(intro w__ hSw;(try dsimp only at hSw);go_simp;try with_reducible rfl));(try simp only [Act.put,aT,aZ,aS,sB,sZ,sS])
    refine tkV (v:=?v33) 3 ?h33 ?r33;(case h33=>(intro w__ hSw;(try dsimp only at hSw);go_simp;try with_reducible rfl));(try simp only [Act.put,aT,aZ,aS,sB,sZ,sS])
    refine tkV (v:=?v34) 4 ?h34 ?r34;(case h34=>(intro w__ hSw;(try dsimp only at hSw);go_simp;try with_reducible rfl));(try simp only [Act.put,aT,aZ,aS,sB,sZ,sS])
    refine tkV (v:=?v35) 5 ?h35 ?r35;(case h35=>(intro w__ hSw;(try dsimp only at hSw);go_simp;try with_reducible rfl));(try simp only [Act.put,aT,aZ,aS,sB,sZ,sS])
    refine tkV (v:=?v36) 6 ?h36 ?r36;(case h36=>(intro w__ hSw;(try dsimp only at hSw);go_simp;try with_reducible rfl));(try simp only [Act.put,aT,aZ,aS,sB,sZ,sS])
    refine tkV (v:=?v37) 7 ?h37 ?r37;(case h37=>(intro w__ hSw;(try dsimp only at hSw);go_simp;try with_reducible rfl));(try simp only [Act.put,aT,aZ,aS,sB,sZ,sS])
    refine tkV (v:=?v38) 8 ?h38 ?r38;(case h38=>(intro w__ hSw;(try dsimp only at hSw);go_simp;try with_reducible rfl));(try simp only [Act.put,aT,aZ,aS,sB,sZ,sS])
    refine tkV (v:=?v39) 9 ?h39 ?r39;(case h39=>(intro w__ hSw;(try dsimp only at hSw);go_simp;try with_reducible rfl));(try simp only [Act.put,aT,aZ,aS,sB,sZ,sS])
    refine tkU 10 ?_;(try simp only [Act.put,aT,aZ,aS,sB,sZ,sS])
    refine tkU 11 ?_;(try simp only [Act.put,aT,aZ,aS,sB,sZ,sS])
    refine tkU 12 ?_;(try simp only [Act.put,aT,aZ,aS,sB,sZ,sS])
    refine tkU 13 ?_;(try simp only [Act.put,aT,aZ,aS,sB,sZ,sS])
    refine tkU 14 ?_;(try simp only [Act.put,aT,aZ,aS,sB,sZ,sS])
    refine tkU 15 ?_;(try simp only [Act.put,aT,aZ,aS,sB,sZ,sS])
    refine tkU 16 ?_;(try simp only [Act.put,aT,aZ,aS,sB,sZ,sS])
    refine tkU 17 ?_;(try simp only [Act.put,aT,aZ,aS,sB,sZ,sS])
    refine tkU 18 ?_;(try simp only [Act.put,aT,aZ,aS,sB,sZ,sS])
    refine tkU 19 ?_;(try simp only [Act.put,aT,aZ,aS,sB,sZ,sS])
    refine tkV (v:=?v40) 20 ?h40 ?r40;(case h40=>(intro w__ hSw;(try dsimp only at hSw);go_simp;try with_reducible rfl));(try simp only [Act.put,aT,aZ,aS,sB,sZ,sS])
    refine wpAnyH_done (by kernel_rfl) ?_ _
    have KL:Only [] W w1:=And.left (by assumption)
    have RL:=RW.keep KL
    have XL:=XW.keep KL
    have YL:=YW.keep KL
    have g0:=RL.cell 0 rfl
    have p0:=RL.frozen 0
    have g1:=RL.cell 1 rfl
    have p1:=RL.frozen 1
    obtain ⟨m0,m1,m2,m3⟩:=YL.c4
    go_wp2
    have Rf:=(RL.set 0 (.int .i64 0)).set 1 (.int .i64 0)
    simp only [List.set] at Rf
    obtain ⟨z0,z1⟩:=Rf.c2
    have Kf:Only [] w ((w1.setCell ⟨w.heap.size + 1 + 1,0,none⟩ (.int .i64 0)).setCell ⟨w.heap.size + 1 + 1,1,none⟩ (.int .i64 0)):=((KW.trans KL).setCell (by simp;omega) _).setCell (by simp;omega) _
    refine bodyPost_ret (v:=.tuple #[.agg #[.int .i64 0,.int .i64 0],.bool false]) (by simp [results,Tryz.results105,go_sem,z0,z1]) rfl ⟨by rw [Ha.out];rfl,Kf⟩
 have kb3:(c.kind == 3) = false:=by simp [k3]
 by_cases k4:c.kind = 4
 ·have kb:(c.kind == 4) = true:=by simp [k4]
  rcases hP:hasP c 0 0 false
  ·have Ha:=zH (by unfold accC;rw [if_neg k1,if_neg k2,if_neg k3,if_pos k4,hP];rfl:accC x s c = none)
   clear k1 k2 k3 k4
   go_enter Tryz.func105,Tryz.ntmps105
   go_upto_region 12 with fail
   have KW:Only [] w (((w.alloc (.cells #[.int .i64 x.points,.string x.names,.slice A3 x.moves.length C3] 26)).alloc (.cells #[.int .i64 c.kind,.slice B1 c.numbers.length D1,.slice B2 c.words.length D2,.slice B3 c.tables.length D3] 32)).alloc (.cells #[.int .i64 0,.int .i64 0] 52)):=(((Only.refl [] w).alloc _).alloc _).alloc _
   obtain ⟨W,hW⟩:∃ W,W = (((w.alloc (.cells #[.int .i64 x.points,.string x.names,.slice A3 x.moves.length C3] 26)).alloc (.cells #[.int .i64 c.kind,.slice B1 c.numbers.length D1,.slice B2 c.words.length D2,.slice B3 c.tables.length D3] 32)).alloc (.cells #[.int .i64 0,.int .i64 0] 52)):=⟨_,rfl⟩
   rw [<- hW] at X0 Y0 R0 KW c0 c1 c2 d0 d1 d2 d3 ⊢
   clear hW
   have XW:=X0
   have YW:=Y0
   have RW:=R0
   have pW:=zK h0 KW
   have cW:=zK hc0 KW
   have uW:=zK hu KW
   go_wp2_with (first | (go_at_call 164;(with_reducible refine (Zao [.int .i64 c.kind,.slice B1 c.numbers.length D1,.slice B2 c.words.length D2,.slice B3 c.tables.length D3] c _ 0 0 false _ (zK cW zV)).mono ?_);rintro e w1 ⟨he,t1⟩;rw [hP] at he;subst he;have KL:=t1;have RL:=RW.keep KL;have XL:=XW.keep KL;obtain ⟨g0,g1⟩:=RL.c2;obtain ⟨p0,p1⟩:=RL.f2;obtain ⟨n0,n1,n2⟩:=XL.c3) | fail)
   have Rf:=(RL.set 0 (.int .i64 0)).set 1 (.int .i64 0)
   simp only [List.set] at Rf
   obtain ⟨z0,z1⟩:=Rf.c2
   have Kf:Only [] w ((w1.setCell ⟨w.heap.size + 1 + 1,0,none⟩ (.int .i64 0)).setCell ⟨w.heap.size + 1 + 1,1,none⟩ (.int .i64 0)):=((KW.trans KL).setCell (by simp;omega) _).setCell (by simp;omega) _
   refine bodyPost_ret (v:=.tuple #[.agg #[.int .i64 0,.int .i64 0],.bool false]) (by simp [results,Tryz.results105,go_sem,z0,z1]) rfl ⟨by rw [Ha.out];rfl,Kf⟩
  ·rcases hR:reachB x s
   ·have Ha:=zH (by unfold accC;rw [if_neg k1,if_neg k2,if_neg k3,if_pos k4,hP,hR];rfl:accC x s c = some ⟨4,0⟩)
    clear k1 k2 k3 k4
    go_enter Tryz.func105,Tryz.ntmps105
    go_upto_region 12 with fail
    have KW:Only [] w (((w.alloc (.cells #[.int .i64 x.points,.string x.names,.slice A3 x.moves.length C3] 26)).alloc (.cells #[.int .i64 c.kind,.slice B1 c.numbers.length D1,.slice B2 c.words.length D2,.slice B3 c.tables.length D3] 32)).alloc (.cells #[.int .i64 0,.int .i64 0] 52)):=(((Only.refl [] w).alloc _).alloc _).alloc _
    obtain ⟨W,hW⟩:∃ W,W = (((w.alloc (.cells #[.int .i64 x.points,.string x.names,.slice A3 x.moves.length C3] 26)).alloc (.cells #[.int .i64 c.kind,.slice B1 c.numbers.length D1,.slice B2 c.words.length D2,.slice B3 c.tables.length D3] 32)).alloc (.cells #[.int .i64 0,.int .i64 0] 52)):=⟨_,rfl⟩
    rw [<- hW] at X0 Y0 R0 KW c0 c1 c2 d0 d1 d2 d3 ⊢
    clear hW
    have XW:=X0
    have YW:=Y0
    have RW:=R0
    have pW:=zK h0 KW
    have cW:=zK hc0 KW
    have uW:=zK hu KW
    go_wp2_with (first | (go_at_call 164;(with_reducible refine (Zao [.int .i64 c.kind,.slice B1 c.numbers.length D1,.slice B2 c.words.length D2,.slice B3 c.tables.length D3] c _ 0 0 false _ (zK cW zV)).mono ?_);rintro e w1 ⟨he,t1⟩;rw [hP] at he;subst he;have KL:=t1;have RL:=RW.keep KL;have XL:=XW.keep KL;obtain ⟨g0,g1⟩:=RL.c2;obtain ⟨p0,p1⟩:=RL.f2;obtain ⟨n0,n1,n2⟩:=XL.c3) | (go_at_call 31;(with_reducible refine (Zcr [.int .i64 x.points,.string x.names,.slice A3 x.moves.length C3] x _ u s _ _ (zK pW zV) (zK uW zV)).mono ?_);rintro e w2 ⟨he,t2⟩;rw [hR] at he;subst he;have KL2:=KL.trans t2;clear KL RL XL g0 g1 p0 p1 n0 n1 n2;have KL:=KL2;have RL:=RW.keep KL;obtain ⟨g0,g1⟩:=RL.c2;obtain ⟨p0,p1⟩:=RL.f2) | fail)
    have Rf:=(RL.set 0 (.int .i64 4)).set 1 (.int .i64 0)
    simp only [List.set] at Rf
    obtain ⟨z0,z1⟩:=Rf.c2
    have Kf:Only [] w ((w2.setCell ⟨w.heap.size + 1 + 1,0,none⟩ (.int .i64 4)).setCell ⟨w.heap.size + 1 + 1,1,none⟩ (.int .i64 0)):=((KW.trans KL).setCell (by simp;omega) _).setCell (by simp;omega) _
    refine bodyPost_ret (v:=.tuple #[.agg #[.int .i64 4,.int .i64 0],.bool true]) (by simp [results,Tryz.results105,go_sem,z0,z1]) rfl ⟨by rw [Ha.out];rfl,Kf⟩
   ·have Ha:=zH (by unfold accC;rw [if_neg k1,if_neg k2,if_neg k3,if_pos k4,hP,hR];rfl:accC x s c = none)
    clear k1 k2 k3 k4
    go_enter Tryz.func105,Tryz.ntmps105
    go_upto_region 12 with fail
    have KW:Only [] w (((w.alloc (.cells #[.int .i64 x.points,.string x.names,.slice A3 x.moves.length C3] 26)).alloc (.cells #[.int .i64 c.kind,.slice B1 c.numbers.length D1,.slice B2 c.words.length D2,.slice B3 c.tables.length D3] 32)).alloc (.cells #[.int .i64 0,.int .i64 0] 52)):=(((Only.refl [] w).alloc _).alloc _).alloc _
    obtain ⟨W,hW⟩:∃ W,W = (((w.alloc (.cells #[.int .i64 x.points,.string x.names,.slice A3 x.moves.length C3] 26)).alloc (.cells #[.int .i64 c.kind,.slice B1 c.numbers.length D1,.slice B2 c.words.length D2,.slice B3 c.tables.length D3] 32)).alloc (.cells #[.int .i64 0,.int .i64 0] 52)):=⟨_,rfl⟩
    rw [<- hW] at X0 Y0 R0 KW c0 c1 c2 d0 d1 d2 d3 ⊢
    clear hW
    have XW:=X0
    have YW:=Y0
    have RW:=R0
    have pW:=zK h0 KW
    have cW:=zK hc0 KW
    have uW:=zK hu KW
    go_wp2_with (first | (go_at_call 164;(with_reducible refine (Zao [.int .i64 c.kind,.slice B1 c.numbers.length D1,.slice B2 c.words.length D2,.slice B3 c.tables.length D3] c _ 0 0 false _ (zK cW zV)).mono ?_);rintro e w1 ⟨he,t1⟩;rw [hP] at he;subst he;have KL:=t1;have RL:=RW.keep KL;have XL:=XW.keep KL;obtain ⟨g0,g1⟩:=RL.c2;obtain ⟨p0,p1⟩:=RL.f2;obtain ⟨n0,n1,n2⟩:=XL.c3) | (go_at_call 31;(with_reducible refine (Zcr [.int .i64 x.points,.string x.names,.slice A3 x.moves.length C3] x _ u s _ _ (zK pW zV) (zK uW zV)).mono ?_);rintro e w2 ⟨he,t2⟩;rw [hR] at he;subst he;have KL2:=KL.trans t2;clear KL RL XL g0 g1 p0 p1 n0 n1 n2;have KL:=KL2;have RL:=RW.keep KL;obtain ⟨g0,g1⟩:=RL.c2;obtain ⟨p0,p1⟩:=RL.f2) | fail)
    have Rf:=(RL.set 0 (.int .i64 0)).set 1 (.int .i64 0)
    simp only [List.set] at Rf
    obtain ⟨z0,z1⟩:=Rf.c2
    have Kf:Only [] w ((w2.setCell ⟨w.heap.size + 1 + 1,0,none⟩ (.int .i64 0)).setCell ⟨w.heap.size + 1 + 1,1,none⟩ (.int .i64 0)):=((KW.trans KL).setCell (by simp;omega) _).setCell (by simp;omega) _
    refine bodyPost_ret (v:=.tuple #[.agg #[.int .i64 0,.int .i64 0],.bool false]) (by simp [results,Tryz.results105,go_sem,z0,z1]) rfl ⟨by rw [Ha.out];rfl,Kf⟩
 have kb4:(c.kind == 4) = false:=by simp [k4]
 have Ha:=zH (by unfold accC;rw [if_neg k1,if_neg k2,if_neg k3,if_neg k4]:accC x s c = none)
 clear k1 k2 k3 k4
 go_enter Tryz.func105,Tryz.ntmps105
 go_upto_region 14 with fail
 have KW:Only [] w (((w.alloc (.cells #[.int .i64 x.points,.string x.names,.slice A3 x.moves.length C3] 26)).alloc (.cells #[.int .i64 c.kind,.slice B1 c.numbers.length D1,.slice B2 c.words.length D2,.slice B3 c.tables.length D3] 32)).alloc (.cells #[.int .i64 0,.int .i64 0] 52)):=(((Only.refl [] w).alloc _).alloc _).alloc _
 obtain ⟨W,hW⟩:∃ W,W = (((w.alloc (.cells #[.int .i64 x.points,.string x.names,.slice A3 x.moves.length C3] 26)).alloc (.cells #[.int .i64 c.kind,.slice B1 c.numbers.length D1,.slice B2 c.words.length D2,.slice B3 c.tables.length D3] 32)).alloc (.cells #[.int .i64 0,.int .i64 0] 52)):=⟨_,rfl⟩
 rw [<- hW] at X0 Y0 R0 KW c0 c1 c2 d0 d1 d2 d3 ⊢
 clear hW
 have XW:=X0
 have YW:=Y0
 have RW:=R0
 have pW:=zK h0 KW
 have cW:=zK hc0 KW
 have uW:=zK hu KW
 have KL:=Only.refl [] W
 have RL:=RW
 obtain ⟨g0,g1⟩:=RL.c2
 obtain ⟨p0,p1⟩:=RL.f2
 go_wp2
 have Rf:=(RL.set 0 (.int .i64 0)).set 1 (.int .i64 0)
 simp only [List.set] at Rf
 obtain ⟨z0,z1⟩:=Rf.c2
 have Kf:Only [] w ((W.setCell ⟨w.heap.size + 1 + 1,0,none⟩ (.int .i64 0)).setCell ⟨w.heap.size + 1 + 1,1,none⟩ (.int .i64 0)):=((KW.trans KL).setCell (by simp;omega) _).setCell (by simp;omega) _
 refine bodyPost_ret (v:=.tuple #[.agg #[.int .i64 0,.int .i64 0],.bool false]) (by simp [results,Tryz.results105,go_sem,z0,z1]) rfl ⟨by rw [Ha.out];rfl,Kf⟩
abbrev MbS:=List Int × List Nat
def mRel (v:Nat) (s:MbS) (tt:Nat):MbS:=if s.1.getD tt 0 < 0 then (s.1.set tt (s.1.getD v 0 + 1),s.2 ++ [tt]) else s
def mVis (row:Nat->List Nat) (v:Nat) (s:MbS):MbS:=(row v).foldl (mRel v) s
def mRun (row:Nat->List Nat):Nat->Nat->MbS->MbS
 | 0,_,s=>s
 | f + 1,k,s=>if k < s.2.length then mRun row f (k + 1) (mVis row (s.2.getD k 0) s) else s
def mSrc (src:Nat->Bool) (N:Nat):MbS:=((List.range N).map (fun i=>if src i then 0 else -1),(List.range N).filter src)
def mDist (src:Nat->Bool) (row:Nat->List Nat) (N:Nat):List Int:=(mRun row (N + 1) 0 (mSrc src N)).1
section
variable {src:Nat->Bool} {row:Nat->List Nat} {N:Nat}
end
theorem snocInd {P:List Int->Prop} (h0:P []) (h1:∀ l x,P l->P (l ++ [x])) (l:List Int):P l:=by
 have key:∀ m:List Int,P m.reverse:=by
  intro m
  induction m with
  | nil=>exact h0
  | cons x m ih=>rw [List.reverse_cons];exact h1 _ _ ih
 have:=key l.reverse
 rwa [List.reverse_reverse] at this
section
variable {n:Nat} {gens:List (List Int)}
theorem evW_cat (h:∀ g∈gens,PM.PN n g) (a:List Int) (ha:∀ l∈a,l∈ltrs gens.length):∀ (b:List Int),(∀ l∈b,l∈ltrs gens.length)->evW n gens (a ++ b) = PM.comp (evW n gens a) (evW n gens b):=by
 intro b
 refine snocInd (P:=fun b=>(∀ l∈b,l∈ltrs gens.length)->evW n gens (a ++ b) = PM.comp (evW n gens a) (evW n gens b)) ?_ ?_ b
 ·intro _;rw [List.append_nil,evW_nil,PM.comp_id (evW_pn h a ha)]
 ·intro b x ih hb
  have hb1:∀ l∈b,l∈ltrs gens.length:=fun l hl=>hb l (by simp [hl])
  rw [<- List.append_assoc,Zfb,ih hb1,Zfb,PM.Zat (evW_pn h a ha) (evW_pn h b hb1)]
theorem evW_one (h:∀ g∈gens,PM.PN n g) {x:Int} (hx:x∈ltrs gens.length):evW n gens [x] = mv gens x:=by
 have e:=Zfb n gens [] x
 rw [List.nil_append,evW_nil,PM.id_comp (mv_pn h hx)] at e
 exact e
end
section
end
end Go.Proofs.YthleokaeobdamaaGreat
