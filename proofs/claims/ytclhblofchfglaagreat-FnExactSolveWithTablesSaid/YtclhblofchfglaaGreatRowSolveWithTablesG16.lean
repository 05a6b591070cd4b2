/- The certificates of a lower bound and of optimality: the reference's and the program's. -/
import Derived.Test.YtclhblofchfglaaGreatRowSolveWithTablesG7
import Derived.Test.YtclhblofchfglaaGreatRowSolveWithTablesG15
import Derived.Test.YtclhblofchfglaaGreatRowSolveWithTablesG12
import Derived.Test.YtclhblofchfglaaGreatRowSolveWithTablesG2
import Derived.Deep.RegionHeld3
import Derived.Deep.RegionLaw
import Derived.Deep.RegionWith
import Derived.Deep.AppendLies
import Derived.Test.YtclhblofchfglaaGreatRowSolveWithTablesG6
import Derived.Test.YtclhblofchfglaaGreatRowSolveWithTablesG10
import Derived.Test.YtclhblofchfglaaGreatRowSolveWithTablesG9
import Derived.Test.YtclhblofchfglaaGreatRowSolveWithTablesG8
import Derived.Test.YtclhblofchfglaaGreatRowSolveWithTablesG3
import Derived.RangeFuncBox
import Derived.RangeFuncLeaves
import Derived.RangeFuncWrites
import Derived.RangeFuncNested
import Derived.Shelf.Abstract
import Derived.OwnWalkIn
import Derived.TacticsInMore
import Derived.LoopNIn
import Derived.LoopIn
import Derived.Maps.AppendAt
import Derived.Test.YtclhblofchfglaaGreatRowSolveWithTablesG11
namespace Go.Proofs.YtclhblofchfglaaGreat
open Go.RowKit
set_option maxRecDepth 10000
theorem Zfl (v:Value) (l:List Table) (fp:List Nat) (w:World) (h:Rd w v l fp) :
  Calls Tryz.prog 94 #[v] w fun e w'=>e = .returned (.bool (inR l.length 1 4))/\w' = w:=by
 obtain ⟨a,cap,ob,fps,rfl,-,hs⟩:=h.open_
 have hb:=hs.bound
 rcases hq:inR l.length 1 4
 all_goals
  go_enter Tryz.func94,Tryz.ntmps94
  go_wp2_with ((go_at_call 88;(with_reducible refine (Zah l.length 1 4 _).mono ?_);rintro e w1 ⟨rfl,rfl⟩))
  go_ret
  exact ⟨rfl,rfl⟩
theorem Zga (v:Value) (l:List Table) (fp:List Nat) (w:World) (h:Rd w v l fp) :
  Calls Tryz.prog 104 #[v] w fun e w'=>e = .returned (.int .i64 l.length)/\w' = w:=by
 obtain ⟨a,cap,ob,fps,rfl,-,hs⟩:=h.open_
 have hb:=hs.bound
 go_enter Tryz.func104,Tryz.ntmps104
 go_wp2
 go_ret
 exact ⟨rfl,rfl⟩
def opCert (x:List Int) (l:List Table):Certificate:=if validW 8 x = true/\inR l.length 1 4 = true then ⟨2,[],[x],l⟩ else noCert
set_option maxHeartbeats 1000000 in
theorem Znf (u:Value) (x:List Int) (fq:List Nat) (v:Value) (l:List Table) (fp:List Nat) (w:World) (hx:Rd w u x fq) (h:Rd w v l fp) (hsm:Sm.sm l) :
  Calls Tryz.prog 52 #[u,v] w fun e w'=>∃ cs fp',e = .returned (.agg cs.toArray)/\Rp.rep w' cs (opCert x l) fp'/\Fresh w.heap.size w' fp'/\Only [] w w':=by
 rcases hv:validW 8 x
 ·have hp:opCert x l = noCert:=by unfold opCert;rw [if_neg (by simp [hv])]
  have Hp:=zH hp
  clear hp
  go_enter Tryz.func52,Tryz.ntmps52
  go_wp2_with ((go_at_call 62;(with_reducible refine (Zbu u x _ _ (zK hx zA)).mono ?_);rintro e w1 ⟨rfl,n1,rfl⟩))
  refine bodyPost_ret (v:=.agg #[.int .i64 0,.slice none 0 0,.slice none 0 0,.slice none 0 0]) (by simp [results,Tryz.results52,go_sem]) rfl ⟨[.int .i64 0,.slice none 0 0,.slice none 0 0,.slice none 0 0],[],rfl,?_,Fresh.nil _ _,zA⟩
  rw [Hp.out];exact Zba _
 rcases hq:inR l.length 1 4
 ·have hp:opCert x l = noCert:=by unfold opCert;rw [if_neg (by simp [hq])]
  have Hp:=zH hp
  clear hp
  go_enter Tryz.func52,Tryz.ntmps52
  go_wp2_with (first | (go_at_call 62;(with_reducible refine (Zbu u x _ _ (zK hx zA)).mono ?_);rintro e w1 ⟨rfl,n1,rfl⟩) | (go_at_call 94;(with_reducible refine (Zfl v l _ _ (zK h zA)).mono ?_);rintro e w9 ⟨rfl,rfl⟩))
  refine bodyPost_ret (v:=.agg #[.int .i64 0,.slice none 0 0,.slice none 0 0,.slice none 0 0]) (by simp [results,Tryz.results52,go_sem]) rfl ⟨[.int .i64 0,.slice none 0 0,.slice none 0 0,.slice none 0 0],[],rfl,?_,Fresh.nil _ _,zA⟩
  rw [Hp.out];exact Zba _
 have hp:opCert x l = ⟨2,[],[x],l⟩:=by unfold opCert;rw [if_pos ⟨hv,hq⟩]
 have Hp:=zH hp
 have hlen:=Zcs hv
 clear hp
 go_enter Tryz.func52,Tryz.ntmps52
 go_wp2_with (first
  | (go_at_call 62;(with_reducible refine (Zbu u x _ _ (zK hx zA)).mono ?_);rintro e w1 ⟨rfl,n1,rfl⟩)
  | (go_at_call 94;(with_reducible refine (Zfl v l _ _ (zK h zA)).mono ?_);rintro e w9 ⟨rfl,rfl⟩)
  | (go_at_call 63;(with_reducible refine (Zaw u x _ _ (zK hx zA) (by omega)).mono ?_);rintro e w2 ⟨v2,fp2,rfl,r2,F2,t2⟩;obtain ⟨A2,C2,_,_,rfl,-⟩:=r2.open_;have y2:=t2.cells_eq w.heap.size (by first | (simp;done) | (simp;omega)) (by simp);have z2:=t2.frozen_eq w.heap.size (by first | (simp;done) | (simp;omega)) (by simp);have s2:w.heap.size < w2.heap.size:=(by have:=t2.size;first | omega | (simp at this;omega)))
  | (go_at_call 95;(with_reducible refine (Znh v l _ _ (zK h zA) hsm).mono ?_);rintro e w3 ⟨v3,fp3,rfl,r3,F3,t3⟩;obtain ⟨A3,C3,_,_,rfl,-⟩:=r3.open_;have y3:=t3.cells_eq w.heap.size (by simp;omega) (by simp);have z3:=t3.frozen_eq w.heap.size (by simp;omega) (by simp);have s3:w2.heap.size < w3.heap.size:=(by have:=t3.size;simp at this;omega)))
 have HF:=F2.mono (B':=w.heap.size) (by simp)
 have HG:∀ b'∈fp3,w2.heap.size + 1<=b':=fun b' hb=>by have:=F3.ge b' hb;simp at this;omega
 have HG2:∀ b'∈fp2,w.heap.size < b':=fun b' hb=>by have:=F2.ge b' hb;simp at this;omega
 have HL2:∀ b'∈fp2,b' < w2.heap.size:=F2.lt
 obtain ⟨o1,o2⟩:=one_rd r2 25 w.heap.size HF (g:=w2.heap.size) rfl (by omega)
 have hW:Only [w.heap.size] w3 ((((w3.setCell ⟨w.heap.size,0,none⟩ (.int .i64 2)).setCell ⟨w.heap.size,1,none⟩ (.slice none 0 0)).setCell ⟨w.heap.size,2,none⟩ (.slice (some ⟨w2.heap.size,0,none⟩) 1 1)).setCell ⟨w.heap.size,3,none⟩ (.slice A3 l.length C3)):=zB
 have n1:=Rp.only (zK o1 t3) hW (fun b' hb hm=>by
  simp at hm hb
  rcases hb with hb | hb
  ·omega
  ·have:=HG2 b' hb;omega)
 have n2:=Rp.only r3 hW (fun b' hb hm=>by have:=HG b' hb;simp at hm;omega)
 have n3:=(Fresh.append (o2.keep t3) F3 (by simp;omega) (fun b' hb=>by
  simp at hb ⊢
  rcases hb with hb | hb
  ·omega
  ·have:=HL2 b' hb;omega)).only hW (fun b' hb hm=>by
  simp at hm hb
  rcases hb with hb | hb | hb
  ·omega
  ·have:=HG2 b' hb;omega
  ·have:=HG b' hb;omega)
 refine bodyPost_ret (v:=.agg #[.int .i64 2,.slice none 0 0,.slice (some ⟨w2.heap.size,0,none⟩) 1 1,.slice A3 l.length C3]) (by simp [results,Tryz.results52,go_sem,y3,y2,s2]) rfl ⟨[.int .i64 2,.slice none 0 0,.slice (some ⟨w2.heap.size,0,none⟩) 1 1,.slice A3 l.length C3],_,rfl,?_,n3,zA⟩
 rw [Hp.out]
 exact ⟨_,_,_,[],_,fp3,rfl,(by simp),⟨by simp,by simp⟩,nil_rd _,n1,n2⟩
set_option maxHeartbeats 1000000 in
theorem Zne (u:Value) (x:List Int) (fq:List Nat) (v:Value) (l:List Table) (fp:List Nat) (w:World) (hx:Rd w u x fq) (h:Rd w v l fp) (hsm:Sm.sm l) :
  Calls Tryz.prog 56 #[u,v] w fun e w'=>∃ cs fp',e = .returned (.agg cs.toArray)/\Rp.rep w' cs (opCert x l) fp'/\Fresh w.heap.size w' fp'/\Only [] w w':=by
 rcases hv:validW 8 x
 ·have hp:opCert x l = noCert:=by unfold opCert;rw [if_neg (by simp [hv])]
  have Hp:=zH hp
  clear hp
  go_enter Tryz.func56,Tryz.ntmps56
  go_wp2_with ((go_at_call 103;(with_reducible refine (Zbw u x _ _ (zK hx zA)).mono ?_);rintro e w1 ⟨rfl,t1⟩;have y1:=t1.cells_eq w.heap.size (by simp) (by simp);have z1:=t1.frozen_eq w.heap.size (by simp) (by simp);have s1:w.heap.size < w1.heap.size:=(by have:=t1.size;simp at this;omega)))
  refine bodyPost_ret (v:=.agg #[.int .i64 0,.slice none 0 0,.slice none 0 0,.slice none 0 0]) (by simp [results,Tryz.results56,go_sem,y1]) rfl ⟨[.int .i64 0,.slice none 0 0,.slice none 0 0,.slice none 0 0],[],rfl,?_,Fresh.nil _ _,zA⟩
  rw [Hp.out];exact Zba _
 rcases hq:inR l.length 1 4
 ·have hp:opCert x l = noCert:=by unfold opCert;rw [if_neg (by simp [hq])]
  have Hp:=zH hp
  clear hp
  go_enter Tryz.func56,Tryz.ntmps56
  go_wp2_with (first | (go_at_call 103;(with_reducible refine (Zbw u x _ _ (zK hx zA)).mono ?_);rintro e w1 ⟨rfl,t1⟩;have y1:=t1.cells_eq w.heap.size (by simp) (by simp);have z1:=t1.frozen_eq w.heap.size (by simp) (by simp);have s1:w.heap.size < w1.heap.size:=(by have:=t1.size;simp at this;omega)) | (first | (go_at_call 104;(with_reducible refine (Zga v l _ _ (zK h zA)).mono ?_);rintro e w9 ⟨rfl,rfl⟩) | (go_at_call 96;(with_reducible refine (Zaj l.length 1 4 _).mono ?_);rintro e w9 ⟨rfl,rfl⟩)))
  refine bodyPost_ret (v:=.agg #[.int .i64 0,.slice none 0 0,.slice none 0 0,.slice none 0 0]) (by simp [results,Tryz.results56,go_sem,y1]) rfl ⟨[.int .i64 0,.slice none 0 0,.slice none 0 0,.slice none 0 0],[],rfl,?_,Fresh.nil _ _,zA⟩
  rw [Hp.out];exact Zba _
 have hp:opCert x l = ⟨2,[],[x],l⟩:=by unfold opCert;rw [if_pos ⟨hv,hq⟩]
 have Hp:=zH hp
 have hlen:=Zcs hv
 clear hp
 go_enter Tryz.func56,Tryz.ntmps56
 go_wp2_with (first
  | (go_at_call 103;(with_reducible refine (Zbw u x _ _ (zK hx zA)).mono ?_);rintro e w1 ⟨rfl,t1⟩;have y1:=t1.cells_eq w.heap.size (by simp) (by simp);have z1:=t1.frozen_eq w.heap.size (by simp) (by simp);have s1:w.heap.size < w1.heap.size:=(by have:=t1.size;simp at this;omega))
  | (first | (go_at_call 104;(with_reducible refine (Zga v l _ _ (zK h zA)).mono ?_);rintro e w9 ⟨rfl,rfl⟩) | (go_at_call 96;(with_reducible refine (Zaj l.length 1 4 _).mono ?_);rintro e w9 ⟨rfl,rfl⟩))
  | (go_at_call 105;(with_reducible refine (Zdb u x _ _ (zK hx zA) (by omega)).mono ?_);rintro e w2 ⟨v2,fp2,rfl,r2,F2,t2⟩;obtain ⟨A2,C2,_,_,rfl,-⟩:=r2.open_;have y2:=t2.cells_eq w.heap.size s1 (by simp);have z2:=t2.frozen_eq w.heap.size s1 (by simp);have s2:w.heap.size < w2.heap.size:=(by have:=t2.size;first | omega | (simp at this;omega)))
  | (go_at_call 106;(with_reducible refine (Zlm v l _ _ (zK h zA) hsm).mono ?_);rintro e w3 ⟨v3,fp3,rfl,r3,F3,t3⟩;obtain ⟨A3,C3,_,_,rfl,-⟩:=r3.open_;have y3:=t3.cells_eq w.heap.size (by simp;omega) (by simp);have z3:=t3.frozen_eq w.heap.size (by simp;omega) (by simp);have s3:w2.heap.size < w3.heap.size:=(by have:=t3.size;simp at this;omega)))
 have HF:=F2.mono (B':=w.heap.size) (by omega)
 have HG:∀ b'∈fp3,w2.heap.size + 1<=b':=fun b' hb=>by have:=F3.ge b' hb;simp at this;omega
 have HG2:∀ b'∈fp2,w.heap.size < b':=fun b' hb=>by have:=F2.ge b' hb;omega
 have HL2:∀ b'∈fp2,b' < w2.heap.size:=F2.lt
 obtain ⟨o1,o2⟩:=one_rd r2 25 w.heap.size HF (g:=w2.heap.size) rfl (by omega)
 have hW:Only [w.heap.size] w3 ((((w3.setCell ⟨w.heap.size,0,none⟩ (.int .i64 2)).setCell ⟨w.heap.size,1,none⟩ (.slice none 0 0)).setCell ⟨w.heap.size,2,none⟩ (.slice (some ⟨w2.heap.size,0,none⟩) 1 1)).setCell ⟨w.heap.size,3,none⟩ (.slice A3 l.length C3)):=zB
 have n1:=Rp.only (zK o1 t3) hW (fun b' hb hm=>by
  simp at hm hb
  rcases hb with hb | hb
  ·omega
  ·have:=HG2 b' hb;omega)
 have n2:=Rp.only r3 hW (fun b' hb hm=>by have:=HG b' hb;simp at hm;omega)
 have n3:=(Fresh.append (o2.keep t3) F3 (by simp;omega) (fun b' hb=>by
  simp at hb ⊢
  rcases hb with hb | hb
  ·omega
  ·have:=HL2 b' hb;omega)).only hW (fun b' hb hm=>by
  simp at hm hb
  rcases hb with hb | hb | hb
  ·omega
  ·have:=HG2 b' hb;omega
  ·have:=HG b' hb;omega)
 refine bodyPost_ret (v:=.agg #[.int .i64 2,.slice none 0 0,.slice (some ⟨w2.heap.size,0,none⟩) 1 1,.slice A3 l.length C3]) (by simp [results,Tryz.results56,go_sem,y3,y2,y1,s2]) rfl ⟨[.int .i64 2,.slice none 0 0,.slice (some ⟨w2.heap.size,0,none⟩) 1 1,.slice A3 l.length C3],_,rfl,?_,n3,zA⟩
 rw [Hp.out]
 exact ⟨_,_,_,[],_,fp3,rfl,(by simp),⟨by simp,by simp⟩,nil_rd _,n1,n2⟩
theorem Zkd {x:Puzzle}:∀ {trs:List (List Int)} {ts:List Table},bTabsK x trs = some ts->ts.length = trs.length/\∀ t∈ts,∃ tr,bTab x tr = some t
 | [],ts,h=>by unfold bTabsK at h;injection h with h;subst h;simp
 | tr :: trs,ts,h=>by
  unfold bTabsK at h
  rw [Option.bind_eq_some_iff] at h
  obtain ⟨t,e1,e2⟩:=h
  rw [Option.map_eq_some_iff] at e2
  obtain ⟨ts',e3,e4⟩:=e2
  subst e4
  obtain ⟨a,b⟩:=Zkd e3
  refine ⟨by simp [a],fun t' ht'=>?_⟩
  rcases List.mem_cons.1 ht' with rfl | ht'
  ·exact ⟨tr,e1⟩
  ·exact b t' ht'
theorem Zmc {x:Puzzle} {trs:List (List Int)} {ts:List Table} (h:bTabs x trs = some ts):ts.length<=4/\∀ t∈ts,∃ tr,bTab x tr = some t:=by
 unfold bTabs at h
 split at h
 ·rename_i hq
  obtain ⟨q1,q2⟩:=inR_iff.1 hq
  obtain ⟨a,b⟩:=Zkd h
  exact ⟨by omega,b⟩
 ·cases h
theorem Zny {x:Puzzle} {trs:List (List Int)} {ts:List Table} (h:bTabs x trs = some ts):Sm.sm ts:=by
 obtain ⟨h1,h2⟩:=Zmc h
 refine ⟨by omega,fun t ht=>?_⟩
 obtain ⟨tr,e⟩:=h2 t ht
 obtain ⟨a1,a2,a3,-,a5,a6,a7⟩:=Zem e
 have h8:=(Zaz.1 a2).2.len
 have h9:=(Zad a1).2.1
 simp only at a5 a6 a7
 refine ⟨⟨by rw [a3];omega,fun _ _=>trivial⟩,⟨by omega,fun q hq=>⟨by rw [a7 q hq];omega,fun _ _=>trivial⟩⟩,⟨by omega,fun _ _=>trivial⟩⟩
theorem Zih {x:Puzzle} {trs:List (List Int)} {ts:List Table} (h:bTabs x trs = some ts):∀ t∈ts,t.tracked.length<=2097152:=fun t ht=>by
 obtain ⟨-,h2⟩:=Zmc h
 obtain ⟨tr,e⟩:=h2 t ht
 obtain ⟨a1,a2,a3,-,-⟩:=Zem e
 have h8:=(Zaz.1 a2).2.len
 have h9:=(Zad a1).2.1
 rw [a3];omega
structure Claim where
 kind:Int
 value:Int
theorem tkU {P:Program} {ops:Array Oper} {Q:Exit->Act->World->Prop} {md:Region.Mode} {S:World->Prop} {oi:Oper} {fuel:Nat} {listed:Array Bool} {a:Act} {w:World} (i:Nat) (h:wpAnyH P md ops Q S fuel (listed.setIfInBounds i true) (a.put oi.dst undef) w) (hi:ops[i]? = some oi:=by rfl)
  (hs:Region.noSelect ops = true:=by kernel_rfl) (hf:Region.free md ops listed i = true:=by kernel_rfl) (hr:(Region.ready md ops listed).contains i = true:=by kernel_rfl) (hQ:∀ c a w,Q (.panic c) (a.put oi.dst undef) w->Q (.panic c) a w:=by exact fun _ _ _ h=>h)
  (hy:Region.wanted oi (yielded ops a.tmps) = false:=by rfl) (hS:S w:=by assumption):wpAnyH P md ops Q S (fuel + 1) listed a w:=wpAnyH_take hi hs hf hr hQ (.inr ⟨hy,rfl⟩) hS h
theorem tkV {P:Program} {ops:Array Oper} {Q:Exit->Act->World->Prop} {md:Region.Mode} {S:World->Prop} {oi:Oper} {v:Value} {fuel:Nat} {listed:Array Bool} {a:Act} {w:World} (i:Nat) (hy:∀ w,S w->(execOp a.eval oi).run P w = .ok (.value v) w) (h:wpAnyH P md ops Q S fuel (listed.setIfInBounds i true) (a.put oi.dst v) w) (hi:ops[i]? = some oi:=by rfl)
  (hs:Region.noSelect ops = true:=by kernel_rfl) (hf:Region.free md ops listed i = true:=by kernel_rfl) (hr:(Region.ready md ops listed).contains i = true:=by kernel_rfl) (hQ:∀ c a w,Q (.panic c) (a.put oi.dst v) w->Q (.panic c) a w:=by exact fun _ _ _ h=>h)
  (hw:Region.wanted oi (yielded ops a.tmps) = true:=by rfl) (hS:S w:=by assumption):wpAnyH P md ops Q S (fuel + 1) listed a w:=wpAnyH_take hi hs hf hr hQ (.inl ⟨hw,hy⟩) hS h
theorem only_eq {w w':World} (h:w' = w):Only [] w w':=h ▸ Only.refl _ _
theorem aT {α:Type} {l:List α} {i:Nat} (h:i < l.toArray.size):l.toArray[i] = l[i]'(by simpa using h):=by simp
theorem aZ {α:Type} {a:α} {l:List α} (h:0 < (a :: l).length):(a :: l)[0] = a:=rfl
theorem aS {α:Type} {a:α} {l:List α} {i:Nat} (h:i + 1 < (a :: l).length):(a :: l)[i + 1] = l[i]'(by simpa using h):=rfl
theorem sB {α:Type} {l:List α} {i:Nat} {a:α}:l.toArray.setIfInBounds i a = (l.set i a).toArray:=by simp
theorem sZ {α:Type} {a b:α} {l:List α}:(a :: l).set 0 b = b :: l:=rfl
theorem sS {α:Type} {a b:α} {l:List α} {i:Nat}:(a :: l).set (i + 1) b = a :: l.set i b:=rfl
def expl (x:Puzzle):Option Table:=bTab x (PM.pts x.points.toNat)
section
variable {x:Puzzle} {t:Table}
end
section
variable {x:Puzzle} {t:Table} {src:List Int->Bool} (hb:Built x t)
end
def gS (goal s:List Int):Bool:=decide (PM.comp goal s = goal)
section
variable {x:Puzzle} {tr:List Int} {Z:List (List Int)}
end
section
variable {x:Puzzle} {t tg:Table} {goal:List Int} (he:expl x = some t) (hg:trackB x.points goal = true)
end
def subNm (s:ByteArray) (sub:List Int):ByteArray:=⟨(sub.map fun k=>s.data.getD k.toNat 0).toArray⟩
def subP (x:Puzzle) (sub:List Int):Puzzle:=⟨x.points,subNm x.names sub,sub.map fun k=>x.moves.getD k.toNat []⟩
section
variable {x:Puzzle} {sub:List Int} (hv:validPz x = true) (hs:trackB x.moves.length sub = true)
end
section
variable {x:Puzzle} {t ts:Table} {sub:List Int} (he:expl x = some t) (h2:expl (subP x sub) = some ts)
end
theorem Zjb {x:Puzzle}:∀ {trs:List (List Int)} {ts:List Table},bTabsK x trs = some ts->Mk.cnt ts<=trs.length * 64000
 | [],ts,h=>by unfold bTabsK at h;injection h with h;subst h;simp [Mk.cnt,cntL]
 | tr :: trs,ts,h=>by
  unfold bTabsK at h
  rw [Option.bind_eq_some_iff] at h
  obtain ⟨t,e1,e2⟩:=h
  rw [Option.map_eq_some_iff] at e2
  obtain ⟨ts',e3,e4⟩:=e2
  subst e4
  have h1:=Zre e1
  have h2:=Zjb e3
  show cntL (t :: ts')<=_
  simp only [cntL,List.length_cons]
  have:Mk.cnt ts' = cntL ts':=rfl
  rw [Nat.add_mul]
  omega
theorem Zqo (x:Puzzle) (trs:List (List Int)):Mk.cnt ((bTabs x trs).getD [])<=256000:=by
 unfold bTabs
 rcases hq:inR trs.length 1 4
 ·simp [Mk.cnt,cntL]
 ·obtain ⟨q1,q2⟩:=inR_iff.1 hq
  rcases hb:bTabsK x trs with _ | ts
  ·simp [Mk.cnt,cntL]
  ·have:=Zjb hb
   simp only [if_true,Option.getD]
   have:trs.length * 64000<=4 * 64000:=Nat.mul_le_mul_right _ (by omega)
   omega
theorem sm_rows {l:List (List Int)} (h:Sm.sm l):∀ y∈l,y.length<=2097152:=by
 intro y hy
 obtain ⟨-,h2⟩:=h
 exact (h2 y hy).1
def wCert (o:Option (List Int)):Certificate:=match o with
 | some w=>solCert w
 | none=>noCert
theorem Zqx (o:Option (List Int)):Mk.cnt (wCert o)<=200:=by
 cases o with
 | none=>simp [wCert,noCert,Mk.cnt,cntL]
 | some w=>
  unfold wCert solCert
  simp only
  split
  ·rename_i h
   have:=Zcs h
   simp [Mk.cnt,cntL,Zav];omega
  ·simp [Mk.cnt,cntL]
noncomputable def swX (x:Puzzle) (trs:List (List Int)) (s:List Int) (m:Int):Option (List Int):=(bTabs x trs).bind fun ts=>ida x ts s m
noncomputable def swCert (x:Puzzle) (trs:List (List Int)) (s:List Int) (m:Int):Certificate:=match swX x trs s m with
 | some w=>if lb x ((bTabs x trs).getD []) s = w.length then opCert w ((bTabs x trs).getD []) else solCert w
 | none=>noCert
theorem Zpo (x:Puzzle) (trs:List (List Int)) (s:List Int) (m:Int):Mk.cnt (swCert x trs s m)<=256200:=by
 have h0:=Zqo x trs
 have h1:∀ (w:List Int) (l:List Table),Mk.cnt (opCert w l)<=Mk.cnt l + 200:=fun w l=>by
  unfold opCert
  split
  ·rename_i h
   have:=Zcs h.1
   simp [Mk.cnt,cntL,Zav];omega
  ·simp [noCert,Mk.cnt,cntL]
 unfold swCert
 cases swX x trs s m with
 | none=>simp [noCert,Mk.cnt,cntL]
 | some w=>
  simp only
  split
  ·have:=h1 w ((bTabs x trs).getD [])
   omega
  ·have:=Zqx (some w)
   unfold wCert at this
   simp only at this
   omega
theorem IdR.no {w':World} {o:Option (List Int)} {e:Ending} (h:IdR w' o e) (ho:o = none):∃ v n,e = .returned (.tuple #[v,.int .i64 n,.bool false]):=by
 rcases h with ⟨-,h⟩ | ⟨u,v,n,f,h,-⟩
 ·exact h
 ·rw [ho] at h;cases h
theorem IdR.yes {w':World} {o:Option (List Int)} {e:Ending} {q:List Int} (h:IdR w' o e) (ho:o = some q):∃ v n f,e = .returned (.tuple #[v,.int .i64 n,.bool true])/\Rd w' v q f:=by
 rcases h with ⟨h,-⟩ | ⟨u,v,n,f,h,h2,h3⟩
 ·rw [ho] at h;cases h
 ·rw [ho] at h;injection h with h;subst h;exact ⟨v,n,f,h2,h3⟩
theorem sw_none {x:Puzzle} {trs:List (List Int)} {s:List Int} {m:Int} (h:swX x trs s m = none):swCert x trs s m = noCert:=by unfold swCert;rw [h]
theorem sw_some {x:Puzzle} {trs:List (List Int)} {s q:List Int} {m:Int} {ts:List Table} (hb:bTabs x trs = some ts) (h:swX x trs s m = some q):swCert x trs s m = if lb x ts s = (q.length:Int) then opCert q ts else solCert q:=by
 unfold swCert;rw [h,hb];rfl
set_option maxHeartbeats 4000000 in
theorem Zpv (cs:List Value) (x:Puzzle) (fp:List Nat) (v:Value) (trs:List (List Int)) (ft:List Nat) (u:Value) (s:List Int) (fs0:List Nat) (m:Int) (w:World) (h:Rp.rep w cs x fp) (hv:Rd w v trs ft) (hu:Rd w u s fs0) (hsm:∀ y∈trs,y.length<=2097152) :
  Calls Tryz.prog 28 #[.agg cs.toArray,v,u,.int .i64 m] w fun e w'=>∃ cs' fp',e = .returned (.tuple #[.agg (List.toArray cs'),.bool (swX x trs s m).isSome])/\Rp.rep w' cs' (swCert x trs s m) fp'/\Fresh w.heap.size w' fp'/\Only [] w w':=by
 have h0:=h
 obtain ⟨v2,rfl,p0,p1,h2⟩:=h
 obtain ⟨A3,C3,_,_,rfl,-,-⟩:=h2.open_
 clear h2 p0 p1
 have X0:Blk ((w.alloc (.cells #[.int .i64 x.points,.string x.names,.slice A3 x.moves.length C3] 33)).alloc (.cells #[.int .i64 0,.slice none 0 0,.slice none 0 0,.slice none 0 0] 30)) w.heap.size [.int .i64 x.points,.string x.names,.slice A3 x.moves.length C3]:=(Blk.new w [.int .i64 x.points,.string x.names,.slice A3 x.moves.length C3] 33).keep (zO.alloc _)
 have Y0:Blk ((w.alloc (.cells #[.int .i64 x.points,.string x.names,.slice A3 x.moves.length C3] 33)).alloc (.cells #[.int .i64 0,.slice none 0 0,.slice none 0 0,.slice none 0 0] 30)) (w.heap.size + 1) [.int .i64 0,.slice none 0 0,.slice none 0 0,.slice none 0 0]:=Blk.new_at (by simp)
 obtain ⟨x0,x1,x2⟩:=X0.c3
 rcases hb:bTabs x trs with _ | ts
 ·have hk:swX x trs s m = none:=by unfold swX;rw [hb];rfl
  have Hk:=zH (show (swX x trs s m).isSome = false by rw [hk];rfl)
  have Hc:=zH (sw_none hk)
  have Hb:=zH hb
  clear hb hk
  go_enter Tryz.func28,Tryz.ntmps28
  go_wp2_with (first
   | (go_at_call 49;(with_reducible refine (Zbi [.int .i64 x.points,.string x.names,.slice A3 x.moves.length C3] x _ _ trs _ _ (zK h0 zA) (zK hv zA) hsm).mono ?_);rintro e w2 ⟨u1,f1,he,r1,F1,t2⟩;rw [Hb.out] at he;subst he;have Y9:=Y0.keep t2;obtain ⟨g0,g1,g2,g3⟩:=Y9.c4;obtain ⟨p0,p1,p2,p3⟩:=Y9.f4)
   | fail)
  have K2:Only [] w w2:=zA
  have Yf:=(((Y9.set 0 (.int .i64 0)).set 1 (.slice none 0 0)).set 2 (.slice none 0 0)).set 3 (.slice none 0 0)
  have kf:Only [w.heap.size + 1] w2 ((((w2.setCell ⟨w.heap.size + 1,0,none⟩ (.int .i64 0)).setCell ⟨w.heap.size + 1,1,none⟩ (.slice none 0 0)).setCell ⟨w.heap.size + 1,2,none⟩ (.slice none 0 0)).setCell ⟨w.heap.size + 1,3,none⟩ (.slice none 0 0)):=(((zO.setCell (by simp) _).setCell (by simp) _).setCell (by simp) _).setCell (by simp) _
  obtain ⟨wf,hwf⟩:∃ wf,wf = ((((w2.setCell ⟨w.heap.size + 1,0,none⟩ (.int .i64 0)).setCell ⟨w.heap.size + 1,1,none⟩ (.slice none 0 0)).setCell ⟨w.heap.size + 1,2,none⟩ (.slice none 0 0)).setCell ⟨w.heap.size + 1,3,none⟩ (.slice none 0 0)):=⟨_,rfl⟩
  rw [<- hwf] at Yf kf ⊢
  simp only [List.set] at Yf
  clear hwf g0 g1 g2 g3 p0 p1 p2 p3
  obtain ⟨z0,z1,z2,z3⟩:=Yf.c4
  refine bodyPost_ret (v:=.tuple #[.agg #[.int .i64 0,.slice none 0 0,.slice none 0 0,.slice none 0 0],.bool false]) (by simp [results,Tryz.results28,go_sem,z0,z1,z2,z3]) rfl ⟨[.int .i64 0,.slice none 0 0,.slice none 0 0,.slice none 0 0],[],by rw [Hk.out],by rw [Hc.out];exact Zba _,Fresh.nil _ _,K2.then_ kf (by simp)⟩
 ·have Hb:=zH hb
  have Hsm:=zH (Zih hb)
  rcases hi:ida x ts s m with _ | q
  ·have hk:swX x trs s m = none:=by unfold swX;rw [hb];exact hi
   have Hk:=zH (show (swX x trs s m).isSome = false by rw [hk];rfl)
   have Hc:=zH (sw_none hk)
   have Hi:=zH hi
   clear hb hk hi
   go_enter Tryz.func28,Tryz.ntmps28
   go_wp2_with (first
    | (go_at_call 49;(with_reducible refine (Zbi [.int .i64 x.points,.string x.names,.slice A3 x.moves.length C3] x _ _ trs _ _ (zK h0 zA) (zK hv zA) hsm).mono ?_);rintro e w2 ⟨u1,f1,he,r1,F1,t2⟩;rw [Hb.out] at he r1;subst he;simp only [Option.getD] at r1;have X2:=X0.keep t2;obtain ⟨y0,y1,y2⟩:=X2.c3;have hz2:=t2.size;simp at hz2)
    | (go_at_call 50;(with_reducible refine (Zfr [.int .i64 x.points,.string x.names,.slice A3 x.moves.length C3] x _ u1 ts f1 u s fs0 m _ (zK h0 zA) (zK r1 zA) (zK hu zA) Hsm.out).mono ?_);rintro e w3 ⟨hI,t3⟩;obtain ⟨vq,nq,rfl⟩:=hI.no Hi.out;have Y9:=(Y0.keep t2).keep t3;obtain ⟨g0,g1,g2,g3⟩:=Y9.c4;obtain ⟨p0,p1,p2,p3⟩:=Y9.f4)
    | fail)
   have K3:Only [] w w3:=zA
   have Yf:=(((Y9.set 0 (.int .i64 0)).set 1 (.slice none 0 0)).set 2 (.slice none 0 0)).set 3 (.slice none 0 0)
   have kf:Only [w.heap.size + 1] w3 ((((w3.setCell ⟨w.heap.size + 1,0,none⟩ (.int .i64 0)).setCell ⟨w.heap.size + 1,1,none⟩ (.slice none 0 0)).setCell ⟨w.heap.size + 1,2,none⟩ (.slice none 0 0)).setCell ⟨w.heap.size + 1,3,none⟩ (.slice none 0 0)):=(((zO.setCell (by simp) _).setCell (by simp) _).setCell (by simp) _).setCell (by simp) _
   obtain ⟨wf,hwf⟩:∃ wf,wf = ((((w3.setCell ⟨w.heap.size + 1,0,none⟩ (.int .i64 0)).setCell ⟨w.heap.size + 1,1,none⟩ (.slice none 0 0)).setCell ⟨w.heap.size + 1,2,none⟩ (.slice none 0 0)).setCell ⟨w.heap.size + 1,3,none⟩ (.slice none 0 0)):=⟨_,rfl⟩
   rw [<- hwf] at Yf kf ⊢
   simp only [List.set] at Yf
   clear hwf g0 g1 g2 g3 p0 p1 p2 p3
   obtain ⟨z0,z1,z2,z3⟩:=Yf.c4
   refine bodyPost_ret (v:=.tuple #[.agg #[.int .i64 0,.slice none 0 0,.slice none 0 0,.slice none 0 0],.bool false]) (by simp [results,Tryz.results28,go_sem,z0,z1,z2,z3]) rfl ⟨[.int .i64 0,.slice none 0 0,.slice none 0 0,.slice none 0 0],[],by rw [Hk.out],by rw [Hc.out];exact Zba _,Fresh.nil _ _,K3.then_ kf (by simp)⟩
  ·have hk:swX x trs s m = some q:=by unfold swX;rw [hb];exact hi
   have Hk:=zH (show (swX x trs s m).isSome = true by rw [hk];rfl)
   have hsw:=sw_some hb hk
   obtain ⟨b,hbd⟩:∃ b,b = lb x ts s:=⟨_,rfl⟩
   rw [<- hbd] at hsw
   have HB:=zH hbd.symm
   have HS:=zH (Zny hb)
   have Hi:=zH hi
   by_cases hlen:b = (q.length:Int)
   ·have Hc:=zH (hsw.trans (if_pos hlen))
    have cb:(b == (q.length:Int)) = true:=by simpa using hlen
    clear hb hk hi hbd hsw hlen
    go_enter Tryz.func28,Tryz.ntmps28
    go_wp2_with (first
    | (go_at_call 49;(with_reducible refine (Zbi [.int .i64 x.points,.string x.names,.slice A3 x.moves.length C3] x _ _ trs _ _ (zK h0 zA) (zK hv zA) hsm).mono ?_);rintro e w2 ⟨u1,f1,he,r1,F1,t2⟩;rw [Hb.out] at he r1;subst he;simp only [Option.getD] at r1;have X2:=X0.keep t2;obtain ⟨y0,y1,y2⟩:=X2.c3;have hz2:=t2.size;simp at hz2)
    | (go_at_call 50;(with_reducible refine (Zfr [.int .i64 x.points,.string x.names,.slice A3 x.moves.length C3] x _ u1 ts f1 u s fs0 m _ (zK h0 zA) (zK r1 zA) (zK hu zA) Hsm.out).mono ?_);rintro e w3 ⟨hI,t3⟩;obtain ⟨vq,nq,fq,rfl,rq⟩:=hI.yes Hi.out;obtain ⟨aq,cq,rfl,Iq⟩:=rq.ints;have X3:=X2.keep t3;obtain ⟨y0,y1,y2⟩:=X3.c3;have hz3:=t3.size;have hbq:=Iq.bound)
    | (go_at_call 51;(with_reducible refine (Zdy [.int .i64 x.points,.string x.names,.slice A3 x.moves.length C3] x _ u1 ts f1 u s fs0 _ (zK h0 zA) (zK r1 zA) (zK hu zA) Hsm.out).mono ?_);rintro e w4 ⟨he,t4⟩;rw [HB.out] at he;subst he;have hz4:=t4.size)
    | (go_at_call 52;(with_reducible refine (Znf (.slice aq q.length cq) q fq u1 ts f1 _ (zK rq zA) (zK r1 zA) HS.out).mono ?_);rintro e w5 ⟨cs4,f4,rfl,r4,F4,t5⟩;have rr:=id r4;obtain ⟨v1,v2,v3,e1,e2,e3,rfl,-,i1,s1,s2,s3⟩:=r4;simp only [List.cons_append,List.nil_append] at rr;obtain ⟨b1,k1,_,_,rfl,-,-⟩:=s1.open_;obtain ⟨b2,k2,_,_,rfl,-,-⟩:=s2.open_;obtain ⟨b3,k3,_,_,rfl,-,-⟩:=s3.open_;have Y9:=(((Y0.keep t2).keep t3).keep t4).keep t5;obtain ⟨g0,g1,g2,g3⟩:=Y9.c4;obtain ⟨p0,p1,p2,p3⟩:=Y9.f4)
    | fail)
    have K5:Only [] w w5:=zA
    have hFg:∀ g∈f4,g ∉ [w.heap.size + 1]:=fun g hg hm=>by have:=F4.ge g hg;simp at hm;omega
    have Yf:=(((Y9.set 0 (.int .i64 (opCert q ts).kind)).set 1 (.slice b1 (opCert q ts).numbers.length k1)).set 2 (.slice b2 (opCert q ts).words.length k2)).set 3 (.slice b3 (opCert q ts).tables.length k3)
    have kf:Only [w.heap.size + 1] w5 ((((w5.setCell ⟨w.heap.size + 1,0,none⟩ (.int .i64 (opCert q ts).kind)).setCell ⟨w.heap.size + 1,1,none⟩ (.slice b1 (opCert q ts).numbers.length k1)).setCell ⟨w.heap.size + 1,2,none⟩ (.slice b2 (opCert q ts).words.length k2)).setCell ⟨w.heap.size + 1,3,none⟩ (.slice b3 (opCert q ts).tables.length k3)):=(((zO.setCell (by simp) _).setCell (by simp) _).setCell (by simp) _).setCell (by simp) _
    obtain ⟨wf,hwf⟩:∃ wf,wf = ((((w5.setCell ⟨w.heap.size + 1,0,none⟩ (.int .i64 (opCert q ts).kind)).setCell ⟨w.heap.size + 1,1,none⟩ (.slice b1 (opCert q ts).numbers.length k1)).setCell ⟨w.heap.size + 1,2,none⟩ (.slice b2 (opCert q ts).words.length k2)).setCell ⟨w.heap.size + 1,3,none⟩ (.slice b3 (opCert q ts).tables.length k3)):=⟨_,rfl⟩
    rw [<- hwf] at Yf kf ⊢
    simp only [List.set] at Yf
    clear hwf g0 g1 g2 g3 p0 p1 p2 p3
    obtain ⟨z0,z1,z2,z3⟩:=Yf.c4
    refine bodyPost_ret (v:=.tuple #[.agg #[.int .i64 (opCert q ts).kind,.slice b1 (opCert q ts).numbers.length k1,.slice b2 (opCert q ts).words.length k2,.slice b3 (opCert q ts).tables.length k3],.bool true]) (by simp [results,Tryz.results28,go_sem,z0,z1,z2,z3]) rfl ⟨[.int .i64 (opCert q ts).kind,.slice b1 (opCert q ts).numbers.length k1,.slice b2 (opCert q ts).words.length k2,.slice b3 (opCert q ts).tables.length k3],f4,by rw [Hk.out],by rw [Hc.out];exact Rp.only rr kf hFg,(F4.mono (by omega)).only kf hFg,K5.then_ kf (by simp)⟩
   ·have Hc:=zH (hsw.trans (if_neg hlen))
    have cb:(b == (q.length:Int)) = false:=by simpa using hlen
    clear hb hk hi hbd hsw hlen
    go_enter Tryz.func28,Tryz.ntmps28
    go_wp2_with (first
    | (go_at_call 49;(with_reducible refine (Zbi [.int .i64 x.points,.string x.names,.slice A3 x.moves.length C3] x _ _ trs _ _ (zK h0 zA) (zK hv zA) hsm).mono ?_);rintro e w2 ⟨u1,f1,he,r1,F1,t2⟩;rw [Hb.out] at he r1;subst he;simp only [Option.getD] at r1;have X2:=X0.keep t2;obtain ⟨y0,y1,y2⟩:=X2.c3;have hz2:=t2.size;simp at hz2)
    | (go_at_call 50;(with_reducible refine (Zfr [.int .i64 x.points,.string x.names,.slice A3 x.moves.length C3] x _ u1 ts f1 u s fs0 m _ (zK h0 zA) (zK r1 zA) (zK hu zA) Hsm.out).mono ?_);rintro e w3 ⟨hI,t3⟩;obtain ⟨vq,nq,fq,rfl,rq⟩:=hI.yes Hi.out;obtain ⟨aq,cq,rfl,Iq⟩:=rq.ints;have X3:=X2.keep t3;obtain ⟨y0,y1,y2⟩:=X3.c3;have hz3:=t3.size;have hbq:=Iq.bound)
    | (go_at_call 51;(with_reducible refine (Zdy [.int .i64 x.points,.string x.names,.slice A3 x.moves.length C3] x _ u1 ts f1 u s fs0 _ (zK h0 zA) (zK r1 zA) (zK hu zA) Hsm.out).mono ?_);rintro e w4 ⟨he,t4⟩;rw [HB.out] at he;subst he;have hz4:=t4.size)
    | (go_at_call 33;(with_reducible refine (Zlb (.slice aq q.length cq) q fq _ (zK rq zA)).mono ?_);rintro e w5 ⟨cs4,f4,rfl,r4,F4,t5⟩;have rr:=id r4;obtain ⟨v1,v2,v3,e1,e2,e3,rfl,-,i1,s1,s2,s3⟩:=r4;simp only [List.cons_append,List.nil_append] at rr;obtain ⟨b1,k1,_,_,rfl,-,-⟩:=s1.open_;obtain ⟨b2,k2,_,_,rfl,-,-⟩:=s2.open_;obtain ⟨b3,k3,_,_,rfl,-,-⟩:=s3.open_;have Y9:=(((Y0.keep t2).keep t3).keep t4).keep t5;obtain ⟨g0,g1,g2,g3⟩:=Y9.c4;obtain ⟨p0,p1,p2,p3⟩:=Y9.f4)
    | fail)
    have K5:Only [] w w5:=zA
    have hFg:∀ g∈f4,g ∉ [w.heap.size + 1]:=fun g hg hm=>by have:=F4.ge g hg;simp at hm;omega
    have Yf:=(((Y9.set 0 (.int .i64 (solCert q).kind)).set 1 (.slice b1 (solCert q).numbers.length k1)).set 2 (.slice b2 (solCert q).words.length k2)).set 3 (.slice b3 (solCert q).tables.length k3)
    have kf:Only [w.heap.size + 1] w5 ((((w5.setCell ⟨w.heap.size + 1,0,none⟩ (.int .i64 (solCert q).kind)).setCell ⟨w.heap.size + 1,1,none⟩ (.slice b1 (solCert q).numbers.length k1)).setCell ⟨w.heap.size + 1,2,none⟩ (.slice b2 (solCert q).words.length k2)).setCell ⟨w.heap.size + 1,3,none⟩ (.slice b3 (solCert q).tables.length k3)):=(((zO.setCell (by simp) _).setCell (by simp) _).setCell (by simp) _).setCell (by simp) _
    obtain ⟨wf,hwf⟩:∃ wf,wf = ((((w5.setCell ⟨w.heap.size + 1,0,none⟩ (.int .i64 (solCert q).kind)).setCell ⟨w.heap.size + 1,1,none⟩ (.slice b1 (solCert q).numbers.length k1)).setCell ⟨w.heap.size + 1,2,none⟩ (.slice b2 (solCert q).words.length k2)).setCell ⟨w.heap.size + 1,3,none⟩ (.slice b3 (solCert q).tables.length k3)):=⟨_,rfl⟩
    rw [<- hwf] at Yf kf ⊢
    simp only [List.set] at Yf
    clear hwf g0 g1 g2 g3 p0 p1 p2 p3
    obtain ⟨z0,z1,z2,z3⟩:=Yf.c4
    refine bodyPost_ret (v:=.tuple #[.agg #[.int .i64 (solCert q).kind,.slice b1 (solCert q).numbers.length k1,.slice b2 (solCert q).words.length k2,.slice b3 (solCert q).tables.length k3],.bool true]) (by simp [results,Tryz.results28,go_sem,z0,z1,z2,z3]) rfl ⟨[.int .i64 (solCert q).kind,.slice b1 (solCert q).numbers.length k1,.slice b2 (solCert q).words.length k2,.slice b3 (solCert q).tables.length k3],f4,by rw [Hk.out],by rw [Hc.out];exact Rp.only rr kf hFg,(F4.mono (by omega)).only kf hFg,K5.then_ kf (by simp)⟩
set_option maxHeartbeats 4000000 in
theorem Zjy (cs:List Value) (x:Puzzle) (fp:List Nat) (v:Value) (trs:List (List Int)) (ft:List Nat) (u:Value) (s:List Int) (fs0:List Nat) (m:Int) (w:World) (h:Rp.rep w cs x fp) (hv:Rd w v trs ft) (hu:Rd w u s fs0) (hsm:∀ y∈trs,y.length<=2097152) :
  Calls Tryz.prog 29 #[.agg cs.toArray,v,u,.int .i64 m] w fun e w'=>∃ cs' fp',e = .returned (.tuple #[.agg (List.toArray cs'),.bool (swX x trs s m).isSome])/\Rp.rep w' cs' (swCert x trs s m) fp'/\Fresh w.heap.size w' fp'/\Only [] w w':=by
 have h0:=h
 obtain ⟨v2,rfl,p0,p1,h2⟩:=h
 obtain ⟨A3,C3,_,_,rfl,-,-⟩:=h2.open_
 clear h2 p0 p1
 have X0:Blk ((w.alloc (.cells #[.int .i64 x.points,.string x.names,.slice A3 x.moves.length C3] 33)).alloc (.cells #[.int .i64 0,.slice none 0 0,.slice none 0 0,.slice none 0 0] 30)) w.heap.size [.int .i64 x.points,.string x.names,.slice A3 x.moves.length C3]:=(Blk.new w [.int .i64 x.points,.string x.names,.slice A3 x.moves.length C3] 33).keep (zO.alloc _)
 have Y0:Blk ((w.alloc (.cells #[.int .i64 x.points,.string x.names,.slice A3 x.moves.length C3] 33)).alloc (.cells #[.int .i64 0,.slice none 0 0,.slice none 0 0,.slice none 0 0] 30)) (w.heap.size + 1) [.int .i64 0,.slice none 0 0,.slice none 0 0,.slice none 0 0]:=Blk.new_at (by simp)
 obtain ⟨x0,x1,x2⟩:=X0.c3
 rcases hb:bTabs x trs with _ | ts
 ·have hk:swX x trs s m = none:=by unfold swX;rw [hb];rfl
  have Hk:=zH (show (swX x trs s m).isSome = false by rw [hk];rfl)
  have Hc:=zH (sw_none hk)
  have Hb:=zH hb
  clear hb hk
  go_enter Tryz.func29,Tryz.ntmps29
  go_wp2_with (first
   | (go_at_call 53;(with_reducible refine (Zbh [.int .i64 x.points,.string x.names,.slice A3 x.moves.length C3] x _ _ trs _ _ (zK h0 zA) (zK hv zA) hsm).mono ?_);rintro e w2 ⟨u1,f1,he,r1,F1,t2⟩;rw [Hb.out] at he;subst he;have Y9:=Y0.keep t2;obtain ⟨g0,g1,g2,g3⟩:=Y9.c4;obtain ⟨p0,p1,p2,p3⟩:=Y9.f4)
   | fail)
  have K2:Only [] w w2:=zA
  have Yf:=(((Y9.set 0 (.int .i64 0)).set 1 (.slice none 0 0)).set 2 (.slice none 0 0)).set 3 (.slice none 0 0)
  have kf:Only [w.heap.size + 1] w2 ((((w2.setCell ⟨w.heap.size + 1,0,none⟩ (.int .i64 0)).setCell ⟨w.heap.size + 1,1,none⟩ (.slice none 0 0)).setCell ⟨w.heap.size + 1,2,none⟩ (.slice none 0 0)).setCell ⟨w.heap.size + 1,3,none⟩ (.slice none 0 0)):=(((zO.setCell (by simp) _).setCell (by simp) _).setCell (by simp) _).setCell (by simp) _
  obtain ⟨wf,hwf⟩:∃ wf,wf = ((((w2.setCell ⟨w.heap.size + 1,0,none⟩ (.int .i64 0)).setCell ⟨w.heap.size + 1,1,none⟩ (.slice none 0 0)).setCell ⟨w.heap.size + 1,2,none⟩ (.slice none 0 0)).setCell ⟨w.heap.size + 1,3,none⟩ (.slice none 0 0)):=⟨_,rfl⟩
  rw [<- hwf] at Yf kf ⊢
  simp only [List.set] at Yf
  clear hwf g0 g1 g2 g3 p0 p1 p2 p3
  obtain ⟨z0,z1,z2,z3⟩:=Yf.c4
  refine bodyPost_ret (v:=.tuple #[.agg #[.int .i64 0,.slice none 0 0,.slice none 0 0,.slice none 0 0],.bool false]) (by simp [results,Tryz.results29,go_sem,z0,z1,z2,z3]) rfl ⟨[.int .i64 0,.slice none 0 0,.slice none 0 0,.slice none 0 0],[],by rw [Hk.out],by rw [Hc.out];exact Zba _,Fresh.nil _ _,K2.then_ kf (by simp)⟩
 ·have Hb:=zH hb
  have Hsm:=zH (Zih hb)
  rcases hi:ida x ts s m with _ | q
  ·have hk:swX x trs s m = none:=by unfold swX;rw [hb];exact hi
   have Hk:=zH (show (swX x trs s m).isSome = false by rw [hk];rfl)
   have Hc:=zH (sw_none hk)
   have Hi:=zH hi
   clear hb hk hi
   go_enter Tryz.func29,Tryz.ntmps29
   go_wp2_with (first
    | (go_at_call 53;(with_reducible refine (Zbh [.int .i64 x.points,.string x.names,.slice A3 x.moves.length C3] x _ _ trs _ _ (zK h0 zA) (zK hv zA) hsm).mono ?_);rintro e w2 ⟨u1,f1,he,r1,F1,t2⟩;rw [Hb.out] at he r1;subst he;simp only [Option.getD] at r1;have X2:=X0.keep t2;obtain ⟨y0,y1,y2⟩:=X2.c3;have hz2:=t2.size;simp at hz2)
    | (go_at_call 54;(with_reducible refine (Zfu [.int .i64 x.points,.string x.names,.slice A3 x.moves.length C3] x _ u1 ts f1 u s fs0 m _ (zK h0 zA) (zK r1 zA) (zK hu zA) Hsm.out).mono ?_);rintro e w3 ⟨hI,t3⟩;obtain ⟨vq,nq,rfl⟩:=hI.no Hi.out;have Y9:=(Y0.keep t2).keep t3;obtain ⟨g0,g1,g2,g3⟩:=Y9.c4;obtain ⟨p0,p1,p2,p3⟩:=Y9.f4)
    | fail)
   have K3:Only [] w w3:=zA
   have Yf:=(((Y9.set 0 (.int .i64 0)).set 1 (.slice none 0 0)).set 2 (.slice none 0 0)).set 3 (.slice none 0 0)
   have kf:Only [w.heap.size + 1] w3 ((((w3.setCell ⟨w.heap.size + 1,0,none⟩ (.int .i64 0)).setCell ⟨w.heap.size + 1,1,none⟩ (.slice none 0 0)).setCell ⟨w.heap.size + 1,2,none⟩ (.slice none 0 0)).setCell ⟨w.heap.size + 1,3,none⟩ (.slice none 0 0)):=(((zO.setCell (by simp) _).setCell (by simp) _).setCell (by simp) _).setCell (by simp) _
   obtain ⟨wf,hwf⟩:∃ wf,wf = ((((w3.setCell ⟨w.heap.size + 1,0,none⟩ (.int .i64 0)).setCell ⟨w.heap.size + 1,1,none⟩ (.slice none 0 0)).setCell ⟨w.heap.size + 1,2,none⟩ (.slice none 0 0)).setCell ⟨w.heap.size + 1,3,none⟩ (.slice none 0 0)):=⟨_,rfl⟩
   rw [<- hwf] at Yf kf ⊢
   simp only [List.set] at Yf
   clear hwf g0 g1 g2 g3 p0 p1 p2 p3
   obtain ⟨z0,z1,z2,z3⟩:=Yf.c4
   refine bodyPost_ret (v:=.tuple #[.agg #[.int .i64 0,.slice none 0 0,.slice none 0 0,.slice none 0 0],.bool false]) (by simp [results,Tryz.results29,go_sem,z0,z1,z2,z3]) rfl ⟨[.int .i64 0,.slice none 0 0,.slice none 0 0,.slice none 0 0],[],by rw [Hk.out],by rw [Hc.out];exact Zba _,Fresh.nil _ _,K3.then_ kf (by simp)⟩
  ·have hk:swX x trs s m = some q:=by unfold swX;rw [hb];exact hi
   have Hk:=zH (show (swX x trs s m).isSome = true by rw [hk];rfl)
   have hsw:=sw_some hb hk
   obtain ⟨b,hbd⟩:∃ b,b = lb x ts s:=⟨_,rfl⟩
   rw [<- hbd] at hsw
   have HB:=zH hbd.symm
   have HS:=zH (Zny hb)
   have Hi:=zH hi
   by_cases hlen:b = (q.length:Int)
   ·have Hc:=zH (hsw.trans (if_pos hlen))
    have cb:(b == (q.length:Int)) = true:=by simpa using hlen
    clear hb hk hi hbd hsw hlen
    go_enter Tryz.func29,Tryz.ntmps29
    go_wp2_with (first
    | (go_at_call 53;(with_reducible refine (Zbh [.int .i64 x.points,.string x.names,.slice A3 x.moves.length C3] x _ _ trs _ _ (zK h0 zA) (zK hv zA) hsm).mono ?_);rintro e w2 ⟨u1,f1,he,r1,F1,t2⟩;rw [Hb.out] at he r1;subst he;simp only [Option.getD] at r1;have X2:=X0.keep t2;obtain ⟨y0,y1,y2⟩:=X2.c3;have hz2:=t2.size;simp at hz2)
    | (go_at_call 54;(with_reducible refine (Zfu [.int .i64 x.points,.string x.names,.slice A3 x.moves.length C3] x _ u1 ts f1 u s fs0 m _ (zK h0 zA) (zK r1 zA) (zK hu zA) Hsm.out).mono ?_);rintro e w3 ⟨hI,t3⟩;obtain ⟨vq,nq,fq,rfl,rq⟩:=hI.yes Hi.out;obtain ⟨aq,cq,rfl,Iq⟩:=rq.ints;have X3:=X2.keep t3;obtain ⟨y0,y1,y2⟩:=X3.c3;have hz3:=t3.size;have hbq:=Iq.bound)
    | (go_at_call 55;(with_reducible refine (Zed [.int .i64 x.points,.string x.names,.slice A3 x.moves.length C3] x _ u1 ts f1 u s fs0 _ (zK h0 zA) (zK r1 zA) (zK hu zA) Hsm.out).mono ?_);rintro e w4 ⟨he,t4⟩;rw [HB.out] at he;subst he;have hz4:=t4.size)
    | (go_at_call 47;(with_reducible refine (Zbd _ q fq _ (zK rq zA)).mono ?_);rintro e w4 ⟨rfl,rfl⟩)
    | (go_at_call 56;(with_reducible refine (Zne (.slice aq q.length cq) q fq u1 ts f1 _ (zK rq zA) (zK r1 zA) HS.out).mono ?_);rintro e w5 ⟨cs4,f4,rfl,r4,F4,t5⟩;have rr:=id r4;obtain ⟨v1,v2,v3,e1,e2,e3,rfl,-,i1,s1,s2,s3⟩:=r4;simp only [List.cons_append,List.nil_append] at rr;obtain ⟨b1,k1,_,_,rfl,-,-⟩:=s1.open_;obtain ⟨b2,k2,_,_,rfl,-,-⟩:=s2.open_;obtain ⟨b3,k3,_,_,rfl,-,-⟩:=s3.open_;have Y9:=(((Y0.keep t2).keep t3).keep t4).keep t5;obtain ⟨g0,g1,g2,g3⟩:=Y9.c4;obtain ⟨p0,p1,p2,p3⟩:=Y9.f4)
    | fail)
    have K5:Only [] w w5:=zA
    have hFg:∀ g∈f4,g ∉ [w.heap.size + 1]:=fun g hg hm=>by have:=F4.ge g hg;simp at hm;omega
    have Yf:=(((Y9.set 0 (.int .i64 (opCert q ts).kind)).set 1 (.slice b1 (opCert q ts).numbers.length k1)).set 2 (.slice b2 (opCert q ts).words.length k2)).set 3 (.slice b3 (opCert q ts).tables.length k3)
    have kf:Only [w.heap.size + 1] w5 ((((w5.setCell ⟨w.heap.size + 1,0,none⟩ (.int .i64 (opCert q ts).kind)).setCell ⟨w.heap.size + 1,1,none⟩ (.slice b1 (opCert q ts).numbers.length k1)).setCell ⟨w.heap.size + 1,2,none⟩ (.slice b2 (opCert q ts).words.length k2)).setCell ⟨w.heap.size + 1,3,none⟩ (.slice b3 (opCert q ts).tables.length k3)):=(((zO.setCell (by simp) _).setCell (by simp) _).setCell (by simp) _).setCell (by simp) _
    obtain ⟨wf,hwf⟩:∃ wf,wf = ((((w5.setCell ⟨w.heap.size + 1,0,none⟩ (.int .i64 (opCert q ts).kind)).setCell ⟨w.heap.size + 1,1,none⟩ (.slice b1 (opCert q ts).numbers.length k1)).setCell ⟨w.heap.size + 1,2,none⟩ (.slice b2 (opCert q ts).words.length k2)).setCell ⟨w.heap.size + 1,3,none⟩ (.slice b3 (opCert q ts).tables.length k3)):=⟨_,rfl⟩
    rw [<- hwf] at Yf kf ⊢
    simp only [List.set] at Yf
    clear hwf g0 g1 g2 g3 p0 p1 p2 p3
    obtain ⟨z0,z1,z2,z3⟩:=Yf.c4
    refine bodyPost_ret (v:=.tuple #[.agg #[.int .i64 (opCert q ts).kind,.slice b1 (opCert q ts).numbers.length k1,.slice b2 (opCert q ts).words.length k2,.slice b3 (opCert q ts).tables.length k3],.bool true]) (by simp [results,Tryz.results29,go_sem,z0,z1,z2,z3]) rfl ⟨[.int .i64 (opCert q ts).kind,.slice b1 (opCert q ts).numbers.length k1,.slice b2 (opCert q ts).words.length k2,.slice b3 (opCert q ts).tables.length k3],f4,by rw [Hk.out],by rw [Hc.out];exact Rp.only rr kf hFg,(F4.mono (by omega)).only kf hFg,K5.then_ kf (by simp)⟩
   ·have Hc:=zH (hsw.trans (if_neg hlen))
    have cb:(b == (q.length:Int)) = false:=by simpa using hlen
    clear hb hk hi hbd hsw hlen
    go_enter Tryz.func29,Tryz.ntmps29
    go_wp2_with (first
    | (go_at_call 53;(with_reducible refine (Zbh [.int .i64 x.points,.string x.names,.slice A3 x.moves.length C3] x _ _ trs _ _ (zK h0 zA) (zK hv zA) hsm).mono ?_);rintro e w2 ⟨u1,f1,he,r1,F1,t2⟩;rw [Hb.out] at he r1;subst he;simp only [Option.getD] at r1;have X2:=X0.keep t2;obtain ⟨y0,y1,y2⟩:=X2.c3;have hz2:=t2.size;simp at hz2)
    | (go_at_call 54;(with_reducible refine (Zfu [.int .i64 x.points,.string x.names,.slice A3 x.moves.length C3] x _ u1 ts f1 u s fs0 m _ (zK h0 zA) (zK r1 zA) (zK hu zA) Hsm.out).mono ?_);rintro e w3 ⟨hI,t3⟩;obtain ⟨vq,nq,fq,rfl,rq⟩:=hI.yes Hi.out;obtain ⟨aq,cq,rfl,Iq⟩:=rq.ints;have X3:=X2.keep t3;obtain ⟨y0,y1,y2⟩:=X3.c3;have hz3:=t3.size;have hbq:=Iq.bound)
    | (go_at_call 55;(with_reducible refine (Zed [.int .i64 x.points,.string x.names,.slice A3 x.moves.length C3] x _ u1 ts f1 u s fs0 _ (zK h0 zA) (zK r1 zA) (zK hu zA) Hsm.out).mono ?_);rintro e w4 ⟨he,t4⟩;rw [HB.out] at he;subst he;have hz4:=t4.size)
    | (go_at_call 47;(with_reducible refine (Zbd _ q fq _ (zK rq zA)).mono ?_);rintro e w4 ⟨rfl,rfl⟩)
    | (go_at_call 57;(with_reducible refine (Zkv (.slice aq q.length cq) q fq _ (zK rq zA)).mono ?_);rintro e w5 ⟨cs4,f4,rfl,r4,F4,t5⟩;have rr:=id r4;obtain ⟨v1,v2,v3,e1,e2,e3,rfl,-,i1,s1,s2,s3⟩:=r4;simp only [List.cons_append,List.nil_append] at rr;obtain ⟨b1,k1,_,_,rfl,-,-⟩:=s1.open_;obtain ⟨b2,k2,_,_,rfl,-,-⟩:=s2.open_;obtain ⟨b3,k3,_,_,rfl,-,-⟩:=s3.open_;have Y9:=(((Y0.keep t2).keep t3).keep t4).keep t5;obtain ⟨g0,g1,g2,g3⟩:=Y9.c4;obtain ⟨p0,p1,p2,p3⟩:=Y9.f4)
    | fail)
    have K5:Only [] w w5:=zA
    have hFg:∀ g∈f4,g ∉ [w.heap.size + 1]:=fun g hg hm=>by have:=F4.ge g hg;simp at hm;omega
    have Yf:=(((Y9.set 0 (.int .i64 (solCert q).kind)).set 1 (.slice b1 (solCert q).numbers.length k1)).set 2 (.slice b2 (solCert q).words.length k2)).set 3 (.slice b3 (solCert q).tables.length k3)
    have kf:Only [w.heap.size + 1] w5 ((((w5.setCell ⟨w.heap.size + 1,0,none⟩ (.int .i64 (solCert q).kind)).setCell ⟨w.heap.size + 1,1,none⟩ (.slice b1 (solCert q).numbers.length k1)).setCell ⟨w.heap.size + 1,2,none⟩ (.slice b2 (solCert q).words.length k2)).setCell ⟨w.heap.size + 1,3,none⟩ (.slice b3 (solCert q).tables.length k3)):=(((zO.setCell (by simp) _).setCell (by simp) _).setCell (by simp) _).setCell (by simp) _
    obtain ⟨wf,hwf⟩:∃ wf,wf = ((((w5.setCell ⟨w.heap.size + 1,0,none⟩ (.int .i64 (solCert q).kind)).setCell ⟨w.heap.size + 1,1,none⟩ (.slice b1 (solCert q).numbers.length k1)).setCell ⟨w.heap.size + 1,2,none⟩ (.slice b2 (solCert q).words.length k2)).setCell ⟨w.heap.size + 1,3,none⟩ (.slice b3 (solCert q).tables.length k3)):=⟨_,rfl⟩
    rw [<- hwf] at Yf kf ⊢
    simp only [List.set] at Yf
    clear hwf g0 g1 g2 g3 p0 p1 p2 p3
    obtain ⟨z0,z1,z2,z3⟩:=Yf.c4
    refine bodyPost_ret (v:=.tuple #[.agg #[.int .i64 (solCert q).kind,.slice b1 (solCert q).numbers.length k1,.slice b2 (solCert q).words.length k2,.slice b3 (solCert q).tables.length k3],.bool true]) (by simp [results,Tryz.results29,go_sem,z0,z1,z2,z3]) rfl ⟨[.int .i64 (solCert q).kind,.slice b1 (solCert q).numbers.length k1,.slice b2 (solCert q).words.length k2,.slice b3 (solCert q).tables.length k3],f4,by rw [Hk.out],by rw [Hc.out];exact Rp.only rr kf hFg,(F4.mono (by omega)).only kf hFg,K5.then_ kf (by simp)⟩
end Go.Proofs.YtclhblofchfglaaGreat
