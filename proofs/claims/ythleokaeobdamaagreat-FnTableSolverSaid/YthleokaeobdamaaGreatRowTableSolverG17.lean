/- The certificates of a lower bound and of optimality: the reference's and the program's. -/
import Derived.Test.YthleokaeobdamaaGreatRowTableSolverG6
import Derived.Test.YthleokaeobdamaaGreatRowTableSolverG16
import Derived.Test.YthleokaeobdamaaGreatRowTableSolverG14
import Derived.Test.YthleokaeobdamaaGreatRowTableSolverG4
import Derived.Test.YthleokaeobdamaaGreatRowTableSolverG7
import Derived.Test.YthleokaeobdamaaGreatRowTableSolverG10
import Derived.Test.YthleokaeobdamaaGreatRowTableSolverG3
import Derived.Test.YthleokaeobdamaaGreatRowTableSolverG8
import Derived.Test.YthleokaeobdamaaGreatRowTableSolverG15
import Derived.Deep.DeepCutAuto
import Derived.Deep.RegionLaw
import Derived.Deep.RegionHeld3
import Derived.Test.YthleokaeobdamaaGreatRowTableSolverG2
namespace Go.Proofs.YthleokaeobdamaaGreat
open Go.RowKit
set_option maxRecDepth 10000
theorem Zct (v:Value) (l:List Table) (fp:List Nat) (w:World) (h:Rd w v l fp) :
  Calls Tryz.prog 99 #[v] w fun e w'=>e = .returned (.bool (inR l.length 1 4))/\w' = w:=by
 obtain ⟨a,cap,ob,fps,rfl,-,hs⟩:=h.open_
 have hb:=hs.bound
 rcases hq:inR l.length 1 4
 all_goals
  go_enter Tryz.func99,Tryz.ntmps99
  go_wp2_with ((go_at_call 53;(with_reducible refine (Zaj l.length 1 4 _).mono ?_);rintro e w1 ⟨rfl,rfl⟩))
  go_ret
  exact ⟨rfl,rfl⟩
theorem Zde (v:Value) (l:List Table) (fp:List Nat) (w:World) (h:Rd w v l fp) :
  Calls Tryz.prog 91 #[v] w fun e w'=>e = .returned (.int .i64 l.length)/\w' = w:=by
 obtain ⟨a,cap,ob,fps,rfl,-,hs⟩:=h.open_
 have hb:=hs.bound
 go_enter Tryz.func91,Tryz.ntmps91
 go_wp2
 go_ret
 exact ⟨rfl,rfl⟩
def lbCert (b:Int) (l:List Table):Certificate:=if 0<=b/\inR l.length 1 4 = true then ⟨3,[b],[],l⟩ else noCert
def opCert (x:List Int) (l:List Table):Certificate:=if validW 8 x = true/\inR l.length 1 4 = true then ⟨2,[],[x],l⟩ else noCert
set_option maxHeartbeats 400000 in
theorem Zok (b:Int) (ib:I64 b) (v:Value) (l:List Table) (fp:List Nat) (w:World) (h:Rd w v l fp) (hsm:Sm.sm l) :
  Calls Tryz.prog 49 #[.int .i64 b,v] w fun e w'=>∃ cs fp',e = .returned (.agg cs.toArray)/\Rp.rep w' cs (lbCert b l) fp'/\Fresh w.heap.size w' fp'/\Only [] w w':=by
 by_cases c0:b < 0
 ·have hp:lbCert b l = noCert:=by unfold lbCert;rw [if_neg (by omega)]
  have Hp:=zH hp
  clear hp
  go_enter Tryz.func49,Tryz.ntmps49
  go_wp2
  refine bodyPost_ret (v:=.agg #[.int .i64 0,.slice none 0 0,.slice none 0 0,.slice none 0 0]) (by simp [results,Tryz.results49,go_sem]) rfl ⟨[.int .i64 0,.slice none 0 0,.slice none 0 0,.slice none 0 0],[],rfl,?_,Fresh.nil _ _,zA⟩
  rw [Hp.out];exact Zal _
 rcases hq:inR l.length 1 4
 ·have hp:lbCert b l = noCert:=by unfold lbCert;rw [if_neg (by simp [hq])]
  have Hp:=zH hp
  clear hp
  go_enter Tryz.func49,Tryz.ntmps49
  go_wp2_with ((go_at_call 99;(with_reducible refine (Zct v l _ _ (zK h zA)).mono ?_);rintro e w1 ⟨rfl,rfl⟩))
  refine bodyPost_ret (v:=.agg #[.int .i64 0,.slice none 0 0,.slice none 0 0,.slice none 0 0]) (by simp [results,Tryz.results49,go_sem]) rfl ⟨[.int .i64 0,.slice none 0 0,.slice none 0 0,.slice none 0 0],[],rfl,?_,Fresh.nil _ _,zA⟩
  rw [Hp.out];exact Zal _
 have hp:lbCert b l = ⟨3,[b],[],l⟩:=by unfold lbCert;rw [if_pos ⟨by omega,hq⟩]
 have Hp:=zH hp
 clear hp
 have Ib:=zH ib;clear ib
 go_enter Tryz.func49,Tryz.ntmps49
 go_wp2_with (first
  | (go_at_call 99;(with_reducible refine (Zct v l _ _ (zK h zA)).mono ?_);rintro e w1 ⟨rfl,rfl⟩)
  | (go_at_call 101;(with_reducible refine (Zht v l _ _ (zK h zA) hsm).mono ?_);rintro e w2 ⟨v2,fp2,rfl,r2,F2,t2⟩;obtain ⟨A2,C2,_,_,rfl,-⟩:=r2.open_;have y2:=t2.cells_eq w.heap.size (by first | (simp;done) | (simp;omega)) (by simp);have z2:=t2.frozen_eq w.heap.size (by first | (simp;done) | (simp;omega)) (by simp);have s2:w.heap.size < w2.heap.size:=(by have:=t2.size;simp at this;omega)))
 have HG:∀ b'∈fp2,w.heap.size + 2<=b':=fun b' hb=>by have:=F2.ge b' hb;simp at this;omega
 obtain ⟨o1,o2⟩:=one_rd (α:=Int) (w:=w.alloc (.cells #[.int .i64 0,.slice none 0 0,.slice none 0 0,.slice none 0 0] 32)) (v:=.int .i64 b) (x:=b) (fp:=[]) (int_rd _ Ib.out) 2 w.heap.size (Fresh.nil _ _) (g:=w.heap.size + 1) (by simp) (by omega)
 have hW:Only [w.heap.size] w2 ((((w2.setCell ⟨w.heap.size,0,none⟩ (.int .i64 3)).setCell ⟨w.heap.size,1,none⟩ (.slice (some ⟨w.heap.size + 1,0,none⟩) 1 1)).setCell ⟨w.heap.size,2,none⟩ (.slice none 0 0)).setCell ⟨w.heap.size,3,none⟩ (.slice A2 l.length C2)):=zB
 have n1:=Rp.only (zK o1 t2) hW (by simp)
 have n2:=Rp.only r2 hW (fun b' hb hm=>by have:=HG b' hb;simp at hm;omega)
 have n3:=(Fresh.append (o2.keep t2) F2 (by simp;omega) (by simp)).only hW (fun b' hb hm=>by
  simp at hm hb
  rcases hb with hb | hb
  ·omega
  ·have:=HG b' hb;omega)
 refine bodyPost_ret (v:=.agg #[.int .i64 3,.slice (some ⟨w.heap.size + 1,0,none⟩) 1 1,.slice none 0 0,.slice A2 l.length C2]) (by simp [results,Tryz.results49,go_sem,y2]) rfl ⟨[.int .i64 3,.slice (some ⟨w.heap.size + 1,0,none⟩) 1 1,.slice none 0 0,.slice A2 l.length C2],_,rfl,?_,n3,zA⟩
 rw [Hp.out]
 exact ⟨_,_,_,[w.heap.size + 1],[],fp2,rfl,(by simp),⟨by simp,by simp⟩,n1,nil_rd _,n2⟩
set_option maxHeartbeats 400000 in
theorem Zom (b:Int) (ib:I64 b) (v:Value) (l:List Table) (fp:List Nat) (w:World) (h:Rd w v l fp) (hsm:Sm.sm l) :
  Calls Tryz.prog 48 #[.int .i64 b,v] w fun e w'=>∃ cs fp',e = .returned (.agg cs.toArray)/\Rp.rep w' cs (lbCert b l) fp'/\Fresh w.heap.size w' fp'/\Only [] w w':=by
 by_cases c0:b < 0
 ·have hp:lbCert b l = noCert:=by unfold lbCert;rw [if_neg (by omega)]
  have Hp:=zH hp
  clear hp
  go_enter Tryz.func48,Tryz.ntmps48
  go_wp2
  refine bodyPost_ret (v:=.agg #[.int .i64 0,.slice none 0 0,.slice none 0 0,.slice none 0 0]) (by simp [results,Tryz.results48,go_sem]) rfl ⟨[.int .i64 0,.slice none 0 0,.slice none 0 0,.slice none 0 0],[],rfl,?_,Fresh.nil _ _,zA⟩
  rw [Hp.out];exact Zal _
 rcases hq:inR l.length 1 4
 ·have hp:lbCert b l = noCert:=by unfold lbCert;rw [if_neg (by simp [hq])]
  have Hp:=zH hp
  clear hp
  go_enter Tryz.func48,Tryz.ntmps48
  go_wp2_with ((first | (go_at_call 91;(with_reducible refine (Zde v l _ _ (zK h zA)).mono ?_);rintro e w1 ⟨rfl,rfl⟩) | (go_at_call 50;(with_reducible refine (Zai l.length 1 4 _).mono ?_);rintro e w1 ⟨rfl,rfl⟩)))
  refine bodyPost_ret (v:=.agg #[.int .i64 0,.slice none 0 0,.slice none 0 0,.slice none 0 0]) (by simp [results,Tryz.results48,go_sem]) rfl ⟨[.int .i64 0,.slice none 0 0,.slice none 0 0,.slice none 0 0],[],rfl,?_,Fresh.nil _ _,zA⟩
  rw [Hp.out];exact Zal _
 have hp:lbCert b l = ⟨3,[b],[],l⟩:=by unfold lbCert;rw [if_pos ⟨by omega,hq⟩]
 have Hp:=zH hp
 clear hp
 have Ib:=zH ib;clear ib
 go_enter Tryz.func48,Tryz.ntmps48
 go_wp2_with (first
  | (first | (go_at_call 91;(with_reducible refine (Zde v l _ _ (zK h zA)).mono ?_);rintro e w1 ⟨rfl,rfl⟩) | (go_at_call 50;(with_reducible refine (Zai l.length 1 4 _).mono ?_);rintro e w1 ⟨rfl,rfl⟩))
  | (go_at_call 93;(with_reducible refine (Zgx v l _ _ (zK h zA) hsm).mono ?_);rintro e w2 ⟨v2,fp2,rfl,r2,F2,t2⟩;obtain ⟨A2,C2,_,_,rfl,-⟩:=r2.open_;have y2:=t2.cells_eq w.heap.size (by first | (simp;done) | (simp;omega)) (by simp);have z2:=t2.frozen_eq w.heap.size (by first | (simp;done) | (simp;omega)) (by simp);have s2:w.heap.size < w2.heap.size:=(by have:=t2.size;simp at this;omega)))
 have HG:∀ b'∈fp2,w.heap.size + 2<=b':=fun b' hb=>by have:=F2.ge b' hb;simp at this;omega
 obtain ⟨o1,o2⟩:=one_rd (α:=Int) (w:=w.alloc (.cells #[.int .i64 0,.slice none 0 0,.slice none 0 0,.slice none 0 0] 32)) (v:=.int .i64 b) (x:=b) (fp:=[]) (int_rd _ Ib.out) 2 w.heap.size (Fresh.nil _ _) (g:=w.heap.size + 1) (by simp) (by omega)
 have hW:Only [w.heap.size] w2 ((((w2.setCell ⟨w.heap.size,0,none⟩ (.int .i64 3)).setCell ⟨w.heap.size,1,none⟩ (.slice (some ⟨w.heap.size + 1,0,none⟩) 1 1)).setCell ⟨w.heap.size,2,none⟩ (.slice none 0 0)).setCell ⟨w.heap.size,3,none⟩ (.slice A2 l.length C2)):=zB
 have n1:=Rp.only (zK o1 t2) hW (by simp)
 have n2:=Rp.only r2 hW (fun b' hb hm=>by have:=HG b' hb;simp at hm;omega)
 have n3:=(Fresh.append (o2.keep t2) F2 (by simp;omega) (by simp)).only hW (fun b' hb hm=>by
  simp at hm hb
  rcases hb with hb | hb
  ·omega
  ·have:=HG b' hb;omega)
 refine bodyPost_ret (v:=.agg #[.int .i64 3,.slice (some ⟨w.heap.size + 1,0,none⟩) 1 1,.slice none 0 0,.slice A2 l.length C2]) (by simp [results,Tryz.results48,go_sem,y2]) rfl ⟨[.int .i64 3,.slice (some ⟨w.heap.size + 1,0,none⟩) 1 1,.slice none 0 0,.slice A2 l.length C2],_,rfl,?_,n3,zA⟩
 rw [Hp.out]
 exact ⟨_,_,_,[w.heap.size + 1],[],fp2,rfl,(by simp),⟨by simp,by simp⟩,n1,nil_rd _,n2⟩
set_option maxHeartbeats 1000000 in
theorem Znw (u:Value) (x:List Int) (fq:List Nat) (v:Value) (l:List Table) (fp:List Nat) (w:World) (hx:Rd w u x fq) (h:Rd w v l fp) (hsm:Sm.sm l) :
  Calls Tryz.prog 46 #[u,v] w fun e w'=>∃ cs fp',e = .returned (.agg cs.toArray)/\Rp.rep w' cs (opCert x l) fp'/\Fresh w.heap.size w' fp'/\Only [] w w':=by
 rcases hv:validW 8 x
 ·have hp:opCert x l = noCert:=by unfold opCert;rw [if_neg (by simp [hv])]
  have Hp:=zH hp
  clear hp
  go_enter Tryz.func46,Tryz.ntmps46
  go_wp2_with ((go_at_call 98;(with_reducible refine (Zcl u x _ _ (zK hx zA)).mono ?_);rintro e w1 ⟨rfl,n1,rfl⟩))
  refine bodyPost_ret (v:=.agg #[.int .i64 0,.slice none 0 0,.slice none 0 0,.slice none 0 0]) (by simp [results,Tryz.results46,go_sem]) rfl ⟨[.int .i64 0,.slice none 0 0,.slice none 0 0,.slice none 0 0],[],rfl,?_,Fresh.nil _ _,zA⟩
  rw [Hp.out];exact Zal _
 rcases hq:inR l.length 1 4
 ·have hp:opCert x l = noCert:=by unfold opCert;rw [if_neg (by simp [hq])]
  have Hp:=zH hp
  clear hp
  go_enter Tryz.func46,Tryz.ntmps46
  go_wp2_with (first | (go_at_call 98;(with_reducible refine (Zcl u x _ _ (zK hx zA)).mono ?_);rintro e w1 ⟨rfl,n1,rfl⟩) | (go_at_call 99;(with_reducible refine (Zct v l _ _ (zK h zA)).mono ?_);rintro e w9 ⟨rfl,rfl⟩))
  refine bodyPost_ret (v:=.agg #[.int .i64 0,.slice none 0 0,.slice none 0 0,.slice none 0 0]) (by simp [results,Tryz.results46,go_sem]) rfl ⟨[.int .i64 0,.slice none 0 0,.slice none 0 0,.slice none 0 0],[],rfl,?_,Fresh.nil _ _,zA⟩
  rw [Hp.out];exact Zal _
 have hp:opCert x l = ⟨2,[],[x],l⟩:=by unfold opCert;rw [if_pos ⟨hv,hq⟩]
 have Hp:=zH hp
 have hlen:=Zex hv
 clear hp
 go_enter Tryz.func46,Tryz.ntmps46
 go_wp2_with (first
  | (go_at_call 98;(with_reducible refine (Zcl u x _ _ (zK hx zA)).mono ?_);rintro e w1 ⟨rfl,n1,rfl⟩)
  | (go_at_call 99;(with_reducible refine (Zct v l _ _ (zK h zA)).mono ?_);rintro e w9 ⟨rfl,rfl⟩)
  | (go_at_call 100;(with_reducible refine (Zbc u x _ _ (zK hx zA) (by omega)).mono ?_);rintro e w2 ⟨v2,fp2,rfl,r2,F2,t2⟩;obtain ⟨A2,C2,_,_,rfl,-⟩:=r2.open_;have y2:=t2.cells_eq w.heap.size (by first | (simp;done) | (simp;omega)) (by simp);have z2:=t2.frozen_eq w.heap.size (by first | (simp;done) | (simp;omega)) (by simp);have s2:w.heap.size < w2.heap.size:=(by have:=t2.size;first | omega | (simp at this;omega)))
  | (go_at_call 101;(with_reducible refine (Zht v l _ _ (zK h zA) hsm).mono ?_);rintro e w3 ⟨v3,fp3,rfl,r3,F3,t3⟩;obtain ⟨A3,C3,_,_,rfl,-⟩:=r3.open_;have y3:=t3.cells_eq w.heap.size (by simp;omega) (by simp);have z3:=t3.frozen_eq w.heap.size (by simp;omega) (by simp);have s3:w2.heap.size < w3.heap.size:=(by have:=t3.size;simp at this;omega)))
 have HF:=F2.mono (B':=w.heap.size) (by simp)
 have HG:∀ b'∈fp3,w2.heap.size + 1<=b':=fun b' hb=>by have:=F3.ge b' hb;simp at this;omega
 have HG2:∀ b'∈fp2,w.heap.size < b':=fun b' hb=>by have:=F2.ge b' hb;simp at this;omega
 have HL2:∀ b'∈fp2,b' < w2.heap.size:=F2.lt
 obtain ⟨o1,o2⟩:=one_rd r2 27 w.heap.size HF (g:=w2.heap.size) rfl (by omega)
 have hW:Only [w.heap.size] w3 ((((w3.setCell ⟨w.heap.size,0,none⟩ (.int .i64 2)).setCell ⟨w.heap.size,1,none⟩ (.slice none 0 0)).setCell ⟨w.heap.size,2,none⟩ (.slice (some ⟨w2.heap.size,0,none⟩) 1 1)).setCell ⟨w.heap.size,3,none⟩ (.slice A3 l.length C3)):=zB
 have n1:=Rp.only (zK o1 t3) hW (fun b' hb hm=>by
  simp at hm hb
  rcases hb with hb | hb
  ·omega
  ·have:=HG2 b' hb;omega)
 have n2:=Rp.only r3 hW (fun b' hb hm=>by have:=HG b' hb;simp at hm;omega)
 have n3:=(Fresh.append (o2.keep t3) F3 (by simp;omega) (fun b' hb=>by
  simp at hb ⊢
  rcases hb with hb | hb
  ·omega
  ·have:=HL2 b' hb;omega)).only hW (fun b' hb hm=>by
  simp at hm hb
  rcases hb with hb | hb | hb
  ·omega
  ·have:=HG2 b' hb;omega
  ·have:=HG b' hb;omega)
 refine bodyPost_ret (v:=.agg #[.int .i64 2,.slice none 0 0,.slice (some ⟨w2.heap.size,0,none⟩) 1 1,.slice A3 l.length C3]) (by simp [results,Tryz.results46,go_sem,y3,y2,s2]) rfl ⟨[.int .i64 2,.slice none 0 0,.slice (some ⟨w2.heap.size,0,none⟩) 1 1,.slice A3 l.length C3],_,rfl,?_,n3,zA⟩
 rw [Hp.out]
 exact ⟨_,_,_,[],_,fp3,rfl,(by simp),⟨by simp,by simp⟩,nil_rd _,n1,n2⟩
set_option maxHeartbeats 1000000 in
theorem Zoy (u:Value) (x:List Int) (fq:List Nat) (v:Value) (l:List Table) (fp:List Nat) (w:World) (hx:Rd w u x fq) (h:Rd w v l fp) (hsm:Sm.sm l) :
  Calls Tryz.prog 42 #[u,v] w fun e w'=>∃ cs fp',e = .returned (.agg cs.toArray)/\Rp.rep w' cs (opCert x l) fp'/\Fresh w.heap.size w' fp'/\Only [] w w':=by
 rcases hv:validW 8 x
 ·have hp:opCert x l = noCert:=by unfold opCert;rw [if_neg (by simp [hv])]
  have Hp:=zH hp
  clear hp
  go_enter Tryz.func42,Tryz.ntmps42
  go_wp2_with ((go_at_call 90;(with_reducible refine (Zcm u x _ _ (zK hx zA)).mono ?_);rintro e w1 ⟨rfl,t1⟩;have y1:=t1.cells_eq w.heap.size (by simp) (by simp);have z1:=t1.frozen_eq w.heap.size (by simp) (by simp);have s1:w.heap.size < w1.heap.size:=(by have:=t1.size;simp at this;omega)))
  refine bodyPost_ret (v:=.agg #[.int .i64 0,.slice none 0 0,.slice none 0 0,.slice none 0 0]) (by simp [results,Tryz.results42,go_sem,y1]) rfl ⟨[.int .i64 0,.slice none 0 0,.slice none 0 0,.slice none 0 0],[],rfl,?_,Fresh.nil _ _,zA⟩
  rw [Hp.out];exact Zal _
 rcases hq:inR l.length 1 4
 ·have hp:opCert x l = noCert:=by unfold opCert;rw [if_neg (by simp [hq])]
  have Hp:=zH hp
  clear hp
  go_enter Tryz.func42,Tryz.ntmps42
  go_wp2_with (first | (go_at_call 90;(with_reducible refine (Zcm u x _ _ (zK hx zA)).mono ?_);rintro e w1 ⟨rfl,t1⟩;have y1:=t1.cells_eq w.heap.size (by simp) (by simp);have z1:=t1.frozen_eq w.heap.size (by simp) (by simp);have s1:w.heap.size < w1.heap.size:=(by have:=t1.size;simp at this;omega)) | (first | (go_at_call 91;(with_reducible refine (Zde v l _ _ (zK h zA)).mono ?_);rintro e w9 ⟨rfl,rfl⟩) | (go_at_call 50;(with_reducible refine (Zai l.length 1 4 _).mono ?_);rintro e w9 ⟨rfl,rfl⟩)))
  refine bodyPost_ret (v:=.agg #[.int .i64 0,.slice none 0 0,.slice none 0 0,.slice none 0 0]) (by simp [results,Tryz.results42,go_sem,y1]) rfl ⟨[.int .i64 0,.slice none 0 0,.slice none 0 0,.slice none 0 0],[],rfl,?_,Fresh.nil _ _,zA⟩
  rw [Hp.out];exact Zal _
 have hp:opCert x l = ⟨2,[],[x],l⟩:=by unfold opCert;rw [if_pos ⟨hv,hq⟩]
 have Hp:=zH hp
 have hlen:=Zex hv
 clear hp
 go_enter Tryz.func42,Tryz.ntmps42
 go_wp2_with (first
  | (go_at_call 90;(with_reducible refine (Zcm u x _ _ (zK hx zA)).mono ?_);rintro e w1 ⟨rfl,t1⟩;have y1:=t1.cells_eq w.heap.size (by simp) (by simp);have z1:=t1.frozen_eq w.heap.size (by simp) (by simp);have s1:w.heap.size < w1.heap.size:=(by have:=t1.size;simp at this;omega))
  | (first | (go_at_call 91;(with_reducible refine (Zde v l _ _ (zK h zA)).mono ?_);rintro e w9 ⟨rfl,rfl⟩) | (go_at_call 50;(with_reducible refine (Zai l.length 1 4 _).mono ?_);rintro e w9 ⟨rfl,rfl⟩))
  | (go_at_call 92;(with_reducible refine (Zdm u x _ _ (zK hx zA) (by omega)).mono ?_);rintro e w2 ⟨v2,fp2,rfl,r2,F2,t2⟩;obtain ⟨A2,C2,_,_,rfl,-⟩:=r2.open_;have y2:=t2.cells_eq w.heap.size s1 (by simp);have z2:=t2.frozen_eq w.heap.size s1 (by simp);have s2:w.heap.size < w2.heap.size:=(by have:=t2.size;first | omega | (simp at this;omega)))
  | (go_at_call 93;(with_reducible refine (Zgx v l _ _ (zK h zA) hsm).mono ?_);rintro e w3 ⟨v3,fp3,rfl,r3,F3,t3⟩;obtain ⟨A3,C3,_,_,rfl,-⟩:=r3.open_;have y3:=t3.cells_eq w.heap.size (by simp;omega) (by simp);have z3:=t3.frozen_eq w.heap.size (by simp;omega) (by simp);have s3:w2.heap.size < w3.heap.size:=(by have:=t3.size;simp at this;omega)))
 have HF:=F2.mono (B':=w.heap.size) (by omega)
 have HG:∀ b'∈fp3,w2.heap.size + 1<=b':=fun b' hb=>by have:=F3.ge b' hb;simp at this;omega
 have HG2:∀ b'∈fp2,w.heap.size < b':=fun b' hb=>by have:=F2.ge b' hb;omega
 have HL2:∀ b'∈fp2,b' < w2.heap.size:=F2.lt
 obtain ⟨o1,o2⟩:=one_rd r2 27 w.heap.size HF (g:=w2.heap.size) rfl (by omega)
 have hW:Only [w.heap.size] w3 ((((w3.setCell ⟨w.heap.size,0,none⟩ (.int .i64 2)).setCell ⟨w.heap.size,1,none⟩ (.slice none 0 0)).setCell ⟨w.heap.size,2,none⟩ (.slice (some ⟨w2.heap.size,0,none⟩) 1 1)).setCell ⟨w.heap.size,3,none⟩ (.slice A3 l.length C3)):=zB
 have n1:=Rp.only (zK o1 t3) hW (fun b' hb hm=>by
  simp at hm hb
  rcases hb with hb | hb
  ·omega
  ·have:=HG2 b' hb;omega)
 have n2:=Rp.only r3 hW (fun b' hb hm=>by have:=HG b' hb;simp at hm;omega)
 have n3:=(Fresh.append (o2.keep t3) F3 (by simp;omega) (fun b' hb=>by
  simp at hb ⊢
  rcases hb with hb | hb
  ·omega
  ·have:=HL2 b' hb;omega)).only hW (fun b' hb hm=>by
  simp at hm hb
  rcases hb with hb | hb | hb
  ·omega
  ·have:=HG2 b' hb;omega
  ·have:=HG b' hb;omega)
 refine bodyPost_ret (v:=.agg #[.int .i64 2,.slice none 0 0,.slice (some ⟨w2.heap.size,0,none⟩) 1 1,.slice A3 l.length C3]) (by simp [results,Tryz.results42,go_sem,y3,y2,y1,s2]) rfl ⟨[.int .i64 2,.slice none 0 0,.slice (some ⟨w2.heap.size,0,none⟩) 1 1,.slice A3 l.length C3],_,rfl,?_,n3,zA⟩
 rw [Hp.out]
 exact ⟨_,_,_,[],_,fp3,rfl,(by simp),⟨by simp,by simp⟩,nil_rd _,n1,n2⟩
theorem Zez {x:Puzzle}:∀ {trs:List (List Int)} {ts:List Table},bTabsK x trs = some ts->ts.length = trs.length/\∀ t∈ts,∃ tr,bTab x tr = some t
 | [],ts,h=>by unfold bTabsK at h;injection h with h;subst h;simp
 | tr :: trs,ts,h=>by
  unfold bTabsK at h
  rw [Option.bind_eq_some_iff] at h
  obtain ⟨t,e1,e2⟩:=h
  rw [Option.map_eq_some_iff] at e2
  obtain ⟨ts',e3,e4⟩:=e2
  subst e4
  obtain ⟨a,b⟩:=Zez e3
  refine ⟨by simp [a],fun t' ht'=>?_⟩
  rcases List.mem_cons.1 ht' with rfl | ht'
  ·exact ⟨tr,e1⟩
  ·exact b t' ht'
theorem Znl {x:Puzzle} {trs:List (List Int)} {ts:List Table} (h:bTabs x trs = some ts):ts.length<=4/\∀ t∈ts,∃ tr,bTab x tr = some t:=by
 unfold bTabs at h
 split at h
 ·rename_i hq
  obtain ⟨q1,q2⟩:=inR_iff.1 hq
  obtain ⟨a,b⟩:=Zez h
  exact ⟨by omega,b⟩
 ·cases h
theorem Zhh {x:Puzzle} {trs:List (List Int)} {ts:List Table} (h:bTabs x trs = some ts):Sm.sm ts:=by
 obtain ⟨h1,h2⟩:=Znl h
 refine ⟨by omega,fun t ht=>?_⟩
 obtain ⟨tr,e⟩:=h2 t ht
 obtain ⟨a1,a2,a3,-,a5,a6,a7⟩:=Zhn e
 have h8:=(Zbb.1 a2).2.len
 have h9:=(Zad a1).2.1
 simp only at a5 a6 a7
 refine ⟨⟨by rw [a3];omega,fun _ _=>trivial⟩,⟨by omega,fun q hq=>⟨by rw [a7 q hq];omega,fun _ _=>trivial⟩⟩,⟨by omega,fun _ _=>trivial⟩⟩
theorem Zcq {x:Puzzle} {trs:List (List Int)} {ts:List Table} (h:bTabs x trs = some ts):∀ t∈ts,t.tracked.length<=2097152:=fun t ht=>by
 obtain ⟨-,h2⟩:=Znl h
 obtain ⟨tr,e⟩:=h2 t ht
 obtain ⟨a1,a2,a3,-,-⟩:=Zhn e
 have h8:=(Zbb.1 a2).2.len
 have h9:=(Zad a1).2.1
 rw [a3];omega
noncomputable def bndOk (x:Puzzle) (trs:List (List Int)) (s:List Int):Bool:=(bTabs x trs).isSome && decide (0<=lb x ((bTabs x trs).getD []) s)
noncomputable def bndCert (x:Puzzle) (trs:List (List Int)) (s:List Int):Certificate:=if bndOk x trs s = true then lbCert (lb x ((bTabs x trs).getD []) s) ((bTabs x trs).getD []) else noCert
set_option maxHeartbeats 4000000 in
theorem Zny (cs:List Value) (x:Puzzle) (fp:List Nat) (v:Value) (trs:List (List Int)) (ft:List Nat) (u:Value) (s:List Int) (fs0:List Nat) (w:World) (h:Rp.rep w cs x fp) (hv:Rd w v trs ft) (hu:Rd w u s fs0) (hsm:∀ y∈trs,y.length<=2097152) :
  Calls Tryz.prog 11 #[.agg cs.toArray,v,u] w fun e w'=>∃ cs' fp',e = .returned (.tuple #[.agg (List.toArray cs'),.bool (bndOk x trs s)])/\Rp.rep w' cs' (bndCert x trs s) fp'/\Fresh w.heap.size w' fp'/\Only [] w w':=by
 have h0:=h
 obtain ⟨v2,rfl,p0,p1,h2⟩:=h
 obtain ⟨A3,C3,_,_,rfl,-,-⟩:=h2.open_
 clear h2 p0 p1
 have X0:Blk ((w.alloc (.cells #[.int .i64 x.points,.string x.names,.slice A3 x.moves.length C3] 26)).alloc (.cells #[.int .i64 0,.slice none 0 0,.slice none 0 0,.slice none 0 0] 32)) w.heap.size [.int .i64 x.points,.string x.names,.slice A3 x.moves.length C3]:=(Blk.new w [.int .i64 x.points,.string x.names,.slice A3 x.moves.length C3] 26).keep (zO.alloc _)
 have Y0:Blk ((w.alloc (.cells #[.int .i64 x.points,.string x.names,.slice A3 x.moves.length C3] 26)).alloc (.cells #[.int .i64 0,.slice none 0 0,.slice none 0 0,.slice none 0 0] 32)) (w.heap.size + 1) [.int .i64 0,.slice none 0 0,.slice none 0 0,.slice none 0 0]:=Blk.new_at (by simp)
 obtain ⟨x0,x1,x2⟩:=X0.c3
 rcases hb:bTabs x trs with _ | ts
 ·have hk:bndOk x trs s = false:=by unfold bndOk;rw [hb];rfl
  have hc:bndCert x trs s = noCert:=by unfold bndCert;rw [hk];rfl
  have Hb:=zH hb
  have Hk:=zH hk
  have Hc:=zH hc
  clear hb hk hc
  go_enter Tryz.func11,Tryz.ntmps11
  go_wp2_with (first
   | (go_at_call 13;(with_reducible refine (Zaq [.int .i64 x.points,.string x.names,.slice A3 x.moves.length C3] x _ _ trs _ _ (zK h0 zA) (zK hv zA) hsm).mono ?_);rintro e w2 ⟨u1,f1,he,r1,F1,t2⟩;rw [Hb.out] at he;subst he;have Y9:=Y0.keep t2;obtain ⟨g0,g1,g2,g3⟩:=Y9.c4;obtain ⟨p0,p1,p2,p3⟩:=Y9.f4)
   | fail)
  have K2:Only [] w w2:=zA
  have Yf:=(((Y9.set 0 (.int .i64 0)).set 1 (.slice none 0 0)).set 2 (.slice none 0 0)).set 3 (.slice none 0 0)
  have kf:Only [w.heap.size + 1] w2 ((((w2.setCell ⟨w.heap.size + 1,0,none⟩ (.int .i64 0)).setCell ⟨w.heap.size + 1,1,none⟩ (.slice none 0 0)).setCell ⟨w.heap.size + 1,2,none⟩ (.slice none 0 0)).setCell ⟨w.heap.size + 1,3,none⟩ (.slice none 0 0)):=(((zO.setCell (by simp) _).setCell (by simp) _).setCell (by simp) _).setCell (by simp) _
  obtain ⟨wf,hwf⟩:∃ wf,wf = ((((w2.setCell ⟨w.heap.size + 1,0,none⟩ (.int .i64 0)).setCell ⟨w.heap.size + 1,1,none⟩ (.slice none 0 0)).setCell ⟨w.heap.size + 1,2,none⟩ (.slice none 0 0)).setCell ⟨w.heap.size + 1,3,none⟩ (.slice none 0 0)):=⟨_,rfl⟩
  rw [<- hwf] at Yf kf ⊢
  simp only [List.set] at Yf
  clear hwf g0 g1 g2 g3 p0 p1 p2 p3
  obtain ⟨z0,z1,z2,z3⟩:=Yf.c4
  refine bodyPost_ret (v:=.tuple #[.agg #[.int .i64 0,.slice none 0 0,.slice none 0 0,.slice none 0 0],.bool false]) (by simp [results,Tryz.results11,go_sem,z0,z1,z2,z3]) rfl ⟨[.int .i64 0,.slice none 0 0,.slice none 0 0,.slice none 0 0],[],by rw [Hk.out],by rw [Hc.out];exact Zal _,Fresh.nil _ _,K2.then_ kf (by simp)⟩
 ·obtain ⟨b,hbd⟩:∃ b,b = lb x ts s:=⟨_,rfl⟩
  have hrg:=lb_rng x ts s
  rw [<- hbd] at hrg
  have Hb:=zH hb
  have HB:=zH hbd.symm
  have Hsm:=zH (Zcq hb)
  by_cases hneg:b < 0
  ·have hk:bndOk x trs s = false:=by unfold bndOk;rw [hb];show (true && decide (0<=lb x ts s)) = false;rw [<- hbd];simp;omega
   have hc:bndCert x trs s = noCert:=by unfold bndCert;rw [hk];rfl
   have Hk:=zH hk
   have Hc:=zH hc
   have hbc:b < 0:=by omega
   clear hb hk hc hbd
   go_enter Tryz.func11,Tryz.ntmps11
   go_wp2_with (first
    | (go_at_call 13;(with_reducible refine (Zaq [.int .i64 x.points,.string x.names,.slice A3 x.moves.length C3] x _ _ trs _ _ (zK h0 zA) (zK hv zA) hsm).mono ?_);rintro e w2 ⟨u1,f1,he,r1,F1,t2⟩;rw [Hb.out] at he r1;subst he;simp only [Option.getD] at r1;have X2:=X0.keep t2;obtain ⟨y0,y1,y2⟩:=X2.c3)
    | (go_at_call 45;(with_reducible refine (Zas [.int .i64 x.points,.string x.names,.slice A3 x.moves.length C3] x _ u1 ts f1 u s fs0 _ (zK h0 zA) (zK r1 zA) (zK hu zA) Hsm.out).mono ?_);rintro e w3 ⟨he,t3⟩;rw [HB.out] at he;subst he;have Y9:=(Y0.keep t2).keep t3;obtain ⟨g0,g1,g2,g3⟩:=Y9.c4;obtain ⟨p0,p1,p2,p3⟩:=Y9.f4)
    | fail)
   have K3:Only [] w w3:=zA
   have Yf:=(((Y9.set 0 (.int .i64 0)).set 1 (.slice none 0 0)).set 2 (.slice none 0 0)).set 3 (.slice none 0 0)
   have kf:Only [w.heap.size + 1] w3 ((((w3.setCell ⟨w.heap.size + 1,0,none⟩ (.int .i64 0)).setCell ⟨w.heap.size + 1,1,none⟩ (.slice none 0 0)).setCell ⟨w.heap.size + 1,2,none⟩ (.slice none 0 0)).setCell ⟨w.heap.size + 1,3,none⟩ (.slice none 0 0)):=(((zO.setCell (by simp) _).setCell (by simp) _).setCell (by simp) _).setCell (by simp) _
   obtain ⟨wf,hwf⟩:∃ wf,wf = ((((w3.setCell ⟨w.heap.size + 1,0,none⟩ (.int .i64 0)).setCell ⟨w.heap.size + 1,1,none⟩ (.slice none 0 0)).setCell ⟨w.heap.size + 1,2,none⟩ (.slice none 0 0)).setCell ⟨w.heap.size + 1,3,none⟩ (.slice none 0 0)):=⟨_,rfl⟩
   rw [<- hwf] at Yf kf ⊢
   simp only [List.set] at Yf
   clear hwf g0 g1 g2 g3 p0 p1 p2 p3
   obtain ⟨z0,z1,z2,z3⟩:=Yf.c4
   refine bodyPost_ret (v:=.tuple #[.agg #[.int .i64 0,.slice none 0 0,.slice none 0 0,.slice none 0 0],.bool false]) (by simp [results,Tryz.results11,go_sem,z0,z1,z2,z3]) rfl ⟨[.int .i64 0,.slice none 0 0,.slice none 0 0,.slice none 0 0],[],by rw [Hk.out],by rw [Hc.out];exact Zal _,Fresh.nil _ _,K3.then_ kf (by simp)⟩
  ·have hk:bndOk x trs s = true:=by unfold bndOk;rw [hb];show (true && decide (0<=lb x ts s)) = true;rw [<- hbd];simp;omega
   have hc:bndCert x trs s = lbCert b ts:=by unfold bndCert;rw [hk,hb];show lbCert (lb x ts s) ts = _;rw [<- hbd]
   have Hk:=zH hk
   have Hc:=zH hc
   have HS:=zH (Zhh hb)
   have HI:=zH (show I64 b by unfold I64;omega)
   have hbc:¬ b < 0:=by omega
   clear hb hk hc hbd
   go_enter Tryz.func11,Tryz.ntmps11
   go_wp2_with (first
    | (go_at_call 13;(with_reducible refine (Zaq [.int .i64 x.points,.string x.names,.slice A3 x.moves.length C3] x _ _ trs _ _ (zK h0 zA) (zK hv zA) hsm).mono ?_);rintro e w2 ⟨u1,f1,he,r1,F1,t2⟩;rw [Hb.out] at he r1;subst he;simp only [Option.getD] at r1;have X2:=X0.keep t2;obtain ⟨y0,y1,y2⟩:=X2.c3;have hz2:=t2.size;simp at hz2)
    | (go_at_call 45;(with_reducible refine (Zas [.int .i64 x.points,.string x.names,.slice A3 x.moves.length C3] x _ u1 ts f1 u s fs0 _ (zK h0 zA) (zK r1 zA) (zK hu zA) Hsm.out).mono ?_);rintro e w3 ⟨he,t3⟩;rw [HB.out] at he;subst he)
    | (go_at_call 49;(with_reducible refine (Zok b HI.out u1 ts f1 _ (zK r1 zA) HS.out).mono ?_);rintro e w4 ⟨cs4,f4,rfl,r4,F4,t4⟩;have rr:=id r4;obtain ⟨v1,v2,v3,e1,e2,e3,rfl,-,i1,s1,s2,s3⟩:=r4;simp only [List.cons_append,List.nil_append] at rr;obtain ⟨a1,k1,_,_,rfl,-,-⟩:=s1.open_;obtain ⟨a2,k2,_,_,rfl,-,-⟩:=s2.open_;obtain ⟨a3,k3,_,_,rfl,-,-⟩:=s3.open_;have Y9:=((Y0.keep t2).keep t3).keep t4;obtain ⟨g0,g1,g2,g3⟩:=Y9.c4;obtain ⟨p0,p1,p2,p3⟩:=Y9.f4)
    | fail)
   have K4:Only [] w w4:=zA
   have hz3:=t3.size
   have hFg:∀ g∈f4,g ∉ [w.heap.size + 1]:=fun g hg hm=>by have:=F4.ge g hg;simp at hm;omega
   have Yf:=(((Y9.set 0 (.int .i64 (lbCert b ts).kind)).set 1 (.slice a1 (lbCert b ts).numbers.length k1)).set 2 (.slice a2 (lbCert b ts).words.length k2)).set 3 (.slice a3 (lbCert b ts).tables.length k3)
   have kf:Only [w.heap.size + 1] w4 ((((w4.setCell ⟨w.heap.size + 1,0,none⟩ (.int .i64 (lbCert b ts).kind)).setCell ⟨w.heap.size + 1,1,none⟩ (.slice a1 (lbCert b ts).numbers.length k1)).setCell ⟨w.heap.size + 1,2,none⟩ (.slice a2 (lbCert b ts).words.length k2)).setCell ⟨w.heap.size + 1,3,none⟩ (.slice a3 (lbCert b ts).tables.length k3)):=(((zO.setCell (by simp) _).setCell (by simp) _).setCell (by simp) _).setCell (by simp) _
   obtain ⟨wf,hwf⟩:∃ wf,wf = ((((w4.setCell ⟨w.heap.size + 1,0,none⟩ (.int .i64 (lbCert b ts).kind)).setCell ⟨w.heap.size + 1,1,none⟩ (.slice a1 (lbCert b ts).numbers.length k1)).setCell ⟨w.heap.size + 1,2,none⟩ (.slice a2 (lbCert b ts).words.length k2)).setCell ⟨w.heap.size + 1,3,none⟩ (.slice a3 (lbCert b ts).tables.length k3)):=⟨_,rfl⟩
   rw [<- hwf] at Yf kf ⊢
   simp only [List.set] at Yf
   clear hwf g0 g1 g2 g3 p0 p1 p2 p3
   obtain ⟨z0,z1,z2,z3⟩:=Yf.c4
   refine bodyPost_ret (v:=.tuple #[.agg #[.int .i64 (lbCert b ts).kind,.slice a1 (lbCert b ts).numbers.length k1,.slice a2 (lbCert b ts).words.length k2,.slice a3 (lbCert b ts).tables.length k3],.bool true]) (by simp [results,Tryz.results11,go_sem,z0,z1,z2,z3]) rfl ⟨[.int .i64 (lbCert b ts).kind,.slice a1 (lbCert b ts).numbers.length k1,.slice a2 (lbCert b ts).words.length k2,.slice a3 (lbCert b ts).tables.length k3],f4,by rw [Hk.out],by rw [Hc.out];exact Rp.only rr kf hFg,(F4.mono (by omega)).only kf hFg,K4.then_ kf (by simp)⟩
set_option maxHeartbeats 4000000 in
theorem Zol (cs:List Value) (x:Puzzle) (fp:List Nat) (v:Value) (trs:List (List Int)) (ft:List Nat) (u:Value) (s:List Int) (fs0:List Nat) (w:World) (h:Rp.rep w cs x fp) (hv:Rd w v trs ft) (hu:Rd w u s fs0) (hsm:∀ y∈trs,y.length<=2097152) :
  Calls Tryz.prog 10 #[.agg cs.toArray,v,u] w fun e w'=>∃ cs' fp',e = .returned (.tuple #[.agg (List.toArray cs'),.bool (bndOk x trs s)])/\Rp.rep w' cs' (bndCert x trs s) fp'/\Fresh w.heap.size w' fp'/\Only [] w w':=by
 have h0:=h
 obtain ⟨v2,rfl,p0,p1,h2⟩:=h
 obtain ⟨A3,C3,_,_,rfl,-,-⟩:=h2.open_
 clear h2 p0 p1
 have X0:Blk ((w.alloc (.cells #[.int .i64 x.points,.string x.names,.slice A3 x.moves.length C3] 26)).alloc (.cells #[.int .i64 0,.slice none 0 0,.slice none 0 0,.slice none 0 0] 32)) w.heap.size [.int .i64 x.points,.string x.names,.slice A3 x.moves.length C3]:=(Blk.new w [.int .i64 x.points,.string x.names,.slice A3 x.moves.length C3] 26).keep (zO.alloc _)
 have Y0:Blk ((w.alloc (.cells #[.int .i64 x.points,.string x.names,.slice A3 x.moves.length C3] 26)).alloc (.cells #[.int .i64 0,.slice none 0 0,.slice none 0 0,.slice none 0 0] 32)) (w.heap.size + 1) [.int .i64 0,.slice none 0 0,.slice none 0 0,.slice none 0 0]:=Blk.new_at (by simp)
 obtain ⟨x0,x1,x2⟩:=X0.c3
 rcases hb:bTabs x trs with _ | ts
 ·have hk:bndOk x trs s = false:=by unfold bndOk;rw [hb];rfl
  have hc:bndCert x trs s = noCert:=by unfold bndCert;rw [hk];rfl
  have Hb:=zH hb
  have Hk:=zH hk
  have Hc:=zH hc
  clear hb hk hc
  go_enter Tryz.func10,Tryz.ntmps10
  go_wp2_with (first
   | (go_at_call 12;(with_reducible refine (Zap [.int .i64 x.points,.string x.names,.slice A3 x.moves.length C3] x _ _ trs _ _ (zK h0 zA) (zK hv zA) hsm).mono ?_);rintro e w2 ⟨u1,f1,he,r1,F1,t2⟩;rw [Hb.out] at he;subst he;have Y9:=Y0.keep t2;obtain ⟨g0,g1,g2,g3⟩:=Y9.c4;obtain ⟨p0,p1,p2,p3⟩:=Y9.f4)
   | fail)
  have K2:Only [] w w2:=zA
  have Yf:=(((Y9.set 0 (.int .i64 0)).set 1 (.slice none 0 0)).set 2 (.slice none 0 0)).set 3 (.slice none 0 0)
  have kf:Only [w.heap.size + 1] w2 ((((w2.setCell ⟨w.heap.size + 1,0,none⟩ (.int .i64 0)).setCell ⟨w.heap.size + 1,1,none⟩ (.slice none 0 0)).setCell ⟨w.heap.size + 1,2,none⟩ (.slice none 0 0)).setCell ⟨w.heap.size + 1,3,none⟩ (.slice none 0 0)):=(((zO.setCell (by simp) _).setCell (by simp) _).setCell (by simp) _).setCell (by simp) _
  obtain ⟨wf,hwf⟩:∃ wf,wf = ((((w2.setCell ⟨w.heap.size + 1,0,none⟩ (.int .i64 0)).setCell ⟨w.heap.size + 1,1,none⟩ (.slice none 0 0)).setCell ⟨w.heap.size + 1,2,none⟩ (.slice none 0 0)).setCell ⟨w.heap.size + 1,3,none⟩ (.slice none 0 0)):=⟨_,rfl⟩
  rw [<- hwf] at Yf kf ⊢
  simp only [List.set] at Yf
  clear hwf g0 g1 g2 g3 p0 p1 p2 p3
  obtain ⟨z0,z1,z2,z3⟩:=Yf.c4
  refine bodyPost_ret (v:=.tuple #[.agg #[.int .i64 0,.slice none 0 0,.slice none 0 0,.slice none 0 0],.bool false]) (by simp [results,Tryz.results10,go_sem,z0,z1,z2,z3]) rfl ⟨[.int .i64 0,.slice none 0 0,.slice none 0 0,.slice none 0 0],[],by rw [Hk.out],by rw [Hc.out];exact Zal _,Fresh.nil _ _,K2.then_ kf (by simp)⟩
 ·obtain ⟨b,hbd⟩:∃ b,b = lb x ts s:=⟨_,rfl⟩
  have hrg:=lb_rng x ts s
  rw [<- hbd] at hrg
  have Hb:=zH hb
  have HB:=zH hbd.symm
  have Hsm:=zH (Zcq hb)
  by_cases hneg:b < 0
  ·have hk:bndOk x trs s = false:=by unfold bndOk;rw [hb];show (true && decide (0<=lb x ts s)) = false;rw [<- hbd];simp;omega
   have hc:bndCert x trs s = noCert:=by unfold bndCert;rw [hk];rfl
   have Hk:=zH hk
   have Hc:=zH hc
   have hbc:(b == -1) = true:=by simp;omega
   clear hb hk hc hbd
   go_enter Tryz.func10,Tryz.ntmps10
   go_wp2_with (first
    | (go_at_call 12;(with_reducible refine (Zap [.int .i64 x.points,.string x.names,.slice A3 x.moves.length C3] x _ _ trs _ _ (zK h0 zA) (zK hv zA) hsm).mono ?_);rintro e w2 ⟨u1,f1,he,r1,F1,t2⟩;rw [Hb.out] at he r1;subst he;simp only [Option.getD] at r1;have X2:=X0.keep t2;obtain ⟨y0,y1,y2⟩:=X2.c3)
    | (go_at_call 40;(with_reducible refine (Zbt [.int .i64 x.points,.string x.names,.slice A3 x.moves.length C3] x _ u1 ts f1 u s fs0 _ (zK h0 zA) (zK r1 zA) (zK hu zA) Hsm.out).mono ?_);rintro e w3 ⟨he,t3⟩;rw [HB.out] at he;subst he;have Y9:=(Y0.keep t2).keep t3;obtain ⟨g0,g1,g2,g3⟩:=Y9.c4;obtain ⟨p0,p1,p2,p3⟩:=Y9.f4)
    | fail)
   have K3:Only [] w w3:=zA
   have Yf:=(((Y9.set 0 (.int .i64 0)).set 1 (.slice none 0 0)).set 2 (.slice none 0 0)).set 3 (.slice none 0 0)
   have kf:Only [w.heap.size + 1] w3 ((((w3.setCell ⟨w.heap.size + 1,0,none⟩ (.int .i64 0)).setCell ⟨w.heap.size + 1,1,none⟩ (.slice none 0 0)).setCell ⟨w.heap.size + 1,2,none⟩ (.slice none 0 0)).setCell ⟨w.heap.size + 1,3,none⟩ (.slice none 0 0)):=(((zO.setCell (by simp) _).setCell (by simp) _).setCell (by simp) _).setCell (by simp) _
   obtain ⟨wf,hwf⟩:∃ wf,wf = ((((w3.setCell ⟨w.heap.size + 1,0,none⟩ (.int .i64 0)).setCell ⟨w.heap.size + 1,1,none⟩ (.slice none 0 0)).setCell ⟨w.heap.size + 1,2,none⟩ (.slice none 0 0)).setCell ⟨w.heap.size + 1,3,none⟩ (.slice none 0 0)):=⟨_,rfl⟩
   rw [<- hwf] at Yf kf ⊢
   simp only [List.set] at Yf
   clear hwf g0 g1 g2 g3 p0 p1 p2 p3
   obtain ⟨z0,z1,z2,z3⟩:=Yf.c4
   refine bodyPost_ret (v:=.tuple #[.agg #[.int .i64 0,.slice none 0 0,.slice none 0 0,.slice none 0 0],.bool false]) (by simp [results,Tryz.results10,go_sem,z0,z1,z2,z3]) rfl ⟨[.int .i64 0,.slice none 0 0,.slice none 0 0,.slice none 0 0],[],by rw [Hk.out],by rw [Hc.out];exact Zal _,Fresh.nil _ _,K3.then_ kf (by simp)⟩
  ·have hk:bndOk x trs s = true:=by unfold bndOk;rw [hb];show (true && decide (0<=lb x ts s)) = true;rw [<- hbd];simp;omega
   have hc:bndCert x trs s = lbCert b ts:=by unfold bndCert;rw [hk,hb];show lbCert (lb x ts s) ts = _;rw [<- hbd]
   have Hk:=zH hk
   have Hc:=zH hc
   have HS:=zH (Zhh hb)
   have HI:=zH (show I64 b by unfold I64;omega)
   have hbc:(b == -1) = false:=by simp;omega
   clear hb hk hc hbd
   go_enter Tryz.func10,Tryz.ntmps10
   go_wp2_with (first
    | (go_at_call 12;(with_reducible refine (Zap [.int .i64 x.points,.string x.names,.slice A3 x.moves.length C3] x _ _ trs _ _ (zK h0 zA) (zK hv zA) hsm).mono ?_);rintro e w2 ⟨u1,f1,he,r1,F1,t2⟩;rw [Hb.out] at he r1;subst he;simp only [Option.getD] at r1;have X2:=X0.keep t2;obtain ⟨y0,y1,y2⟩:=X2.c3;have hz2:=t2.size;simp at hz2)
    | (go_at_call 40;(with_reducible refine (Zbt [.int .i64 x.points,.string x.names,.slice A3 x.moves.length C3] x _ u1 ts f1 u s fs0 _ (zK h0 zA) (zK r1 zA) (zK hu zA) Hsm.out).mono ?_);rintro e w3 ⟨he,t3⟩;rw [HB.out] at he;subst he)
    | (go_at_call 48;(with_reducible refine (Zom b HI.out u1 ts f1 _ (zK r1 zA) HS.out).mono ?_);rintro e w4 ⟨cs4,f4,rfl,r4,F4,t4⟩;have rr:=id r4;obtain ⟨v1,v2,v3,e1,e2,e3,rfl,-,i1,s1,s2,s3⟩:=r4;simp only [List.cons_append,List.nil_append] at rr;obtain ⟨a1,k1,_,_,rfl,-,-⟩:=s1.open_;obtain ⟨a2,k2,_,_,rfl,-,-⟩:=s2.open_;obtain ⟨a3,k3,_,_,rfl,-,-⟩:=s3.open_;have Y9:=((Y0.keep t2).keep t3).keep t4;obtain ⟨g0,g1,g2,g3⟩:=Y9.c4;obtain ⟨p0,p1,p2,p3⟩:=Y9.f4)
    | fail)
   have K4:Only [] w w4:=zA
   have hz3:=t3.size
   have hFg:∀ g∈f4,g ∉ [w.heap.size + 1]:=fun g hg hm=>by have:=F4.ge g hg;simp at hm;omega
   have Yf:=(((Y9.set 0 (.int .i64 (lbCert b ts).kind)).set 1 (.slice a1 (lbCert b ts).numbers.length k1)).set 2 (.slice a2 (lbCert b ts).words.length k2)).set 3 (.slice a3 (lbCert b ts).tables.length k3)
   have kf:Only [w.heap.size + 1] w4 ((((w4.setCell ⟨w.heap.size + 1,0,none⟩ (.int .i64 (lbCert b ts).kind)).setCell ⟨w.heap.size + 1,1,none⟩ (.slice a1 (lbCert b ts).numbers.length k1)).setCell ⟨w.heap.size + 1,2,none⟩ (.slice a2 (lbCert b ts).words.length k2)).setCell ⟨w.heap.size + 1,3,none⟩ (.slice a3 (lbCert b ts).tables.length k3)):=(((zO.setCell (by simp) _).setCell (by simp) _).setCell (by simp) _).setCell (by simp) _
   obtain ⟨wf,hwf⟩:∃ wf,wf = ((((w4.setCell ⟨w.heap.size + 1,0,none⟩ (.int .i64 (lbCert b ts).kind)).setCell ⟨w.heap.size + 1,1,none⟩ (.slice a1 (lbCert b ts).numbers.length k1)).setCell ⟨w.heap.size + 1,2,none⟩ (.slice a2 (lbCert b ts).words.length k2)).setCell ⟨w.heap.size + 1,3,none⟩ (.slice a3 (lbCert b ts).tables.length k3)):=⟨_,rfl⟩
   rw [<- hwf] at Yf kf ⊢
   simp only [List.set] at Yf
   clear hwf g0 g1 g2 g3 p0 p1 p2 p3
   obtain ⟨z0,z1,z2,z3⟩:=Yf.c4
   refine bodyPost_ret (v:=.tuple #[.agg #[.int .i64 (lbCert b ts).kind,.slice a1 (lbCert b ts).numbers.length k1,.slice a2 (lbCert b ts).words.length k2,.slice a3 (lbCert b ts).tables.length k3],.bool true]) (by simp [results,Tryz.results10,go_sem,z0,z1,z2,z3]) rfl ⟨[.int .i64 (lbCert b ts).kind,.slice a1 (lbCert b ts).numbers.length k1,.slice a2 (lbCert b ts).words.length k2,.slice a3 (lbCert b ts).tables.length k3],f4,by rw [Hk.out],by rw [Hc.out];exact Rp.only rr kf hFg,(F4.mono (by omega)).only kf hFg,K4.then_ kf (by simp)⟩
theorem Zoi (g:Nat) (fc:List Nat) (l:List UInt8) (cs:List Value) (x:Puzzle) (fp:List Nat) (w:World) (h:Src w g fc l) (hl:l.length<=4096) (hx:Rp.rep w cs x fp) (hgx:g ∉ fp) :
  Calls Tryz.prog 82 #[.pointer (some ⟨g,0,none⟩),.agg cs.toArray] w fun e w'=>∃ v,∃ p:List Int,∃ f,e = .returned v/\Rd w' v p f/\Fresh w.heap.size w' f/\p.length<=60/\Src w' g fc l/\Only [g] w w':=by
 have hg:=h.lt
 obtain ⟨v2,rfl,p0,p1,h2⟩:=hx
 obtain ⟨A2,C2,_,_,rfl,-,-⟩:=h2.open_
 have hB0:=Blk.new w [.int .i64 x.points,.string x.names,.slice A2 x.moves.length C2] 26
 have kb:Only [] w (w.alloc (.cells #[.int .i64 x.points,.string x.names,.slice A2 x.moves.length C2] 26)):=zO.alloc _
 have x0:=hB0.cell 0 rfl
 have x2:=hB0.cell 2 rfl
 have Hs:Hid ((w.alloc (.cells #[.int .i64 x.points,.string x.names,.slice A2 x.moves.length C2] 26)).heap.size = w.heap.size + 1):=zH (by simp)
 have hne:∀ b∈fp,b ≠ g:=fun b hb e=>hgx (e ▸ hb)
 go_enter Tryz.func82,Tryz.ntmps82
 go_wp2_with (first
  | (go_at_call 148;(with_reducible refine (Zmv g fc l x.points (.slice A2 x.moves.length C2) x.moves fp _ (h.keep kb) hl p0 (zK h2 kb) hne).mono ?_);rintro e w3 ⟨v3,p3,f3,rfl,r3,F3,l3,D3,K3⟩)
  | fail)
 go_ret
 exact ⟨_,_,_,rfl,r3,F3.mono (by rw [Hs.out];omega),l3,D3,(kb.weaken [g]).trans K3⟩
def PSR (w:World) (g:Nat) (fc:List Nat) (l:List UInt8) (e:Ending) (w':World):Prop:=
 ∃ (n:Int) (nm:ByteArray) (vm:Value) (gs:List (List Int)) (fp:List Nat) (v:Value) (s:List Int) (f:List Nat),e = .returned (.tuple #[.agg #[.int .i64 n,.string nm,vm],v])/\I64 n/\nm.size<=20/\Rd w' vm gs fp/\(∀ b∈fp,w.heap.size<=b)/\gs.length<=9/\Rd w' v s f/\(∀ b∈f,w.heap.size<=b)/\Src w' g fc l/\Only [g] w w'
set_option maxHeartbeats 4000000 in
theorem Zgm (g:Nat) (fc:List Nat) (l:List UInt8) (w:World) (h:Src w g fc l) (hl:l.length<=4096) :
  Calls Tryz.prog 36 #[.pointer (some ⟨g,0,none⟩)] w (PSR w g fc l):=by
 have hg:=h.lt
 have hfc:∀ b∈fc,b < w.heap.size:=by obtain ⟨_,_,_,_,_,_,_,h4,_⟩:=h;exact fun b hb=>Rp.lt h4 b hb
 have hB0:=Blk.new w [.int .i64 0,.string ⟨#[]⟩,.slice none 0 0] 26
 have kb:Only [] w (w.alloc (.cells #[.int .i64 0,.string ⟨#[]⟩,.slice none 0 0] 26)):=zO.alloc _
 have Hs:Hid ((w.alloc (.cells #[.int .i64 0,.string ⟨#[]⟩,.slice none 0 0] 26)).heap.size = w.heap.size + 1):=zH (by simp)
 go_enter Tryz.func36,Tryz.ntmps36
 go_upto_region 2 with (first
  | (go_at_call 81;(with_reducible refine (Zip g fc l _ (h.keep kb) hl).mono ?_);rintro e w1 ⟨n,nm,vm,gs,fp,rfl,hn,nl,r1,F1,l9,l30,D1,K1⟩;obtain ⟨am,cm,_,_,rfl,-,-⟩:=Rd.open_ r1;have k1:Only [g] w w1:=(kb.weaken [g]).trans K1;have B1:=hB0.only K1 (by simp;omega))
  | fail)
 have hs1:w.heap.size + 1<=w1.heap.size:=by have:=K1.size;rw [Hs.out] at this;exact this
 have hge:∀ b∈fp,w.heap.size + 1<=b:=fun b hb=>by have:=F1.ge b hb;rw [Hs.out] at this;exact this
 have hdx:∀ b∈fp,b ∉ [g]:=fun b hb hm=>by have:=hge b hb;simp at hm;omega
 have Hdx:=zH hdx
 have Hge:=zH hge
 have B2:=Blk.new w1 [.int .i64 n,.string nm,.slice am gs.length cm] 26
 have k2:Only [] w1 (w1.alloc (.cells #[.int .i64 n,.string nm,.slice am gs.length cm] 26)):=zO.alloc _
 have Z1:=B1.keep k2
 obtain ⟨z0,z1,z2⟩:=Z1.c3
 have zf:=Z1.frozen
 obtain ⟨x0,x1,x2⟩:=B2.c3
 have hx2:Rp.rep (w1.alloc (.cells #[.int .i64 n,.string nm,.slice am gs.length cm] 26)) [.int .i64 n,.string nm,.slice am gs.length cm] (⟨n,nm,gs⟩:Puzzle) fp:=zK (PzR.rep hn nl r1) k2
 have D2:=D1.keep k2
 have Hr1:=zH r1
 have hgx:g ∉ fp:=fun hm=>by have:=hge g hm;omega
 clear hdx hge hB0 F1 K1 r1 B1
 go_region_law (first
  | (go_simp;go_at_call 82;(with_reducible refine (Zoi g fc l [.int .i64 n,.string nm,.slice am gs.length cm] ⟨n,nm,gs⟩ fp _ (D2.keep zC) hl (zK hx2 zC) hgx).mono ?_);rintro en w3 ⟨v3,p3,f3,rfl,r3,F3,l3,D3,K3⟩;obtain ⟨a3,c3,rfl,-⟩:=id r3.ints;have K23:Only [g] (w1.alloc (.cells #[.int .i64 n,.string nm,.slice am gs.length cm] 26)) w3:=Only.trans zC K3;have Z3:=Z1.only K23 (by simp;omega);obtain ⟨z03,z13,z23⟩:=Z3.c3;have zf3:=Z3.frozen;have B3:=B2.only K23 (by simp;omega);obtain ⟨x03,x13,x23⟩:=B3.c3;have F3':∀ b∈f3,w.heap.size + 1<=b:=(fun b hb=>by have:=F3.ge b hb;simp at this;omega);have HF3:=zH F3';have R3:=zH r3;clear F3 F3' r3)
  | fail)
 all_goals
  go_wp2
  have kst:=Zeo w3 w.heap.size (.int .i64 n) (.string nm) (.slice am gs.length cm)
  have Zf:=Z3.set3 (.int .i64 n) (.string nm) (.slice am gs.length cm)
  obtain ⟨q0,q1,q2⟩:=Zf.c3
  have rm:=Rp.only (Rp.only (zK Hr1.out k2) K23 Hdx.out) kst (fun b hb hm=>by have:=Hge.out b hb;simp at hm;omega)
  have rs:=Rp.only R3.out kst (fun b hb hm=>by have:=HF3.out b hb;simp at hm;omega)
  exact bodyPost_ret (v:=.tuple #[.agg #[.int .i64 n,.string nm,.slice am gs.length cm],.slice a3 p3.length c3]) (by simp [results,Tryz.results36,go_sem,q0,q1,q2]) rfl ⟨n,nm,_,gs,fp,_,p3,f3,rfl,hn,nl,rm,fun b hb=>by have:=Hge.out b hb;omega,l9,rs,fun b hb=>by have:=HF3.out b hb;omega,D3.only kst (by simp;omega) (fun b hb hm=>by have:=hfc b hb;simp at hm;omega),((k1.trans (k2.weaken [g])).trans K23).then_ kst (fun b hb hl=>by simp at hb;omega)⟩
theorem fal8 {w W V:World} {g:Nat} (h:Only [] w W) (ho:Only [g] W V) (hg:w.heap.size<=g):Only [] w V:=h.then_ ho (fun b hb hl=>by simp at hb;omega)
def DST (w:World) (e:Ending) (w':World):Prop:=
 ∃ (n:Int) (nm:ByteArray) (am:Option Addr) (cm:Nat) (gs:List (List Int)) (fp:List Nat) (aT:Option Addr) (cT:Nat) (trs:List (List Int)) (fT:List Nat) (aS:Option Addr) (cS:Nat) (s:List Int) (fs:List Nat) (m:Int),e = .returned (.tuple #[.agg #[.int .i64 n,.string nm,.slice am gs.length cm],.slice aT trs.length cT,.slice aS s.length cS,.int .i64 m])/\Rp.rep w' [.int .i64 n,.string nm,.slice am gs.length cm] (⟨n,nm,gs⟩:Puzzle) fp/\Rd w' (.slice aT trs.length cT) trs fT/\(∀ y∈trs,y.length<=2097152)/\Rd w' (.slice aS s.length cS) s fs/\I64 m/\Only [] w w'
theorem DST.mk {w V:World} {n:Int} {nm:ByteArray} {am:Option Addr} {cm:Nat} {gs:List (List Int)} {fp:List Nat} {aT:Option Addr} {cT:Nat} {trs:List (List Int)} {fT:List Nat} {aS:Option Addr} {cS:Nat} {s:List Int} {fs:List Nat} {m:Int} {x0 x1 x2:Value} (k:Only [] w V) (R0:Blk V w.heap.size [x0,x1,x2])
  (hp:Rp.rep V [.int .i64 n,.string nm,.slice am gs.length cm] (⟨n,nm,gs⟩:Puzzle) fp) (hfp:∀ b∈fp,w.heap.size + 1<=b) (ht:Rd V (.slice aT trs.length cT) trs fT) (hft:∀ b∈fT,w.heap.size + 1<=b) (hty:∀ y∈trs,y.length<=2097152) (hs:Rd V (.slice aS s.length cS) s fs) (hfs:∀ b∈fs,w.heap.size + 1<=b) (hm:I64 m) :
  Blk (((V.setCell ⟨w.heap.size,0,none⟩ (.int .i64 n)).setCell ⟨w.heap.size,1,none⟩ (.string nm)).setCell ⟨w.heap.size,2,none⟩ (.slice am gs.length cm)) w.heap.size [.int .i64 n,.string nm,.slice am gs.length cm]/\DST w (.returned (.tuple #[.agg #[.int .i64 n,.string nm,.slice am gs.length cm],.slice aT trs.length cT,.slice aS s.length cS,.int .i64 m])) (((V.setCell ⟨w.heap.size,0,none⟩ (.int .i64 n)).setCell ⟨w.heap.size,1,none⟩ (.string nm)).setCell ⟨w.heap.size,2,none⟩ (.slice am gs.length cm)):=by
 have k0:=Zeo V w.heap.size (.int .i64 n) (.string nm) (.slice am gs.length cm)
 refine ⟨R0.set3 _ _ _,n,nm,am,cm,gs,fp,aT,cT,trs,fT,aS,cS,s,fs,m,rfl,Rp.only hp k0 fun b hb hm=>?_,Rp.only ht k0 fun b hb hm=>?_,hty,Rp.only hs k0 fun b hb hm=>?_,hm,k.then_ k0 fun b hb hl=>?_⟩
 ·have:=hfp b hb;simp at hm;omega
 ·have:=hft b hb;simp at hm;omega
 ·have:=hfs b hb;simp at hm;omega
 ·simp at hb;omega
set_option maxHeartbeats 16000000 in
theorem Zrx (v:Value) (l:List UInt8) (fc:List Nat) (w:World) (h:Rd w v l fc) (hl:l.length<=4096) :
  Calls Tryz.prog 7 #[v] w (DST w):=by
 have kw:Only [] w (w.alloc (.cells #[.int .i64 0,.string ⟨#[]⟩,.slice none 0 0] 26)):=zO.alloc _
 have R0:=Blk.new w [.int .i64 0,.string ⟨#[]⟩,.slice none 0 0] 26
 have e2:(w.alloc (.cells #[.int .i64 0,.string ⟨#[]⟩,.slice none 0 0] 26)).heap.size = w.heap.size + 1:=by simp
 have hv0:=zK h kw
 go_enter Tryz.func7,Tryz.ntmps7
 go_upto_region 1 with fail
 simp only [List.toArray] at R0
 obtain ⟨W0,hW0⟩:∃ W,W = w.alloc (.cells #[.int .i64 0,.string ⟨#[]⟩,.slice none 0 0] 26):=⟨_,rfl⟩
 rw [<- hW0] at kw R0 e2 hv0 ⊢
 clear hW0
 go_upto_region 3 with (first
  | (go_at_call 35;(with_reducible refine (Zot v l fc W0 hv0 hl).mono ?_);rintro e w1 ⟨g,rfl,D1,hg,t1⟩;have R01:=R0.keep t1)
  | (go_at_call 36;(with_reducible refine (Zgm g fc l w1 D1 hl).mono ?_);rintro e w2 ⟨n,nm,vm,gs,fp,vs,s,fs,rfl,hn,nl,rm,gem,l9,rs,ges,D2,K2⟩;obtain ⟨am,cm,_,_,rfl,-,-⟩:=rm.open_;obtain ⟨aS,cS,rfl,-⟩:=id rs.ints;have R02:=R01.only K2 (by simp;omega))
  | fail)
 have kal:Only [] w2 (w2.alloc (.cells #[.int .i64 n,.string nm,.slice am gs.length cm] 26)):=zO.alloc _
 have hg1:=D1.lt
 have hs1:=t1.size
 have hs2:=K2.size
 have X2:=Blk.new w2 [.int .i64 n,.string nm,.slice am gs.length cm] 26
 have D3:=D2.keep kal
 have R03:=R02.keep kal
 have hx:Rp.rep (w2.alloc (.cells #[.int .i64 n,.string nm,.slice am gs.length cm] 26)) [.int .i64 n,.string nm,.slice am gs.length cm] (⟨n,nm,gs⟩:Puzzle) fp:=zK (PzR.rep hn nl rm) kal
 have hs:=zK rs kal
 have hgx:g ∉ fp:=fun hm=>by have:=gem g hm;omega
 have hgs:g ∉ fs:=fun hm=>by have:=ges g hm;omega
 have k3:Only [] w (w2.alloc (.cells #[.int .i64 n,.string nm,.slice am gs.length cm] 26)):=(fal8 (kw.trans t1) K2 (by omega)).alloc _
 have hgg:W0.heap.size<=g:=hg
 have Hgem:=zH (show ∀ b∈fp,w.heap.size + 1<=b from fun b hb=>by have:=gem b hb;omega)
 have Hges:=zH (show ∀ b∈fs,w.heap.size + 1<=b from fun b hb=>by have:=ges b hb;omega)
 obtain ⟨W2,hW2⟩:∃ W,W = w2.alloc (.cells #[.int .i64 n,.string nm,.slice am gs.length cm] 26):=⟨_,rfl⟩
 obtain ⟨pb,hpb⟩:∃ pb,pb = w2.heap.size:=⟨_,rfl⟩
 rw [<- hW2] at X2 D3 R03 hx hs k3 ⊢
 rw [<- hpb] at X2 ⊢
 have hpg:g < pb:=by omega
 have hpw:w.heap.size + 1<=pb:=by omega
 have hpl:pb < W2.heap.size:=X2.lt
 clear hW2 hpb kal D1 D2 R0 R01 R02 t1 K2 kw hv0 hs1 hs2 hg rm rs gem ges h
 obtain ⟨c0,c1,c2⟩:=X2.c3
 have hdx:=zH (show ∀ b∈fp,b ∉ [g] from fun b hb hm=>hgx (by simp at hm;subst hm;exact hb))
 have hds:=zH (show ∀ b∈fs,b ∉ [g] from fun b hb hm=>hgs (by simp at hm;subst hm;exact hb))
 go_upto_region 4 with (first
  | (go_at_call 37;(with_reducible refine (Zhx g fc l [.int .i64 n,.string nm,.slice am gs.length cm] ⟨n,nm,gs⟩ fp W2 D3 hl hx).mono ?_);rintro e w5 ⟨vT,trs,fT,rfl,rT,geT,lT,D5,K5⟩;obtain ⟨aT,cT,_,_,rfl,-,-⟩:=rT.open_)
  | fail)
 have hs5:=K5.size
 have X5:=X2.only K5 (by simp;omega)
 have R05:=R03.only K5 (by simp;omega)
 have hx5:=Rp.only hx K5 hdx.out
 have hs5':=Rp.only hs K5 hds.out
 have k5:Only [] w w5:=fal8 k3 K5 (by omega)
 have HlT:=zH lT
 have HgeT:=zH (show ∀ b∈fT,w.heap.size + 1<=b from fun b hb=>by have:=geT b hb;omega)
 have hdT:=zH (show ∀ b∈fT,b ∉ [g] from fun b hb hm=>by have:=geT b hb;simp at hm;omega)
 clear c0 c1 c2 X2 R03 hx hs k3 K5 D3 lT geT
 obtain ⟨c0,c1,c2⟩:=X5.c3
 obtain ⟨z0,z1,z2⟩:=R05.c3;have zf:=R05.frozen
 have h8:I64 8:=by unfold I64;omega
 go_region_law (first
  | (go_simp;go_at_call 38;(with_reducible refine (Zcz g fc l 8 _ (D5.keep zC) hl h8).mono ?_);rintro en w6 ⟨m,rfl,hmI,D7,K7⟩;have K56:Only [g] w5 w6:=Only.trans zC K7;have X6:=X5.only K56 (by simp;omega);have R06:=R05.only K56 (by simp;omega);obtain ⟨c06,c16,c26⟩:=X6.c3;obtain ⟨z06,z16,z26⟩:=R06.c3;have zf6:=R06.frozen)
  | fail)
 all_goals
  go_wp2
  obtain ⟨q0,hD⟩:=DST.mk (m:=m) (fal8 k5 K56 (by omega)) R06 (Rp.only hx5 K56 hdx.out) Hgem.out (Rp.only rT K56 hdT.out) HgeT.out HlT.out (Rp.only hs5' K56 hds.out) Hges.out hmI
  obtain ⟨q00,q01,q02⟩:=q0.c3
  exact bodyPost_ret (v:=.tuple #[.agg #[.int .i64 n,.string nm,.slice am gs.length cm],.slice aT trs.length cT,.slice aS s.length cS,.int .i64 m]) (by simp [results,Tryz.results7,go_sem,q00,q01,q02]) rfl hD
abbrev Out:=Option (Option (List Int))
def lastL (w:List Int):Int:=w.getD (w.length - 1) 0
theorem Zfz {w:List Int} (h:w.length = 0):lastL w = 0:=by
 have:w = []:=List.eq_nil_of_length_eq_zero h
 subst this;rfl
theorem Zgh {w:List Int} {k:Nat} (h:k + 1 = w.length):lastL w = w[k]:=by
 unfold lastL
 rw [show w.length - 1 = k by omega,List.getD_eq_getElem?_getD,List.getElem?_eq_getElem (by omega)];rfl
def visG (x:Puzzle) (ts:List Table) (D:Nat) (s w:List Int) (more:Nat->Nat × Out) (c:Nat):Nat × Out:=
 if c = 20000 then (c,some none)
 else if (D:Int) < (w.length:Int) + lbMax ts s then (c + 1,none)
 else if w.length = D then (c + 1,if s = PM.pts x.points.toNat then some (some w) else none)
 else more (c + 1)
def visL (x:Puzzle) (rec:List Int->List Int->Nat->Nat × Out) (s w:List Int):List Int->Nat->Nat × Out
 | [],c=>(c,none)
 | l :: ls,c=>if l = -(lastL w) then visL x rec s w ls c else
  match (rec (nxt x s l) (w ++ [l]) c).2 with
  | none=>visL x rec s w ls (rec (nxt x s l) (w ++ [l]) c).1
  | some o=>((rec (nxt x s l) (w ++ [l]) c).1,some o)
def vis (x:Puzzle) (ts:List Table) (D:Nat):Nat->List Int->List Int->Nat->Nat × Out
 | 0,s,w,c=>visG x ts D s w (fun c=>(c,none)) c
 | f + 1,s,w,c=>visG x ts D s w (visL x (vis x ts D f) s w (ltrs x.moves.length)) c
theorem Zdr {x:Puzzle} {rec:List Int->List Int->Nat->Nat × Out} {s w:List Int} {l:Int} {ls:List Int} {c:Nat} (h:l = -(lastL w)):visL x rec s w (l :: ls) c = visL x rec s w ls c:=by
 rw [visL,if_pos h]
theorem visL_go {x:Puzzle} {rec:List Int->List Int->Nat->Nat × Out} {s w:List Int} {l:Int} {ls:List Int} {c c':Nat} (h:l ≠ -(lastL w)) (hr:rec (nxt x s l) (w ++ [l]) c = (c',none)):visL x rec s w (l :: ls) c = visL x rec s w ls c':=by
 rw [visL,if_neg h,hr]
theorem Zcf {x:Puzzle} {rec:List Int->List Int->Nat->Nat × Out} {s w:List Int} {l:Int} {ls:List Int} {c c':Nat} {o:Option (List Int)} (h:l ≠ -(lastL w)) (hr:rec (nxt x s l) (w ++ [l]) c = (c',some o)):visL x rec s w (l :: ls) c = (c',some o):=by
 rw [visL,if_neg h,hr]
theorem Zgr {x:Puzzle} {rec:List Int->List Int->Nat->Nat × Out} {s w:List Int}:∀ (ls:List Int) (c:Nat),visL x rec s w (ls.filter fun l=>decide (l ≠ -(lastL w))) c = visL x rec s w ls c
 | [],_=>rfl
 | l :: ls,c=>by
  by_cases h:l = -(lastL w)
  ·rw [Zdr h,List.filter_cons_of_neg (by simpa using h)]
   exact Zgr ls c
  ·rw [List.filter_cons_of_pos (by simpa using h)]
   rcases hr:rec (nxt x s l) (w ++ [l]) c with ⟨c',o⟩
   cases o with
   | none=>rw [visL_go h hr,visL_go h hr];exact Zgr ls c'
   | some o=>rw [Zcf h hr,Zcf h hr]
theorem Zqh {x:Puzzle} {ts:List Table} {D:Nat} {s w:List Int} {more:Nat->Nat × Out} {c:Nat} (hc:c<=20000) (hm:∀ c,c<=20000->(more c).1<=20000):(visG x ts D s w more c).1<=20000:=by
 unfold visG
 split
 ·exact hc
 split
 ·simp only;omega
 split
 ·simp only;omega
 exact hm _ (by omega)
theorem Zka {x:Puzzle} {rec:List Int->List Int->Nat->Nat × Out} {s w:List Int} (hr:∀ s w c,c<=20000->(rec s w c).1<=20000):∀ (ls:List Int) (c:Nat),c<=20000->(visL x rec s w ls c).1<=20000
 | [],_,h=>h
 | l :: ls,c,h=>by
  by_cases hl:l = -(lastL w)
  ·rw [Zdr hl];exact Zka hr ls c h
  ·have h2:=hr (nxt x s l) (w ++ [l]) c h
   rcases hq:rec (nxt x s l) (w ++ [l]) c with ⟨c',o⟩
   rw [hq] at h2
   cases o with
   | none=>rw [visL_go hl hq];exact Zka hr ls c' h2
   | some o=>rw [Zcf hl hq];exact h2
theorem vis_rng {x:Puzzle} {ts:List Table} {D:Nat}:∀ (f:Nat) (s w:List Int) (c:Nat),c<=20000->(vis x ts D f s w c).1<=20000
 | 0,_,_,_,h=>Zqh h fun _ h=>h
 | f + 1,s,w,_,h=>Zqh h fun c h=>Zka (fun s w c h=>vis_rng f s w c h) _ c h
theorem Zni {x:Puzzle} {ts:List Table} {D:Nat} {s w u:List Int} {more:Nat->Nat × Out} {c:Nat} (hm:∀ c,(more c).2 = some (some u)->u.length = D) (h:(visG x ts D s w more c).2 = some (some u)):u.length = D:=by
 unfold visG at h
 split at h
 ·cases h
 split at h
 ·cases h
 split at h
 ·simp only at h
  split at h
  ·injection h with h;injection h with h;subst h;assumption
  ·cases h
 exact hm _ h
theorem Zij {x:Puzzle} {D:Nat} {rec:List Int->List Int->Nat->Nat × Out} {s w u:List Int} (hr:∀ s w c,(rec s w c).2 = some (some u)->u.length = D):∀ (ls:List Int) (c:Nat),(visL x rec s w ls c).2 = some (some u)->u.length = D
 | [],_,h=>by cases h
 | l :: ls,c,h=>by
  by_cases hl:l = -(lastL w)
  ·rw [Zdr hl] at h;exact Zij hr ls c h
  ·rcases hq:rec (nxt x s l) (w ++ [l]) c with ⟨c',o⟩
   cases o with
   | none=>rw [visL_go hl hq] at h;exact Zij hr ls c' h
   | some o=>
    rw [Zcf hl hq] at h
    simp only at h
    exact hr _ _ _ (by rw [hq];exact h)
theorem Zjy {x:Puzzle} {ts:List Table} {D:Nat} {u:List Int}:∀ (f:Nat) (s w:List Int) (c:Nat),(vis x ts D f s w c).2 = some (some u)->u.length = D
 | 0,_,_,_,h=>Zni (by intro c h;cases h) h
 | f + 1,s,w,_,h=>Zni (fun c h=>Zij (fun s w c h=>Zjy f s w c h) _ c h) h
def deepN (x:Puzzle) (ts:List Table) (s:List Int):Nat->Nat->Out
 | 0,_=>none
 | k + 1,d=>match (vis x ts d d s [] 0).2 with
  | none=>deepN x ts s k (d + 1)
  | some o=>some o
theorem Zjm {x:Puzzle} {ts:List Table} {s:List Int} {k d:Nat} (h:(vis x ts d d s [] 0).2 = none):deepN x ts s (k + 1) d = deepN x ts s k (d + 1):=by rw [deepN,h]
theorem Zhl {x:Puzzle} {ts:List Table} {s:List Int} {k d:Nat} {o:Option (List Int)} (h:(vis x ts d d s [] 0).2 = some o):deepN x ts s (k + 1) d = some o:=by rw [deepN,h]
noncomputable def ida (x:Puzzle) (ts:List Table) (s:List Int) (m:Int):Option (List Int):=
 if (tabSet x ts && reachB x s && inR m 0 30) = true then (deepN x ts s (m + 1 - lbMax ts s).toNat (lbMax ts s).toNat).join else none
theorem Zfq {x:Puzzle} {s:List Int} (hs:reachB x s = true) {l:Int} (hl:l∈ltrs x.moves.length):reachB x (nxt x s l) = true:=by
 have hst:=Zax hs
 obtain ⟨h1,h2,h3,h4⟩:=Zam hst
 have hG:PM.Grp x.points.toNat x.moves s:=by
  unfold reachB memB at hs
  rw [Bool.and_eq_true] at hs
  exact @of_decide_eq_true _ (Classical.propDecidable _) hs.2
 have hgm:PM.Grp x.points.toNat x.moves (mv x.moves l):=by
  obtain ⟨l0,l1,l2⟩:=Zaw.1 hl
  by_cases hp:0 < l
  ·obtain ⟨k,hk⟩:∃ k:Nat,l = (k:Int) + 1:=⟨(l - 1).toNat,by omega⟩
   have hkl:k < x.moves.length:=by omega
   rw [mv_pos hk hkl]
   exact PM.Grp.gen h3 (List.getElem_mem hkl)
  ·obtain ⟨k,hk⟩:∃ k:Nat,l = -((k:Int) + 1):=⟨(-l - 1).toNat,by omega⟩
   have hkl:k < x.moves.length:=by omega
   rw [mv_neg hk hkl]
   exact PM.Grp.gen_inv h3 (List.getElem_mem hkl)
 have hn:PM.Grp x.points.toNat x.moves (nxt x s l):=PM.Grp.comp h3 hG hgm
 have hpn:PM.PN x.points.toNat (nxt x s l):=h4.comp (PM.Grp.pn h3 hgm)
 unfold reachB
 rw [Bool.and_eq_true]
 refine ⟨?_,?_⟩
 ·unfold stateB at hst ⊢
  rw [Bool.and_eq_true] at hst ⊢
  exact ⟨hst.1,(Zfo (by omega) (by omega)).2 hpn⟩
 ·unfold memB
  exact @decide_eq_true _ (Classical.propDecidable _) hn
def solB (x:Puzzle) (s l:List Int):Bool:=validW x.moves.length l && decide (appW x s l = PM.pts x.points.toNat)
theorem appW_pn {x:Puzzle} {s l:List Int} (h:stateB x s = true) (hl:validW x.moves.length l = true):PM.PN x.points.toNat (appW x s l):=by
 obtain ⟨-,a,b,c⟩:=Zam h
 exact c.comp (evW_pn b l (Zje a hl).2)
theorem Zqq {x:Puzzle} {s t:List Int} (h:stateB x s = true) (ht:PM.PN x.points.toNat t):stateB x t = true:=by
 have h1:=(Zam h).1
 unfold stateB at h ⊢
 rw [Bool.and_eq_true] at h ⊢
 exact ⟨h.1,(Zfo h1.1 h1.2).2 ht⟩
theorem eqV_dec' {α:Type} [DecidableEq α] (a b:α):eqV a b = decide (a = b):=by
 by_cases h:a = b
 ·rw [eqV_yes h,decide_eq_true h]
 ·rw [eqV_no h,decide_eq_false h]
set_option maxHeartbeats 1000000 in
theorem Zdd (v:Value) (p:List Int) (fp:List Nat) (w:World) (h:Rd w v p fp) :
  Calls Tryz.prog 137 #[v] w fun e w'=>e = .returned (.bool (decide (p = PM.pts p.length)))/\Only [] w w':=by
 obtain ⟨a,cap,rfl,hI⟩:=h.ints
 have hb:=hI.bound
 go_enter Tryz.func137,Tryz.ntmps137
 go_wp2
 go_loopw [7] (fun i wr=>∃ j:Nat,j<=p.length/\i = .int .i64 j/\(∀ k (hk:k < p.length),k < j->p[k] = (k:Int))/\Only [] w wr)
  (fun i _=>p.length - (intOf i).toNat)
 case atStart=>exact ⟨0,Nat.zero_le _,rfl,fun k _ h=>absurd h (Nat.not_lt_zero _),Only.refl _ _⟩
 case round=>
  obtain ⟨j,hj,rfl,hr,hK⟩:=hrel
  have Hr:=zH hr
  clear hr
  by_cases hlt:j < p.length
  ·obtain ⟨b,off,rfl,-,hc0⟩:=hI.at_ j hlt
   have hc:=hK.cell (by simp) hc0
   clear hc0
   by_cases he:p[j] = (j:Int)
   ·have hne:((j:Int) != p[j]) = false:=by simp [he]
    have He:=zH he
    clear he
    go_wp2
    go_roundw
    case rel=>exact ⟨j + 1,by omega,by go_num,fun k hk hkj=>by
     by_cases hk2:k < j
     ·exact Hr.out k hk hk2
     ·obtain rfl:k = j:=by omega
      exact He.out,hK⟩
    case measure=>simp [intOf];omega
   ·have hne:((j:Int) != p[j]) = true:=by simp;exact fun e=>he e.symm
    have hno:p ≠ PM.pts p.length:=fun e=>he (by
     have h1:=PM.pts_get p.length j (by rw [PM.pts_len];exact hlt)
     rw [<- h1]
     exact List.getElem_of_eq e hlt)
    have Hno:=zH hno
    clear he hno
    go_wp2
    go_ret
    exact ⟨Zaa (decide_eq_false Hno.out).symm,hK⟩
  ·have hall:p = PM.pts p.length:=by
    apply List.ext_getElem (by rw [PM.pts_len])
    intro k h1 h2
    rw [PM.pts_get,Hr.out k h1 (by omega)]
   have Hall:=zH hall
   clear hall
   go_wp2
   go_ret
   exact ⟨Zaa (decide_eq_true Hall.out).symm,hK⟩
set_option maxHeartbeats 2000000 in
theorem Zkf (cs:List Value) (x:Puzzle) (fp:List Nat) (vs vl:Value) (s l:List Int) (fs fl:List Nat) (w:World) (h:Rp.rep w cs x fp) (hs:Rd w vs s fs) (hl:Rd w vl l fl) (hst:stateB x s = true) (hq:validW x.moves.length l = false) :
  Calls Tryz.prog 32 #[.agg cs.toArray,vs,vl] w fun e w'=>∃ v,e = .returned (.tuple #[v,.bool false])/\Only [] w w':=by
 have h0:=h
 obtain ⟨v2,rfl,p0,p1,h2⟩:=h
 obtain ⟨A2,C2,_,_,rfl,-,-⟩:=h2.open_
 have hml:=(Zam hst).2.1
 have X0:=Blk.new w [.int .i64 x.points,.string x.names,.slice A2 x.moves.length C2] 26
 simp only [List.toArray] at X0
 go_enter Tryz.func32,Tryz.ntmps32
 go_wp2_with (first
  | (go_at_call 69;(with_reducible refine (Zau [.int .i64 x.points,.string x.names,.slice A2 x.moves.length C2] x _ vs s _ _ (zK h0 zA) (zK hs zA)).mono ?_);rintro e w1 ⟨he,t1⟩;rw [hst] at he;subst he;have X1:=X0.keep t1;have y2:=X1.cell 2 rfl)
  | (go_at_call 78;(with_reducible refine (Zgk x.moves.length vl l _ _ (zK hl zA) (by omega) (by omega)).mono ?_);rintro e w2 ⟨he,d2⟩;rw [hq] at he;subst he;have t2:=d2.only [])
  | fail)
 exact bodyPost_ret (v:=.tuple #[.slice (some ⟨w2.heap.size,0,none⟩) 0 0,.bool false]) (by simp [results,Tryz.results32,go_sem]) rfl ⟨_,rfl,zA⟩
set_option maxHeartbeats 2000000 in
theorem Zik (cs:List Value) (x:Puzzle) (fp:List Nat) (vs vl:Value) (s l:List Int) (fs fl:List Nat) (w:World) (h:Rp.rep w cs x fp) (hs:Rd w vs s fs) (hl:Rd w vl l fl) (hst:stateB x s = true) (hq:validW x.moves.length l = true) :
  Calls Tryz.prog 32 #[.agg cs.toArray,vs,vl] w fun e w'=>∃ v fp',e = .returned (.tuple #[v,.bool true])/\Rd w' v (appW x s l) fp'/\Fresh w.heap.size w' fp'/\Only [] w w':=by
 have h0:=h
 obtain ⟨v2,rfl,p0,p1,h2⟩:=h
 obtain ⟨A2,C2,_,_,rfl,-,-⟩:=h2.open_
 obtain ⟨⟨n1,n20⟩,hml,hmp,hpn⟩:=Zam hst
 have hlt:=(Zje hml hq).2
 have hev:=evW_pn hmp l hlt
 have Hmp:=zH hmp
 have Hpn:=zH hpn
 have Hlt:=zH hlt
 have Hev:=zH hev
 clear hmp hpn hlt hev
 have X0:=Blk.new w [.int .i64 x.points,.string x.names,.slice A2 x.moves.length C2] 26
 simp only [List.toArray] at X0
 go_enter Tryz.func32,Tryz.ntmps32
 go_wp2_with (first
  | (go_at_call 69;(with_reducible refine (Zau [.int .i64 x.points,.string x.names,.slice A2 x.moves.length C2] x _ vs s _ _ (zK h0 zA) (zK hs zA)).mono ?_);rintro e w1 ⟨he,t1⟩;rw [hst] at he;subst he;have X1:=X0.keep t1;have y2:=X1.cell 2 rfl)
  | (go_at_call 78;(with_reducible refine (Zgk x.moves.length vl l _ _ (zK hl zA) (by omega) (by omega)).mono ?_);rintro e w2 ⟨he,d2⟩;rw [hq] at he;subst he;have t2:=d2.only [];have X2:=X1.keep t2;have z0:=X2.cell 0 rfl;have z2:=X2.cell 2 rfl)
  | (go_at_call 80;(with_reducible refine (Zmj x.points n1 n20 _ _ x.moves l _ _ _ (zK h2 zA) (zK hl zA) Hmp.out (by omega) Hlt.out).mono ?_);rintro en w3 ⟨v3,f3,rfl,r3,F3,t3⟩)
  | (go_at_call 79;(with_reducible refine (Zbg x.points.toNat _ _ _ _ _ _ _ (zK hs zA) r3 Hpn.out Hev.out (by omega)).mono ?_);rintro en w4 ⟨v4,f4,rfl,r4,F4,t4⟩)
  | fail)
 exact bodyPost_ret (v:=.tuple #[v4,.bool true]) (by simp [results,Tryz.results32,go_sem]) rfl ⟨_,f4,rfl,r4,F4.mono (Only.size (fp:=[]) zA),zA⟩
set_option maxHeartbeats 2000000 in
theorem Zju (cs:List Value) (x:Puzzle) (fp:List Nat) (vs:Value) (s:List Int) (fs:List Nat) (w:World) (h:Rp.rep w cs x fp) (hs:Rd w vs s fs) (hst:stateB x s = true) :
  Calls Tryz.prog 34 #[.agg cs.toArray,vs] w fun e w'=>e = .returned (.bool (eqV s (PM.pts x.points.toNat)))/\Only [] w w':=by
 have h0:=h
 obtain ⟨v2,rfl,p0,p1,h2⟩:=h
 obtain ⟨n1,n20⟩:=(Zam hst).1
 have X0:=Blk.new w [.int .i64 x.points,.string x.names,v2] 26
 simp only [List.toArray] at X0
 go_enter Tryz.func34,Tryz.ntmps34
 go_wp2_with (first
  | (go_at_call 69;(with_reducible refine (Zau [.int .i64 x.points,.string x.names,v2] x _ vs s _ _ (zK h0 zA) (zK hs zA)).mono ?_);rintro e w1 ⟨he,t1⟩;rw [hst] at he;subst he;have X1:=X0.keep t1;have y0:=X1.cell 0 rfl)
  | (go_at_call 74;(with_reducible refine (Zgv x.points _ (by omega) (by omega)).mono ?_);rintro e w2 ⟨v3,f3,rfl,r3,F3,t3⟩)
  | (go_at_call 56;(with_reducible refine (Zar vs v3 s (PM.pts x.points.toNat) _ _ _ (zK hs zA) (zK r3 zA)).mono ?_);rintro e w3 ⟨rfl,d3⟩;have t4:=d3.only [])
  | fail)
 go_ret
 exact ⟨rfl,zA⟩
set_option maxHeartbeats 2000000 in
theorem Zbz (cs:List Value) (x:Puzzle) (fp:List Nat) (vs vl:Value) (s l:List Int) (fs fl:List Nat) (w:World) (h:Rp.rep w cs x fp) (hs:Rd w vs s fs) (hl:Rd w vl l fl) (hst:stateB x s = true) :
  Calls Tryz.prog 165 #[.agg cs.toArray,vs,vl] w fun e w'=>e = .returned (.bool (solB x s l))/\Only [] w w':=by
 have h0:=h
 obtain ⟨v2,rfl,p0,p1,h2⟩:=h
 have X0:=Blk.new w [.int .i64 x.points,.string x.names,v2] 26
 simp only [List.toArray] at X0
 rcases hq:validW x.moves.length l
 ·have Hf:=zH (by unfold solB;rw [hq];rfl:solB x s l = false)
  go_enter Tryz.func165,Tryz.ntmps165
  go_wp2_with ((go_at_call 32;(with_reducible refine (Zkf [.int .i64 x.points,.string x.names,v2] x _ vs vl s l _ _ _ (zK h0 zA) (zK hs zA) (zK hl zA) hst hq).mono ?_);rintro e w1 ⟨u1,rfl,t1⟩))
  go_ret
  exact ⟨Zaa Hf.out.symm,zA⟩
 ·have hap:=appW_pn hst hq
  have Hf:=zH (by unfold solB;rw [hq,Bool.true_and,eqV_dec']:solB x s l = eqV (appW x s l) (PM.pts x.points.toNat))
  have hst2:=Zqq hst hap
  clear hap
  go_enter Tryz.func165,Tryz.ntmps165
  go_wp2_with (first
   | (go_at_call 32;(with_reducible refine (Zik [.int .i64 x.points,.string x.names,v2] x _ vs vl s l _ _ _ (zK h0 zA) (zK hs zA) (zK hl zA) hst hq).mono ?_);rintro e w1 ⟨u1,f1,rfl,r1,F1,t1⟩;have X1:=X0.keep t1;obtain ⟨y0,y1,y2⟩:=X1.c3)
   | (go_at_call 34;(with_reducible refine (Zju [.int .i64 x.points,.string x.names,v2] x _ u1 (appW x s l) _ _ (zK h0 zA) (zK r1 zA) hst2).mono ?_);rintro e w2 ⟨rfl,t2⟩)
   | fail)
  go_ret
  exact ⟨Zaa Hf.out.symm,zA⟩
theorem own_cut {w:World} {B:Nat} {e:TypeId} {a:Option Addr} {n c m:Nat} {xs:List Value} (h:w.ownsRow B e 1 (.slice a n c) n xs) (hm:m<=n):w.ownsRow B e 1 (.slice a m c) m (xs.take m)/\m<=c:=by
 obtain ⟨h1,h2⟩:=h
 rcases h2 with ⟨hv,h0⟩ | ⟨g,cap,cur,hv,hb,hg,hnc,hcm,hcs,htake⟩
 ·injection hv with e1 e2 e3
  subst e1;subst e2;subst e3
  have hm0:m = 0:=by omega
  subst hm0
  exact ⟨⟨by simp,.inl ⟨rfl,rfl⟩⟩,by omega⟩
 ·injection hv with e1 e2 e3
  subst e1;subst e3
  refine ⟨⟨by rw [List.length_take,h1];omega,.inr ⟨g,c,cur,rfl,hb,hg,by omega,hcm,hcs,?_⟩⟩,by omega⟩
  rw [<- htake,List.take_take]
  congr 1
  omega
structure Sx (w:World) (B g gb:Nat) (x:Puzzle) (v2:Value) (D:Nat) (wd:List Int) (c fo:Nat) (ab:Bool) (a:Option Addr) (C:Nat):Prop where
 blk:Blk w g [.int .i64 x.points,.string x.names,v2,.pointer (some ⟨gb,0,none⟩),.int .i64 D,.bool false,.slice a wd.length C,.int .i64 c,.int .i64 fo,.bool ab]
 row:w.ownsRow B 2 1 (.slice a wd.length C) wd.length (wd.map (Value.int .i64))
 wf:∀ l∈wd,l∈ltrs x.moves.length
 ap:∀ b,(Value.slice a wd.length C).ownBlock = some b->b ≠ g
theorem Zkg {w w':World} {B:Nat} {e:TypeId} {v:Value} {n:Nat} {xs:List Value} {fp:List Nat} (h:w.ownsRow B e 1 v n xs) (ho:Only fp w w') (hd:∀ b,v.ownBlock = some b->b ∉ fp):w'.ownsRow B e 1 v n xs:=by
 obtain ⟨h1,h2⟩:=h
 refine ⟨h1,?_⟩
 rcases h2 with h2 | ⟨g,cap,cur,hv,hb,hg,h3⟩
 ·exact .inl h2
 ·refine .inr ⟨g,cap,cur,hv,hb,?_,h3⟩
  rw [ho.block g (Array.getElem?_eq_some_iff.1 hg).1 (hd g (by rw [hv];rfl))]
  exact hg
theorem Sx.only {w w':World} {B g gb:Nat} {x:Puzzle} {v2:Value} {D:Nat} {wd:List Int} {c fo:Nat} {ab:Bool} {a:Option Addr} {C:Nat} {fp:List Nat} (h:Sx w B g gb x v2 D wd c fo ab a C) (ho:Only fp w w') (hg:g ∉ fp) (hd:∀ b,(Value.slice a wd.length C).ownBlock = some b->b ∉ fp):Sx w' B g gb x v2 D wd c fo ab a C:=
 ⟨h.blk.only ho hg,Zkg h.row ho hd,h.wf,h.ap⟩
theorem Sx.keep {w w':World} {B g gb:Nat} {x:Puzzle} {v2:Value} {D:Nat} {wd:List Int} {c fo:Nat} {ab:Bool} {a:Option Addr} {C:Nat} (h:Sx w B g gb x v2 D wd c fo ab a C) (ho:Only [] w w'):Sx w' B g gb x v2 D wd c fo ab a C:=h.only ho (by simp) (by simp)
theorem Sx.ints {w:World} {B g gb:Nat} {x:Puzzle} {v2:Value} {D:Nat} {wd:List Int} {c fo:Nat} {ab:Bool} {a:Option Addr} {C:Nat} (h:Sx w B g gb x v2 D wd c fo ab a C) (hm:x.moves.length<=1000):IntsA w a C wd (Value.slice a wd.length C).ownBlock.toList:=by
 obtain ⟨a',c',hv,-,hI,-⟩:=Zba h.row (fun l hl=>by have:=Zaw.1 (h.wf l hl);unfold I64;omega)
 injection hv with e1 _ e2;subst e1;subst e2
 exact hI
def VI (r:Nat × Out) (wd wd':List Int) (fo:Nat) (ab:Bool):Prop:=
 (r.2 = none/\wd' = wd/\fo = 0/\ab = false)\/(r.2 = some none/\fo = 0/\ab = true)\/(r.2 = some (some wd')/\fo = 1/\ab = false)
end Go.Proofs.YthleokaeobdamaaGreat
