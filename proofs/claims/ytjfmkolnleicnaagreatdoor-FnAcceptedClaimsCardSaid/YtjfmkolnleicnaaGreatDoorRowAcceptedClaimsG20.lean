/- The certificates of a lower bound and of optimality: the reference's and the program's. -/
import Derived.Test.YtjfmkolnleicnaaGreatDoorRowAcceptedClaimsG7
import Derived.Test.YtjfmkolnleicnaaGreatDoorRowAcceptedClaimsG19
import Derived.Test.YtjfmkolnleicnaaGreatDoorRowAcceptedClaimsG17
import Derived.Test.YtjfmkolnleicnaaGreatDoorRowAcceptedClaimsG18
import Derived.Test.YtjfmkolnleicnaaGreatDoorRowAcceptedClaimsG10
import Derived.Deep.DeepCutAuto
import Derived.Deep.RegionLaw
import Derived.Test.YtjfmkolnleicnaaGreatDoorRowAcceptedClaimsG15
namespace Go.Proofs.YtjfmkolnleicnaaGreatDoor
open Go.RowKit
set_option maxRecDepth 10000
theorem Zcz (v:Value) (l:List Table) (fp:List Nat) (w:World) (h:Rd w v l fp) :
  Calls Tryz.prog 78 #[v] w fun e w'=>e = .returned (.bool (inR l.length 1 4))/\w' = w:=by
 obtain ⟨a,cap,ob,fps,rfl,-,hs⟩:=h.open_
 have hb:=hs.bound
 rcases hq:inR l.length 1 4
 all_goals
  go_enter Tryz.func78,Tryz.ntmps78
  go_wp2_with ((go_at_call 101;(with_reducible refine (Zap l.length 1 4 _).mono ?_);rintro e w1 ⟨rfl,rfl⟩))
  go_ret
  exact ⟨rfl,rfl⟩
def lbCert (b:Int) (l:List Table):Certificate:=if 0<=b/\inR l.length 1 4 = true then ⟨3,[b],[],l⟩ else noCert
def opCert (x:List Int) (l:List Table):Certificate:=if validW 8 x = true/\inR l.length 1 4 = true then ⟨2,[],[x],l⟩ else noCert
set_option maxHeartbeats 400000 in
theorem Zor (b:Int) (ib:I64 b) (v:Value) (l:List Table) (fp:List Nat) (w:World) (h:Rd w v l fp) (hsm:Sm.sm l) :
  Calls Tryz.prog 38 #[.int .i64 b,v] w fun e w'=>∃ cs fp',e = .returned (.agg cs.toArray)/\Rp.rep w' cs (lbCert b l) fp'/\Fresh w.heap.size w' fp'/\Only [] w w':=by
 by_cases c0:b < 0
 ·have hp:lbCert b l = noCert:=by unfold lbCert;rw [if_neg (by omega)]
  have Hp:=zH hp
  clear hp
  go_enter Tryz.func38,Tryz.ntmps38
  go_wp2
  refine bodyPost_ret (v:=.agg #[.int .i64 0,.slice none 0 0,.slice none 0 0,.slice none 0 0]) (by simp [results,Tryz.results38,go_sem]) rfl ⟨[.int .i64 0,.slice none 0 0,.slice none 0 0,.slice none 0 0],[],rfl,?_,Fresh.nil _ _,zA⟩
  rw [Hp.out];exact Zcu _
 rcases hq:inR l.length 1 4
 ·have hp:lbCert b l = noCert:=by unfold lbCert;rw [if_neg (by simp [hq])]
  have Hp:=zH hp
  clear hp
  go_enter Tryz.func38,Tryz.ntmps38
  go_wp2_with ((go_at_call 78;(with_reducible refine (Zcz v l _ _ (zK h zA)).mono ?_);rintro e w1 ⟨rfl,rfl⟩))
  refine bodyPost_ret (v:=.agg #[.int .i64 0,.slice none 0 0,.slice none 0 0,.slice none 0 0]) (by simp [results,Tryz.results38,go_sem]) rfl ⟨[.int .i64 0,.slice none 0 0,.slice none 0 0,.slice none 0 0],[],rfl,?_,Fresh.nil _ _,zA⟩
  rw [Hp.out];exact Zcu _
 have hp:lbCert b l = ⟨3,[b],[],l⟩:=by unfold lbCert;rw [if_pos ⟨by omega,hq⟩]
 have Hp:=zH hp
 clear hp
 have Ib:=zH ib;clear ib
 go_enter Tryz.func38,Tryz.ntmps38
 go_wp2_with (first
  | (go_at_call 78;(with_reducible refine (Zcz v l _ _ (zK h zA)).mono ?_);rintro e w1 ⟨rfl,rfl⟩)
  | (go_at_call 79;(with_reducible refine (Zic v l _ _ (zK h zA) hsm).mono ?_);rintro e w2 ⟨v2,fp2,rfl,r2,F2,t2⟩;obtain ⟨A2,C2,_,_,rfl,-⟩:=r2.open_;have y2:=t2.cells_eq w.heap.size (by first | (simp;done) | (simp;omega)) (by simp);have z2:=t2.frozen_eq w.heap.size (by first | (simp;done) | (simp;omega)) (by simp);have s2:w.heap.size < w2.heap.size:=(by have:=t2.size;simp at this;omega)))
 have HG:∀ b'∈fp2,w.heap.size + 2<=b':=fun b' hb=>by have:=F2.ge b' hb;simp at this;omega
 obtain ⟨o1,o2⟩:=one_rd (α:=Int) (w:=w.alloc (.cells #[.int .i64 0,.slice none 0 0,.slice none 0 0,.slice none 0 0] 30)) (v:=.int .i64 b) (x:=b) (fp:=[]) (int_rd _ Ib.out) 2 w.heap.size (Fresh.nil _ _) (g:=w.heap.size + 1) (by simp) (by omega)
 have hW:Only [w.heap.size] w2 ((((w2.setCell ⟨w.heap.size,0,none⟩ (.int .i64 3)).setCell ⟨w.heap.size,1,none⟩ (.slice (some ⟨w.heap.size + 1,0,none⟩) 1 1)).setCell ⟨w.heap.size,2,none⟩ (.slice none 0 0)).setCell ⟨w.heap.size,3,none⟩ (.slice A2 l.length C2)):=zB
 have n1:=Rp.only (zK o1 t2) hW (by simp)
 have n2:=Rp.only r2 hW (fun b' hb hm=>by have:=HG b' hb;simp at hm;omega)
 have n3:=(Fresh.append (o2.keep t2) F2 (by simp;omega) (by simp)).only hW (fun b' hb hm=>by
  simp at hm hb
  rcases hb with hb | hb
  ·omega
  ·have:=HG b' hb;omega)
 refine bodyPost_ret (v:=.agg #[.int .i64 3,.slice (some ⟨w.heap.size + 1,0,none⟩) 1 1,.slice none 0 0,.slice A2 l.length C2]) (by simp [results,Tryz.results38,go_sem,y2]) rfl ⟨[.int .i64 3,.slice (some ⟨w.heap.size + 1,0,none⟩) 1 1,.slice none 0 0,.slice A2 l.length C2],_,rfl,?_,n3,zA⟩
 rw [Hp.out]
 exact ⟨_,_,_,[w.heap.size + 1],[],fp2,rfl,(by simp),⟨by simp,by simp⟩,n1,nil_rd _,n2⟩
set_option maxHeartbeats 1000000 in
theorem Zpa (u:Value) (x:List Int) (fq:List Nat) (v:Value) (l:List Table) (fp:List Nat) (w:World) (hx:Rd w u x fq) (h:Rd w v l fp) (hsm:Sm.sm l) :
  Calls Tryz.prog 74 #[u,v] w fun e w'=>∃ cs fp',e = .returned (.agg cs.toArray)/\Rp.rep w' cs (opCert x l) fp'/\Fresh w.heap.size w' fp'/\Only [] w w':=by
 rcases hv:validW 8 x
 ·have hp:opCert x l = noCert:=by unfold opCert;rw [if_neg (by simp [hv])]
  have Hp:=zH hp
  clear hp
  go_enter Tryz.func74,Tryz.ntmps74
  go_wp2_with ((go_at_call 76;(with_reducible refine (Zcw u x _ _ (zK hx zA)).mono ?_);rintro e w1 ⟨rfl,n1,rfl⟩))
  refine bodyPost_ret (v:=.agg #[.int .i64 0,.slice none 0 0,.slice none 0 0,.slice none 0 0]) (by simp [results,Tryz.results74,go_sem]) rfl ⟨[.int .i64 0,.slice none 0 0,.slice none 0 0,.slice none 0 0],[],rfl,?_,Fresh.nil _ _,zA⟩
  rw [Hp.out];exact Zcu _
 rcases hq:inR l.length 1 4
 ·have hp:opCert x l = noCert:=by unfold opCert;rw [if_neg (by simp [hq])]
  have Hp:=zH hp
  clear hp
  go_enter Tryz.func74,Tryz.ntmps74
  go_wp2_with (first | (go_at_call 76;(with_reducible refine (Zcw u x _ _ (zK hx zA)).mono ?_);rintro e w1 ⟨rfl,n1,rfl⟩) | (go_at_call 78;(with_reducible refine (Zcz v l _ _ (zK h zA)).mono ?_);rintro e w9 ⟨rfl,rfl⟩))
  refine bodyPost_ret (v:=.agg #[.int .i64 0,.slice none 0 0,.slice none 0 0,.slice none 0 0]) (by simp [results,Tryz.results74,go_sem]) rfl ⟨[.int .i64 0,.slice none 0 0,.slice none 0 0,.slice none 0 0],[],rfl,?_,Fresh.nil _ _,zA⟩
  rw [Hp.out];exact Zcu _
 have hp:opCert x l = ⟨2,[],[x],l⟩:=by unfold opCert;rw [if_pos ⟨hv,hq⟩]
 have Hp:=zH hp
 have hlen:=Zdk hv
 clear hp
 go_enter Tryz.func74,Tryz.ntmps74
 go_wp2_with (first
  | (go_at_call 76;(with_reducible refine (Zcw u x _ _ (zK hx zA)).mono ?_);rintro e w1 ⟨rfl,n1,rfl⟩)
  | (go_at_call 78;(with_reducible refine (Zcz v l _ _ (zK h zA)).mono ?_);rintro e w9 ⟨rfl,rfl⟩)
  | (go_at_call 77;(with_reducible refine (Zbd u x _ _ (zK hx zA) (by omega)).mono ?_);rintro e w2 ⟨v2,fp2,rfl,r2,F2,t2⟩;obtain ⟨A2,C2,_,_,rfl,-⟩:=r2.open_;have y2:=t2.cells_eq w.heap.size (by first | (simp;done) | (simp;omega)) (by simp);have z2:=t2.frozen_eq w.heap.size (by first | (simp;done) | (simp;omega)) (by simp);have s2:w.heap.size < w2.heap.size:=(by have:=t2.size;first | omega | (simp at this;omega)))
  | (go_at_call 79;(with_reducible refine (Zic v l _ _ (zK h zA) hsm).mono ?_);rintro e w3 ⟨v3,fp3,rfl,r3,F3,t3⟩;obtain ⟨A3,C3,_,_,rfl,-⟩:=r3.open_;have y3:=t3.cells_eq w.heap.size (by simp;omega) (by simp);have z3:=t3.frozen_eq w.heap.size (by simp;omega) (by simp);have s3:w2.heap.size < w3.heap.size:=(by have:=t3.size;simp at this;omega)))
 have HF:=F2.mono (B':=w.heap.size) (by simp)
 have HG:∀ b'∈fp3,w2.heap.size + 1<=b':=fun b' hb=>by have:=F3.ge b' hb;simp at this;omega
 have HG2:∀ b'∈fp2,w.heap.size < b':=fun b' hb=>by have:=F2.ge b' hb;simp at this;omega
 have HL2:∀ b'∈fp2,b' < w2.heap.size:=F2.lt
 obtain ⟨o1,o2⟩:=one_rd r2 27 w.heap.size HF (g:=w2.heap.size) rfl (by omega)
 have hW:Only [w.heap.size] w3 ((((w3.setCell ⟨w.heap.size,0,none⟩ (.int .i64 2)).setCell ⟨w.heap.size,1,none⟩ (.slice none 0 0)).setCell ⟨w.heap.size,2,none⟩ (.slice (some ⟨w2.heap.size,0,none⟩) 1 1)).setCell ⟨w.heap.size,3,none⟩ (.slice A3 l.length C3)):=zB
 have n1:=Rp.only (zK o1 t3) hW (fun b' hb hm=>by
  simp at hm hb
  rcases hb with hb | hb
  ·omega
  ·have:=HG2 b' hb;omega)
 have n2:=Rp.only r3 hW (fun b' hb hm=>by have:=HG b' hb;simp at hm;omega)
 have n3:=(Fresh.append (o2.keep t3) F3 (by simp;omega) (fun b' hb=>by
  simp at hb ⊢
  rcases hb with hb | hb
  ·omega
  ·have:=HL2 b' hb;omega)).only hW (fun b' hb hm=>by
  simp at hm hb
  rcases hb with hb | hb | hb
  ·omega
  ·have:=HG2 b' hb;omega
  ·have:=HG b' hb;omega)
 refine bodyPost_ret (v:=.agg #[.int .i64 2,.slice none 0 0,.slice (some ⟨w2.heap.size,0,none⟩) 1 1,.slice A3 l.length C3]) (by simp [results,Tryz.results74,go_sem,y3,y2,s2]) rfl ⟨[.int .i64 2,.slice none 0 0,.slice (some ⟨w2.heap.size,0,none⟩) 1 1,.slice A3 l.length C3],_,rfl,?_,n3,zA⟩
 rw [Hp.out]
 exact ⟨_,_,_,[],_,fp3,rfl,(by simp),⟨by simp,by simp⟩,nil_rd _,n1,n2⟩
theorem Zlj {x:Puzzle}:∀ {trs:List (List Int)} {ts:List Table},bTabsK x trs = some ts->ts.length = trs.length/\∀ t∈ts,∃ tr,bTab x tr = some t
 | [],ts,h=>by unfold bTabsK at h;injection h with h;subst h;simp
 | tr :: trs,ts,h=>by
  unfold bTabsK at h
  rw [Option.bind_eq_some_iff] at h
  obtain ⟨t,e1,e2⟩:=h
  rw [Option.map_eq_some_iff] at e2
  obtain ⟨ts',e3,e4⟩:=e2
  subst e4
  obtain ⟨a,b⟩:=Zlj e3
  refine ⟨by simp [a],fun t' ht'=>?_⟩
  rcases List.mem_cons.1 ht' with rfl | ht'
  ·exact ⟨tr,e1⟩
  ·exact b t' ht'
theorem Zoa {x:Puzzle} {trs:List (List Int)} {ts:List Table} (h:bTabs x trs = some ts):ts.length<=4/\∀ t∈ts,∃ tr,bTab x tr = some t:=by
 unfold bTabs at h
 split at h
 ·rename_i hq
  obtain ⟨q1,q2⟩:=inR_iff.1 hq
  obtain ⟨a,b⟩:=Zlj h
  exact ⟨by omega,b⟩
 ·cases h
theorem Zrd {x:Puzzle} {trs:List (List Int)} {ts:List Table} (h:bTabs x trs = some ts):Sm.sm ts:=by
 obtain ⟨h1,h2⟩:=Zoa h
 refine ⟨by omega,fun t ht=>?_⟩
 obtain ⟨tr,e⟩:=h2 t ht
 obtain ⟨a1,a2,a3,-,a5,a6,a7⟩:=Zhw e
 have h8:=(Zbi.1 a2).2.len
 have h9:=(Zae a1).2.1
 simp only at a5 a6 a7
 refine ⟨⟨by rw [a3];omega,fun _ _=>trivial⟩,⟨by omega,fun q hq=>⟨by rw [a7 q hq];omega,fun _ _=>trivial⟩⟩,⟨by omega,fun _ _=>trivial⟩⟩
def unCert:Certificate:=⟨4,[],[],[]⟩
theorem Zlb (w:World):Rp.rep w [.int .i64 4,.slice none 0 0,.slice none 0 0,.slice none 0 0] unCert []:=
 ⟨_,_,_,[],[],[],rfl,rfl,by show I64 4;unfold I64;omega,nil_rd w,nil_rd w,nil_rd w⟩
noncomputable def solOk (x:Puzzle) (s:List Int):Bool:=stateB x s && (!reachB x s || (optX x s).isSome)
noncomputable def sdCert (x:Puzzle) (s:List Int):Certificate:=if stateB x s = true then (if reachB x s = true then (match optX x s with | some w=>opCert w [(expl x).getD noTab] | none=>noCert) else unCert) else noCert
section
variable {x:Puzzle} {s:List Int}
theorem sol_a (h:stateB x s = false):solOk x s = false/\sdCert x s = noCert:=by
 unfold solOk sdCert;rw [h];exact ⟨rfl,rfl⟩
theorem sol_b (h:stateB x s = true) (hr:reachB x s = false):solOk x s = true/\sdCert x s = unCert:=by
 unfold solOk sdCert;rw [h,hr];exact ⟨rfl,rfl⟩
theorem sol_c (h:stateB x s = true) (hr:reachB x s = true) (ho:optX x s = none):solOk x s = false/\sdCert x s = noCert:=by
 unfold solOk sdCert;rw [h,hr,ho];exact ⟨rfl,rfl⟩
theorem sol_d {wd:List Int} (h:stateB x s = true) (hr:reachB x s = true) (ho:optX x s = some wd):∃ t,expl x = some t/\solOk x s = true/\sdCert x s = opCert wd [t]:=by
 have hl:=(Zuw ho).1
 rcases Zeq x s with h1 | ⟨-,-,-,t,ht⟩
 ·omega
 ·refine ⟨t,ht,?_,?_⟩
  ·unfold solOk;rw [h,hr,ho];rfl
  ·unfold sdCert;rw [h,hr,ho,ht];rfl
theorem expl_sm {t:Table} (h:expl x = some t):Sm.sm [t]:=Zrd (x:=x) (trs:=[PM.pts x.points.toNat]) (by
 unfold bTabs
 rw [if_pos (show inR (([PM.pts x.points.toNat].length:Nat):Int) 1 4 = true from rfl)]
 show (bTab x (PM.pts x.points.toNat)).bind _ = _
 rw [show bTab x (PM.pts x.points.toNat) = some t from h];rfl)
end
set_option maxHeartbeats 8000000 in
theorem Zjk (cs:List Value) (x:Puzzle) (fp:List Nat) (v:Value) (s:List Int) (fs:List Nat) (w:World) (h:Rp.rep w cs x fp) (hu:Rd w v s fs) :
  Calls Tryz.prog 35 #[.agg cs.toArray,v] w fun e w'=>∃ cs' fp',e = .returned (.tuple #[.agg (List.toArray cs'),.bool (solOk x s)])/\Rp.rep w' cs' (sdCert x s) fp'/\Fresh w.heap.size w' fp'/\Only [] w w':=by
 have h0:=h
 obtain ⟨v2,rfl,p0,p1,h2⟩:=h
 obtain ⟨A3,C3,_,_,rfl,-,-⟩:=h2.open_
 clear h2 p0 p1
 have X0:Blk ((w.alloc (.cells #[.int .i64 x.points,.string x.names,.slice A3 x.moves.length C3] 26)).alloc (.cells #[.int .i64 0,.slice none 0 0,.slice none 0 0,.slice none 0 0] 30)) w.heap.size [.int .i64 x.points,.string x.names,.slice A3 x.moves.length C3]:=(Blk.new w [.int .i64 x.points,.string x.names,.slice A3 x.moves.length C3] 26).keep (zO.alloc _)
 have Y0:Blk ((w.alloc (.cells #[.int .i64 x.points,.string x.names,.slice A3 x.moves.length C3] 26)).alloc (.cells #[.int .i64 0,.slice none 0 0,.slice none 0 0,.slice none 0 0] 30)) (w.heap.size + 1) [.int .i64 0,.slice none 0 0,.slice none 0 0,.slice none 0 0]:=Blk.new_at (by simp)
 rcases hs:stateB x s
 ·obtain ⟨hk,hc⟩:=sol_a hs
  have Hs:=zH hs
  have Hk:=zH hk
  have Hc:=zH hc
  clear hs hk hc
  go_enter Tryz.func35,Tryz.ntmps35
  go_wp2_with (first
   | (go_at_call 23;(with_reducible refine (Zag [.int .i64 x.points,.string x.names,.slice A3 x.moves.length C3] x _ v s _ _ (zK h0 zA) (zK hu zA)).mono ?_);rintro e w1 ⟨he,t1⟩;rw [Hs.out] at he;subst he;have Y9:=Y0.keep t1;obtain ⟨g0,g1,g2,g3⟩:=Y9.c4;obtain ⟨p0,p1,p2,p3⟩:=Y9.f4)
   | fail)
  have K9:Only [] w w1:=zA
  have Yf:=(((Y9.set 0 (.int .i64 0)).set 1 (.slice none 0 0)).set 2 (.slice none 0 0)).set 3 (.slice none 0 0)
  have kf:Only [w.heap.size + 1] w1 ((((w1.setCell ⟨w.heap.size + 1,0,none⟩ (.int .i64 0)).setCell ⟨w.heap.size + 1,1,none⟩ (.slice none 0 0)).setCell ⟨w.heap.size + 1,2,none⟩ (.slice none 0 0)).setCell ⟨w.heap.size + 1,3,none⟩ (.slice none 0 0)):=(((zO.setCell (by simp) _).setCell (by simp) _).setCell (by simp) _).setCell (by simp) _
  obtain ⟨wf,hwf⟩:∃ wf,wf = ((((w1.setCell ⟨w.heap.size + 1,0,none⟩ (.int .i64 0)).setCell ⟨w.heap.size + 1,1,none⟩ (.slice none 0 0)).setCell ⟨w.heap.size + 1,2,none⟩ (.slice none 0 0)).setCell ⟨w.heap.size + 1,3,none⟩ (.slice none 0 0)):=⟨_,rfl⟩
  rw [<- hwf] at Yf kf ⊢
  simp only [List.set] at Yf
  clear hwf g0 g1 g2 g3 p0 p1 p2 p3
  obtain ⟨z0,z1,z2,z3⟩:=Yf.c4
  refine bodyPost_ret (v:=.tuple #[.agg #[.int .i64 0,.slice none 0 0,.slice none 0 0,.slice none 0 0],.bool false]) (by simp [results,Tryz.results35,go_sem,z0,z1,z2,z3]) rfl ⟨[.int .i64 0,.slice none 0 0,.slice none 0 0,.slice none 0 0],[],by rw [Hk.out],by rw [Hc.out];exact Zcu _,Fresh.nil _ _,K9.then_ kf (by simp)⟩
 have hpp:=Zae (Zdc hs)
 obtain ⟨n1,n20,-,-⟩:=hpp
 have hst:=hs
 have Hs:=zH hs
 rcases hr:reachB x s
 ·obtain ⟨hk,hc⟩:=sol_b hst hr
  have Hr:=zH hr
  have Hk:=zH hk
  have Hc:=zH hc
  clear hs hst hr hk hc
  go_enter Tryz.func35,Tryz.ntmps35
  go_wp2_with (first
   | (go_at_call 23;(with_reducible refine (Zag [.int .i64 x.points,.string x.names,.slice A3 x.moves.length C3] x _ v s _ _ (zK h0 zA) (zK hu zA)).mono ?_);rintro e w1 ⟨he,t1⟩;rw [Hs.out] at he;subst he;have X1:=X0.keep t1;obtain ⟨y0,y1,y2⟩:=X1.c3)
   | (go_at_call 28;(with_reducible refine (Zat [.int .i64 x.points,.string x.names,.slice A3 x.moves.length C3] x _ v s _ _ (zK h0 zA) (zK hu zA)).mono ?_);rintro e w2 ⟨he,t2⟩;rw [Hr.out] at he;subst he;have Y9:=(Y0.keep t1).keep t2;obtain ⟨g0,g1,g2,g3⟩:=Y9.c4;obtain ⟨p0,p1,p2,p3⟩:=Y9.f4)
   | fail)
  have K9:Only [] w w2:=zA
  have Yf:=(((Y9.set 0 (.int .i64 4)).set 1 (.slice none 0 0)).set 2 (.slice none 0 0)).set 3 (.slice none 0 0)
  have kf:Only [w.heap.size + 1] w2 ((((w2.setCell ⟨w.heap.size + 1,0,none⟩ (.int .i64 4)).setCell ⟨w.heap.size + 1,1,none⟩ (.slice none 0 0)).setCell ⟨w.heap.size + 1,2,none⟩ (.slice none 0 0)).setCell ⟨w.heap.size + 1,3,none⟩ (.slice none 0 0)):=(((zO.setCell (by simp) _).setCell (by simp) _).setCell (by simp) _).setCell (by simp) _
  obtain ⟨wf,hwf⟩:∃ wf,wf = ((((w2.setCell ⟨w.heap.size + 1,0,none⟩ (.int .i64 4)).setCell ⟨w.heap.size + 1,1,none⟩ (.slice none 0 0)).setCell ⟨w.heap.size + 1,2,none⟩ (.slice none 0 0)).setCell ⟨w.heap.size + 1,3,none⟩ (.slice none 0 0)):=⟨_,rfl⟩
  rw [<- hwf] at Yf kf ⊢
  simp only [List.set] at Yf
  clear hwf g0 g1 g2 g3 p0 p1 p2 p3
  obtain ⟨z0,z1,z2,z3⟩:=Yf.c4
  refine bodyPost_ret (v:=.tuple #[.agg #[.int .i64 4,.slice none 0 0,.slice none 0 0,.slice none 0 0],.bool true]) (by simp [results,Tryz.results35,go_sem,z0,z1,z2,z3]) rfl ⟨[.int .i64 4,.slice none 0 0,.slice none 0 0,.slice none 0 0],[],by rw [Hk.out],by rw [Hc.out];exact Zlb _,Fresh.nil _ _,K9.then_ kf (by simp)⟩
 rcases ho:optX x s with _ | wd
 ·obtain ⟨hk,hc⟩:=sol_c hst hr ho
  have Hr:=zH hr
  have Ho:=zH ho
  have Hk:=zH hk
  have Hc:=zH hc
  clear hs hst hr ho hk hc
  go_enter Tryz.func35,Tryz.ntmps35
  go_upto_region 6 with (first
   | (go_at_call 23;(with_reducible refine (Zag [.int .i64 x.points,.string x.names,.slice A3 x.moves.length C3] x _ v s _ _ (zK h0 zA) (zK hu zA)).mono ?_);rintro e w1 ⟨he,t1⟩;rw [Hs.out] at he;subst he;have X1:=X0.keep t1;obtain ⟨y0,y1,y2⟩:=X1.c3)
   | (go_at_call 28;(with_reducible refine (Zat [.int .i64 x.points,.string x.names,.slice A3 x.moves.length C3] x _ v s _ _ (zK h0 zA) (zK hu zA)).mono ?_);rintro e w2 ⟨he,t2⟩;rw [Hr.out] at he;subst he;have X2:=X1.keep t2;obtain ⟨y0,y1,y2⟩:=X2.c3)
   | (go_at_call 36;(with_reducible refine (Zcy [.int .i64 x.points,.string x.names,.slice A3 x.moves.length C3] x _ v s _ _ (zK h0 zA) (zK hu zA)).mono ?_);rintro e w3 ⟨u3,f3,he,r3,F3,t3⟩;rw [Ho.out] at he r3;subst he)
   | fail)
  have K3:Only [] w w3:=zA
  have X3:=X2.keep t3
  obtain ⟨y0,y1,y2⟩:=X3.c3
  have kz:=(Only.refl [] w3).alloc (.cells #[.slice none 0 0,.slice none 0 0,.slice none 0 0] 105)
  have ya0:=kz.cell (by simp) y0
  have ya1:=kz.cell (by simp) y1
  have ya2:=kz.cell (by simp) y2
  have hpl:(PM.pts x.points.toNat).length<=2097152:=by rw [PM.pts_len];omega
  have Hpl:=zH hpl
  have hc3:([.slice none 0 0,.slice none 0 0,.slice none 0 0]:List Value).length = 3:=rfl
  clear hpl
  go_cut [8,9] (fun s8 s9 wx=>BT1 w3 wx s8 s9 (bTab x (PM.pts x.points.toNat)))
  case first=>
   go_region_law (first
    | (go_simp;go_at_call 73;(with_reducible refine (Zdj x.points _ (by omega) (by omega)).mono ?_);rintro e w5 ⟨v5,f5,rfl,r5,F5,t5⟩;have hz5:=t5.size;(try simp at hz5);have X5:=X3.keep ((by with_reducible repeat (first | exact Only.refl _ _ | assumption | refine Only.drew ?_ | refine Only.alloc ?_ _ | refine Only.trans ?_ (by assumption))):Only [] w3 w5);obtain ⟨q0,q1,q2⟩:=X5.c3;have kb:=(Only.refl [] w5).alloc (.cells #[.slice none 0 0,.slice none 0 0,.slice none 0 0] 105);have qa0:=kb.cell (by simp) q0;have qa1:=kb.cell (by simp) q1;have qa2:=kb.cell (by simp) q2)
    | (go_simp;go_at_call 72;(with_reducible refine (Zbs [.int .i64 x.points,.string x.names,.slice A3 x.moves.length C3] x _ _ (PM.pts x.points.toNat) _ _ (zK h0 zA) (zK r5 zA) Hpl.out).mono ?_);rintro e w4 ⟨cs4,f4,he4,r4,F4,t4⟩;have rr:=id r4;obtain ⟨u1,u2,u9,e1,e2,e3,rfl,-,s1,s2,s3⟩:=r4;simp only [List.cons_append,List.nil_append] at rr;have hq1:=s1.open_;have hq2:=s2.open_;have hq3:=s3.open_;obtain ⟨a1,k1,_,_,rfl,-,-⟩:=hq1;obtain ⟨a2,k2,_,_,rfl,-,-⟩:=hq2;obtain ⟨a3,k3,_,_,rfl,-,-⟩:=hq3;subst he4;have hz4:=t4.size;(try simp at hz4);have FF:=F4.mono (B':=w3.heap.size) (by first | omega | (simp;omega));first
     | (have Z:=((Blk.new w3 [.slice none 0 0,.slice none 0 0,.slice none 0 0] 105).keep t5).keep t4;have hgf:w3.heap.size ∉ f4:=(fun hm=>by have:=F4.ge _ hm;omega);have hgw:w3.heap.size<=w3.heap.size:=Nat.le_refl _;obtain ⟨g0,g1,g2⟩:=Z.c3;obtain ⟨p0,p1,p2⟩:=Z.f3)
     | (have Z:=(((Blk.new w3 [.slice none 0 0,.slice none 0 0,.slice none 0 0] 105).keep ((Only.refl [] _).drew)).keep t5).keep t4;have hgf:w3.heap.size ∉ f4:=(fun hm=>by have:=F4.ge _ hm;omega);have hgw:w3.heap.size<=w3.heap.size:=Nat.le_refl _;obtain ⟨g0,g1,g2⟩:=Z.c3;obtain ⟨p0,p1,p2⟩:=Z.f3)
     | (have Z:=((Blk.new w5 [.slice none 0 0,.slice none 0 0,.slice none 0 0] 105)).keep t4;have hgf:w5.heap.size ∉ f4:=(fun hm=>by have:=F4.ge _ hm;first | omega | (simp at this;omega));have hgw:w3.heap.size<=w5.heap.size:=(by omega);obtain ⟨g0,g1,g2⟩:=Z.c3;obtain ⟨p0,p1,p2⟩:=Z.f3)
     | (have Z:=((Blk.new w5 [.slice none 0 0,.slice none 0 0,.slice none 0 0] 105).keep ((Only.refl [] _).drew)).keep t4;have hgf:w5.heap.size ∉ f4:=(fun hm=>by have:=F4.ge _ hm;first | omega | (simp at this;omega));have hgw:w3.heap.size<=w5.heap.size:=(by omega);obtain ⟨g0,g1,g2⟩:=Z.c3;obtain ⟨p0,p1,p2⟩:=Z.f3)
     | (have Z:=Blk.new w4 [.slice none 0 0,.slice none 0 0,.slice none 0 0] 105;have hgf:w4.heap.size ∉ f4:=(fun hm=>by have:=F4.lt _ hm;omega);have hgw:w3.heap.size<=w4.heap.size:=(by omega);have rra:=zK rr ((Only.refl [] w4).alloc (.cells #[.slice none 0 0,.slice none 0 0,.slice none 0 0] 105));have FFa:=FF.keep ((Only.refl [] w4).alloc (.cells #[.slice none 0 0,.slice none 0 0,.slice none 0 0] 105));obtain ⟨g0,g1,g2⟩:=Z.c3;obtain ⟨p0,p1,p2⟩:=Z.f3))
    | fail)
   all_goals go_wp2_with fail
   all_goals go_meet
   all_goals have KK5:Only [] w3 w4:=(by with_reducible repeat (first | exact Only.refl _ _ | assumption | refine Only.drew ?_ | refine Only.alloc ?_ _ | refine Only.trans ?_ (by assumption)))
   all_goals first
    | with_reducible exact BT1.of2 KK5 rfl rfl rfl rr FF rfl
    | with_reducible exact BT1.of Z hc3 (KK5.alloc _) rfl rfl rfl rra FFa hgf hgw
    | with_reducible exact BT1.of Z hc3 KK5 rfl rfl rfl rr FF hgf hgw
  case rest=>
   have q7:BT1 w3 wc u8 u9 (expl x):=hcut
   clear hcut
   obtain ⟨g,B1,B2,B3,D1,D2,D3,f,rfl,rfl,z,r,F,k⟩:=q7
   have Y9:=(((Y0.keep t1).keep t2).keep t3).keep k
   obtain ⟨g0,g1,g2,g3⟩:=Y9.c4
   obtain ⟨p0,p1,p2,p3⟩:=Y9.f4
   have K9:Only [] w wc:=K3.trans k
   go_wp2
   have Yf:=(((Y9.set 0 (.int .i64 0)).set 1 (.slice none 0 0)).set 2 (.slice none 0 0)).set 3 (.slice none 0 0)
   have kf:Only [w.heap.size + 1] wc ((((wc.setCell ⟨w.heap.size + 1,0,none⟩ (.int .i64 0)).setCell ⟨w.heap.size + 1,1,none⟩ (.slice none 0 0)).setCell ⟨w.heap.size + 1,2,none⟩ (.slice none 0 0)).setCell ⟨w.heap.size + 1,3,none⟩ (.slice none 0 0)):=(((zO.setCell (by simp) _).setCell (by simp) _).setCell (by simp) _).setCell (by simp) _
   obtain ⟨wf,hwf⟩:∃ wf,wf = ((((wc.setCell ⟨w.heap.size + 1,0,none⟩ (.int .i64 0)).setCell ⟨w.heap.size + 1,1,none⟩ (.slice none 0 0)).setCell ⟨w.heap.size + 1,2,none⟩ (.slice none 0 0)).setCell ⟨w.heap.size + 1,3,none⟩ (.slice none 0 0)):=⟨_,rfl⟩
   rw [<- hwf] at Yf kf ⊢
   simp only [List.set] at Yf
   clear hwf g0 g1 g2 g3 p0 p1 p2 p3
   obtain ⟨z0,z1,z2,z3⟩:=Yf.c4
   refine bodyPost_ret (v:=.tuple #[.agg #[.int .i64 0,.slice none 0 0,.slice none 0 0,.slice none 0 0],.bool false]) (by simp [results,Tryz.results35,go_sem,z0,z1,z2,z3]) rfl ⟨[.int .i64 0,.slice none 0 0,.slice none 0 0,.slice none 0 0],[],by rw [Hk.out],by rw [Hc.out];exact Zcu _,Fresh.nil _ _,K9.then_ kf (by simp)⟩
 ·obtain ⟨t,ht,hk,hc⟩:=sol_d hst hr ho
  have HSm:=zH (expl_sm ht)
  have Hr:=zH hr
  have Ho:=zH ho
  have Ht:=zH ht
  have Hk:=zH hk
  have Hc:=zH hc
  clear hs hst hr ho hk hc ht
  go_enter Tryz.func35,Tryz.ntmps35
  go_upto_region 6 with (first
   | (go_at_call 23;(with_reducible refine (Zag [.int .i64 x.points,.string x.names,.slice A3 x.moves.length C3] x _ v s _ _ (zK h0 zA) (zK hu zA)).mono ?_);rintro e w1 ⟨he,t1⟩;rw [Hs.out] at he;subst he;have X1:=X0.keep t1;obtain ⟨y0,y1,y2⟩:=X1.c3)
   | (go_at_call 28;(with_reducible refine (Zat [.int .i64 x.points,.string x.names,.slice A3 x.moves.length C3] x _ v s _ _ (zK h0 zA) (zK hu zA)).mono ?_);rintro e w2 ⟨he,t2⟩;rw [Hr.out] at he;subst he;have X2:=X1.keep t2;obtain ⟨y0,y1,y2⟩:=X2.c3)
   | (go_at_call 36;(with_reducible refine (Zcy [.int .i64 x.points,.string x.names,.slice A3 x.moves.length C3] x _ v s _ _ (zK h0 zA) (zK hu zA)).mono ?_);rintro e w3 ⟨u3,f3,he,r3,F3,t3⟩;rw [Ho.out] at he r3;subst he;simp only [Option.getD] at r3)
   | fail)
  have K3:Only [] w w3:=zA
  have X3:=X2.keep t3
  obtain ⟨y0,y1,y2⟩:=X3.c3
  have kz:=(Only.refl [] w3).alloc (.cells #[.slice none 0 0,.slice none 0 0,.slice none 0 0] 105)
  have ya0:=kz.cell (by simp) y0
  have ya1:=kz.cell (by simp) y1
  have ya2:=kz.cell (by simp) y2
  have hpl:(PM.pts x.points.toNat).length<=2097152:=by rw [PM.pts_len];omega
  have Hpl:=zH hpl
  have hc3:([.slice none 0 0,.slice none 0 0,.slice none 0 0]:List Value).length = 3:=rfl
  clear hpl
  go_cut [8,9] (fun s8 s9 wx=>BT1 w3 wx s8 s9 (bTab x (PM.pts x.points.toNat)))
  case first=>
   go_region_law (first
    | (go_simp;go_at_call 73;(with_reducible refine (Zdj x.points _ (by omega) (by omega)).mono ?_);rintro e w5 ⟨v5,f5,rfl,r5,F5,t5⟩;have hz5:=t5.size;(try simp at hz5);have X5:=X3.keep ((by with_reducible repeat (first | exact Only.refl _ _ | assumption | refine Only.drew ?_ | refine Only.alloc ?_ _ | refine Only.trans ?_ (by assumption))):Only [] w3 w5);obtain ⟨q0,q1,q2⟩:=X5.c3;have kb:=(Only.refl [] w5).alloc (.cells #[.slice none 0 0,.slice none 0 0,.slice none 0 0] 105);have qa0:=kb.cell (by simp) q0;have qa1:=kb.cell (by simp) q1;have qa2:=kb.cell (by simp) q2)
    | (go_simp;go_at_call 72;(with_reducible refine (Zbs [.int .i64 x.points,.string x.names,.slice A3 x.moves.length C3] x _ _ (PM.pts x.points.toNat) _ _ (zK h0 zA) (zK r5 zA) Hpl.out).mono ?_);rintro e w4 ⟨cs4,f4,he4,r4,F4,t4⟩;have rr:=id r4;obtain ⟨u1,u2,u9,e1,e2,e3,rfl,-,s1,s2,s3⟩:=r4;simp only [List.cons_append,List.nil_append] at rr;have hq1:=s1.open_;have hq2:=s2.open_;have hq3:=s3.open_;obtain ⟨a1,k1,_,_,rfl,-,-⟩:=hq1;obtain ⟨a2,k2,_,_,rfl,-,-⟩:=hq2;obtain ⟨a3,k3,_,_,rfl,-,-⟩:=hq3;subst he4;have hz4:=t4.size;(try simp at hz4);have FF:=F4.mono (B':=w3.heap.size) (by first | omega | (simp;omega));first
     | (have Z:=((Blk.new w3 [.slice none 0 0,.slice none 0 0,.slice none 0 0] 105).keep t5).keep t4;have hgf:w3.heap.size ∉ f4:=(fun hm=>by have:=F4.ge _ hm;omega);have hgw:w3.heap.size<=w3.heap.size:=Nat.le_refl _;obtain ⟨g0,g1,g2⟩:=Z.c3;obtain ⟨p0,p1,p2⟩:=Z.f3)
     | (have Z:=(((Blk.new w3 [.slice none 0 0,.slice none 0 0,.slice none 0 0] 105).keep ((Only.refl [] _).drew)).keep t5).keep t4;have hgf:w3.heap.size ∉ f4:=(fun hm=>by have:=F4.ge _ hm;omega);have hgw:w3.heap.size<=w3.heap.size:=Nat.le_refl _;obtain ⟨g0,g1,g2⟩:=Z.c3;obtain ⟨p0,p1,p2⟩:=Z.f3)
     | (have Z:=((Blk.new w5 [.slice none 0 0,.slice none 0 0,.slice none 0 0] 105)).keep t4;have hgf:w5.heap.size ∉ f4:=(fun hm=>by have:=F4.ge _ hm;first | omega | (simp at this;omega));have hgw:w3.heap.size<=w5.heap.size:=(by omega);obtain ⟨g0,g1,g2⟩:=Z.c3;obtain ⟨p0,p1,p2⟩:=Z.f3)
     | (have Z:=((Blk.new w5 [.slice none 0 0,.slice none 0 0,.slice none 0 0] 105).keep ((Only.refl [] _).drew)).keep t4;have hgf:w5.heap.size ∉ f4:=(fun hm=>by have:=F4.ge _ hm;first | omega | (simp at this;omega));have hgw:w3.heap.size<=w5.heap.size:=(by omega);obtain ⟨g0,g1,g2⟩:=Z.c3;obtain ⟨p0,p1,p2⟩:=Z.f3)
     | (have Z:=Blk.new w4 [.slice none 0 0,.slice none 0 0,.slice none 0 0] 105;have hgf:w4.heap.size ∉ f4:=(fun hm=>by have:=F4.lt _ hm;omega);have hgw:w3.heap.size<=w4.heap.size:=(by omega);have rra:=zK rr ((Only.refl [] w4).alloc (.cells #[.slice none 0 0,.slice none 0 0,.slice none 0 0] 105));have FFa:=FF.keep ((Only.refl [] w4).alloc (.cells #[.slice none 0 0,.slice none 0 0,.slice none 0 0] 105));obtain ⟨g0,g1,g2⟩:=Z.c3;obtain ⟨p0,p1,p2⟩:=Z.f3))
    | fail)
   all_goals go_wp2_with fail
   all_goals go_meet
   all_goals have KK5:Only [] w3 w4:=(by with_reducible repeat (first | exact Only.refl _ _ | assumption | refine Only.drew ?_ | refine Only.alloc ?_ _ | refine Only.trans ?_ (by assumption)))
   all_goals first
    | with_reducible exact BT1.of2 KK5 rfl rfl rfl rr FF rfl
    | with_reducible exact BT1.of Z hc3 (KK5.alloc _) rfl rfl rfl rra FFa hgf hgw
    | with_reducible exact BT1.of Z hc3 KK5 rfl rfl rfl rr FF hgf hgw
  case rest=>
   have q7:BT1 w3 wc u8 u9 (expl x):=hcut
   clear hcut
   obtain ⟨g,B1,B2,B3,D1,D2,D3,f,rfl,rfl,z,r,F,k⟩:=q7
   rw [Ht.out] at z r
   simp only [Option.getD] at z r
   simp only [Ht.out,Option.isSome]
   obtain ⟨d0,d1,d2⟩:=z.c3
   have Y8:=(((Y0.keep t1).keep t2).keep t3).keep k
   have hA:=(Acc.one w.heap.size 105 r (g:=wc.heap.size) rfl (K3.trans k).size).rd (by decide)
   have hz9:=(K3.trans k).size
   go_wp2_with (first
    | (go_at_call 74;(with_reducible refine (Zpa u3 wd f3 _ [t] _ _ (zK r3 (k.trans zA)) (zK hA zA) HSm.out).mono ?_);rintro e w4 ⟨cs4,f4,rfl,r4,F4,t4⟩;have rr:=id r4;obtain ⟨v1,v2,v3,e1,e2,e3,rfl,-,i1,s1,s2,s3⟩:=r4;simp only [List.cons_append,List.nil_append] at rr;obtain ⟨a1,k1,_,_,rfl,-,-⟩:=s1.open_;obtain ⟨a2,k2,_,_,rfl,-,-⟩:=s2.open_;obtain ⟨a3,k3,_,_,rfl,-,-⟩:=s3.open_;have Y9:=(Y8.keep ((Only.refl [] wc).alloc (.cells #[.slice B1 t.tracked.length D1,.slice B2 t.patterns.length D2,.slice B3 t.distances.length D3] 105))).keep t4;obtain ⟨g0,g1,g2,g3⟩:=Y9.c4;obtain ⟨p0,p1,p2,p3⟩:=Y9.f4)
    | fail)
   have K4:Only [] w w4:=((K3.trans k).alloc _).trans t4
   have hY1:=Y8.lt
   have hFg:∀ g∈f4,g ∉ [w.heap.size + 1]:=fun g hg hm=>by have:=F4.ge g hg;simp at hm this;omega
   have Yf:=(((Y9.set 0 (.int .i64 (opCert wd [t]).kind)).set 1 (.slice a1 (opCert wd [t]).numbers.length k1)).set 2 (.slice a2 (opCert wd [t]).words.length k2)).set 3 (.slice a3 (opCert wd [t]).tables.length k3)
   have kf:Only [w.heap.size + 1] w4 ((((w4.setCell ⟨w.heap.size + 1,0,none⟩ (.int .i64 (opCert wd [t]).kind)).setCell ⟨w.heap.size + 1,1,none⟩ (.slice a1 (opCert wd [t]).numbers.length k1)).setCell ⟨w.heap.size + 1,2,none⟩ (.slice a2 (opCert wd [t]).words.length k2)).setCell ⟨w.heap.size + 1,3,none⟩ (.slice a3 (opCert wd [t]).tables.length k3)):=(((zO.setCell (by simp) _).setCell (by simp) _).setCell (by simp) _).setCell (by simp) _
   obtain ⟨wf,hwf⟩:∃ wf,wf = ((((w4.setCell ⟨w.heap.size + 1,0,none⟩ (.int .i64 (opCert wd [t]).kind)).setCell ⟨w.heap.size + 1,1,none⟩ (.slice a1 (opCert wd [t]).numbers.length k1)).setCell ⟨w.heap.size + 1,2,none⟩ (.slice a2 (opCert wd [t]).words.length k2)).setCell ⟨w.heap.size + 1,3,none⟩ (.slice a3 (opCert wd [t]).tables.length k3)):=⟨_,rfl⟩
   rw [<- hwf] at Yf kf ⊢
   simp only [List.set] at Yf
   clear hwf g0 g1 g2 g3 p0 p1 p2 p3
   obtain ⟨z0,z1,z2,z3⟩:=Yf.c4
   refine bodyPost_ret (v:=.tuple #[.agg #[.int .i64 (opCert wd [t]).kind,.slice a1 (opCert wd [t]).numbers.length k1,.slice a2 (opCert wd [t]).words.length k2,.slice a3 (opCert wd [t]).tables.length k3],.bool true]) (by simp [results,Tryz.results35,go_sem,z0,z1,z2,z3]) rfl ⟨[.int .i64 (opCert wd [t]).kind,.slice a1 (opCert wd [t]).numbers.length k1,.slice a2 (opCert wd [t]).words.length k2,.slice a3 (opCert wd [t]).tables.length k3],f4,by rw [Hk.out],by rw [Hc.out];exact Rp.only rr kf hFg,(F4.mono (by simp;omega)).only kf hFg,K4.then_ kf (by simp)⟩
theorem wp_cat {P:Program} {α:Type} [Rp α] {o:Oper} {a:Act} {w:World} {Q:Exit->Act->World->Prop} {K:Act->World->Prop} (s x:Operand) (t:TypeId)
  (ho:o.op = .call { callee:=.builtin .append,args:=#[s,x],argTypes:=#[t,t] })
  (B:Nat) (e:TypeId) (i:TypeInfo) (z:Value) (bytes:Nat) (ht:P.underlying t = some (.slice e)) (hi:P.info? e = some i) (hz:i.zero = some z)
  (hsize:i.size = Rp.size α) (hby:i.bytes = bytes) (hzs:z.cells.size = Rp.size α) (hsz:0 < Rp.size α) (hbb:bytes<=65536)
  (w0:World) (v:Value) (l:List α) (fs:List (List Nat)) (hs:a.eval s = v) (hA:Acc B e w0 v l fs) (hK0:Only [] w0 w) (hB:B<=w0.heap.size)
  (B2:Nat) (e2:TypeId) (u:Value) (ys:List α) (gs:List (List Nat)) (hx:a.eval x = u) (hU:Acc B2 e2 w u ys gs) (hone:∀ (cs:List Value) (y:α) (f:List Nat),Rp.rep w cs y f->∀ q∈cs,q.oneCell' = true)
  (hap:∀ b∈gs.flatten,v.ownBlock ≠ some b) (hlen:l.length + ys.length<=1073741824)
  (h:∀ v' w',Acc B e w' v' (l ++ ys) (fs ++ gs)->Only v.ownBlock.toList w w'->(v'.ownBlock = v.ownBlock\/v'.ownBlock = some w.heap.size)->K (a.put o.dst v') w'):o.wp P a w K Q:=by
 obtain ⟨css,hown,hcl,hre⟩:=(hA.keep hK0).own
 obtain ⟨css2,hown2,hcl2,hre2⟩:=hU.own
 have hfl:=hA.fl
 have hfl2:=hU.fl
 have hgl:=hU.lt
 have hbytes:(l.length + ys.length) * bytes<=140737488355328:=by
  have:=Nat.mul_le_mul hlen hbb;omega
 obtain ⟨A,c,hu,hA0,hsrc⟩:∃ A c,u = .slice A ys.length c/\(A = none->ys.length = 0)/\∀ ad,A = some ad->∀ j q,css2.flatten[j]? = some q->w.cell? (ad.add j) = some q:=by
  have hk:=hown2
  rcases hown2.2 with ⟨h1,h0⟩ | ⟨g,cp,cur,h1,hrest⟩
  ·exact ⟨none,0,by rw [h1,h0],fun _=>h0,by simp⟩
  ·subst h1
   exact ⟨_,_,rfl,by simp,fun ad had j q hq=>by injection had with had;subst had;exact World.ownsRow.cells hk rfl j q hq⟩
 refine wp_app w s x t ho B e i z (Rp.size α) bytes ht hi hz hsize hby hzs hsz v l.length css.flatten hs hown A ys.length c css2.flatten (by rw [hx,hu]) hown2.1 hsrc hA0 (fun q hq=>?_) (by unfold maxLen;omega) hbytes (Nat.le_trans hB hK0.size) ?_
 ·obtain ⟨cs,hcs,hq⟩:=List.mem_flatten.1 hq
  obtain ⟨k,hk,rfl⟩:=List.getElem_of_mem hcs
  exact hone _ _ _ (hre2 k hk (by omega) (by omega)) q hq
 intro v' w' hO hg hb
 have hW:Only v.ownBlock.toList w w':=zO.grown hg (by intro k hk _;simp [hk])
 have hlt:=(hA.keep hK0).lt
 have hap':∀ b∈gs.flatten,b ∉ v.ownBlock.toList:=fun b hb hm=>hap b hb (by simpa using hm)
 have hfs:∀ b∈fs.flatten,b ∉ v.ownBlock.toList:=fun b hb hm=>hA.apart b (by simpa using hm) hb
 refine h v' w' ⟨⟨css ++ css2,?_,by simp [hcl,hcl2],fun k h1 h2 h3=>?_⟩,by simp [hfl,hfl2],?_⟩ hW hb
 ·rw [List.length_append,List.flatten_append];exact hO
 ·by_cases hk:k < l.length
  ·rw [List.getElem_append_left (by rw [hcl];exact hk),List.getElem_append_left hk,List.getElem_append_left (by rw [hfl];exact hk)]
   exact Rp.only (hre k (by omega) hk (by omega)) hW fun b hb=>hfs b (List.mem_flatten.2 ⟨_,List.getElem_mem _,hb⟩)
  ·have hk2:k - l.length < ys.length:=by rw [List.length_append] at h2;omega
   rw [List.getElem_append_right (by rw [hcl];omega),List.getElem_append_right (by omega),List.getElem_append_right (by rw [hfl];omega)]
   simp only [hcl,hfl]
   exact Rp.only (hre2 (k - l.length) (by omega) hk2 (by omega)) hW fun b hb=>hap' b (List.mem_flatten.2 ⟨_,List.getElem_mem _,hb⟩)
 ·intro g' hg' hm
  rw [List.flatten_append] at hm
  rcases hb with hb | hb
  ·rw [hb] at hg'
   rcases List.mem_append.1 hm with hm | hm
   ·exact hA.apart g' hg' hm
   ·exact hap g' hm hg'
  ·rw [hb] at hg';injection hg' with hg';subst hg'
   rcases List.mem_append.1 hm with hm | hm
   ·exact absurd (hlt _ hm) (by omega)
   ·exact absurd (hgl _ hm) (by omega)
theorem Zti (w:World) (cs:List Value) (y:Table) (f:List Nat) (h:Rp.rep w cs y f):∀ q∈cs,q.oneCell' = true:=by
 obtain ⟨v1,v2,v3,f1,f2,f3,rfl,-,h1,h2,h3⟩:=h
 obtain ⟨_,_,_,_,rfl,-,-⟩:=h1.open_
 obtain ⟨_,_,_,_,rfl,-,-⟩:=h2.open_
 obtain ⟨_,_,_,_,rfl,-,-⟩:=h3.open_
 intro q hq
 simp at hq
 rcases hq with rfl | rfl | rfl <;> rfl
theorem Zib (x:Puzzle) (trs:List (List Int)):((bTabs x trs).getD []).length<=4/\Sm.sm ((bTabs x trs).getD []):=by
 rcases e:bTabs x trs with _ | ts
 ·exact ⟨by simp,by simp [Sm.sm]⟩
 ·exact ⟨(Zoa e).1,Zrd e⟩
set_option maxHeartbeats 4000000 in
theorem Zhi (g:Nat) (fc:List Nat) (l:List UInt8) (cs:List Value) (x:Puzzle) (fp:List Nat) (w:World) (h:Src w g fc l) (hl:l.length<=4096) (hx:Rp.rep w cs x fp) (hgx:g ∉ fp) :
  Calls Tryz.prog 39 #[.pointer (some ⟨g,0,none⟩),.agg cs.toArray] w fun e w'=>∃ v,∃ L:List Table,∃ fs,e = .returned v/\Acc w.heap.size 105 w' v L fs/\Fresh w.heap.size w' fs.flatten/\L.length<=4/\Sm.sm L/\Src w' g fc l/\Only [g] w w':=by
 have hg:=h.lt
 have hxc:=hx
 obtain ⟨v2,rfl,p0,p1,h2⟩:=hx
 obtain ⟨A2,C2,_,_,rfl,-,-⟩:=h2.open_
 have hx0:Rp.rep w [.int .i64 x.points,.string x.names,.slice A2 x.moves.length C2] x fp:=hxc
 have hB0:=Blk.new w [.int .i64 x.points,.string x.names,.slice A2 x.moves.length C2] 26
 have kb:Only [] w (w.alloc (.cells #[.int .i64 x.points,.string x.names,.slice A2 x.moves.length C2] 26)):=zO.alloc _
 obtain ⟨x0,x1,x2⟩:=hB0.c3
 have hdx:∀ b∈fp,b ∉ [g]:=fun b hb hm=>hgx (by simp at hm;subst hm;exact hb)
 have Hdx:=zH hdx
 clear hdx hxc p0 p1 h2
 go_enter Tryz.func39,Tryz.ntmps39
 go_wp2
 go_region_law (first
  | (go_simp;go_at_call 81;(with_reducible refine (Zin g fc l [.int .i64 x.points,.string x.names,.slice A2 x.moves.length C2] x fp _ (h.keep zC) hl (zK hx0 zC)).mono ?_);rintro en w8 ⟨v8,L8,f8,rfl,r8,ge8,sm8,D8,K8⟩;have K78:Only [g] (w.alloc (.cells #[.int .i64 x.points,.string x.names,.slice A2 x.moves.length C2] 26)) w8:=Only.trans zC K8;have B8:=hB0.only K78 (by simp;omega);obtain ⟨x08,x18,x28⟩:=B8.c3;have hx8:=Rp.only (zK hx0 kb) K78 Hdx.out;have R8:=zH r8;have S8:=zH sm8;clear r8 sm8 ge8)
  | (go_simp;go_at_call 80;(with_reducible refine (Ziq [.int .i64 x.points,.string x.names,.slice A2 x.moves.length C2] x fp v8 L8 f8 _ (zK hx8 zC) (zK R8.out zC) S8.out).mono ?_);rintro en w9 ⟨u9,f9,rfl,hA9,hF9,K9⟩;have K89:Only [] w8 w9:=Only.trans zC K9;have B9:=(B8.keep zC).only K9 (by simp);obtain ⟨x09,x19,x29⟩:=B9.c3;have HA9:=zH hA9;have HF9:=zH hF9;clear hA9 hF9)
  | fail)
 all_goals
  go_wp2
  go_ret
  have hs:w.heap.size<=w8.heap.size:=((kb.weaken [g]).trans K78).size
  have hA:=HA9.out
  have hF:=HF9.out
  have e9:w8.heap.size<=w9.heap.size:=K89.size
  exact ⟨_,_,_,rfl,hA.low3 (by omega),hF.mono (by omega),(Zib x L8).1,(Zib x L8).2,D8.keep K89,((kb.weaken [g]).trans K78).trans (K89.weaken [g])⟩
theorem Zpc (g:Nat) (fc:List Nat) (l:List UInt8) (cs:List Value) (x:Puzzle) (fp:List Nat) (w:World) (h:Src w g fc l) (hl:l.length<=4096) (hx:Rp.rep w cs x fp) (hgx:g ∉ fp) :
  Calls Tryz.prog 33 #[.pointer (some ⟨g,0,none⟩),.agg cs.toArray] w fun e w'=>∃ v,∃ p:List Int,∃ f,e = .returned v/\Rd w' v p f/\Fresh w.heap.size w' f/\p.length<=60/\Src w' g fc l/\Only [g] w w':=by
 have hg:=h.lt
 obtain ⟨v2,rfl,p0,p1,h2⟩:=hx
 obtain ⟨A2,C2,_,_,rfl,-,-⟩:=h2.open_
 have hB0:=Blk.new w [.int .i64 x.points,.string x.names,.slice A2 x.moves.length C2] 26
 have kb:Only [] w (w.alloc (.cells #[.int .i64 x.points,.string x.names,.slice A2 x.moves.length C2] 26)):=zO.alloc _
 have x0:=hB0.cell 0 rfl
 have x2:=hB0.cell 2 rfl
 have Hs:Hid ((w.alloc (.cells #[.int .i64 x.points,.string x.names,.slice A2 x.moves.length C2] 26)).heap.size = w.heap.size + 1):=zH (by simp)
 have hne:∀ b∈fp,b ≠ g:=fun b hb e=>hgx (e ▸ hb)
 go_enter Tryz.func33,Tryz.ntmps33
 go_wp2_with (first
  | (go_at_call 70;(with_reducible refine (Zmc g fc l x.points (.slice A2 x.moves.length C2) x.moves fp _ (h.keep kb) hl p0 (zK h2 kb) hne).mono ?_);rintro e w3 ⟨v3,p3,f3,rfl,r3,F3,l3,D3,K3⟩)
  | fail)
 go_ret
 exact ⟨_,_,_,rfl,r3,F3.mono (by rw [Hs.out];omega),l3,D3,(kb.weaken [g]).trans K3⟩
def PSR (w:World) (g:Nat) (fc:List Nat) (l:List UInt8) (e:Ending) (w':World):Prop:=
 ∃ (n:Int) (nm:ByteArray) (vm:Value) (gs:List (List Int)) (fp:List Nat) (v:Value) (s:List Int) (f:List Nat),e = .returned (.tuple #[.agg #[.int .i64 n,.string nm,vm],v])/\I64 n/\nm.size<=20/\Rd w' vm gs fp/\(∀ b∈fp,w.heap.size<=b)/\gs.length<=9/\Rd w' v s f/\(∀ b∈f,w.heap.size<=b)/\Src w' g fc l/\Only [g] w w'
set_option maxHeartbeats 4000000 in
theorem Zgy (g:Nat) (fc:List Nat) (l:List UInt8) (w:World) (h:Src w g fc l) (hl:l.length<=4096) :
  Calls Tryz.prog 15 #[.pointer (some ⟨g,0,none⟩)] w (PSR w g fc l):=by
 have hg:=h.lt
 have hfc:∀ b∈fc,b < w.heap.size:=by obtain ⟨_,_,_,_,_,_,_,h4,_⟩:=h;exact fun b hb=>Rp.lt h4 b hb
 have hB0:=Blk.new w [.int .i64 0,.string ⟨#[]⟩,.slice none 0 0] 26
 have kb:Only [] w (w.alloc (.cells #[.int .i64 0,.string ⟨#[]⟩,.slice none 0 0] 26)):=zO.alloc _
 have Hs:Hid ((w.alloc (.cells #[.int .i64 0,.string ⟨#[]⟩,.slice none 0 0] 26)).heap.size = w.heap.size + 1):=zH (by simp)
 go_enter Tryz.func15,Tryz.ntmps15
 go_upto_region 2 with (first
  | (go_at_call 32;(with_reducible refine (Zjq g fc l _ (h.keep kb) hl).mono ?_);rintro e w1 ⟨n,nm,vm,gs,fp,rfl,hn,nl,r1,F1,l9,l30,D1,K1⟩;obtain ⟨am,cm,_,_,rfl,-,-⟩:=Rd.open_ r1;have k1:Only [g] w w1:=(kb.weaken [g]).trans K1;have B1:=hB0.only K1 (by simp;omega))
  | fail)
 have hs1:w.heap.size + 1<=w1.heap.size:=by have:=K1.size;rw [Hs.out] at this;exact this
 have hge:∀ b∈fp,w.heap.size + 1<=b:=fun b hb=>by have:=F1.ge b hb;rw [Hs.out] at this;exact this
 have hdx:∀ b∈fp,b ∉ [g]:=fun b hb hm=>by have:=hge b hb;simp at hm;omega
 have Hdx:=zH hdx
 have Hge:=zH hge
 have B2:=Blk.new w1 [.int .i64 n,.string nm,.slice am gs.length cm] 26
 have k2:Only [] w1 (w1.alloc (.cells #[.int .i64 n,.string nm,.slice am gs.length cm] 26)):=zO.alloc _
 have Z1:=B1.keep k2
 obtain ⟨z0,z1,z2⟩:=Z1.c3
 have zf:=Z1.frozen
 obtain ⟨x0,x1,x2⟩:=B2.c3
 have hx2:Rp.rep (w1.alloc (.cells #[.int .i64 n,.string nm,.slice am gs.length cm] 26)) [.int .i64 n,.string nm,.slice am gs.length cm] (⟨n,nm,gs⟩:Puzzle) fp:=zK (PzR.rep hn nl r1) k2
 have D2:=D1.keep k2
 have Hr1:=zH r1
 have hgx:g ∉ fp:=fun hm=>by have:=hge g hm;omega
 clear hdx hge hB0 F1 K1 r1 B1
 go_region_law (first
  | (go_simp;go_at_call 33;(with_reducible refine (Zpc g fc l [.int .i64 n,.string nm,.slice am gs.length cm] ⟨n,nm,gs⟩ fp _ (D2.keep zC) hl (zK hx2 zC) hgx).mono ?_);rintro en w3 ⟨v3,p3,f3,rfl,r3,F3,l3,D3,K3⟩;obtain ⟨a3,c3,rfl,-⟩:=id r3.ints;have K23:Only [g] (w1.alloc (.cells #[.int .i64 n,.string nm,.slice am gs.length cm] 26)) w3:=Only.trans zC K3;have Z3:=Z1.only K23 (by simp;omega);obtain ⟨z03,z13,z23⟩:=Z3.c3;have zf3:=Z3.frozen;have B3:=B2.only K23 (by simp;omega);obtain ⟨x03,x13,x23⟩:=B3.c3;have F3':∀ b∈f3,w.heap.size + 1<=b:=(fun b hb=>by have:=F3.ge b hb;simp at this;omega);have HF3:=zH F3';have R3:=zH r3;clear F3 F3' r3)
  | fail)
 all_goals
  go_wp2
  have kst:=Zfe w3 w.heap.size (.int .i64 n) (.string nm) (.slice am gs.length cm)
  have Zf:=Z3.set3 (.int .i64 n) (.string nm) (.slice am gs.length cm)
  obtain ⟨q0,q1,q2⟩:=Zf.c3
  have rm:=Rp.only (Rp.only (zK Hr1.out k2) K23 Hdx.out) kst (fun b hb hm=>by have:=Hge.out b hb;simp at hm;omega)
  have rs:=Rp.only R3.out kst (fun b hb hm=>by have:=HF3.out b hb;simp at hm;omega)
  exact bodyPost_ret (v:=.tuple #[.agg #[.int .i64 n,.string nm,.slice am gs.length cm],.slice a3 p3.length c3]) (by simp [results,Tryz.results15,go_sem,q0,q1,q2]) rfl ⟨n,nm,_,gs,fp,_,p3,f3,rfl,hn,nl,rm,fun b hb=>by have:=Hge.out b hb;omega,l9,rs,fun b hb=>by have:=HF3.out b hb;omega,D3.only kst (by simp;omega) (fun b hb hm=>by have:=hfc b hb;simp at hm;omega),((k1.trans (k2.weaken [g])).trans K23).then_ kst (fun b hb hl=>by simp at hb;omega)⟩
theorem SeqA.kept {α:Type} [Rp α] {w w':World} {a:Option Addr} {cap:Nat} {xs:List α} {ob:List Nat} {fps:List (List Nat)} (h:SeqA w a cap xs ob fps) (ho:Only [] w w'):SeqA w' a cap xs ob fps:=
 h.frame fun b hb=>ho.block b (h.lt_all b hb) (by simp)
structure CAcc (B:Nat) (w:World) (vn vw vt:Value) (n:List Int) (ws:List OwnI) (ts:List Table) (fw ft:List (List Nat)) (B1 B2:Nat):Prop where
 an:AccI B 2 w vn n
 n1:∀ b∈vn.ownBlock.toList,b < B1
 aw:Acc B1 27 w vw ws fw
 fwF:Fresh B1 w fw.flatten
 w2:∀ b∈vw.ownBlock.toList ++ fw.flatten,b < B2
 at_:Acc B2 105 w vt ts ft
 ftF:Fresh B2 w ft.flatten
 b0:B<=B1
 b1:B1<=B2
section
variable {B:Nat} {w w':World} {vn vw vt:Value} {n:List Int} {ws:List OwnI} {ts:List Table} {fw ft:List (List Nat)} {B1 B2:Nat}
theorem CAcc.nge (h:CAcc B w vn vw vt n ws ts fw ft B1 B2):∀ b∈vn.ownBlock.toList,B<=b/\b < B1:=fun b hb=>⟨(h.an.ownlt b (by simpa using hb)).1,h.n1 b hb⟩
theorem CAcc.wge (h:CAcc B w vn vw vt n ws ts fw ft B1 B2):∀ b∈vw.ownBlock.toList ++ fw.flatten,B1<=b/\b < B2:=fun b hb=>⟨by
 rcases List.mem_append.1 hb with hb | hb
 ·exact (h.aw.ownlt b (by simpa using hb)).1
 ·exact h.fwF.ge b hb,h.w2 b hb⟩
theorem CAcc.tge (h:CAcc B w vn vw vt n ws ts fw ft B1 B2):∀ b∈vt.ownBlock.toList ++ ft.flatten,B2<=b:=fun b hb=>by
 rcases List.mem_append.1 hb with hb | hb
 ·exact (h.at_.ownlt b (by simpa using hb)).1
 ·exact h.ftF.ge b hb
theorem CAcc.lt (h:CAcc B w vn vw vt n ws ts fw ft B1 B2):∀ b∈vn.ownBlock.toList ++ ((vw.ownBlock.toList ++ fw.flatten) ++ (vt.ownBlock.toList ++ ft.flatten)),B<=b/\b < w.heap.size:=fun b hb=>by
 have h0:=h.b0;have h1:=h.b1
 rcases List.mem_append.1 hb with hb | hb
 ·have:=h.nge b hb;have:=(h.an.ownlt b (by simpa using hb)).2;omega
 ·rcases List.mem_append.1 hb with hb | hb
  ·have:=h.wge b hb
   rcases List.mem_append.1 hb with hb | hb
   ·have:=(h.aw.ownlt b (by simpa using hb)).2;omega
   ·have:=h.fwF.lt b hb;omega
  ·have:=h.tge b hb
   rcases List.mem_append.1 hb with hb | hb
   ·have:=(h.at_.ownlt b (by simpa using hb)).2;omega
   ·have:=h.ftF.lt b hb;omega
theorem CAcc.only {fp:List Nat} (h:CAcc B w vn vw vt n ws ts fw ft B1 B2) (ho:Only fp w w') (hd:∀ b∈fp,b < B):CAcc B w' vn vw vt n ws ts fw ft B1 B2:=by
 have h0:=h.b0;have h1:=h.b1
 refine ⟨h.an.only ho fun q hq hm=>?_,h.n1,h.aw.only ho (fun q hq hm=>?_) fun q hq hm=>?_,h.fwF.only ho fun q hq hm=>?_,h.w2,h.at_.only ho (fun q hq hm=>?_) fun q hq hm=>?_,h.ftF.only ho fun q hq hm=>?_,h0,h1⟩
 ·have:=hd q hm;have:=h.nge q (by simp [hq]);omega
 ·have:=hd q hm;have:=h.wge q (List.mem_append_right _ hq);omega
 ·have:=hd q hm;have:=h.wge q (List.mem_append_left _ (by simp [hq]));omega
 ·have:=hd q hm;have:=h.wge q (List.mem_append_right _ hq);omega
 ·have:=hd q hm;have:=h.tge q (List.mem_append_right _ hq);omega
 ·have:=hd q hm;have:=h.tge q (List.mem_append_left _ (by simp [hq]));omega
 ·have:=hd q hm;have:=h.tge q (List.mem_append_right _ hq);omega
theorem CAcc.low {B':Nat} (h:CAcc B w vn vw vt n ws ts fw ft B1 B2) (hb:B'<=B):CAcc B' w vn vw vt n ws ts fw ft B1 B2:=⟨h.an.low2 hb,h.n1,h.aw,h.fwF,h.w2,h.at_,h.ftF,Nat.le_trans hb h.b0,h.b1⟩
theorem CAcc.keep (h:CAcc B w vn vw vt n ws ts fw ft B1 B2) (ho:Only [] w w'):CAcc B w' vn vw vt n ws ts fw ft B1 B2:=h.only ho (by simp)
theorem CAcc.rn (h:CAcc B w vn vw vt n ws ts fw ft B1 B2):Rd w vn n vn.ownBlock.toList:=h.an.rd
theorem CAcc.rw_ (h:CAcc B w vn vw vt n ws ts fw ft B1 B2):Rd w vw (ws.map OwnI.l) (vw.ownBlock.toList ++ fw.flatten):=(Acc.ofOwn h.aw).rd (by decide)
theorem CAcc.rt (h:CAcc B w vn vw vt n ws ts fw ft B1 B2):Rd w vt ts (vt.ownBlock.toList ++ ft.flatten):=h.at_.rd (by decide)
theorem CAcc.rep {k:Int} (hk:I64 k) (h:CAcc B w vn vw vt n ws ts fw ft B1 B2):Rp.rep w [.int .i64 k,vn,vw,vt] (⟨k,n,ws.map OwnI.l,ts⟩:Certificate) (vn.ownBlock.toList ++ ((vw.ownBlock.toList ++ fw.flatten) ++ (vt.ownBlock.toList ++ ft.flatten))):=
 ⟨vn,vw,vt,_,_,_,rfl,rfl,hk,h.rn,h.rw_,h.rt⟩
end
theorem map_own (l:List (List Int)):(l.map OwnI.mk).map OwnI.l = l:=by
 rw [List.map_map];exact List.map_id' _
set_option maxHeartbeats 8000000 in
theorem Zip (k:Int) (vn vw vt:Value) (n:List Int) (ws:List (List Int)) (ts:List Table) (fn fw ft:List Nat) (w:World) (hn:Rd w vn n fn) (hw:Rd w vw ws fw) (ht:Rd w vt ts ft) (sn:Sm.sm n) (sw:Sm.sm ws) (st:Sm.sm ts) :
  Calls Tryz.prog 41 #[.agg #[.int .i64 k,vn,vw,vt]] w fun e w'=>∃ vn' vw' vt' fw' ft' B1 B2,e = .returned (.agg #[.int .i64 k,vn',vw',vt'])/\CAcc w.heap.size w' vn' vw' vt' n (ws.map OwnI.mk) ts fw' ft' B1 B2/\Only [] w w':=by
 obtain ⟨an,cn,_,_,rfl,-,-⟩:=hn.open_
 obtain ⟨aw,cw,obw,fpw,rfl,-,Iw⟩:=hw.open_
 obtain ⟨at_,ct,obt,fpt,rfl,-,It⟩:=ht.open_
 have hnl:n.length<=1073741824:=by have:=sn.1;omega
 have hwl:=sw.1
 have hwl2:∀ x∈ws,x.length<=2097152:=fun x hx=>(sw.2 x hx).1
 have hB0:=Blk.new w [.int .i64 k,.slice an n.length cn,.slice aw ws.length cw,.slice at_ ts.length ct] 30
 have kb:Only [] w (w.alloc (.cells #[.int .i64 k,.slice an n.length cn,.slice aw ws.length cw,.slice at_ ts.length ct] 30)):=zO.alloc _
 have kb2:Only [] w ((w.alloc (.cells #[.int .i64 k,.slice an n.length cn,.slice aw ws.length cw,.slice at_ ts.length ct] 30)).alloc (.cells #[.int .i64 0,.slice none 0 0,.slice none 0 0,.slice none 0 0] 30)):=kb.alloc _
 have hB1:=hB0.keep ((Only.refl [] _).alloc (.cells #[.int .i64 0,.slice none 0 0,.slice none 0 0,.slice none 0 0] 30))
 have hR:=Blk.new (w.alloc (.cells #[.int .i64 k,.slice an n.length cn,.slice aw ws.length cw,.slice at_ ts.length ct] 30)) [.int .i64 0,.slice none 0 0,.slice none 0 0,.slice none 0 0] 30
 have hn2:=zK hn kb2
 have Iw2:=Iw.kept kb2
 have It2:=It.kept kb2
 have Hs:Hid (((w.alloc (.cells #[.int .i64 k,.slice an n.length cn,.slice aw ws.length cw,.slice at_ ts.length ct] 30)).alloc (.cells #[.int .i64 0,.slice none 0 0,.slice none 0 0,.slice none 0 0] 30)).heap.size = w.heap.size + 2):=zH (by simp)
 have Hs1:Hid ((w.alloc (.cells #[.int .i64 k,.slice an n.length cn,.slice aw ws.length cw,.slice at_ ts.length ct] 30)).heap.size = w.heap.size + 1):=zH (by simp)
 rw [Hs1.out] at hR
 obtain ⟨W1,hW1⟩:∃ W,W = ((w.alloc (.cells #[.int .i64 k,.slice an n.length cn,.slice aw ws.length cw,.slice at_ ts.length ct] 30)).alloc (.cells #[.int .i64 0,.slice none 0 0,.slice none 0 0,.slice none 0 0] 30)):=⟨_,rfl⟩
 go_enter Tryz.func41,Tryz.ntmps41
 go_upto_region 1 with fail
 rw [<- hW1] at hB1 hR hn2 Iw2 It2 Hs kb2 ⊢
 have hs1:W1.heap.size = w.heap.size + 2:=Hs.out
 clear hB0 kb hW1 hn hw ht Iw It Hs Hs1
 obtain ⟨x0,x1,x2,x3⟩:=hB1.c4
 obtain ⟨z0,z1,z2,z3⟩:=hR.c4
 have zf:=hR.frozen
 have It2':=zH It2
 have Iw2':=zH Iw2
 have Hn2:=zH hn2
 clear It2 Iw2 hn2
 go_region_law (first
  | (go_simp;first
  | (go_at_call 77;(with_reducible refine (Zgv (.slice an n.length cn) n _ _ (zK Hn2.out zC) hnl).mono ?_);rintro en w3 ⟨v3,rfl,hA3,K3⟩;obtain ⟨a3,c3,rfl⟩:=hA3.form;have K13:Only [] W1 w3:=Only.trans zC K3;have hB3:=hB1.keep K13;obtain ⟨x03,x13,x23,x33⟩:=hB3.c4;have hR3:=hR.keep K13;have HA3:=zH hA3;clear hA3)
  | (go_at_call 82;(with_reducible refine (Zoz aw cw ws obw fpw _ (SeqA.kept Iw2'.out zC) hwl hwl2).mono ?_);rintro en w4 ⟨v4,f4,rfl,hA4,hF4,K4⟩;obtain ⟨a4,n4,c4,rfl⟩:∃ a n c,v4 = Value.slice a n c:=(let ⟨a,c,hh⟩:=hA4.form;⟨a,_,c,hh⟩);have K34:Only [] w3 w4:=Only.trans zC K4;have hB4:=hB3.keep K34;obtain ⟨x04,x14,x24,x34⟩:=hB4.c4;have hR4:=hR3.keep K34;have HA4:=zH hA4;have HF4:=zH hF4;clear hA4 hF4)
  | (go_at_call 79;(with_reducible refine (Zmo at_ ct ts obt fpt _ (SeqA.kept It2'.out zC) st).mono ?_);rintro en w5 ⟨v5,f5,rfl,hA5,hF5,K5⟩;obtain ⟨a5,n5,c5,rfl⟩:∃ a n c,v5 = Value.slice a n c:=(let ⟨a,c,hh⟩:=hA5.form;⟨a,_,c,hh⟩);have K45:Only [] w4 w5:=Only.trans zC K5;have hB5:=hB4.keep K45;obtain ⟨x05,x15,x25,x35⟩:=hB5.c4;have hR5:=hR4.keep K45;obtain ⟨z05,z15,z25,z35⟩:=hR5.c4;have zf5:=hR5.frozen;have HA5:=zH hA5;have HF5:=zH hF5;clear hA5 hF5))
  | fail)
 all_goals
  go_wp2
  have hs13:W1.heap.size<=w3.heap.size:=K13.size
  have hs34:w3.heap.size<=w4.heap.size:=K34.size
  have CA0:CAcc W1.heap.size w5 (.slice a3 n.length c3) (.slice a4 n4 c4) (.slice a5 n5 c5) n (ws.map OwnI.mk) ts f4 f5 w3.heap.size w4.heap.size:=
   ⟨(
    HA3.out.keep (K34.trans K45)).low2 (by first | omega | simp),fun b hb=>(HA3.out.ownlt b (by simpa using hb)).2,(HA4.out.keep K45).low3 (by first | omega | simp),(HF4.out.keep K45).mono (by first | omega | simp),fun b hb=>by
    rcases List.mem_append.1 hb with hb | hb
    ·exact (HA4.out.ownlt b (by simpa using hb)).2
    ·exact HF4.out.lt b hb,HA5.out.low3 (by first | omega | simp),HF5.out.mono (by first | omega | simp),hs13,hs34⟩
  have kst:Only [w.heap.size + 1] w5 ((((w5.setCell ⟨w.heap.size + 1,0,none⟩ (.int .i64 k)).setCell ⟨w.heap.size + 1,1,none⟩ (.slice a3 n.length c3)).setCell ⟨w.heap.size + 1,2,none⟩ (.slice a4 n4 c4)).setCell ⟨w.heap.size + 1,3,none⟩ (.slice a5 n5 c5)):=(((zO.setCell (by simp) _).setCell (by simp) _).setCell (by simp) _).setCell (by simp) _
  have Zf:=(((hR5.set 0 (.int .i64 k)).set 1 (.slice a3 n.length c3)).set 2 (.slice a4 n4 c4)).set 3 (.slice a5 n5 c5)
  obtain ⟨q0,q1,q2,q3⟩:=Zf.c4
  have CA1:=(CA0.only kst (fun b hb=>by simp at hb;omega)).low (B':=w.heap.size) (by omega)
  exact bodyPost_ret (v:=.agg #[.int .i64 k,.slice a3 n.length c3,.slice a4 n4 c4,.slice a5 n5 c5]) (by simp [results,Tryz.results41,go_sem,q0,q1,q2,q3]) rfl ⟨_,_,_,_,_,_,_,rfl,CA1,(((kb2.trans K13).trans K34).trans K45).then_ kst (fun b hb hl=>by simp at hb;omega)⟩
theorem Zis {w:World} {cs:List Value} {c:Certificate} {f:List Nat} (h:Rp.rep w cs c f):∃ A1 n1 C1 A2 n2 C2 A3 n3 C3,cs = [.int .i64 c.kind,.slice A1 n1 C1,.slice A2 n2 C2,.slice A3 n3 C3]:=by
 obtain ⟨v1,v2,v3,f1,f2,f3,rfl,-,-,h1,h2,h3⟩:=h
 obtain ⟨A1,C1,_,_,rfl,-,-⟩:=h1.open_
 obtain ⟨A2,C2,_,_,rfl,-,-⟩:=h2.open_
 obtain ⟨A3,C3,_,_,rfl,-,-⟩:=h3.open_
 exact ⟨A1,_,C1,A2,_,C2,A3,_,C3,rfl⟩
theorem sm_no:Sm.sm noCert:=⟨⟨by decide,by simp [noCert]⟩,⟨by decide,by simp [noCert]⟩,⟨by decide,by simp [noCert]⟩⟩
theorem sm_un:Sm.sm unCert:=⟨⟨by decide,by simp [unCert]⟩,⟨by decide,by simp [unCert]⟩,⟨by decide,by simp [unCert]⟩⟩
theorem sm_ints {l:List Int} (h:l.length<=2097152):Sm.sm l:=⟨h,fun _ _=>trivial⟩
theorem sm_nil {α:Type} [Sm α]:Sm.sm ([]:List α):=⟨by simp,by simp⟩
theorem sm_sol (l:List Int):Sm.sm (solCert l):=by
 unfold solCert
 split
 ·rename_i h
  have:=Zdk h
  exact ⟨sm_nil,⟨by simp,fun y hy=>by rw [List.mem_singleton.1 hy];exact sm_ints (by omega)⟩,sm_nil⟩
 ·exact sm_no
theorem sm_lb (b:Int) {L:List Table} (hL:Sm.sm L):Sm.sm (lbCert b L):=by
 unfold lbCert
 split
 ·exact ⟨sm_ints (by simp),sm_nil,hL⟩
 ·exact sm_no
theorem sm_op (x:List Int) {L:List Table} (hL:Sm.sm L):Sm.sm (opCert x L):=by
 unfold opCert
 split
 ·rename_i h
  have:=Zdk h.1
  exact ⟨sm_nil,⟨by simp,fun y hy=>by rw [List.mem_singleton.1 hy];exact sm_ints (by omega)⟩,hL⟩
 ·exact sm_no
theorem tl_sol (l:List Int):(solCert l).tables.length<=500:=by unfold solCert;split <;> simp
theorem tl_lb (b:Int) {L:List Table} (h:L.length<=500):(lbCert b L).tables.length<=500:=by unfold lbCert;split <;> simp [noCert,h]
theorem tl_op (x:List Int) {L:List Table} (h:L.length<=500):(opCert x L).tables.length<=500:=by unfold opCert;split <;> simp [noCert,h]
def CSm (K:Nat) (c:Certificate):Prop:=Sm.sm c/\c.numbers.length<=K/\c.words.length<=K/\(∀ y∈c.words,y.length<=K)/\c.tables.length<=K
theorem CSm.mono {c:Certificate} (h:CSm 500 c):CSm 1000 c:=⟨h.1,by have:=h.2.1;omega,by have:=h.2.2.1;omega,fun y hy=>by have:=h.2.2.2.1 y hy;omega,by have:=h.2.2.2.2;omega⟩
theorem csm_no:CSm 500 noCert:=⟨sm_no,by simp [noCert],by simp [noCert],by simp [noCert],by simp [noCert]⟩
theorem csm_un:CSm 500 unCert:=⟨sm_un,by simp [unCert],by simp [unCert],by simp [unCert],by simp [unCert]⟩
theorem csm_sol (l:List Int):CSm 500 (solCert l):=by
 refine ⟨sm_sol l,?_,?_,?_,tl_sol l⟩ <;> unfold solCert <;> split <;> try simp
 rename_i h
 have:=Zdk h
 omega
theorem csm_lb (b:Int) {L:List Table} (hL:Sm.sm L) (h:L.length<=500):CSm 500 (lbCert b L):=by
 refine ⟨sm_lb b hL,?_,?_,?_,tl_lb b h⟩ <;> unfold lbCert <;> split <;> simp [noCert]
theorem csm_op (x:List Int) {L:List Table} (hL:Sm.sm L) (h:L.length<=500):CSm 500 (opCert x L):=by
 refine ⟨sm_op x hL,?_,?_,?_,tl_op x h⟩ <;> unfold opCert <;> split <;> try simp [noCert]
 rename_i h
 have:=Zdk h.1
 omega
theorem csm_sd (x:Puzzle) (s:List Int):CSm 500 (sdCert x s):=by
 rcases h1:stateB x s
 ·rw [(sol_a h1).2];exact csm_no
 ·rcases h2:reachB x s
  ·rw [(sol_b h1 h2).2];exact csm_un
  ·rcases h3:optX x s with _ | wd
   ·rw [(sol_c h1 h2 h3).2];exact csm_no
   ·obtain ⟨t,h4,-,h6⟩:=sol_d h1 h2 h3
    rw [h6];exact csm_op wd (expl_sm h4) (by simp)
theorem csm_n {k k':Int} {n n':List Int} {ws:List (List Int)} {ts:List Table} (h:CSm 500 ⟨k,n,ws,ts⟩) (hn:n'.length<=501):CSm 1000 ⟨k',n',ws,ts⟩:=by
 obtain ⟨⟨a1,a2,a3⟩,h2,h3,h4,h5⟩:=h
 simp only at h2 h3 h4 h5
 exact ⟨⟨sm_ints (by show n'.length<=2097152;omega),a2,a3⟩,by show n'.length<=1000;omega,by show ws.length<=1000;omega,fun y hy=>by have:=h4 y hy;omega,by show ts.length<=1000;omega⟩
theorem csm_w {k:Int} {n:List Int} {ws ws':List (List Int)} {ts:List Table} (h:CSm 500 ⟨k,n,ws,ts⟩) (hw:ws'.length<=501) (hy:∀ y∈ws',y.length<=501):CSm 1000 ⟨k,n,ws',ts⟩:=by
 obtain ⟨⟨a1,a2,a3⟩,h2,h3,h4,h5⟩:=h
 simp only at h2 h3 h4 h5
 exact ⟨⟨a1,⟨by show ws'.length<=2097152;omega,fun y hm=>sm_ints (by have:=hy y hm;omega)⟩,a3⟩,by show n.length<=1000;omega,by show ws'.length<=1000;omega,fun y hm=>by have:=hy y hm;omega,by show ts.length<=1000;omega⟩
theorem csm_t {k:Int} {n:List Int} {ws:List (List Int)} {ts L:List Table} (h:CSm 500 ⟨k,n,ws,ts⟩) (hL:L.length<=4) (hs:Sm.sm L):CSm 1000 ⟨k,n,ws,ts ++ L⟩:=by
 obtain ⟨⟨a1,a2,a3⟩,h2,h3,h4,h5⟩:=h
 simp only at h2 h3 h4 h5
 have hl:(ts ++ L).length<=504:=by rw [List.length_append];omega
 exact ⟨⟨a1,a2,⟨by show (ts ++ L).length<=2097152;omega,fun t ht=>by
  rcases List.mem_append.1 ht with ht | ht
  ·exact a3.2 t ht
  ·exact hs.2 t ht⟩⟩,by show n.length<=1000;omega,by show ws.length<=1000;omega,fun y hm=>by have:=h4 y hm;omega,by show (ts ++ L).length<=1000;omega⟩
section
variable {B:Nat} {V w9:World} {vn vw vt v9:Value} {n n':List Int} {ws:List OwnI} {ws':List (List Int)} {ts ts':List Table} {fw ft:List (List Nat)} {B1 B2:Nat} {F f9:List Nat} {k:Int}
theorem CAcc.setN (hk:I64 k) (h:CAcc B V vn vw vt n ws ts fw ft B1 B2) (hr:Rd w9 v9 n' v9.ownBlock.toList) (hO:Only vn.ownBlock.toList V w9) (hN:v9.ownBlock = vn.ownBlock\/v9.ownBlock = some V.heap.size) (hB:B<=V.heap.size) :
  ∃ f,Rp.rep w9 [.int .i64 k,v9,vw,vt] (⟨k,n',ws.map OwnI.l,ts⟩:Certificate) f/\∀ b∈f,B<=b:=by
 have h0:=h.b0;have h1:=h.b1
 refine ⟨_,⟨v9,vw,vt,_,_,_,rfl,rfl,hk,hr,Rp.only h.rw_ hO fun b hb hm=>?_,Rp.only h.rt hO fun b hb hm=>?_⟩,fun b hb=>?_⟩
 ·have:=h.nge b hm;have:=h.wge b hb;omega
 ·have:=h.nge b hm;have:=h.tge b hb;omega
 ·rcases List.mem_append.1 hb with hb | hb
  ·have hb2:v9.ownBlock = some b:=by simpa using hb
   rcases hN with e | e
   ·exact (h.nge b (by rw [<- e];exact hb)).1
   ·rw [e] at hb2;injection hb2 with hb2;omega
  ·rcases List.mem_append.1 hb with hb | hb
   ·have:=h.wge b hb;omega
   ·have:=h.tge b hb;omega
theorem CAcc.setW (hk:I64 k) (h:CAcc B V vn vw vt n ws ts fw ft B1 B2) (hr:Rd w9 v9 ws' f9) (hO:Only F V w9) (hF:∀ b∈F,b∈vw.ownBlock.toList ++ fw.flatten) (h9:∀ b∈f9,B<=b) :
  ∃ f,Rp.rep w9 [.int .i64 k,vn,v9,vt] (⟨k,n,ws',ts⟩:Certificate) f/\∀ b∈f,B<=b:=by
 have h0:=h.b0;have h1:=h.b1
 refine ⟨_,⟨vn,v9,vt,_,_,_,rfl,rfl,hk,Rp.only h.rn hO fun b hb hm=>?_,hr,Rp.only h.rt hO fun b hb hm=>?_⟩,fun b hb=>?_⟩
 ·have:=h.nge b hb;have:=h.wge b (hF b hm);omega
 ·have:=h.wge b (hF b hm);have:=h.tge b hb;omega
 ·rcases List.mem_append.1 hb with hb | hb
  ·exact (h.nge b hb).1
  ·rcases List.mem_append.1 hb with hb | hb
   ·exact h9 b hb
   ·have:=h.tge b hb;omega
theorem CAcc.setT (hk:I64 k) (h:CAcc B V vn vw vt n ws ts fw ft B1 B2) (hr:Rd w9 v9 ts' f9) (hO:Only F V w9) (hF:∀ b∈F,b∈vt.ownBlock.toList ++ ft.flatten) (h9:∀ b∈f9,B<=b) :
  ∃ f,Rp.rep w9 [.int .i64 k,vn,vw,v9] (⟨k,n,ws.map OwnI.l,ts'⟩:Certificate) f/\∀ b∈f,B<=b:=by
 have h0:=h.b0;have h1:=h.b1
 refine ⟨_,⟨vn,vw,v9,_,_,_,rfl,rfl,hk,Rp.only h.rn hO fun b hb hm=>?_,Rp.only h.rw_ hO fun b hb hm=>?_,hr⟩,fun b hb=>?_⟩
 ·have:=h.nge b hb;have:=h.tge b (hF b hm);omega
 ·have:=h.wge b hb;have:=h.tge b (hF b hm);omega
 ·rcases List.mem_append.1 hb with hb | hb
  ·exact (h.nge b hb).1
  ·rcases List.mem_append.1 hb with hb | hb
   ·have:=h.wge b hb;omega
   ·exact h9 b hb
end
theorem Blk.set4 {V:World} {b:Nat} {x0 x1 x2 x3:Value} (h:Blk V b [x0,x1,x2,x3]) (y0 y1 y2 y3:Value):Blk ((((V.setCell ⟨b,0,none⟩ y0).setCell ⟨b,1,none⟩ y1).setCell ⟨b,2,none⟩ y2).setCell ⟨b,3,none⟩ y3) b [y0,y1,y2,y3]:=(((h.set 0 y0).set 1 y1).set 2 y2).set 3 y3
theorem Zdb (V:World) (b:Nat) (y0 y1 y2 y3:Value):Only [b] V ((((V.setCell ⟨b,0,none⟩ y0).setCell ⟨b,1,none⟩ y1).setCell ⟨b,2,none⟩ y2).setCell ⟨b,3,none⟩ y3):=(((zO.setCell (by simp) _).setCell (by simp) _).setCell (by simp) _).setCell (by simp) _
structure DCt (w:World) (g:Nat) (fc:List Nat) (l:List UInt8) (ps:List Value) (V:World):Prop where
 bx:Blk V w.heap.size ps
 rs:Blk V (w.heap.size + 1) [.int .i64 0,.slice none 0 0,.slice none 0 0,.slice none 0 0]
 sr:Src V g fc l
 on:Only [g] w V
 sz:w.heap.size + 3<=V.heap.size
structure DCg (w:World) (g:Nat) (fc:List Nat):Prop where
 g:g < w.heap.size
 fc:∀ b∈fc,b < w.heap.size
section
variable {w:World} {g:Nat} {fc:List Nat} {l:List UInt8} {ps:List Value} {V V':World}
theorem DCt.step (h:DCt w g fc l ps V) (hg:DCg w g fc) (ho:Only [g] V V') (hs:Src V' g fc l):DCt w g fc l ps V':=
 have hgl:=hg.g
 ⟨h.bx.only ho (by simp;omega),h.rs.only ho (by simp;omega),hs,h.on.trans ho,Nat.le_trans h.sz ho.size⟩
theorem DCt.low {fp:List Nat} (h:DCt w g fc l ps V) (hg:DCg w g fc) (ho:Only fp V V') (hf:∀ b∈fp,w.heap.size + 2<=b):DCt w g fc l ps V':=by
 have hgl:=hg.g
 exact ⟨h.bx.only ho (fun hm=>by have:=hf _ hm;omega),h.rs.only ho (fun hm=>by have:=hf _ hm;omega),h.sr.only ho (fun hm=>by have:=hf _ hm;omega) (fun b hb hm=>by have:=hf b hm;have:=hg.fc b hb;omega),h.on.then_ ho (fun b hb hl=>by have:=hf b hb;omega),Nat.le_trans h.sz ho.size⟩
theorem DCt.keep (h:DCt w g fc l ps V) (hg:DCg w g fc) (ho:Only [] V V'):DCt w g fc l ps V':=h.low hg ho (by simp)
end
def DCX (K:Nat) (w:World) (V:World):Prop:=
 ∃ (c:Certificate) (A1:Option Addr) (n1 C1:Nat) (A2:Option Addr) (n2 C2:Nat) (A3:Option Addr) (n3 C3:Nat) (f:List Nat),Blk V (w.heap.size + 2) [.int .i64 c.kind,.slice A1 n1 C1,.slice A2 n2 C2,.slice A3 n3 C3]/\Rp.rep V [.int .i64 c.kind,.slice A1 n1 C1,.slice A2 n2 C2,.slice A3 n3 C3] c f/\(∀ b∈f,w.heap.size + 3<=b)/\CSm K c
def DCF (K:Nat) (w:World) (g:Nat) (fc:List Nat) (l:List UInt8) (ps:List Value) (V:World):Prop:=DCt w g fc l ps V/\DCX K w V
section
variable {w:World} {g:Nat} {fc:List Nat} {l:List UInt8} {ps:List Value} {V:World} {c:Certificate} {k:Int} {A1 A2 A3:Option Addr} {n1 n2 n3 C1 C2 C3:Nat} {f:List Nat} {x0 x1 x2 x3:Value} {K:Nat}
theorem DCF.store (h:DCt w g fc l ps V) (hg:DCg w g fc) (hB:Blk V (w.heap.size + 2) [x0,x1,x2,x3]) (hr:Rp.rep V [.int .i64 c.kind,.slice A1 n1 C1,.slice A2 n2 C2,.slice A3 n3 C3] c f) (hf:∀ b∈f,w.heap.size + 3<=b) (hs:CSm K c) :
  DCF K w g fc l ps ((((V.setCell ⟨w.heap.size + 2,0,none⟩ (.int .i64 c.kind)).setCell ⟨w.heap.size + 2,1,none⟩ (.slice A1 n1 C1)).setCell ⟨w.heap.size + 2,2,none⟩ (.slice A2 n2 C2)).setCell ⟨w.heap.size + 2,3,none⟩ (.slice A3 n3 C3)):=by
 have kst:=Zdb V (w.heap.size + 2) (.int .i64 c.kind) (.slice A1 n1 C1) (.slice A2 n2 C2) (.slice A3 n3 C3)
 exact ⟨h.low hg kst (fun b hb=>by simp at hb;omega),c,A1,n1,C1,A2,n2,C2,A3,n3,C3,f,hB.set4 _ _ _ _,Rp.only hr kst (fun b hb hm=>by have:=hf b hb;simp at hm;omega),hf,hs⟩
theorem DCF.fld (h:DCt w g fc l ps V) (hg:DCg w g fc) (hB:Blk V (w.heap.size + 2) [x0,x1,x2,x3]) (j:Nat) (y:Value) (he:[x0,x1,x2,x3].set j y = [.int .i64 c.kind,.slice A1 n1 C1,.slice A2 n2 C2,.slice A3 n3 C3]) (hr:Rp.rep V [.int .i64 c.kind,.slice A1 n1 C1,.slice A2 n2 C2,.slice A3 n3 C3] c f) (hf:∀ b∈f,w.heap.size + 3<=b) (hs:CSm K c) :
  DCF K w g fc l ps (V.setCell ⟨w.heap.size + 2,j,none⟩ y):=by
 have kst:Only [w.heap.size + 2] V (V.setCell ⟨w.heap.size + 2,j,none⟩ y):=zO.setCell (by simp) _
 have hb:=hB.set j y
 rw [he] at hb
 exact ⟨h.low hg kst (fun b hb=>by simp at hb;omega),c,A1,n1,C1,A2,n2,C2,A3,n3,C3,f,hb,Rp.only hr kst (fun b hb hm=>by have:=hf b hb;simp at hm;omega),hf,hs⟩
theorem DCX.keep {V':World} (h:DCX K w V) (hg:DCg w g fc) (ho:Only [g] V V'):DCX K w V':=by
 have hgl:=hg.g
 obtain ⟨c,A1,n1,C1,A2,n2,C2,A3,n3,C3,f,hB,hr,hf,hs⟩:=h
 exact ⟨c,A1,n1,C1,A2,n2,C2,A3,n3,C3,f,hB.only ho (by simp;omega),Rp.only hr ho (fun b hb hm=>by have:=hf b hb;simp at hm;omega),hf,hs⟩
end
theorem DCt.fin {w:World} {g:Nat} {fc:List Nat} {l:List UInt8} {ps:List Value} {V w9:World} {F:List Nat} {xs:List Value} (h:DCt w g fc l ps V) (hg:DCg w g fc) (hO:Only F V w9) (hF:∀ b∈F,w.heap.size + 3<=b) (X:Blk V (w.heap.size + 2) xs):DCt w g fc l ps w9/\Blk w9 (w.heap.size + 2) xs:=
 ⟨h.low hg hO (fun b hb=>by have:=hF b hb;omega),X.only hO (fun hm=>by have:=hF _ hm;omega)⟩
def DCR (w:World) (g:Nat) (fc:List Nat) (l:List UInt8) (e:Ending) (w':World):Prop:=
 ∃ (c:Certificate) (A1:Option Addr) (n1 C1:Nat) (A2:Option Addr) (n2 C2:Nat) (A3:Option Addr) (n3 C3:Nat) (f:List Nat),e = .returned (.agg #[.int .i64 c.kind,.slice A1 n1 C1,.slice A2 n2 C2,.slice A3 n3 C3])/\Rp.rep w' [.int .i64 c.kind,.slice A1 n1 C1,.slice A2 n2 C2,.slice A3 n3 C3] c f/\(∀ b∈f,w.heap.size<=b)/\CSm 1000 c/\Src w' g fc l/\Only [g] w w'
theorem DCR.mk {w:World} {g:Nat} {fc:List Nat} {l:List UInt8} {ps:List Value} {V:World} {c:Certificate} {A1 A2 A3:Option Addr} {n1 n2 n3 C1 C2 C3:Nat} {f:List Nat} (h:DCt w g fc l ps V) (hg:DCg w g fc) (hr:Rp.rep V [.int .i64 c.kind,.slice A1 n1 C1,.slice A2 n2 C2,.slice A3 n3 C3] c f) (hf:∀ b∈f,w.heap.size + 3<=b) (hs:CSm 1000 c) :
  DCR w g fc l (.returned (.agg #[.int .i64 c.kind,.slice A1 n1 C1,.slice A2 n2 C2,.slice A3 n3 C3])) ((((V.setCell ⟨w.heap.size + 1,0,none⟩ (.int .i64 c.kind)).setCell ⟨w.heap.size + 1,1,none⟩ (.slice A1 n1 C1)).setCell ⟨w.heap.size + 1,2,none⟩ (.slice A2 n2 C2)).setCell ⟨w.heap.size + 1,3,none⟩ (.slice A3 n3 C3)):=by
 have hgl:=hg.g
 have kst:=Zdb V (w.heap.size + 1) (.int .i64 c.kind) (.slice A1 n1 C1) (.slice A2 n2 C2) (.slice A3 n3 C3)
 exact ⟨c,A1,n1,C1,A2,n2,C2,A3,n3,C3,f,rfl,Rp.only hr kst (fun b hb hm=>by have:=hf b hb;simp at hm;omega),fun b hb=>by have:=hf b hb;omega,hs,h.sr.only kst (by simp;omega) (fun b hb hm=>by have:=hg.fc b hb;simp at hm;omega),h.on.then_ kst (fun b hb hl=>by simp at hb;omega)⟩
end Go.Proofs.YtjfmkolnleicnaaGreatDoor
