/- States and reachable states: the reference's and the program's functions. -/
import Derived.Test.YtjfmkolnleicnaaGreatDoorRowAcceptedClaimsG7
import Derived.Test.YtjfmkolnleicnaaGreatDoorRowAcceptedClaimsG2
import Derived.Test.YtjfmkolnleicnaaGreatDoorRowAcceptedClaimsG1
import Derived.Test.YtjfmkolnleicnaaGreatDoorRowAcceptedClaimsG3
import Derived.Deep.RegionHeld3
import Derived.Deep.DeepCutAuto
import Derived.StillTailTactics
import Derived.Deep.RegionLaw
import Derived.BigQuiet
namespace Go.Proofs.YtjfmkolnleicnaaGreatDoor
open Go.RowKit
set_option maxRecDepth 10000
open Classical in
noncomputable def memB (n:Nat) (gens:List (List Int)) (p:List Int):Bool:=decide (PM.Grp n gens p)
def stateB (x:Puzzle) (s:List Int):Bool:=validPz x && genB x.points s
noncomputable def reachB (x:Puzzle) (s:List Int):Bool:=stateB x s && memB x.points.toNat x.moves s
theorem Zcl {n:Int} {gens:List (List Int)}:gensB n gens = true ↔ (1<=n/\n<=20)/\gens.length<=8/\∀ g∈gens,PM.PN n.toNat g:=by
 unfold gensB
 rw [Bool.and_eq_true,Bool.and_eq_true,inR_iff,decide_eq_true_iff,List.all_eq_true]
 constructor
 ·rintro ⟨⟨h1,h2⟩,h3⟩
  refine ⟨h1,h2,fun g hg=>?_⟩
  have h:=h3 g hg
  unfold genB at h
  rw [Bool.and_eq_true,decide_eq_true_iff,Zce] at h
  exact ⟨by omega,h.2.2⟩
 ·rintro ⟨h1,h2,h3⟩
  refine ⟨⟨h1,h2⟩,fun g hg=>?_⟩
  obtain ⟨h4,h5⟩:=h3 g hg
  unfold genB
  rw [Bool.and_eq_true,decide_eq_true_iff,Zce]
  exact ⟨by omega,⟨by omega,by omega⟩,h5⟩
theorem Zdq {n:Int} {g:List Int} (h0:1<=n) (h1:n<=20):genB n g = true ↔ PM.PN n.toNat g:=by
 unfold genB
 rw [Bool.and_eq_true,decide_eq_true_iff,Zce]
 constructor
 ·rintro ⟨h2,-,h3⟩;exact ⟨by omega,h3⟩
 ·rintro ⟨h2,h3⟩;exact ⟨by omega,⟨by omega,by omega⟩,h3⟩
theorem Zcv {x:Puzzle} (h:validPz x = true):gensB x.points x.moves = true:=by
 unfold validPz at h
 rw [Bool.and_eq_true] at h
 exact h.1
theorem Zav {x:Puzzle} {s:List Int} (h:stateB x s = true):(1<=x.points/\x.points<=20)/\x.moves.length<=8/\(∀ g∈x.moves,PM.PN x.points.toNat g)/\PM.PN x.points.toNat s:=by
 unfold stateB at h
 rw [Bool.and_eq_true] at h
 obtain ⟨a,b,c⟩:=Zcl.1 (Zcv h.1)
 exact ⟨a,b,c,(Zdq a.1 a.2).1 h.2⟩
theorem Zpy {x:Puzzle} {s:List Int} (h:reachB x s = true):stateB x s = true:=by
 unfold reachB at h
 rw [Bool.and_eq_true] at h;exact h.1
theorem Zdc {x:Puzzle} {s:List Int} (h:stateB x s = true):validPz x = true:=by
 unfold stateB at h
 rw [Bool.and_eq_true] at h;exact h.1
set_option maxHeartbeats 1000000 in
theorem Zrw (n:Int) (v:Value) (s:List Int) (fp:List Nat) (w:World) (h:Rd w v s fp) :
  Calls Tryz.prog 53 #[.int .i64 n,v] w fun e w'=>e = .returned (.bool (genB n s))/\Drew w w':=by
 obtain ⟨a,cap,rfl,hI⟩:=h.ints
 have hb:=hI.bound
 by_cases c1:(s.length:Int) = n
 ·have d1:((s.length:Int) == n) = true:=by simp [c1]
  have hg:genB n s = permB s:=by simp [genB,c1]
  have Hg:=zH hg;clear hg c1
  go_enter Tryz.func53,Tryz.ntmps53
  go_wp2_with ((go_at_call 96;(with_reducible refine (Zbl _ s fp _ h).mono ?_);rintro e w1 ⟨rfl,t1⟩))
  go_ret
  exact ⟨Zaa Hg.out.symm,t1⟩
 ·have d1:((s.length:Int) == n) = false:=by simp [c1]
  have hg:genB n s = false:=by simp [genB,c1]
  have Hg:=zH hg;clear hg c1
  go_enter Tryz.func53,Tryz.ntmps53
  go_wp2
  go_ret
  exact ⟨Zaa Hg.out.symm,Drew.refl _⟩
set_option maxHeartbeats 1000000 in
theorem Zag (cs:List Value) (x:Puzzle) (fp:List Nat) (v:Value) (s:List Int) (fs:List Nat) (w:World) (h:Rp.rep w cs x fp) (hs:Rd w v s fs) :
  Calls Tryz.prog 23 #[.agg cs.toArray,v] w fun e w'=>e = .returned (.bool (stateB x s))/\Only [] w w':=by
 have h0:=h
 obtain ⟨v2,rfl,p0,p1,h2⟩:=h
 obtain ⟨A2,C2,ob,fps,rfl,-,-⟩:=h2.open_
 rcases hq:validPz x
 all_goals have hf:stateB x s = (validPz x && genB x.points s):=rfl
 all_goals rw [hq] at hf
 all_goals have Hf:=zH hf
 all_goals clear hf
 all_goals go_enter Tryz.func23,Tryz.ntmps23
 all_goals go_wp2_with (first | (go_at_call 25;(with_reducible refine (Zal [.int .i64 x.points,.string x.names,.slice A2 x.moves.length C2] x _ _ (zK h0 zA)).mono ?_);rintro e w1 ⟨rfl,t1⟩;have y1:=t1.cells_eq w.heap.size (by simp) (by simp)) | (go_at_call 53;(with_reducible refine (Zrw x.points _ s _ _ (zK hs zA)).mono ?_);rintro e w2 ⟨rfl,d2⟩;have t2:=d2.only []) | fail)
 all_goals go_ret
 all_goals exact ⟨Zaa Hf.out.symm,zA⟩
set_option maxHeartbeats 1000000 in
theorem Zcg (cs:List Value) (x:Puzzle) (fp:List Nat) (v:Value) (s:List Int) (fs:List Nat) (w:World) (h:Rp.rep w cs x fp) (hs:Rd w v s fs) :
  Calls Tryz.prog 45 #[.agg cs.toArray,v] w fun e w'=>e = .returned (.bool (genB x.points s))/\Only [] w w':=by
 have h0:=h
 obtain ⟨v2,rfl,p0,p1,h2⟩:=h
 obtain ⟨A2,C2,ob,fps,rfl,-,-⟩:=h2.open_
 by_cases c1:(s.length:Int) = x.points
 ·have d1:((s.length:Int) == x.points) = true:=by simp [c1]
  have hg:genB x.points s = permB s:=by simp [genB,c1]
  have Hg:=zH hg;clear hg c1
  go_enter Tryz.func45,Tryz.ntmps45
  go_wp2
  go_quiet (first
   | (go_at_call 20;exact Zbr (Zcx _ s fs _ (zK hs zA)))
   | (go_at_call 20;exact Zbb (Zcx _ s fs _ (zK hs zA)))
   | (go_at_call 85;exact Zbb (Zdo _ s fs _ (zK hs zA)))
   | (go_at_call 85;exact Zbr (Zdo _ s fs _ (zK hs zA))))
  go_wp2
  go_ret
  exact ⟨Zaa Hg.out.symm,zA⟩
 ·have d1:((s.length:Int) == x.points) = false:=by simp [c1]
  have hg:genB x.points s = false:=by simp [genB,c1]
  have Hg:=zH hg;clear hg c1
  go_enter Tryz.func45,Tryz.ntmps45
  go_wp2
  go_quiet (first
   | (go_at_call 20;exact Zbr (Zcx _ s fs _ (zK hs zA)))
   | (go_at_call 20;exact Zbb (Zcx _ s fs _ (zK hs zA))))
  go_wp2
  go_ret
  exact ⟨Zaa Hg.out.symm,zA⟩
set_option maxHeartbeats 1000000 in
theorem Zad (cs:List Value) (x:Puzzle) (fp:List Nat) (v:Value) (s:List Int) (fs:List Nat) (w:World) (h:Rp.rep w cs x fp) (hs:Rd w v s fs) :
  Calls Tryz.prog 17 #[.agg cs.toArray,v] w fun e w'=>e = .returned (.bool (stateB x s))/\Only [] w w':=by
 have h0:=h
 obtain ⟨v2,rfl,p0,p1,h2⟩:=h
 obtain ⟨A2,C2,ob,fps,rfl,-,-⟩:=h2.open_
 rcases hq:validPz x
 all_goals have hf:stateB x s = (validPz x && genB x.points s):=rfl
 all_goals rw [hq] at hf
 all_goals have Hf:=zH hf
 all_goals clear hf
 all_goals go_enter Tryz.func17,Tryz.ntmps17
 all_goals go_wp2_with (first | (go_at_call 44;(with_reducible refine (Zao [.int .i64 x.points,.string x.names,.slice A2 x.moves.length C2] x _ _ (zK h0 zA)).mono ?_);rintro e w1 ⟨rfl,t1⟩;have y1:=t1.cells_eq w.heap.size (by simp) (by simp)) | (go_at_call 45;(with_reducible refine (Zcg [.int .i64 x.points,.string x.names,.slice A2 x.moves.length C2] x _ _ s _ _ (zK h0 zA) (zK hs zA)).mono ?_);rintro e w2 ⟨rfl,t2⟩) | fail)
 all_goals go_ret
 all_goals exact ⟨Zaa Hf.out.symm,zA⟩
theorem specSift0 {e:TypeId} {B:Nat} {L:Lay} {gv:Nat->Value} {n:Nat} {G:PM.Gens} {T:PM.Rows} {M F:List Nat} {w:World} (hC:Ch e B w L gv n G T M F) (hw:PM.WF n T) (hT:L.oT = 1)
  {vp:Value} {p:List Int} {fp:List Nat} (hp:Rd w vp p fp) (pp:PM.PN n p) :
  Calls Tryz.prog 138 #[.pointer (some ⟨L.g,0,none⟩),.int .i64 0,vp] w fun e w'=>∃ (v:Value) (lv:Nat),e = .returned (.tuple #[v,.int .i64 lv])/\PM.has T n n p = decide (lv = n)/\Only [] w w':=
 Zgd w hC hw hT 0 vp p fp (Nat.zero_le _) hp pp
set_option maxHeartbeats 1000000 in
theorem Zqc {e:TypeId} {B:Nat} {L:Lay} {gv:Nat->Value} {n:Nat} {G:PM.Gens} {T:PM.Rows} {M F:List Nat} (w:World) (hC:Ch e B w L gv n G T M F) (hw:PM.WF n T) (hT:L.oT = 1)
  (vp:Value) (p:List Int) (fp:List Nat) (hp:Rd w vp p fp) (pp:PM.PN n p) :
  Calls Tryz.prog 107 #[.pointer (some ⟨L.g,0,none⟩),vp] w fun e w'=>e = .returned (.bool (PM.has T n n p))/\Only [] w w':=by
 have cn0:=hC.cn
 obtain ⟨ap,cp,rfl,-⟩:=hp.ints
 rcases hh:PM.has T n n p
 ·have Hh:=zH hh
  clear hh
  go_enter Tryz.func107,Tryz.ntmps107
  go_wp2_with (first | (go_at_call 138;(with_reducible refine (specSift0 hC hw hT hp pp).mono ?_);rintro en w1 ⟨v1,lv1,rfl,he,t1⟩;rw [Hh.out] at he;have hlv:lv1 ≠ n:=of_decide_eq_false he.symm;clear he;have hlv2:((lv1:Int) == (n:Int)) = false:=(by rw [beq_eq_false_iff_ne];omega);have cn1:=t1.cell (by simp) cn0) | fail)
  go_ret
  exact ⟨rfl,t1⟩
 ·have Hh:=zH hh
  clear hh
  go_enter Tryz.func107,Tryz.ntmps107
  go_wp2_with (first | (go_at_call 138;(with_reducible refine (specSift0 hC hw hT hp pp).mono ?_);rintro en w1 ⟨v1,lv1,rfl,he,t1⟩;rw [Hh.out] at he;have hlv:n = lv1:=(of_decide_eq_true he.symm).symm;clear he;subst hlv;have cn1:=t1.cell (by simp) cn0) | fail)
  go_ret
  exact ⟨rfl,t1⟩
theorem Zqz {n:Nat} {gens:List (List Int)} {G:PM.Gens} {T:PM.Rows} (h:PM.Chain n gens G T) (hn:0 < n) (hp:∀ g∈gens,PM.PN n g) {p:List Int} (hpn:PM.PN n p):PM.has T n n p = memB n gens p:=by
 rw [Bool.eq_iff_iff,h.has_iff hn hp hpn]
 unfold memB
 simp
set_option maxHeartbeats 1000000 in
theorem Zkv (n:Nat) (vg vp:Value) (gens:List (List Int)) (p:List Int) (fg fp:List Nat) (w:World) (hg:Rd w vg gens fg) (hp:Rd w vp p fp) (hgs:gensB n gens = true) (hpn:PM.PN n p) :
  Calls Tryz.prog 62 #[.int .i64 n,vg,vp] w fun e w'=>e = .returned (.bool (memB n gens p))/\Only [] w w':=by
 obtain ⟨h1,h2,h3⟩:=Zcl.1 hgs
 have hn:0 < n:=by omega
 have hn20:n<=20:=by omega
 have h3':∀ g∈gens,PM.PN n g:=fun g hg=>by simpa using h3 g hg
 have hpm:permB p = true:=Zce.2 ⟨by have:=hpn.1;omega,hpn.2⟩
 have hlen:((p.length:Int) == (n:Int)) = true:=by rw [beq_iff_eq];have:=hpn.1;omega
 obtain ⟨ap,cp,rfl,hIp⟩:=hp.ints
 have hb:=hIp.bound
 have Hgs:=zH hgs
 have Hpn:=zH hpn
 have H3:=zH h3'
 have Hpm:=zH hpm
 clear h1 h3 h3' hgs hpn hpm
 go_enter Tryz.func62,Tryz.ntmps62
 go_wp2_with (first
  | (go_at_call 57;(with_reducible refine (Zbz n vg gens fg _ (zK hg zA)).mono ?_);rintro en w1 ⟨he,d1⟩;rw [Hgs.out] at he;subst he;have t1:=d1.only [])
  | (go_at_call 96;(with_reducible refine (Zbl _ p fp _ (zK hp zA)).mono ?_);rintro en w2 ⟨he,d2⟩;rw [Hpm.out] at he;subst he;have t2:=d2.only [])
  | (go_at_call 60;(with_reducible refine (Zet n hn hn20 vg gens fg _ (zK hg zA) H3.out (by omega)).mono ?_);rintro en w3 ⟨L,gv,G,T,M,F,rfl,hoG,hoT,hC,hCh,t3⟩;have HC:=zH hC;have HCh:=zH hCh;have HoT:=zH hoT;clear hC hCh hoT hoG)
  | (go_at_call 107;(with_reducible refine (Zqc _ HC.out HCh.out.inv.wf HoT.out _ p fp (zK hp zA) Hpn.out).mono ?_);rintro en w4 ⟨he,t4⟩;rw [Zqz HCh.out hn H3.out Hpn.out] at he;subst he)
  | fail)
 go_ret
 exact ⟨rfl,zA⟩
theorem Zml (n:Int) (vg vp:Value) (gens:List (List Int)) (p:List Int) (fg fp:List Nat) (w:World) (hg:Rd w vg gens fg) (hp:Rd w vp p fp) (hgs:gensB n gens = true) (hpn:PM.PN n.toNat p) :
  Calls Tryz.prog 62 #[.int .i64 n,vg,vp] w fun e w'=>e = .returned (.bool (memB n.toNat gens p))/\Only [] w w':=by
 have h1:=(Zcl.1 hgs).1
 obtain ⟨m,rfl⟩:=Int.eq_ofNat_of_zero_le (by omega:0<=n)
 exact Zkv m vg vp gens p fg fp w hg hp hgs hpn
set_option maxHeartbeats 1000000 in
theorem Zat (cs:List Value) (x:Puzzle) (fp:List Nat) (v:Value) (s:List Int) (fs:List Nat) (w:World) (h:Rp.rep w cs x fp) (hs:Rd w v s fs) :
  Calls Tryz.prog 28 #[.agg cs.toArray,v] w fun e w'=>e = .returned (.bool (reachB x s))/\Only [] w w':=by
 have h0:=h
 obtain ⟨v2,rfl,p0,p1,h2⟩:=h
 obtain ⟨A2,C2,ob,fps,rfl,-,-⟩:=h2.open_
 rcases hq:stateB x s
 ·have hf:reachB x s = false:=by unfold reachB;rw [hq];rfl
  have Hf:=zH hf
  clear hf
  go_enter Tryz.func28,Tryz.ntmps28
  go_wp2_with (first
   | (go_at_call 23;(with_reducible refine (Zag [.int .i64 x.points,.string x.names,.slice A2 x.moves.length C2] x _ _ s _ _ (zK h0 zA) (zK hs zA)).mono ?_);rintro e w1 ⟨rfl,t1⟩;have y1:=t1.cells_eq w.heap.size (by simp) (by simp)) | fail)
  go_ret
  exact ⟨Zaa Hf.out.symm,zA⟩
 ·have hf:reachB x s = memB x.points.toNat x.moves s:=by unfold reachB;rw [hq];rfl
  have Hf:=zH hf
  have hgs:=Zcv (Zdc hq)
  have hpn:=(Zav hq).2.2.2
  have Hgs:=zH hgs
  have Hpn:=zH hpn
  clear hf hgs hpn
  go_enter Tryz.func28,Tryz.ntmps28
  go_wp2_with (first
   | (go_at_call 23;(with_reducible refine (Zag [.int .i64 x.points,.string x.names,.slice A2 x.moves.length C2] x _ _ s _ _ (zK h0 zA) (zK hs zA)).mono ?_);rintro e w1 ⟨rfl,t1⟩;have y1:=t1.cells_eq w.heap.size (by simp) (by simp))
   | (go_at_call 62;(with_reducible refine (Zml x.points _ _ x.moves s _ _ _ (zK h2 zA) (zK hs zA) Hgs.out Hpn.out).mono ?_);rintro e w2 ⟨rfl,t2⟩) | fail)
  go_ret
  exact ⟨Zaa Hf.out.symm,zA⟩
theorem implHas0 {e:TypeId} {B:Nat} {L:Lay} {gv:Nat->Value} {n:Nat} {G:PM.Gens} {T:PM.Rows} {M F:List Nat} {w:World} (hC:Ch e B w L gv n G T M F) (hw:PM.WF n T) (hT:L.oT = 2)
  {vp:Value} {p:List Int} {fp:List Nat} (hp:Rd w vp p fp) (pp:PM.PN n p) :
  Calls Tryz.prog 52 #[.pointer (some ⟨L.g,0,none⟩),.int .i64 0,vp] w fun e w'=>e = .returned (.bool (PM.has T n n p))/\Only [] w w':=
 Zew w hC hw hT 0 vp p fp (Nat.zero_le _) hp pp
theorem Zhh (n:Int) (hn:1<=n) (hn20:n<=20) (vg:Value) (gens:List (List Int)) (fpg:List Nat) (w:World) (hg:Rd w vg gens fpg) (hpn:∀ g∈gens,PM.PN n.toNat g) (hgl:gens.length<=1000) :
  Calls Tryz.prog 51 #[.int .i64 n,vg] w fun e w'=>∃ (L:Lay) (gv:Nat->Value) (G:PM.Gens) (T:PM.Rows) (M F:List Nat),e = .returned (.pointer (some ⟨L.g,0,none⟩))/\L.oG = 1/\L.oT = 2/\Ch 27 w.heap.size w' L gv n.toNat G T M F/\PM.Chain n.toNat gens G T/\Only [] w w':=by
 obtain ⟨m,rfl⟩:=Int.eq_ofNat_of_zero_le (by omega:0<=n)
 exact Zkr m (by omega) (by omega) vg gens fpg w hg hpn hgl
set_option maxHeartbeats 1000000 in
theorem Zaw (cs:List Value) (x:Puzzle) (fp:List Nat) (v:Value) (s:List Int) (fs:List Nat) (w:World) (h:Rp.rep w cs x fp) (hs:Rd w v s fs) :
  Calls Tryz.prog 22 #[.agg cs.toArray,v] w fun e w'=>e = .returned (.bool (reachB x s))/\Only [] w w':=by
 have h0:=h
 obtain ⟨v2,rfl,p0,p1,h2⟩:=h
 obtain ⟨A2,C2,ob,fps,rfl,-,-⟩:=h2.open_
 rcases hq:stateB x s
 ·have hf:reachB x s = false:=by unfold reachB;rw [hq];rfl
  have Hf:=zH hf
  clear hf
  go_enter Tryz.func22,Tryz.ntmps22
  go_wp2_with (first
   | (go_at_call 17;(with_reducible refine (Zad [.int .i64 x.points,.string x.names,.slice A2 x.moves.length C2] x _ _ s _ _ (zK h0 zA) (zK hs zA)).mono ?_);rintro e w1 ⟨rfl,t1⟩;have y1:=t1.cells_eq w.heap.size (by simp) (by simp)) | fail)
  go_ret
  exact ⟨Zaa Hf.out.symm,zA⟩
 ·have hf:reachB x s = memB x.points.toNat x.moves s:=by unfold reachB;rw [hq];rfl
  have Hf:=zH hf
  obtain ⟨⟨n1,n20⟩,hml,hmp,hpn⟩:=Zav hq
  have Hmp:=zH hmp
  have Hpn:=zH hpn
  clear hf hmp hpn
  go_enter Tryz.func22,Tryz.ntmps22
  go_wp2_with (first
   | (go_at_call 17;(with_reducible refine (Zad [.int .i64 x.points,.string x.names,.slice A2 x.moves.length C2] x _ _ s _ _ (zK h0 zA) (zK hs zA)).mono ?_);rintro e w1 ⟨rfl,t1⟩;have y1:=t1.cells_eq w.heap.size (by simp) (by simp))
   | (go_at_call 51;(with_reducible refine (Zhh x.points n1 n20 _ x.moves _ _ (zK h2 zA) Hmp.out (by omega)).mono ?_);rintro en w3 ⟨L,gv,G,T,M,F,rfl,hoG,hoT,hC,hCh,t3⟩;have HC:=zH hC;have HCh:=zH hCh;have HoT:=zH hoT;clear hC hCh hoT hoG)
   | (go_at_call 52;(with_reducible refine (implHas0 HC.out HCh.out.inv.wf HoT.out (zK hs zA) Hpn.out).mono ?_);rintro en w4 ⟨he,t4⟩;rw [Zqz HCh.out (by omega) Hmp.out Hpn.out] at he;subst he) | fail)
  go_ret
  exact ⟨Zaa Hf.out.symm,zA⟩
set_option maxHeartbeats 1000000 in
theorem Zgi (cs:List Value) (x:Puzzle) (fp:List Nat) (v:Value) (s:List Int) (fs:List Nat) (w:World) (h:Rp.rep w cs x fp) (hs:Rd w v s fs) (hm:x.moves.length<=4611686018427387904) :
  Calls Tryz.prog 46 #[.agg cs.toArray,v] w fun e w'=>e = .returned (.bool (validW x.moves.length s))/\Only [] w w':=by
 obtain ⟨v2,rfl,p0,p1,h2⟩:=h
 obtain ⟨A2,C2,ob,fps,rfl,-,-⟩:=h2.open_
 go_enter Tryz.func46,Tryz.ntmps46
 go_wp2_with (first
  | (go_at_call 87;(with_reducible refine (Zig _ x.moves _ _ (zK h2 zA)).mono ?_);rintro e w1 ⟨rfl,rfl⟩)
  | (go_at_call 86;(with_reducible refine (Znf x.moves.length _ s _ _ (zK hs zA) (by omega) (by omega)).mono ?_);rintro e w2 ⟨rfl,t2⟩)
  | fail)
 go_ret
 exact ⟨rfl,zA⟩
def evW (n:Nat) (gens:List (List Int)) (w:List Int):List Int:=w.foldl (fun p l=>PM.comp p (mv gens l)) (PM.pts n)
theorem evW_nil (n:Nat) (gens:List (List Int)):evW n gens [] = PM.pts n:=rfl
theorem Zde (n:Nat) (gens:List (List Int)) (w:List Int) (l:Int):evW n gens (w ++ [l]) = PM.comp (evW n gens w) (mv gens l):=by simp [evW]
theorem evW_pn {n:Nat} {gens:List (List Int)} (h:∀ g∈gens,PM.PN n g):∀ (w:List Int),(∀ l∈w,l∈ltrs gens.length)->PM.PN n (evW n gens w):=by
 intro w
 have:∀ (w:List Int) (p:List Int),PM.PN n p->(∀ l∈w,l∈ltrs gens.length)->PM.PN n (w.foldl (fun p l=>PM.comp p (mv gens l)) p):=by
  intro w
  induction w with
  | nil=>intro p hp _;exact hp
  | cons l w ih=>intro p hp hl;exact ih _ (hp.comp (mv_pn h (hl l (by simp)))) fun x hx=>hl x (by simp [hx])
 exact this w _ (PM.PN.id n)
theorem Zex {m:Nat} (hm:m<=8) {w:List Int} (h:validW m w = true):w.length<=200/\∀ l∈w,l∈ltrs m:=by
 unfold validW at h
 rw [Bool.and_eq_true,decide_eq_true_iff,List.all_eq_true] at h
 refine ⟨h.1,fun l hl=>?_⟩
 have:=Zfz.1 (h.2 l hl)
 rw [Zbv];omega
section
variable {α:Type} [Rp α] {w w':World} {a:Option Addr} {cap:Nat} {xs:List α} {ob:List Nat} {fps:List (List Nat)}
end
theorem Fresh.repl {B:Nat} {w w':World} {pre mid mid' post fpw:List Nat} (h:Fresh B w (pre ++ (mid ++ post))) (ho:Only fpw w w') (hf:∀ b∈fpw,b∈mid) (F':Fresh B w' mid') (hs:∀ b∈mid',b∈mid\/w.heap.size<=b):Fresh B w' (pre ++ (mid' ++ post)):=by
 obtain ⟨n1,n2,n3⟩:=List.nodup_append.1 h.nd
 obtain ⟨n4,n5,n6⟩:=List.nodup_append.1 n2
 have lpre:∀ b∈pre,b < w.heap.size:=fun b hb=>h.lt b (List.mem_append_left _ hb)
 have lpost:∀ b∈post,b < w.heap.size:=fun b hb=>h.lt b (List.mem_append_right _ (List.mem_append_right _ hb))
 have dpre:∀ b∈pre,b ∉ mid:=fun b hb hm=>n3 b hb b (List.mem_append_left _ hm) rfl
 have dpost:∀ b∈post,b ∉ mid:=fun b hb hm=>n6 b hm b hb rfl
 have dpre':∀ b∈pre,b ∉ mid':=fun b hb hm=>by
  rcases hs b hm with h1 | h1
  ·exact dpre b hb h1
  ·have:=lpre b hb;omega
 have dpost':∀ b∈post,b ∉ mid':=fun b hb hm=>by
  rcases hs b hm with h1 | h1
  ·exact dpost b hb h1
  ·have:=lpost b hb;omega
 refine ⟨List.nodup_append.2 ⟨n1,List.nodup_append.2 ⟨F'.nd,n5,fun a ha b hb e=>?_⟩,fun a ha b hb e=>?_⟩,fun b hb=>?_,?_⟩
 ·subst e;exact dpost' a hb ha
 ·subst e
  rcases List.mem_append.1 hb with hb | hb
  ·exact dpre' a ha hb
  ·exact n3 a ha a (List.mem_append_right _ hb) rfl
 ·rcases List.mem_append.1 hb with hb | hb
  ·exact h.ge b (List.mem_append_left _ hb)
  ·rcases List.mem_append.1 hb with hb | hb
   ·exact F'.ge b hb
   ·exact h.ge b (List.mem_append_right _ (List.mem_append_right _ hb))
 ·exact (h.left.own.only ho fun b hb hm=>dpre b hb (hf b hm)).append (F'.own.append (h.right.right.own.only ho fun b hb hm=>dpost b hb (hf b hm)))
set_option maxHeartbeats 1000000 in
theorem Zoo (v:Value) (gens:List (List Int)) (l:Int) (fp:List Nat) (w:World) (h:Rd w v gens fp) (hg:∀ g∈gens,PM.IsP g/\g.length<=1000) (hl:l∈ltrs gens.length) (hn:gens.length<=1000) :
  Calls Tryz.prog 157 #[v,.int .i64 l] w fun e w'=>∃ v fp',e = .returned v/\Rd w' v (mv gens l) fp'/\(∀ b∈fp',b∈fp\/w.heap.size<=b)/\Only [] w w':=by
 obtain ⟨a,cap,ob,fps,rfl,rfl,hs⟩:=h.open_
 have hb:=hs.bound
 rcases Zci hl with ⟨k,hk,rfl⟩ | ⟨k,hk,rfl⟩
 ·have hm:=mv_pos rfl hk
  have Hm:=zH hm;clear hm
  obtain ⟨b,off,u,rfl,-,hc,hu⟩:=hs.atRow k hk
  have e1:wrap64 ((k:Int) + 1 - 1) = (k:Int):=Zdi _ (by omega) (by omega) |>.trans (by omega)
  have e2:¬ (k:Int) + 1 < 0:=by omega
  go_enter Tryz.func157,Tryz.ntmps157
  go_wp2
  go_ret
  refine ⟨_,rfl,_,by rw [Hm.out];exact hu,fun b' hb'=>?_,zA⟩
  left
  right
  exact ⟨_,List.getElem_mem _,hb'⟩
 ·have hm:=mv_neg rfl hk
  have Hm:=zH hm;clear hm
  obtain ⟨b,off,u,rfl,-,hc,hu⟩:=hs.atRow k hk
  have e1:wrap64 (wrap64 (-(-((k:Int) + 1))) - 1) = (k:Int):=by
   rw [Zdi (-(-((k:Int) + 1))) (by omega) (by omega),Zdi _ (by omega) (by omega)];omega
  have e2:-((k:Int) + 1) < 0:=by omega
  have hg2:=hg _ (List.getElem_mem hk)
  go_enter Tryz.func157,Tryz.ntmps157
  go_wp2_with ((go_at_call 161;(with_reducible refine (Zgl u gens[k] _ _ hu hg2.1 hg2.2).mono ?_);rintro e w2 ⟨u2,f2,rfl,r2,F2,t2⟩))
  go_ret
  exact ⟨_,_,rfl,by rw [Hm.out];exact r2,fun b' hb'=>.inr (F2.ge b' hb'),zA⟩
set_option maxHeartbeats 1000000 in
theorem Zks (n:Nat) (hn:n<=20) (vg vl:Value) (gens:List (List Int)) (l:List Int) (fg fl:List Nat) (w:World) (hg:Rd w vg gens fg) (hl:Rd w vl l fl) (hpn:∀ g∈gens,PM.PN n g) (hgl:gens.length<=1000) (hlt:∀ x∈l,x∈ltrs gens.length) :
  Calls Tryz.prog 133 #[.int .i64 n,vg,vl] w fun e w'=>∃ v fp',e = .returned v/\Rd w' v (evW n gens l) fp'/\Fresh w.heap.size w' fp'/\Only [] w w':=by
 obtain ⟨a,cap,rfl,IL⟩:=hl.ints
 have hb:=IL.bound
 have hg':∀ g∈gens,PM.IsP g/\g.length<=1000:=fun g hg=>⟨(hpn g hg).2,by have:=(hpn g hg).1;omega⟩
 have Hg':=zH hg'
 have Hpn:=zH hpn
 have Hlt:=zH hlt
 have Hg:=zH hg
 clear hg' hpn hlt hl hg
 go_enter Tryz.func133,Tryz.ntmps133
 go_wp2_with (first | (go_at_call 73;(with_reducible refine (Zct n _ (by omega)).mono ?_);rintro en w1 ⟨v1,f1,rfl,r1,F1,t1⟩) | fail)
 go_loopw [7,8] (fun s i wr=>∃ (j:Nat) (f:List Nat),j<=l.length/\i = .int .i64 j/\Rd wr s (evW n gens (l.take j)) f/\Fresh w.heap.size wr f/\Only [] w wr)
  (fun _ i _=>l.length - (intOf i).toNat)
 case atStart=>exact ⟨0,f1,Nat.zero_le _,rfl,r1,F1,t1⟩
 case round=>
  obtain ⟨W2,hnew⟩:∃ W,W = wr:=⟨_,rfl⟩
  subst hnew
  obtain ⟨j,f,hj,rfl,hr,hF,hK⟩:=hrel
  by_cases hlt:j < l.length
  ·obtain ⟨b,off,rfl,-,hc0⟩:=IL.at_ j hlt
   have hc:=hK.cell (by simp) hc0
   have hll:=Hlt.out l[j] (List.getElem_mem _)
   have hp:=evW_pn Hpn.out (l.take j) fun x hx=>Hlt.out x (List.mem_of_mem_take hx)
   have hq:=mv_pn Hpn.out hll
   have hst:evW n gens (l.take (j + 1)) = PM.comp (evW n gens (l.take j)) (mv gens l[j]):=by rw [Zab l j hlt,Zde]
   have Hst:=zH hst
   have Hll:=zH hll
   have Hp:=zH hp
   have Hq:=zH hq
   have HK:=zH hK
   have Hr:=zH hr
   have HF:=zH hF
   clear hc0 hll hp hq hK hr hF hst
   go_wp2_with (first
    | (go_at_call 157;(with_reducible refine (Zoo _ gens l[j] _ _ (zK Hg.out HK.out) Hg'.out Hll.out hgl).mono ?_);rintro en w3 ⟨v3,f3,rfl,r3,hf3,t3⟩)
    | (go_at_call 115;(with_reducible refine (Zbo n _ _ _ _ _ _ _ (zK Hr.out t3) r3 Hp.out Hq.out (by omega)).mono ?_);rintro en w4 ⟨v4,f4,rfl,r4,F4,t4⟩)
    | fail)
   go_roundw
   case rel=>exact ⟨j + 1,f4,by omega,by go_num,by rw [Hst.out];exact r4,F4.mono (Nat.le_trans HK.out.size t3.size),HK.out.trans (t3.trans t4)⟩
   case measure=>simp [intOf];omega
  ·obtain rfl:j = l.length:=by omega
   rw [List.take_length] at hr
   have Hr:=zH hr
   clear hr
   go_wp2
   go_ret
   exact ⟨_,f,rfl,Hr.out,hF,hK⟩
set_option maxHeartbeats 1000000 in
theorem Zke (n:Nat) (hn:n<=20) (vg vl:Value) (gens:List (List Int)) (l:List Int) (fg fl:List Nat) (w:World) (hg:Rd w vg gens fg) (hl:Rd w vl l fl) (hpn:∀ g∈gens,PM.PN n g) (hgl:gens.length<=1000) (hlt:∀ x∈l,x∈ltrs gens.length) :
  Calls Tryz.prog 89 #[.int .i64 n,vg,vl] w fun e w'=>∃ v fp',e = .returned v/\Rd w' v (evW n gens l) fp'/\Fresh w.heap.size w' fp'/\Only [] w w':=by
 obtain ⟨a,cap,rfl,IL⟩:=hl.ints
 have hb:=IL.bound
 have hg':∀ g∈gens,PM.IsP g/\g.length<=1000:=fun g hg=>⟨(hpn g hg).2,by have:=(hpn g hg).1;omega⟩
 have Hg':=zH hg'
 have Hpn:=zH hpn
 have Hlt:=zH hlt
 have Hg:=zH hg
 clear hg' hpn hlt hl hg
 go_enter Tryz.func89,Tryz.ntmps89
 go_wp2_with (first | (go_at_call 93;(with_reducible refine (Zdp n _ (by omega)).mono ?_);rintro en w1 ⟨v1,f1,rfl,r1,F1,t1⟩) | fail)
 go_loopw [7,14] (fun s i wr=>∃ (j:Nat) (f:List Nat),j<=l.length/\i = .int .i64 j/\Rd wr s (evW n gens (l.take j)) f/\Fresh w.heap.size wr f/\Only [] w wr)
  (fun _ i _=>l.length - (intOf i).toNat)
 case atStart=>exact ⟨0,f1,Nat.zero_le _,rfl,r1,F1,t1⟩
 case round=>
  obtain ⟨W2,hnew⟩:∃ W,W = wr:=⟨_,rfl⟩
  subst hnew
  obtain ⟨j,f,hj,rfl,hr,hF,hK⟩:=hrel
  by_cases hlt:j < l.length
  ·obtain ⟨b,off,rfl,-,hc0⟩:=IL.at_ j hlt
   have hc:=hK.cell (by simp) hc0
   have hll:=Hlt.out l[j] (List.getElem_mem _)
   have hp:=evW_pn Hpn.out (l.take j) fun x hx=>Hlt.out x (List.mem_of_mem_take hx)
   have hq:=mv_pn Hpn.out hll
   have hst:evW n gens (l.take (j + 1)) = PM.comp (evW n gens (l.take j)) (mv gens l[j]):=by rw [Zab l j hlt,Zde]
   have Hst:=zH hst
   have Hll:=zH hll
   have Hp:=zH hp
   have Hq:=zH hq
   have HK:=zH hK
   have Hr:=zH hr
   have HF:=zH hF
   clear hc0 hll hp hq hK hr hF hst
   go_wp2_with (first
    | (go_at_call 125;(with_reducible refine (Zgr _ gens l[j] _ _ (zK Hg.out HK.out) Hg'.out Hll.out hgl).mono ?_);rintro en w3 ⟨v3,f3,rfl,r3,hf3,t3⟩)
    | (go_at_call 88;(with_reducible refine (Zbm n _ _ _ _ _ _ _ (zK Hr.out t3) r3 Hp.out Hq.out (by omega)).mono ?_);rintro en w4 ⟨v4,f4,rfl,r4,F4,t4⟩)
    | fail)
   go_roundw
   case rel=>exact ⟨j + 1,f4,by omega,by go_num,by rw [Hst.out];exact r4,F4.mono (Nat.le_trans HK.out.size t3.size),HK.out.trans (t3.trans t4)⟩
   case measure=>simp [intOf];omega
  ·obtain rfl:j = l.length:=by omega
   rw [List.take_length] at hr
   have Hr:=zH hr
   clear hr
   go_wp2
   go_ret
   exact ⟨_,f,rfl,Hr.out,hF,hK⟩
theorem Znj (n:Int) (h0:1<=n) (hn:n<=20) (vg vl:Value) (gens:List (List Int)) (l:List Int) (fg fl:List Nat) (w:World) (hg:Rd w vg gens fg) (hl:Rd w vl l fl) (hpn:∀ g∈gens,PM.PN n.toNat g) (hgl:gens.length<=1000) (hlt:∀ x∈l,x∈ltrs gens.length) :
  Calls Tryz.prog 133 #[.int .i64 n,vg,vl] w fun e w'=>∃ v fp',e = .returned v/\Rd w' v (evW n.toNat gens l) fp'/\Fresh w.heap.size w' fp'/\Only [] w w':=by
 obtain ⟨m,rfl⟩:=Int.eq_ofNat_of_zero_le (by omega:0<=n)
 exact Zks m (by omega) vg vl gens l fg fl w hg hl hpn hgl hlt
theorem Zmy (n:Int) (h0:1<=n) (hn:n<=20) (vg vl:Value) (gens:List (List Int)) (l:List Int) (fg fl:List Nat) (w:World) (hg:Rd w vg gens fg) (hl:Rd w vl l fl) (hpn:∀ g∈gens,PM.PN n.toNat g) (hgl:gens.length<=1000) (hlt:∀ x∈l,x∈ltrs gens.length) :
  Calls Tryz.prog 89 #[.int .i64 n,vg,vl] w fun e w'=>∃ v fp',e = .returned v/\Rd w' v (evW n.toNat gens l) fp'/\Fresh w.heap.size w' fp'/\Only [] w w':=by
 obtain ⟨m,rfl⟩:=Int.eq_ofNat_of_zero_le (by omega:0<=n)
 exact Zke m (by omega) vg vl gens l fg fl w hg hl hpn hgl hlt
def appW (x:Puzzle) (s l:List Int):List Int:=PM.comp s (evW x.points.toNat x.moves l)
set_option maxHeartbeats 1000000 in
theorem Zou (cs:List Value) (x:Puzzle) (fp:List Nat) (vs vl:Value) (s l:List Int) (fs fl:List Nat) (w:World) (h:Rp.rep w cs x fp) (hs:Rd w vs s fs) (hl:Rd w vl l fl) (hst:stateB x s = true) (hlt:∀ y∈l,y∈ltrs x.moves.length) :
  Calls Tryz.prog 48 #[.agg cs.toArray,vs,vl] w fun e w'=>∃ v fp',e = .returned v/\Rd w' v (appW x s l) fp'/\Fresh w.heap.size w' fp'/\Only [] w w':=by
 have h0:=h
 obtain ⟨v2,rfl,p0,p1,h2⟩:=h
 obtain ⟨A2,C2,ob,fps,rfl,-,-⟩:=h2.open_
 obtain ⟨⟨n1,n20⟩,hml,hmp,hpn⟩:=Zav hst
 have hev:=evW_pn hmp l hlt
 have Hmp:=zH hmp
 have Hpn:=zH hpn
 have Hlt:=zH hlt
 have Hev:=zH hev
 clear hmp hpn hlt hev hst
 go_enter Tryz.func48,Tryz.ntmps48
 go_wp2_with (first
  | (go_at_call 89;(with_reducible refine (Zmy x.points n1 n20 _ _ x.moves l _ _ _ (zK h2 zA) (zK hl zA) Hmp.out (by omega) Hlt.out).mono ?_);rintro en w3 ⟨v3,f3,rfl,r3,F3,t3⟩)
  | (go_at_call 88;(with_reducible refine (Zbm x.points.toNat _ _ _ _ _ _ _ (zK hs zA) r3 Hpn.out Hev.out (by omega)).mono ?_);rintro en w4 ⟨v4,f4,rfl,r4,F4,t4⟩)
  | fail)
 go_ret
 exact ⟨_,f4,rfl,r4,F4.mono (Only.size (fp:=[]) zA),zA⟩
section
variable {B:Nat} {e:TypeId} {w:World} {v:Value} {l:List (List Int)} {fs:List (List Nat)}
end
section
variable {B:Nat} {w w':World} {a b c d m' fpw:List Nat}
theorem Fresh.at3 (h:Fresh B w (a ++ (b ++ (c ++ d)))) (ho:Only fpw w w') (hf:∀ x∈fpw,x∈c) (F':Fresh B w' m') (hs:∀ x∈m',x∈c\/w.heap.size<=x):Fresh B w' (a ++ (b ++ (m' ++ d))):=by
 have:=Fresh.repl (pre:=a ++ b) (mid:=c) (post:=d) (by simpa [List.append_assoc] using h) ho hf F' hs
 simpa [List.append_assoc] using this
theorem Fresh.at4 (h:Fresh B w (a ++ (b ++ (c ++ d)))) (ho:Only fpw w w') (hf:∀ x∈fpw,x∈d) (F':Fresh B w' m') (hs:∀ x∈m',x∈d\/w.heap.size<=x):Fresh B w' (a ++ (b ++ (c ++ m'))):=by
 have:=Fresh.repl (pre:=a ++ (b ++ c)) (mid:=d) (post:=[]) (by simpa [List.append_assoc] using h) ho hf F' hs
 simpa [List.append_assoc] using this
theorem Fresh.parts (h:Fresh B w (a ++ (b ++ (c ++ d)))):(∀ x∈a,x ∉ c/\x ∉ d)/\(∀ x∈b,x ∉ c/\x ∉ d)/\(∀ x∈c,x ∉ d):=by
 have n1:=List.nodup_append.1 h.nd
 have n2:=List.nodup_append.1 n1.2.1
 have n3:=List.nodup_append.1 n2.2.1
 refine ⟨fun x hx=>⟨fun hm=>n1.2.2 x hx x (by simp [hm]) rfl,fun hm=>n1.2.2 x hx x (by simp [hm]) rfl⟩,fun x hx=>⟨fun hm=>n2.2.2 x hx x (by simp [hm]) rfl,fun hm=>n2.2.2 x hx x (by simp [hm]) rfl⟩,fun x hx hm=>n3.2.2 x hx x hm rfl⟩
end
theorem Zox {P:Program} {ops:Array Oper} {o:Oper} {a:Act} {w:World} {K:Act->World->Prop} {Q:Exit->Act->World->Prop} {E:Prop} (hgd:o.guard = none) (d s:Operand) (dT sT:TypeId)
  (ho:o.op = .call { callee:=.builtin .copy,args:=#[d,s],argTypes:=#[dT,sT] }) (elem:TypeId) (hu:P.underlying dT = some (.slice elem)) (hsz:(P.info? elem).map (·.size) = some 1)
  (dp sp:Option Addr) (dLen dCap sLen sCap:Nat) (hd:a.eval d = .slice dp dLen dCap) (hs:a.eval s = .slice sp sLen sCap)
  (g off:Nat) (cur:List Value) (t:TypeId) (hg:w.heap[g]? = some (.cells cur.toArray t (0,0))) (cs:List Value) (hn:cs.length = Nat.min sLen dLen)
  (hpos:0 < cs.length->dp = some ⟨g,off,none⟩/\∃ ad,sp = some ad/\∀ j v,cs[j]? = some v->w.cell? (ad.add j) = some v)
  (hfit:off + cs.length<=cur.length) (h1:∀ v∈cs,v.oneCell' = true)
  (h:∀ w',w'.heap[g]? = some (.cells (splice cur off cs).toArray t (0,0))->Only [g] w w'->K (a.put o.dst (goInt cs.length)) w') :
  if Region.wanted o (yielded ops a.tmps) = true then Oper.wp P o a w K Q else E:=by
 have hw:Region.wanted o (yielded ops a.tmps) = true:=by simp [Region.wanted,hgd]
 rw [if_pos hw]
 by_cases h0:cs.length = 0
 ·obtain rfl:cs = []:=List.eq_nil_of_length_eq_zero h0
  have hrun:=run_copy_none (P:=P) w dT sT o.type elem dp sp dLen dCap sLen sCap hu hsz (by simpa using hn.symm)
  unfold Oper.wp
  simp [execOp,ho,resolve,invoke,builtin,hd,hs,hrun,Result.andThen]
  exact h w (by simpa [splice] using hg) zO
 ·obtain ⟨rfl,ad,rfl,hsrc⟩:=hpos (by omega)
  have hrun:=run_copy_row (P:=P) w dT sT o.type elem g off dLen dCap ad sLen sCap cur.toArray t cs hu hsz hg hn hsrc (by simpa using hfit) h1
  unfold Oper.wp
  simp [execOp,ho,resolve,invoke,builtin,hd,hs,hrun,Result.andThen]
  refine h _ (by simpa [splice] using setRow_heap w g _ _ t _ hg) ⟨rfl,rfl,rfl,by simp [World.setRow],fun k _ hk=>setRow_other w g k _ (fun e=>hk (by simp [e]))⟩
theorem Zro {α:Type} (l:List α) (off n:Nat) (cs:List α) (h:off + cs.length<=n) (hl:n<=l.length):(splice l off cs).take n = splice (l.take n) off cs:=by
 unfold splice
 apply List.ext_getElem?
 intro i
 by_cases h1:i < off
 ·rw [List.getElem?_take_of_lt (by omega),List.getElem?_append_left (by simp;omega),List.getElem?_append_left (by simp;omega),List.getElem?_take_of_lt h1,List.getElem?_take_of_lt h1,List.getElem?_take_of_lt (by omega)]
 ·have e1:(l.take off).length = off:=by simp;omega
  have e2:((l.take n).take off).length = off:=by simp;omega
  by_cases h2:i < n
  ·rw [List.getElem?_take_of_lt h2,List.getElem?_append_right (l₁:=l.take off) (by omega),List.getElem?_append_right (l₁:=(l.take n).take off) (by omega),e1,e2]
   by_cases h3:i - off < cs.length
   ·rw [List.getElem?_append_left h3,List.getElem?_append_left h3]
   ·rw [List.getElem?_append_right (l₁:=cs) (by omega),List.getElem?_append_right (l₁:=cs) (by omega),List.getElem?_drop,List.getElem?_drop,List.getElem?_take_of_lt (by omega)]
  ·rw [List.getElem?_eq_none (by simp;omega),List.getElem?_eq_none (by simp;omega)]
theorem Zne {w w':World} {B:Nat} {e:TypeId} {g n c:Nat} {xs cur:List Value} (hO:w.ownsRow B e 1 (.slice (some ⟨g,0,none⟩) n c) n xs) (hg:w.heap[g]? = some (.cells cur.toArray e (0,0)))
  {off:Nat} {cs:List Value} (hf:off + cs.length<=n) (hg':w'.heap[g]? = some (.cells (splice cur off cs).toArray e (0,0))):w'.ownsRow B e 1 (.slice (some ⟨g,0,none⟩) n c) n (splice xs off cs):=by
 rcases hO.2 with ⟨h0,-⟩ | ⟨g2,c2,cur2,hv,hb,hg2,h1,h2,h3,h4⟩
 ·cases h0
 ·injection hv with hv _ hc;injection hv with hv;injection hv with hv _ _
  subst hv;subst hc
  rw [hg2] at hg;injection hg with hg;injection hg with hg _ _;subst hg
  have hcl:cur.length = c:=by simpa using h3
  have hx:=hO.1
  simp only [Nat.mul_one] at hx h4
  refine ⟨by rw [length_splice _ _ _ (by omega)];omega,.inr ⟨g,c,_,rfl,hb,hg',h1,h2,?_,?_⟩⟩
  ·simp only [List.size_toArray,Nat.mul_one]
   rw [length_splice _ _ _ (by omega),hcl]
  ·simp only [Nat.mul_one]
   rw [Zro _ _ _ _ hf (by omega)]
   rw [<- h4]
theorem Zuu {α:Type} (l:List α) (z x:α) (k:Nat) (hk:k<=l.length):(splice (l ++ [z]) (k + 1) (l.drop k)).set k x = l.take k ++ x :: l.drop k:=by
 have hl:(splice (l ++ [z]) (k + 1) (l.drop k)).length = l.length + 1:=by rw [length_splice _ _ _ (by simp;omega)];simp
 apply List.ext_getElem?
 intro i
 have e1:((l ++ [z]).take (k + 1)).length = k + 1:=by simp;omega
 have e2:(l.take k).length = k:=by simp;omega
 by_cases h1:i < k
 ·rw [List.getElem?_set_ne (by omega)]
  unfold splice
  rw [List.getElem?_append_left (by omega),List.getElem?_append_left (by omega),List.getElem?_take_of_lt (by omega),List.getElem?_take_of_lt h1,List.getElem?_append_left (by omega)]
 ·by_cases h2:i = k
  ·subst h2
   rw [List.getElem?_set_self (by omega),List.getElem?_append_right (by omega),e2,Nat.sub_self];rfl
  ·rw [List.getElem?_set_ne (by omega)]
   unfold splice
   rw [List.getElem?_append_right (l₁:=(l ++ [z]).take (k + 1)) (by omega),List.getElem?_append_right (l₁:=l.take k) (by omega),e1,e2,show i - k = (i - (k + 1)) + 1 by omega,List.getElem?_cons_succ]
   by_cases h3:i - (k + 1) < (l.drop k).length
   ·rw [List.getElem?_append_left h3]
   ·rw [List.getElem?_append_right (by omega),List.getElem?_drop,List.getElem?_eq_none (by simp at h3 ⊢;omega),List.getElem?_eq_none (by omega)]
structure SrO (B:Nat) (w:World) (v1 v2 v3:Value) (L:List (List Int)) (D si:List Int) (fs:List (List Nat)) (f:List Nat):Prop where
 acc:Acc B 27 w v1 L fs
 dep:w.ownsRow B 2 1 v2 D.length (D.map (Value.int .i64))
 srt:w.ownsRow B 3 1 v3 si.length (si.map (Value.int .i64))
 fr:Fresh B w (v1.ownBlock.toList ++ ((fs.flatten ++ f) ++ (v2.ownBlock.toList ++ v3.ownBlock.toList)))
section
variable {B:Nat} {w w':World} {v1 v2 v3 v1' v2' v3':Value} {L:List (List Int)} {D si D' si':List Int} {fs:List (List Nat)} {f fp:List Nat}
theorem SrO.only (h:SrO B w v1 v2 v3 L D si fs f) (ho:Only fp w w') (hd:∀ b∈v1.ownBlock.toList ++ ((fs.flatten ++ f) ++ (v2.ownBlock.toList ++ v3.ownBlock.toList)),b ∉ fp):SrO B w' v1 v2 v3 L D si fs f:=
 ⟨h.acc.only ho (fun b hb=>hd b (by simp [hb])) (fun g hg=>hd g (by simp [hg])),Zbk h.dep ho (fun g hg=>hd g (by simp [hg])),Zbk h.srt ho (fun g hg=>hd g (by simp [hg])),h.fr.only ho hd⟩
theorem SrO.keep (h:SrO B w v1 v2 v3 L D si fs f) (ho:Only [] w w'):SrO B w' v1 v2 v3 L D si fs f:=h.only ho (by simp)
theorem SrO.set3 (h:SrO B w v1 v2 v3 L D si fs f) (ho:Only v3.ownBlock.toList w w') (hO:w'.ownsRow B 3 1 v3' si'.length (si'.map (Value.int .i64))) (hb:∀ x∈v3'.ownBlock.toList,x∈v3.ownBlock.toList\/w.heap.size<=x):SrO B w' v1 v2 v3' L D si' fs f:=by
 obtain ⟨p1,p2,p3⟩:=h.fr.parts
 exact ⟨h.acc.only ho (fun b hb=>(p2 b (by simp [hb])).2) (fun g hg=>(p1 g (by simp [hg])).2),Zbk h.dep ho (fun g hg=>p3 g (by simp [hg])),hO,h.fr.at4 ho (fun _ hx=>hx) (Zcp hO) hb⟩
theorem SrO.set2 (h:SrO B w v1 v2 v3 L D si fs f) (ho:Only v2.ownBlock.toList w w') (hO:w'.ownsRow B 2 1 v2' D'.length (D'.map (Value.int .i64))) (hb:∀ x∈v2'.ownBlock.toList,x∈v2.ownBlock.toList\/w.heap.size<=x):SrO B w' v1 v2' v3 L D' si fs f:=by
 obtain ⟨p1,p2,p3⟩:=h.fr.parts
 exact ⟨h.acc.only ho (fun b hb=>(p2 b (by simp [hb])).1) (fun g hg=>(p1 g (by simp [hg])).1),hO,Zbk h.srt ho (fun g hg hm=>p3 g hm (by simp [hg])),h.fr.at3 ho (fun _ hx=>hx) (Zcp hO) hb⟩
theorem SrO.set1 {s:List Int} (h:SrO B w v1 v2 v3 L D si fs f) (ho:Only v1.ownBlock.toList w w') (hA:Acc B 27 w' v1' (L ++ [s]) (fs ++ [f])) (hb:∀ x∈v1'.ownBlock.toList,x∈v1.ownBlock.toList\/w.heap.size<=x):SrO B w' v1' v2 v3 (L ++ [s]) D si (fs ++ [f]) []:=by
 obtain ⟨n1,n2,n3⟩:=List.nodup_append.1 h.fr.nd
 refine ⟨hA,Zbk h.dep ho (fun g hg hm=>n3 g hm g (by simp [hg]) rfl),Zbk h.srt ho (fun g hg hm=>n3 g hm g (by simp [hg]) rfl),?_⟩
 obtain ⟨css,hown,-,-⟩:=hA.own
 have:=Fresh.repl (pre:=[]) (mid:=v1.ownBlock.toList) (mid':=v1'.ownBlock.toList) (post:=(fs.flatten ++ f) ++ (v2.ownBlock.toList ++ v3.ownBlock.toList)) h.fr ho (fun _ hx=>hx) (Zcp hown) hb
 simpa using this
theorem SrO.lt (h:SrO B w v1 v2 v3 L D si fs f):∀ b∈v1.ownBlock.toList ++ ((fs.flatten ++ f) ++ (v2.ownBlock.toList ++ v3.ownBlock.toList)),B<=b/\b < w.heap.size:=fun b hb=>⟨h.fr.ge b hb,h.fr.lt b hb⟩
end
theorem Tryz.infoInt:(Tryz.prog.info? 3).map (fun i=>(i.zero,i.size,i.bytes)) = some (some (.int .i64 0),1,8):=by kernel_rfl
theorem SrO.srR {B:Nat} {w:World} {A1 A2 A3:Option Addr} {C1 C2 C3:Nat} {L:List (List Int)} {D:List Int} {so:List Nat} {fs:List (List Nat)} {f:List Nat} (h:SrO B w (.slice A1 L.length C1) (.slice A2 D.length C2) (.slice A3 so.length C3) L D (soI so) fs f)
  (hD:∀ x∈D,I64 x) (hs:∀ i∈so,i<=3000):∃ ob fps fd fz,SrR w A1 A2 A3 C1 C2 C3 L D so ob fps fd fz:=by
 obtain ⟨a,c,ob,fps,hv,-,hS⟩:=(h.acc.rd (by decide)).open_
 injection hv with h1 _ h2;subst h1;subst h2
 obtain ⟨a2,c2,hv2,-,hI2,-⟩:=Zbg h.dep hD
 injection hv2 with h1 _ h2;subst h1;subst h2
 have hs':∀ x∈soI so,I64 x:=fun x hx=>by
  obtain ⟨i,hi,rfl⟩:=List.mem_map.1 hx
  have:=hs i hi
  unfold I64;omega
 obtain ⟨a3,c3,hv3,-,hI3,-⟩:=Zbg h.srt hs'
 injection hv3 with h1 _ h2;subst h1;subst h2
 exact ⟨ob,fps,_,_,hS,hI2,hI3⟩
theorem SrO.srR2 {B:Nat} {w:World} {A1 A2 A3:Option Addr} {C1 C2 C3:Nat} {L:List (List Int)} {D:List Int} {so:List Nat} {fs:List (List Nat)} {f:List Nat} (h:SrO B w (.slice A1 L.length C1) (.slice A2 D.length C2) (.slice A3 so.length C3) L D (soI so) fs f)
  (hD:∀ x∈D,I64 x) (hs:∀ i∈so,i<=3000):∃ ob fps fd fz,SrR w A1 A2 A3 C1 C2 C3 L D so ob fps fd fz/\∀ g∈(ob ++ fps.flatten) ++ (fd ++ fz),B<=g:=by
 obtain ⟨a,c,ob,fps,hv,hfp,hS⟩:=(h.acc.rd (by decide)).open_
 injection hv with h1 _ h2;subst h1;subst h2
 obtain ⟨a2,c2,hv2,-,hI2,hF2⟩:=Zbg h.dep hD
 injection hv2 with h1 _ h2;subst h1;subst h2
 have hs':∀ x∈soI so,I64 x:=fun x hx=>by
  obtain ⟨i,hi,rfl⟩:=List.mem_map.1 hx
  have:=hs i hi
  unfold I64;omega
 obtain ⟨a3,c3,hv3,-,hI3,hF3⟩:=Zbg h.srt hs'
 injection hv3 with h1 _ h2;subst h1;subst h2
 refine ⟨ob,fps,_,_,⟨hS,hI2,hI3⟩,fun g hg=>?_⟩
 rcases List.mem_append.1 hg with hg | hg
 ·rw [<- hfp] at hg
  refine h.fr.ge g ?_
  simp only [List.mem_append] at hg ⊢
  rcases hg with hg | hg
  ·exact .inl hg
  ·exact .inr (.inl (.inl hg))
 ·rcases List.mem_append.1 hg with hg | hg
  ·exact hF2.ge g hg
  ·exact hF3.ge g hg
theorem Zug (g k j:Nat):(⟨g,k,none⟩:Addr).add j = ⟨g,k + j,none⟩:=by unfold Addr.add;split <;> simp_all
theorem ob_sub {a b:Option Nat} {n:Nat} (h:a = b\/a = some n):∀ x∈a.toList,x∈b.toList\/n<=x:=by
 intro x hx
 rcases h with rfl | rfl
 ·exact .inl hx
 ·right;simp at hx;omega
theorem Zte {w:World} {B:Nat} {e:TypeId} {v:Value} {n s:Nat} {xs:List Value} (h:w.ownsRow B e s v n xs):∃ a c,v = .slice a n c:=by
 rcases h.2 with ⟨rfl,rfl⟩ | ⟨g,cap,cur,rfl,-⟩
 ·exact ⟨_,_,rfl⟩
 ·exact ⟨_,_,rfl⟩
theorem own_pos {w:World} {B:Nat} {e:TypeId} {v:Value} {n:Nat} {xs:List Value} (h:w.ownsRow B e 1 v (n + 1) xs) :
  ∃ g c cur,v = .slice (some ⟨g,0,none⟩) (n + 1) c/\w.heap[g]? = some (.cells (List.toArray cur) e (0,0))/\n + 1<=c/\c<=maxLen/\cur.length = c/\cur.take (n + 1) = xs:=by
 rcases h.2 with ⟨-,h0⟩ | ⟨g,c,cur,rfl,-,hg,h1,h2,h3,h4⟩
 ·omega
 ·exact ⟨g,c,cur.toList,rfl,by simpa using hg,h1,h2,by simpa using h3,by simpa using h4⟩
theorem Zri {P:Program} {α:Type} [Rp α] {ops:Array Oper} {rest:List Oper} {o:Oper} {a:Act} {w:World} {Q:Exit->Act->World->Prop} (hgd:o.guard = none) (s x:Operand) (t:TypeId)
  (ho:o.op = .call { callee:=.builtin .append,args:=#[s,x],argTypes:=#[t,t] })
  (B:Nat) (e:TypeId) (i:TypeInfo) (z:Value) (bytes:Nat) (ht:P.underlying t = some (.slice e)) (hi:P.info? e = some i) (hz:i.zero = some z)
  (hsize:i.size = Rp.size α) (hby:i.bytes = bytes) (hzs:z.cells.size = Rp.size α) (hsz:0 < Rp.size α) (hbb:bytes<=65536)
  (w0:World) (v:Value) (l:List α) (fs:List (List Nat)) (hs:a.eval s = v) (hA:Acc B e w0 v l fs) (hK0:Only [] w0 w) (hB:B<=w0.heap.size)
  (g c:Nat) (cs:List Value) (y:α) (fp:List Nat) (hx:a.eval x = .slice (some ⟨g,0,none⟩) 1 c) (hsrc:∀ j u,cs[j]? = some u->w.cell? ⟨g,j,none⟩ = some u) (hcs:∀ u∈cs,u.oneCell' = true)
  (hy:Rp.rep w cs y fp) (hap:∀ b∈fp,v.ownBlock ≠ some b) (hlen:l.length + 1<=1073741824)
  (h:∀ v' w',Acc B e w' v' (l ++ [y]) (fs ++ [fp])->Only v.ownBlock.toList w w'->(v'.ownBlock = v.ownBlock\/v'.ownBlock = some w.heap.size)->wpList P ops Q rest (a.put o.dst v') w'):wpList P ops Q (o :: rest) a w:=
 wpList_plain hgd fun _ hK=>Zeu s x t ho B e i z bytes ht hi hz hsize hby hzs hsz hbb w0 v l fs hs hA hK0 hB g c cs y fp hx hsrc hcs hy hap hlen fun v' w' h1 h2 _ _ h5=>hK _ _ (h v' w' h1 h2 h5)
structure St (w0:World) (V:List Nat) (B:Nat) (w:World) (v1 v2 v3:Value) (L:List (List Int)) (D si:List Int) (fs:List (List Nat)) (f:List Nat):Prop where
 so:SrO B w v1 v2 v3 L D si fs f
 ap:∀ b∈v1.ownBlock.toList ++ ((fs.flatten ++ f) ++ (v2.ownBlock.toList ++ v3.ownBlock.toList)),b < w0.heap.size\/w0.heap.size + 2<=b
 on:Only V w0 w
 iv:∀ b∈v1.ownBlock.toList ++ (v2.ownBlock.toList ++ v3.ownBlock.toList),b∈V\/w0.heap.size<=b
 sz:w0.heap.size + 2<=w.heap.size
section
variable {w0:World} {V:List Nat} {B:Nat} {w w':World} {v1 v2 v3 v1' v2' v3':Value} {L:List (List Int)} {D si D' si':List Int} {fs:List (List Nat)} {f fp:List Nat}
theorem St.keep (h:St w0 V B w v1 v2 v3 L D si fs f) (ho:Only [] w w'):St w0 V B w' v1 v2 v3 L D si fs f:=
 ⟨h.so.keep ho,h.ap,h.on.then_ ho (by simp),h.iv,Nat.le_trans h.sz ho.size⟩
theorem St.box (h:St w0 V B w v1 v2 v3 L D si fs f) (ho:Only fp w w') (hf:∀ b∈fp,b = w0.heap.size\/b = w0.heap.size + 1):St w0 V B w' v1 v2 v3 L D si fs f:=
 ⟨h.so.only ho (fun b hb hm=>by have:=h.ap b hb;have:=hf b hm;omega),h.ap,h.on.then_ ho (fun b hb hl=>by have:=hf b hb;omega),h.iv,Nat.le_trans h.sz ho.size⟩
theorem St.set3 (h:St w0 V B w v1 v2 v3 L D si fs f) (ho:Only v3.ownBlock.toList w w') (hO:w'.ownsRow B 3 1 v3' si'.length (si'.map (Value.int .i64))) (hb:∀ x∈v3'.ownBlock.toList,x∈v3.ownBlock.toList\/w.heap.size<=x):St w0 V B w' v1 v2 v3' L D si' fs f:=by
 have hz:=h.sz
 refine ⟨h.so.set3 ho hO hb,fun b hm=>?_,h.on.then_ ho (fun b hm hl=>(h.iv b (by simp [hm])).elim id (fun h1=>by omega)),fun b hm=>?_,Nat.le_trans h.sz ho.size⟩
 ·simp only [List.mem_append] at hm
  rcases hm with hm | hm | hm | hm
  ·exact h.ap b (by simp [hm])
  ·exact h.ap b (by simp only [List.mem_append];exact .inr (.inl hm))
  ·exact h.ap b (by simp [hm])
  ·rcases hb b hm with h1 | h1
   ·exact h.ap b (by simp [h1])
   ·omega
 ·simp only [List.mem_append] at hm
  rcases hm with hm | hm | hm
  ·exact h.iv b (by simp [hm])
  ·exact h.iv b (by simp [hm])
  ·rcases hb b hm with h1 | h1
   ·exact h.iv b (by simp [h1])
   ·right;omega
theorem St.set2 (h:St w0 V B w v1 v2 v3 L D si fs f) (ho:Only v2.ownBlock.toList w w') (hO:w'.ownsRow B 2 1 v2' D'.length (D'.map (Value.int .i64))) (hb:∀ x∈v2'.ownBlock.toList,x∈v2.ownBlock.toList\/w.heap.size<=x):St w0 V B w' v1 v2' v3 L D' si fs f:=by
 have hz:=h.sz
 refine ⟨h.so.set2 ho hO hb,fun b hm=>?_,h.on.then_ ho (fun b hm hl=>(h.iv b (by simp [hm])).elim id (fun h1=>by omega)),fun b hm=>?_,Nat.le_trans h.sz ho.size⟩
 ·simp only [List.mem_append] at hm
  rcases hm with hm | hm | hm | hm
  ·exact h.ap b (by simp [hm])
  ·exact h.ap b (by simp only [List.mem_append];exact .inr (.inl hm))
  ·rcases hb b hm with h1 | h1
   ·exact h.ap b (by simp [h1])
   ·omega
  ·exact h.ap b (by simp [hm])
 ·simp only [List.mem_append] at hm
  rcases hm with hm | hm | hm
  ·exact h.iv b (by simp [hm])
  ·rcases hb b hm with h1 | h1
   ·exact h.iv b (by simp [h1])
   ·right;omega
  ·exact h.iv b (by simp [hm])
theorem St.set1 {s:List Int} (h:St w0 V B w v1 v2 v3 L D si fs f) (ho:Only v1.ownBlock.toList w w') (hA:Acc B 27 w' v1' (L ++ [s]) (fs ++ [f])) (hb:∀ x∈v1'.ownBlock.toList,x∈v1.ownBlock.toList\/w.heap.size<=x):St w0 V B w' v1' v2 v3 (L ++ [s]) D si (fs ++ [f]) []:=by
 have hz:=h.sz
 refine ⟨h.so.set1 ho hA hb,fun b hm=>?_,h.on.then_ ho (fun b hm hl=>(h.iv b (by simp [hm])).elim id (fun h1=>by omega)),fun b hm=>?_,Nat.le_trans h.sz ho.size⟩
 ·simp only [List.flatten_append,List.flatten_cons,List.flatten_nil,List.append_nil] at hm
  rcases List.mem_append.1 hm with hm | hm
  ·rcases hb b hm with h1 | h1
   ·exact h.ap b (by simp [h1])
   ·omega
  ·exact h.ap b (List.mem_append_right _ hm)
 ·simp only [List.mem_append] at hm
  rcases hm with hm | hm | hm
  ·rcases hb b hm with h1 | h1
   ·exact h.iv b (by simp [h1])
   ·right;omega
  ·exact h.iv b (by simp [hm])
  ·exact h.iv b (by simp [hm])
end
set_option maxHeartbeats 4000000 in
theorem Zie (B:Nat) (A1 A2 A3:Option Addr) (C1 C2 C3:Nat) (wh:Bool) (L:List (List Int)) (D:List Int) (so:List Nat) (fs:List (List Nat)) (m:Nat) (v:Value) (s:List Int) (f:List Nat) (d:Int) (w:World)
  (h:SrO B w (.slice A1 L.length C1) (.slice A2 D.length C2) (.slice A3 so.length C3) L D (soI so) fs f) (hS:Srt m L so) (hv:Rd w v s f) (hs:s.length = m) (hn:s ∉ L) (hL:L.length < 3000) (hDl:D.length = L.length) (hDI:∀ x∈D,I64 x) (hB:B<=w.heap.size) :
  Calls Tryz.prog 163 #[.agg #[.slice A1 L.length C1,.slice A2 D.length C2,.slice A3 so.length C3,.bool wh],v,.int .i64 d] w fun e w'=>∃ A1' A2' A3' C1' C2' C3' so',e = .returned (.agg #[.slice A1' (L.length + 1) C1',.slice A2' (D.length + 1) C2',.slice A3' (so.length + 1) C3',.bool wh]) /\
   SrO B w' (.slice A1' (L.length + 1) C1') (.slice A2' (D.length + 1) C2') (.slice A3' (so.length + 1) C3') (L ++ [s]) (D ++ [d]) (soI so') (fs ++ [f]) []/\Srt m (L ++ [s]) so'/\so'.length = so.length + 1 /\
   Only ((Value.slice A1 L.length C1).ownBlock.toList ++ ((Value.slice A2 D.length C2).ownBlock.toList ++ (Value.slice A3 so.length C3).ownBlock.toList)) w w' /\
   (∀ b∈(Value.slice A1' (L.length + 1) C1').ownBlock.toList ++ ((Value.slice A2' (D.length + 1) C2').ownBlock.toList ++ (Value.slice A3' (so.length + 1) C3').ownBlock.toList),
    b∈(Value.slice A1 L.length C1).ownBlock.toList ++ ((Value.slice A2 D.length C2).ownBlock.toList ++ (Value.slice A3 so.length C3).ownBlock.toList)\/w.heap.size<=b):=by
 obtain ⟨i0,hi,hz0,hz1,hz2⟩:=info_parts Tryz.info2
 obtain ⟨i1,gi,gz0,gz1,gz2⟩:=info_parts Tryz.info22
 obtain ⟨i2,ji,jz0,jz1,jz2⟩:=info_parts Tryz.infoInt
 have hlen:so.length<=3000:=by rw [hS.len];omega
 have hsl:so.length < 3000:=by rw [hS.len];exact hL
 obtain ⟨ob,fps,fd,fz,hR⟩:=h.srR hDI (fun i hi=>by have:=hS.in_ i hi;omega)
 have HS:=zH hS
 have HDl:=zH hDl
 have HDI:=zH hDI
 have Hs:=zH hs
 have Hn:=zH hn
 clear hS hDl hDI hs hn
 have s0:St w ((Value.slice A1 L.length C1).ownBlock.toList ++ ((Value.slice A2 D.length C2).ownBlock.toList ++ (Value.slice A3 so.length C3).ownBlock.toList)) B ((w.alloc (.cells #[.slice A1 L.length C1,.slice A2 D.length C2,.slice A3 so.length C3,.bool wh] 95)).alloc (.cells #[.slice none 0 0,.slice none 0 0,.slice none 0 0,.bool false] 95)) (.slice A1 L.length C1) (.slice A2 D.length C2) (.slice A3 so.length C3) L D (soI so) fs f:=
  ⟨h.keep ((zO.alloc _).alloc _),fun b hb=>.inl (h.lt b hb).2,(zO.alloc _).alloc _,fun b hb=>.inl hb,by simp⟩
 have X0:Blk ((w.alloc (.cells #[.slice A1 L.length C1,.slice A2 D.length C2,.slice A3 so.length C3,.bool wh] 95)).alloc (.cells #[.slice none 0 0,.slice none 0 0,.slice none 0 0,.bool false] 95)) w.heap.size [.slice A1 L.length C1,.slice A2 D.length C2,.slice A3 so.length C3,.bool wh]:=(Blk.new w [.slice A1 L.length C1,.slice A2 D.length C2,.slice A3 so.length C3,.bool wh] 95).keep (zO.alloc _)
 have Y0:Blk ((w.alloc (.cells #[.slice A1 L.length C1,.slice A2 D.length C2,.slice A3 so.length C3,.bool wh] 95)).alloc (.cells #[.slice none 0 0,.slice none 0 0,.slice none 0 0,.bool false] 95)) (w.heap.size + 1) [.slice none 0 0,.slice none 0 0,.slice none 0 0,.bool false]:=Blk.new_at (by simp)
 go_enter Tryz.func163,Tryz.ntmps163
 go_wp2_with (first
  | (go_at_call 164;(with_reducible refine (Zhc A1 A2 A3 C1 C2 C3 wh L D so ob fps fd fz m _ s f _ (hR.keep zA) HS.out (zK hv zA) Hs.out (by omega)).mono ?_);rintro e w1 ⟨k,rfl,hk,hk3,t1⟩;have s1:=s0.keep t1;have X1:=X0.keep t1;have Y1:=Y0.keep t1;clear s0 X0 Y0;have Hk:=zH hk;have hkl:=hk.le;clear hk;have y2:=X1.cell 2 rfl;have z2:=X1.frozen 2)
  | (at_builtin;refine Zcs _ rfl _ _ 93 rfl B 3 i2 _ 1 8 Tryz.underlying93 ji jz0 jz1 jz2 rfl (by omega) (.slice A3 so.length C3) so.length ((soI so).map (Value.int .i64)) rfl (by have hh:=s1.so.srt;rw [soI_len] at hh;exact Zbu hh (zO.alloc _)) (some ⟨w1.heap.size,0,none⟩) 1 1 [.int .i64 0] rfl rfl (Zcq _ [.int .i64 0] _ rfl) (by simp) (by intro u hu;simp at hu;subst hu;rfl) (by unfold maxLen;omega) (by omega) (by have:=s1.sz;simp;omega) ?_;intro v3 w2 hO hg hb;obtain ⟨g3,c3,cur3,rfl,hh3,hc1,hc2,hcl3,hct⟩:=own_pos hO;have k2:=(Only.refl (Value.slice A3 so.length C3).ownBlock.toList _).grown hg (by intro k hk _;simp [hk]);have s2:=(s1.keep (zO.alloc _)).set3 k2 (si':=soI so ++ [0]) (by rw [List.map_append,List.length_append,soI_len];exact hO) (ob_sub hb);have X2:=(X1.keep (zO.alloc (.cells #[.int .i64 0] 3))).only k2 (fun hm=>by have:=s1.ap w.heap.size (by simp at hm;simp [hm]);omega);have Y2:=(Y1.keep (zO.alloc (.cells #[.int .i64 0] 3))).only k2 (fun hm=>by have:=s1.ap (w.heap.size + 1) (by simp at hm;simp [hm]);omega);clear y2 z2;have y2:=X2.cell 2 rfl;have z2:=X2.frozen 2;have HO:=zH hO;clear hO hg hb k2)
  | fail)
 have k3:Only [w.heap.size] w2 (w2.setCell ⟨w.heap.size,2,none⟩ (.slice (some ⟨g3,0,none⟩) (so.length + 1) c3)):=zO.setCell (by simp) _
 have s3:=s2.box k3 (by intro b hb;left;simpa using hb)
 have X3:=X2.set 2 (.slice (some ⟨g3,0,none⟩) (so.length + 1) c3)
 have Y3:=Y2.only k3 (by simp)
 have hgne:g3 ≠ w.heap.size:=fun e=>by have:=s2.ap g3 (by simp [Value.ownBlock]);omega
 have hh4:=(k3.block g3 (Array.getElem?_eq_some_iff.1 hh3).1 (by simpa using hgne)).trans hh3
 have hO3:=Zbk HO.out k3 (by intro g hg;simp [Value.ownBlock] at hg;subst hg;simpa using hgne)
 obtain ⟨w3,hw3⟩:∃ w3,w3 = w2.setCell ⟨w.heap.size,2,none⟩ (.slice (some ⟨g3,0,none⟩) (so.length + 1) c3):=⟨_,rfl⟩
 rw [<- hw3] at s3 X3 Y3 hh4 hO3 ⊢
 simp only [List.set] at X3
 clear hw3 k3 s2 X2 Y2 y2 z2 HO hh3
 have y3:=X3.cell 2 rfl
 unfold maxLen at hc2
 have e1:((k:Int) + 1).toNat = k + 1:=by omega
 have e2:IntKind.i64.wrap ((k:Int) + 1) = (k:Int) + 1:=by rw [IntKind.wrap_i64];omega
 have e3:(0:Int)<=(k:Int) + 1:=by omega
 have e4:(k:Int) + 1<=(so.length:Int) + 1:=by omega
 have e5:(k:Int)<=(so.length:Int) + 1:=by omega
 have e6:c3 ≠ k:=by omega
 obtain ⟨cs,hcs⟩:∃ cs,cs = ((soI so).map (Value.int .i64)).drop k:=⟨_,rfl⟩
 have hcl:cs.length = so.length - k:=by rw [hcs,List.length_drop,List.length_map,soI_len]
 have q1:cs.length = Nat.min (so.length + 1 - k) (so.length - k):=by rw [hcl];exact (Nat.min_eq_right (by omega)).symm
 have q2:∀ j v,cs[j]? = some v->w3.drew.cell? ((⟨g3,k,none⟩:Addr).add j) = some v:=by
  intro j v hj
  have hjl:=(List.getElem?_eq_some_iff.1 hj).1
  rw [Zug]
  have hcell:=hO3.cellAt (k + j) (by omega)
  rw [List.getElem?_append_left (by rw [List.length_map,soI_len];omega)] at hcell
  rw [hcs,List.getElem?_drop] at hj
  exact hcell.trans hj
 have q3:0 < cs.length->(if c3 = k + 1 then some (⟨g3,0,none⟩:Addr) else some ⟨g3,k + 1,none⟩) = some ⟨g3,k + 1,none⟩/\∃ ad,some (⟨g3,k,none⟩:Addr) = some ad/\∀ j v,cs[j]? = some v->w3.drew.cell? (ad.add j) = some v:=
  fun h0=>⟨by rw [if_neg (by omega)],_,rfl,q2⟩
 have q4:k + 1 + cs.length<=cur3.length:=by omega
 have q5:∀ v∈cs,v.oneCell' = true:=fun v hv=>Zfv (soI so) v (by rw [hcs] at hv;exact List.mem_of_mem_drop hv)
 have q6:(Tryz.prog.info? 3).map (·.size) = some 1:=by rw [ji];simp [jz1]
 have hins:splice ((soI so).map (Value.int .i64) ++ [Value.int .i64 0]) (k + 1) cs = splice ((soI so).map (Value.int .i64) ++ [Value.int .i64 0]) (k + 1) (((soI so).map (Value.int .i64)).drop k):=by rw [hcs]
 have Hins:=zH hins
 have HO3:=zH hO3
 clear hcs q2 hO3 hins
 go_cut [] (fun wx=>wx.ownsRow B 3 1 (.slice (some ⟨g3,0,none⟩) (so.length + 1) c3) (so.length + 1) (splice ((soI so).map (Value.int .i64) ++ [Value.int .i64 0]) (k + 1) cs)/\Only [g3] w3 wx)
 case first=>
  go_region_law (refine Zox rfl (.tmp 20) (.tmp 24) 93 93 rfl 3 Tryz.underlying93 q6 _ _ _ _ _ _ rfl rfl g3 (k + 1) cur3 3 hh4 cs q1 q3 q4 q5 ?_;intro w4 hh5 k4)
  all_goals go_wp2_with fail
  all_goals go_meet
  all_goals exact ⟨Zne HO3.out hh4 (by omega) hh5,((Only.refl [g3] w3).drew).trans k4⟩
 case rest=>
  obtain ⟨hO4,k4⟩:=hcut
  obtain ⟨w4,hnew⟩:∃ W,W = wc:=⟨_,rfl⟩
  subst hnew
  have X4:=X3.only k4 (by simpa using fun e=>hgne e.symm)
  have Y4:=Y3.only k4 (by have:=s3.ap g3 (by simp [Value.ownBlock]);simp;omega)
  have y0:=X4.cell 0 rfl
  have y2:=X4.cell 2 rfl
  have hz3:w4.frozen? ⟨g3,k,none⟩ = false:=hO4.frozenAt k
  obtain ⟨z3,hz4⟩:∃ z,w4.cell? ⟨g3,k,none⟩ = some z:=by
   rw [hO4.cellAt k (by omega)]
   exact ⟨_,List.getElem?_eq_getElem (by have:=hO4.1;omega)⟩
  have HO4:=zH hO4
  clear hO4
  go_upto_region 5 with (fail)
  have k5:Only [g3] w3 (w4.setCell ⟨g3,k,none⟩ (.int .i64 L.length)):=k4.setCell (by simp) _
  have hO5:=(HO4.out.stored k (.int .i64 L.length)).1
  have hset:(splice ((soI so).map (Value.int .i64) ++ [Value.int .i64 0]) (k + 1) cs).set k (.int .i64 L.length) = (soI (so.take k ++ L.length :: so.drop k)).map (Value.int .i64):=by
   rw [Hins.out,Zuu _ _ _ _ (by rw [List.length_map,soI_len];exact hkl)]
   simp [soI,List.map_take,List.map_drop]
  rw [hset] at hO5
  have hsol:(soI (so.take k ++ L.length :: so.drop k)).length = so.length + 1:=by rw [soI_len];simp;omega
  have s5:=s3.set3 (v3':=.slice (some ⟨g3,0,none⟩) (so.length + 1) c3) (si':=soI (so.take k ++ L.length :: so.drop k)) (by simpa [Value.ownBlock] using k5) (by rw [hsol];exact hO5) (fun x hx=>.inl hx)
  have X5:=X4.only ((Only.refl [g3] w4).setCell (p:=⟨g3,k,none⟩) (by simp) (.int .i64 L.length)) (by simpa using fun e=>hgne e.symm)
  have Y5:=Y4.only ((Only.refl [g3] w4).setCell (p:=⟨g3,k,none⟩) (by simp) (.int .i64 L.length)) (by have:=s3.ap g3 (by simp [Value.ownBlock]);simp;omega)
  have hv5:Rd (w4.setCell ⟨g3,k,none⟩ (.int .i64 L.length)) v s f:=Rp.only hv s5.on (fun b hb hm=>by
   obtain ⟨-,n2,n3⟩:=List.nodup_append.1 h.fr.nd
   obtain ⟨n4,n5,n6⟩:=List.nodup_append.1 n2
   rcases List.mem_append.1 hm with hm | hm
   ·exact n3 b hm b (by simp [hb]) rfl
   ·exact n6 b (by simp [hb]) b hm rfl)
  obtain ⟨w5,hw5⟩:∃ w5,w5 = w4.setCell ⟨g3,k,none⟩ (.int .i64 L.length):=⟨_,rfl⟩
  rw [<- hw5] at s5 X5 Y5 hv5 ⊢
  clear hw5 k5 hO5 hset hsol s3 X3 Y3 X4 Y4 y0 y2 y3 hz3 hz4 HO4 HO3 hh4 k4 Hins q1 q3 q4 q5 hcl3 hct hcl
  obtain ⟨so2,hso2⟩:∃ x,x = so.take k ++ L.length :: so.drop k:=⟨_,rfl⟩
  rw [<- hso2] at s5
  have Hso2:=zH hso2
  have y0:=X5.cell 0 rfl
  have z0:=X5.frozen 0
  obtain ⟨av,cv,rfl,Iv⟩:=hv5.ints
  clear Iv hso2
  have hap5:∀ b∈f,(Value.slice A1 L.length C1).ownBlock ≠ some b:=fun b hb e=>by
   obtain ⟨-,n2,n3⟩:=List.nodup_append.1 s5.so.fr.nd
   exact n3 b (by rw [e];simp) b (by simp [hb]) rfl
  have na5:w.heap.size ∉ (Value.slice A1 L.length C1).ownBlock.toList:=fun hm=>by have:=s5.ap w.heap.size (by simp at hm;simp [hm]);omega
  have nb5:w.heap.size + 1 ∉ (Value.slice A1 L.length C1).ownBlock.toList:=fun hm=>by have:=s5.ap (w.heap.size + 1) (by simp at hm;simp [hm]);omega
  go_upto_region 6 with (first
   | (at_builtin;refine Zri rfl _ _ 24 rfl B 27 i1 _ 24 Tryz.underlying24 gi gz0 gz1 gz2 rfl (by decide) (by decide) w5 (.slice A1 L.length C1) L fs rfl s5.so.acc (zO.alloc _) (by have:=s5.sz;omega) w5.heap.size 1 [.slice av s.length cv] s f rfl (lit_src _ [.slice av s.length cv] _ rfl) (by intro u hu;simp at hu;subst hu;rfl) (zK hv5 (zO.alloc _)) hap5 (by omega) ?_;intro v6 w6 hA hk hb;obtain ⟨A1',C1',rfl⟩:=hA.form;have s6:=(s5.keep (zO.alloc (.cells #[.slice av s.length cv] 27))).set1 hk hA (ob_sub hb);have X6:=(X5.keep (zO.alloc (.cells #[.slice av s.length cv] 27))).only hk na5;have Y6:=(Y5.keep (zO.alloc (.cells #[.slice av s.length cv] 27))).only hk nb5;clear y0 z0;have y0:=X6.cell 0 rfl;have z0:=X6.frozen 0;clear hA hk hb;rw [List.length_append,List.length_singleton] at s6 ⊢)
   | fail)
  have k7:Only [w.heap.size] w6 (w6.setCell ⟨w.heap.size,0,none⟩ (.slice A1' (L.length + 1) C1')):=zO.setCell (by simp) _
  have s7:=s6.box k7 (by intro b hb;left;simpa using hb)
  have X7:=X6.set 0 (.slice A1' (L.length + 1) C1')
  have Y7:=Y6.only k7 (by simp)
  obtain ⟨w7,hw7⟩:∃ w7,w7 = w6.setCell ⟨w.heap.size,0,none⟩ (.slice A1' (L.length + 1) C1'):=⟨_,rfl⟩
  rw [<- hw7] at s7 X7 Y7 ⊢
  simp only [List.set] at X7
  clear hw7 k7 s6 X6 Y6 y0 z0 s5 X5 Y5 hv5 hap5 na5 nb5
  have y1:=X7.cell 1 rfl
  have z1:=X7.frozen 1
  have na7:w.heap.size ∉ (Value.slice A2 D.length C2).ownBlock.toList:=fun hm=>by have:=s7.ap w.heap.size (by simp at hm;simp [hm]);omega
  have nb7:w.heap.size + 1 ∉ (Value.slice A2 D.length C2).ownBlock.toList:=fun hm=>by have:=s7.ap (w.heap.size + 1) (by simp at hm;simp [hm]);omega
  have hDl2:D.length < 3000:=by rw [HDl.out];exact hL
  go_upto_region 7 with (first
   | (at_builtin;refine Zcs _ rfl _ _ 27 rfl B 2 i0 _ 1 8 Tryz.underlying27 hi hz0 hz1 hz2 rfl (by omega) (.slice A2 D.length C2) D.length (D.map (Value.int .i64)) rfl (Zbu s7.so.dep (zO.alloc _)) (some ⟨w7.heap.size,0,none⟩) 1 1 [.int .i64 d] rfl rfl (Zcq _ [.int .i64 d] _ rfl) (by simp) (by intro u hu;simp at hu;subst hu;rfl) (by unfold maxLen;omega) (by omega) (by have:=s7.sz;simp;omega) ?_;intro v8 w8 hO hg hb;obtain ⟨A2',C2',rfl⟩:=Zte hO;have k8:=(Only.refl (Value.slice A2 D.length C2).ownBlock.toList _).grown hg (by intro k hk _;simp [hk]);have s8:=(s7.keep (zO.alloc (.cells #[.int .i64 d] 2))).set2 k8 (D':=D ++ [d]) (by rw [List.map_append,List.length_append];exact hO) (ob_sub hb);have X8:=(X7.keep (zO.alloc (.cells #[.int .i64 d] 2))).only k8 na7;have Y8:=(Y7.keep (zO.alloc (.cells #[.int .i64 d] 2))).only k8 nb7;clear y1 z1;have y1:=X8.cell 1 rfl;have z1:=X8.frozen 1;clear hO hg hb k8)
   | fail)
  have k9:Only [w.heap.size] w8 (w8.setCell ⟨w.heap.size,1,none⟩ (.slice A2' (D.length + 1) C2')):=zO.setCell (by simp) _
  have s9:=s8.box k9 (by intro b hb;left;simpa using hb)
  have X9:=X8.set 1 (.slice A2' (D.length + 1) C2')
  have Y9:=Y8.only k9 (by simp)
  obtain ⟨w9,hw9⟩:∃ w9,w9 = w8.setCell ⟨w.heap.size,1,none⟩ (.slice A2' (D.length + 1) C2'):=⟨_,rfl⟩
  rw [<- hw9] at s9 X9 Y9 ⊢
  simp only [List.set] at X9
  clear hw9 k9 s8 X8 Y8 y1 z1 s7 X7 Y7 na7 nb7
  obtain ⟨y0,y1,y2,y3⟩:=X9.c4
  obtain ⟨r0,r1,r2,r3⟩:=Y9.c4
  obtain ⟨z0,z1,z2,z3⟩:=Y9.f4
  go_wp2_with fail
  have kf:Only [w.heap.size + 1] w9 ((((w9.setCell ⟨w.heap.size + 1,0,none⟩ (.slice A1' (L.length + 1) C1')).setCell ⟨w.heap.size + 1,1,none⟩ (.slice A2' (D.length + 1) C2')).setCell ⟨w.heap.size + 1,2,none⟩ (.slice (some ⟨g3,0,none⟩) (so.length + 1) c3)).setCell ⟨w.heap.size + 1,3,none⟩ (.bool wh)):=
   (((zO.setCell (by simp) _).setCell (by simp) _).setCell (by simp) _).setCell (by simp) _
  have sf:=s9.box kf (by intro b hb;right;simpa using hb)
  have Yf:=(((Y9.set 0 (.slice A1' (L.length + 1) C1')).set 1 (.slice A2' (D.length + 1) C2')).set 2 (.slice (some ⟨g3,0,none⟩) (so.length + 1) c3)).set 3 (.bool wh)
  obtain ⟨wf,hwf⟩:∃ wf,wf = ((((w9.setCell ⟨w.heap.size + 1,0,none⟩ (.slice A1' (L.length + 1) C1')).setCell ⟨w.heap.size + 1,1,none⟩ (.slice A2' (D.length + 1) C2')).setCell ⟨w.heap.size + 1,2,none⟩ (.slice (some ⟨g3,0,none⟩) (so.length + 1) c3)).setCell ⟨w.heap.size + 1,3,none⟩ (.bool wh)):=⟨_,rfl⟩
  rw [<- hwf] at sf Yf ⊢
  simp only [List.set] at Yf
  clear hwf kf s9 X9 Y9 y0 y1 y2 y3 r0 r1 r2 r3 z0 z1 z2 z3
  obtain ⟨r0,r1,r2,r3⟩:=Yf.c4
  refine bodyPost_ret (v:=.agg #[.slice A1' (L.length + 1) C1',.slice A2' (D.length + 1) C2',.slice (some ⟨g3,0,none⟩) (so.length + 1) c3,.bool wh]) (by simp [results,Tryz.results163,go_sem,r0,r1,r2,r3]) rfl
   ⟨A1',A2',_,C1',C2',_,so2,rfl,sf.so,?_,?_,sf.on,sf.iv⟩
  ·have hS:=HS.out.add Hs.out Hn.out Hk.out
   rw [<- Hso2.out] at hS
   exact hS
  ·rw [Hso2.out];simp;omega
set_option maxHeartbeats 1000000 in
theorem Zeh (cs:List Value) (x:Puzzle) (fp:List Nat) (v:Value) (l:List Int) (f2:List Nat) (w:World) (h:Rp.rep w cs x fp) (h2:Rd w v l f2) :
  Calls Tryz.prog 150 #[.agg cs.toArray,v] w fun e w'=>e = .returned (.bool (validPz x && trackB x.points l))/\Only [] w w':=by
 have h0:=h
 obtain ⟨v2,rfl,p0,p1,hm⟩:=h
 rcases hq:validPz x
 ·go_enter Tryz.func150,Tryz.ntmps150
  go_wp2_with ((go_at_call 25;(with_reducible refine (Zal [.int .i64 x.points,.string x.names,v2] x _ _ (zK h0 zA)).mono ?_);rintro e w1 ⟨he,t1⟩;rw [hq] at he;subst he))
  go_ret
  exact ⟨rfl,zA⟩
 obtain ⟨g1,g2,g3,g4⟩:=Zae hq
 have hB:=Blk.new_at (w:=w) (cs:=[.int .i64 x.points,.string x.names,v2]) (t:=26) rfl
 go_enter Tryz.func150,Tryz.ntmps150
 go_wp2_with (first | (go_at_call 25;(with_reducible refine (Zal [.int .i64 x.points,.string x.names,v2] x _ _ (zK h0 zA)).mono ?_);rintro e w1 ⟨he,t1⟩;rw [hq] at he;subst he;have y0:=(hB.keep t1).cell 0 rfl) | (go_at_call 173;(with_reducible refine (Zng x.points v l _ _ (zK h2 zA) (by omega) (by omega)).mono ?_);rintro e w2 ⟨rfl,m2,rfl⟩))
 go_ret
 exact ⟨rfl,zA⟩
end Go.Proofs.YtjfmkolnleicnaaGreatDoor
