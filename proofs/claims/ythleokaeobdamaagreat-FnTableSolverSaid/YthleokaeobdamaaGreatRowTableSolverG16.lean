/- Valid tables, sets of tables: the reference's and the program's functions (laws 40, 42, 43, 52). (Printed by mkvtab.py.) -/
import Derived.Test.YthleokaeobdamaaGreatRowTableSolverG15
import Derived.Test.YthleokaeobdamaaGreatRowTableSolverG10
import Derived.Test.YthleokaeobdamaaGreatRowTableSolverG2
import Derived.Test.YthleokaeobdamaaGreatRowTableSolverG3
import Derived.Deep.RegionHeld3
import Derived.Test.YthleokaeobdamaaGreatRowTableSolverG14
import Derived.Deep.RegionLaw
import Derived.Test.YthleokaeobdamaaGreatRowTableSolverG1
namespace Go.Proofs.YthleokaeobdamaaGreat
open Go.RowKit
set_option maxRecDepth 10000
set_option maxHeartbeats 2000000 in
theorem Zhi (cs ds:List Value) (x:Puzzle) (t:Table) (fp f2:List Nat) (w:World) (h:Rp.rep w cs x fp) (h2:Rp.rep w ds t f2) (htl:t.tracked.length<=2097152) :
  Calls Tryz.prog 214 #[.agg cs.toArray,.agg ds.toArray] w fun e w'=>e = .returned (.bool (validT x t))/\Only [] w w':=by
 have h0:=h
 have h20:=h2
 obtain ⟨v2,rfl,p0,p1,hm⟩:=h
 obtain ⟨A3,C3,_,_,rfl,-,-⟩:=hm.open_
 obtain ⟨u0,u1,u2,q0,q1,q2,rfl,rfl,r0,r1,r2⟩:=h2
 obtain ⟨A0,C0,_,_,rfl,-,-⟩:=r0.open_
 obtain ⟨A1,C1,_,_,rfl,-,-⟩:=r1.open_
 obtain ⟨A2,C2,_,_,rfl,-,-⟩:=r2.open_
 have h20':Rp.rep w [.slice A0 t.tracked.length C0,.slice A1 t.patterns.length C1,.slice A2 t.distances.length C2] t (q0 ++ (q1 ++ q2)):=h20
 have Y0:Blk ((w.alloc (.cells #[.int .i64 x.points,.string x.names,.slice A3 x.moves.length C3] 26)).alloc (.cells #[.slice A0 t.tracked.length C0,.slice A1 t.patterns.length C1,.slice A2 t.distances.length C2] 41)) (w.heap.size + 1) [.slice A0 t.tracked.length C0,.slice A1 t.patterns.length C1,.slice A2 t.distances.length C2]:=Blk.new_at (by simp)
 have y0:=Y0.cell 0 rfl
 clear p0 p1 r1 r2
 rcases hb:bTab x t.tracked with _ | u
 ·have hv:validT x t = false:=by unfold validT;rw [hb];rfl
  have Hb:=zH hb
  have Hv:=zH hv
  clear hb hv
  go_enter Tryz.func214,Tryz.ntmps214
  go_wp2_with (first
   | (go_at_call 54;(with_reducible refine (Zcy [.int .i64 x.points,.string x.names,.slice A3 x.moves.length C3] x _ _ t.tracked _ _ (zK h0 zA) (zK r0 zA) htl).mono ?_);rintro e w4 ⟨cs4,f4,he4,r4,F4,t4⟩;rw [Hb.out] at he4 r4;obtain ⟨u1,u2,u3,e1,e2,e3,rfl,-,s1,s2,s3⟩:=r4;obtain ⟨a1,k1,_,_,rfl,-,-⟩:=s1.open_;obtain ⟨a2,k2,_,_,rfl,-,-⟩:=s2.open_;obtain ⟨a3,k3,_,_,rfl,-,-⟩:=s3.open_;subst he4;have Z:=Blk.new w4 [.slice none 0 0,.slice none 0 0,.slice none 0 0] 41;obtain ⟨g0,g1,g2⟩:=Z.c3;obtain ⟨p0,p1,p2⟩:=Z.f3)
   | fail)
  go_ret
  exact ⟨Zaa Hv.out.symm,zA⟩
 ·have hv:validT x t = eqV u t:=by unfold validT;rw [hb];rfl
  have Hb:=zH hb
  have Hv:=zH hv
  clear hb hv
  go_enter Tryz.func214,Tryz.ntmps214
  go_wp2_with (first
   | (go_at_call 54;(with_reducible refine (Zcy [.int .i64 x.points,.string x.names,.slice A3 x.moves.length C3] x _ _ t.tracked _ _ (zK h0 zA) (zK r0 zA) htl).mono ?_);rintro e w4 ⟨cs4,f4,he4,r4,F4,t4⟩;rw [Hb.out] at he4 r4;have rr:=id r4;obtain ⟨u1,u2,u3,e1,e2,e3,rfl,-,s1,s2,s3⟩:=r4;simp only [List.cons_append,List.nil_append,Option.getD] at rr;obtain ⟨a1,k1,_,_,rfl,-,-⟩:=s1.open_;obtain ⟨a2,k2,_,_,rfl,-,-⟩:=s2.open_;obtain ⟨a3,k3,_,_,rfl,-,-⟩:=s3.open_;subst he4;have Z:=Blk.new w4 [.slice none 0 0,.slice none 0 0,.slice none 0 0] 41;obtain ⟨g0,g1,g2⟩:=Z.c3;obtain ⟨p0,p1,p2⟩:=Z.f3;have Zn:=Blk.new w4 [.slice a1 u.tracked.length k1,.slice a2 u.patterns.length k2,.slice a3 u.distances.length k3] 41;obtain ⟨n0,n1,n2⟩:=Zn.c3;have Yn:=(Y0.keep t4).keep ((Only.refl [] w4).alloc (.cells #[.slice a1 u.tracked.length k1,.slice a2 u.patterns.length k2,.slice a3 u.distances.length k3] 41));obtain ⟨m0,m1,m2⟩:=Yn.c3;have rn:=zK rr ((Only.refl [] w4).alloc (.cells #[.slice a1 u.tracked.length k1,.slice a2 u.patterns.length k2,.slice a3 u.distances.length k3] 41)))
   | (go_at_call 15;(with_reducible refine (Zeu [.slice a1 u.tracked.length k1,.slice a2 u.patterns.length k2,.slice a3 u.distances.length k3] [.slice A0 t.tracked.length C0,.slice A1 t.patterns.length C1,.slice A2 t.distances.length C2] u t _ _ _ rn (zK h20' zA)).mono ?_);rintro e w5 ⟨rfl,t5⟩)
   | fail)
  go_ret
  exact ⟨Zaa Hv.out.symm,zA⟩
set_option maxHeartbeats 2000000 in
theorem Zhe (cs ds:List Value) (x:Puzzle) (t:Table) (fp f2:List Nat) (w:World) (h:Rp.rep w cs x fp) (h2:Rp.rep w ds t f2) (htl:t.tracked.length<=2097152) :
  Calls Tryz.prog 208 #[.agg cs.toArray,.agg ds.toArray] w fun e w'=>e = .returned (.bool (validT x t))/\Only [] w w':=by
 have h0:=h
 have h20:=h2
 obtain ⟨v2,rfl,p0,p1,hm⟩:=h
 obtain ⟨A3,C3,_,_,rfl,-,-⟩:=hm.open_
 obtain ⟨u0,u1,u2,q0,q1,q2,rfl,rfl,r0,r1,r2⟩:=h2
 obtain ⟨A0,C0,_,_,rfl,-,-⟩:=r0.open_
 obtain ⟨A1,C1,_,_,rfl,-,-⟩:=r1.open_
 obtain ⟨A2,C2,_,_,rfl,-,-⟩:=r2.open_
 have h20':Rp.rep w [.slice A0 t.tracked.length C0,.slice A1 t.patterns.length C1,.slice A2 t.distances.length C2] t (q0 ++ (q1 ++ q2)):=h20
 have Y0:Blk ((w.alloc (.cells #[.int .i64 x.points,.string x.names,.slice A3 x.moves.length C3] 26)).alloc (.cells #[.slice A0 t.tracked.length C0,.slice A1 t.patterns.length C1,.slice A2 t.distances.length C2] 41)) (w.heap.size + 1) [.slice A0 t.tracked.length C0,.slice A1 t.patterns.length C1,.slice A2 t.distances.length C2]:=Blk.new_at (by simp)
 have y0:=Y0.cell 0 rfl
 clear p0 p1 r1 r2
 rcases hb:bTab x t.tracked with _ | u
 ·have hv:validT x t = false:=by unfold validT;rw [hb];rfl
  have Hb:=zH hb
  have Hv:=zH hv
  clear hb hv
  go_enter Tryz.func208,Tryz.ntmps208
  go_wp2_with (first
   | (go_at_call 52;(with_reducible refine (Zcw [.int .i64 x.points,.string x.names,.slice A3 x.moves.length C3] x _ _ t.tracked _ _ (zK h0 zA) (zK r0 zA) htl).mono ?_);rintro e w4 ⟨cs4,f4,he4,r4,F4,t4⟩;rw [Hb.out] at he4 r4;obtain ⟨u1,u2,u3,e1,e2,e3,rfl,-,s1,s2,s3⟩:=r4;obtain ⟨a1,k1,_,_,rfl,-,-⟩:=s1.open_;obtain ⟨a2,k2,_,_,rfl,-,-⟩:=s2.open_;obtain ⟨a3,k3,_,_,rfl,-,-⟩:=s3.open_;subst he4;have Z:=Blk.new w4 [.slice none 0 0,.slice none 0 0,.slice none 0 0] 41;obtain ⟨g0,g1,g2⟩:=Z.c3;obtain ⟨p0,p1,p2⟩:=Z.f3)
   | fail)
  go_ret
  exact ⟨Zaa Hv.out.symm,zA⟩
 ·have hv:validT x t = eqV u t:=by unfold validT;rw [hb];rfl
  have Hb:=zH hb
  have Hv:=zH hv
  clear hb hv
  go_enter Tryz.func208,Tryz.ntmps208
  go_wp2_with (first
   | (go_at_call 52;(with_reducible refine (Zcw [.int .i64 x.points,.string x.names,.slice A3 x.moves.length C3] x _ _ t.tracked _ _ (zK h0 zA) (zK r0 zA) htl).mono ?_);rintro e w4 ⟨cs4,f4,he4,r4,F4,t4⟩;rw [Hb.out] at he4 r4;have rr:=id r4;obtain ⟨u1,u2,u3,e1,e2,e3,rfl,-,s1,s2,s3⟩:=r4;simp only [List.cons_append,List.nil_append,Option.getD] at rr;obtain ⟨a1,k1,_,_,rfl,-,-⟩:=s1.open_;obtain ⟨a2,k2,_,_,rfl,-,-⟩:=s2.open_;obtain ⟨a3,k3,_,_,rfl,-,-⟩:=s3.open_;subst he4;have Z:=Blk.new w4 [.slice none 0 0,.slice none 0 0,.slice none 0 0] 41;obtain ⟨g0,g1,g2⟩:=Z.c3;obtain ⟨p0,p1,p2⟩:=Z.f3;have Zn:=Blk.new w4 [.slice a1 u.tracked.length k1,.slice a2 u.patterns.length k2,.slice a3 u.distances.length k3] 41;obtain ⟨n0,n1,n2⟩:=Zn.c3;have Yn:=(Y0.keep t4).keep ((Only.refl [] w4).alloc (.cells #[.slice a1 u.tracked.length k1,.slice a2 u.patterns.length k2,.slice a3 u.distances.length k3] 41));obtain ⟨m0,m1,m2⟩:=Yn.c3;have rn:=zK rr ((Only.refl [] w4).alloc (.cells #[.slice a1 u.tracked.length k1,.slice a2 u.patterns.length k2,.slice a3 u.distances.length k3] 41)))
   | (go_at_call 235;(with_reducible refine (Ziu [.slice a1 u.tracked.length k1,.slice a2 u.patterns.length k2,.slice a3 u.distances.length k3] [.slice A0 t.tracked.length C0,.slice A1 t.patterns.length C1,.slice A2 t.distances.length C2] u t _ _ _ rn (zK h20' zA)).mono ?_);rintro e w5 ⟨rfl,t5⟩)
   | fail)
  go_ret
  exact ⟨Zaa Hv.out.symm,zA⟩
set_option maxHeartbeats 2000000 in
theorem Zem (cs:List Value) (x:Puzzle) (fp:List Nat) (v:Value) (ts:List Table) (ft:List Nat) (w:World) (h:Rp.rep w cs x fp) (hv:Rd w v ts ft) (hsm:∀ t∈ts,t.tracked.length<=2097152) :
  Calls Tryz.prog 158 #[.agg cs.toArray,v] w fun e w'=>e = .returned (.bool (tabSet x ts))/\Only [] w w':=by
 have h0:=h
 obtain ⟨v2,rfl,p0,p1,h2⟩:=h
 obtain ⟨A3,C3,_,_,rfl,-,-⟩:=h2.open_
 obtain ⟨a,cap,ob,fps,rfl,-,hS⟩:=hv.open_
 have hb:=hS.bound
 clear p0 p1
 have X0:=Blk.new w [.int .i64 x.points,.string x.names,.slice A3 x.moves.length C3] 26
 rcases hq:validPz x
 ·have Hn:=zH (by unfold tabSet;rw [hq];rfl:tabSet x ts = false)
  go_enter Tryz.func158,Tryz.ntmps158
  go_wp2_with ((go_at_call 131;(with_reducible refine (Zan [.int .i64 x.points,.string x.names,.slice A3 x.moves.length C3] x _ _ (zK h0 zA)).mono ?_);rintro e w1 ⟨he,t1⟩;rw [hq] at he;subst he))
  go_ret
  exact ⟨Zaa Hn.out.symm,zA⟩
 by_cases hl:ts.length<=4
 ·have hn:tabSet x ts = ts.all (validT x):=by unfold tabSet;rw [hq,decide_eq_true hl];rfl
  have Hn:=zH hn
  have Hsm:=zH hsm
  clear hn hsm
  go_enter Tryz.func158,Tryz.ntmps158
  go_wp2_with ((go_at_call 131;(with_reducible refine (Zan [.int .i64 x.points,.string x.names,.slice A3 x.moves.length C3] x _ _ (zK h0 zA)).mono ?_);rintro e w1 ⟨he,t1⟩;rw [hq] at he;subst he))
  have K1:Only [] w w1:=zA
  have X1:=X0.keep t1
  clear X0 t1
  go_loopw [5] (fun i wr=>∃ j:Nat,j<=ts.length/\i = .int .i64 j/\(∀ t∈ts.take j,validT x t = true)/\Only [] w1 wr)
   (fun i _=>ts.length - (intOf i).toNat)
  case atStart=>exact ⟨0,Nat.zero_le _,rfl,by simp,Only.refl _ _⟩
  case round=>
   obtain ⟨W2,hnew⟩:∃ W,W = wr:=⟨_,rfl⟩
   subst hnew
   obtain ⟨j,hj,rfl,hr,hK⟩:=hrel
   have Hr:=zH hr
   clear hr
   by_cases hlt:j < ts.length
   ·obtain ⟨b,off,v1,v2,v3,rfl,-,c1,c2,c3,hv0⟩:=hS.at3 j hlt
    have KK:=K1.trans hK
    have d1:=KK.cell (by simp) c1
    have d2:=KK.cell (by simp) c2
    have d3:=KK.cell (by simp) c3
    have X2:=X1.keep hK
    obtain ⟨x0,x1,x2⟩:=X2.c3
    have Hc:=zH (fun (W:World) (hh:Only [] W2 W)=>Zhi [.int .i64 x.points,.string x.names,.slice A3 x.moves.length C3] [v1,v2,v3] x ts[j] _ _ W (zK h0 (KK.trans hh)) (zK hv0 (KK.trans hh)) (Hsm.out _ (List.getElem_mem hlt)))
    have Hmem:=zH (List.getElem_mem hlt)
    clear c1 c2 c3 hv0
    rcases hp:validT x ts[j]
    all_goals go_wp2
    all_goals go_region_held3 (fun w'=>Only [] W2 w'/\w'.cell? ⟨w.heap.size,0,none⟩ = some (.int .i64 x.points)/\w'.cell? ⟨w.heap.size,1,none⟩ = some (.string x.names)/\w'.cell? ⟨w.heap.size,2,none⟩ = some (.slice A3 x.moves.length C3)/\w'.cell? ⟨b,off + j * 3,none⟩ = some (v1)/\w'.cell? ⟨b,off + j * 3 + 1,none⟩ = some (v2)/\w'.cell? ⟨b,off + j * 3 + 2,none⟩ = some (v3)) (((refine and_of ?_ (fun q_=>⟨q_.ce x0,q_.ce x1,q_.ce x2,q_.ce d1,q_.ce d2,q_.ce d3⟩));first | exact zO.drew | exact (zO.drewN _).drew | exact Only.trans (And.left (by assumption)) (by assumption) | exact Only.alloc (And.left (by assumption)) _ | assumption)) (first | (go_at_call 214;(with_reducible refine (Hc.out _ (And.left (by assumption))).mono ?_);rintro e w4 ⟨he,t4⟩;rw [hp] at he;subst he) | fail)
    all_goals have k4:Only [] W2 w4:=(Only.refl [] W2).trans (And.left (by assumption))
    all_goals go_wp2
    ·go_ret
     exact ⟨Zaa (by rw [Hn.out];exact (List.all_eq_false.2 ⟨_,Hmem.out,by simp [hp]⟩).symm),KK.trans k4⟩
    ·go_roundw
     case rel=>exact ⟨j + 1,by omega,by go_num,by
      rw [Zab ts j hlt];intro t ht
      rcases List.mem_append.1 ht with ht | ht
      ·exact Hr.out t ht
      ·simp at ht;subst ht;exact hp,hK.trans k4⟩
     case measure=>simp [intOf];omega
   ·go_wp2
    go_ret
    exact ⟨Zaa (by rw [Hn.out];exact (List.all_eq_true.2 (by have:=Hr.out;rwa [List.take_of_length_le (by omega)] at this)).symm),K1.trans hK⟩
 ·have Hn:=zH (by unfold tabSet;rw [hq,decide_eq_false hl];rfl:tabSet x ts = false)
  go_enter Tryz.func158,Tryz.ntmps158
  go_wp2_with ((go_at_call 131;(with_reducible refine (Zan [.int .i64 x.points,.string x.names,.slice A3 x.moves.length C3] x _ _ (zK h0 zA)).mono ?_);rintro e w1 ⟨he,t1⟩;rw [hq] at he;subst he))
  go_ret
  exact ⟨Zaa Hn.out.symm,zA⟩
set_option maxHeartbeats 400000 in
theorem Zmp (f:FuncId) (caps:Array Value) (pr:Table->Bool) (hcf:∀ args w,(callFunc f args).run Tryz.prog w = .ok (.enter f args) w)
  (v:Value) (l:List Table) (fp:List Nat) (w:World) (h:Rd w v l fp)
  (hc:∀ x∈l,∀ v1 v2 v3 f' w',Only [] w w'->Rp.rep w' [v1,v2,v3] x f'->Calls Tryz.prog f (#[.agg #[v1,v2,v3]] ++ caps) w' fun e w''=>e = .returned (.bool (pr x))/\Only [] w' w'') :
  Calls Tryz.prog 234 #[v,.func (.func f) #[] caps] w fun e w'=>e = .returned (.int .i64 (idxF pr l))/\Only [] w w':=by
 obtain ⟨a,cap,ob,fps,rfl,-,hI⟩:=h.open_
 have hb:=hI.bound
 have HC:=zH hc
 clear hc
 go_enter Tryz.func234,Tryz.ntmps234
 go_wp2
 go_loopw [5,8] (fun i t wr=>∃ j:Nat,j<=l.length/\t = .int .i64 j/\(∀ x∈l.take j,pr x = false)/\Only [] w wr)
  (fun _ t _=>l.length - (intOf t).toNat)
 case atStart=>exact ⟨0,Nat.zero_le _,rfl,by simp,Only.refl _ _⟩
 case round=>
  obtain ⟨j,hj,rfl,hr,hK⟩:=hrel
  have Hr:=zH hr;clear hr
  by_cases hlt:j < l.length
  ·obtain ⟨b,off,v1,v2,v3,rfl,-,c1,c2,c3,hv0⟩:=hI.at3 j hlt
   have d1:=hK.cell (by simp) c1
   have d2:=hK.cell (by simp) c2
   have d3:=hK.cell (by simp) c3
   have hv:=zK hv0 hK
   clear c1 c2 c3 hv0
   rcases hp:pr l[j]
   all_goals go_wp2_with (with_reducible refine (HC.out l[j] (List.getElem_mem _) v1 v2 v3 _ wr hK hv).mono ?_;rintro e w1 ⟨rfl,hk1⟩)
   ·go_roundw
    case rel=>exact ⟨j + 1,by omega,by go_num,by
     rw [Zab l j hlt];intro x hx
     rcases List.mem_append.1 hx with hx | hx
     ·exact Hr.out x hx
     ·simp at hx;subst hx;exact hp,hK.trans hk1⟩
    case measure=>simp [intOf];omega
   ·go_ret
    exact ⟨ret_int (Zel hlt Hr.out hp).symm,hK.trans hk1⟩
  ·go_wp2
   go_ret
   exact ⟨ret_int (Zfw (by have:=Hr.out;rwa [List.take_of_length_le (by omega)] at this)).symm,hK⟩
set_option maxHeartbeats 400000 in
theorem Zio (f:FuncId) (caps:Array Value) (pr:Table->Bool) (hcf:∀ args w,(callFunc f args).run Tryz.prog w = .ok (.enter f args) w)
  (v:Value) (l:List Table) (fp:List Nat) (w:World) (h:Rd w v l fp)
  (hc:∀ x∈l,∀ v1 v2 v3 f' w',Only [] w w'->Rp.rep w' [v1,v2,v3] x f'->Calls Tryz.prog f (#[.agg #[v1,v2,v3]] ++ caps) w' fun e w''=>e = .returned (.bool (pr x))/\Only [] w' w'') :
  Calls Tryz.prog 206 #[v,.func (.func f) #[] caps] w fun e w'=>e = .returned (.bool (l.any pr))/\Only [] w w':=by
 have HC:=zH hc
 clear hc
 go_enter Tryz.func206,Tryz.ntmps206
 go_wp2_with ((go_at_call 234;(with_reducible refine (Zmp f caps pr hcf v l _ w h HC.out).mono ?_);rintro e w1 ⟨rfl,hk⟩))
 go_ret
 exact ⟨Zaa idxF_ge,hk⟩
set_option maxHeartbeats 1000000 in
theorem Zlu (v2:Value) (x:Puzzle) (fp:List Nat) (v1 v3 v4:Value) (t:Table) (ft:List Nat) (b:Nat) (w:World) (h:Rp.rep w [.int .i64 x.points,.string x.names,v2] x fp) (hB:Blk w b [.int .i64 x.points,.string x.names,v2]) (ht:Rp.rep w [v1,v3,v4] t ft) (htl:t.tracked.length<=2097152) :
  Calls Tryz.prog 207 #[.agg #[v1,v3,v4],.pointer (some ⟨b,0,none⟩)] w fun e w'=>e = .returned (.bool (!validT x t))/\Only [] w w':=by
 have Y:=hB.keep ((Only.refl [] w).alloc (.cells #[v1,v3,v4] 41))
 obtain ⟨y0,y1,y2⟩:=Y.c3
 go_enter Tryz.func207,Tryz.ntmps207
 go_wp2_with ((go_at_call 208;(with_reducible refine (Zhe [.int .i64 x.points,.string x.names,v2] [v1,v3,v4] x t _ _ _ (zK h zA) (zK ht zA) htl).mono ?_);rintro e w1 ⟨rfl,t1⟩))
 go_ret
 exact ⟨rfl,zA⟩
set_option maxHeartbeats 1000000 in
theorem Zen (cs:List Value) (x:Puzzle) (fp:List Nat) (v:Value) (ts:List Table) (ft:List Nat) (w:World) (h:Rp.rep w cs x fp) (hv:Rd w v ts ft) (hsm:∀ t∈ts,t.tracked.length<=2097152) :
  Calls Tryz.prog 150 #[.agg cs.toArray,v] w fun e w'=>e = .returned (.bool (tabSet x ts))/\Only [] w w':=by
 have h0:=h
 obtain ⟨v2,rfl,p0,p1,h2⟩:=h
 obtain ⟨A3,C3,_,_,rfl,-,-⟩:=h2.open_
 obtain ⟨a,cap,ob,fps,rfl,-,hS⟩:=hv.open_
 have hb:=hS.bound
 clear p0 p1
 have X0:=Blk.new w [.int .i64 x.points,.string x.names,.slice A3 x.moves.length C3] 26
 rcases hq:validPz x
 ·have Hn:=zH (by unfold tabSet;rw [hq];rfl:tabSet x ts = false)
  go_enter Tryz.func150,Tryz.ntmps150
  go_wp2_with ((go_at_call 128;(with_reducible refine (Zav [.int .i64 x.points,.string x.names,.slice A3 x.moves.length C3] x _ _ (zK h0 zA)).mono ?_);rintro e w1 ⟨he,t1⟩;rw [hq] at he;subst he))
  go_ret
  exact ⟨Zaa Hn.out.symm,zA⟩
 by_cases hl:ts.length<=4
 ·have hn:tabSet x ts = !(ts.any fun t=>!validT x t):=by unfold tabSet;rw [hq,decide_eq_true hl,List.not_any_eq_all_not];simp
  have Hn:=zH hn
  have hl':(ts.length:Int)<=4:=by omega
  have Hc:=zH (fun (W:World) (hh:Only [] (w.alloc (.cells #[.int .i64 x.points,.string x.names,.slice A3 x.moves.length C3] 26)) W)=>Zio 207 #[.pointer (some ⟨w.heap.size,0,none⟩)] (fun t=>!validT x t) Tryz.call207 (.slice a ts.length cap) ts _ W (zK hv (((Only.refl [] w).alloc _).trans hh))
   (fun t ht v1 v3 v4 f' w' hw hu=>Zlu _ x fp v1 v3 v4 t f' w.heap.size w' (zK h0 ((((Only.refl [] w).alloc _).trans hh).trans hw)) ((X0.keep hh).keep hw) hu (hsm t ht)))
  clear hn hsm
  rcases hany:ts.any fun t=>!validT x t
  all_goals go_enter Tryz.func150,Tryz.ntmps150
  all_goals go_wp2_with (first
   | (go_at_call 128;(with_reducible refine (Zav [.int .i64 x.points,.string x.names,.slice A3 x.moves.length C3] x _ _ (zK h0 zA)).mono ?_);rintro e w1 ⟨he,t1⟩;rw [hq] at he;subst he)
   | (go_at_call 206;(with_reducible refine (Hc.out _ zA).mono ?_);rintro e w2 ⟨he,t2⟩;rw [hany] at he;subst he)
   | fail)
  all_goals go_ret
  all_goals exact ⟨Zaa (by rw [Hn.out,hany];rfl),zA⟩
 ·have Hn:=zH (by unfold tabSet;rw [hq,decide_eq_false hl];rfl:tabSet x ts = false)
  have hl':¬ (ts.length:Int)<=4:=by omega
  go_enter Tryz.func150,Tryz.ntmps150
  go_wp2_with ((go_at_call 128;(with_reducible refine (Zav [.int .i64 x.points,.string x.names,.slice A3 x.moves.length C3] x _ _ (zK h0 zA)).mono ?_);rintro e w1 ⟨he,t1⟩;rw [hq] at he;subst he))
  go_ret
  exact ⟨Zaa Hn.out.symm,zA⟩
set_option maxHeartbeats 1000000 in
theorem Zlz (ds:List Value) (t:Table) (f2:List Nat) (v:Value) (p:List Int) (f3:List Nat) (w:World) (h:Rp.rep w ds t f2) (h2:Rd w v p f3) :
  Calls Tryz.prog 215 #[.agg ds.toArray,v] w fun e w'=>e = .returned (.int .i64 (idxL t.patterns p))/\Only [] w w':=by
 obtain ⟨u0,u1,u2,q0,q1,q2,rfl,rfl,r0,r1,r2⟩:=h
 obtain ⟨A1,C1,ob,fps,rfl,-,hS⟩:=r1.open_
 have hb:=hS.bound
 have X0:=Blk.new w [u0,.slice A1 t.patterns.length C1,u2] 41
 simp only [List.toArray] at X0
 go_enter Tryz.func215,Tryz.ntmps215
 go_wp2
 go_loopw [5] (fun i wr=>∃ j:Nat,j<=t.patterns.length/\i = .int .i64 j/\(∀ q∈t.patterns.take j,decide (q = p) = false)/\Only [] (w.alloc (.cells #[u0,.slice A1 t.patterns.length C1,u2] 41)) wr)
  (fun i _=>t.patterns.length - (intOf i).toNat)
 case atStart=>exact ⟨0,Nat.zero_le _,rfl,by simp,Only.refl _ _⟩
 case round=>
  obtain ⟨W2,hnew⟩:∃ W,W = wr:=⟨_,rfl⟩
  subst hnew
  obtain ⟨j,hj,rfl,hr,hK⟩:=hrel
  have Hr:=zH hr
  clear hr
  have y1:=(X0.keep hK).cell 1 rfl
  have KK:=((Only.refl [] w).alloc (.cells #[u0,.slice A1 t.patterns.length C1,u2] 41)).trans hK
  by_cases hlt:j < t.patterns.length
  ·obtain ⟨b,off,u,rfl,-,hc0,hu0⟩:=hS.atRow j hlt
   have hc:=KK.cell (by simp) hc0
   have hu:=zK hu0 KK
   have h2':=zK h2 KK
   clear hc0 hu0
   rcases hq:eqV t.patterns[j] p
   all_goals go_wp2_with ((go_at_call 56;(with_reducible refine (Zar u v t.patterns[j] p _ _ _ (zK hu zA) (zK h2' zA)).mono ?_);rintro e w3 ⟨he,k3⟩;rw [hq] at he;subst he;have t3:=Drew.only k3 []))
   ·go_roundw
    case rel=>exact ⟨j + 1,by omega,by go_num,by
     rw [Zab _ j hlt];intro q hq2
     rcases List.mem_append.1 hq2 with hq2 | hq2
     ·exact Hr.out q hq2
     ·simp at hq2;subst hq2;exact decide_eq_false (eqV_iff'.1 hq),hK.trans t3⟩
    case measure=>simp [intOf];omega
   ·go_ret
    exact ⟨ret_int (Zel hlt Hr.out (decide_eq_true (eqV_iff.1 hq))).symm,KK.trans t3⟩
  ·go_wp2
   go_ret
   exact ⟨ret_int (Zfw (by have:=Hr.out;rwa [List.take_of_length_le (by omega)] at this)).symm,KK⟩
set_option maxHeartbeats 1000000 in
theorem Zkc (u v:Value) (ix l:List Int) (f2 f1:List Nat) (w:World) (h':Rd w u ix f2) (h:Rd w v l f1) (hx:∀ x∈ix,0<=x/\x < l.length) (hl:ix.length<=1000) :
  Calls Tryz.prog 216 #[u,v] w fun e w'=>∃ v fp',e = .returned v/\Rd w' v (PM.comp ix l) fp'/\Fresh w.heap.size w' fp'/\Only [] w w':=by
 obtain ⟨a,cap,rfl,hI⟩:=h.ints
 obtain ⟨a',cap',rfl,hI'⟩:=h'.ints
 have hb:=hI.bound
 obtain ⟨i0,hi,hz0,hz1,hz2⟩:=info_parts Tryz.info2
 go_enter Tryz.func216,Tryz.ntmps216
 go_wp2
 go_loopw [5,6] (fun o i wr=>∃ (j:Nat) (fs:List (List Nat)),j<=ix.length/\i = .int .i64 j/\Acc w.heap.size 2 wr o (PM.comp (ix.take j) l) fs/\Fresh w.heap.size wr fs.flatten/\Only [] w wr)
  (fun _ i _=>ix.length - (intOf i).toNat)
 case atStart=>exact ⟨0,[],Nat.zero_le _,rfl,Acc.made w w.heap.size _ rfl (Nat.le_refl _),Fresh.nil _ _,zO.alloc _⟩
 case round=>
  obtain ⟨j,fs,hj,rfl,hA,hF,hK⟩:=hrel
  by_cases hlt:j < ix.length
  ·obtain ⟨b,off,rfl,-,hc0⟩:=hI'.at_ j hlt
   obtain ⟨hr0,hr1⟩:=hx ix[j] (List.getElem_mem _)
   have hxl:ix[j].toNat < l.length:=by omega
   obtain ⟨b2,off2,rfl,-,hd0⟩:=hI.at_ ix[j].toNat hxl
   have hc:=hK.cell (by simp) hc0
   have hd:=hK.cell (by simp) hd0
   have hsz:=hK.size
   have hlj:(PM.comp (ix.take j) l).length + 1<=1073741824:=by rw [PM.Zak,List.length_take];omega
   have e1:PM.at_ l ix[j] = l[ix[j].toNat]:=by
    have:=PM.at_nat l ix[j].toNat hxl
    rwa [show ((ix[j].toNat:Nat):Int) = ix[j] by omega] at this
   have hst:PM.comp (ix.take (j + 1)) l = PM.comp (ix.take j) l ++ [l[ix[j].toNat]]:=by
    rw [Zab ix j hlt]
    simp only [PM.comp,List.map_append,List.map_cons,List.map_nil,e1]
   have Hst:=zH hst
   have hI9:=hI.wf l[ix[j].toNat] (List.getElem_mem hxl)
   have HI:=zH hI9
   clear hc0 hd0 hst e1 hI9
   go_wp2_with ((at_builtin;refine Zah rfl _ _ 27 rfl w.heap.size 2 i0 _ 8 Tryz.underlying27 hi hz0 hz1 hz2 rfl (by decide) (by decide) wr _ (PM.comp (ix.take j) l) fs rfl hA hF (zO.alloc _) hsz wr.heap.size 1 [.int .i64 l[ix[j].toNat]] l[ix[j].toNat] [] rfl (lit_src wr [.int .i64 l[ix[j].toNat]] _ rfl) (by intro u hu;simp at hu;subst hu;rfl) (int_rd _ HI.out) (Fresh.nil _ _) hlj w (hK.alloc _) (Nat.le_refl _) ?_;intro v3 w3 hA3 hF3 hK3 _))
   go_roundw
   case rel=>exact ⟨j + 1,_,by omega,by go_num,by rw [Hst.out];exact hA3,hF3,hK3⟩
   case measure=>simp [intOf];omega
  ·have hjl:j = ix.length:=by omega
   rw [hjl,List.take_length] at hA
   have HA:=zH hA
   clear hjl hA
   go_wp2
   go_ret
   exact ⟨_,_,rfl,HA.out.rd (by decide),HA.out.fresh hF,hK⟩
theorem Zhy {x:Puzzle} {t:Table} (h:validT x t = true) {s:List Int} (hs:reachB x s = true):(∀ z∈t.tracked,0<=z/\z < s.length)/\t.tracked.length<=1000/\s.length<=1000:=by
 have hb:=Zbp h
 have hf:=Zad hb.v
 have htr:=Zbb.1 hb.tk
 have hl:=htr.2.len
 have hst:=Zam (Zax hs)
 have hlen:s.length = x.points.toNat:=hst.2.2.2.1
 refine ⟨fun z hz=>by have:=htr.2.1 z hz;omega,by omega,by omega⟩
set_option maxHeartbeats 4000000 in
theorem Zjx (x:Puzzle) (v:Value) (ts:List Table) (ft:List Nat) (u:Value) (s:List Int) (fs0:List Nat) (w:World) (hv:Rd w v ts ft) (hu:Rd w u s fs0) (hts:∀ t∈ts,validT x t = true) (hs:reachB x s = true) (hl:ts.length<=4) :
  Calls Tryz.prog 159 #[v,u] w fun e w'=>∃ v fp',e = .returned v/\Rd w' v (lbs ts s) fp'/\Fresh w.heap.size w' fp'/\Only [] w w':=by
 obtain ⟨a,cap,ob,fps,rfl,-,hS⟩:=hv.open_
 obtain ⟨a2,cap2,rfl,hI2⟩:=hu.ints
 have hb:=hS.bound
 have Hts:=zH hts
 have Hs:=zH hs
 clear hts hs
 obtain ⟨i0,hi,hz0,hz1,hz2⟩:=info_parts Tryz.info2
 go_enter Tryz.func159,Tryz.ntmps159
 go_wp2
 go_loopw [5,6] (fun o i wr=>∃ (j:Nat) (fs:List (List Nat)),j<=ts.length/\i = .int .i64 j/\Acc w.heap.size 2 wr o (lbs (ts.take j) s) fs/\Fresh w.heap.size wr fs.flatten/\Only [] w wr)
  (fun _ i _=>ts.length - (intOf i).toNat)
 case atStart=>exact ⟨0,[],Nat.zero_le _,rfl,Acc.made w w.heap.size _ rfl (Nat.le_refl _),Fresh.nil _ _,zO.alloc _⟩
 case round=>
  obtain ⟨j,fs,hj,rfl,hA,hF,hK⟩:=hrel
  by_cases hlt:j < ts.length
  ·obtain ⟨b,off,v1,v2,v3,rfl,-,c1,c2,c3,hv0⟩:=hS.at3 j hlt
   have q:=hv0
   obtain ⟨_,_,_,g1,g2,g3,hq,-,s1,s2,s3⟩:=q
   injection hq with e1 hq;injection hq with e2 hq;injection hq with e3 hq;subst e1;subst e2;subst e3
   clear hq
   have hvt:=Hts.out ts[j] (List.getElem_mem hlt)
   obtain ⟨n1,n2,n3⟩:=Zhy hvt Hs.out
   obtain ⟨m,hm1,hm2,hm3,hm4,hm5⟩:=Zgj hvt Hs.out
   have hrg:=Zcd hvt Hs.out
   obtain ⟨A1,C1,rfl,I1⟩:=s1.ints
   obtain ⟨A2,C2,_,_,rfl,-⟩:=s2.open_
   obtain ⟨A3,C3,rfl,I3⟩:=s3.ints
   obtain ⟨b3,o3,rfl,-,hc3⟩:=I3.at_ m hm2
   have hd:ts[j].distances[m] = lookT ts[j] s:=by rw [hm5,Zag hm2]
   rw [hd] at hc3
   have d1:=hK.cell (by simp) c1
   have d2:=hK.cell (by simp) c2
   have d3:=hK.cell (by simp) c3
   have d4:=hK.cell (by simp) hc3
   have hsz:=hK.size
   have hlj:(lbs (ts.take j) s).length + 1<=1073741824:=by unfold lbs;simp;omega
   have hst:lbs (ts.take (j + 1)) s = lbs (ts.take j) s ++ [lookT ts[j] s]:=by rw [Zab ts j hlt];unfold lbs;rw [List.map_append];rfl
   have Hst:=zH hst
   have hI9:I64 (lookT ts[j] s):=by unfold I64;omega
   have HI:=zH hI9
   have Hm3:=zH hm3
   have hi1:(0:Int)<=(j:Int):=by omega
   have hi2:(j:Int) < (ts.length:Int):=by omega
   have hi3:(0:Int)<=(m:Int):=by omega
   have hi4:(m:Int) < (ts[j].distances.length:Int):=by omega
   have hcw:∀ W,Only [] w W->Rp.rep W [.slice A1 ts[j].tracked.length C1,.slice A2 ts[j].patterns.length C2,.slice (some ⟨b3,o3,none⟩) ts[j].distances.length C3] ts[j] _:=fun W hh=>zK hv0 hh
   have Hcw:=zH hcw
   clear hst hI9 hm3 hm4 hm5 hd hrg hcw hvt
   go_upto_region 5 with fail
   go_region_held3 (fun w'=>Only [] w w'/\w'.cell? ⟨b,off + j * 3,none⟩ = some (.slice A1 ts[j].tracked.length C1)/\w'.cell? ⟨b,off + j * 3 + 1,none⟩ = some (.slice A2 ts[j].patterns.length C2)/\w'.cell? ⟨b,off + j * 3 + 2,none⟩ = some (.slice (some ⟨b3,o3,none⟩) ts[j].distances.length C3)/\w'.cell? ⟨b3,o3 + m,none⟩ = some (.int .i64 (lookT ts[j] s))) ((refine and_of ?_ (fun q_=>⟨q_.ce c1,q_.ce c2,q_.ce c3,q_.ce hc3⟩);first | assumption | exact hK.drew | exact Only.trans (And.left (by assumption)) (by assumption) | exact Only.alloc (And.left (by assumption)) _)) (first
    | (go_at_call 216;(with_reducible refine (Zkc (.slice A1 ts[j].tracked.length C1) _ ts[j].tracked s _ _ _ (zK s1 (And.left (by assumption))) (zK hu (And.left (by assumption))) n1 n2).mono ?_);rintro e x1 ⟨p1,q1,rfl,r1,F1,y1⟩)
    | (go_at_call 215;(with_reducible refine (Zlz [.slice A1 ts[j].tracked.length C1,.slice A2 ts[j].patterns.length C2,.slice (some ⟨b3,o3,none⟩) ts[j].distances.length C3] ts[j] _ p1 (PM.comp ts[j].tracked s) _ _ (Hcw.out _ (And.left (by assumption))) (zK r1 (by first | exact Only.refl _ _ | assumption))).mono ?_);rintro e x2 ⟨he,y2⟩;rw [Hm3.out] at he;subst he)
    | (refine Zew rfl _ _ 27 rfl w.heap.size 2 i0 _ 8 Tryz.underlying27 hi hz0 hz1 hz2 rfl (by decide) (by decide) wr _ (lbs (ts.take j) s) fs rfl hA hF ((((Only.refl [] wr).drew.trans y1).trans y2).alloc _) hsz x2.heap.size 1 [.int .i64 (lookT ts[j] s)] (lookT ts[j] s) [] rfl (lit_src x2 [.int .i64 (lookT ts[j] s)] _ rfl) (by intro u hu;simp at hu;subst hu;rfl) (int_rd _ HI.out) (Fresh.nil _ _) hlj w (And.left (by assumption)) (Nat.le_refl _) ?_;intro v9 w9 hA9 hF9 hK9 hW9)
    | fail)
   go_wp2
   go_roundw
   case rel=>exact ⟨j + 1,_,by omega,by go_num,by rw [Hst.out];exact hA9,hF9,hK9⟩
   case measure=>simp [intOf];omega
  ·have hjl:j = ts.length:=by omega
   rw [hjl,List.take_length] at hA
   have HA:=zH hA
   clear hjl hA
   go_wp2
   go_ret
   exact ⟨_,_,rfl,HA.out.rd (by decide),HA.out.fresh hF,hK⟩
theorem wrapmax (a b:Int):(if a < b then b else a) = max a b:=by
 split <;> omega
set_option maxHeartbeats 2000000 in
theorem Zdt (x:Puzzle) (v:Value) (ts:List Table) (ft:List Nat) (u:Value) (s:List Int) (fs0:List Nat) (w:World) (hv:Rd w v ts ft) (hu:Rd w u s fs0) (hts:∀ t∈ts,validT x t = true) (hs:reachB x s = true) (hl:ts.length<=4) :
  Calls Tryz.prog 97 #[v,u] w fun e w'=>e = .returned (.int .i64 (lbMax ts s))/\Only [] w w':=by
 go_enter Tryz.func97,Tryz.ntmps97
 go_upto_region 4 with ((go_at_call 159;(with_reducible refine (Zjx x v ts ft u s fs0 _ (zK hv zA) (zK hu zA) hts hs hl).mono ?_);rintro e w1 ⟨u1,f1,rfl,r1,F1,t1⟩;obtain ⟨a1,c1,rfl,I1⟩:=r1.ints))
 obtain ⟨L,hL⟩:∃ L,L = lbs ts s:=⟨_,rfl⟩
 have hfin:lbMax ts s = L.foldl max 0:=by rw [hL];rfl
 have Hfin:=zH hfin
 rw [<- hL] at I1 r1 ⊢
 clear hL hfin
 have hb:=I1.bound
 go_loopw [6,7] (fun o i wr=>∃ j:Nat,j<=L.length/\i = .int .i64 j/\o = .int .i64 ((L.take j).foldl max 0)/\Only [] w1 wr)
  (fun _ i _=>L.length - (intOf i).toNat)
 case atStart=>exact ⟨0,Nat.zero_le _,rfl,rfl,Only.refl _ _⟩
 case round=>
  obtain ⟨j,hj,rfl,rfl,hK⟩:=hrel
  by_cases hlt:j < L.length
  ·obtain ⟨b,off,rfl,-,hc0⟩:=I1.at_ j hlt
   have hc:=hK.cell (by simp) hc0
   have hst:(L.take (j + 1)).foldl max 0 = max ((L.take j).foldl max 0) L[j]:=by rw [Zab L j hlt,List.foldl_append];rfl
   have Hst:=zH hst
   clear hst
   go_wp2
   go_roundw
   case rel=>exact ⟨j + 1,by omega,by go_num,by rw [Hst.out];first | done | rw [wrapmax],hK⟩
   case measure=>simp [intOf];omega
  ·obtain rfl:j = L.length:=by omega
   rw [List.take_length]
   go_wp2
   go_ret
   exact ⟨ret_int Hfin.out.symm,t1.trans hK⟩
set_option maxHeartbeats 2000000 in
theorem Zbq (cs:List Value) (x:Puzzle) (fp:List Nat) (v:Value) (ts:List Table) (ft:List Nat) (u:Value) (s:List Int) (fs0:List Nat) (w:World) (h:Rp.rep w cs x fp) (hv:Rd w v ts ft) (hu:Rd w u s fs0) (hsm:∀ t∈ts,t.tracked.length<=2097152) :
  Calls Tryz.prog 96 #[.agg cs.toArray,v,u] w fun e w'=>e = .returned (.bool (tabSet x ts && reachB x s))/\Only [] w w':=by
 have h0:=h
 obtain ⟨v2,rfl,p0,p1,h2⟩:=h
 clear p0 p1 h2
 have X0:=Blk.new w [.int .i64 x.points,.string x.names,v2] 26
 simp only [List.toArray] at X0
 rcases hq:tabSet x ts
 ·go_enter Tryz.func96,Tryz.ntmps96
  go_wp2_with ((go_at_call 158;(with_reducible refine (Zem [.int .i64 x.points,.string x.names,v2] x _ v ts _ _ (zK h0 zA) (zK hv zA) hsm).mono ?_);rintro e w1 ⟨he,t1⟩;rw [hq] at he;subst he))
  go_ret
  exact ⟨rfl,zA⟩
 ·go_enter Tryz.func96,Tryz.ntmps96
  go_wp2_with (first
   | (go_at_call 158;(with_reducible refine (Zem [.int .i64 x.points,.string x.names,v2] x _ v ts _ _ (zK h0 zA) (zK hv zA) hsm).mono ?_);rintro e w1 ⟨he,t1⟩;rw [hq] at he;subst he;have X1:=X0.keep t1;obtain ⟨y0,y1,y2⟩:=X1.c3)
   | (go_at_call 31;(with_reducible refine (Zcr [.int .i64 x.points,.string x.names,v2] x _ u s _ _ (zK h0 zA) (zK hu zA)).mono ?_);rintro e w2 ⟨rfl,t2⟩)
   | fail)
  go_ret
  exact ⟨rfl,zA⟩
set_option maxHeartbeats 2000000 in
theorem Zas (cs:List Value) (x:Puzzle) (fp:List Nat) (v:Value) (ts:List Table) (ft:List Nat) (u:Value) (s:List Int) (fs0:List Nat) (w:World) (h:Rp.rep w cs x fp) (hv:Rd w v ts ft) (hu:Rd w u s fs0) (hsm:∀ t∈ts,t.tracked.length<=2097152) :
  Calls Tryz.prog 45 #[.agg cs.toArray,v,u] w fun e w'=>e = .returned (.int .i64 (lb x ts s))/\Only [] w w':=by
 have h0:=h
 obtain ⟨v2,rfl,p0,p1,h2⟩:=h
 clear p0 p1 h2
 have X0:=Blk.new w [.int .i64 x.points,.string x.names,v2] 26
 simp only [List.toArray] at X0
 rcases hq:tabSet x ts && reachB x s
 ·have Hn:=zH (by unfold lb;rw [hq];rfl:lb x ts s = -1)
  go_enter Tryz.func45,Tryz.ntmps45
  go_wp2_with ((go_at_call 96;(with_reducible refine (Zbq [.int .i64 x.points,.string x.names,v2] x _ v ts _ u s _ _ (zK h0 zA) (zK hv zA) (zK hu zA) hsm).mono ?_);rintro e w1 ⟨he,t1⟩;rw [hq] at he;subst he))
  go_ret
  exact ⟨ret_int Hn.out.symm,zA⟩
 ·have Hn:=zH (by unfold lb;rw [if_pos hq]:lb x ts s = lbMax ts s)
  have hq2:=hq
  rw [Bool.and_eq_true,Zbu] at hq2
  obtain ⟨⟨-,q1,q2⟩,q3⟩:=hq2
  have Q2:=zH q2
  have Q3:=zH q3
  clear q2 q3
  go_enter Tryz.func45,Tryz.ntmps45
  go_wp2_with (first
   | (go_at_call 96;(with_reducible refine (Zbq [.int .i64 x.points,.string x.names,v2] x _ v ts _ u s _ _ (zK h0 zA) (zK hv zA) (zK hu zA) hsm).mono ?_);rintro e w1 ⟨he,t1⟩;rw [hq] at he;subst he)
   | (go_at_call 97;(with_reducible refine (Zdt x v ts _ u s _ _ (zK hv zA) (zK hu zA) Q2.out Q3.out q1).mono ?_);rintro e w2 ⟨rfl,t2⟩)
   | fail)
  go_ret
  exact ⟨ret_int Hn.out.symm,zA⟩
def tabG (t:Table) (j:Nat) (s:ByteArray):Option Int:=(firstG (t.patterns.take j) s).map fun i=>t.distances.getD i.toNat 0
theorem Zsk (t:Table) (s:ByteArray):tabG t 0 s = none:=rfl
theorem Zsy {x:Puzzle} {t:Table} (h:Built x t) {j:Nat} (hj:j < t.patterns.length) (hd:j < t.distances.length) (s:ByteArray) :
  (if s = kB t.patterns[j] then some t.distances[j] else tabG t j s) = tabG t (j + 1) s:=by
 have hpt:=Zad h.v
 have hby:∀ p∈t.patterns,Byt p:=fun p hp=>Zpp (h.bi.pat p hp) (by omega)
 unfold tabG
 rw [Zab _ j hj,Zrh]
 by_cases he:s = kB t.patterns[j]
 ·subst he
  have hno:firstG (t.patterns.take j) (kB t.patterns[j]) = none:=by
   rw [Zky (fun p hp=>hby p (List.mem_of_mem_take hp)) (hby _ (List.getElem_mem hj))]
   rw [if_neg]
   intro h0
   have hm:=(Ztn h0).1
   rw [List.mem_take_iff_getElem] at hm
   obtain ⟨k,hk,e⟩:=hm
   have hnd:t.patterns.Nodup:=h.bi.nd
   have:=Zfm hnd (by omega) hj e
   omega
  rw [hno,if_pos rfl]
  have hl:(t.patterns.take j).length = j:=by rw [List.length_take];omega
  simp only [if_true,Option.map_some,hl,Int.toNat_natCast]
  rw [Zag hd]
 ·rw [if_neg he]
  cases firstG (t.patterns.take j) s with
  | some i=>rfl
  | none=>simp [he]
theorem Zsf {x:Puzzle} {t:Table} (h:validT x t = true) {s:List Int} (hs:reachB x s = true):tabG t t.patterns.length (kB (PM.comp t.tracked s)) = some (lookT t s):=by
 have hb:=Zbp h
 have hpt:=Zad hb.v
 have hby:∀ p∈t.patterns,Byt p:=fun p hp=>Zpp (hb.bi.pat p hp) (by omega)
 obtain ⟨i,hi,-,e1,e2,e3⟩:=Zgj h hs
 have hm:PM.comp t.tracked s∈t.patterns:=by rw [<- e2,Zag hi];exact List.getElem_mem hi
 unfold tabG
 rw [List.take_length,Zky hby (hby _ hm),e1,if_pos (by omega)]
 rw [Option.map_some,Int.toNat_natCast,e3]
def kmOf (t:Table):KM:=⟨tabG t t.patterns.length⟩
def BD (w:World) (g:Nat) (ts:List Table) (ft:List Nat):Prop:=
 ∃ vt vm fm,Blk w g [vt,vm]/\Rd w vt ts ft/\Rd w vm (ts.map kmOf) fm
theorem BD.keep {w w':World} {g:Nat} {ts:List Table} {ft:List Nat} (h:BD w g ts ft) (ho:Only [] w w'):BD w' g ts ft:=by
 obtain ⟨vt,vm,fm,a,b,c⟩:=h
 exact ⟨vt,vm,fm,a.keep ho,zK b ho,zK c ho⟩
theorem Tryz.infoMapI:(Tryz.prog.info? 180).map (fun i=>(i.zero,i.size,i.bytes)) = some (some (.map none),1,8):=by kernel_rfl
set_option maxHeartbeats 8000000 in
theorem Zob (x:Puzzle) (v:Value) (ts:List Table) (ft:List Nat) (w:World) (hv:Rd w v ts ft) (hts:∀ t∈ts,validT x t = true) (hl:ts.length<=4) :
  Calls Tryz.prog 151 #[v] w fun e w'=>∃ g,e = .returned (.pointer (some ⟨g,0,none⟩))/\BD w' g ts ft/\Only [] w w':=by
 obtain ⟨a,cap,ob,fps,rfl,hft,hS⟩:=hv.open_
 have hb:=hS.bound
 have Hts:=zH hts
 clear hts
 obtain ⟨i0,hi,hz0,hz1,hz2⟩:=info_parts Tryz.infoMapI
 have hmm:=@run_makeMap Tryz.prog
 go_enter Tryz.func151,Tryz.ntmps151
 go_upto_region 3 with fail
 have X0:=Blk.new w [.slice a ts.length cap,.slice none 0 0] 215
 simp only [List.toArray] at X0
 go_loopw [14] (fun i wr=>∃ (j:Nat) (vm:Value) (fs:List (List Nat)),j<=ts.length/\i = .int .i64 j/\Blk wr w.heap.size [.slice a ts.length cap,vm]/\Acc (w.heap.size + 1) 180 wr vm ((ts.take j).map kmOf) fs/\(∀ b∈fs.flatten,w.heap.size + 1<=b)/\Only [] w wr)
  (fun i _=>ts.length - (intOf i).toNat)
 case atStart=>exact ⟨0,_,[],Nat.zero_le _,rfl,X0,Acc.nil _ _ _,by simp,zO.alloc _⟩
 case round=>
  obtain ⟨W2,hnew⟩:∃ W,W = wr:=⟨_,rfl⟩
  subst hnew
  obtain ⟨j,vm,fs,hj,rfl,hX,hA,hF,hK⟩:=hrel
  by_cases hlt:j < ts.length
  ·obtain ⟨b,off,v1,v2,v3,rfl,-,c1,c2,c3,hv0⟩:=hS.at3 j hlt
   have d1:=hK.cell (by simp) c1
   have d2:=hK.cell (by simp) c2
   have d3:=hK.cell (by simp) c3
   have hvt:=Hts.out ts[j] (List.getElem_mem hlt)
   have hbt:=Zbp hvt
   have Hbt:=zH hbt
   have q:=hv0
   obtain ⟨_,_,_,g1,g2,g3,hq,-,s1,s2,s3⟩:=q
   injection hq with e1 hq;injection hq with e2 hq;injection hq with e3 hq;subst e1;subst e2;subst e3
   clear hq
   obtain ⟨t,ht⟩:∃ t,t = ts[j]:=⟨_,rfl⟩
   have hst:(ts.take (j + 1)).map kmOf = (ts.take j).map kmOf ++ [kmOf t]:=by rw [Zab ts j hlt,List.map_append,ht];rfl
   rw [<- ht] at s1 s2 s3 Hbt hbt
   clear ht hvt hv0
   obtain ⟨lm,hlm⟩:∃ lm,lm = (ts.take j).map kmOf:=⟨_,rfl⟩
   have hlml:lm.length<=4:=by rw [hlm];simp;omega
   rw [<- hlm] at hA hst
   clear hlm
   have Hst:=zH hst
   clear hst
   obtain ⟨A1,C1,_,_,rfl,-⟩:=s1.open_
   obtain ⟨A2,C2,ob2,fp2,rfl,-,S2⟩:=s2.open_
   obtain ⟨A3,C3,rfl,I3⟩:=s3.ints
   have hdl:t.distances.length = t.patterns.length:=hbt.bi.dl
   have hpl:t.patterns.length<=3000:=hbt.ll
   have Hdl:=zH hdl
   have hpat:=hbt.bi.pat
   have hpk:=(Zbb.1 hbt.tk).2.len
   have hpz:=(Zad hbt.v).2.1
   have hql:∀ q∈t.patterns,q.length<=1000:=fun q hq=>by have:=(Zaz.1 (hpat q hq)).1;omega
   have Hql:=zH hql
   clear hdl hpat hpk hpz hql hbt
   have Z:=Blk.new W2 [.slice none 0 0,.slice none 0 0,.slice none 0 0] 41
   obtain ⟨e0,e1,e2⟩:=Z.c3
   obtain ⟨f0,f1,f2⟩:=Z.f3
   have kd:=(Only.refl [] W2).alloc (.cells #[.slice none 0 0,.slice none 0 0,.slice none 0 0] 41)
   have d1':=kd.cell (by simp) d1
   have d2':=kd.cell (by simp) d2
   have d3':=kd.cell (by simp) d3
   go_upto_region 7 with fail
   have hsK:=hK.size
   have Z3:=(Blk.new W2 [.slice A1 t.tracked.length C1,.slice A2 t.patterns.length C2,.slice A3 t.distances.length C3] 41).keep ((Only.refl [] _).alloc (.map #[] 0))
   have M3:=Mq.made (W2.alloc (.cells #[.slice A1 t.tracked.length C1,.slice A2 t.patterns.length C2,.slice A3 t.distances.length C3] 41)) (M:=W2.heap.size + 1) (by simp)
   have k3:Only [] W2 ((W2.alloc (.cells #[.slice A1 t.tracked.length C1,.slice A2 t.patterns.length C2,.slice A3 t.distances.length C3] 41)).alloc (.map #[] 0)):=((Only.refl [] W2).alloc _).alloc _
   obtain ⟨W3,hW3⟩:∃ W3,W3 = (W2.alloc (.cells #[.slice A1 t.tracked.length C1,.slice A2 t.patterns.length C2,.slice A3 t.distances.length C3] 41)).alloc (.map #[] 0):=⟨_,rfl⟩
   have hs3:W3.heap.size = W2.heap.size + 2:=by rw [hW3];simp
   simp only [List.toArray] at Z3
   rw [<- hW3] at Z3 M3 k3 ⊢
   clear hW3 Z e0 e1 e2 f0 f1 f2 kd d1' d2' d3' d1 d2 d3 c1 c2 c3
   have HS3:=zH hs3
   clear hs3
   go_loopw [22] (fun i wx=>∃ k:Nat,k<=t.patterns.length/\i = .int .i64 k/\Mq wx (W2.heap.size + 1) k (tabG t k)/\Only [W2.heap.size + 1] W3 wx)
    (fun i _=>t.patterns.length - (intOf i).toNat)
   case atStart=>exact ⟨0,Nat.zero_le _,rfl,M3.congr fun s=>(Zsk t s).symm,Only.refl _ _⟩
   case round=>
    obtain ⟨W4,hnew⟩:∃ W,W = wr:=⟨_,rfl⟩
    subst hnew
    obtain ⟨k,hk,rfl,hM,hO⟩:=hrel
    by_cases hlk:k < t.patterns.length
    ·obtain ⟨bp,op,up,rfl,-,hcp,hup⟩:=S2.atRow k hlk
     have hlkd:k < t.distances.length:=by have:=Hdl.out;omega
     obtain ⟨bd,od,rfl,-,hcd⟩:=I3.at_ k hlkd
     have KK:=hK.trans k3
     have nM:∀ b,b < w.heap.size->b ∉ [W2.heap.size + 1]:=fun b hb hm=>by simp at hm;omega
     have hbp:=World.block_lt_of_cell? _ _ hcp
     have hbd:=World.block_lt_of_cell? _ _ hcd
     have x1:=hO.cell (nM _ hbp) (KK.cell (by simp) hcp)
     have x2:=hO.cell (nM _ hbd) (KK.cell (by simp) hcd)
     have Z4:=Z3.only hO (by simp)
     have z2:=Z4.cell 2 rfl
     have hup4:=Rp.only (zK hup KK) hO (fun g hg=>nM g (Rp.lt hup g hg))
     have hdu:∀ g∈fp2[k]'(by rw [S2.nf];exact hlk),g ∉ [W2.heap.size + 1]:=fun g hg=>nM g (Rp.lt hup g hg)
     have hqk:=Hql.out t.patterns[k] (List.getElem_mem hlk)
     have hkz:(kB t.patterns[k]).size<=maxLen:=by rw [kB_size];unfold maxLen;omega
     have Hkz:=zH hkz
     have hI9:=I3.wf t.distances[k] (List.getElem_mem hlkd)
     have HI:=zH hI9
     have hnx:=Zsy Hbt.out hlk hlkd
     have Hnx:=zH hnx
     have hn1:W2.heap.size ∉ [W2.heap.size + 1]:=by simp
     have hn2:=nM _ hbd
     clear hkz hI9 hnx hcp hcd hup
     go_wp2
     go_region_held3 (fun w'=>Only [W2.heap.size + 1] W4 w'/\w'.cell? ⟨W2.heap.size,2,none⟩ = some (.slice (some ⟨bd,od,none⟩) t.distances.length C3)/\w'.cell? ⟨bd,od + k,none⟩ = some (.int .i64 t.distances[k])) ((refine and_of ?_ (fun q_=>⟨q_.cell hn1 z2,q_.cell hn2 x2⟩);first | exact zO.drew | exact Only.keepThen (And.left (by assumption)) (by assumption) | exact Only.trans (And.left (by assumption)) (by assumption) | assumption)) (first
      | (go_at_call 209;(with_reducible refine (Zcp up t.patterns[k] _ _ (Rp.only hup4 (And.left (by assumption)) hdu) hqk).mono ?_);rintro e w5 ⟨rfl,t5⟩;obtain ⟨w6,hrun6,hM6,hO6⟩:=(hM.keep (Only.trans (zO.drew) t5)).run_put Hkz.out HI.out (by unfold maxLen;omega))
      | fail)
     go_wp2
     go_roundw
     case rel=>exact ⟨k + 1,by omega,by go_num,hM6.congr Hnx.out,hO.trans ((Only.keepThen zO.drew t5).trans hO6)⟩
     case measure=>simp [intOf];omega
    ·obtain rfl:k = t.patterns.length:=by omega
     have KK:=hK.trans k3
     have hXl:=hX.lt
     have X4:=(hX.keep k3).only hO (by simp;omega)
     have A4:=(hA.keep k3).only hO (fun g hg hm=>by have:=hA.lt g hg;simp at hm;omega) (fun g hg hm=>by have:=(hA.ownlt g hg).2;simp at hm;omega)
     have hMl:=hM.lt
     have K4:=KK.then_ hO (by intro g hg hl;simp at hg;omega)
     have hf4:∀ g∈fs.flatten,w.heap.size ≠ g:=fun g hg=>by have:=hF g hg;omega
     obtain ⟨am,cm,rfl⟩:=A4.form
     have y1:=X4.cell 1 rfl
     have hy:=(⟨W2.heap.size + 1,_,rfl,rfl,hM.keep ((Only.refl [] W4).alloc (.cells #[.map (some (W2.heap.size + 1))] 180))⟩:Rp.rep (W4.alloc (.cells #[.map (some (W2.heap.size + 1))] 180)) [.map (some (W2.heap.size + 1))] (kmOf t) [W2.heap.size + 1])
     have hap:∀ g∈[W2.heap.size + 1],(Value.slice am lm.length cm).ownBlock ≠ some g:=fun g hg he=>by simp at hg;have:=(hA.ownlt g he).2;omega
     have hal:lm.length + 1<=1073741824:=by omega
     have hB4:w.heap.size + 1<=W4.heap.size:=by omega
     have hnw:w.heap.size ∉ (Value.slice am lm.length cm).ownBlock.toList:=fun hm=>by have:=(hA.ownlt _ (by simpa using hm)).1;omega
     go_wp2_with (first
      | (at_builtin;refine Zck rfl _ _ 213 rfl (w.heap.size + 1) 180 i0 _ 8 Tryz.underlying213 hi hz0 hz1 hz2 rfl (by decide) (by decide) W4 (.slice am lm.length cm) lm fs rfl A4 ((Only.refl [] W4).alloc _) hB4 W4.heap.size 1 [.map (some (W2.heap.size + 1))] (kmOf t) [W2.heap.size + 1] rfl (lit_src W4 [.map (some (W2.heap.size + 1))] _ rfl) (by intro u hu;simp at hu;subst hu;rfl) hy hap hal ?_;intro v9 w9 hA9 hO9 hP9 hQ9 hN9;obtain ⟨a9,c9,hv9⟩:=hA9.form;rw [List.length_append,List.length_singleton] at hv9;subst hv9;have X9:=(X4.keep ((Only.refl [] W4).alloc _)).only hO9 hnw;have y9:=X9.cell 1 rfl;have z9:=X9.frozen 1)
      | fail)
     have X10:=X9.set 1 (.slice a9 (lm.length + 1) c9)
     have ho10:Only [w.heap.size] w9 (w9.setCell ⟨w.heap.size,1,none⟩ (.slice a9 (lm.length + 1) c9)):=zO.setCell (by simp) _
     have A10:=hA9.only ho10 (fun g hg hm=>by
      rw [List.flatten_append] at hg
      simp at hm
      rcases List.mem_append.1 hg with hg | hg
      ·exact hf4 g hg hm.symm
      ·simp at hg;omega) (fun g hg hm=>by have:=(hA9.ownlt g hg).1;simp at hm;omega)
     have K10:Only [] w (w9.setCell ⟨w.heap.size,1,none⟩ (.slice a9 (lm.length + 1) c9)):=((K4.alloc _).then_ hO9 (fun g hg hl=>by have:=(hA.ownlt g (by simpa using hg)).1;omega)).then_ ho10 (fun g hg hl=>by simp at hg;omega)
     go_roundw
     case rel=>exact ⟨j + 1,(.slice a9 (lm.length + 1) c9),_,by omega,by go_num,by simpa [List.set] using X10,by rw [Hst.out];exact A10,fun g hg=>by
      rw [List.flatten_append] at hg
      rcases List.mem_append.1 hg with hg | hg
      ·exact hF g hg
      ·simp at hg;omega,K10⟩
     case measure=>simp [intOf];omega
  ·have hjl:j = ts.length:=by omega
   rw [hjl,List.take_length] at hA
   have HA:=zH hA
   have HX:=zH hX
   clear hjl hA hX
   go_wp2
   go_ret
   exact ⟨_,rfl,⟨_,_,_,HX.out,zK (by rw [hft];exact hS.rd) hK,HA.out.rd (by decide)⟩,hK⟩
set_option maxHeartbeats 8000000 in
theorem Ziq (x:Puzzle) (g:Nat) (ts:List Table) (ft:List Nat) (u:Value) (s:List Int) (fs0:List Nat) (w:World) (hB:BD w g ts ft) (hu:Rd w u s fs0) (hts:∀ t∈ts,validT x t = true) (hs:reachB x s = true) (hl:ts.length<=4) :
  Calls Tryz.prog 153 #[.pointer (some ⟨g,0,none⟩),u] w fun e w'=>∃ v fp',e = .returned v/\Rd w' v (lbs ts s) fp'/\Fresh w.heap.size w' fp'/\Only [] w w':=by
 obtain ⟨vt,vm,fm,hX,hv,hm⟩:=hB
 obtain ⟨a,cap,ob,fps,rfl,-,hS⟩:=hv.open_
 obtain ⟨am,cm,obm,fpm,rfl,-,hSm⟩:=hm.open_
 obtain ⟨a2,cap2,rfl,hI2⟩:=hu.ints
 have hb:=hS.bound
 have hlm:(ts.map kmOf).length = ts.length:=List.length_map _
 rw [hlm] at hX
 have Hlm:=zH hlm
 clear hlm hm
 have Hts:=zH hts
 have Hs:=zH hs
 clear hts hs
 obtain ⟨i0,hi,hz0,hz1,hz2⟩:=info_parts Tryz.info2
 have x0:=hX.cell 0 rfl
 go_enter Tryz.func153,Tryz.ntmps153
 go_wp2
 go_loopw [5,13] (fun o i wr=>∃ (j:Nat) (fs:List (List Nat)),j<=ts.length/\i = .int .i64 j/\Acc w.heap.size 2 wr o (lbs (ts.take j) s) fs/\Fresh w.heap.size wr fs.flatten/\Only [] w wr)
  (fun _ i _=>ts.length - (intOf i).toNat)
 case atStart=>exact ⟨0,[],Nat.zero_le _,rfl,Acc.nil _ _ _,Fresh.nil _ _,Only.refl _ _⟩
 case round=>
  obtain ⟨W2,hnew⟩:∃ W,W = wr:=⟨_,rfl⟩
  subst hnew
  obtain ⟨j,fs,hj,rfl,hA,hF,hK⟩:=hrel
  by_cases hlt:j < ts.length
  ·obtain ⟨b,off,v1,v2,v3,rfl,-,c1,c2,c3,hv0⟩:=hS.at3 j hlt
   have hltm:j < (ts.map kmOf).length:=by rw [Hlm.out];exact hlt
   obtain ⟨bm,om,csm,rfl,-,cm0,hM0⟩:=hSm.at_ j hltm
   obtain ⟨M,km,hvM,-,hM⟩:=hM0
   subst hvM
   have cm1:w.cell? ⟨bm,om + j,none⟩ = some (.map (some M)):=by simpa [Rp.size] using cm0 0 _ rfl
   clear cm0
   have hkm:(ts.map kmOf)[j] = kmOf ts[j]:=List.getElem_map _
   rw [hkm] at hM
   have q:=hv0
   obtain ⟨_,_,_,g1,g2,g3,hq,-,s1,s2,s3⟩:=q
   injection hq with e1 hq;injection hq with e2 hq;injection hq with e3 hq;subst e1;subst e2;subst e3
   clear hq
   have hvt:=Hts.out ts[j] (List.getElem_mem hlt)
   obtain ⟨n1,n2,n3⟩:=Zhy hvt Hs.out
   have hrg:=Zcd hvt Hs.out
   have hlook:=Zsf hvt Hs.out
   have Hlook:=zH hlook
   obtain ⟨t,ht⟩:∃ t,t = ts[j]:=⟨_,rfl⟩
   have hlj:(lbs (ts.take j) s).length + 1<=1073741824:=by unfold lbs;simp;omega
   have hst:lbs (ts.take (j + 1)) s = lbs (ts.take j) s ++ [lookT t s]:=by rw [Zab ts j hlt,ht];unfold lbs;rw [List.map_append];rfl
   rw [<- ht] at s1 s2 s3 hM n1 n2 hrg Hlook
   clear ht hvt hv0 hkm hlook
   have Hst:=zH hst
   have hI9:I64 (lookT t s):=by unfold I64;omega
   have HI:=zH hI9
   have hcl:(PM.comp t.tracked s).length<=1000:=by rw [PM.Zak];exact n2
   have hkz:(kB (PM.comp t.tracked s)).size<=maxLen:=by rw [kB_size];unfold maxLen;omega
   have Hkz:=zH hkz
   clear hst hI9 hkz
   obtain ⟨A1,C1,rfl,I1⟩:=s1.ints
   obtain ⟨A2,C2,_,_,rfl,-⟩:=s2.open_
   obtain ⟨A3,C3,rfl,I3⟩:=s3.ints
   have d1:=hK.cell (by simp) c1
   have d2:=hK.cell (by simp) c2
   have d3:=hK.cell (by simp) c3
   have Z:=Blk.new W2 [.slice none 0 0,.slice none 0 0,.slice none 0 0] 41
   obtain ⟨e0,e1,e2⟩:=Z.c3
   obtain ⟨f0,f1,f2⟩:=Z.f3
   have kd:=(Only.refl [] W2).alloc (.cells #[.slice none 0 0,.slice none 0 0,.slice none 0 0] 41)
   have d1':=kd.cell (by simp) d1
   have d2':=kd.cell (by simp) d2
   have d3':=kd.cell (by simp) d3
   go_upto_region 5 with fail
   have Z3:=Blk.new W2 [.slice A1 t.tracked.length C1,.slice A2 t.patterns.length C2,.slice A3 t.distances.length C3] 41
   have k3:Only [] W2 (W2.alloc (.cells #[.slice A1 t.tracked.length C1,.slice A2 t.patterns.length C2,.slice A3 t.distances.length C3] 41)):=(Only.refl [] W2).alloc _
   obtain ⟨W3,hW3⟩:∃ W3,W3 = W2.alloc (.cells #[.slice A1 t.tracked.length C1,.slice A2 t.patterns.length C2,.slice A3 t.distances.length C3] 41):=⟨_,rfl⟩
   simp only [List.toArray] at Z3
   rw [<- hW3] at Z3 k3 ⊢
   clear hW3 Z e0 e1 e2 f0 f1 f2 kd d1' d2' d3' d1 d2 d3 c1 c2 c3
   have KK:=hK.trans k3
   have hsz:=KK.size
   have yy0:=Z3.cell 0 rfl
   have yy1:=(hX.keep KK).cell 1 rfl
   have yy2:=KK.cell (by simp) cm1
   have hi1:(0:Int)<=(j:Int):=by omega
   have hi2:(j:Int) < (ts.length:Int):=by omega
   have cm1':=cm1
   clear x0 cm1
   have hA3:=hA.keep k3
   have hF3:=hF.keep k3
   have hu3:=zK hu KK
   have s13:=zK s1 KK
   have hM3:=hM.keep KK
   have hown:=hA.ownlt
   have hge:∀ b∈u5.ownBlock.toList,w.heap.size<=b/\b < W2.heap.size:=fun b hb=>hown b (by simpa using hb)
   have hgl:=hX.lt
   have hbml:=World.block_lt_of_cell? _ _ cm1'
   have ng:g ∉ u5.ownBlock.toList:=fun hm=>by have:=hge _ hm;omega
   have nb:bm ∉ u5.ownBlock.toList:=fun hm=>by have:=hge _ hm;simp at hbml;omega
   have nt:W2.heap.size ∉ u5.ownBlock.toList:=fun hm=>by have:=hge _ hm;omega
   have nu:∀ b∈fs0,b ∉ u5.ownBlock.toList:=fun b hb hm=>by have:=hge _ hm;have:=Rp.lt hu b hb;omega
   have ns:∀ b∈g1,b ∉ u5.ownBlock.toList:=fun b hb hm=>by have:=hge _ hm;have:=Rp.lt s1 b hb;omega
   clear hown hge hgl hbml
   go_region_held3 (fun w'=>Only u5.ownBlock.toList W3 w'/\w'.cell? ⟨g,1,none⟩ = some (.slice (some ⟨bm,om,none⟩) ts.length cm)/\w'.cell? ⟨bm,om + j,none⟩ = some (.map (some M))/\w'.cell? ⟨W2.heap.size,0,none⟩ = some (.slice A1 t.tracked.length C1)) ((refine and_of ?_ (fun q_=>⟨q_.cell ng yy1,q_.cell nb yy2,q_.cell nt yy0⟩);first | exact zO.drew | exact Only.keepThen (And.left (by assumption)) (by assumption) | exact Only.trans (And.left (by assumption)) (by assumption) | exact Only.alloc (And.left (by assumption)) _ | exact And.left (by assumption) | assumption)) (first
    | (go_at_call 211;(with_reducible refine (Zfs (.slice a2 s.length cap2) (.slice A1 t.tracked.length C1) s t.tracked _ _ _ (Rp.only hu3 (And.left (by assumption)) nu) (Rp.only s13 (And.left (by assumption)) ns) n1 n2).mono ?_);rintro e x1 ⟨p1,q1,rfl,r1,F1,y1⟩)
    | (go_at_call 209;(with_reducible refine (Zcp p1 (PM.comp t.tracked s) _ _ (zK r1 (by first | exact Only.refl _ _ | assumption)) hcl).mono ?_);rintro e x2 ⟨rfl,y2⟩;have hrun:=((hM3.keep (((Only.refl [] W3).drew.trans y1).trans y2)).run_at_yes Hkz.out Hlook.out))
    | (refine Zew rfl _ _ 27 rfl w.heap.size 2 i0 _ 8 Tryz.underlying27 hi hz0 hz1 hz2 rfl (by decide) (by decide) W3 _ (lbs (ts.take j) s) fs rfl hA3 hF3 ((((Only.refl [] W3).drew.trans y1).trans y2).alloc _) hsz x2.heap.size 1 [.int .i64 (lookT t s)] (lookT t s) [] rfl (lit_src x2 [.int .i64 (lookT t s)] _ rfl) (by intro u hu;simp at hu;subst hu;rfl) (int_rd _ HI.out) (Fresh.nil _ _) hlj w (KK.trans ((((Only.refl [] W3).drew.trans y1).trans y2).alloc _)) (Nat.le_refl _) ?_;intro v9 w9 hA9 hF9 hK9 hW9)
    | fail)
   go_wp2
   go_roundw
   case rel=>exact ⟨j + 1,_,by omega,by go_num,by rw [Hst.out];exact hA9,hF9,hK9⟩
   case measure=>simp [intOf];omega
  ·have hjl:j = ts.length:=by omega
   rw [hjl,List.take_length] at hA
   have HA:=zH hA
   clear hjl hA
   go_wp2
   go_ret
   exact ⟨_,_,rfl,HA.out.rd (by decide),HA.out.fresh hF,hK⟩
set_option maxHeartbeats 2000000 in
theorem Zds (x:Puzzle) (g:Nat) (ts:List Table) (ft:List Nat) (u:Value) (s:List Int) (fs0:List Nat) (w:World) (hB:BD w g ts ft) (hu:Rd w u s fs0) (hts:∀ t∈ts,validT x t = true) (hs:reachB x s = true) (hl:ts.length<=4) :
  Calls Tryz.prog 89 #[.pointer (some ⟨g,0,none⟩),u] w fun e w'=>e = .returned (.int .i64 (lbMax ts s))/\Only [] w w':=by
 go_enter Tryz.func89,Tryz.ntmps89
 go_upto_region 3 with ((go_at_call 153;(with_reducible refine (Ziq x g ts ft u s fs0 _ (hB.keep zA) (zK hu zA) hts hs hl).mono ?_);rintro e w1 ⟨u1,f1,rfl,r1,F1,t1⟩;obtain ⟨a1,c1,rfl,I1⟩:=r1.ints))
 obtain ⟨L,hL⟩:∃ L,L = lbs ts s:=⟨_,rfl⟩
 have hfin:lbMax ts s = L.foldl max 0:=by rw [hL];rfl
 have Hfin:=zH hfin
 rw [<- hL] at I1 r1 ⊢
 clear hL hfin
 have hb:=I1.bound
 go_loopw [5,12] (fun o i wr=>∃ j:Nat,j<=L.length/\i = .int .i64 j/\o = .int .i64 ((L.take j).foldl max 0)/\Only [] w1 wr)
  (fun _ i _=>L.length - (intOf i).toNat)
 case atStart=>exact ⟨0,Nat.zero_le _,rfl,rfl,Only.refl _ _⟩
 case round=>
  obtain ⟨j,hj,rfl,rfl,hK⟩:=hrel
  by_cases hlt:j < L.length
  ·obtain ⟨b,off,rfl,-,hc0⟩:=I1.at_ j hlt
   have hc:=hK.cell (by simp) hc0
   have hst:(L.take (j + 1)).foldl max 0 = max ((L.take j).foldl max 0) L[j]:=by rw [Zab L j hlt,List.foldl_append];rfl
   have Hst:=zH hst
   clear hst
   go_wp2
   go_roundw
   case rel=>exact ⟨j + 1,by omega,by go_num,by rw [Hst.out];first | done | rw [wrapmax],hK⟩
   case measure=>simp [intOf];omega
  ·obtain rfl:j = L.length:=by omega
   rw [List.take_length]
   go_wp2
   go_ret
   exact ⟨ret_int Hfin.out.symm,t1.trans hK⟩
set_option maxHeartbeats 2000000 in
theorem Ziw (cs:List Value) (x:Puzzle) (fp:List Nat) (v:Value) (ts:List Table) (ft:List Nat) (u:Value) (s:List Int) (fs0:List Nat) (w:World) (h:Rp.rep w cs x fp) (hv:Rd w v ts ft) (hu:Rd w u s fs0) (hsm:∀ t∈ts,t.tracked.length<=2097152) (hq:(tabSet x ts && reachB x s) = false) :
  Calls Tryz.prog 86 #[.agg cs.toArray,v,u] w fun e w'=>e = .returned (.tuple #[.pointer none,.bool false])/\Only [] w w':=by
 have h0:=h
 obtain ⟨v2,rfl,p0,p1,h2⟩:=h
 clear p0 p1 h2
 have X0:=Blk.new w [.int .i64 x.points,.string x.names,v2] 26
 simp only [List.toArray] at X0
 rcases hr:reachB x s
 ·go_enter Tryz.func86,Tryz.ntmps86
  go_wp2_with ((go_at_call 72;(with_reducible refine (Zcs [.int .i64 x.points,.string x.names,v2] x _ u s _ _ (zK h0 zA) (zK hu zA)).mono ?_);rintro e w2 ⟨he,t2⟩;rw [hr] at he;subst he))
  exact bodyPost_ret (v:=.tuple #[.pointer none,.bool false]) (by simp [results,Tryz.results86,go_sem]) rfl ⟨rfl,zA⟩
 ·have hts:tabSet x ts = false:=by rw [hr,Bool.and_true] at hq;exact hq
  clear hq
  go_enter Tryz.func86,Tryz.ntmps86
  go_wp2_with (first
   | (go_at_call 72;(with_reducible refine (Zcs [.int .i64 x.points,.string x.names,v2] x _ u s _ _ (zK h0 zA) (zK hu zA)).mono ?_);rintro e w2 ⟨he,t2⟩;rw [hr] at he;subst he;have X1:=X0.keep t2;obtain ⟨y0,y1,y2⟩:=X1.c3)
   | (go_at_call 150;(with_reducible refine (Zen [.int .i64 x.points,.string x.names,v2] x _ v ts _ _ (zK h0 zA) (zK hv zA) hsm).mono ?_);rintro e w3 ⟨he,t3⟩;rw [hts] at he;subst he)
   | fail)
  exact bodyPost_ret (v:=.tuple #[.pointer none,.bool false]) (by simp [results,Tryz.results86,go_sem]) rfl ⟨rfl,zA⟩
set_option maxHeartbeats 2000000 in
theorem Zfa (cs:List Value) (x:Puzzle) (fp:List Nat) (v:Value) (ts:List Table) (ft:List Nat) (u:Value) (s:List Int) (fs0:List Nat) (w:World) (h:Rp.rep w cs x fp) (hv:Rd w v ts ft) (hu:Rd w u s fs0) (hsm:∀ t∈ts,t.tracked.length<=2097152) (hq:(tabSet x ts && reachB x s) = true) :
  Calls Tryz.prog 86 #[.agg cs.toArray,v,u] w fun e w'=>∃ g,e = .returned (.tuple #[.pointer (some ⟨g,0,none⟩),.bool true])/\BD w' g ts ft/\Only [] w w':=by
 have h0:=h
 obtain ⟨v2,rfl,p0,p1,h2⟩:=h
 clear p0 p1 h2
 have X0:=Blk.new w [.int .i64 x.points,.string x.names,v2] 26
 simp only [List.toArray] at X0
 rw [Bool.and_eq_true] at hq
 obtain ⟨hts,hr⟩:=hq
 obtain ⟨-,q1,q2⟩:=Zbu.1 hts
 have Q2:=zH q2
 clear q2
 go_enter Tryz.func86,Tryz.ntmps86
 go_wp2_with (first
  | (go_at_call 72;(with_reducible refine (Zcs [.int .i64 x.points,.string x.names,v2] x _ u s _ _ (zK h0 zA) (zK hu zA)).mono ?_);rintro e w2 ⟨he,t2⟩;rw [hr] at he;subst he;have X1:=X0.keep t2;obtain ⟨y0,y1,y2⟩:=X1.c3)
  | (go_at_call 150;(with_reducible refine (Zen [.int .i64 x.points,.string x.names,v2] x _ v ts _ _ (zK h0 zA) (zK hv zA) hsm).mono ?_);rintro e w3 ⟨he,t3⟩;rw [hts] at he;subst he)
  | (go_at_call 151;(with_reducible refine (Zob x v ts ft _ (zK hv zA) Q2.out q1).mono ?_);rintro e w4 ⟨g,rfl,B4,t4⟩)
  | fail)
 exact bodyPost_ret (v:=.tuple #[.pointer (some ⟨g,0,none⟩),.bool true]) (by simp [results,Tryz.results86,go_sem]) rfl ⟨g,rfl,B4,zA⟩
set_option maxHeartbeats 2000000 in
theorem Zbt (cs:List Value) (x:Puzzle) (fp:List Nat) (v:Value) (ts:List Table) (ft:List Nat) (u:Value) (s:List Int) (fs0:List Nat) (w:World) (h:Rp.rep w cs x fp) (hv:Rd w v ts ft) (hu:Rd w u s fs0) (hsm:∀ t∈ts,t.tracked.length<=2097152) :
  Calls Tryz.prog 40 #[.agg cs.toArray,v,u] w fun e w'=>e = .returned (.int .i64 (lb x ts s))/\Only [] w w':=by
 have h0:=h
 obtain ⟨v2,rfl,p0,p1,h2⟩:=h
 clear p0 p1 h2
 rcases hq:tabSet x ts && reachB x s
 ·have Hn:=zH (by unfold lb;rw [hq];rfl:lb x ts s = -1)
  go_enter Tryz.func40,Tryz.ntmps40
  go_wp2_with ((go_at_call 86;(with_reducible refine (Ziw [.int .i64 x.points,.string x.names,v2] x _ v ts _ u s _ _ (zK h0 zA) (zK hv zA) (zK hu zA) hsm hq).mono ?_);rintro e w1 ⟨rfl,t1⟩))
  go_ret
  exact ⟨ret_int Hn.out.symm,zA⟩
 ·have Hn:=zH (by unfold lb;rw [if_pos hq]:lb x ts s = lbMax ts s)
  have hq2:=hq
  rw [Bool.and_eq_true,Zbu] at hq2
  obtain ⟨⟨-,q1,q2⟩,q3⟩:=hq2
  have Q2:=zH q2
  have Q3:=zH q3
  clear q2 q3
  go_enter Tryz.func40,Tryz.ntmps40
  go_wp2_with (first
   | (go_at_call 86;(with_reducible refine (Zfa [.int .i64 x.points,.string x.names,v2] x _ v ts _ u s _ _ (zK h0 zA) (zK hv zA) (zK hu zA) hsm hq).mono ?_);rintro e w1 ⟨g,rfl,B1,t1⟩)
   | (go_at_call 89;(with_reducible refine (Zds x g ts _ u s _ _ (B1.keep zA) (zK hu zA) Q2.out Q3.out q1).mono ?_);rintro e w2 ⟨rfl,t2⟩)
   | fail)
  go_ret
  exact ⟨ret_int Hn.out.symm,zA⟩
structure Certificate where
 kind:Int
 numbers:List Int
 words:List (List Int)
 tables:List Table
instance:Rp Certificate where
 size:=4
 rep w cs x fp:=∃ v1 v2 v3 f1 f2 f3,cs = [Value.int .i64 x.kind] ++ [v1] ++ [v2] ++ [v3]/\fp = f1 ++ (f2 ++ f3)/\I64 x.kind/\Rd w v1 x.numbers f1/\Rd w v2 x.words f2/\Rd w v3 x.tables f3
 len h:=by
  obtain ⟨v1,v2,v3,f1,f2,f3,rfl,-,p0,h1,h2,h3⟩:=h
  rfl
 frame h hf:=by
  obtain ⟨v1,v2,v3,f1,f2,f3,hcs,rfl,p0,h1,h2,h3⟩:=h
  exact ⟨v1,v2,v3,f1,f2,f3,hcs,rfl,p0,Rp.frame h1 fun b hb=>hf b (by simp [hb]),Rp.frame h2 fun b hb=>hf b (by simp [hb]),Rp.frame h3 fun b hb=>hf b (by simp [hb])⟩
 lt h:=by
  obtain ⟨v1,v2,v3,f1,f2,f3,hcs,rfl,p0,h1,h2,h3⟩:=h
  intro b hb
  simp only [List.mem_append] at hb
  rcases hb with hb | hb | hb
  ·exact Rp.lt h1 b hb
  ·exact Rp.lt h2 b hb
  ·exact Rp.lt h3 b hb
instance:Sm Certificate where
 sm x:=Sm.sm x.numbers/\Sm.sm x.words/\Sm.sm x.tables
def solCert (l:List Int):Certificate:=if validW 8 l then ⟨1,[],[l],[]⟩ else ⟨0,[],[],[]⟩
def noCert:Certificate:=⟨0,[],[],[]⟩
theorem Zal (w:World):Rp.rep w [.int .i64 0,.slice none 0 0,.slice none 0 0,.slice none 0 0] noCert []:=
 ⟨_,_,_,[],[],[],rfl,rfl,⟨by simp [noCert],by simp [noCert]⟩,nil_rd w,nil_rd w,nil_rd w⟩
set_option maxHeartbeats 400000 in
theorem Zmc (v:Value) (l:List Int) (fp:List Nat) (w:World) (h:Rd w v l fp) :
  Calls Tryz.prog 47 #[v] w fun e w'=>∃ cs fp',e = .returned (.agg cs.toArray)/\Rp.rep w' cs (solCert l) fp'/\Fresh w.heap.size w' fp'/\Only [] w w':=by
 rcases hq:validW 8 l
 ·have hp:solCert l = noCert:=by unfold solCert;rw [if_neg (by simp [hq])];rfl
  have Hp:=zH hp
  clear hp
  go_enter Tryz.func47,Tryz.ntmps47
  go_wp2_with ((go_at_call 98;(with_reducible refine (Zcl v l _ _ (zK h zA)).mono ?_);rintro e w1 ⟨rfl,n1,rfl⟩))
  refine bodyPost_ret (v:=.agg #[.int .i64 0,.slice none 0 0,.slice none 0 0,.slice none 0 0]) (by simp [results,Tryz.results47,go_sem]) rfl ⟨[.int .i64 0,.slice none 0 0,.slice none 0 0,.slice none 0 0],[],rfl,?_,Fresh.nil _ _,zA⟩
  rw [Hp.out];exact Zal _
 ·have hp:solCert l = ⟨1,[],[l],[]⟩:=by unfold solCert;rw [if_pos hq]
  have Hp:=zH hp
  have hlen:=Zex hq
  clear hp
  go_enter Tryz.func47,Tryz.ntmps47
  go_wp2_with (first
   | (go_at_call 98;(with_reducible refine (Zcl v l _ _ (zK h zA)).mono ?_);rintro e w1 ⟨rfl,n1,rfl⟩)
   | (go_at_call 100;(with_reducible refine (Zbc v l _ _ (zK h zA) (by omega)).mono ?_);rintro e w2 ⟨v2,fp2,rfl,r2,F2,t2⟩;obtain ⟨A2,C2,_,_,rfl,-⟩:=r2.open_;have y2:=t2.cells_eq w.heap.size (by simp) (by simp);have z2:=t2.frozen_eq w.heap.size (by simp) (by simp);have s2:w.heap.size < w2.heap.size:=(by have:=t2.size;simp at this;omega)))
  have T2:=t2.size
  simp at T2
  have hR:=Rp.only (fp':=[w.heap.size]) (w':=(((w2.setCell ⟨w.heap.size,0,none⟩ (.int .i64 1)).setCell ⟨w.heap.size,1,none⟩ (.slice none 0 0)).setCell ⟨w.heap.size,2,none⟩ (.slice (some ⟨w2.heap.size,0,none⟩) 1 1)).setCell ⟨w.heap.size,3,none⟩ (.slice none 0 0)) r2 zB (fun b hb hm=>by have:=F2.ge b hb;simp at hm this;omega)
  have hF:=F2.only (fp':=[w.heap.size]) (w':=(((w2.setCell ⟨w.heap.size,0,none⟩ (.int .i64 1)).setCell ⟨w.heap.size,1,none⟩ (.slice none 0 0)).setCell ⟨w.heap.size,2,none⟩ (.slice (some ⟨w2.heap.size,0,none⟩) 1 1)).setCell ⟨w.heap.size,3,none⟩ (.slice none 0 0)) zB (fun b hb hm=>by have:=F2.ge b hb;simp at hm this;omega)
  obtain ⟨o1,o2⟩:=one_rd hR 27 w.heap.size (hF.mono (by simp)) (g:=w2.heap.size) (by simp [World.setCell]) (by omega)
  refine bodyPost_ret (v:=.agg #[.int .i64 1,.slice none 0 0,.slice (some ⟨w2.heap.size,0,none⟩) 1 1,.slice none 0 0]) (by simp [results,Tryz.results47,go_sem,y2,s2]) rfl ⟨[.int .i64 1,.slice none 0 0,.slice (some ⟨w2.heap.size,0,none⟩) 1 1,.slice none 0 0],_,rfl,?_,o2,zA⟩
  rw [Hp.out]
  exact ⟨_,_,_,[],_,[],rfl,(by simp),⟨by simp,by simp⟩,nil_rd _,o1,nil_rd _⟩
set_option maxHeartbeats 400000 in
theorem Zmm (v:Value) (l:List Int) (fp:List Nat) (w:World) (h:Rd w v l fp) :
  Calls Tryz.prog 43 #[v] w fun e w'=>∃ cs fp',e = .returned (.agg cs.toArray)/\Rp.rep w' cs (solCert l) fp'/\Fresh w.heap.size w' fp'/\Only [] w w':=by
 rcases hq:validW 8 l
 ·have hp:solCert l = noCert:=by unfold solCert;rw [if_neg (by simp [hq])];rfl
  have Hp:=zH hp
  clear hp
  go_enter Tryz.func43,Tryz.ntmps43
  go_wp2_with ((go_at_call 90;(with_reducible refine (Zcm v l _ _ (zK h zA)).mono ?_);rintro e w1 ⟨rfl,t1⟩;have y1:=t1.cells_eq w.heap.size (by simp) (by simp);have z1:=t1.frozen_eq w.heap.size (by simp) (by simp);have s1:w.heap.size < w1.heap.size:=(by have:=t1.size;simp at this;omega)))
  refine bodyPost_ret (v:=.agg #[.int .i64 0,.slice none 0 0,.slice none 0 0,.slice none 0 0]) (by simp [results,Tryz.results43,go_sem,y1]) rfl ⟨[.int .i64 0,.slice none 0 0,.slice none 0 0,.slice none 0 0],[],rfl,?_,Fresh.nil _ _,zA⟩
  rw [Hp.out];exact Zal _
 ·have hp:solCert l = ⟨1,[],[l],[]⟩:=by unfold solCert;rw [if_pos hq]
  have Hp:=zH hp
  have hlen:=Zex hq
  clear hp
  go_enter Tryz.func43,Tryz.ntmps43
  go_wp2_with (first
   | (go_at_call 90;(with_reducible refine (Zcm v l _ _ (zK h zA)).mono ?_);rintro e w1 ⟨rfl,t1⟩;have y1:=t1.cells_eq w.heap.size (by simp) (by simp);have z1:=t1.frozen_eq w.heap.size (by simp) (by simp);have s1:w.heap.size < w1.heap.size:=(by have:=t1.size;simp at this;omega))
   | (go_at_call 92;(with_reducible refine (Zdm v l _ _ (zK h zA) (by omega)).mono ?_);rintro e w2 ⟨v2,fp2,rfl,r2,F2,t2⟩;obtain ⟨A2,C2,_,_,rfl,-⟩:=r2.open_;have y2:=t2.cells_eq w.heap.size s1 (by simp);have z2:=t2.frozen_eq w.heap.size s1 (by simp);have s2:w.heap.size < w2.heap.size:=(by have:=t2.size;omega)))
  have T2:=t2.size
  have hR:=Rp.only (fp':=[w.heap.size]) (w':=(((w2.setCell ⟨w.heap.size,0,none⟩ (.int .i64 1)).setCell ⟨w.heap.size,1,none⟩ (.slice none 0 0)).setCell ⟨w.heap.size,2,none⟩ (.slice (some ⟨w2.heap.size,0,none⟩) 1 1)).setCell ⟨w.heap.size,3,none⟩ (.slice none 0 0)) r2 zB (fun b hb hm=>by have:=F2.ge b hb;simp at hm;omega)
  have hF:=F2.only (fp':=[w.heap.size]) (w':=(((w2.setCell ⟨w.heap.size,0,none⟩ (.int .i64 1)).setCell ⟨w.heap.size,1,none⟩ (.slice none 0 0)).setCell ⟨w.heap.size,2,none⟩ (.slice (some ⟨w2.heap.size,0,none⟩) 1 1)).setCell ⟨w.heap.size,3,none⟩ (.slice none 0 0)) zB (fun b hb hm=>by have:=F2.ge b hb;simp at hm;omega)
  obtain ⟨o1,o2⟩:=one_rd hR 27 w.heap.size (hF.mono (by omega)) (g:=w2.heap.size) (by simp [World.setCell]) (by omega)
  refine bodyPost_ret (v:=.agg #[.int .i64 1,.slice none 0 0,.slice (some ⟨w2.heap.size,0,none⟩) 1 1,.slice none 0 0]) (by simp [results,Tryz.results43,go_sem,y1,y2,s2]) rfl ⟨[.int .i64 1,.slice none 0 0,.slice (some ⟨w2.heap.size,0,none⟩) 1 1,.slice none 0 0],_,rfl,?_,o2,zA⟩
  rw [Hp.out]
  exact ⟨_,_,_,[],_,[],rfl,(by simp),⟨by simp,by simp⟩,nil_rd _,o1,nil_rd _⟩
end Go.Proofs.YthleokaeobdamaaGreat
