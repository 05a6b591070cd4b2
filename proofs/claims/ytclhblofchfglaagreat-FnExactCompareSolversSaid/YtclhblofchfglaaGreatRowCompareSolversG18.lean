/- A method by the reference: its check (laws 41, 51, 57, 58). -/
import Derived.Test.YtclhblofchfglaaGreatRowCompareSolversG17
import Derived.Test.YtclhblofchfglaaGreatRowCompareSolversG16
import Derived.Deep.DeepCutAuto
namespace Go.Proofs.YtclhblofchfglaaGreat
open Go.RowKit
set_option maxRecDepth 10000
set_option maxHeartbeats 1000000 in
theorem Zkm (va:Value) (A:List Int) (fa:List Nat) (vb:Value) (Bs:List Int) (fb:List Nat) (w:World) (ha:Rd w va A fa) (hb:Rd w vb Bs fb) :
  Calls Tryz.prog 108 #[va,vb] w fun e w'=>e = .returned (.bool (Bs.all fun y=>decide (y∈A)))/\Only [] w w':=by
 obtain ⟨a,c,rfl,IA⟩:=ha.ints
 obtain ⟨a2,c2,rfl,IB⟩:=hb.ints
 have hbb:=IB.bound
 go_enter Tryz.func108,Tryz.ntmps108
 go_wp2
 go_loopw [5] (fun i wr=>∃ j:Nat,j<=Bs.length/\i = .int .i64 j/\(∀ y∈Bs.take j,y∈A)/\Only [] w wr)
  (fun i _=>Bs.length - (intOf i).toNat)
 case atStart=>exact ⟨0,Nat.zero_le _,rfl,by simp,Only.refl _ _⟩
 case round=>
  obtain ⟨W2,hnew⟩:∃ W,W = wr:=⟨_,rfl⟩
  subst hnew
  obtain ⟨j,hj,rfl,hr,hK⟩:=hrel
  have Hr:=zH hr
  clear hr
  by_cases hlt:j < Bs.length
  ·obtain ⟨b,off,rfl,-,hc⟩:=IB.at_ j hlt
   have hcw:=hK.cell (by simp) hc
   by_cases hm:Bs[j]∈A
   ·have Hd:=zH (decide_eq_true hm)
    have Hm:=zH hm
    clear hc hm
    go_wp2_with (first
     | (go_at_call 154;(with_reducible refine (Zec a c A Bs[j] _ W2 (IA.keep hK)).mono ?_);rintro e w3 ⟨he,d3⟩;rw [Hd.out] at he;subst he;have t3:=d3.only [];clear d3)
     | fail)
    go_roundw
    case rel=>exact ⟨j + 1,by omega,by go_num,by
     rw [Zac Bs j hlt];intro y hy
     rcases List.mem_append.1 hy with hy | hy
     ·exact Hr.out y hy
     ·simp at hy;subst hy;exact Hm.out,hK.trans t3⟩
    case measure=>simp [intOf];omega
   ·have Hd:=zH (decide_eq_false hm)
    have Hf:=zH (show (Bs.all fun y=>decide (y∈A)) = false by
     rw [List.all_eq_false];exact ⟨Bs[j],List.getElem_mem _,by simpa using hm⟩)
    clear hc hm
    go_wp2_with (first
     | (go_at_call 154;(with_reducible refine (Zec a c A Bs[j] _ W2 (IA.keep hK)).mono ?_);rintro e w3 ⟨he,d3⟩;rw [Hd.out] at he;subst he;have t3:=d3.only [];clear d3)
     | fail)
    go_ret
    exact ⟨Zaa Hf.out.symm,hK.trans t3⟩
  ·have Hf:=zH (show (Bs.all fun y=>decide (y∈A)) = true by
    rw [List.all_eq_true];intro y hy
    have:=Hr.out y (by rw [List.take_of_length_le (by omega)];exact hy)
    exact decide_eq_true this)
   go_wp2
   go_ret
   exact ⟨Zaa Hf.out.symm,hK⟩
set_option maxHeartbeats 4000000 in
theorem Zcd (cs:List Value) (x:Puzzle) (fp:List Nat) (v:Value) (goals:List (List Int)) (fg:List Nat) (w:World) (h:Rp.rep w cs x fp) (hg:Rd w v goals fg) :
  Calls Tryz.prog 58 #[.agg cs.toArray,v] w fun e w'=>e = .returned (.bool (methB x goals))/\Only [] w w':=by
 have h0:=h
 obtain ⟨v2,rfl,p0,p1,h2⟩:=h
 clear p0 p1 h2
 have hg0:=hg
 obtain ⟨a,cap,ob,fps,rfl,-,S⟩:=hg.open_
 have hb:=S.bound
 have X0:Blk (w.alloc (.cells #[.int .i64 x.points,.string x.names,v2] 33)) w.heap.size [.int .i64 x.points,.string x.names,v2]:=Blk.new w [.int .i64 x.points,.string x.names,v2] 33
 rcases hv:validPz x
 ·have Hf:=zH (Zmp (goals:=goals) hv)
  have Hv:=zH hv
  clear hv
  go_enter Tryz.func58,Tryz.ntmps58
  go_wp2_with (first
   | (go_at_call 81;(with_reducible refine (Zaj [.int .i64 x.points,.string x.names,v2] x _ _ (zK h0 zA)).mono ?_);rintro e w1 ⟨he,t1⟩;rw [Hv.out] at he;subst he)
   | fail)
  go_ret
  exact ⟨Zaa Hf.out.symm,zA⟩
 have hvf:=Zae hv
 obtain ⟨q1,q20,-,-⟩:=hvf
 have Hv:=zH hv
 rcases hr:inR (goals.length:Int) 1 5
 ·have Hf:=zH (Znl (x:=x) hr)
  have Hr:=zH hr
  clear hv hr
  go_enter Tryz.func58,Tryz.ntmps58
  go_wp2_with (first
   | (go_at_call 81;(with_reducible refine (Zaj [.int .i64 x.points,.string x.names,v2] x _ _ (zK h0 zA)).mono ?_);rintro e w1 ⟨he,t1⟩;rw [Hv.out] at he;subst he)
   | (go_at_call 88;(with_reducible refine (Zao (goals.length:Int) 1 5 _).mono ?_);rintro e w1 ⟨he,rfl⟩;rw [Hr.out] at he;subst he)
   | fail)
  go_ret
  exact ⟨Zaa Hf.out.symm,zA⟩
 have hrg:=inR_iff.1 hr
 have Hr:=zH hr
 clear hv hr
 go_enter Tryz.func58,Tryz.ntmps58
 go_upto_region 5 with (first
  | (go_at_call 81;(with_reducible refine (Zaj [.int .i64 x.points,.string x.names,v2] x _ _ (zK h0 zA)).mono ?_);rintro e w1 ⟨he,t1⟩;rw [Hv.out] at he;subst he)
  | (go_at_call 88;(with_reducible refine (Zao (goals.length:Int) 1 5 _).mono ?_);rintro e w1 ⟨he,rfl⟩;rw [Hr.out] at he;subst he)
  | fail)
 have K1:Only [] w w1:=zA
 have X1:=X0.keep t1
 clear X0 t1
 go_loopw [6] (fun i wr=>∃ j:Nat,j<=goals.length/\i = .int .i64 j/\okTo x goals j/\Only [] w1 wr)
  (fun i _=>goals.length - (intOf i).toNat)
 case atStart=>exact ⟨0,Nat.zero_le _,rfl,fun i hi=>by omega,Only.refl _ _⟩
 case round=>
  obtain ⟨W2,hnew⟩:∃ W,W = wr:=⟨_,rfl⟩
  subst hnew
  obtain ⟨j,hj,rfl,hok,hK⟩:=hrel
  have kW:=K1.trans hK
  have Hok:=zH hok
  clear hok
  have x0:=(X1.keep hK).cell 0 rfl
  by_cases hlt:j < goals.length
  ·obtain ⟨b,off,u,rfl,-,hc,hu⟩:=S.atRow j hlt
   have hgd:goals.getD j [] = goals[j]:=Zab hlt
   have hcw:=kW.cell (by simp) hc
   obtain ⟨ag,cg,rfl,Ig⟩:=hu.ints
   obtain ⟨goal,hgl⟩:∃ goal,goal = goals[j]:=⟨_,rfl⟩
   rw [<- hgl] at hgd Ig hcw
   have Hgd:=zH hgd
   have hjI:(j:Int) < (goals.length:Int):=by omega
   clear hgl hc hu hgd
   have hpt:∀ W,Only [] W2 W->Calls Tryz.prog 107 #[.int .i64 x.points,.slice ag goal.length cg] W fun e w'=>e = .returned (.bool (trackB x.points goal))/\Only [] W w':=fun W hW=>(Zha x.points _ goal _ W (Ig.keep (kW.trans hW)).rd (by omega) (by omega)).mono fun e w' hh=>⟨hh.1,hh.2.only []⟩
   obtain ⟨tr,htr⟩:∃ tr,tr = trackB x.points goal:=⟨_,rfl⟩
   rw [<- htr] at hpt
   have Hpt:=zH hpt
   clear hpt
   obtain ⟨r,hr⟩:∃ r:Bool,r = (!tr || (decide (0 < j) && !pairB (goals.getD (j - 1) []) goal)):=⟨_,rfl⟩
   go_wp2
   go_cut [60] (fun s60 wx=>s60 = .bool r/\Only [] W2 wx)
   case first=>
    cases tr
    ·have hrr:r = true:=by rw [hr];rfl
     subst hrr
     clear hr htr
     refine wp_region_held_drew (S:=fun w'=>Only [] W2 w'/\w'.cell? ⟨w.heap.size,0,none⟩ = some (.int .i64 x.points)/\w'.cell? ⟨b,off + j,none⟩ = some (.slice ag goal.length cg)) (by kernel_rfl) (and_of (Only.refl [] W2).drew (fun q_=>⟨q_.ce x0,q_.ce hcw⟩)) (fun hHeld=>?_)
     refine tkV (v:=?v1) 0 ?h1 ?r1;(case h1=>(intro w__ hSw;(try dsimp only at hSw);go_simp;try with_reducible rfl));(try simp only [Act.put,aT,aZ,sB,sZ,sS])
     refine tkV (v:=?v2) 1 ?h2 ?r2;(case h2=>(intro w__ hSw;(try dsimp only at hSw);go_simp;try with_reducible rfl));(try simp only [Act.put,aT,aZ,aS,sB,sZ,sS])
     refine tkV (v:=?v3) 2 ?h3 ?r3;(case h3=>(intro w__ hSw;(try dsimp only at hSw);go_simp;try with_reducible rfl));(try simp only [Act.put,aT,aZ,aS,sB,sZ,sS])
     refine tkV (v:=?v4) 3 ?h4 ?r4;(case h4=>(intro w__ hSw;(try dsimp only at hSw);go_simp;try with_reducible rfl));(try simp only [Act.put,aT,aZ,aS,sB,sZ,sS])
     refine tkV (v:=?v5) 4 ?h5 ?r5;(case h5=>(intro w__ hSw;(try dsimp only at hSw);go_simp;try with_reducible rfl));(try simp only [Act.put,aT,aZ,aS,sB,sZ,sS])
     refine tkV (v:=?v6) 5 ?h6 ?r6;(case h6=>(intro w__ hSw;(try dsimp only at hSw);go_simp;try with_reducible rfl));(try simp only [Act.put,aT,aZ,aS,sB,sZ,sS])
     refine wpAnyH_ready (rs:=[6]) (by kernel_rfl) (by simp) ?_
     refine AllReadyH.cons rfl (fun K hK=>?_) AllReadyH.nil
     go_simp
     (go_at_call 107;(with_reducible refine (Hpt.out _ (And.left (by assumption))).mono ?_);rintro e w5 ⟨rfl,t5⟩)
     go_wp2_with fail
     refine hK.out _ _ ?hS7 (fun hHeld=>?rest7)
     case hS7=>((refine and_of ?_ (fun q_=>⟨q_.ce x0,q_.ce hcw⟩));first | exact Only.trans (And.left (by assumption)) (by assumption) | exact And.left (by assumption) | assumption)
     clear hK K
     (try simp only [Act.put,aT,aZ,aS,sB,sZ,sS])
     refine tkV (v:=?v8) 7 ?h8 ?r8;(case h8=>(intro w__ hSw;(try dsimp only at hSw);go_simp;try with_reducible rfl));(try simp only [Act.put,aT,aZ,aS,sB,sZ,sS])
     refine tkV (v:=?v9) 8 ?h9 ?r9;(case h9=>(intro w__ hSw;(try dsimp only at hSw);go_simp;try with_reducible rfl));(try simp only [Act.put,aT,aZ,aS,sB,sZ,sS])
     refine tkU 9 ?_;(try simp only [Act.put,aT,aZ,aS,sB,sZ,sS])
     refine tkU 10 ?_;(try simp only [Act.put,aT,aZ,aS,sB,sZ,sS])
     refine tkU 11 ?_;(try simp only [Act.put,aT,aZ,aS,sB,sZ,sS])
     refine tkU 12 ?_;(try simp only [Act.put,aT,aZ,aS,sB,sZ,sS])
     refine tkU 13 ?_;(try simp only [Act.put,aT,aZ,aS,sB,sZ,sS])
     refine tkU 14 ?_;(try simp only [Act.put,aT,aZ,aS,sB,sZ,sS])
     refine tkU 15 ?_;(try simp only [Act.put,aT,aZ,aS,sB,sZ,sS])
     refine tkU 16 ?_;(try simp only [Act.put,aT,aZ,aS,sB,sZ,sS])
     refine tkU 17 ?_;(try simp only [Act.put,aT,aZ,aS,sB,sZ,sS])
     refine tkU 18 ?_;(try simp only [Act.put,aT,aZ,aS,sB,sZ,sS])
     refine tkU 19 ?_;(try simp only [Act.put,aT,aZ,aS,sB,sZ,sS])
     refine tkU 20 ?_;(try simp only [Act.put,aT,aZ,aS,sB,sZ,sS])
     refine tkU 21 ?_;(try simp only [Act.put,aT,aZ,aS,sB,sZ,sS])
     refine tkU 22 ?_;(try simp only [Act.put,aT,aZ,aS,sB,sZ,sS])
     refine tkU 23 ?_;(try simp only [Act.put,aT,aZ,aS,sB,sZ,sS])
     refine tkU 24 ?_;(try simp only [Act.put,aT,aZ,aS,sB,sZ,sS])
     refine tkU 25 ?_;(try simp only [Act.put,aT,aZ,aS,sB,sZ,sS])
     refine tkU 26 ?_;(try simp only [Act.put,aT,aZ,aS,sB,sZ,sS])
     refine tkU 27 ?_;(try simp only [Act.put,aT,aZ,aS,sB,sZ,sS])
     refine tkU 28 ?_;(try simp only [Act.put,aT,aZ,aS,sB,sZ,sS])
     refine tkU 29 ?_;(try simp only [Act.put,aT,aZ,aS,sB,sZ,sS])
     refine tkU 30 ?_;(try simp only [Act.put,aT,aZ,aS,sB,sZ,sS])
     refine tkU 31 ?_;(try simp only [Act.put,aT,aZ,aS,sB,sZ,sS])
     refine tkU 32 ?_;(try simp only [Act.put,aT,aZ,aS,sB,sZ,sS])
     refine tkU 33 ?_;(try simp only [Act.put,aT,aZ,aS,sB,sZ,sS])
     refine tkU 34 ?_;(try simp only [Act.put,aT,aZ,aS,sB,sZ,sS])
     refine tkU 35 ?_;(try simp only [Act.put,aT,aZ,aS,sB,sZ,sS])
     refine tkU 36 ?_;(try simp only [Act.put,aT,aZ,aS,sB,sZ,sS])
     refine tkU 37 ?_;(try simp only [Act.put,aT,aZ,aS,sB,sZ,sS])
     refine tkV (v:=?v10) 38 ?h10 ?r10;(case h10=>(intro w__ hSw;(try dsimp only at hSw);go_simp;try with_reducible rfl));(try simp only [Act.put,aT,aZ,aS,sB,sZ,sS])
     refine wpAnyH_done (by kernel_rfl) ?_ _
     go_wp2
     go_meet
     exact ⟨rfl,And.left (by assumption)⟩
    by_cases hj0:0 < j
    ·obtain ⟨jp,hjp⟩:∃ jp,jp = j - 1:=⟨_,rfl⟩
     have hjl:jp < goals.length:=by omega
     obtain ⟨b',off',u',hA',-,hc',hu'⟩:=S.atRow jp hjl
     injection hA' with hA';injection hA' with hA1 hA2;subst hA1;subst hA2
     have hpd:goals.getD jp [] = goals[jp]:=Zab hjl
     obtain ⟨ap,cp,rfl,Ip⟩:=hu'.ints
     rw [<- hjp] at hr
     obtain ⟨prev,hpv⟩:∃ prev,prev = goals[jp]:=⟨_,rfl⟩
     rw [<- hpv] at hpd Ip hc'
     rw [hpd] at hr
     have hcp:=kW.cell (by simp) hc'
     have e1:IntKind.i64.wrap ((j:Int) - 1) = (j:Int) - 1:=by rw [IntKind.wrap_i64];omega
     have e2:((j:Int) - 1).toNat = jp:=by omega
     have e3:(0:Int)<=(j:Int) - 1:=by omega
     have e4:(j:Int) - 1 < (goals.length:Int):=by omega
     have e5:(0:Int) < (j:Int):=by omega
     have e6:(1:Int)<=(j:Int):=by omega
     clear hpv hpd hc' hu' hjp
     by_cases hle:goal.length<=prev.length
     ·have hge:decide ((goal.length:Int)<=(prev.length:Int)) = true:=decide_eq_true (by omega)
      have hrr:r = true:=by rw [hr];unfold pairB;rw [decide_eq_false (by omega:¬ prev.length < goal.length),decide_eq_true hj0];rfl
      subst hrr
      clear hr htr
      refine wp_region_held_drew (S:=fun w'=>Only [] W2 w'/\w'.cell? ⟨w.heap.size,0,none⟩ = some (.int .i64 x.points)/\w'.cell? ⟨b,off + j,none⟩ = some (.slice ag goal.length cg)/\w'.cell? ⟨b,off + jp,none⟩ = some (.slice ap prev.length cp)) (by kernel_rfl) (and_of (Only.refl [] W2).drew (fun q_=>⟨q_.ce x0,q_.ce hcw,q_.ce hcp⟩)) (fun hHeld=>?_)
      refine tkV (v:=?v11) 0 ?h11 ?r11;(case h11=>(intro w__ hSw;(try dsimp only at hSw);go_simp;try with_reducible rfl));(try simp only [Act.put,aT,aZ,sB,sZ,sS])
      refine tkV (v:=?v12) 1 ?h12 ?r12;(case h12=>(intro w__ hSw;(try dsimp only at hSw);go_simp;try with_reducible rfl));(try simp only [Act.put,aT,aZ,aS,sB,sZ,sS])
      refine tkV (v:=?v13) 2 ?h13 ?r13;(case h13=>(intro w__ hSw;(try dsimp only at hSw);go_simp;try with_reducible rfl));(try simp only [Act.put,aT,aZ,aS,sB,sZ,sS])
      refine tkV (v:=?v14) 3 ?h14 ?r14;(case h14=>(intro w__ hSw;(try dsimp only at hSw);go_simp;try with_reducible rfl));(try simp only [Act.put,aT,aZ,aS,sB,sZ,sS])
      refine tkV (v:=?v15) 4 ?h15 ?r15;(case h15=>(intro w__ hSw;(try dsimp only at hSw);go_simp;try with_reducible rfl));(try simp only [Act.put,aT,aZ,aS,sB,sZ,sS])
      refine tkV (v:=?v16) 5 ?h16 ?r16;(case h16=>(intro w__ hSw;(try dsimp only at hSw);go_simp;try with_reducible rfl));(try simp only [Act.put,aT,aZ,aS,sB,sZ,sS])
      refine wpAnyH_ready (rs:=[6]) (by kernel_rfl) (by simp) ?_
      refine AllReadyH.cons rfl (fun K hK=>?_) AllReadyH.nil
      go_simp
      (go_at_call 107;(with_reducible refine (Hpt.out _ (And.left (by assumption))).mono ?_);rintro e w5 ⟨rfl,t5⟩)
      go_wp2_with fail
      refine hK.out _ _ ?hS17 (fun hHeld=>?rest17)
      case hS17=>((refine and_of ?_ (fun q_=>⟨q_.ce x0,q_.ce hcw,q_.ce hcp⟩));first | exact Only.trans (And.left (by assumption)) (by assumption) | exact And.left (by assumption) | assumption)
      clear hK K
      (try simp only [Act.put,aT,aZ,aS,sB,sZ,sS])
      refine tkV (v:=?v18) 7 ?h18 ?r18;(case h18=>(intro w__ hSw;(try dsimp only at hSw);go_simp;try with_reducible rfl));(try simp only [Act.put,aT,aZ,aS,sB,sZ,sS])
      refine tkV (v:=?v19) 8 ?h19 ?r19;(case h19=>(intro w__ hSw;(try dsimp only at hSw);go_simp;try with_reducible rfl));(try simp only [Act.put,aT,aZ,aS,sB,sZ,sS])
      refine tkV (v:=?v20) 9 ?h20 ?r20;(case h20=>(intro w__ hSw;(try dsimp only at hSw);go_simp;try with_reducible rfl));(try simp only [Act.put,aT,aZ,aS,sB,sZ,sS])
      refine tkV (v:=?v21) 10 ?h21 ?r21;(case h21=>(intro w__ hSw;(try dsimp only at hSw);go_simp;try with_reducible rfl));(try simp only [Act.put,aT,aZ,aS,sB,sZ,sS])
      refine tkV (v:=?v22) 11 ?h22 ?r22;(case h22=>(intro w__ hSw;(try dsimp only at hSw);go_simp;try with_reducible rfl));(try simp only [Act.put,aT,aZ,aS,sB,sZ,sS])
      refine tkV (v:=?v23) 12 ?h23 ?r23;(case h23=>(intro w__ hSw;(try dsimp only at hSw);go_simp;try with_reducible rfl));(try simp only [Act.put,aT,aZ,aS,sB,sZ,sS])
      refine tkV (v:=?v24) 13 ?h24 ?r24;(case h24=>(intro w__ hSw;(try dsimp only at hSw);go_simp;try with_reducible rfl));(try simp only [Act.put,aT,aZ,aS,sB,sZ,sS])
      refine tkV (v:=?v25) 14 ?h25 ?r25;(case h25=>(intro w__ hSw;(try dsimp only at hSw);go_simp;try with_reducible rfl));(try simp only [Act.put,aT,aZ,aS,sB,sZ,sS])
      refine tkV (v:=?v26) 15 ?h26 ?r26;(case h26=>(intro w__ hSw;(try dsimp only at hSw);go_simp;try with_reducible rfl));(try simp only [Act.put,aT,aZ,aS,sB,sZ,sS])
      refine tkV (v:=?v27) 16 ?h27 ?r27;(case h27=>(intro w__ hSw;(try dsimp only at hSw);go_simp;try with_reducible rfl));(try simp only [Act.put,aT,aZ,aS,sB,sZ,sS])
      refine tkV (v:=?v28) 17 ?h28 ?r28;(case h28=>(intro w__ hSw;(try dsimp only at hSw);go_simp;try with_reducible rfl));(try simp only [Act.put,aT,aZ,aS,sB,sZ,sS])
      refine tkV (v:=?v29) 18 ?h29 ?r29;(case h29=>(intro w__ hSw;(try dsimp only at hSw);go_simp;try with_reducible rfl));(try simp only [Act.put,aT,aZ,aS,sB,sZ,sS])
      refine tkV (v:=?v30) 19 ?h30 ?r30;(case h30=>(intro w__ hSw;(try dsimp only at hSw);go_simp;try with_reducible rfl));(try simp only [Act.put,aT,aZ,aS,sB,sZ,sS])
      refine tkV (v:=?v31) 20 ?h31 ?r31;(case h31=>(intro w__ hSw;(try dsimp only at hSw);go_simp;try with_reducible rfl));(try simp only [Act.put,aT,aZ,aS,sB,sZ,sS])
      refine tkV (v:=?v32) 21 ?h32 ?r32;(case h32=>(intro w__ hSw;(try dsimp only at hSw);go_simp;try with_reducible rfl));(try simp only [Act.put,aT,aZ,aS,sB,sZ,sS])
      refine tkV (v:=?v33) 22 ?h33 ?r33;(case h33=>(intro w__ hSw;(try dsimp only at hSw);go_simp;try with_reducible rfl));(try simp only [Act.put,aT,aZ,aS,sB,sZ,sS])
      refine tkV (v:=?v34) 23 ?h34 ?r34;(case h34=>(intro w__ hSw;(try dsimp only at hSw);go_simp;try with_reducible rfl));(try simp only [Act.put,aT,aZ,aS,sB,sZ,sS])
      refine tkV (v:=?v35) 24 ?h35 ?r35;(case h35=>(intro w__ hSw;(try dsimp only at hSw);go_simp;try with_reducible rfl));(try simp only [Act.put,aT,aZ,aS,sB,sZ,sS])
      refine tkU 25 ?_;(try simp only [Act.put,aT,aZ,aS,sB,sZ,sS])
      refine tkU 26 ?_;(try simp only [Act.put,aT,aZ,aS,sB,sZ,sS])
      refine tkU 27 ?_;(try simp only [Act.put,aT,aZ,aS,sB,sZ,sS])
      refine tkU 28 ?_;(try simp only [Act.put,aT,aZ,aS,sB,sZ,sS])
      refine tkU 29 ?_;(try simp only [Act.put,aT,aZ,aS,sB,sZ,sS])
      refine tkU 30 ?_;(try simp only [Act.put,aT,aZ,aS,sB,sZ,sS])
      refine tkU 31 ?_;(try simp only [Act.put,aT,aZ,aS,sB,sZ,sS])
      refine tkU 32 ?_;(try simp only [Act.put,aT,aZ,aS,sB,sZ,sS])
      refine tkU 33 ?_;(try simp only [Act.put,aT,aZ,aS,sB,sZ,sS])
      refine tkU 34 ?_;(try simp only [Act.put,aT,aZ,aS,sB,sZ,sS])
      refine tkU 35 ?_;(try simp only [Act.put,aT,aZ,aS,sB,sZ,sS])
      refine tkV (v:=?v36) 36 ?h36 ?r36;(case h36=>(intro w__ hSw;(try dsimp only at hSw);go_simp;try with_reducible rfl));(try simp only [Act.put,aT,aZ,aS,sB,sZ,sS])
      refine tkV (v:=?v37) 37 ?h37 ?r37;(case h37=>(intro w__ hSw;(try dsimp only at hSw);go_simp;try with_reducible rfl));(try simp only [Act.put,aT,aZ,aS,sB,sZ,sS])
      refine tkV (v:=?v38) 38 ?h38 ?r38;(case h38=>(intro w__ hSw;(try dsimp only at hSw);go_simp;try with_reducible rfl));(try simp only [Act.put,aT,aZ,aS,sB,sZ,sS])
      refine wpAnyH_done (by kernel_rfl) ?_ _
      go_wp2
      go_meet
      exact ⟨rfl,And.left (by assumption)⟩
     ·have hge:decide ((goal.length:Int)<=(prev.length:Int)) = false:=decide_eq_false (by omega)
      have hrr:r = !(prev.all fun y=>decide (y∈goal)):=by
       rw [hr];unfold pairB;rw [decide_eq_true (by omega:prev.length < goal.length),decide_eq_true hj0];simp
      have hca:∀ W,Only [] W2 W->Calls Tryz.prog 108 #[.slice ag goal.length cg,.slice ap prev.length cp] W fun e w'=>e = .returned (.bool !r)/\Only [] W w':=fun W hW=>by
       rw [hrr,Bool.not_not]
       exact Zkm _ goal _ _ prev _ W (Ig.keep (kW.trans hW)).rd (Ip.keep (kW.trans hW)).rd
      have Hca:=zH hca
      clear hca hrr hr htr
      refine wp_region_held_drew (S:=fun w'=>Only [] W2 w'/\w'.cell? ⟨w.heap.size,0,none⟩ = some (.int .i64 x.points)/\w'.cell? ⟨b,off + j,none⟩ = some (.slice ag goal.length cg)/\w'.cell? ⟨b,off + jp,none⟩ = some (.slice ap prev.length cp)) (by kernel_rfl) (and_of (Only.refl [] W2).drew (fun q_=>⟨q_.ce x0,q_.ce hcw,q_.ce hcp⟩)) (fun hHeld=>?_)
      refine tkV (v:=?v39) 0 ?h39 ?r39;(case h39=>(intro w__ hSw;(try dsimp only at hSw);go_simp;try with_reducible rfl));(try simp only [Act.put,aT,aZ,sB,sZ,sS])
      refine tkV (v:=?v40) 1 ?h40 ?r40;(case h40=>(intro w__ hSw;(try dsimp only at hSw);go_simp;try with_reducible rfl));(try simp only [Act.put,aT,aZ,aS,sB,sZ,sS])
      refine tkV (v:=?v41) 2 ?h41 ?r41;(case h41=>(intro w__ hSw;(try dsimp only at hSw);go_simp;try with_reducible rfl));(try simp only [Act.put,aT,aZ,aS,sB,sZ,sS])
      refine tkV (v:=?v42) 3 ?h42 ?r42;(case h42=>(intro w__ hSw;(try dsimp only at hSw);go_simp;try with_reducible rfl));(try simp only [Act.put,aT,aZ,aS,sB,sZ,sS])
      refine tkV (v:=?v43) 4 ?h43 ?r43;(case h43=>(intro w__ hSw;(try dsimp only at hSw);go_simp;try with_reducible rfl));(try simp only [Act.put,aT,aZ,aS,sB,sZ,sS])
      refine tkV (v:=?v44) 5 ?h44 ?r44;(case h44=>(intro w__ hSw;(try dsimp only at hSw);go_simp;try with_reducible rfl));(try simp only [Act.put,aT,aZ,aS,sB,sZ,sS])
      refine wpAnyH_ready (rs:=[6]) (by kernel_rfl) (by simp) ?_
      refine AllReadyH.cons rfl (fun K hK=>?_) AllReadyH.nil
      go_simp
      (go_at_call 107;(with_reducible refine (Hpt.out _ (And.left (by assumption))).mono ?_);rintro e w5 ⟨rfl,t5⟩)
      go_wp2_with fail
      refine hK.out _ _ ?hS45 (fun hHeld=>?rest45)
      case hS45=>((refine and_of ?_ (fun q_=>⟨q_.ce x0,q_.ce hcw,q_.ce hcp⟩));first | exact Only.trans (And.left (by assumption)) (by assumption) | exact And.left (by assumption) | assumption)
      clear hK K
      (try simp only [Act.put,aT,aZ,aS,sB,sZ,sS])
      refine tkV (v:=?v46) 7 ?h46 ?r46;(case h46=>(intro w__ hSw;(try dsimp only at hSw);go_simp;try with_reducible rfl));(try simp only [Act.put,aT,aZ,aS,sB,sZ,sS])
      refine tkV (v:=?v47) 8 ?h47 ?r47;(case h47=>(intro w__ hSw;(try dsimp only at hSw);go_simp;try with_reducible rfl));(try simp only [Act.put,aT,aZ,aS,sB,sZ,sS])
      refine tkV (v:=?v48) 9 ?h48 ?r48;(case h48=>(intro w__ hSw;(try dsimp only at hSw);go_simp;try with_reducible rfl));(try simp only [Act.put,aT,aZ,aS,sB,sZ,sS])
      refine tkV (v:=?v49) 10 ?h49 ?r49;(case h49=>(intro w__ hSw;(try dsimp only at hSw);go_simp;try with_reducible rfl));(try simp only [Act.put,aT,aZ,aS,sB,sZ,sS])
      refine tkV (v:=?v50) 11 ?h50 ?r50;(case h50=>(intro w__ hSw;(try dsimp only at hSw);go_simp;try with_reducible rfl));(try simp only [Act.put,aT,aZ,aS,sB,sZ,sS])
      refine tkV (v:=?v51) 12 ?h51 ?r51;(case h51=>(intro w__ hSw;(try dsimp only at hSw);go_simp;try with_reducible rfl));(try simp only [Act.put,aT,aZ,aS,sB,sZ,sS])
      refine tkV (v:=?v52) 13 ?h52 ?r52;(case h52=>(intro w__ hSw;(try dsimp only at hSw);go_simp;try with_reducible rfl));(try simp only [Act.put,aT,aZ,aS,sB,sZ,sS])
      refine tkV (v:=?v53) 14 ?h53 ?r53;(case h53=>(intro w__ hSw;(try dsimp only at hSw);go_simp;try with_reducible rfl));(try simp only [Act.put,aT,aZ,aS,sB,sZ,sS])
      refine tkV (v:=?v54) 15 ?h54 ?r54;(case h54=>(intro w__ hSw;(try dsimp only at hSw);go_simp;try with_reducible rfl));(try simp only [Act.put,aT,aZ,aS,sB,sZ,sS])
      refine tkV (v:=?v55) 16 ?h55 ?r55;(case h55=>(intro w__ hSw;(try dsimp only at hSw);go_simp;try with_reducible rfl));(try simp only [Act.put,aT,aZ,aS,sB,sZ,sS])
      refine tkV (v:=?v56) 17 ?h56 ?r56;(case h56=>(intro w__ hSw;(try dsimp only at hSw);go_simp;try with_reducible rfl));(try simp only [Act.put,aT,aZ,aS,sB,sZ,sS])
      refine tkV (v:=?v57) 18 ?h57 ?r57;(case h57=>(intro w__ hSw;(try dsimp only at hSw);go_simp;try with_reducible rfl));(try simp only [Act.put,aT,aZ,aS,sB,sZ,sS])
      refine tkV (v:=?v58) 19 ?h58 ?r58;(case h58=>(intro w__ hSw;(try dsimp only at hSw);go_simp;try with_reducible rfl));(try simp only [Act.put,aT,aZ,aS,sB,sZ,sS])
      refine tkV (v:=?v59) 20 ?h59 ?r59;(case h59=>(intro w__ hSw;(try dsimp only at hSw);go_simp;try with_reducible rfl));(try simp only [Act.put,aT,aZ,aS,sB,sZ,sS])
      refine tkV (v:=?v60) 21 ?h60 ?r60;(case h60=>(intro w__ hSw;(try dsimp only at hSw);go_simp;try with_reducible rfl));(try simp only [Act.put,aT,aZ,aS,sB,sZ,sS])
      refine tkV (v:=?v61) 22 ?h61 ?r61;(case h61=>(intro w__ hSw;(try dsimp only at hSw);go_simp;try with_reducible rfl));(try simp only [Act.put,aT,aZ,aS,sB,sZ,sS])
      refine tkV (v:=?v62) 23 ?h62 ?r62;(case h62=>(intro w__ hSw;(try dsimp only at hSw);go_simp;try with_reducible rfl));(try simp only [Act.put,aT,aZ,aS,sB,sZ,sS])
      refine tkV (v:=?v63) 24 ?h63 ?r63;(case h63=>(intro w__ hSw;(try dsimp only at hSw);go_simp;try with_reducible rfl));(try simp only [Act.put,aT,aZ,aS,sB,sZ,sS])
      refine tkV (v:=?v64) 25 ?h64 ?r64;(case h64=>(intro w__ hSw;(try dsimp only at hSw);go_simp;try with_reducible rfl));(try simp only [Act.put,aT,aZ,aS,sB,sZ,sS])
      refine tkV (v:=?v65) 26 ?h65 ?r65;(case h65=>(intro w__ hSw;(try dsimp only at hSw);go_simp;try with_reducible rfl));(try simp only [Act.put,aT,aZ,aS,sB,sZ,sS])
      refine tkV (v:=?v66) 27 ?h66 ?r66;(case h66=>(intro w__ hSw;(try dsimp only at hSw);go_simp;try with_reducible rfl));(try simp only [Act.put,aT,aZ,aS,sB,sZ,sS])
      refine tkV (v:=?v67) 28 ?h67 ?r67;(case h67=>(intro w__ hSw;(try dsimp only at hSw);go_simp;try with_reducible rfl));(try simp only [Act.put,aT,aZ,aS,sB,sZ,sS])
      refine tkV (v:=?v68) 29 ?h68 ?r68;(case h68=>(intro w__ hSw;(try dsimp only at hSw);go_simp;try with_reducible rfl));(try simp only [Act.put,aT,aZ,aS,sB,sZ,sS])
      refine tkV (v:=?v69) 30 ?h69 ?r69;(case h69=>(intro w__ hSw;(try dsimp only at hSw);go_simp;try with_reducible rfl));(try simp only [Act.put,aT,aZ,aS,sB,sZ,sS])
      refine tkV (v:=?v70) 31 ?h70 ?r70;(case h70=>(intro w__ hSw;(try dsimp only at hSw);go_simp;try with_reducible rfl));(try simp only [Act.put,aT,aZ,aS,sB,sZ,sS])
      refine tkV (v:=?v71) 32 ?h71 ?r71;(case h71=>(intro w__ hSw;(try dsimp only at hSw);go_simp;try with_reducible rfl));(try simp only [Act.put,aT,aZ,aS,sB,sZ,sS])
      refine tkV (v:=?v72) 33 ?h72 ?r72;(case h72=>(intro w__ hSw;(try dsimp only at hSw);go_simp;try with_reducible rfl));(try simp only [Act.put,aT,aZ,aS,sB,sZ,sS])
      refine wpAnyH_ready (rs:=[34]) (by kernel_rfl) (by simp) ?_
      refine AllReadyH.cons rfl (fun K hK=>?_) AllReadyH.nil
      go_simp
      (go_at_call 108;(with_reducible refine (Hca.out _ (And.left (by assumption))).mono ?_);rintro e w6 ⟨rfl,t6⟩)
      go_wp2_with fail
      refine hK.out _ _ ?hS73 (fun hHeld=>?rest73)
      case hS73=>((refine and_of ?_ (fun q_=>⟨q_.ce x0,q_.ce hcw,q_.ce hcp⟩));first | exact Only.trans (And.left (by assumption)) (by assumption) | exact And.left (by assumption) | assumption)
      clear hK K
      (try simp only [Act.put,aT,aZ,aS,sB,sZ,sS])
      refine tkV (v:=?v74) 35 ?h74 ?r74;(case h74=>(intro w__ hSw;(try dsimp only at hSw);go_simp;try with_reducible rfl));(try simp only [Act.put,aT,aZ,aS,sB,sZ,sS])
      refine tkV (v:=?v75) 36 ?h75 ?r75;(case h75=>(intro w__ hSw;(try dsimp only at hSw);go_simp;try with_reducible rfl));(try simp only [Act.put,aT,aZ,aS,sB,sZ,sS])
      refine tkV (v:=?v76) 37 ?h76 ?r76;(case h76=>(intro w__ hSw;(try dsimp only at hSw);go_simp;try with_reducible rfl));(try simp only [Act.put,aT,aZ,aS,sB,sZ,sS])
      refine tkV (v:=?v77) 38 ?h77 ?r77;(case h77=>(intro w__ hSw;(try dsimp only at hSw);go_simp;try with_reducible rfl));(try simp only [Act.put,aT,aZ,aS,sB,sZ,sS])
      refine wpAnyH_done (by kernel_rfl) ?_ _
      go_wp2
      go_meet
      exact ⟨by simp,And.left (by assumption)⟩
    ·have e5:¬ (0:Int) < (j:Int):=by omega
     have hrr:r = false:=by rw [hr,decide_eq_false hj0];rfl
     subst hrr
     clear hr htr
     refine wp_region_held_drew (S:=fun w'=>Only [] W2 w'/\w'.cell? ⟨w.heap.size,0,none⟩ = some (.int .i64 x.points)/\w'.cell? ⟨b,off + j,none⟩ = some (.slice ag goal.length cg)) (by kernel_rfl) (and_of (Only.refl [] W2).drew (fun q_=>⟨q_.ce x0,q_.ce hcw⟩)) (fun hHeld=>?_)
     refine tkV (v:=?v78) 0 ?h78 ?r78;(case h78=>(intro w__ hSw;(try dsimp only at hSw);go_simp;try with_reducible rfl));(try simp only [Act.put,aT,aZ,sB,sZ,sS])
     refine tkV (v:=?v79) 1 ?h79 ?r79;(case h79=>(intro w__ hSw;(try dsimp only at hSw);go_simp;try with_reducible rfl));(try simp only [Act.put,aT,aZ,aS,sB,sZ,sS])
     refine tkV (v:=?v80) 2 ?h80 ?r80;(case h80=>(intro w__ hSw;(try dsimp only at hSw);go_simp;try with_reducible rfl));(try simp only [Act.put,aT,aZ,aS,sB,sZ,sS])
     refine tkV (v:=?v81) 3 ?h81 ?r81;(case h81=>(intro w__ hSw;(try dsimp only at hSw);go_simp;try with_reducible rfl));(try simp only [Act.put,aT,aZ,aS,sB,sZ,sS])
     refine tkV (v:=?v82) 4 ?h82 ?r82;(case h82=>(intro w__ hSw;(try dsimp only at hSw);go_simp;try with_reducible rfl));(try simp only [Act.put,aT,aZ,aS,sB,sZ,sS])
     refine tkV (v:=?v83) 5 ?h83 ?r83;(case h83=>(intro w__ hSw;(try dsimp only at hSw);go_simp;try with_reducible rfl));(try simp only [Act.put,aT,aZ,aS,sB,sZ,sS])
     refine wpAnyH_ready (rs:=[6]) (by kernel_rfl) (by simp) ?_
     refine AllReadyH.cons rfl (fun K hK=>?_) AllReadyH.nil
     go_simp
     (go_at_call 107;(with_reducible refine (Hpt.out _ (And.left (by assumption))).mono ?_);rintro e w5 ⟨rfl,t5⟩)
     go_wp2_with fail
     refine hK.out _ _ ?hS84 (fun hHeld=>?rest84)
     case hS84=>((refine and_of ?_ (fun q_=>⟨q_.ce x0,q_.ce hcw⟩));first | exact Only.trans (And.left (by assumption)) (by assumption) | exact And.left (by assumption) | assumption)
     clear hK K
     (try simp only [Act.put,aT,aZ,aS,sB,sZ,sS])
     refine tkV (v:=?v85) 7 ?h85 ?r85;(case h85=>(intro w__ hSw;(try dsimp only at hSw);go_simp;try with_reducible rfl));(try simp only [Act.put,aT,aZ,aS,sB,sZ,sS])
     refine tkV (v:=?v86) 8 ?h86 ?r86;(case h86=>(intro w__ hSw;(try dsimp only at hSw);go_simp;try with_reducible rfl));(try simp only [Act.put,aT,aZ,aS,sB,sZ,sS])
     refine tkV (v:=?v87) 9 ?h87 ?r87;(case h87=>(intro w__ hSw;(try dsimp only at hSw);go_simp;try with_reducible rfl));(try simp only [Act.put,aT,aZ,aS,sB,sZ,sS])
     refine tkV (v:=?v88) 10 ?h88 ?r88;(case h88=>(intro w__ hSw;(try dsimp only at hSw);go_simp;try with_reducible rfl));(try simp only [Act.put,aT,aZ,aS,sB,sZ,sS])
     refine tkV (v:=?v89) 11 ?h89 ?r89;(case h89=>(intro w__ hSw;(try dsimp only at hSw);go_simp;try with_reducible rfl));(try simp only [Act.put,aT,aZ,aS,sB,sZ,sS])
     refine tkU 12 ?_;(try simp only [Act.put,aT,aZ,aS,sB,sZ,sS])
     refine tkU 13 ?_;(try simp only [Act.put,aT,aZ,aS,sB,sZ,sS])
     refine tkU 14 ?_;(try simp only [Act.put,aT,aZ,aS,sB,sZ,sS])
     refine tkU 15 ?_;(try simp only [Act.put,aT,aZ,aS,sB,sZ,sS])
     refine tkU 16 ?_;(try simp only [Act.put,aT,aZ,aS,sB,sZ,sS])
     refine tkU 17 ?_;(try simp only [Act.put,aT,aZ,aS,sB,sZ,sS])
     refine tkU 18 ?_;(try simp only [Act.put,aT,aZ,aS,sB,sZ,sS])
     refine tkU 19 ?_;(try simp only [Act.put,aT,aZ,aS,sB,sZ,sS])
     refine tkU 20 ?_;(try simp only [Act.put,aT,aZ,aS,sB,sZ,sS])
     refine tkU 21 ?_;(try simp only [Act.put,aT,aZ,aS,sB,sZ,sS])
     refine tkU 22 ?_;(try simp only [Act.put,aT,aZ,aS,sB,sZ,sS])
     refine tkU 23 ?_;(try simp only [Act.put,aT,aZ,aS,sB,sZ,sS])
     refine tkU 24 ?_;(try simp only [Act.put,aT,aZ,aS,sB,sZ,sS])
     refine tkU 25 ?_;(try simp only [Act.put,aT,aZ,aS,sB,sZ,sS])
     refine tkU 26 ?_;(try simp only [Act.put,aT,aZ,aS,sB,sZ,sS])
     refine tkU 27 ?_;(try simp only [Act.put,aT,aZ,aS,sB,sZ,sS])
     refine tkU 28 ?_;(try simp only [Act.put,aT,aZ,aS,sB,sZ,sS])
     refine tkU 29 ?_;(try simp only [Act.put,aT,aZ,aS,sB,sZ,sS])
     refine tkU 30 ?_;(try simp only [Act.put,aT,aZ,aS,sB,sZ,sS])
     refine tkU 31 ?_;(try simp only [Act.put,aT,aZ,aS,sB,sZ,sS])
     refine tkU 32 ?_;(try simp only [Act.put,aT,aZ,aS,sB,sZ,sS])
     refine tkU 33 ?_;(try simp only [Act.put,aT,aZ,aS,sB,sZ,sS])
     refine tkU 34 ?_;(try simp only [Act.put,aT,aZ,aS,sB,sZ,sS])
     refine tkU 35 ?_;(try simp only [Act.put,aT,aZ,aS,sB,sZ,sS])
     refine tkU 36 ?_;(try simp only [Act.put,aT,aZ,aS,sB,sZ,sS])
     refine tkV (v:=?v90) 37 ?h90 ?r90;(case h90=>(intro w__ hSw;(try dsimp only at hSw);go_simp;try with_reducible rfl));(try simp only [Act.put,aT,aZ,aS,sB,sZ,sS])
     refine tkV (v:=?v91) 38 ?h91 ?r91;(case h91=>(intro w__ hSw;(try dsimp only at hSw);go_simp;try with_reducible rfl));(try simp only [Act.put,aT,aZ,aS,sB,sZ,sS])
     refine wpAnyH_done (by kernel_rfl) ?_ _
     go_wp2
     go_meet
     exact ⟨rfl,And.left (by assumption)⟩
   case rest=>
    obtain ⟨W4,hnew⟩:∃ W,W = wc:=⟨_,rfl⟩
    subst hnew
    obtain ⟨rfl,k4⟩:=hcut
    cases r
    ·have htr2:tr = true:=by cases tr with
      | false=>simp at hr
      | true=>rfl
     rw [htr2] at hr htr
     have Hn:=zH (Hok.out.next (by rw [Hgd.out];exact htr.symm) (fun h0=>by
      rw [decide_eq_true h0] at hr
      rw [Hgd.out]
      cases hp:pairB (goals.getD (j - 1) []) goal
      ·rw [hp] at hr;cases hr
      ·rfl))
     clear hr htr htr2
     go_wp2
     go_roundw
     case rel=>exact ⟨j + 1,by omega,by go_num,Hn.out,hK.trans k4⟩
     case measure=>simp [intOf];omega
    ·have Hf:=zH (Zir (x:=x) hlt (fun hc=>by
      rw [Hgd.out,<- htr] at hc
      rw [hc.1] at hr
      have h3:=hr.symm
      simp only [Bool.not_true,Bool.false_or,Bool.and_eq_true] at h3
      have h4:=hc.2 (of_decide_eq_true h3.1)
      rw [h4] at h3
      exact absurd h3.2 (by simp)))
     clear hr htr
     go_wp2
     go_ret
     exact ⟨Zaa Hf.out.symm,kW.trans k4⟩
  ·have hje:j = goals.length:=by omega
   have hok:=Hok.out
   rw [hje] at hok
   have Hf:=zH (Zns Hv.out Hr.out hok)
   have hlp:goals.length - 1 < goals.length:=by omega
   obtain ⟨b,off,u,rfl,-,hc,hu⟩:=S.atRow (goals.length - 1) hlp
   have hgd:goals.getD (goals.length - 1) [] = goals[goals.length - 1]:=Zab hlp
   obtain ⟨al,cl,rfl,Il⟩:=hu.ints
   obtain ⟨last,hl⟩:∃ l,l = goals[goals.length - 1]:=⟨_,rfl⟩
   rw [<- hl] at hgd Il hc
   rw [hgd] at Hf
   obtain ⟨jp,hjp⟩:∃ jp,jp = goals.length - 1:=⟨_,rfl⟩
   rw [<- hjp] at hc
   have e1:IntKind.i64.wrap ((goals.length:Int) - 1) = (goals.length:Int) - 1:=by rw [IntKind.wrap_i64];omega
   have e2:((goals.length:Int) - 1).toNat = jp:=by omega
   have e3:(0:Int)<=(goals.length:Int) - 1:=by omega
   have e4:(goals.length:Int) - 1 < (goals.length:Int):=by omega
   have hcw:=kW.cell (by simp) hc
   have hlb:=Il.bound
   have hjI:¬ (j:Int) < (goals.length:Int):=by omega
   clear hl hgd hjp hc hu Hok hok hje
   go_wp2
   go_quiet (fail)
   go_wp2
   go_ret
   exact ⟨Zaa Hf.out.symm,kW.drewN _⟩
theorem flat_le {k:Nat}:∀ {ws:List (List Int)},(∀ w∈ws,w.length<=k)->ws.flatten.length<=k * ws.length
 | [],_=>by simp
 | w :: ws,h=>by
  have h1:=h w (by simp)
  have h2:=flat_le (ws:=ws) fun q hq=>h q (by simp [hq])
  rw [List.flatten_cons,List.length_append,List.length_cons,Nat.mul_succ]
  omega
theorem Zjl (x:Puzzle) (t:Table):∀ (gs:List (List Int)) (s:List Int),(mthS x t gs s).length = gs.length
 | [],_=>rfl
 | g :: gs,s=>by unfold mthS;rw [List.length_cons,Zjl x t gs,List.length_cons]
theorem Zuk {x:Puzzle} {goals:List (List Int)} {s:List Int} {ws:List (List Int)} (h:mthX x goals s = some ws):ws.flatten.length<=1000:=by
 obtain ⟨t,-,-,hm,rfl,hl⟩:=Zhk h
 have h1:=flat_le hl
 rw [Zjl] at h1
 have:=(Zch hm).2.1
 omega
theorem Znb {x:Puzzle} {goals:List (List Int)} {s:List Int} (h:mthX x goals s = none):mthC x goals s = none:=by unfold mthC;rw [h];rfl
theorem Zmo {x:Puzzle} {goals:List (List Int)} {s:List Int} {ws:List (List Int)} (h:mthX x goals s = some ws):mthC x goals s = shortW ws.flatten:=by unfold mthC;rw [h];rfl
set_option maxHeartbeats 4000000 in
theorem Zes (cs:List Value) (x:Puzzle) (fp:List Nat) (v:Value) (goals:List (List Int)) (fg:List Nat) (u:Value) (s:List Int) (fs0:List Nat) (w:World) (h:Rp.rep w cs x fp) (hg:Rd w v goals fg) (hs:Rd w u s fs0) :
  Calls Tryz.prog 13 #[.agg cs.toArray,v,u] w fun e w'=>∃ cs' fp',e = .returned (.tuple #[.agg (List.toArray cs'),.bool (mthC x goals s).isSome])/\Rp.rep w' cs' (wCert (mthC x goals s)) fp'/\Fresh w.heap.size w' fp'/\Only [] w w':=by
 have h0:=h
 obtain ⟨v2,rfl,p0,p1,h2⟩:=h
 clear p0 p1 h2
 have Y0:Blk ((w.alloc (.cells #[.int .i64 x.points,.string x.names,v2] 33)).alloc (.cells #[.int .i64 0,.slice none 0 0,.slice none 0 0,.slice none 0 0] 30)) (w.heap.size + 1) [.int .i64 0,.slice none 0 0,.slice none 0 0,.slice none 0 0]:=Blk.new_at (by simp)
 have X0:Blk ((w.alloc (.cells #[.int .i64 x.points,.string x.names,v2] 33)).alloc (.cells #[.int .i64 0,.slice none 0 0,.slice none 0 0,.slice none 0 0] 30)) w.heap.size [.int .i64 x.points,.string x.names,v2]:=(Blk.new w [.int .i64 x.points,.string x.names,v2] 33).keep (zO.alloc _)
 obtain ⟨x0,x1,x2⟩:=X0.c3
 rcases hm:mthX x goals s with _ | ws
 ·have Hn:=zH (Znb hm)
  have Hm:=zH hm
  clear hm
  go_enter Tryz.func13,Tryz.ntmps13
  go_wp2_with (first
   | (go_at_call 34;(with_reducible refine (Zdj [.int .i64 x.points,.string x.names,v2] x _ _ goals _ _ s _ _ (zK h0 zA) (zK hg zA) (zK hs zA)).mono ?_);rintro e w1 ⟨z,fz,he,-,-,t1⟩;rw [Hm.out] at he;subst he;have Y9:=Y0.keep t1;obtain ⟨g0,g1,g2,g3⟩:=Y9.c4;obtain ⟨p0,p1,p2,p3⟩:=Y9.f4)
   | fail)
  have K2:Only [] w w1:=zA
  have Yf:=(((Y9.set 0 (.int .i64 0)).set 1 (.slice none 0 0)).set 2 (.slice none 0 0)).set 3 (.slice none 0 0)
  have kf:Only [w.heap.size + 1] w1 ((((w1.setCell ⟨w.heap.size + 1,0,none⟩ (.int .i64 0)).setCell ⟨w.heap.size + 1,1,none⟩ (.slice none 0 0)).setCell ⟨w.heap.size + 1,2,none⟩ (.slice none 0 0)).setCell ⟨w.heap.size + 1,3,none⟩ (.slice none 0 0)):=(((zO.setCell (by simp) _).setCell (by simp) _).setCell (by simp) _).setCell (by simp) _
  obtain ⟨wf,hwf⟩:∃ wf,wf = ((((w1.setCell ⟨w.heap.size + 1,0,none⟩ (.int .i64 0)).setCell ⟨w.heap.size + 1,1,none⟩ (.slice none 0 0)).setCell ⟨w.heap.size + 1,2,none⟩ (.slice none 0 0)).setCell ⟨w.heap.size + 1,3,none⟩ (.slice none 0 0)):=⟨_,rfl⟩
  rw [<- hwf] at Yf kf ⊢
  simp only [List.set] at Yf
  clear hwf g0 g1 g2 g3 p0 p1 p2 p3
  obtain ⟨z0,z1,z2,z3⟩:=Yf.c4
  refine bodyPost_ret (v:=.tuple #[.agg #[.int .i64 0,.slice none 0 0,.slice none 0 0,.slice none 0 0],.bool false]) (by simp [results,Tryz.results13,go_sem,z0,z1,z2,z3]) rfl ⟨[.int .i64 0,.slice none 0 0,.slice none 0 0,.slice none 0 0],[],by rw [Hn.out];rfl,by rw [Hn.out];exact Zbl _,Fresh.nil _ _,K2.then_ kf (by simp)⟩
 ·have Hn:=zH (Zmo hm)
  have Hl:=zH (Zuk hm)
  have Hm:=zH hm
  clear hm
  obtain ⟨o,ho⟩:∃ o,o = shortW ws.flatten:=⟨_,rfl⟩
  rw [<- ho] at Hn
  have Ho:=zH ho
  clear ho
  go_enter Tryz.func13,Tryz.ntmps13
  go_wp2_with (first
   | (go_at_call 34;(with_reducible refine (Zdj [.int .i64 x.points,.string x.names,v2] x _ _ goals _ _ s _ _ (zK h0 zA) (zK hg zA) (zK hs zA)).mono ?_);rintro e w1 ⟨z,fz,he,rz,Fz,t1⟩;rw [Hm.out] at he rz;subst he;simp only [Option.getD] at rz;have Y1:=Y0.keep t1)
   | (go_at_call 35;(with_reducible refine (Zhi z ws fz _ rz (by have:=Hl.out;omega)).mono ?_);rintro e w4 ⟨cs4,f4,he,r4,F4,t4⟩;rw [<- Ho.out] at he r4;subst he;have rr:=id r4;obtain ⟨v1,v2,v3,e1,e2,e3,rfl,-,i1,s1,s2,s3⟩:=r4;simp only [List.cons_append,List.nil_append] at rr;obtain ⟨b1,k1,_,_,rfl,-,-⟩:=s1.open_;obtain ⟨b2,k2,_,_,rfl,-,-⟩:=s2.open_;obtain ⟨b3,k3,_,_,rfl,-,-⟩:=s3.open_;have Y9:=Y1.keep t4;obtain ⟨g0,g1,g2,g3⟩:=Y9.c4;obtain ⟨p0,p1,p2,p3⟩:=Y9.f4)
   | fail)
  have K4:Only [] w w4:=zA
  have hz1:=t1.size
  simp at hz1
  have hFg:∀ g∈f4,g ∉ [w.heap.size + 1]:=fun g hg hm=>by have:=F4.ge g hg;simp at hm;omega
  have Yf:=(((Y9.set 0 (.int .i64 (wCert o).kind)).set 1 (.slice b1 (wCert o).numbers.length k1)).set 2 (.slice b2 (wCert o).words.length k2)).set 3 (.slice b3 (wCert o).tables.length k3)
  have kf:Only [w.heap.size + 1] w4 ((((w4.setCell ⟨w.heap.size + 1,0,none⟩ (.int .i64 (wCert o).kind)).setCell ⟨w.heap.size + 1,1,none⟩ (.slice b1 (wCert o).numbers.length k1)).setCell ⟨w.heap.size + 1,2,none⟩ (.slice b2 (wCert o).words.length k2)).setCell ⟨w.heap.size + 1,3,none⟩ (.slice b3 (wCert o).tables.length k3)):=(((zO.setCell (by simp) _).setCell (by simp) _).setCell (by simp) _).setCell (by simp) _
  obtain ⟨wf,hwf⟩:∃ wf,wf = ((((w4.setCell ⟨w.heap.size + 1,0,none⟩ (.int .i64 (wCert o).kind)).setCell ⟨w.heap.size + 1,1,none⟩ (.slice b1 (wCert o).numbers.length k1)).setCell ⟨w.heap.size + 1,2,none⟩ (.slice b2 (wCert o).words.length k2)).setCell ⟨w.heap.size + 1,3,none⟩ (.slice b3 (wCert o).tables.length k3)):=⟨_,rfl⟩
  rw [<- hwf] at Yf kf ⊢
  simp only [List.set] at Yf
  clear hwf g0 g1 g2 g3 p0 p1 p2 p3
  obtain ⟨z0,z1,z2,z3⟩:=Yf.c4
  refine bodyPost_ret (v:=.tuple #[.agg #[.int .i64 (wCert o).kind,.slice b1 (wCert o).numbers.length k1,.slice b2 (wCert o).words.length k2,.slice b3 (wCert o).tables.length k3],.bool o.isSome]) (by simp [results,Tryz.results13,go_sem,z0,z1,z2,z3]) rfl ⟨[.int .i64 (wCert o).kind,.slice b1 (wCert o).numbers.length k1,.slice b2 (wCert o).words.length k2,.slice b3 (wCert o).tables.length k3],f4,by rw [Hn.out],by rw [Hn.out];exact Rp.only rr kf hFg,(F4.mono (by omega)).only kf hFg,K4.then_ kf (by simp)⟩
theorem mN_le {x:Puzzle} {t:Table} {goal:List Int} (he:expl x = some t) (ht:trackB x.points goal = true) {v:Nat} (hv:v < t.patterns.length):mN x t goal (t.patterns.getD v [])<=3000:=by
 obtain ⟨tg,htg⟩:=Zpp he ht
 obtain ⟨hb,-⟩:=Zcu htg
 obtain ⟨e0,he0,he1,-⟩:=goal_at he htg hv
 obtain ⟨sf1,-,-⟩:=Zbt he ht hv
 have hE:=goal_E he ht htg hv
 rw [he1,atD_nat] at hE
 have hdep:=(hb.dep e0 he0).2.1
 have hll:=hb.ll
 omega
set_option maxHeartbeats 4000000 in
theorem Zkq (cs:List Value) (x:Puzzle) (t:Table) (fp:List Nat) (v:Value) (goals:List (List Int)) (fg:List Nat) (u:Value) (fs0:List Nat) (i0:Nat) (w:World) (h:Rp.rep w cs x fp) (he:expl x = some t) (hg:Rd w v goals fg) (htr:∀ g∈goals,trackB x.points g = true) (hl5:goals.length<=5) (hi0:i0 < t.patterns.length) (hu:Rd w u (t.patterns.getD i0 []) fs0) :
  Calls Tryz.prog 60 #[.agg cs.toArray,v,u] w fun e w'=>∃ z fs,e = .returned z/\Acc w.heap.size 25 w' z (mthS x t goals (t.patterns.getD i0 [])) fs/\Fresh w.heap.size w' fs.flatten/\Only [] w w':=by
 have h0:=h
 obtain ⟨v2,rfl,p0,p1,h2⟩:=h
 clear p0 p1 h2
 obtain ⟨a,cap,ob,fps,rfl,-,S⟩:=hg.open_
 have hbd:=S.bound
 obtain ⟨hb,-⟩:=Zad he
 obtain ⟨q1,q20,q8,-⟩:=Zae hb.v
 obtain ⟨iI,hiI,hzI0,hzI1,hzI2⟩:=info_parts Tryz.info22
 have X0:Blk ((w.alloc (.cells #[.int .i64 x.points,.string x.names,v2] 33)).alloc (.cells #[] 25)) w.heap.size [.int .i64 x.points,.string x.names,v2]:=(Blk.new w [.int .i64 x.points,.string x.names,v2] 33).keep (zO.alloc _)
 have K0:Only [] w ((w.alloc (.cells #[.int .i64 x.points,.string x.names,v2] 33)).alloc (.cells #[] 25)):=(zO.alloc _).alloc _
 have A0:Acc (w.heap.size + 1) 25 ((w.alloc (.cells #[.int .i64 x.points,.string x.names,v2] 33)).alloc (.cells #[] 25)) (.slice (some ⟨w.heap.size + 1,0,none⟩) 0 0) ([]:List (List Int)) []:=Acc.made (w.alloc (.cells #[.int .i64 x.points,.string x.names,v2] 33)) (w.heap.size + 1) 25 (by simp) (Nat.le_refl _)
 obtain ⟨W0,hW0⟩:∃ W0,W0 = (w.alloc (.cells #[.int .i64 x.points,.string x.names,v2] 33)).alloc (.cells #[] 25):=⟨_,rfl⟩
 obtain ⟨s0,hs0⟩:∃ s0,s0 = t.patterns.getD i0 []:=⟨_,rfl⟩
 have Hs0:=zH hs0
 have Htr:=zH htr
 have He:=zH he
 have Hb:=zH hb
 have hu0:∀ b∈fs0,(Value.slice (some ⟨w.heap.size + 1,0,none⟩) 0 0).ownBlock ≠ some b:=fun b hb he=>by
  have:=Rp.lt hu b hb;simp [Value.ownBlock] at he;omega
 rw [<- hs0]
 rw [<- hW0] at X0 K0 A0
 have hz0:W0.heap.size = w.heap.size + 2:=by rw [hW0];simp
 clear hs0 htr he hb
 go_enter Tryz.func60,Tryz.ntmps60
 go_upto_region 3 with fail
 rw [<- hW0]
 clear hW0
 go_loopw [2,7,8] (fun sv o c wr=>∃ (j i:Nat) (ws:List (List Int)) (fs:List (List Nat)) (f2:List Nat),j<=goals.length/\c = .int .i64 j/\i < t.patterns.length/\Rd wr sv (t.patterns.getD i []) f2/\(∀ b∈f2,o.ownBlock ≠ some b)/\mthS x t goals s0 = ws ++ mthS x t (goals.drop j) (t.patterns.getD i [])/\ws.length = j/\Acc (w.heap.size + 1) 25 wr o ws fs/\Fresh (w.heap.size + 1) wr fs.flatten/\Blk wr w.heap.size [.int .i64 x.points,.string x.names,v2]/\Only [] w wr)
  (fun _ _ c _=>goals.length - (intOf c).toNat)
 case atStart=>exact ⟨0,i0,[],[],fs0,Nat.zero_le _,rfl,hi0,zK hu K0,hu0,by rw [Hs0.out];rfl,rfl,A0,Fresh.nil _ _,X0,K0⟩
 case round=>
  obtain ⟨W3,hnew⟩:∃ W,W = wr:=⟨_,rfl⟩
  subst hnew
  obtain ⟨j,i,ws,fs,f2,hj,rfl,hil,hrd,hap,hcat,hwl,hA,hF,hX,kW⟩:=hrel
  have Hcat:=zH hcat
  have HA:=zH hA
  have HF:=zH hF
  have HX:=zH hX
  have Hwl:=zH hwl
  obtain ⟨x0,x1,x2⟩:=hX.c3
  by_cases hlt:j < goals.length
  ·obtain ⟨b,off,ug,rfl,-,hc,hug⟩:=S.atRow j hlt
   have hcw:=kW.cell (by simp) hc
   have ht:=Htr.out goals[j] (List.getElem_mem hlt)
   obtain ⟨-,sf2,-⟩:=Zbt He.out ht hil
   obtain ⟨-,-,j9,hj9,hp9⟩:=Zbt He.out ht hil
   have hmN:=mN_le He.out ht hil
   have hug3:Rd W3 ug goals[j] _:=zK hug kW
   obtain ⟨ag,cg,rfl,Ig⟩:=hug3.ints
   have hdr:mthS x t (goals.drop j) (t.patterns.getD i []) = mW1 x t goals[j] (t.patterns.getD i []) :: mthS x t (goals.drop (j + 1)) (wEnd x (t.patterns.getD i []) (mW1 x t goals[j] (t.patterns.getD i []))):=by rw [List.drop_eq_getElem_cons hlt];rfl
   obtain ⟨goal,hgl⟩:∃ goal,goal = goals[j]:=⟨_,rfl⟩
   rw [<- hgl] at hcw ht sf2 hp9 Ig hdr hmN
   have hst:∀ W,Only [] W3 W->Calls Tryz.prog 110 #[.agg #[.int .i64 x.points,.string x.names,v2],.slice ag goal.length cg,u2] W fun e w'=>∃ v fp',e = .returned v/\Rd w' v (mW1 x t goal (t.patterns.getD i [])) fp'/\Fresh W.heap.size w' fp'/\Only [] W w':=fun W hW=>Zok [.int .i64 x.points,.string x.names,v2] x _ t (.slice ag goal.length cg) goal _ u2 _ i W (zK h0 (kW.trans hW)) He.out ht (Ig.keep hW).rd hil (zK hrd hW)
   obtain ⟨wd,hwd⟩:∃ wd,wd = mW1 x t goal (t.patterns.getD i []):=⟨_,rfl⟩
   have hwdl:wd.length<=3000:=by rw [hwd,mW1_len];exact hmN
   rw [<- hwd] at hst sf2 hp9 hdr
   have Hst:=zH hst
   have Hdr:=zH hdr
   have Hsf:=zH sf2
   have Hp9:=zH hp9
   have hpat:=Zda He.out hil
   have Hpat:=zH hpat
   have hszK:w.heap.size + 1<=W3.heap.size:=by have:=hX.lt;omega
   have hlw:ws.length + 1<=1073741824:=by omega
   clear hcat hA hF hX hwl hc hug hug3 ht sf2 hp9 hmN hgl hst hwd hdr hpat Ig
   go_wp2
   go_region_held3 (fun w'=>Only [] W3 w'/\w'.cell? ⟨w.heap.size,0,none⟩ = some (.int .i64 x.points)/\w'.cell? ⟨w.heap.size,1,none⟩ = some (.string x.names)/\w'.cell? ⟨w.heap.size,2,none⟩ = some (v2)/\w'.cell? ⟨b,off + j,none⟩ = some (.slice ag goal.length cg)) (((refine and_of ?_ (fun q_=>⟨q_.ce x0,q_.ce x1,q_.ce x2,q_.ce hcw⟩));first | exact zO.drew | exact (zO.drewN _).drew | exact Only.trans (And.left (by assumption)) (by assumption) | exact Only.alloc (And.left (by assumption)) _ | assumption)) (first | (go_at_call 110;(with_reducible refine (Hst.out _ (And.left (by assumption))).mono ?_);rintro e w5 ⟨u5,f5,rfl,r5,F5,t5⟩;have F5':=F5.mono (((Only.refl [] W3).trans (And.left (by assumption))).size)) | fail)
   have k5:Only [] W3 w5:=(Only.refl [] W3).trans (And.left (by assumption))
   obtain ⟨a5,c5,rfl,I5⟩:=r5.ints
   have hIl:=I5.bound
   have hf2:=Rp.lt hrd
   go_upto_region 7 with (at_builtin;refine Zbf rfl _ _ 22 rfl (w.heap.size + 1) 25 iI _ 24 Tryz.underlying22 hiI hzI0 hzI1 hzI2 rfl (by decide) (by decide) W3 u7 ws fs rfl HA.out HF.out (k5.alloc _) hszK w5.heap.size 1 [.slice a5 wd.length c5] wd f5 rfl (lit_src w5 [.slice a5 wd.length c5] _ rfl) (by intro u hu;simp at hu;subst hu;rfl) (zK I5.rd (zO.alloc _)) (F5'.keep (zO.alloc _)) hlw w ((kW.trans k5).alloc _) (by omega) ?_;intro v7 w7 hA7 hF7 hK7 hO7)
   have hown:∀ b,u7.ownBlock = some b->w.heap.size + 1<=b/\b < W3.heap.size:=HA.out.ownlt
   have ka:Only [] W3 (w5.alloc (.cells #[.slice a5 wd.length c5] 25)):=k5.alloc _
   have X7:=(HX.out.keep ka).only hO7 (fun hm=>by have:=(hown _ (by simpa using hm)).1;omega)
   have R7:Rd w7 u2 (t.patterns.getD i []) f2:=Rp.only (zK hrd ka) hO7 (fun b hb hm=>hap b hb (by simpa using hm))
   have I7:IntsA w7 a5 c5 wd f5:=(I5.keep (zO.alloc _)).only hO7 (fun b hb hm=>by have:=(hown b (by simpa using hm)).2;have:=F5'.ge b hb;omega)
   obtain ⟨z0,z1,z2⟩:=X7.c3
   have hA7l:=hA7.ownlt
   have HA7:=zH hA7
   have HF7:=zH hF7
   clear hA7 hF7 x0 x1 x2 hcw F5 r5 hO7 HA HF HX hrd hap
   go_wp2_with (first
    | (go_at_call 76;(with_reducible refine (Zfx [.int .i64 x.points,.string x.names,v2] x _ u2 (.slice a5 wd.length c5) (t.patterns.getD i []) wd _ _ x.points.toNat _ (zK h0 hK7) R7 I7.rd Hb.out.v Hsf.out Hpat.out (by omega) (by omega)).mono ?_);rintro e w8 ⟨u8,f8,rfl,r8,F8,t8⟩)
    | fail)
   go_roundw
   case rel=>
    exact ⟨j + 1,j9,ws ++ [wd],_,f8,by omega,by go_num,hj9,by rw [Hp9.out];exact r8,fun b hb he=>by have:=F8.ge b hb;have:=(hA7l b he).2;omega,by rw [Hcat.out,Hdr.out,Hp9.out,List.append_assoc];rfl,by rw [List.length_append,Hwl.out];rfl,HA7.out.keep t8,HF7.out.keep t8,X7.keep t8,hK7.trans t8⟩
   case measure=>simp [intOf];omega
  ·have hje:j = goals.length:=by omega
   have hcat':=hcat
   rw [hje,List.drop_length] at hcat'
   have Hfin:=zH (show mthS x t goals s0 = ws by rw [hcat'];simp [mthS])
   have hjI:¬ (j:Int) < (goals.length:Int):=by omega
   clear hcat hcat' hA hF hX hwl hje
   go_wp2
   go_ret
   exact ⟨u7,rfl,fs,by rw [Hfin.out];exact HA.out.mono (Nat.le_succ _),HF.out.mono (Nat.le_succ _),kW⟩
set_option maxHeartbeats 1000000 in
theorem Zhb (v:Value) (ws:List (List Int)) (fw:List Nat) (w:World) (h:Rd w v ws fw) :
  Calls Tryz.prog 61 #[v] w fun e w'=>e = .returned (.bool (ws.all fun q=>decide (q.length<=200)))/\Only [] w w':=by
 obtain ⟨a,cap,ob,fps,rfl,-,S⟩:=h.open_
 have hb:=S.bound
 go_enter Tryz.func61,Tryz.ntmps61
 go_wp2
 go_loop [3] (fun i=>∃ j:Nat,j<=ws.length/\i = .int .i64 j/\(∀ q∈ws.take j,q.length<=200))
  (fun i=>ws.length - (intOf i).toNat)
 case atStart=>exact ⟨0,Nat.zero_le _,rfl,by simp⟩
 case round=>
  obtain ⟨j,hj,rfl,hr⟩:=hrel
  have Hr:=zH hr
  clear hr
  by_cases hlt:j < ws.length
  ·obtain ⟨b,off,u,rfl,-,hc,hu⟩:=S.atRow j hlt
   obtain ⟨a1,c1,rfl,I1⟩:=hu.ints
   have hb1:=I1.bound
   by_cases hl:ws[j].length<=200
   ·have hlI:¬ ((200:Int) < (ws[j].length:Int)):=by omega
    have Hl:=zH hl
    clear hl
    go_wp2
    go_round
    case rel=>exact ⟨j + 1,by omega,by go_num,by
     rw [Zac ws j hlt];intro q hq
     rcases List.mem_append.1 hq with hq | hq
     ·exact Hr.out q hq
     ·simp at hq;subst hq;exact Hl.out⟩
    case measure=>simp [intOf];omega
   ·have hlI:(200:Int) < (ws[j].length:Int):=by omega
    have Hf:=zH (show (ws.all fun q=>decide (q.length<=200)) = false by
     rw [List.all_eq_false];exact ⟨ws[j],List.getElem_mem _,by simpa using hl⟩)
    clear hl
    go_wp2
    go_ret
    exact ⟨Zaa Hf.out.symm,Only.refl _ _⟩
  ·have Hf:=zH (show (ws.all fun q=>decide (q.length<=200)) = true by
    rw [List.all_eq_true];intro q hq
    exact decide_eq_true (Hr.out q (by rw [List.take_of_length_le (by omega)];exact hq)))
   go_wp2
   go_ret
   exact ⟨Zaa Hf.out.symm,Only.refl _ _⟩
theorem Zim (w:World) (e:TypeId) {g:Nat} (hg:g = w.heap.size):Rd (w.alloc (.cells #[] e)) (.slice (some ⟨g,0,none⟩) 0 0) ([]:List (List Int)) [g]/\Fresh w.heap.size (w.alloc (.cells #[] e)) [g]:=by
 subst hg
 have hA:Acc w.heap.size e (w.alloc (.cells #[] e)) (.slice (some ⟨w.heap.size,0,none⟩) 0 0) ([]:List (List Int)) []:=Acc.made w w.heap.size e rfl (Nat.le_refl _)
 exact ⟨by simpa [Value.ownBlock] using hA.rd (by decide),by simpa [Value.ownBlock] using hA.fresh (Fresh.nil _ _)⟩
set_option maxHeartbeats 4000000 in
theorem Zbx (cs:List Value) (x:Puzzle) (fp:List Nat) (v:Value) (goals:List (List Int)) (fg:List Nat) (u:Value) (s:List Int) (fs0:List Nat) (w:World) (h:Rp.rep w cs x fp) (hg:Rd w v goals fg) (hs:Rd w u s fs0) :
  Calls Tryz.prog 31 #[.agg cs.toArray,v,u] w fun e w'=>∃ z fz,e = .returned (.tuple #[z,.bool (mthX x goals s).isSome])/\Rd w' z ((mthX x goals s).getD []) fz/\Fresh w.heap.size w' fz/\Only [] w w':=by
 have h0:=h
 obtain ⟨v2,rfl,p0,p1,h2⟩:=h
 clear p0 p1 h2
 have X0:Blk (w.alloc (.cells #[.int .i64 x.points,.string x.names,v2] 33)) w.heap.size [.int .i64 x.points,.string x.names,v2]:=Blk.new w [.int .i64 x.points,.string x.names,v2] 33
 rcases hm:methB x goals
 ·have Hn:=zH (mthX_no (x:=x) (goals:=goals) (s:=s) (by rw [hm];simp))
  have Hm:=zH hm
  clear hm
  go_enter Tryz.func31,Tryz.ntmps31
  go_wp2_with (first
   | (go_at_call 58;(with_reducible refine (Zcd [.int .i64 x.points,.string x.names,v2] x _ _ goals _ _ (zK h0 zA) (zK hg zA)).mono ?_);rintro e w2 ⟨he,t2⟩;rw [Hm.out] at he;subst he)
   | fail)
  have K2:Only [] w w2:=zA
  obtain ⟨hE,hF⟩:=Zim w2 25 rfl
  exact bodyPost_ret (v:=.tuple #[.slice (some ⟨w2.heap.size,0,none⟩) 0 0,.bool false]) (by simp [results,Tryz.results31,go_sem]) rfl ⟨_,_,by rw [Hn.out];rfl,by rw [Hn.out];exact hE,hF.mono K2.size,K2.alloc _⟩
 rcases hq:((expl x).isSome && reachB x s)
 ·have Hn:=zH (show mthX x goals s = none by
   cases he:expl x with
   | none=>exact Znf he
   | some t=>exact mthX_no (by rw [he] at hq;simp at hq;rw [hq];rfl))
  have Hm:=zH hm
  have Hq:=zH hq
  clear hm hq
  go_enter Tryz.func31,Tryz.ntmps31
  go_wp2_with (first
   | (go_at_call 58;(with_reducible refine (Zcd [.int .i64 x.points,.string x.names,v2] x _ _ goals _ _ (zK h0 zA) (zK hg zA)).mono ?_);rintro e w2 ⟨he,t2⟩;rw [Hm.out] at he;subst he;have X2:=X0.keep t2;obtain ⟨x0,x1,x2⟩:=X2.c3)
   | (go_at_call 59;(with_reducible refine (Zdb [.int .i64 x.points,.string x.names,v2] x _ _ s _ _ (zK h0 zA) (zK hs zA)).mono ?_);rintro e w3 ⟨he,t3⟩;rw [Hq.out] at he;subst he)
   | fail)
  have K2:Only [] w w3:=zA
  obtain ⟨hE,hF⟩:=Zim w3 25 rfl
  exact bodyPost_ret (v:=.tuple #[.slice (some ⟨w3.heap.size,0,none⟩) 0 0,.bool false]) (by simp [results,Tryz.results31,go_sem]) rfl ⟨_,_,by rw [Hn.out];rfl,by rw [Hn.out];exact hE,hF.mono K2.size,K2.alloc _⟩
 obtain ⟨t,he⟩:∃ t,expl x = some t:=by
  cases he:expl x with
  | none=>rw [he] at hq;cases hq
  | some t=>exact ⟨t,rfl⟩
 have hr:reachB x s = true:=by rw [he] at hq;simpa using hq
 obtain ⟨i0,hi0,hp0⟩:=List.getElem_of_mem ((Zak he).2 hr)
 have e1:t.patterns.getD i0 [] = s:=by rw [Zab hi0,hp0]
 obtain ⟨-,m2,m3,-,-⟩:=Zch hm
 have hX:=(Zqe he hr hm).trans (mthW_eq x t goals s)
 obtain ⟨ws,hws⟩:∃ ws,ws = mthS x t goals s:=⟨_,rfl⟩
 have Hst:∀ W,Only [] w W->Calls Tryz.prog 60 #[.agg #[.int .i64 x.points,.string x.names,v2],v,u] W fun e w'=>∃ z fs,e = .returned z/\Acc W.heap.size 25 w' z ws fs/\Fresh W.heap.size w' fs.flatten/\Only [] W w':=fun W hW=>by
  have:=Zkq [.int .i64 x.points,.string x.names,v2] x t _ v goals _ u _ i0 W (zK h0 hW) he (zK hg hW) m3 (by omega) hi0 (by rw [e1];exact zK hs hW)
  rw [e1,<- hws] at this
  exact this
 have Hst':=zH Hst
 rw [<- hws] at hX
 have Hm:=zH hm
 have Hq:=zH hq
 clear hm hq he hr hp0 e1 m3 Hst hws
 rcases hf:ws.all fun q=>decide (q.length<=200)
 ·rw [hf,if_neg (by simp)] at hX
  have Hn:=zH hX
  have Hf:=zH hf
  clear hX hf
  go_enter Tryz.func31,Tryz.ntmps31
  go_wp2_with (first
   | (go_at_call 58;(with_reducible refine (Zcd [.int .i64 x.points,.string x.names,v2] x _ _ goals _ _ (zK h0 zA) (zK hg zA)).mono ?_);rintro e w2 ⟨he,t2⟩;rw [Hm.out] at he;subst he;have X2:=X0.keep t2;obtain ⟨x0,x1,x2⟩:=X2.c3)
   | (go_at_call 59;(with_reducible refine (Zdb [.int .i64 x.points,.string x.names,v2] x _ _ s _ _ (zK h0 zA) (zK hs zA)).mono ?_);rintro e w3 ⟨he,t3⟩;rw [Hq.out] at he;subst he;have X3:=X2.keep t3;obtain ⟨y0,y1,y2⟩:=X3.c3)
   | (go_at_call 60;(with_reducible refine (Hst'.out _ zA).mono ?_);rintro e w4 ⟨z,fs,rfl,A4,F4,t4⟩)
   | (go_at_call 61;(with_reducible refine (Zhb z ws _ _ (A4.rd (by decide))).mono ?_);rintro e w5 ⟨he,t5⟩;rw [Hf.out] at he;subst he)
   | fail)
  have K2:Only [] w w5:=zA
  obtain ⟨hE,hF⟩:=Zim w5 25 rfl
  exact bodyPost_ret (v:=.tuple #[.slice (some ⟨w5.heap.size,0,none⟩) 0 0,.bool false]) (by simp [results,Tryz.results31,go_sem]) rfl ⟨_,_,by rw [Hn.out];rfl,by rw [Hn.out];exact hE,hF.mono K2.size,K2.alloc _⟩
 ·rw [hf,if_pos rfl] at hX
  have Hn:=zH hX
  have Hf:=zH hf
  clear hX hf
  go_enter Tryz.func31,Tryz.ntmps31
  go_wp2_with (first
   | (go_at_call 58;(with_reducible refine (Zcd [.int .i64 x.points,.string x.names,v2] x _ _ goals _ _ (zK h0 zA) (zK hg zA)).mono ?_);rintro e w2 ⟨he,t2⟩;rw [Hm.out] at he;subst he;have X2:=X0.keep t2;obtain ⟨x0,x1,x2⟩:=X2.c3)
   | (go_at_call 59;(with_reducible refine (Zdb [.int .i64 x.points,.string x.names,v2] x _ _ s _ _ (zK h0 zA) (zK hs zA)).mono ?_);rintro e w3 ⟨he,t3⟩;rw [Hq.out] at he;subst he;have X3:=X2.keep t3;obtain ⟨y0,y1,y2⟩:=X3.c3)
   | (go_at_call 60;(with_reducible refine (Hst'.out _ zA).mono ?_);rintro e w4 ⟨z,fs,rfl,A4,F4,t4⟩)
   | (go_at_call 61;(with_reducible refine (Zhb z ws _ _ (A4.rd (by decide))).mono ?_);rintro e w5 ⟨he,t5⟩;rw [Hf.out] at he;subst he)
   | fail)
  have K2:Only [] w w5:=zA
  have K3:Only [] w w3:=zA
  exact bodyPost_ret (v:=.tuple #[z,.bool true]) (by simp [results,Tryz.results31,go_sem]) rfl ⟨z,_,by rw [Hn.out];rfl,by rw [Hn.out];exact zK (A4.rd (by decide)) t5,((A4.fresh F4).mono K3.size).keep t5,K2⟩
end Go.Proofs.YtclhblofchfglaaGreat
