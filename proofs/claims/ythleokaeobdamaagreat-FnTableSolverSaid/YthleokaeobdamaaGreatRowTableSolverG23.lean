/- The law on the solver with pattern databases (law 56): its walk. (Printed by mktslaw.py.) -/
import Derived.Test.YthleokaeobdamaaGreatRowTableSolverG17
import Derived.Test.YthleokaeobdamaaGreatRowTableSolverG22
import Derived.Test.YthleokaeobdamaaGreatRowTableSolverG21
import Derived.Test.YthleokaeobdamaaGreatRowTableSolverG15
import Derived.Test.YthleokaeobdamaaGreatRowTableSolverG9
import Derived.Deep.RegionHeld3
import Derived.Deep.DeepCutAuto
namespace Go.Proofs.YthleokaeobdamaaGreat
open Go.RowKit
set_option maxRecDepth 10000
theorem Zgd {w:World} {cs:List Value} {c:Certificate} {f:List Nat} (h:Rp.rep w cs c f):∃ A1 D1 A2 D2 A3 D3 f2,cs = [.int .i64 c.kind,.slice A1 c.numbers.length D1,.slice A2 c.words.length D2,.slice A3 c.tables.length D3]/\Rd w (.slice A2 c.words.length D2) c.words f2:=by
 obtain ⟨v1,v2,v3,f1,f2,f3,rfl,-,-,h1,h2,h3⟩:=h
 obtain ⟨A1,C1,_,_,rfl,-,-⟩:=h1.open_
 obtain ⟨A2,C2,_,_,rfl,-,-⟩:=id h2.open_
 obtain ⟨A3,C3,_,_,rfl,-,-⟩:=h3.open_
 exact ⟨A1,C1,A2,C2,A3,C3,_,rfl,h2⟩
theorem bnd_acc {x:Puzzle} {trs:List (List Int)} {s:List Int} (h:bndOk x trs s = true):(chkC x s (bndCert x trs s)).isSome = true:=by
 have h9:=h
 unfold bndOk at h
 rw [Bool.and_eq_true] at h
 obtain ⟨h1,h2⟩:=h
 obtain ⟨ts,e⟩:=Option.isSome_iff_exists.1 h1
 rw [e] at h2
 have h3:0<=lb x ts s:=of_decide_eq_true h2
 have hq:(tabSet x ts && reachB x s) = true:=by
  rcases hc:tabSet x ts && reachB x s
  ·unfold lb at h3;rw [hc] at h3;simp at h3
  ·rfl
 rw [Bool.and_eq_true] at hq
 have hlen:1<=ts.length/\ts.length<=4:=by
  unfold bTabs at e
  split at e
  ·rename_i hr
   have:=inR_iff.1 hr
   have:=(Zez e).1
   omega
  ·cases e
 have hc:bndCert x trs s = lbCert (lb x ts s) ts:=by unfold bndCert;rw [if_pos h9,e];rfl
 rw [hc,chk_lb hq.2 hlen h3];rfl
theorem Ztm {x:Puzzle} {trs:List (List Int)} {s:List Int} {m:Int}:∀ t∈(swCert x trs s m).tables,t.tracked.length<=2097152:=by
 intro t ht
 rcases e:bTabs x trs with _ | ts
 ·rw [sw_none (show swX x trs s m = none by unfold swX;rw [e];rfl)] at ht
  simp [noCert] at ht
 ·rcases hq:swX x trs s m with _ | q
  ·rw [sw_none hq] at ht
   simp [noCert] at ht
  ·rw [sw_some e hq] at ht
   split at ht
   ·unfold opCert at ht
    split at ht
    ·exact Zcq e t ht
    ·simp [noCert] at ht
   ·unfold solCert at ht
    split at ht <;> simp at ht
theorem Zsd {x:Puzzle} {trs:List (List Int)} {s:List Int}:∀ t∈(bndCert x trs s).tables,t.tracked.length<=2097152:=by
 intro t ht
 have h0:∀ t∈(bTabs x trs).getD [],t.tracked.length<=2097152:=by
  rcases e:bTabs x trs with _ | ts
  ·intro t ht;cases ht
  ·exact Zcq e
 unfold bndCert at ht
 split at ht
 ·unfold lbCert at ht
  split at ht
  ·exact h0 t ht
  ·simp [noCert] at ht
 ·simp [noCert] at ht
set_option maxHeartbeats 16000000 in
theorem Zin (w:World) (v:Value) (l:List UInt8) (fc:List Nat) (h:Rd w v l fc) :
  Calls Tryz.prog 3 #[v] w fun e w'=>e = .returned (.bool true)/\Only [] w w':=by
 by_cases hb:4096 < l.length
 ·have hd:decide (4096 < l.length) = true:=by simp [hb]
  go_enter Tryz.func3,Tryz.ntmps3
  go_wp2_with ((go_at_call 6;(with_reducible refine (big_any v l fc _ h).mono ?_);rintro e w1 ⟨he,t1⟩;rw [hd] at he;subst he))
  go_ret
  exact ⟨rfl,zA⟩
 have hd:decide (4096 < l.length) = false:=by simp [hb]
 have hl:l.length<=4096:=by omega
 go_enter Tryz.func3,Tryz.ntmps3
 go_upto_region 4 with (first
  | (go_at_call 6;(with_reducible refine (big_any v l fc _ h).mono ?_);rintro e w1 ⟨he,t1⟩;rw [hd] at he;subst he;have k1:Only [] w w1:=zA)
  | (go_at_call 7;(with_reducible refine (Zrx v l fc w1 (zK h k1) hl).mono ?_);rintro e w2 ⟨n,nm,am,cm,gs,fp,aT,cT,trs,fT,aS,cS,s,fs,m,rfl,hp,hT,hTs,hS,hmI,t2⟩)
  | fail)
 have HTs:=zH hTs
 have kal3:Only [] w2 (w2.alloc (.cells #[.int .i64 n,.string nm,.slice am gs.length cm] 26)):=zO.alloc _
 have P3:=Blk.new w2 [.int .i64 n,.string nm,.slice am gs.length cm] 26
 have hp3:=zK hp kal3
 have hT3:=zK hT kal3
 have hS3:=zK hS kal3
 have kk3:=(k1.trans t2).trans kal3
 obtain ⟨V3,hV3⟩:∃ W,W = w2.alloc (.cells #[.int .i64 n,.string nm,.slice am gs.length cm] 26):=⟨_,rfl⟩
 obtain ⟨pb,hpb⟩:∃ b,b = w2.heap.size:=⟨_,rfl⟩
 rw [<- hV3] at P3 hp3 hT3 hS3 kk3 ⊢
 rw [<- hpb] at P3 ⊢
 clear hV3 hpb kal3 hp hT hS hTs k1 t1 t2 h hd
 obtain ⟨c0,c1,c2⟩:=P3.c3
 go_upto_region 5 with (first
  | (go_at_call 8;(with_reducible refine (Zru [.int .i64 n,.string nm,.slice am gs.length cm] ⟨n,nm,gs⟩ fp (.slice aT trs.length cT) trs fT (.slice aS s.length cS) s fs m V3 hp3 hT3 hS3 HTs.out).mono ?_);rintro e w4 ⟨cs4,f4,rfl,r4,F4,t4⟩;obtain ⟨A41,D41,A42,D42,A43,D43,g4,rfl,q4⟩:=Zgd r4)
  | fail)
 obtain ⟨c4x,hc4x⟩:∃ c,c = swCert ⟨n,nm,gs⟩ trs s m:=⟨_,rfl⟩
 rw [<- hc4x] at r4 q4 ⊢
 have Hc4x:=zH hc4x
 have kal4:Only [] w4 (w4.alloc (.cells #[.int .i64 c4x.kind,.slice A41 c4x.numbers.length D41,.slice A42 c4x.words.length D42,.slice A43 c4x.tables.length D43] 32)):=zO.alloc _
 have B40:=Blk.new w4 [.int .i64 c4x.kind,.slice A41 c4x.numbers.length D41,.slice A42 c4x.words.length D42,.slice A43 c4x.tables.length D43] 32
 have k4:=t4.trans kal4
 have kk4:=kk3.trans k4
 have r40:=zK r4 kal4
 have q40:=zK q4 kal4
 obtain ⟨V4,hV4⟩:∃ W,W = w4.alloc (.cells #[.int .i64 c4x.kind,.slice A41 c4x.numbers.length D41,.slice A42 c4x.words.length D42,.slice A43 c4x.tables.length D43] 32):=⟨_,rfl⟩
 obtain ⟨b4,hb4⟩:∃ b,b = w4.heap.size:=⟨_,rfl⟩
 rw [<- hV4] at B40 k4 kk4 r40 q40 ⊢
 rw [<- hb4] at B40 ⊢
 clear hV4 hb4 kal4 r4 q4 F4 t4 hc4x c0 c1 c2
 have hp4:=zK hp3 k4
 have hT4:=zK hT3 k4
 have hS4:=zK hS3 k4
 have P4:=P3.keep k4
 clear hp3 hT3 hS3 P3 k4 kk3
 obtain ⟨c0,c1,c2⟩:=P4.c3
 go_upto_region 6 with (first
  | (go_at_call 9;(with_reducible refine (Zrp [.int .i64 n,.string nm,.slice am gs.length cm] ⟨n,nm,gs⟩ fp (.slice aT trs.length cT) trs fT (.slice aS s.length cS) s fs m V4 hp4 hT4 hS4 HTs.out).mono ?_);rintro e w5 ⟨cs5,f5,rfl,r5,F5,t5⟩;obtain ⟨A51,D51,A52,D52,A53,D53,g5,rfl,q5⟩:=Zgd r5)
  | fail)
 obtain ⟨c5x,hc5x⟩:∃ c,c = swCert ⟨n,nm,gs⟩ trs s m:=⟨_,rfl⟩
 rw [<- hc5x] at r5 q5 ⊢
 have Hc5x:=zH hc5x
 have kal5:Only [] w5 (w5.alloc (.cells #[.int .i64 c5x.kind,.slice A51 c5x.numbers.length D51,.slice A52 c5x.words.length D52,.slice A53 c5x.tables.length D53] 32)):=zO.alloc _
 have B50:=Blk.new w5 [.int .i64 c5x.kind,.slice A51 c5x.numbers.length D51,.slice A52 c5x.words.length D52,.slice A53 c5x.tables.length D53] 32
 have k5:=t5.trans kal5
 have kk5:=kk4.trans k5
 have r50:=zK r5 kal5
 have q50:=zK q5 kal5
 obtain ⟨V5,hV5⟩:∃ W,W = w5.alloc (.cells #[.int .i64 c5x.kind,.slice A51 c5x.numbers.length D51,.slice A52 c5x.words.length D52,.slice A53 c5x.tables.length D53] 32):=⟨_,rfl⟩
 obtain ⟨b5,hb5⟩:∃ b,b = w5.heap.size:=⟨_,rfl⟩
 rw [<- hV5] at B50 k5 kk5 r50 q50 ⊢
 rw [<- hb5] at B50 ⊢
 clear hV5 hb5 kal5 r5 q5 F5 t5 hc5x c0 c1 c2
 have hp5:=zK hp4 k5
 have hT5:=zK hT4 k5
 have hS5:=zK hS4 k5
 have P5:=P4.keep k5
 have B40:=B40.keep k5
 have r40:=zK r40 k5
 have q40:=zK q40 k5
 clear hp4 hT4 hS4 P4 k5 kk4
 obtain ⟨c0,c1,c2⟩:=P5.c3
 go_upto_region 7 with (first
  | (go_at_call 10;(with_reducible refine (Zol [.int .i64 n,.string nm,.slice am gs.length cm] ⟨n,nm,gs⟩ fp (.slice aT trs.length cT) trs fT (.slice aS s.length cS) s fs V5 hp5 hT5 hS5 HTs.out).mono ?_);rintro e w6 ⟨cs6,f6,rfl,r6,F6,t6⟩;obtain ⟨A61,D61,A62,D62,A63,D63,g6,rfl,q6⟩:=Zgd r6)
  | fail)
 obtain ⟨c6x,hc6x⟩:∃ c,c = bndCert ⟨n,nm,gs⟩ trs s:=⟨_,rfl⟩
 rw [<- hc6x] at r6 q6 ⊢
 have Hc6x:=zH hc6x
 have kal6:Only [] w6 (w6.alloc (.cells #[.int .i64 c6x.kind,.slice A61 c6x.numbers.length D61,.slice A62 c6x.words.length D62,.slice A63 c6x.tables.length D63] 32)):=zO.alloc _
 have B60:=Blk.new w6 [.int .i64 c6x.kind,.slice A61 c6x.numbers.length D61,.slice A62 c6x.words.length D62,.slice A63 c6x.tables.length D63] 32
 have k6:=t6.trans kal6
 have kk6:=kk5.trans k6
 have r60:=zK r6 kal6
 have q60:=zK q6 kal6
 obtain ⟨V6,hV6⟩:∃ W,W = w6.alloc (.cells #[.int .i64 c6x.kind,.slice A61 c6x.numbers.length D61,.slice A62 c6x.words.length D62,.slice A63 c6x.tables.length D63] 32):=⟨_,rfl⟩
 obtain ⟨b6,hb6⟩:∃ b,b = w6.heap.size:=⟨_,rfl⟩
 rw [<- hV6] at B60 k6 kk6 r60 q60 ⊢
 rw [<- hb6] at B60 ⊢
 clear hV6 hb6 kal6 r6 q6 F6 t6 hc6x c0 c1 c2
 have hp6:=zK hp5 k6
 have hT6:=zK hT5 k6
 have hS6:=zK hS5 k6
 have P6:=P5.keep k6
 have B40:=B40.keep k6
 have r40:=zK r40 k6
 have q40:=zK q40 k6
 have B50:=B50.keep k6
 have r50:=zK r50 k6
 have q50:=zK q50 k6
 clear hp5 hT5 hS5 P5 k6 kk5
 obtain ⟨c0,c1,c2⟩:=P6.c3
 go_upto_region 8 with (first
  | (go_at_call 11;(with_reducible refine (Zny [.int .i64 n,.string nm,.slice am gs.length cm] ⟨n,nm,gs⟩ fp (.slice aT trs.length cT) trs fT (.slice aS s.length cS) s fs V6 hp6 hT6 hS6 HTs.out).mono ?_);rintro e w7 ⟨cs7,f7,rfl,r7,F7,t7⟩;obtain ⟨A71,D71,A72,D72,A73,D73,g7,rfl,q7⟩:=Zgd r7)
  | fail)
 obtain ⟨c7x,hc7x⟩:∃ c,c = bndCert ⟨n,nm,gs⟩ trs s:=⟨_,rfl⟩
 rw [<- hc7x] at r7 q7 ⊢
 have Hc7x:=zH hc7x
 have kal7:Only [] w7 (w7.alloc (.cells #[.int .i64 c7x.kind,.slice A71 c7x.numbers.length D71,.slice A72 c7x.words.length D72,.slice A73 c7x.tables.length D73] 32)):=zO.alloc _
 have B70:=Blk.new w7 [.int .i64 c7x.kind,.slice A71 c7x.numbers.length D71,.slice A72 c7x.words.length D72,.slice A73 c7x.tables.length D73] 32
 have k7:=t7.trans kal7
 have kk7:=kk6.trans k7
 have r70:=zK r7 kal7
 have q70:=zK q7 kal7
 obtain ⟨V7,hV7⟩:∃ W,W = w7.alloc (.cells #[.int .i64 c7x.kind,.slice A71 c7x.numbers.length D71,.slice A72 c7x.words.length D72,.slice A73 c7x.tables.length D73] 32):=⟨_,rfl⟩
 obtain ⟨b7,hb7⟩:∃ b,b = w7.heap.size:=⟨_,rfl⟩
 rw [<- hV7] at B70 k7 kk7 r70 q70 ⊢
 rw [<- hb7] at B70 ⊢
 clear hV7 hb7 kal7 r7 q7 F7 t7 hc7x c0 c1 c2
 have hp7:=zK hp6 k7
 have hT7:=zK hT6 k7
 have hS7:=zK hS6 k7
 have P7:=P6.keep k7
 have B40:=B40.keep k7
 have r40:=zK r40 k7
 have q40:=zK q40 k7
 have B50:=B50.keep k7
 have r50:=zK r50 k7
 have q50:=zK q50 k7
 have B60:=B60.keep k7
 have r60:=zK r60 k7
 have q60:=zK q60 k7
 clear hp6 hT6 hS6 P6 k7 kk6
 obtain ⟨c0,c1,c2⟩:=P7.c3
 go_upto_region 10 with (first
  | (go_at_call 12;(with_reducible refine (Zap [.int .i64 n,.string nm,.slice am gs.length cm] ⟨n,nm,gs⟩ fp (.slice aT trs.length cT) trs fT V7 (zK hp7 zO) (zK hT7 zO) HTs.out).mono ?_);rintro e w8 ⟨u8,f8,rfl,r8,F8,t8⟩;obtain ⟨a8,d8,_,_,rfl,-,S8⟩:=id r8.open_;have P8:=P7.keep t8;obtain ⟨c08,c18,c28⟩:=P8.c3)
  | (go_at_call 13;(with_reducible refine (Zaq [.int .i64 n,.string nm,.slice am gs.length cm] ⟨n,nm,gs⟩ fp (.slice aT trs.length cT) trs fT w8 (zK hp7 t8) (zK hT7 t8) HTs.out).mono ?_);rintro e w9 ⟨u9,f9,rfl,r9,F9,t9⟩;obtain ⟨a9,d9,_,_,rfl,-,S9⟩:=id r9.open_)
  | fail)
 have k9:=t8.trans t9
 have P9:=P7.keep k9
 have hp9:=zK hp7 k9
 have hS9:=zK hS7 k9
 have B4:=B40.keep k9
 have r4:=zK r40 k9
 have q4:=zK q40 k9
 have B6:=B60.keep k9
 have r6:=zK r60 k9
 have kk9:=kk7.trans k9
 have r8':Rd w9 (.slice a8 ((bTabs (⟨n,nm,gs⟩:Puzzle) trs).getD []).length d8) ((bTabs (⟨n,nm,gs⟩:Puzzle) trs).getD []) f8:=zK r8 t9
 clear B40 B50 B60 B70 r40 r50 r60 r70 q40 q50 q60 q70 P7 P8 hp7 hS7 hT7 kk7 k9 c0 c1 c2 c08 c18 c28 r8 S8 S9 t8 t9
 obtain ⟨c0,c1,c2⟩:=P9.c3
 obtain ⟨z1,hz1⟩:∃ b,b = (swX ⟨n,nm,gs⟩ trs s m).isSome:=⟨_,rfl⟩
 obtain ⟨z2,hz2⟩:∃ b,b = bndOk ⟨n,nm,gs⟩ trs s:=⟨_,rfl⟩
 obtain ⟨z3,hz3⟩:∃ b,b = (bTabs ⟨n,nm,gs⟩ trs).isSome:=⟨_,rfl⟩
 obtain ⟨Ts,hTs⟩:∃ b,b = (bTabs ⟨n,nm,gs⟩ trs).getD []:=⟨_,rfl⟩
 rw [<- hTs] at r8' r9
 rw [<- hTs,<- hz1,<- hz2,<- hz3]
 have Hz1:=zH hz1
 have Hz2:=zH hz2
 have Hacc1:=zH (show z1 = true->(chkC ⟨n,nm,gs⟩ s c4x).isSome = true/\∃ q,c4x.words = [q]/\(distX ⟨n,nm,gs⟩ s = -1\/(q.length:Int) = distX ⟨n,nm,gs⟩ s) from fun hz=>by
  rw [hz] at hz1
  obtain ⟨q,hq⟩:=Option.isSome_iff_exists.1 hz1.symm
  obtain ⟨a1,a2,a3⟩:=sw_acc hq
  rw [Hc4x.out];exact ⟨a1,q,a2,a3⟩)
 have Hacc2:=zH (show z2 = true->(chkC ⟨n,nm,gs⟩ s c6x).isSome = true from fun hz=>by
  rw [hz] at hz2
  rw [Hc6x.out];exact bnd_acc hz2.symm)
 have Hsm4:=zH (show ∀ t∈c4x.tables,t.tracked.length<=2097152 by rw [Hc4x.out];exact Ztm)
 have Hsm6:=zH (show ∀ t∈c6x.tables,t.tracked.length<=2097152 by rw [Hc6x.out];exact Zsd)
 clear hz1 hz2 hz3 hTs
 obtain ⟨_,_,_,_,hv8,-,S8⟩:=id r8'.open_
 injection hv8 with e1 e2 e3
 subst e1;subst e3
 clear e2
 obtain ⟨_,_,_,_,hv9,-,S9⟩:=id r9.open_
 injection hv9 with e1 e2 e3
 subst e1;subst e3
 clear e2
 have hbT:=S8.bound
 have hlz1:(z1 != z1) = false:=by simp
 obtain ⟨d0,d1,d2,d3⟩:=B4.c4
 obtain ⟨g0,g1,g2,g3⟩:=B6.c4
 go_upto_region 12 with fail
 go_cut [108] (fun s108 wx=>s108 = .bool false/\Only [] w9 wx)
 case first=>
  rcases z2 with _ | _
  ·rcases z1 with _ | _
   ·go_wp2_with fail
    go_meet
    exact ⟨rfl,Only.refl _ _⟩
   ·have HA:=zH (Hacc1.out rfl).1
    go_wp2_with (first
     | (go_at_call 14;(with_reducible refine (Zcj [.int .i64 n,.string nm,.slice am gs.length cm] [.int .i64 c4x.kind,.slice A41 c4x.numbers.length D41,.slice A42 c4x.words.length D42,.slice A43 c4x.tables.length D43] ⟨n,nm,gs⟩ c4x fp f4 (.slice aS s.length cS) s fs w9 hp9 hS9 r4 Hsm4.out).mono ?_);rintro e wA ⟨he,tA⟩;rw [HA.out] at he;subst he)
     | fail)
    go_meet
    exact ⟨rfl,tA⟩
  ·have HB:=zH (Hacc2.out rfl)
   rcases z1 with _ | _
   ·go_wp2_with (first
     | (go_at_call 14;(with_reducible refine (Zcj [.int .i64 n,.string nm,.slice am gs.length cm] [.int .i64 c6x.kind,.slice A61 c6x.numbers.length D61,.slice A62 c6x.words.length D62,.slice A63 c6x.tables.length D63] ⟨n,nm,gs⟩ c6x fp f6 (.slice aS s.length cS) s fs w9 hp9 hS9 r6 Hsm6.out).mono ?_);rintro e wA ⟨he,tA⟩;rw [HB.out] at he;subst he)
     | fail)
    go_meet
    exact ⟨rfl,tA⟩
   ·have HA:=zH (Hacc1.out rfl).1
    go_wp2_with (first
     | (go_at_call 14;(with_reducible refine (Zcj [.int .i64 n,.string nm,.slice am gs.length cm] [.int .i64 c6x.kind,.slice A61 c6x.numbers.length D61,.slice A62 c6x.words.length D62,.slice A63 c6x.tables.length D63] ⟨n,nm,gs⟩ c6x fp f6 (.slice aS s.length cS) s fs w9 hp9 hS9 r6 Hsm6.out).mono ?_);rintro e wA ⟨he,tA⟩;rw [HB.out] at he;subst he;have PA:=P9.keep tA;obtain ⟨c0A,c1A,c2A⟩:=PA.c3;have BA:=B4.keep tA;obtain ⟨d0A,d1A,d2A,d3A⟩:=BA.c4)
     | (go_at_call 14;(with_reducible refine (Zcj [.int .i64 n,.string nm,.slice am gs.length cm] [.int .i64 c4x.kind,.slice A41 c4x.numbers.length D41,.slice A42 c4x.words.length D42,.slice A43 c4x.tables.length D43] ⟨n,nm,gs⟩ c4x fp f4 (.slice aS s.length cS) s fs wA (zK hp9 tA) (zK hS9 tA) (zK r4 tA) Hsm4.out).mono ?_);rintro e wB ⟨he,tB⟩;rw [HA.out] at he;subst he)
     | fail)
    go_meet
    exact ⟨rfl,tA.trans tB⟩
 case rest=>
 obtain ⟨rfl,hkA⟩:=hcut
 obtain ⟨wA,hnew⟩:∃ W,W = wc:=⟨_,rfl⟩
 subst hnew
 refine (show ∀ a w,Code.wp Tryz.prog _ _ a w->_ from by assumption) _ _ ?_
 have PA:=P9.keep hkA
 have hpA:=zK hp9 hkA
 have hSA:=zK hS9 hkA
 have BA:=B4.keep hkA
 have qA:=zK q4 hkA
 have kkA:=kk9.trans hkA
 clear P9 B4 B6 r4 r6 q4 d0 d1 d2 d3 g0 g1 g2 g3 c0 c1 c2 hp9 hS9
 go_upto_region 15 with fail
 go_loopw [19] (fun i wr=>∃ j:Nat,j<=Ts.length/\i = .int .i64 j/\Only [] wA wr)
  (fun i _=>Ts.length - (intOf i).toNat)
 case atStart=>exact ⟨0,Nat.zero_le _,rfl,Only.refl _ _⟩
 case round=>
  obtain ⟨W2,hnew⟩:∃ W,W = wr:=⟨_,rfl⟩
  subst hnew
  obtain ⟨j,hj,rfl,hK⟩:=hrel
  by_cases hlt:j < Ts.length
  ·obtain ⟨ba,oa,u1,u2,u3,rfl,-,e1,e2,e3,hv⟩:=S8.at3 j hlt
   obtain ⟨bb,ob,y1,y2,y3,rfl,-,h1,h2,h3,hy⟩:=S9.at3 j hlt
   have hK0:=hkA.trans hK
   have E1:=hK0.cell (by simp) e1
   have E2:=hK0.cell (by simp) e2
   have E3:=hK0.cell (by simp) e3
   have H1:=hK0.cell (by simp) h1
   have H2:=hK0.cell (by simp) h2
   have H3:=hK0.cell (by simp) h3
   have hv2:=zK hv hK0
   have hy2:=zK hy hK0
   obtain ⟨t,ht⟩:∃ t,t = Ts[j]:=⟨_,rfl⟩
   rw [<- ht] at hv2 hy2
   have Heq:=zH (eqV_yes (rfl:t = t))
   clear e1 e2 e3 h1 h2 h3 hv hy ht
   go_upto_region 17 with fail
   go_region_held3 (fun w'=>Only [] W2 w'/\w'.cell? ⟨ba,oa + j * 3,none⟩ = some (u1)/\w'.cell? ⟨ba,oa + j * 3 + 1,none⟩ = some (u2)/\w'.cell? ⟨ba,oa + j * 3 + 2,none⟩ = some (u3)/\w'.cell? ⟨bb,ob + j * 3,none⟩ = some (y1)/\w'.cell? ⟨bb,ob + j * 3 + 1,none⟩ = some (y2)/\w'.cell? ⟨bb,ob + j * 3 + 2,none⟩ = some (y3)) (((refine and_of ?_ (fun q_=>⟨q_.ce E1,q_.ce E2,q_.ce E3,q_.ce H1,q_.ce H2,q_.ce H3⟩));first | exact zO.drew | exact (zO.drewN _).drew | exact Only.trans (And.left (by assumption)) (by assumption) | exact Only.alloc (And.left (by assumption)) _ | assumption)) (first | (go_at_call 15;(with_reducible refine (Zeu [u1,u2,u3] [y1,y2,y3] t t _ _ _ (zK hv2 zA) (zK hy2 zA)).mono ?_);rintro e w5 ⟨he,t5⟩;rw [Heq.out] at he;subst he) | fail)
   have kj:Only [] wA w5:=hK.trans zA
   refine (show ∀ a w,Code.wp Tryz.prog _ _ a w->_ from by assumption) _ _ ?_
   go_wp2_with fail
   exact ⟨⟨j + 1,hlt,by go_num,kj⟩,by simp [intOf];omega⟩
  ·have PZ:=PA.keep hK
   have hpZ:=zK hpA hK
   have hSZ:=zK hSA hK
   have BZ:=BA.keep hK
   have qZ:=zK qA hK
   have kkZ:=kkA.trans hK
   obtain ⟨dx,hdx⟩:∃ d,d = distX (⟨n,nm,gs⟩:Puzzle) s:=⟨_,rfl⟩
   have Hds:=zH (show ∀ W,Only [] W2 W->Calls Tryz.prog 16 #[.agg #[.int .i64 n,.string nm,.slice am gs.length cm],.slice aS s.length cS] W fun e w'=>e = .returned (.int .i64 dx)/\Only [] W w' from fun W hh=>by
    rw [hdx];exact Zjn [.int .i64 n,.string nm,.slice am gs.length cm] ⟨n,nm,gs⟩ fp _ s fs W (zK hpZ hh) (zK hSZ hh))
   obtain ⟨c0,c1,c2⟩:=PZ.c3
   have d2:=BZ.cell 2 rfl
   clear PA hpA hSA BA qA kkA S8 S9 r8' r9
   rcases z1 with _ | _
   ·clear d2
    go_upto_region 19 with fail
    refine wp_region_held_drew (S:=fun w'=>Only [] W2 w'/\w'.cell? ⟨pb,0,none⟩ = some (.int .i64 n)/\w'.cell? ⟨pb,1,none⟩ = some (.string nm)/\w'.cell? ⟨pb,2,none⟩ = some (.slice am gs.length cm)) (by kernel_rfl) (and_of (Only.refl [] W2).drew (fun q_=>⟨q_.ce c0,q_.ce c1,q_.ce c2⟩)) (fun hHeld=>?_)
    refine tkV (v:=?v1) 0 ?h1 ?r1 (hw:=by kernel_rfl);(case h1=>(intro w__ hSw;(try dsimp only at hSw);go_simp;try with_reducible rfl));(try simp only [Act.put,aT,aZ,sB,sZ,sS])
    refine tkV (v:=?v2) 1 ?h2 ?r2 (hw:=by kernel_rfl);(case h2=>(intro w__ hSw;(try dsimp only at hSw);go_simp;try with_reducible rfl));(try simp only [Act.put,aT,aZ,aS,sB,sZ,sS])
    refine tkV (v:=?v3) 2 ?h3 ?r3 (hw:=by kernel_rfl);(case h3=>(intro w__ hSw;(try dsimp only at hSw);go_simp;try with_reducible rfl));(try simp only [Act.put,aT,aZ,aS,sB,sZ,sS])
    refine tkU 3 ?_ (hy:=by kernel_rfl);(try simp only [Act.put,aT,aZ,aS,sB,sZ,sS])
    refine tkU 4 ?_ (hy:=by kernel_rfl);(try simp only [Act.put,aT,aZ,aS,sB,sZ,sS])
    refine tkU 5 ?_ (hy:=by kernel_rfl);(try simp only [Act.put,aT,aZ,aS,sB,sZ,sS])
    refine tkU 6 ?_ (hy:=by kernel_rfl);(try simp only [Act.put,aT,aZ,aS,sB,sZ,sS])
    refine tkU 7 ?_ (hy:=by kernel_rfl);(try simp only [Act.put,aT,aZ,aS,sB,sZ,sS])
    refine tkU 8 ?_ (hy:=by kernel_rfl);(try simp only [Act.put,aT,aZ,aS,sB,sZ,sS])
    refine tkU 9 ?_ (hy:=by kernel_rfl);(try simp only [Act.put,aT,aZ,aS,sB,sZ,sS])
    refine tkU 10 ?_ (hy:=by kernel_rfl);(try simp only [Act.put,aT,aZ,aS,sB,sZ,sS])
    refine tkU 11 ?_ (hy:=by kernel_rfl);(try simp only [Act.put,aT,aZ,aS,sB,sZ,sS])
    refine tkU 12 ?_ (hy:=by kernel_rfl);(try simp only [Act.put,aT,aZ,aS,sB,sZ,sS])
    refine tkU 13 ?_ (hy:=by kernel_rfl);(try simp only [Act.put,aT,aZ,aS,sB,sZ,sS])
    refine tkU 14 ?_ (hy:=by kernel_rfl);(try simp only [Act.put,aT,aZ,aS,sB,sZ,sS])
    refine tkU 15 ?_ (hy:=by kernel_rfl);(try simp only [Act.put,aT,aZ,aS,sB,sZ,sS])
    refine tkU 16 ?_ (hy:=by kernel_rfl);(try simp only [Act.put,aT,aZ,aS,sB,sZ,sS])
    refine tkU 17 ?_ (hy:=by kernel_rfl);(try simp only [Act.put,aT,aZ,aS,sB,sZ,sS])
    refine tkU 18 ?_ (hy:=by kernel_rfl);(try simp only [Act.put,aT,aZ,aS,sB,sZ,sS])
    refine tkU 19 ?_ (hy:=by kernel_rfl);(try simp only [Act.put,aT,aZ,aS,sB,sZ,sS])
    refine tkU 20 ?_ (hy:=by kernel_rfl);(try simp only [Act.put,aT,aZ,aS,sB,sZ,sS])
    refine tkU 21 ?_ (hy:=by kernel_rfl);(try simp only [Act.put,aT,aZ,aS,sB,sZ,sS])
    refine tkU 22 ?_ (hy:=by kernel_rfl);(try simp only [Act.put,aT,aZ,aS,sB,sZ,sS])
    refine tkU 23 ?_ (hy:=by kernel_rfl);(try simp only [Act.put,aT,aZ,aS,sB,sZ,sS])
    refine tkV (v:=?v4) 24 ?h4 ?r4 (hw:=by kernel_rfl);(case h4=>(intro w__ hSw;(try dsimp only at hSw);go_simp;try with_reducible rfl));(try simp only [Act.put,aT,aZ,aS,sB,sZ,sS])
    refine tkV (v:=?v5) 25 ?h5 ?r5 (hw:=by kernel_rfl);(case h5=>(intro w__ hSw;(try dsimp only at hSw);go_simp;try with_reducible rfl));(try simp only [Act.put,aT,aZ,aS,sB,sZ,sS])
    refine wpAnyH_done (by kernel_rfl) ?_ _
    go_wp2
    go_ret
    exact ⟨by kernel_rfl,kkZ.trans (by first | exact zO.drew | exact And.left (by assumption))⟩
   ·obtain ⟨-,q,hw,hq⟩:=Hacc1.out rfl
    rw [<- hdx] at hq
    rw [hw] at qZ
    rw [hw] at d2
    simp only [List.length_singleton] at qZ d2
    have qZ:Rd W2 (.slice A42 1 D42) [q] g4:=qZ
    obtain ⟨_,_,_,_,hv8,-,SZ⟩:=id qZ.open_
    injection hv8 with e1 e2 e3
    subst e1;subst e3
    clear e2
    obtain ⟨bq,oq,uq,rfl,-,hcq,hrq⟩:=SZ.atRow 0 (by simp)
    obtain ⟨aq,cq,rfl,Iq⟩:=hrq.ints
    have hbq:=Iq.bound
    clear hw hdx Hacc1 Hacc2 qZ
    simp only [List.getElem_cons_zero,Nat.add_zero] at hcq
    by_cases hdn:dx = -1
    ·subst hdn
     go_upto_region 19 with fail
     refine wp_region_held_drew (S:=fun w'=>Only [] W2 w'/\w'.cell? ⟨pb,0,none⟩ = some (.int .i64 n)/\w'.cell? ⟨pb,1,none⟩ = some (.string nm)/\w'.cell? ⟨pb,2,none⟩ = some (.slice am gs.length cm)/\w'.cell? ⟨b4,2,none⟩ = some (.slice (some ⟨bq,oq,none⟩) 1 D42)/\w'.cell? ⟨bq,oq,none⟩ = some (.slice aq q.length cq)) (by kernel_rfl) (and_of (Only.refl [] W2).drew (fun q_=>⟨q_.ce c0,q_.ce c1,q_.ce c2,q_.ce d2,q_.ce hcq⟩)) (fun hHeld=>?_)
     refine tkV (v:=?v6) 0 ?h6 ?r6 (hw:=by kernel_rfl);(case h6=>(intro w__ hSw;(try dsimp only at hSw);go_simp;try with_reducible rfl));(try simp only [Act.put,aT,aZ,sB,sZ,sS])
     refine tkV (v:=?v7) 1 ?h7 ?r7 (hw:=by kernel_rfl);(case h7=>(intro w__ hSw;(try dsimp only at hSw);go_simp;try with_reducible rfl));(try simp only [Act.put,aT,aZ,aS,sB,sZ,sS])
     refine tkV (v:=?v8) 2 ?h8 ?r8 (hw:=by kernel_rfl);(case h8=>(intro w__ hSw;(try dsimp only at hSw);go_simp;try with_reducible rfl));(try simp only [Act.put,aT,aZ,aS,sB,sZ,sS])
     refine tkV (v:=?v9) 3 ?h9 ?r9 (hw:=by kernel_rfl);(case h9=>(intro w__ hSw;(try dsimp only at hSw);go_simp;try with_reducible rfl));(try simp only [Act.put,aT,aZ,aS,sB,sZ,sS])
     refine tkV (v:=?v10) 4 ?h10 ?r10 (hw:=by kernel_rfl);(case h10=>(intro w__ hSw;(try dsimp only at hSw);go_simp;try with_reducible rfl));(try simp only [Act.put,aT,aZ,aS,sB,sZ,sS])
     refine tkV (v:=?v11) 5 ?h11 ?r11 (hw:=by kernel_rfl);(case h11=>(intro w__ hSw;(try dsimp only at hSw);go_simp;try with_reducible rfl));(try simp only [Act.put,aT,aZ,aS,sB,sZ,sS])
     refine tkV (v:=?v12) 6 ?h12 ?r12 (hw:=by kernel_rfl);(case h12=>(intro w__ hSw;(try dsimp only at hSw);go_simp;try with_reducible rfl));(try simp only [Act.put,aT,aZ,aS,sB,sZ,sS])
     refine tkV (v:=?v13) 7 ?h13 ?r13 (hw:=by kernel_rfl);(case h13=>(intro w__ hSw;(try dsimp only at hSw);go_simp;try with_reducible rfl));(try simp only [Act.put,aT,aZ,aS,sB,sZ,sS])
     refine tkV (v:=?v14) 8 ?h14 ?r14 (hw:=by kernel_rfl);(case h14=>(intro w__ hSw;(try dsimp only at hSw);go_simp;try with_reducible rfl));(try simp only [Act.put,aT,aZ,aS,sB,sZ,sS])
     refine tkV (v:=?v15) 9 ?h15 ?r15 (hw:=by kernel_rfl);(case h15=>(intro w__ hSw;(try dsimp only at hSw);go_simp;try with_reducible rfl));(try simp only [Act.put,aT,aZ,aS,sB,sZ,sS])
     refine wpAnyH_ready (rs:=[10]) (by kernel_rfl) (by simp) ?_
     refine AllReadyH.cons rfl (fun K hK=>?_) AllReadyH.nil
     go_simp
     (go_at_call 16;(with_reducible refine (Hds.out _ (And.left (by assumption))).mono ?_);rintro e wD ⟨rfl,tD⟩)
     go_wp2_with fail
     refine hK.out _ _ ?hS16 (fun hHeld=>?rest16)
     case hS16=>((refine and_of ?_ (fun q_=>⟨q_.ce c0,q_.ce c1,q_.ce c2,q_.ce d2,q_.ce hcq⟩));first | exact Only.trans (And.left (by assumption)) (by assumption) | exact And.left (by assumption) | assumption)
     clear hK K
     (try simp only [Act.put,aT,aZ,aS,sB,sZ,sS])
     refine tkV (v:=?v17) 11 ?h17 ?r17 (hw:=by kernel_rfl);(case h17=>(intro w__ hSw;(try dsimp only at hSw);go_simp;try with_reducible rfl));(try simp only [Act.put,aT,aZ,aS,sB,sZ,sS])
     refine tkV (v:=?v18) 12 ?h18 ?r18 (hw:=by kernel_rfl);(case h18=>(intro w__ hSw;(try dsimp only at hSw);go_simp;try with_reducible rfl));(try simp only [Act.put,aT,aZ,aS,sB,sZ,sS])
     refine tkU 13 ?_ (hy:=by kernel_rfl);(try simp only [Act.put,aT,aZ,aS,sB,sZ,sS])
     refine tkU 14 ?_ (hy:=by kernel_rfl);(try simp only [Act.put,aT,aZ,aS,sB,sZ,sS])
     refine tkU 15 ?_ (hy:=by kernel_rfl);(try simp only [Act.put,aT,aZ,aS,sB,sZ,sS])
     refine tkU 16 ?_ (hy:=by kernel_rfl);(try simp only [Act.put,aT,aZ,aS,sB,sZ,sS])
     refine tkU 17 ?_ (hy:=by kernel_rfl);(try simp only [Act.put,aT,aZ,aS,sB,sZ,sS])
     refine tkU 18 ?_ (hy:=by kernel_rfl);(try simp only [Act.put,aT,aZ,aS,sB,sZ,sS])
     refine tkU 19 ?_ (hy:=by kernel_rfl);(try simp only [Act.put,aT,aZ,aS,sB,sZ,sS])
     refine tkU 20 ?_ (hy:=by kernel_rfl);(try simp only [Act.put,aT,aZ,aS,sB,sZ,sS])
     refine tkU 21 ?_ (hy:=by kernel_rfl);(try simp only [Act.put,aT,aZ,aS,sB,sZ,sS])
     refine tkV (v:=?v19) 22 ?h19 ?r19 (hw:=by kernel_rfl);(case h19=>(intro w__ hSw;(try dsimp only at hSw);go_simp;try with_reducible rfl));(try simp only [Act.put,aT,aZ,aS,sB,sZ,sS])
     refine tkV (v:=?v20) 23 ?h20 ?r20 (hw:=by kernel_rfl);(case h20=>(intro w__ hSw;(try dsimp only at hSw);go_simp;try with_reducible rfl));(try simp only [Act.put,aT,aZ,aS,sB,sZ,sS])
     refine tkV (v:=?v21) 24 ?h21 ?r21 (hw:=by kernel_rfl);(case h21=>(intro w__ hSw;(try dsimp only at hSw);go_simp;try with_reducible rfl));(try simp only [Act.put,aT,aZ,aS,sB,sZ,sS])
     refine tkV (v:=?v22) 25 ?h22 ?r22 (hw:=by kernel_rfl);(case h22=>(intro w__ hSw;(try dsimp only at hSw);go_simp;try with_reducible rfl));(try simp only [Act.put,aT,aZ,aS,sB,sZ,sS])
     refine wpAnyH_done (by kernel_rfl) ?_ _
     go_wp2
     go_ret
     exact ⟨by kernel_rfl,kkZ.trans (by first | exact zO.drew | exact And.left (by assumption))⟩
    ·have hqd:(q.length:Int) = dx:=hq.resolve_left hdn
     subst hqd
     have hdm:(((q.length:Nat):Int) == -1) = false:=by simp
     clear hq hdn
     go_upto_region 19 with fail
     refine wp_region_held_drew (S:=fun w'=>Only [] W2 w'/\w'.cell? ⟨pb,0,none⟩ = some (.int .i64 n)/\w'.cell? ⟨pb,1,none⟩ = some (.string nm)/\w'.cell? ⟨pb,2,none⟩ = some (.slice am gs.length cm)/\w'.cell? ⟨b4,2,none⟩ = some (.slice (some ⟨bq,oq,none⟩) 1 D42)/\w'.cell? ⟨bq,oq,none⟩ = some (.slice aq q.length cq)) (by kernel_rfl) (and_of (Only.refl [] W2).drew (fun q_=>⟨q_.ce c0,q_.ce c1,q_.ce c2,q_.ce d2,q_.ce hcq⟩)) (fun hHeld=>?_)
     refine tkV (v:=?v23) 0 ?h23 ?r23 (hw:=by kernel_rfl);(case h23=>(intro w__ hSw;(try dsimp only at hSw);go_simp;try with_reducible rfl));(try simp only [Act.put,aT,aZ,sB,sZ,sS])
     refine tkV (v:=?v24) 1 ?h24 ?r24 (hw:=by kernel_rfl);(case h24=>(intro w__ hSw;(try dsimp only at hSw);go_simp;try with_reducible rfl));(try simp only [Act.put,aT,aZ,aS,sB,sZ,sS])
     refine tkV (v:=?v25) 2 ?h25 ?r25 (hw:=by kernel_rfl);(case h25=>(intro w__ hSw;(try dsimp only at hSw);go_simp;try with_reducible rfl));(try simp only [Act.put,aT,aZ,aS,sB,sZ,sS])
     refine tkV (v:=?v26) 3 ?h26 ?r26 (hw:=by kernel_rfl);(case h26=>(intro w__ hSw;(try dsimp only at hSw);go_simp;try with_reducible rfl));(try simp only [Act.put,aT,aZ,aS,sB,sZ,sS])
     refine tkV (v:=?v27) 4 ?h27 ?r27 (hw:=by kernel_rfl);(case h27=>(intro w__ hSw;(try dsimp only at hSw);go_simp;try with_reducible rfl));(try simp only [Act.put,aT,aZ,aS,sB,sZ,sS])
     refine tkV (v:=?v28) 5 ?h28 ?r28 (hw:=by kernel_rfl);(case h28=>(intro w__ hSw;(try dsimp only at hSw);go_simp;try with_reducible rfl));(try simp only [Act.put,aT,aZ,aS,sB,sZ,sS])
     refine tkV (v:=?v29) 6 ?h29 ?r29 (hw:=by kernel_rfl);(case h29=>(intro w__ hSw;(try dsimp only at hSw);go_simp;try with_reducible rfl));(try simp only [Act.put,aT,aZ,aS,sB,sZ,sS])
     refine tkV (v:=?v30) 7 ?h30 ?r30 (hw:=by kernel_rfl);(case h30=>(intro w__ hSw;(try dsimp only at hSw);go_simp;try with_reducible rfl));(try simp only [Act.put,aT,aZ,aS,sB,sZ,sS])
     refine tkV (v:=?v31) 8 ?h31 ?r31 (hw:=by kernel_rfl);(case h31=>(intro w__ hSw;(try dsimp only at hSw);go_simp;try with_reducible rfl));(try simp only [Act.put,aT,aZ,aS,sB,sZ,sS])
     refine tkV (v:=?v32) 9 ?h32 ?r32 (hw:=by kernel_rfl);(case h32=>(intro w__ hSw;(try dsimp only at hSw);go_simp;try with_reducible rfl));(try simp only [Act.put,aT,aZ,aS,sB,sZ,sS])
     refine wpAnyH_ready (rs:=[10]) (by kernel_rfl) (by simp) ?_
     refine AllReadyH.cons rfl (fun K hK=>?_) AllReadyH.nil
     go_simp
     (go_at_call 16;(with_reducible refine (Hds.out _ (And.left (by assumption))).mono ?_);rintro e wD ⟨rfl,tD⟩)
     go_wp2_with fail
     refine hK.out _ _ ?hS33 (fun hHeld=>?rest33)
     case hS33=>((refine and_of ?_ (fun q_=>⟨q_.ce c0,q_.ce c1,q_.ce c2,q_.ce d2,q_.ce hcq⟩));first | exact Only.trans (And.left (by assumption)) (by assumption) | exact And.left (by assumption) | assumption)
     clear hK K
     (try simp only [Act.put,aT,aZ,aS,sB,sZ,sS])
     refine tkV (v:=?v34) 11 ?h34 ?r34 (hw:=by kernel_rfl);(case h34=>(intro w__ hSw;(try dsimp only at hSw);go_simp;try with_reducible rfl));(try simp only [Act.put,aT,aZ,aS,sB,sZ,sS])
     refine tkV (v:=?v35) 12 ?h35 ?r35 (hw:=by kernel_rfl);(case h35=>(intro w__ hSw;(try dsimp only at hSw);go_simp;try with_reducible rfl));(try simp only [Act.put,aT,aZ,aS,sB,sZ,sS])
     refine tkV (v:=?v36) 13 ?h36 ?r36 (hw:=by kernel_rfl);(case h36=>(intro w__ hSw;(try dsimp only at hSw);go_simp;try with_reducible rfl));(try simp only [Act.put,aT,aZ,aS,sB,sZ,sS])
     refine tkV (v:=?v37) 14 ?h37 ?r37 (hw:=by kernel_rfl);(case h37=>(intro w__ hSw;(try dsimp only at hSw);go_simp;try with_reducible rfl));(try simp only [Act.put,aT,aZ,aS,sB,sZ,sS])
     refine tkV (v:=?v38) 15 ?h38 ?r38 (hw:=by kernel_rfl);(case h38=>(intro w__ hSw;(try dsimp only at hSw);go_simp;try with_reducible rfl));(try simp only [Act.put,aT,aZ,aS,sB,sZ,sS])
     refine tkV (v:=?v39) 16 ?h39 ?r39 (hw:=by kernel_rfl);(case h39=>(intro w__ hSw;(try dsimp only at hSw);go_simp;try with_reducible rfl));(try simp only [Act.put,aT,aZ,aS,sB,sZ,sS])
     refine tkV (v:=?v40) 17 ?h40 ?r40 (hw:=by kernel_rfl);(case h40=>(intro w__ hSw;(try dsimp only at hSw);go_simp;try with_reducible rfl));(try simp only [Act.put,aT,aZ,aS,sB,sZ,sS])
     refine tkV (v:=?v41) 18 ?h41 ?r41 (hw:=by kernel_rfl);(case h41=>(intro w__ hSw;(try dsimp only at hSw);go_simp;try with_reducible rfl));(try simp only [Act.put,aT,aZ,aS,sB,sZ,sS])
     refine tkV (v:=?v42) 19 ?h42 ?r42 (hw:=by kernel_rfl);(case h42=>(intro w__ hSw;(try dsimp only at hSw);go_simp;try with_reducible rfl));(try simp only [Act.put,aT,aZ,aS,sB,sZ,sS])
     refine wpAnyH_ready (rs:=[20]) (by kernel_rfl) (by simp) ?_
     refine AllReadyH.cons rfl (fun K hK=>?_) AllReadyH.nil
     go_simp
     (go_at_call 16;(with_reducible refine (Hds.out _ (And.left (by assumption))).mono ?_);rintro e wE ⟨rfl,tE⟩)
     go_wp2_with fail
     refine hK.out _ _ ?hS43 (fun hHeld=>?rest43)
     case hS43=>((refine and_of ?_ (fun q_=>⟨q_.ce c0,q_.ce c1,q_.ce c2,q_.ce d2,q_.ce hcq⟩));first | exact Only.trans (And.left (by assumption)) (by assumption) | exact And.left (by assumption) | assumption)
     clear hK K
     (try simp only [Act.put,aT,aZ,aS,sB,sZ,sS])
     refine tkV (v:=?v44) 21 ?h44 ?r44 (hw:=by kernel_rfl);(case h44=>(intro w__ hSw;(try dsimp only at hSw);go_simp;try with_reducible rfl));(try simp only [Act.put,aT,aZ,aS,sB,sZ,sS])
     refine tkV (v:=?v45) 22 ?h45 ?r45 (hw:=by kernel_rfl);(case h45=>(intro w__ hSw;(try dsimp only at hSw);go_simp;try with_reducible rfl));(try simp only [Act.put,aT,aZ,aS,sB,sZ,sS])
     refine tkV (v:=?v46) 23 ?h46 ?r46 (hw:=by kernel_rfl);(case h46=>(intro w__ hSw;(try dsimp only at hSw);go_simp;try with_reducible rfl));(try simp only [Act.put,aT,aZ,aS,sB,sZ,sS])
     refine tkV (v:=?v47) 24 ?h47 ?r47 (hw:=by kernel_rfl);(case h47=>(intro w__ hSw;(try dsimp only at hSw);go_simp;try with_reducible rfl));(try simp only [Act.put,aT,aZ,aS,sB,sZ,sS])
     refine tkV (v:=?v48) 25 ?h48 ?r48 (hw:=by kernel_rfl);(case h48=>(intro w__ hSw;(try dsimp only at hSw);go_simp;try with_reducible rfl));(try simp only [Act.put,aT,aZ,aS,sB,sZ,sS])
     refine wpAnyH_done (by kernel_rfl) ?_ _
     go_wp2
     go_ret
     exact ⟨by kernel_rfl,kkZ.trans (by first | exact zO.drew | exact And.left (by assumption))⟩
end Go.Proofs.YthleokaeobdamaaGreat
