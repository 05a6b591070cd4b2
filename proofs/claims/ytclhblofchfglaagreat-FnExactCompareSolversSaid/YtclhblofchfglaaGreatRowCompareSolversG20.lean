/- The law on CompareSolvers: its walk. (Printed by gen_exact.py.) -/
import Derived.Test.YtclhblofchfglaaGreatRowCompareSolversG19
import Derived.Test.YtclhblofchfglaaGreatRowCompareSolversG16
import Derived.Deep.RegionHeld3
import Derived.Deep.DeepCutAuto
namespace Go.Proofs.YtclhblofchfglaaGreat
open Go.RowKit
set_option maxRecDepth 10000
set_option maxHeartbeats 4000000 in
theorem Zfi (w:World) (caP:List Value) (aP:Puzzle) (faP:List Nat) (raP:Rp.rep w caP aP faP) (vaSubset:Value) (aSubset:List Int) (faSubset:List Nat) (raSubset:Rd w vaSubset aSubset faSubset) (vaGoals:Value) (aGoals:List (List Int)) (faGoals:List Nat) (raGoals:Rd w vaGoals aGoals faGoals) (vaS:Value) (aS:List Int) (faS:List Nat) (raS:Rd w vaS aS faS) :
  Calls Tryz.prog 5 #[.agg caP.toArray,vaSubset,vaGoals,vaS] w fun e w'=>e = .returned (.bool true)/\Only [] w w':=by
 have qaP:=raP
 obtain ⟨uaP2,rfl,-,-,zaP2⟩:=qaP
 obtain ⟨AaP2,CaP2,_,_,rfl,-⟩:=zaP2.open_
 have LaP:=Rp.lt raP
 obtain ⟨AaSubset,CaSubset,_,_,rfl,-⟩:=raSubset.open_
 have LaSubset:=Rp.lt raSubset
 have hbaSubset:aSubset.length<=9223372036854775807:=by obtain ⟨_,_,_,_,hq,-,hs⟩:=raSubset.open_;have:=hs.bound;exact this
 obtain ⟨AaGoals,CaGoals,_,_,rfl,-⟩:=raGoals.open_
 have LaGoals:=Rp.lt raGoals
 have hbaGoals:aGoals.length<=9223372036854775807:=by obtain ⟨_,_,_,_,hq,-,hs⟩:=raGoals.open_;have:=hs.bound;exact this
 obtain ⟨AaS,CaS,_,_,rfl,-⟩:=raS.open_
 have LaS:=Rp.lt raS
 have hbaS:aS.length<=9223372036854775807:=by obtain ⟨_,_,_,_,hq,-,hs⟩:=raS.open_;have:=hs.bound;exact this
 by_cases lenaSubset:1048576 < aSubset.length
 ·go_enter Tryz.func5,Tryz.ntmps5
  go_wp2
  go_ret
  exact ⟨rfl,zA⟩
 have smaSubset:Sm.sm aSubset:=⟨by omega,fun _ _=>trivial⟩
 have csaSubset:Mk.cnt aSubset<=1048576:=by simp only [Mk.cnt,Zbp];omega
 by_cases lenaS:1048576 < aS.length
 ·go_enter Tryz.func5,Tryz.ntmps5
  go_wp2
  go_ret
  exact ⟨rfl,zA⟩
 have smaS:Sm.sm aS:=⟨by omega,fun _ _=>trivial⟩
 have csaS:Mk.cnt aS<=1048576:=by simp only [Mk.cnt,Zbp];omega
 rcases Zgh (1048576) aP with ⟨esaP,msaP⟩ | ⟨esaP,psaP,msaP⟩
 ·go_enter Tryz.func5,Tryz.ntmps5
  go_wp2_with (with_reducible refine (Zfm [.int .i64 aP.points,.string aP.names,.slice AaP2 aP.moves.length CaP2] aP _ (1048576) _ (zK raP ((Only.refl [] _).alloc (.cells #[.int .i64 aP.points,.string aP.names,.slice AaP2 aP.moves.length CaP2] 24))) (by omega) (by omega)).mono ?_;rintro e w1 ⟨rfl,t0⟩)
  go_ret
  exact ⟨rfl,zA⟩
 have smaP:Sm.sm aP:=SzSm.of_ _ (by omega)
 have csaP:Mk.cnt aP<=1048576:=Nat.le_trans (CntSz.le aP) (by omega)
 rcases Zgh (1048576 - (Sz.sz aP:Nat)) aGoals with ⟨esaGoals,msaGoals⟩ | ⟨esaGoals,psaGoals,msaGoals⟩
 ·go_enter Tryz.func5,Tryz.ntmps5
  go_wp2_with fail
  with_reducible refine (Zfm [.int .i64 aP.points,.string aP.names,.slice AaP2 aP.moves.length CaP2] aP _ (1048576) _ (zK raP ((Only.refl [] _).alloc (.cells #[.int .i64 aP.points,.string aP.names,.slice AaP2 aP.moves.length CaP2] 24))) (by omega) (by omega)).mono ?_
  rintro e w1 ⟨rfl,t0⟩
  rw [esaP]
  have T0:Only [] w w1:=((Only.refl [] _).alloc (.cells #[.int .i64 aP.points,.string aP.names,.slice AaP2 aP.moves.length CaP2] 24)).trans t0
  have S0:w.heap.size + 1<=w1.heap.size:=by have:=t0.size;simp at this;omega
  have BaP:Blk w1 w.heap.size [.int .i64 aP.points,.string aP.names,.slice AaP2 aP.moves.length CaP2]:=(Blk.keep (Blk.new_at (by simp)) t0)
  have LBaP:w.heap.size < w1.heap.size:=BaP.lt
  have HBaP:=zH BaP;clear BaP
  go_wp2_with (with_reducible refine (Zcq (.slice AaGoals aGoals.length CaGoals) aGoals _ (1048576 - (Sz.sz aP:Nat)) _ (zK raGoals T0) (by omega) (by omega)).mono ?_;rintro e w2 ⟨rfl,d1⟩)
  go_ret
  have t1:=d1.only []
  exact ⟨rfl,zA⟩
 have smaGoals:Sm.sm aGoals:=SzSm.of_ _ (by omega)
 have csaGoals:Mk.cnt aGoals<=1048576:=Nat.le_trans (CntSz.le aGoals) (by omega)
 have hcnt:Mk.cnt (cmpX aP aSubset aGoals aS)<=3:=by simp only [Mk.cnt,Zbp];exact Ztl aP aSubset aGoals aS
 go_enter Tryz.func5,Tryz.ntmps5
 go_wp2_with fail
 with_reducible refine (Zfm [.int .i64 aP.points,.string aP.names,.slice AaP2 aP.moves.length CaP2] aP _ (1048576) _ (zK raP ((Only.refl [] _).alloc (.cells #[.int .i64 aP.points,.string aP.names,.slice AaP2 aP.moves.length CaP2] 24))) (by omega) (by omega)).mono ?_
 rintro e w1 ⟨rfl,t0⟩
 rw [esaP]
 have T0:Only [] w w1:=((Only.refl [] _).alloc (.cells #[.int .i64 aP.points,.string aP.names,.slice AaP2 aP.moves.length CaP2] 24)).trans t0
 have S0:w.heap.size + 1<=w1.heap.size:=by have:=t0.size;simp at this;omega
 have BaP:Blk w1 w.heap.size [.int .i64 aP.points,.string aP.names,.slice AaP2 aP.moves.length CaP2]:=(Blk.keep (Blk.new_at (by simp)) t0)
 have LBaP:w.heap.size < w1.heap.size:=BaP.lt
 have HBaP:=zH BaP;clear BaP
 go_wp2_with fail
 with_reducible refine (Zcq (.slice AaGoals aGoals.length CaGoals) aGoals _ (1048576 - (Sz.sz aP:Nat)) _ (zK raGoals T0) (by omega) (by omega)).mono ?_
 rintro e w2 ⟨rfl,d1⟩
 have t1:=d1.only []
 rw [esaGoals]
 have T1:Only [] w1 w2:=t1
 have S1:w1.heap.size + 0<=w2.heap.size:=by have:=T1.size;omega
 have caP_2_0:=((Blk.keep HBaP.out T1)).cell 0 rfl
 have caP_2_1:=((Blk.keep HBaP.out T1)).cell 1 rfl
 have caP_2_2:=((Blk.keep HBaP.out T1)).cell 2 rfl
 go_wp2_with fail
 with_reducible refine (Zdv [.int .i64 aP.points,.string aP.names,.slice AaP2 aP.moves.length CaP2] aP _ _ (zK (zK raP T0) T1) smaP).mono ?_
 rintro e w3 ⟨u1,f1,rfl,r1,F1,t2⟩
 have T2:Only [] w2 w3:=t2
 have S2:w2.heap.size + 0<=w3.heap.size:=by have:=T2.size;omega
 clear caP_2_0 caP_2_1 caP_2_2
 have q1:=r1
 obtain ⟨u12,rfl,-,-,z12⟩:=q1
 obtain ⟨A12,C12,_,_,rfl,-⟩:=z12.open_
 have L1:=Rp.lt r1
 have G1:∀ b∈f1,w2.heap.size<=b:=fun b hb=>by have:=F1.ge b hb;omega
 go_wp2_with fail
 with_reducible refine (Zbn (.slice AaSubset aSubset.length CaSubset) aSubset _ _ (zK (zK (zK raSubset T0) T1) T2) smaSubset).mono ?_
 rintro e w4 ⟨v2,f2,rfl,r2,F2,t3⟩
 have T3:Only [] w3 w4:=t3
 have S3:w3.heap.size + 0<=w4.heap.size:=by have:=T3.size;omega
 have L2:=Rp.lt r2
 have G2:∀ b∈f2,w3.heap.size<=b:=fun b hb=>by have:=F2.ge b hb;omega
 go_wp2_with fail
 with_reducible refine (Zcm (.slice AaGoals aGoals.length CaGoals) aGoals _ _ (zK (zK (zK (zK raGoals T0) T1) T2) T3) smaGoals).mono ?_
 rintro e w5 ⟨v3,f3,rfl,r3,F3,t4⟩
 have T4:Only [] w4 w5:=t4
 have S4:w4.heap.size + 0<=w5.heap.size:=by have:=T4.size;omega
 have L3:=Rp.lt r3
 have G3:∀ b∈f3,w4.heap.size<=b:=fun b hb=>by have:=F3.ge b hb;omega
 go_wp2_with fail
 with_reducible refine (Zbn (.slice AaS aS.length CaS) aS _ _ (zK (zK (zK (zK (zK raS T0) T1) T2) T3) T4) smaS).mono ?_
 rintro e w6 ⟨v4,f4,rfl,r4,F4,t5⟩
 have T5:Only [] w5 w6:=t5
 have S5:w5.heap.size + 0<=w6.heap.size:=by have:=T5.size;omega
 have L4:=Rp.lt r4
 have G4:∀ b∈f4,w5.heap.size<=b:=fun b hb=>by have:=F4.ge b hb;omega
 go_wp2_with fail
 with_reducible refine (Zkl [.int .i64 aP.points,.string aP.names,.slice A12 aP.moves.length C12] aP _ v2 aSubset _ v3 aGoals _ v4 aS _ _ (zK (zK (zK r1 T3) T4) T5) (zK (zK r2 T4) T5) (zK r3 T5) r4).mono ?_
 rintro e w7 ⟨v5,f5,rfl,r5,F5,t6⟩
 have T6:Only [] w6 w7:=t6
 have S6:w6.heap.size + 0<=w7.heap.size:=by have:=T6.size;omega
 have L5:=Rp.lt r5
 have G5:∀ b∈f5,w6.heap.size<=b:=fun b hb=>by have:=F5.ge b hb;omega
 have caP_7_0:=((Blk.keep (Blk.keep (Blk.keep (Blk.keep (Blk.keep (Blk.keep HBaP.out T1) T2) T3) T4) T5) T6)).cell 0 rfl
 have caP_7_1:=((Blk.keep (Blk.keep (Blk.keep (Blk.keep (Blk.keep (Blk.keep HBaP.out T1) T2) T3) T4) T5) T6)).cell 1 rfl
 have caP_7_2:=((Blk.keep (Blk.keep (Blk.keep (Blk.keep (Blk.keep (Blk.keep HBaP.out T1) T2) T3) T4) T5) T6)).cell 2 rfl
 go_wp2_with fail
 with_reducible refine (Zdv [.int .i64 aP.points,.string aP.names,.slice AaP2 aP.moves.length CaP2] aP _ _ (zK (zK (zK (zK (zK (zK (zK raP T0) T1) T2) T3) T4) T5) T6) smaP).mono ?_
 rintro e w8 ⟨u6,f6,rfl,r6,F6,t7⟩
 have T7:Only [] w7 w8:=t7
 have S7:w7.heap.size + 0<=w8.heap.size:=by have:=T7.size;omega
 clear caP_7_0 caP_7_1 caP_7_2
 have q6:=r6
 obtain ⟨u62,rfl,-,-,z62⟩:=q6
 obtain ⟨A62,C62,_,_,rfl,-⟩:=z62.open_
 have L6:=Rp.lt r6
 have G6:∀ b∈f6,w7.heap.size<=b:=fun b hb=>by have:=F6.ge b hb;omega
 go_wp2_with fail
 with_reducible refine (Zbn (.slice AaSubset aSubset.length CaSubset) aSubset _ _ (zK (zK (zK (zK (zK (zK (zK (zK (zK raSubset T0) T1) T2) T3) T4) T5) T6) T7) ((Only.refl [] _).alloc (.cells #[.int .i64 aP.points,.string aP.names,.slice A62 aP.moves.length C62] 33))) smaSubset).mono ?_
 rintro e w9 ⟨v7,f7,rfl,r7,F7,t8⟩
 have T8:Only [] w8 w9:=((Only.refl [] _).alloc (.cells #[.int .i64 aP.points,.string aP.names,.slice A62 aP.moves.length C62] 33)).trans t8
 have S8:w8.heap.size + 1<=w9.heap.size:=by have:=t8.size;simp at this;omega
 have B6:Blk w9 w8.heap.size [.int .i64 aP.points,.string aP.names,.slice A62 aP.moves.length C62]:=(Blk.keep (Blk.new_at (by simp)) t8)
 have LB6:w8.heap.size < w9.heap.size:=B6.lt
 have HB6:=zH B6;clear B6
 have L7:=Rp.lt r7
 have G7:∀ b∈f7,w8.heap.size + 1<=b:=fun b hb=>by have:=F7.ge b hb;simp at this;omega
 go_wp2_with fail
 with_reducible refine (Zcm (.slice AaGoals aGoals.length CaGoals) aGoals _ _ (zK (zK (zK (zK (zK (zK (zK (zK (zK raGoals T0) T1) T2) T3) T4) T5) T6) T7) T8) smaGoals).mono ?_
 rintro e w10 ⟨v8,f8,rfl,r8,F8,t9⟩
 have T9:Only [] w9 w10:=t9
 have S9:w9.heap.size + 0<=w10.heap.size:=by have:=T9.size;omega
 have L8:=Rp.lt r8
 have G8:∀ b∈f8,w9.heap.size<=b:=fun b hb=>by have:=F8.ge b hb;omega
 go_wp2_with fail
 with_reducible refine (Zbn (.slice AaS aS.length CaS) aS _ _ (zK (zK (zK (zK (zK (zK (zK (zK (zK (zK raS T0) T1) T2) T3) T4) T5) T6) T7) T8) T9) smaS).mono ?_
 rintro e w11 ⟨v9,f9,rfl,r9,F9,t10⟩
 have T10:Only [] w10 w11:=t10
 have S10:w10.heap.size + 0<=w11.heap.size:=by have:=T10.size;omega
 have L9:=Rp.lt r9
 have G9:∀ b∈f9,w10.heap.size<=b:=fun b hb=>by have:=F9.ge b hb;omega
 have c6_11_0:=((Blk.keep (Blk.keep HB6.out T9) T10)).cell 0 rfl
 have c6_11_1:=((Blk.keep (Blk.keep HB6.out T9) T10)).cell 1 rfl
 have c6_11_2:=((Blk.keep (Blk.keep HB6.out T9) T10)).cell 2 rfl
 go_wp2_with fail
 with_reducible refine (Zgp [.int .i64 aP.points,.string aP.names,.slice A62 aP.moves.length C62] aP _ v7 aSubset _ v8 aGoals _ v9 aS _ _ (zK (zK (zK r6 T8) T9) T10) (zK (zK r7 T9) T10) (zK r8 T10) r9).mono ?_
 rintro e w12 ⟨v10,f10,rfl,r10,F10,t11⟩
 have T11:Only [] w11 w12:=t11
 have S11:w11.heap.size + 0<=w12.heap.size:=by have:=T11.size;omega
 clear c6_11_0 c6_11_1 c6_11_2
 have L10:=Rp.lt r10
 have G10:∀ b∈f10,w11.heap.size<=b:=fun b hb=>by have:=F10.ge b hb;omega
 have e12:eqV (cmpX aP aSubset aGoals aS) (cmpX aP aSubset aGoals aS) = true:=eqV_yes rfl
 go_wp2_with fail
 with_reducible refine (Zci v10 v5 (cmpX aP aSubset aGoals aS) (cmpX aP aSubset aGoals aS) _ _ _ r10 (zK (zK (zK (zK (zK r5 T7) T8) T9) T10) T11)).mono ?_
 rintro e w13 ⟨rfl,d12⟩
 have t12:=d12.only []
 have T12:Only [] w12 w13:=t12
 have S12:w12.heap.size + 0<=w13.heap.size:=by have:=T12.size;omega
 go_upto_region 20 with fail
 have e14:eqV aP aP = true:=eqV_yes rfl
 go_region_held3 (fun w'=>Only [] w13 w'/\w'.cell? ⟨w8.heap.size,0,none⟩ = some (.int .i64 aP.points)/\w'.cell? ⟨w8.heap.size,1,none⟩ = some (.string aP.names)/\w'.cell? ⟨w8.heap.size,2,none⟩ = some (.slice A62 aP.moves.length C62)/\w'.cell? ⟨w.heap.size,0,none⟩ = some (.int .i64 aP.points)/\w'.cell? ⟨w.heap.size,1,none⟩ = some (.string aP.names)/\w'.cell? ⟨w.heap.size,2,none⟩ = some (.slice AaP2 aP.moves.length CaP2)) ((refine and_of ?_ (fun q_=>⟨(Blk.keep (Blk.keep (Blk.keep (Blk.keep (Blk.keep HB6.out T9) T10) T11) T12) q_).cell 0 rfl,(Blk.keep (Blk.keep (Blk.keep (Blk.keep (Blk.keep HB6.out T9) T10) T11) T12) q_).cell 1 rfl,(Blk.keep (Blk.keep (Blk.keep (Blk.keep (Blk.keep HB6.out T9) T10) T11) T12) q_).cell 2 rfl,(Blk.keep (Blk.keep (Blk.keep (Blk.keep (Blk.keep (Blk.keep (Blk.keep (Blk.keep (Blk.keep (Blk.keep (Blk.keep (Blk.keep (Blk.keep HBaP.out T1) T2) T3) T4) T5) T6) T7) T8) T9) T10) T11) T12) q_).cell 0 rfl,(Blk.keep (Blk.keep (Blk.keep (Blk.keep (Blk.keep (Blk.keep (Blk.keep (Blk.keep (Blk.keep (Blk.keep (Blk.keep (Blk.keep (Blk.keep HBaP.out T1) T2) T3) T4) T5) T6) T7) T8) T9) T10) T11) T12) q_).cell 1 rfl,(Blk.keep (Blk.keep (Blk.keep (Blk.keep (Blk.keep (Blk.keep (Blk.keep (Blk.keep (Blk.keep (Blk.keep (Blk.keep (Blk.keep (Blk.keep HBaP.out T1) T2) T3) T4) T5) T6) T7) T8) T9) T10) T11) T12) q_).cell 2 rfl⟩);first | exact zO.drew | exact Only.trans (And.left (by assumption)) (by assumption))) (first
  | (go_at_call 10;(with_reducible refine (Zdv [.int .i64 aP.points,.string aP.names,.slice AaP2 aP.moves.length CaP2] aP _ _ (zK (zK (zK (zK (zK (zK (zK (zK (zK (zK (zK (zK (zK (zK raP T0) T1) T2) T3) T4) T5) T6) T7) T8) T9) T10) T11) T12) (And.left (by assumption))) smaP).mono ?_);rintro e w14 ⟨u11,f11,rfl,r11,F11,t13⟩)
  | (go_at_call 15;(with_reducible refine (Zpf [.int .i64 aP.points,.string aP.names,.slice A62 aP.moves.length C62] u11 aP aP _ _ _ (zK (zK (zK (zK (zK (zK r6 T8) T9) T10) T11) T12) (And.left (by assumption))) (zK r11 (by first | exact Only.refl _ _ | assumption | exact Only.trans (by assumption) (by assumption)))).mono ?_);rintro e w15 ⟨rfl,t14⟩)
  | fail)
 have T13:Only [] w13 w14:=(zO.drew).trans t13
 have S13:w13.heap.size + 0<=w14.heap.size:=by have:=T13.size;omega
 have L11:=Rp.lt r11
 have G11:∀ b∈f11,w13.heap.size<=b:=fun b hb=>by have:=F11.ge b hb;first | omega | (simp at this;omega)
 have T14:Only [] w14 w15:=t14
 have S14:w14.heap.size + 0<=w15.heap.size:=by have:=T14.size;omega
 go_wp2_with fail
 with_reducible refine (Zbn (.slice AaSubset aSubset.length CaSubset) aSubset _ _ (zK (zK (zK (zK (zK (zK (zK (zK (zK (zK (zK (zK (zK (zK (zK raSubset T0) T1) T2) T3) T4) T5) T6) T7) T8) T9) T10) T11) T12) T13) T14) smaSubset).mono ?_
 rintro e w16 ⟨v12,f12,rfl,r12,F12,t15⟩
 have T15:Only [] w15 w16:=t15
 have S15:w15.heap.size + 0<=w16.heap.size:=by have:=T15.size;omega
 have L12:=Rp.lt r12
 have G12:∀ b∈f12,w15.heap.size<=b:=fun b hb=>by have:=F12.ge b hb;omega
 have e16:eqV aSubset aSubset = true:=eqV_yes rfl
 go_wp2_with fail
 with_reducible refine (Zci v7 v12 aSubset aSubset _ _ _ (zK (zK (zK (zK (zK (zK (zK r7 T9) T10) T11) T12) T13) T14) T15) r12).mono ?_
 rintro e w17 ⟨rfl,d16⟩
 have t16:=d16.only []
 have T16:Only [] w16 w17:=t16
 have S16:w16.heap.size + 0<=w17.heap.size:=by have:=T16.size;omega
 go_wp2_with fail
 with_reducible refine (Zcm (.slice AaGoals aGoals.length CaGoals) aGoals _ _ (zK (zK (zK (zK (zK (zK (zK (zK (zK (zK (zK (zK (zK (zK (zK (zK (zK raGoals T0) T1) T2) T3) T4) T5) T6) T7) T8) T9) T10) T11) T12) T13) T14) T15) T16) smaGoals).mono ?_
 rintro e w18 ⟨v13,f13,rfl,r13,F13,t17⟩
 have T17:Only [] w17 w18:=t17
 have S17:w17.heap.size + 0<=w18.heap.size:=by have:=T17.size;omega
 have L13:=Rp.lt r13
 have G13:∀ b∈f13,w17.heap.size<=b:=fun b hb=>by have:=F13.ge b hb;omega
 have e18:eqV aGoals aGoals = true:=eqV_yes rfl
 go_wp2_with fail
 with_reducible refine (Zcr v8 v13 aGoals aGoals _ _ _ (zK (zK (zK (zK (zK (zK (zK (zK r8 T10) T11) T12) T13) T14) T15) T16) T17) r13).mono ?_
 rintro e w19 ⟨rfl,d18⟩
 have t18:=d18.only []
 have T18:Only [] w18 w19:=t18
 have S18:w18.heap.size + 0<=w19.heap.size:=by have:=T18.size;omega
 go_wp2_with fail
 with_reducible refine (Zbn (.slice AaS aS.length CaS) aS _ _ (zK (zK (zK (zK (zK (zK (zK (zK (zK (zK (zK (zK (zK (zK (zK (zK (zK (zK (zK raS T0) T1) T2) T3) T4) T5) T6) T7) T8) T9) T10) T11) T12) T13) T14) T15) T16) T17) T18) smaS).mono ?_
 rintro e w20 ⟨v14,f14,rfl,r14,F14,t19⟩
 have T19:Only [] w19 w20:=t19
 have S19:w19.heap.size + 0<=w20.heap.size:=by have:=T19.size;omega
 have L14:=Rp.lt r14
 have G14:∀ b∈f14,w19.heap.size<=b:=fun b hb=>by have:=F14.ge b hb;omega
 have e20:eqV aS aS = true:=eqV_yes rfl
 go_wp2_with fail
 with_reducible refine (Zci v9 v14 aS aS _ _ _ (zK (zK (zK (zK (zK (zK (zK (zK (zK r9 T11) T12) T13) T14) T15) T16) T17) T18) T19) r14).mono ?_
 rintro e w21 ⟨rfl,d20⟩
 have t20:=d20.only []
 have T20:Only [] w20 w21:=t20
 have S20:w20.heap.size + 0<=w21.heap.size:=by have:=T20.size;omega
 have c6_21_0:=((Blk.keep (Blk.keep (Blk.keep (Blk.keep (Blk.keep (Blk.keep (Blk.keep (Blk.keep (Blk.keep (Blk.keep (Blk.keep (Blk.keep HB6.out T9) T10) T11) T12) T13) T14) T15) T16) T17) T18) T19) T20)).cell 0 rfl
 have c6_21_1:=((Blk.keep (Blk.keep (Blk.keep (Blk.keep (Blk.keep (Blk.keep (Blk.keep (Blk.keep (Blk.keep (Blk.keep (Blk.keep (Blk.keep HB6.out T9) T10) T11) T12) T13) T14) T15) T16) T17) T18) T19) T20)).cell 1 rfl
 have c6_21_2:=((Blk.keep (Blk.keep (Blk.keep (Blk.keep (Blk.keep (Blk.keep (Blk.keep (Blk.keep (Blk.keep (Blk.keep (Blk.keep (Blk.keep HB6.out T9) T10) T11) T12) T13) T14) T15) T16) T17) T18) T19) T20)).cell 2 rfl
 have m21:(1:Int) + (Mk.cnt aP:Nat)<=4611686018427387904:=by omega
 go_wp2_with fail
 with_reducible refine (Zma [.int .i64 aP.points,.string aP.names,.slice A62 aP.moves.length C62] aP f6 (1) _ (zK (zK (zK (zK (zK (zK (zK (zK (zK (zK (zK (zK (zK r6 T8) T9) T10) T11) T12) T13) T14) T15) T16) T17) T18) T19) T20) F6.nd (Own.keep (Own.keep (Own.keep (Own.keep (Own.keep (Own.keep (Own.keep (Own.keep (Own.keep (Own.keep (Own.keep (Own.keep (Own.keep F6.own T8) T9) T10) T11) T12) T13) T14) T15) T16) T17) T18) T19) T20) (by omega) m21).mono ?_
 rintro e w22 ⟨rfl,rr21,oo21,t21⟩
 have T21:Only f6 w21 w22:=t21
 have S21:w21.heap.size + 0<=w22.heap.size:=by have:=T21.size;omega
 clear c6_21_0 c6_21_1 c6_21_2
 clear r6
 have r6:=rr21
 have O6:=oo21
 have m22:(1 + (Mk.cnt aP:Nat):Int) + (Mk.cnt aSubset:Nat)<=4611686018427387904:=by omega
 go_wp2_with fail
 with_reducible refine (Zcy v7 aSubset f7 (1 + (Mk.cnt aP:Nat)) _ (Rp.only (zK (zK (zK (zK (zK (zK (zK (zK (zK (zK (zK (zK r7 T9) T10) T11) T12) T13) T14) T15) T16) T17) T18) T19) T20) T21 (fun b hb hm=>by have:=G7 b hb;have:=L6 b hm;omega)) (Own.only (Own.keep (Own.keep (Own.keep (Own.keep (Own.keep (Own.keep (Own.keep (Own.keep (Own.keep (Own.keep (Own.keep (Own.keep F7.own T9) T10) T11) T12) T13) T14) T15) T16) T17) T18) T19) T20) T21 (fun b hb hm=>by have:=G7 b hb;have:=L6 b hm;omega)) (by omega) m22).mono ?_
 rintro e w23 ⟨rfl,rr22,oo22,t22⟩
 have T22:Only f7 w22 w23:=t22
 have S22:w22.heap.size + 0<=w23.heap.size:=by have:=T22.size;omega
 clear r7
 have r7:=rr22
 have O7:=oo22
 have m23:(1 + (Mk.cnt aP:Nat) + (Mk.cnt aSubset:Nat):Int) + (Mk.cnt aGoals:Nat)<=4611686018427387904:=by omega
 go_wp2_with fail
 with_reducible refine (Zgz v8 aGoals f8 (1 + (Mk.cnt aP:Nat) + (Mk.cnt aSubset:Nat)) _ (Rp.only (Rp.only (zK (zK (zK (zK (zK (zK (zK (zK (zK (zK (zK r8 T10) T11) T12) T13) T14) T15) T16) T17) T18) T19) T20) T21 (fun b hb hm=>by have:=G8 b hb;have:=L6 b hm;omega)) T22 (fun b hb hm=>by have:=G8 b hb;have:=L7 b hm;omega)) F8.nd (Own.only (Own.only (Own.keep (Own.keep (Own.keep (Own.keep (Own.keep (Own.keep (Own.keep (Own.keep (Own.keep (Own.keep (Own.keep F8.own T10) T11) T12) T13) T14) T15) T16) T17) T18) T19) T20) T21 (fun b hb hm=>by have:=G8 b hb;have:=L6 b hm;omega)) T22 (fun b hb hm=>by have:=G8 b hb;have:=L7 b hm;omega)) (by omega) m23).mono ?_
 rintro e w24 ⟨rfl,rr23,oo23,t23⟩
 have T23:Only f8 w23 w24:=t23
 have S23:w23.heap.size + 0<=w24.heap.size:=by have:=T23.size;omega
 clear r8
 have r8:=rr23
 have O8:=oo23
 have m24:(1 + (Mk.cnt aP:Nat) + (Mk.cnt aSubset:Nat) + (Mk.cnt aGoals:Nat):Int) + (Mk.cnt aS:Nat)<=4611686018427387904:=by omega
 go_wp2_with fail
 with_reducible refine (Zcy v9 aS f9 (1 + (Mk.cnt aP:Nat) + (Mk.cnt aSubset:Nat) + (Mk.cnt aGoals:Nat)) _ (Rp.only (Rp.only (Rp.only (zK (zK (zK (zK (zK (zK (zK (zK (zK (zK r9 T11) T12) T13) T14) T15) T16) T17) T18) T19) T20) T21 (fun b hb hm=>by have:=G9 b hb;have:=L6 b hm;omega)) T22 (fun b hb hm=>by have:=G9 b hb;have:=L7 b hm;omega)) T23 (fun b hb hm=>by have:=G9 b hb;have:=L8 b hm;omega)) (Own.only (Own.only (Own.only (Own.keep (Own.keep (Own.keep (Own.keep (Own.keep (Own.keep (Own.keep (Own.keep (Own.keep (Own.keep F9.own T11) T12) T13) T14) T15) T16) T17) T18) T19) T20) T21 (fun b hb hm=>by have:=G9 b hb;have:=L6 b hm;omega)) T22 (fun b hb hm=>by have:=G9 b hb;have:=L7 b hm;omega)) T23 (fun b hb hm=>by have:=G9 b hb;have:=L8 b hm;omega)) (by omega) m24).mono ?_
 rintro e w25 ⟨rfl,rr24,oo24,t24⟩
 have T24:Only f9 w24 w25:=t24
 have S24:w24.heap.size + 0<=w25.heap.size:=by have:=T24.size;omega
 clear r9
 have r9:=rr24
 have O9:=oo24
 have e25:eqV (cmpX aP aSubset aGoals aS) (cmpX aP aSubset aGoals aS) = true:=eqV_yes rfl
 go_wp2_with fail
 with_reducible refine (Zci v10 v5 (cmpX aP aSubset aGoals aS) (cmpX aP aSubset aGoals aS) _ _ _ (Rp.only (Rp.only (Rp.only (Rp.only (zK (zK (zK (zK (zK (zK (zK (zK (zK r10 T12) T13) T14) T15) T16) T17) T18) T19) T20) T21 (fun b hb hm=>by have:=G10 b hb;have:=L6 b hm;omega)) T22 (fun b hb hm=>by have:=G10 b hb;have:=L7 b hm;omega)) T23 (fun b hb hm=>by have:=G10 b hb;have:=L8 b hm;omega)) T24 (fun b hb hm=>by have:=G10 b hb;have:=L9 b hm;omega)) (Rp.only (Rp.only (Rp.only (Rp.only (zK (zK (zK (zK (zK (zK (zK (zK (zK (zK (zK (zK (zK (zK r5 T7) T8) T9) T10) T11) T12) T13) T14) T15) T16) T17) T18) T19) T20) T21 (fun b hb hm=>by have:=L5 b hb;have:=G6 b hm;omega)) T22 (fun b hb hm=>by have:=L5 b hb;have:=G7 b hm;omega)) T23 (fun b hb hm=>by have:=L5 b hb;have:=G8 b hm;omega)) T24 (fun b hb hm=>by have:=L5 b hb;have:=G9 b hm;omega))).mono ?_
 rintro e w26 ⟨rfl,d25⟩
 have t25:=d25.only []
 have T25:Only [] w25 w26:=t25
 have S25:w25.heap.size + 0<=w26.heap.size:=by have:=T25.size;omega
 have m26:(1:Int) + (Mk.cnt (cmpX aP aSubset aGoals aS):Nat)<=4611686018427387904:=by omega
 go_wp2_with fail
 with_reducible refine (Zcy v10 (cmpX aP aSubset aGoals aS) f10 (1) _ (zK (Rp.only (Rp.only (Rp.only (Rp.only (zK (zK (zK (zK (zK (zK (zK (zK (zK r10 T12) T13) T14) T15) T16) T17) T18) T19) T20) T21 (fun b hb hm=>by have:=G10 b hb;have:=L6 b hm;omega)) T22 (fun b hb hm=>by have:=G10 b hb;have:=L7 b hm;omega)) T23 (fun b hb hm=>by have:=G10 b hb;have:=L8 b hm;omega)) T24 (fun b hb hm=>by have:=G10 b hb;have:=L9 b hm;omega)) T25) (Own.keep (Own.only (Own.only (Own.only (Own.only (Own.keep (Own.keep (Own.keep (Own.keep (Own.keep (Own.keep (Own.keep (Own.keep (Own.keep F10.own T12) T13) T14) T15) T16) T17) T18) T19) T20) T21 (fun b hb hm=>by have:=G10 b hb;have:=L6 b hm;omega)) T22 (fun b hb hm=>by have:=G10 b hb;have:=L7 b hm;omega)) T23 (fun b hb hm=>by have:=G10 b hb;have:=L8 b hm;omega)) T24 (fun b hb hm=>by have:=G10 b hb;have:=L9 b hm;omega)) T25) (by omega) m26).mono ?_
 rintro e w27 ⟨rfl,rr26,oo26,t26⟩
 have T26:Only f10 w26 w27:=t26
 have S26:w26.heap.size + 0<=w27.heap.size:=by have:=T26.size;omega
 clear r10
 have r10:=rr26
 have O10:=oo26
 have h27:heldV (1) (Mk.mark (1) (cmpX aP aSubset aGoals aS)) = 1 + (Mk.cnt (cmpX aP aSubset aGoals aS):Nat):=Zle (1) (cmpX aP aSubset aGoals aS)
 have m27:(1:Int) + (Mk.cnt (Mk.mark (1) (cmpX aP aSubset aGoals aS)):Nat)<=4611686018427387904:=by rw [MkL.cnt];omega
 go_wp2_with fail
 with_reducible refine (Zhx v10 (Mk.mark (1) (cmpX aP aSubset aGoals aS)) _ (1) _ r10 (by omega) m27).mono ?_
 rintro e w28 ⟨rfl,d27⟩
 have t27:=d27.only []
 have T27:Only [] w27 w28:=t27
 have S27:w27.heap.size + 0<=w28.heap.size:=by have:=T27.size;omega
 have caP_28_0:=((Blk.keep (Blk.only (Blk.keep (Blk.only (Blk.only (Blk.only (Blk.only (Blk.keep (Blk.keep (Blk.keep (Blk.keep (Blk.keep (Blk.keep (Blk.keep (Blk.keep (Blk.keep (Blk.keep (Blk.keep (Blk.keep (Blk.keep (Blk.keep (Blk.keep (Blk.keep (Blk.keep (Blk.keep (Blk.keep (Blk.keep HBaP.out T1) T2) T3) T4) T5) T6) T7) T8) T9) T10) T11) T12) T13) T14) T15) T16) T17) T18) T19) T20) T21 (fun hm=>by have:=G6 _ hm;have:=LBaP;omega)) T22 (fun hm=>by have:=G7 _ hm;have:=LBaP;omega)) T23 (fun hm=>by have:=G8 _ hm;have:=LBaP;omega)) T24 (fun hm=>by have:=G9 _ hm;have:=LBaP;omega)) T25) T26 (fun hm=>by have:=G10 _ hm;have:=LBaP;omega)) T27)).cell 0 rfl
 have caP_28_1:=((Blk.keep (Blk.only (Blk.keep (Blk.only (Blk.only (Blk.only (Blk.only (Blk.keep (Blk.keep (Blk.keep (Blk.keep (Blk.keep (Blk.keep (Blk.keep (Blk.keep (Blk.keep (Blk.keep (Blk.keep (Blk.keep (Blk.keep (Blk.keep (Blk.keep (Blk.keep (Blk.keep (Blk.keep (Blk.keep (Blk.keep HBaP.out T1) T2) T3) T4) T5) T6) T7) T8) T9) T10) T11) T12) T13) T14) T15) T16) T17) T18) T19) T20) T21 (fun hm=>by have:=G6 _ hm;have:=LBaP;omega)) T22 (fun hm=>by have:=G7 _ hm;have:=LBaP;omega)) T23 (fun hm=>by have:=G8 _ hm;have:=LBaP;omega)) T24 (fun hm=>by have:=G9 _ hm;have:=LBaP;omega)) T25) T26 (fun hm=>by have:=G10 _ hm;have:=LBaP;omega)) T27)).cell 1 rfl
 have caP_28_2:=((Blk.keep (Blk.only (Blk.keep (Blk.only (Blk.only (Blk.only (Blk.only (Blk.keep (Blk.keep (Blk.keep (Blk.keep (Blk.keep (Blk.keep (Blk.keep (Blk.keep (Blk.keep (Blk.keep (Blk.keep (Blk.keep (Blk.keep (Blk.keep (Blk.keep (Blk.keep (Blk.keep (Blk.keep (Blk.keep (Blk.keep HBaP.out T1) T2) T3) T4) T5) T6) T7) T8) T9) T10) T11) T12) T13) T14) T15) T16) T17) T18) T19) T20) T21 (fun hm=>by have:=G6 _ hm;have:=LBaP;omega)) T22 (fun hm=>by have:=G7 _ hm;have:=LBaP;omega)) T23 (fun hm=>by have:=G8 _ hm;have:=LBaP;omega)) T24 (fun hm=>by have:=G9 _ hm;have:=LBaP;omega)) T25) T26 (fun hm=>by have:=G10 _ hm;have:=LBaP;omega)) T27)).cell 2 rfl
 go_wp2_with fail
 with_reducible refine (Zdv [.int .i64 aP.points,.string aP.names,.slice AaP2 aP.moves.length CaP2] aP _ _ (zK (Rp.only (zK (Rp.only (Rp.only (Rp.only (Rp.only (zK (zK (zK (zK (zK (zK (zK (zK (zK (zK (zK (zK (zK (zK (zK (zK (zK (zK (zK (zK (zK raP T0) T1) T2) T3) T4) T5) T6) T7) T8) T9) T10) T11) T12) T13) T14) T15) T16) T17) T18) T19) T20) T21 (fun b hb hm=>by have:=LaP b hb;have:=G6 b hm;omega)) T22 (fun b hb hm=>by have:=LaP b hb;have:=G7 b hm;omega)) T23 (fun b hb hm=>by have:=LaP b hb;have:=G8 b hm;omega)) T24 (fun b hb hm=>by have:=LaP b hb;have:=G9 b hm;omega)) T25) T26 (fun b hb hm=>by have:=LaP b hb;have:=G10 b hm;omega)) T27) smaP).mono ?_
 rintro e w29 ⟨u15,f15,rfl,r15,F15,t28⟩
 have T28:Only [] w28 w29:=t28
 have S28:w28.heap.size + 0<=w29.heap.size:=by have:=T28.size;omega
 clear caP_28_0 caP_28_1 caP_28_2
 have q15:=r15
 obtain ⟨u152,rfl,-,-,z152⟩:=q15
 obtain ⟨A152,C152,_,_,rfl,-⟩:=z152.open_
 have L15:=Rp.lt r15
 have G15:∀ b∈f15,w28.heap.size<=b:=fun b hb=>by have:=F15.ge b hb;omega
 go_wp2_with fail
 with_reducible refine (Zbn (.slice AaSubset aSubset.length CaSubset) aSubset _ _ (zK (zK (Rp.only (zK (Rp.only (Rp.only (Rp.only (Rp.only (zK (zK (zK (zK (zK (zK (zK (zK (zK (zK (zK (zK (zK (zK (zK (zK (zK (zK (zK (zK (zK raSubset T0) T1) T2) T3) T4) T5) T6) T7) T8) T9) T10) T11) T12) T13) T14) T15) T16) T17) T18) T19) T20) T21 (fun b hb hm=>by have:=LaSubset b hb;have:=G6 b hm;omega)) T22 (fun b hb hm=>by have:=LaSubset b hb;have:=G7 b hm;omega)) T23 (fun b hb hm=>by have:=LaSubset b hb;have:=G8 b hm;omega)) T24 (fun b hb hm=>by have:=LaSubset b hb;have:=G9 b hm;omega)) T25) T26 (fun b hb hm=>by have:=LaSubset b hb;have:=G10 b hm;omega)) T27) T28) smaSubset).mono ?_
 rintro e w30 ⟨v16,f16,rfl,r16,F16,t29⟩
 have T29:Only [] w29 w30:=t29
 have S29:w29.heap.size + 0<=w30.heap.size:=by have:=T29.size;omega
 have L16:=Rp.lt r16
 have G16:∀ b∈f16,w29.heap.size<=b:=fun b hb=>by have:=F16.ge b hb;omega
 go_wp2_with fail
 with_reducible refine (Zcm (.slice AaGoals aGoals.length CaGoals) aGoals _ _ (zK (zK (zK (Rp.only (zK (Rp.only (Rp.only (Rp.only (Rp.only (zK (zK (zK (zK (zK (zK (zK (zK (zK (zK (zK (zK (zK (zK (zK (zK (zK (zK (zK (zK (zK raGoals T0) T1) T2) T3) T4) T5) T6) T7) T8) T9) T10) T11) T12) T13) T14) T15) T16) T17) T18) T19) T20) T21 (fun b hb hm=>by have:=LaGoals b hb;have:=G6 b hm;omega)) T22 (fun b hb hm=>by have:=LaGoals b hb;have:=G7 b hm;omega)) T23 (fun b hb hm=>by have:=LaGoals b hb;have:=G8 b hm;omega)) T24 (fun b hb hm=>by have:=LaGoals b hb;have:=G9 b hm;omega)) T25) T26 (fun b hb hm=>by have:=LaGoals b hb;have:=G10 b hm;omega)) T27) T28) T29) smaGoals).mono ?_
 rintro e w31 ⟨v17,f17,rfl,r17,F17,t30⟩
 have T30:Only [] w30 w31:=t30
 have S30:w30.heap.size + 0<=w31.heap.size:=by have:=T30.size;omega
 have L17:=Rp.lt r17
 have G17:∀ b∈f17,w30.heap.size<=b:=fun b hb=>by have:=F17.ge b hb;omega
 go_wp2_with fail
 with_reducible refine (Zbn (.slice AaS aS.length CaS) aS _ _ (zK (zK (zK (zK (Rp.only (zK (Rp.only (Rp.only (Rp.only (Rp.only (zK (zK (zK (zK (zK (zK (zK (zK (zK (zK (zK (zK (zK (zK (zK (zK (zK (zK (zK (zK (zK raS T0) T1) T2) T3) T4) T5) T6) T7) T8) T9) T10) T11) T12) T13) T14) T15) T16) T17) T18) T19) T20) T21 (fun b hb hm=>by have:=LaS b hb;have:=G6 b hm;omega)) T22 (fun b hb hm=>by have:=LaS b hb;have:=G7 b hm;omega)) T23 (fun b hb hm=>by have:=LaS b hb;have:=G8 b hm;omega)) T24 (fun b hb hm=>by have:=LaS b hb;have:=G9 b hm;omega)) T25) T26 (fun b hb hm=>by have:=LaS b hb;have:=G10 b hm;omega)) T27) T28) T29) T30) smaS).mono ?_
 rintro e w32 ⟨v18,f18,rfl,r18,F18,t31⟩
 have T31:Only [] w31 w32:=t31
 have S31:w31.heap.size + 0<=w32.heap.size:=by have:=T31.size;omega
 have L18:=Rp.lt r18
 have G18:∀ b∈f18,w31.heap.size<=b:=fun b hb=>by have:=F18.ge b hb;omega
 go_wp2_with fail
 with_reducible refine (Zgp [.int .i64 aP.points,.string aP.names,.slice A152 aP.moves.length C152] aP _ v16 aSubset _ v17 aGoals _ v18 aS _ _ (zK (zK (zK r15 T29) T30) T31) (zK (zK r16 T30) T31) (zK r17 T31) r18).mono ?_
 rintro e w33 ⟨v19,f19,rfl,r19,F19,t32⟩
 have T32:Only [] w32 w33:=t32
 have S32:w32.heap.size + 0<=w33.heap.size:=by have:=T32.size;omega
 have L19:=Rp.lt r19
 have G19:∀ b∈f19,w32.heap.size<=b:=fun b hb=>by have:=F19.ge b hb;omega
 have e33:eqV (cmpX aP aSubset aGoals aS) (cmpX aP aSubset aGoals aS) = true:=eqV_yes rfl
 go_wp2_with fail
 with_reducible refine (Zci v19 v5 (cmpX aP aSubset aGoals aS) (cmpX aP aSubset aGoals aS) _ _ _ r19 (zK (zK (zK (zK (zK (zK (Rp.only (zK (Rp.only (Rp.only (Rp.only (Rp.only (zK (zK (zK (zK (zK (zK (zK (zK (zK (zK (zK (zK (zK (zK r5 T7) T8) T9) T10) T11) T12) T13) T14) T15) T16) T17) T18) T19) T20) T21 (fun b hb hm=>by have:=L5 b hb;have:=G6 b hm;omega)) T22 (fun b hb hm=>by have:=L5 b hb;have:=G7 b hm;omega)) T23 (fun b hb hm=>by have:=L5 b hb;have:=G8 b hm;omega)) T24 (fun b hb hm=>by have:=L5 b hb;have:=G9 b hm;omega)) T25) T26 (fun b hb hm=>by have:=L5 b hb;have:=G10 b hm;omega)) T27) T28) T29) T30) T31) T32)).mono ?_
 rintro e w34 ⟨rfl,d33⟩
 have t33:=d33.only []
 have T33:Only [] w33 w34:=t33
 have S33:w33.heap.size + 0<=w34.heap.size:=by have:=T33.size;omega
 have h34:heldV (1) (Mk.mark (1) (cmpX aP aSubset aGoals aS)) = 1 + (Mk.cnt (cmpX aP aSubset aGoals aS):Nat):=Zle (1) (cmpX aP aSubset aGoals aS)
 have m34:(1:Int) + (Mk.cnt (Mk.mark (1) (cmpX aP aSubset aGoals aS)):Nat)<=4611686018427387904:=by rw [MkL.cnt];omega
 go_wp2_with fail
 with_reducible refine (Zhx v10 (Mk.mark (1) (cmpX aP aSubset aGoals aS)) _ (1) _ (zK (zK (zK (zK (zK (zK (zK r10 T27) T28) T29) T30) T31) T32) T33) (by omega) m34).mono ?_
 rintro e w35 ⟨rfl,d34⟩
 have t34:=d34.only []
 have T34:Only [] w34 w35:=t34
 have S34:w34.heap.size + 0<=w35.heap.size:=by have:=T34.size;omega
 go_wp2
 go_ret
 refine ⟨rfl,?_⟩
 exact (Only.keepThen (Only.keepThen (Only.keepThen (Only.keepThen (Only.keepThen (Only.keepThen (Only.keepThen (Only.keepThen (Only.then_ (Only.keepThen (Only.then_ (Only.then_ (Only.then_ (Only.then_ (Only.keepThen (Only.keepThen (Only.keepThen (Only.keepThen (Only.keepThen (Only.keepThen (Only.keepThen (Only.keepThen (Only.keepThen (Only.keepThen (Only.keepThen (Only.keepThen (Only.keepThen (Only.keepThen (Only.keepThen (Only.keepThen (Only.keepThen (Only.keepThen (Only.keepThen (Only.keepThen T0 T1) T2) T3) T4) T5) T6) T7) T8) T9) T10) T11) T12) T13) T14) T15) T16) T17) T18) T19) T20) T21 (fun b hb hl=>by have:=G6 b hb;omega)) T22 (fun b hb hl=>by have:=G7 b hb;omega)) T23 (fun b hb hl=>by have:=G8 b hb;omega)) T24 (fun b hb hl=>by have:=G9 b hb;omega)) T25) T26 (fun b hb hl=>by have:=G10 b hb;omega)) T27) T28) T29) T30) T31) T32) T33) T34)
end Go.Proofs.YtclhblofchfglaaGreat
