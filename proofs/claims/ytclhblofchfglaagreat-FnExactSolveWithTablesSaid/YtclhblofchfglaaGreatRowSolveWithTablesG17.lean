/- The law on SolveWithTables: its walk. (Printed by gen_exact.py.) -/
import Derived.Test.YtclhblofchfglaaGreatRowSolveWithTablesG16
import Derived.Test.YtclhblofchfglaaGreatRowSolveWithTablesG15
import Derived.Deep.RegionHeld3
import Derived.Deep.DeepCutAuto
namespace Go.Proofs.YtclhblofchfglaaGreat
open Go.RowKit
set_option maxRecDepth 10000
set_option maxHeartbeats 4000000 in
theorem Zei (w:World) (caP:List Value) (aP:Puzzle) (faP:List Nat) (raP:Rp.rep w caP aP faP) (vaTrackedSets:Value) (aTrackedSets:List (List Int)) (faTrackedSets:List Nat) (raTrackedSets:Rd w vaTrackedSets aTrackedSets faTrackedSets) (vaS:Value) (aS:List Int) (faS:List Nat) (raS:Rd w vaS aS faS) (aMaxDepth:Int) (iaMaxDepth:I64 aMaxDepth) :
  Calls Tryz.prog 6 #[.agg caP.toArray,vaTrackedSets,vaS,.int .i64 aMaxDepth] w fun e w'=>e = .returned (.bool true)/\Only [] w w':=by
 have qaP:=raP
 obtain ⟨uaP2,rfl,-,-,zaP2⟩:=qaP
 obtain ⟨AaP2,CaP2,_,_,rfl,-⟩:=zaP2.open_
 have LaP:=Rp.lt raP
 obtain ⟨AaTrackedSets,CaTrackedSets,_,_,rfl,-⟩:=raTrackedSets.open_
 have LaTrackedSets:=Rp.lt raTrackedSets
 have hbaTrackedSets:aTrackedSets.length<=9223372036854775807:=by obtain ⟨_,_,_,_,hq,-,hs⟩:=raTrackedSets.open_;have:=hs.bound;exact this
 obtain ⟨AaS,CaS,_,_,rfl,-⟩:=raS.open_
 have LaS:=Rp.lt raS
 have hbaS:aS.length<=9223372036854775807:=by obtain ⟨_,_,_,_,hq,-,hs⟩:=raS.open_;have:=hs.bound;exact this
 have ibaMaxDepth:=iaMaxDepth;unfold I64 at ibaMaxDepth;obtain ⟨ilaMaxDepth,ihaMaxDepth⟩:=ibaMaxDepth
 by_cases lenaS:1048576 < aS.length
 ·go_enter Tryz.func6,Tryz.ntmps6
  go_wp2
  go_ret
  exact ⟨rfl,zA⟩
 have smaS:Sm.sm aS:=⟨by omega,fun _ _=>trivial⟩
 have csaS:Mk.cnt aS<=1048576:=by simp only [Mk.cnt,Zav];omega
 rcases Zfj (1048576) aP with ⟨esaP,msaP⟩ | ⟨esaP,psaP,msaP⟩
 ·go_enter Tryz.func6,Tryz.ntmps6
  go_wp2_with (with_reducible refine (Zey [.int .i64 aP.points,.string aP.names,.slice AaP2 aP.moves.length CaP2] aP _ (1048576) _ (zK raP ((Only.refl [] _).alloc (.cells #[.int .i64 aP.points,.string aP.names,.slice AaP2 aP.moves.length CaP2] 24))) (by omega) (by omega)).mono ?_;rintro e w1 ⟨rfl,t0⟩)
  go_ret
  exact ⟨rfl,zA⟩
 have smaP:Sm.sm aP:=SzSm.of_ _ (by omega)
 have csaP:Mk.cnt aP<=1048576:=Nat.le_trans (CntSz.le aP) (by omega)
 rcases Zfj (1048576 - (Sz.sz aP:Nat)) aTrackedSets with ⟨esaTrackedSets,msaTrackedSets⟩ | ⟨esaTrackedSets,psaTrackedSets,msaTrackedSets⟩
 ·go_enter Tryz.func6,Tryz.ntmps6
  go_wp2_with fail
  with_reducible refine (Zey [.int .i64 aP.points,.string aP.names,.slice AaP2 aP.moves.length CaP2] aP _ (1048576) _ (zK raP ((Only.refl [] _).alloc (.cells #[.int .i64 aP.points,.string aP.names,.slice AaP2 aP.moves.length CaP2] 24))) (by omega) (by omega)).mono ?_
  rintro e w1 ⟨rfl,t0⟩
  rw [esaP]
  have T0:Only [] w w1:=((Only.refl [] _).alloc (.cells #[.int .i64 aP.points,.string aP.names,.slice AaP2 aP.moves.length CaP2] 24)).trans t0
  have S0:w.heap.size + 1<=w1.heap.size:=by have:=t0.size;simp at this;omega
  have BaP:Blk w1 w.heap.size [.int .i64 aP.points,.string aP.names,.slice AaP2 aP.moves.length CaP2]:=(Blk.keep (Blk.new_at (by simp)) t0)
  have LBaP:w.heap.size < w1.heap.size:=BaP.lt
  have HBaP:=zH BaP;clear BaP
  go_wp2_with (with_reducible refine (Zca (.slice AaTrackedSets aTrackedSets.length CaTrackedSets) aTrackedSets _ (1048576 - (Sz.sz aP:Nat)) _ (zK raTrackedSets T0) (by omega) (by omega)).mono ?_;rintro e w2 ⟨rfl,d1⟩)
  go_ret
  have t1:=d1.only []
  exact ⟨rfl,zA⟩
 have smaTrackedSets:Sm.sm aTrackedSets:=SzSm.of_ _ (by omega)
 have csaTrackedSets:Mk.cnt aTrackedSets<=1048576:=Nat.le_trans (CntSz.le aTrackedSets) (by omega)
 have hcnt:=Zpo aP aTrackedSets aS aMaxDepth
 go_enter Tryz.func6,Tryz.ntmps6
 go_wp2_with fail
 with_reducible refine (Zey [.int .i64 aP.points,.string aP.names,.slice AaP2 aP.moves.length CaP2] aP _ (1048576) _ (zK raP ((Only.refl [] _).alloc (.cells #[.int .i64 aP.points,.string aP.names,.slice AaP2 aP.moves.length CaP2] 24))) (by omega) (by omega)).mono ?_
 rintro e w1 ⟨rfl,t0⟩
 rw [esaP]
 have T0:Only [] w w1:=((Only.refl [] _).alloc (.cells #[.int .i64 aP.points,.string aP.names,.slice AaP2 aP.moves.length CaP2] 24)).trans t0
 have S0:w.heap.size + 1<=w1.heap.size:=by have:=t0.size;simp at this;omega
 have BaP:Blk w1 w.heap.size [.int .i64 aP.points,.string aP.names,.slice AaP2 aP.moves.length CaP2]:=(Blk.keep (Blk.new_at (by simp)) t0)
 have LBaP:w.heap.size < w1.heap.size:=BaP.lt
 have HBaP:=zH BaP;clear BaP
 go_wp2_with fail
 with_reducible refine (Zca (.slice AaTrackedSets aTrackedSets.length CaTrackedSets) aTrackedSets _ (1048576 - (Sz.sz aP:Nat)) _ (zK raTrackedSets T0) (by omega) (by omega)).mono ?_
 rintro e w2 ⟨rfl,d1⟩
 have t1:=d1.only []
 rw [esaTrackedSets]
 have T1:Only [] w1 w2:=t1
 have S1:w1.heap.size + 0<=w2.heap.size:=by have:=T1.size;omega
 have caP_2_0:=((Blk.keep HBaP.out T1)).cell 0 rfl
 have caP_2_1:=((Blk.keep HBaP.out T1)).cell 1 rfl
 have caP_2_2:=((Blk.keep HBaP.out T1)).cell 2 rfl
 go_wp2_with fail
 with_reducible refine (Zdj [.int .i64 aP.points,.string aP.names,.slice AaP2 aP.moves.length CaP2] aP _ _ (zK (zK raP T0) T1) smaP).mono ?_
 rintro e w3 ⟨u1,f1,rfl,r1,F1,t2⟩
 have T2:Only [] w2 w3:=t2
 have S2:w2.heap.size + 0<=w3.heap.size:=by have:=T2.size;omega
 clear caP_2_0 caP_2_1 caP_2_2
 have q1:=r1
 obtain ⟨u12,rfl,-,-,z12⟩:=q1
 obtain ⟨A12,C12,_,_,rfl,-⟩:=z12.open_
 have L1:=Rp.lt r1
 have G1:∀ b∈f1,w2.heap.size<=b:=fun b hb=>by have:=F1.ge b hb;omega
 go_wp2_with fail
 with_reducible refine (Zcc (.slice AaTrackedSets aTrackedSets.length CaTrackedSets) aTrackedSets _ _ (zK (zK (zK raTrackedSets T0) T1) T2) smaTrackedSets).mono ?_
 rintro e w4 ⟨v2,f2,rfl,r2,F2,t3⟩
 have T3:Only [] w3 w4:=t3
 have S3:w3.heap.size + 0<=w4.heap.size:=by have:=T3.size;omega
 have L2:=Rp.lt r2
 have G2:∀ b∈f2,w3.heap.size<=b:=fun b hb=>by have:=F2.ge b hb;omega
 go_wp2_with fail
 with_reducible refine (Zdw (.slice AaS aS.length CaS) aS _ _ (zK (zK (zK (zK raS T0) T1) T2) T3) smaS).mono ?_
 rintro e w5 ⟨v3,f3,rfl,r3,F3,t4⟩
 have T4:Only [] w4 w5:=t4
 have S4:w4.heap.size + 0<=w5.heap.size:=by have:=T4.size;omega
 have L3:=Rp.lt r3
 have G3:∀ b∈f3,w4.heap.size<=b:=fun b hb=>by have:=F3.ge b hb;omega
 go_wp2_with fail
 with_reducible refine (Zpv [.int .i64 aP.points,.string aP.names,.slice A12 aP.moves.length C12] aP _ v2 aTrackedSets _ v3 aS _ aMaxDepth _ (zK (zK r1 T3) T4) (zK r2 T4) r3 (sm_rows smaTrackedSets)).mono ?_
 rintro e w6 ⟨u4,f4,rfl,r4,F4,t5⟩
 have T5:Only [] w5 w6:=t5
 have S5:w5.heap.size + 0<=w6.heap.size:=by have:=T5.size;omega
 have q4:=r4
 obtain ⟨u41,u42,u43,_,_,_,rfl,-,-,z41,z42,z43⟩:=q4
 obtain ⟨A41,C41,_,_,rfl,-⟩:=z41.open_
 obtain ⟨A42,C42,_,_,rfl,-⟩:=z42.open_
 obtain ⟨A43,C43,_,_,rfl,-⟩:=z43.open_
 have L4:=Rp.lt r4
 have G4:∀ b∈f4,w5.heap.size<=b:=fun b hb=>by have:=F4.ge b hb;omega
 have caP_6_0:=((Only.refl [] _).alloc (.cells #[.int .i64 (swCert aP aTrackedSets aS aMaxDepth).kind,.slice A41 (swCert aP aTrackedSets aS aMaxDepth).numbers.length C41,.slice A42 (swCert aP aTrackedSets aS aMaxDepth).words.length C42,.slice A43 (swCert aP aTrackedSets aS aMaxDepth).tables.length C43] 30)).cell (by simp) (((Blk.keep (Blk.keep (Blk.keep (Blk.keep (Blk.keep HBaP.out T1) T2) T3) T4) T5)).cell 0 rfl)
 have caP_6_1:=((Only.refl [] _).alloc (.cells #[.int .i64 (swCert aP aTrackedSets aS aMaxDepth).kind,.slice A41 (swCert aP aTrackedSets aS aMaxDepth).numbers.length C41,.slice A42 (swCert aP aTrackedSets aS aMaxDepth).words.length C42,.slice A43 (swCert aP aTrackedSets aS aMaxDepth).tables.length C43] 30)).cell (by simp) (((Blk.keep (Blk.keep (Blk.keep (Blk.keep (Blk.keep HBaP.out T1) T2) T3) T4) T5)).cell 1 rfl)
 have caP_6_2:=((Only.refl [] _).alloc (.cells #[.int .i64 (swCert aP aTrackedSets aS aMaxDepth).kind,.slice A41 (swCert aP aTrackedSets aS aMaxDepth).numbers.length C41,.slice A42 (swCert aP aTrackedSets aS aMaxDepth).words.length C42,.slice A43 (swCert aP aTrackedSets aS aMaxDepth).tables.length C43] 30)).cell (by simp) (((Blk.keep (Blk.keep (Blk.keep (Blk.keep (Blk.keep HBaP.out T1) T2) T3) T4) T5)).cell 2 rfl)
 go_wp2_with fail
 with_reducible refine (Zdj [.int .i64 aP.points,.string aP.names,.slice AaP2 aP.moves.length CaP2] aP _ _ (zK (zK (zK (zK (zK (zK (zK raP T0) T1) T2) T3) T4) T5) ((Only.refl [] _).alloc (.cells #[.int .i64 (swCert aP aTrackedSets aS aMaxDepth).kind,.slice A41 (swCert aP aTrackedSets aS aMaxDepth).numbers.length C41,.slice A42 (swCert aP aTrackedSets aS aMaxDepth).words.length C42,.slice A43 (swCert aP aTrackedSets aS aMaxDepth).tables.length C43] 30))) smaP).mono ?_
 rintro e w7 ⟨u5,f5,rfl,r5,F5,t6⟩
 have T6:Only [] w6 w7:=((Only.refl [] _).alloc (.cells #[.int .i64 (swCert aP aTrackedSets aS aMaxDepth).kind,.slice A41 (swCert aP aTrackedSets aS aMaxDepth).numbers.length C41,.slice A42 (swCert aP aTrackedSets aS aMaxDepth).words.length C42,.slice A43 (swCert aP aTrackedSets aS aMaxDepth).tables.length C43] 30)).trans t6
 have S6:w6.heap.size + 1<=w7.heap.size:=by have:=t6.size;simp at this;omega
 have B4:Blk w7 w6.heap.size [.int .i64 (swCert aP aTrackedSets aS aMaxDepth).kind,.slice A41 (swCert aP aTrackedSets aS aMaxDepth).numbers.length C41,.slice A42 (swCert aP aTrackedSets aS aMaxDepth).words.length C42,.slice A43 (swCert aP aTrackedSets aS aMaxDepth).tables.length C43]:=(Blk.keep (Blk.new_at (by simp)) t6)
 have LB4:w6.heap.size < w7.heap.size:=B4.lt
 have HB4:=zH B4;clear B4
 clear caP_6_0 caP_6_1 caP_6_2
 have q5:=r5
 obtain ⟨u52,rfl,-,-,z52⟩:=q5
 obtain ⟨A52,C52,_,_,rfl,-⟩:=z52.open_
 have L5:=Rp.lt r5
 have G5:∀ b∈f5,w6.heap.size + 1<=b:=fun b hb=>by have:=F5.ge b hb;simp at this;omega
 go_wp2_with fail
 with_reducible refine (Zcc (.slice AaTrackedSets aTrackedSets.length CaTrackedSets) aTrackedSets _ _ (zK (zK (zK (zK (zK (zK (zK (zK raTrackedSets T0) T1) T2) T3) T4) T5) T6) ((Only.refl [] _).alloc (.cells #[.int .i64 aP.points,.string aP.names,.slice A52 aP.moves.length C52] 33))) smaTrackedSets).mono ?_
 rintro e w8 ⟨v6,f6,rfl,r6,F6,t7⟩
 have T7:Only [] w7 w8:=((Only.refl [] _).alloc (.cells #[.int .i64 aP.points,.string aP.names,.slice A52 aP.moves.length C52] 33)).trans t7
 have S7:w7.heap.size + 1<=w8.heap.size:=by have:=t7.size;simp at this;omega
 have B5:Blk w8 w7.heap.size [.int .i64 aP.points,.string aP.names,.slice A52 aP.moves.length C52]:=(Blk.keep (Blk.new_at (by simp)) t7)
 have LB5:w7.heap.size < w8.heap.size:=B5.lt
 have HB5:=zH B5;clear B5
 have L6:=Rp.lt r6
 have G6:∀ b∈f6,w7.heap.size + 1<=b:=fun b hb=>by have:=F6.ge b hb;simp at this;omega
 go_wp2_with fail
 with_reducible refine (Zdw (.slice AaS aS.length CaS) aS _ _ (zK (zK (zK (zK (zK (zK (zK (zK raS T0) T1) T2) T3) T4) T5) T6) T7) smaS).mono ?_
 rintro e w9 ⟨v7,f7,rfl,r7,F7,t8⟩
 have T8:Only [] w8 w9:=t8
 have S8:w8.heap.size + 0<=w9.heap.size:=by have:=T8.size;omega
 have L7:=Rp.lt r7
 have G7:∀ b∈f7,w8.heap.size<=b:=fun b hb=>by have:=F7.ge b hb;omega
 have c5_9_0:=((Blk.keep HB5.out T8)).cell 0 rfl
 have c5_9_1:=((Blk.keep HB5.out T8)).cell 1 rfl
 have c5_9_2:=((Blk.keep HB5.out T8)).cell 2 rfl
 go_wp2_with fail
 with_reducible refine (Zjy [.int .i64 aP.points,.string aP.names,.slice A52 aP.moves.length C52] aP _ v6 aTrackedSets _ v7 aS _ aMaxDepth _ (zK (zK r5 T7) T8) (zK r6 T8) r7 (sm_rows smaTrackedSets)).mono ?_
 rintro e w10 ⟨u8,f8,rfl,r8,F8,t9⟩
 have T9:Only [] w9 w10:=t9
 have S9:w9.heap.size + 0<=w10.heap.size:=by have:=T9.size;omega
 clear c5_9_0 c5_9_1 c5_9_2
 have q8:=r8
 obtain ⟨u81,u82,u83,_,_,_,rfl,-,-,z81,z82,z83⟩:=q8
 obtain ⟨A81,C81,_,_,rfl,-⟩:=z81.open_
 obtain ⟨A82,C82,_,_,rfl,-⟩:=z82.open_
 obtain ⟨A83,C83,_,_,rfl,-⟩:=z83.open_
 have L8:=Rp.lt r8
 have G8:∀ b∈f8,w9.heap.size<=b:=fun b hb=>by have:=F8.ge b hb;omega
 have c4_10_0:=((Only.refl [] _).alloc (.cells #[.int .i64 (swCert aP aTrackedSets aS aMaxDepth).kind,.slice A81 (swCert aP aTrackedSets aS aMaxDepth).numbers.length C81,.slice A82 (swCert aP aTrackedSets aS aMaxDepth).words.length C82,.slice A83 (swCert aP aTrackedSets aS aMaxDepth).tables.length C83] 30)).cell (by simp) (((Blk.keep (Blk.keep (Blk.keep HB4.out T7) T8) T9)).cell 0 rfl)
 have c4_10_1:=((Only.refl [] _).alloc (.cells #[.int .i64 (swCert aP aTrackedSets aS aMaxDepth).kind,.slice A81 (swCert aP aTrackedSets aS aMaxDepth).numbers.length C81,.slice A82 (swCert aP aTrackedSets aS aMaxDepth).words.length C82,.slice A83 (swCert aP aTrackedSets aS aMaxDepth).tables.length C83] 30)).cell (by simp) (((Blk.keep (Blk.keep (Blk.keep HB4.out T7) T8) T9)).cell 1 rfl)
 have c4_10_2:=((Only.refl [] _).alloc (.cells #[.int .i64 (swCert aP aTrackedSets aS aMaxDepth).kind,.slice A81 (swCert aP aTrackedSets aS aMaxDepth).numbers.length C81,.slice A82 (swCert aP aTrackedSets aS aMaxDepth).words.length C82,.slice A83 (swCert aP aTrackedSets aS aMaxDepth).tables.length C83] 30)).cell (by simp) (((Blk.keep (Blk.keep (Blk.keep HB4.out T7) T8) T9)).cell 2 rfl)
 have c4_10_3:=((Only.refl [] _).alloc (.cells #[.int .i64 (swCert aP aTrackedSets aS aMaxDepth).kind,.slice A81 (swCert aP aTrackedSets aS aMaxDepth).numbers.length C81,.slice A82 (swCert aP aTrackedSets aS aMaxDepth).words.length C82,.slice A83 (swCert aP aTrackedSets aS aMaxDepth).tables.length C83] 30)).cell (by simp) (((Blk.keep (Blk.keep (Blk.keep HB4.out T7) T8) T9)).cell 3 rfl)
 have e10:eqV (swCert aP aTrackedSets aS aMaxDepth) (swCert aP aTrackedSets aS aMaxDepth) = true:=eqV_yes rfl
 go_wp2_with fail
 with_reducible refine (Zcu [.int .i64 (swCert aP aTrackedSets aS aMaxDepth).kind,.slice A81 (swCert aP aTrackedSets aS aMaxDepth).numbers.length C81,.slice A82 (swCert aP aTrackedSets aS aMaxDepth).words.length C82,.slice A83 (swCert aP aTrackedSets aS aMaxDepth).tables.length C83] [.int .i64 (swCert aP aTrackedSets aS aMaxDepth).kind,.slice A41 (swCert aP aTrackedSets aS aMaxDepth).numbers.length C41,.slice A42 (swCert aP aTrackedSets aS aMaxDepth).words.length C42,.slice A43 (swCert aP aTrackedSets aS aMaxDepth).tables.length C43] (swCert aP aTrackedSets aS aMaxDepth) (swCert aP aTrackedSets aS aMaxDepth) _ _ _ (zK r8 ((Only.refl [] _).alloc (.cells #[.int .i64 (swCert aP aTrackedSets aS aMaxDepth).kind,.slice A81 (swCert aP aTrackedSets aS aMaxDepth).numbers.length C81,.slice A82 (swCert aP aTrackedSets aS aMaxDepth).words.length C82,.slice A83 (swCert aP aTrackedSets aS aMaxDepth).tables.length C83] 30))) (zK (zK (zK (zK (zK r4 T6) T7) T8) T9) ((Only.refl [] _).alloc (.cells #[.int .i64 (swCert aP aTrackedSets aS aMaxDepth).kind,.slice A81 (swCert aP aTrackedSets aS aMaxDepth).numbers.length C81,.slice A82 (swCert aP aTrackedSets aS aMaxDepth).words.length C82,.slice A83 (swCert aP aTrackedSets aS aMaxDepth).tables.length C83] 30)))).mono ?_
 rintro e w11 ⟨rfl,t10⟩
 have T10:Only [] w10 w11:=((Only.refl [] _).alloc (.cells #[.int .i64 (swCert aP aTrackedSets aS aMaxDepth).kind,.slice A81 (swCert aP aTrackedSets aS aMaxDepth).numbers.length C81,.slice A82 (swCert aP aTrackedSets aS aMaxDepth).words.length C82,.slice A83 (swCert aP aTrackedSets aS aMaxDepth).tables.length C83] 30)).trans t10
 have S10:w10.heap.size + 1<=w11.heap.size:=by have:=t10.size;simp at this;omega
 have B8:Blk w11 w10.heap.size [.int .i64 (swCert aP aTrackedSets aS aMaxDepth).kind,.slice A81 (swCert aP aTrackedSets aS aMaxDepth).numbers.length C81,.slice A82 (swCert aP aTrackedSets aS aMaxDepth).words.length C82,.slice A83 (swCert aP aTrackedSets aS aMaxDepth).tables.length C83]:=(Blk.keep (Blk.new_at (by simp)) t10)
 have LB8:w10.heap.size < w11.heap.size:=B8.lt
 have HB8:=zH B8;clear B8
 clear c4_10_0 c4_10_1 c4_10_2 c4_10_3
 go_upto_region 17 with fail
 have e12:eqV aP aP = true:=eqV_yes rfl
 go_region_held3 (fun w'=>Only [] w11 w'/\w'.cell? ⟨w7.heap.size,0,none⟩ = some (.int .i64 aP.points)/\w'.cell? ⟨w7.heap.size,1,none⟩ = some (.string aP.names)/\w'.cell? ⟨w7.heap.size,2,none⟩ = some (.slice A52 aP.moves.length C52)/\w'.cell? ⟨w.heap.size,0,none⟩ = some (.int .i64 aP.points)/\w'.cell? ⟨w.heap.size,1,none⟩ = some (.string aP.names)/\w'.cell? ⟨w.heap.size,2,none⟩ = some (.slice AaP2 aP.moves.length CaP2)) ((refine and_of ?_ (fun q_=>⟨(Blk.keep (Blk.keep (Blk.keep (Blk.keep HB5.out T8) T9) T10) q_).cell 0 rfl,(Blk.keep (Blk.keep (Blk.keep (Blk.keep HB5.out T8) T9) T10) q_).cell 1 rfl,(Blk.keep (Blk.keep (Blk.keep (Blk.keep HB5.out T8) T9) T10) q_).cell 2 rfl,(Blk.keep (Blk.keep (Blk.keep (Blk.keep (Blk.keep (Blk.keep (Blk.keep (Blk.keep (Blk.keep (Blk.keep (Blk.keep HBaP.out T1) T2) T3) T4) T5) T6) T7) T8) T9) T10) q_).cell 0 rfl,(Blk.keep (Blk.keep (Blk.keep (Blk.keep (Blk.keep (Blk.keep (Blk.keep (Blk.keep (Blk.keep (Blk.keep (Blk.keep HBaP.out T1) T2) T3) T4) T5) T6) T7) T8) T9) T10) q_).cell 1 rfl,(Blk.keep (Blk.keep (Blk.keep (Blk.keep (Blk.keep (Blk.keep (Blk.keep (Blk.keep (Blk.keep (Blk.keep (Blk.keep HBaP.out T1) T2) T3) T4) T5) T6) T7) T8) T9) T10) q_).cell 2 rfl⟩);first | exact zO.drew | exact Only.trans (And.left (by assumption)) (by assumption))) (first
  | (go_at_call 10;(with_reducible refine (Zdj [.int .i64 aP.points,.string aP.names,.slice AaP2 aP.moves.length CaP2] aP _ _ (zK (zK (zK (zK (zK (zK (zK (zK (zK (zK (zK (zK raP T0) T1) T2) T3) T4) T5) T6) T7) T8) T9) T10) (And.left (by assumption))) smaP).mono ?_);rintro e w12 ⟨u9,f9,rfl,r9,F9,t11⟩)
  | (go_at_call 15;(with_reducible refine (Zno [.int .i64 aP.points,.string aP.names,.slice A52 aP.moves.length C52] u9 aP aP _ _ _ (zK (zK (zK (zK (zK r5 T7) T8) T9) T10) (And.left (by assumption))) (zK r9 (by first | exact Only.refl _ _ | assumption | exact Only.trans (by assumption) (by assumption)))).mono ?_);rintro e w13 ⟨rfl,t12⟩)
  | fail)
 have T11:Only [] w11 w12:=(zO.drew).trans t11
 have S11:w11.heap.size + 0<=w12.heap.size:=by have:=T11.size;omega
 have L9:=Rp.lt r9
 have G9:∀ b∈f9,w11.heap.size<=b:=fun b hb=>by have:=F9.ge b hb;first | omega | (simp at this;omega)
 have T12:Only [] w12 w13:=t12
 have S12:w12.heap.size + 0<=w13.heap.size:=by have:=T12.size;omega
 go_wp2_with fail
 with_reducible refine (Zcc (.slice AaTrackedSets aTrackedSets.length CaTrackedSets) aTrackedSets _ _ (zK (zK (zK (zK (zK (zK (zK (zK (zK (zK (zK (zK (zK raTrackedSets T0) T1) T2) T3) T4) T5) T6) T7) T8) T9) T10) T11) T12) smaTrackedSets).mono ?_
 rintro e w14 ⟨v10,f10,rfl,r10,F10,t13⟩
 have T13:Only [] w13 w14:=t13
 have S13:w13.heap.size + 0<=w14.heap.size:=by have:=T13.size;omega
 have L10:=Rp.lt r10
 have G10:∀ b∈f10,w13.heap.size<=b:=fun b hb=>by have:=F10.ge b hb;omega
 have e14:eqV aTrackedSets aTrackedSets = true:=eqV_yes rfl
 go_wp2_with fail
 with_reducible refine (Zai v6 v10 aTrackedSets aTrackedSets _ _ _ (zK (zK (zK (zK (zK (zK r6 T8) T9) T10) T11) T12) T13) r10).mono ?_
 rintro e w15 ⟨rfl,d14⟩
 have t14:=d14.only []
 have T14:Only [] w14 w15:=t14
 have S14:w14.heap.size + 0<=w15.heap.size:=by have:=T14.size;omega
 go_wp2_with fail
 with_reducible refine (Zdw (.slice AaS aS.length CaS) aS _ _ (zK (zK (zK (zK (zK (zK (zK (zK (zK (zK (zK (zK (zK (zK (zK raS T0) T1) T2) T3) T4) T5) T6) T7) T8) T9) T10) T11) T12) T13) T14) smaS).mono ?_
 rintro e w16 ⟨v11,f11,rfl,r11,F11,t15⟩
 have T15:Only [] w15 w16:=t15
 have S15:w15.heap.size + 0<=w16.heap.size:=by have:=T15.size;omega
 have L11:=Rp.lt r11
 have G11:∀ b∈f11,w15.heap.size<=b:=fun b hb=>by have:=F11.ge b hb;omega
 have e16:eqV aS aS = true:=eqV_yes rfl
 go_wp2_with fail
 with_reducible refine (Zal v7 v11 aS aS _ _ _ (zK (zK (zK (zK (zK (zK (zK r7 T9) T10) T11) T12) T13) T14) T15) r11).mono ?_
 rintro e w17 ⟨rfl,d16⟩
 have t16:=d16.only []
 have T16:Only [] w16 w17:=t16
 have S16:w16.heap.size + 0<=w17.heap.size:=by have:=T16.size;omega
 have c5_17_0:=((Blk.keep (Blk.keep (Blk.keep (Blk.keep (Blk.keep (Blk.keep (Blk.keep (Blk.keep (Blk.keep HB5.out T8) T9) T10) T11) T12) T13) T14) T15) T16)).cell 0 rfl
 have c5_17_1:=((Blk.keep (Blk.keep (Blk.keep (Blk.keep (Blk.keep (Blk.keep (Blk.keep (Blk.keep (Blk.keep HB5.out T8) T9) T10) T11) T12) T13) T14) T15) T16)).cell 1 rfl
 have c5_17_2:=((Blk.keep (Blk.keep (Blk.keep (Blk.keep (Blk.keep (Blk.keep (Blk.keep (Blk.keep (Blk.keep HB5.out T8) T9) T10) T11) T12) T13) T14) T15) T16)).cell 2 rfl
 have m17:(1:Int) + (Mk.cnt aP:Nat)<=4611686018427387904:=by omega
 go_wp2_with fail
 with_reducible refine (Zlg [.int .i64 aP.points,.string aP.names,.slice A52 aP.moves.length C52] aP f5 (1) _ (zK (zK (zK (zK (zK (zK (zK (zK (zK (zK r5 T7) T8) T9) T10) T11) T12) T13) T14) T15) T16) F5.nd (Own.keep (Own.keep (Own.keep (Own.keep (Own.keep (Own.keep (Own.keep (Own.keep (Own.keep (Own.keep F5.own T7) T8) T9) T10) T11) T12) T13) T14) T15) T16) (by omega) m17).mono ?_
 rintro e w18 ⟨rfl,rr17,oo17,t17⟩
 have T17:Only f5 w17 w18:=t17
 have S17:w17.heap.size + 0<=w18.heap.size:=by have:=T17.size;omega
 clear c5_17_0 c5_17_1 c5_17_2
 clear r5
 have r5:=rr17
 have O5:=oo17
 have m18:(1 + (Mk.cnt aP:Nat):Int) + (Mk.cnt aTrackedSets:Nat)<=4611686018427387904:=by omega
 go_wp2_with fail
 with_reducible refine (Zcp v6 aTrackedSets f6 (1 + (Mk.cnt aP:Nat)) _ (Rp.only (zK (zK (zK (zK (zK (zK (zK (zK (zK r6 T8) T9) T10) T11) T12) T13) T14) T15) T16) T17 (fun b hb hm=>by have:=G6 b hb;have:=L5 b hm;omega)) F6.nd (Own.only (Own.keep (Own.keep (Own.keep (Own.keep (Own.keep (Own.keep (Own.keep (Own.keep (Own.keep F6.own T8) T9) T10) T11) T12) T13) T14) T15) T16) T17 (fun b hb hm=>by have:=G6 b hb;have:=L5 b hm;omega)) (by omega) m18).mono ?_
 rintro e w19 ⟨rfl,rr18,oo18,t18⟩
 have T18:Only f6 w18 w19:=t18
 have S18:w18.heap.size + 0<=w19.heap.size:=by have:=T18.size;omega
 clear r6
 have r6:=rr18
 have O6:=oo18
 have m19:(1 + (Mk.cnt aP:Nat) + (Mk.cnt aTrackedSets:Nat):Int) + (Mk.cnt aS:Nat)<=4611686018427387904:=by omega
 go_wp2_with fail
 with_reducible refine (Zbs v7 aS f7 (1 + (Mk.cnt aP:Nat) + (Mk.cnt aTrackedSets:Nat)) _ (Rp.only (Rp.only (zK (zK (zK (zK (zK (zK (zK (zK r7 T9) T10) T11) T12) T13) T14) T15) T16) T17 (fun b hb hm=>by have:=G7 b hb;have:=L5 b hm;omega)) T18 (fun b hb hm=>by have:=G7 b hb;have:=L6 b hm;omega)) (Own.only (Own.only (Own.keep (Own.keep (Own.keep (Own.keep (Own.keep (Own.keep (Own.keep (Own.keep F7.own T9) T10) T11) T12) T13) T14) T15) T16) T17 (fun b hb hm=>by have:=G7 b hb;have:=L5 b hm;omega)) T18 (fun b hb hm=>by have:=G7 b hb;have:=L6 b hm;omega)) (by omega) m19).mono ?_
 rintro e w20 ⟨rfl,rr19,oo19,t19⟩
 have T19:Only f7 w19 w20:=t19
 have S19:w19.heap.size + 0<=w20.heap.size:=by have:=T19.size;omega
 clear r7
 have r7:=rr19
 have O7:=oo19
 have c8_20_0:=((Blk.only (Blk.only (Blk.only (Blk.keep (Blk.keep (Blk.keep (Blk.keep (Blk.keep (Blk.keep HB8.out T11) T12) T13) T14) T15) T16) T17 (fun hm=>by have:=L5 _ hm;omega)) T18 (fun hm=>by have:=L6 _ hm;omega)) T19 (fun hm=>by have:=L7 _ hm;omega))).cell 0 rfl
 have c8_20_1:=((Blk.only (Blk.only (Blk.only (Blk.keep (Blk.keep (Blk.keep (Blk.keep (Blk.keep (Blk.keep HB8.out T11) T12) T13) T14) T15) T16) T17 (fun hm=>by have:=L5 _ hm;omega)) T18 (fun hm=>by have:=L6 _ hm;omega)) T19 (fun hm=>by have:=L7 _ hm;omega))).cell 1 rfl
 have c8_20_2:=((Blk.only (Blk.only (Blk.only (Blk.keep (Blk.keep (Blk.keep (Blk.keep (Blk.keep (Blk.keep HB8.out T11) T12) T13) T14) T15) T16) T17 (fun hm=>by have:=L5 _ hm;omega)) T18 (fun hm=>by have:=L6 _ hm;omega)) T19 (fun hm=>by have:=L7 _ hm;omega))).cell 2 rfl
 have c8_20_3:=((Blk.only (Blk.only (Blk.only (Blk.keep (Blk.keep (Blk.keep (Blk.keep (Blk.keep (Blk.keep HB8.out T11) T12) T13) T14) T15) T16) T17 (fun hm=>by have:=L5 _ hm;omega)) T18 (fun hm=>by have:=L6 _ hm;omega)) T19 (fun hm=>by have:=L7 _ hm;omega))).cell 3 rfl
 have c4_20_0:=((Blk.only (Blk.only (Blk.only (Blk.keep (Blk.keep (Blk.keep (Blk.keep (Blk.keep (Blk.keep (Blk.keep (Blk.keep (Blk.keep (Blk.keep HB4.out T7) T8) T9) T10) T11) T12) T13) T14) T15) T16) T17 (fun hm=>by have:=G5 _ hm;have:=LB4;omega)) T18 (fun hm=>by have:=G6 _ hm;have:=LB4;omega)) T19 (fun hm=>by have:=G7 _ hm;have:=LB4;omega))).cell 0 rfl
 have c4_20_1:=((Blk.only (Blk.only (Blk.only (Blk.keep (Blk.keep (Blk.keep (Blk.keep (Blk.keep (Blk.keep (Blk.keep (Blk.keep (Blk.keep (Blk.keep HB4.out T7) T8) T9) T10) T11) T12) T13) T14) T15) T16) T17 (fun hm=>by have:=G5 _ hm;have:=LB4;omega)) T18 (fun hm=>by have:=G6 _ hm;have:=LB4;omega)) T19 (fun hm=>by have:=G7 _ hm;have:=LB4;omega))).cell 1 rfl
 have c4_20_2:=((Blk.only (Blk.only (Blk.only (Blk.keep (Blk.keep (Blk.keep (Blk.keep (Blk.keep (Blk.keep (Blk.keep (Blk.keep (Blk.keep (Blk.keep HB4.out T7) T8) T9) T10) T11) T12) T13) T14) T15) T16) T17 (fun hm=>by have:=G5 _ hm;have:=LB4;omega)) T18 (fun hm=>by have:=G6 _ hm;have:=LB4;omega)) T19 (fun hm=>by have:=G7 _ hm;have:=LB4;omega))).cell 2 rfl
 have c4_20_3:=((Blk.only (Blk.only (Blk.only (Blk.keep (Blk.keep (Blk.keep (Blk.keep (Blk.keep (Blk.keep (Blk.keep (Blk.keep (Blk.keep (Blk.keep HB4.out T7) T8) T9) T10) T11) T12) T13) T14) T15) T16) T17 (fun hm=>by have:=G5 _ hm;have:=LB4;omega)) T18 (fun hm=>by have:=G6 _ hm;have:=LB4;omega)) T19 (fun hm=>by have:=G7 _ hm;have:=LB4;omega))).cell 3 rfl
 have e20:eqV (swCert aP aTrackedSets aS aMaxDepth) (swCert aP aTrackedSets aS aMaxDepth) = true:=eqV_yes rfl
 go_wp2_with fail
 with_reducible refine (Zcu [.int .i64 (swCert aP aTrackedSets aS aMaxDepth).kind,.slice A81 (swCert aP aTrackedSets aS aMaxDepth).numbers.length C81,.slice A82 (swCert aP aTrackedSets aS aMaxDepth).words.length C82,.slice A83 (swCert aP aTrackedSets aS aMaxDepth).tables.length C83] [.int .i64 (swCert aP aTrackedSets aS aMaxDepth).kind,.slice A41 (swCert aP aTrackedSets aS aMaxDepth).numbers.length C41,.slice A42 (swCert aP aTrackedSets aS aMaxDepth).words.length C42,.slice A43 (swCert aP aTrackedSets aS aMaxDepth).tables.length C43] (swCert aP aTrackedSets aS aMaxDepth) (swCert aP aTrackedSets aS aMaxDepth) _ _ _ (Rp.only (Rp.only (Rp.only (zK (zK (zK (zK (zK (zK (zK r8 T10) T11) T12) T13) T14) T15) T16) T17 (fun b hb hm=>by have:=G8 b hb;have:=L5 b hm;omega)) T18 (fun b hb hm=>by have:=G8 b hb;have:=L6 b hm;omega)) T19 (fun b hb hm=>by have:=G8 b hb;have:=L7 b hm;omega)) (Rp.only (Rp.only (Rp.only (zK (zK (zK (zK (zK (zK (zK (zK (zK (zK (zK r4 T6) T7) T8) T9) T10) T11) T12) T13) T14) T15) T16) T17 (fun b hb hm=>by have:=L4 b hb;have:=G5 b hm;omega)) T18 (fun b hb hm=>by have:=L4 b hb;have:=G6 b hm;omega)) T19 (fun b hb hm=>by have:=L4 b hb;have:=G7 b hm;omega))).mono ?_
 rintro e w21 ⟨rfl,t20⟩
 have T20:Only [] w20 w21:=t20
 have S20:w20.heap.size + 0<=w21.heap.size:=by have:=T20.size;omega
 clear c8_20_0 c8_20_1 c8_20_2 c8_20_3 c4_20_0 c4_20_1 c4_20_2 c4_20_3
 have c8_21_0:=((Blk.keep (Blk.only (Blk.only (Blk.only (Blk.keep (Blk.keep (Blk.keep (Blk.keep (Blk.keep (Blk.keep HB8.out T11) T12) T13) T14) T15) T16) T17 (fun hm=>by have:=L5 _ hm;omega)) T18 (fun hm=>by have:=L6 _ hm;omega)) T19 (fun hm=>by have:=L7 _ hm;omega)) T20)).cell 0 rfl
 have c8_21_1:=((Blk.keep (Blk.only (Blk.only (Blk.only (Blk.keep (Blk.keep (Blk.keep (Blk.keep (Blk.keep (Blk.keep HB8.out T11) T12) T13) T14) T15) T16) T17 (fun hm=>by have:=L5 _ hm;omega)) T18 (fun hm=>by have:=L6 _ hm;omega)) T19 (fun hm=>by have:=L7 _ hm;omega)) T20)).cell 1 rfl
 have c8_21_2:=((Blk.keep (Blk.only (Blk.only (Blk.only (Blk.keep (Blk.keep (Blk.keep (Blk.keep (Blk.keep (Blk.keep HB8.out T11) T12) T13) T14) T15) T16) T17 (fun hm=>by have:=L5 _ hm;omega)) T18 (fun hm=>by have:=L6 _ hm;omega)) T19 (fun hm=>by have:=L7 _ hm;omega)) T20)).cell 2 rfl
 have c8_21_3:=((Blk.keep (Blk.only (Blk.only (Blk.only (Blk.keep (Blk.keep (Blk.keep (Blk.keep (Blk.keep (Blk.keep HB8.out T11) T12) T13) T14) T15) T16) T17 (fun hm=>by have:=L5 _ hm;omega)) T18 (fun hm=>by have:=L6 _ hm;omega)) T19 (fun hm=>by have:=L7 _ hm;omega)) T20)).cell 3 rfl
 have m21:(1:Int) + (Mk.cnt (swCert aP aTrackedSets aS aMaxDepth):Nat)<=4611686018427387904:=by omega
 go_wp2_with fail
 with_reducible refine (Zgw [.int .i64 (swCert aP aTrackedSets aS aMaxDepth).kind,.slice A81 (swCert aP aTrackedSets aS aMaxDepth).numbers.length C81,.slice A82 (swCert aP aTrackedSets aS aMaxDepth).words.length C82,.slice A83 (swCert aP aTrackedSets aS aMaxDepth).tables.length C83] (swCert aP aTrackedSets aS aMaxDepth) f8 (1) _ (zK (Rp.only (Rp.only (Rp.only (zK (zK (zK (zK (zK (zK (zK r8 T10) T11) T12) T13) T14) T15) T16) T17 (fun b hb hm=>by have:=G8 b hb;have:=L5 b hm;omega)) T18 (fun b hb hm=>by have:=G8 b hb;have:=L6 b hm;omega)) T19 (fun b hb hm=>by have:=G8 b hb;have:=L7 b hm;omega)) T20) F8.nd (Own.keep (Own.only (Own.only (Own.only (Own.keep (Own.keep (Own.keep (Own.keep (Own.keep (Own.keep (Own.keep F8.own T10) T11) T12) T13) T14) T15) T16) T17 (fun b hb hm=>by have:=G8 b hb;have:=L5 b hm;omega)) T18 (fun b hb hm=>by have:=G8 b hb;have:=L6 b hm;omega)) T19 (fun b hb hm=>by have:=G8 b hb;have:=L7 b hm;omega)) T20) (by omega) m21).mono ?_
 rintro e w22 ⟨rfl,rr21,oo21,t21⟩
 have T21:Only f8 w21 w22:=t21
 have S21:w21.heap.size + 0<=w22.heap.size:=by have:=T21.size;omega
 clear c8_21_0 c8_21_1 c8_21_2 c8_21_3
 clear r8
 have r8:=rr21
 have O8:=oo21
 have c8_22_0:=((Blk.only (Blk.keep (Blk.only (Blk.only (Blk.only (Blk.keep (Blk.keep (Blk.keep (Blk.keep (Blk.keep (Blk.keep HB8.out T11) T12) T13) T14) T15) T16) T17 (fun hm=>by have:=L5 _ hm;omega)) T18 (fun hm=>by have:=L6 _ hm;omega)) T19 (fun hm=>by have:=L7 _ hm;omega)) T20) T21 (fun hm=>by have:=L8 _ hm;omega))).cell 0 rfl
 have c8_22_1:=((Blk.only (Blk.keep (Blk.only (Blk.only (Blk.only (Blk.keep (Blk.keep (Blk.keep (Blk.keep (Blk.keep (Blk.keep HB8.out T11) T12) T13) T14) T15) T16) T17 (fun hm=>by have:=L5 _ hm;omega)) T18 (fun hm=>by have:=L6 _ hm;omega)) T19 (fun hm=>by have:=L7 _ hm;omega)) T20) T21 (fun hm=>by have:=L8 _ hm;omega))).cell 1 rfl
 have c8_22_2:=((Blk.only (Blk.keep (Blk.only (Blk.only (Blk.only (Blk.keep (Blk.keep (Blk.keep (Blk.keep (Blk.keep (Blk.keep HB8.out T11) T12) T13) T14) T15) T16) T17 (fun hm=>by have:=L5 _ hm;omega)) T18 (fun hm=>by have:=L6 _ hm;omega)) T19 (fun hm=>by have:=L7 _ hm;omega)) T20) T21 (fun hm=>by have:=L8 _ hm;omega))).cell 2 rfl
 have c8_22_3:=((Blk.only (Blk.keep (Blk.only (Blk.only (Blk.only (Blk.keep (Blk.keep (Blk.keep (Blk.keep (Blk.keep (Blk.keep HB8.out T11) T12) T13) T14) T15) T16) T17 (fun hm=>by have:=L5 _ hm;omega)) T18 (fun hm=>by have:=L6 _ hm;omega)) T19 (fun hm=>by have:=L7 _ hm;omega)) T20) T21 (fun hm=>by have:=L8 _ hm;omega))).cell 3 rfl
 have h22:heldV (1) (Mk.mark (1) (swCert aP aTrackedSets aS aMaxDepth)) = 1 + (Mk.cnt (swCert aP aTrackedSets aS aMaxDepth):Nat):=Zkb (1) (swCert aP aTrackedSets aS aMaxDepth)
 have m22:(1:Int) + (Mk.cnt (Mk.mark (1) (swCert aP aTrackedSets aS aMaxDepth)):Nat)<=4611686018427387904:=by rw [MkL.cnt];omega
 go_wp2_with fail
 with_reducible refine (Zdv [.int .i64 (swCert aP aTrackedSets aS aMaxDepth).kind,.slice A81 (swCert aP aTrackedSets aS aMaxDepth).numbers.length C81,.slice A82 (swCert aP aTrackedSets aS aMaxDepth).words.length C82,.slice A83 (swCert aP aTrackedSets aS aMaxDepth).tables.length C83] (Mk.mark (1) (swCert aP aTrackedSets aS aMaxDepth)) _ (1) _ r8 (by omega) m22).mono ?_
 rintro e w23 ⟨rfl,t22⟩
 have T22:Only [] w22 w23:=t22
 have S22:w22.heap.size + 0<=w23.heap.size:=by have:=T22.size;omega
 clear c8_22_0 c8_22_1 c8_22_2 c8_22_3
 have caP_23_0:=((Blk.keep (Blk.only (Blk.keep (Blk.only (Blk.only (Blk.only (Blk.keep (Blk.keep (Blk.keep (Blk.keep (Blk.keep (Blk.keep (Blk.keep (Blk.keep (Blk.keep (Blk.keep (Blk.keep (Blk.keep (Blk.keep (Blk.keep (Blk.keep (Blk.keep HBaP.out T1) T2) T3) T4) T5) T6) T7) T8) T9) T10) T11) T12) T13) T14) T15) T16) T17 (fun hm=>by have:=G5 _ hm;have:=LBaP;omega)) T18 (fun hm=>by have:=G6 _ hm;have:=LBaP;omega)) T19 (fun hm=>by have:=G7 _ hm;have:=LBaP;omega)) T20) T21 (fun hm=>by have:=G8 _ hm;have:=LBaP;omega)) T22)).cell 0 rfl
 have caP_23_1:=((Blk.keep (Blk.only (Blk.keep (Blk.only (Blk.only (Blk.only (Blk.keep (Blk.keep (Blk.keep (Blk.keep (Blk.keep (Blk.keep (Blk.keep (Blk.keep (Blk.keep (Blk.keep (Blk.keep (Blk.keep (Blk.keep (Blk.keep (Blk.keep (Blk.keep HBaP.out T1) T2) T3) T4) T5) T6) T7) T8) T9) T10) T11) T12) T13) T14) T15) T16) T17 (fun hm=>by have:=G5 _ hm;have:=LBaP;omega)) T18 (fun hm=>by have:=G6 _ hm;have:=LBaP;omega)) T19 (fun hm=>by have:=G7 _ hm;have:=LBaP;omega)) T20) T21 (fun hm=>by have:=G8 _ hm;have:=LBaP;omega)) T22)).cell 1 rfl
 have caP_23_2:=((Blk.keep (Blk.only (Blk.keep (Blk.only (Blk.only (Blk.only (Blk.keep (Blk.keep (Blk.keep (Blk.keep (Blk.keep (Blk.keep (Blk.keep (Blk.keep (Blk.keep (Blk.keep (Blk.keep (Blk.keep (Blk.keep (Blk.keep (Blk.keep (Blk.keep HBaP.out T1) T2) T3) T4) T5) T6) T7) T8) T9) T10) T11) T12) T13) T14) T15) T16) T17 (fun hm=>by have:=G5 _ hm;have:=LBaP;omega)) T18 (fun hm=>by have:=G6 _ hm;have:=LBaP;omega)) T19 (fun hm=>by have:=G7 _ hm;have:=LBaP;omega)) T20) T21 (fun hm=>by have:=G8 _ hm;have:=LBaP;omega)) T22)).cell 2 rfl
 go_wp2_with fail
 with_reducible refine (Zdj [.int .i64 aP.points,.string aP.names,.slice AaP2 aP.moves.length CaP2] aP _ _ (zK (Rp.only (zK (Rp.only (Rp.only (Rp.only (zK (zK (zK (zK (zK (zK (zK (zK (zK (zK (zK (zK (zK (zK (zK (zK (zK raP T0) T1) T2) T3) T4) T5) T6) T7) T8) T9) T10) T11) T12) T13) T14) T15) T16) T17 (fun b hb hm=>by have:=LaP b hb;have:=G5 b hm;omega)) T18 (fun b hb hm=>by have:=LaP b hb;have:=G6 b hm;omega)) T19 (fun b hb hm=>by have:=LaP b hb;have:=G7 b hm;omega)) T20) T21 (fun b hb hm=>by have:=LaP b hb;have:=G8 b hm;omega)) T22) smaP).mono ?_
 rintro e w24 ⟨u12,f12,rfl,r12,F12,t23⟩
 have T23:Only [] w23 w24:=t23
 have S23:w23.heap.size + 0<=w24.heap.size:=by have:=T23.size;omega
 clear caP_23_0 caP_23_1 caP_23_2
 have q12:=r12
 obtain ⟨u122,rfl,-,-,z122⟩:=q12
 obtain ⟨A122,C122,_,_,rfl,-⟩:=z122.open_
 have L12:=Rp.lt r12
 have G12:∀ b∈f12,w23.heap.size<=b:=fun b hb=>by have:=F12.ge b hb;omega
 go_wp2_with fail
 with_reducible refine (Zcc (.slice AaTrackedSets aTrackedSets.length CaTrackedSets) aTrackedSets _ _ (zK (zK (Rp.only (zK (Rp.only (Rp.only (Rp.only (zK (zK (zK (zK (zK (zK (zK (zK (zK (zK (zK (zK (zK (zK (zK (zK (zK raTrackedSets T0) T1) T2) T3) T4) T5) T6) T7) T8) T9) T10) T11) T12) T13) T14) T15) T16) T17 (fun b hb hm=>by have:=LaTrackedSets b hb;have:=G5 b hm;omega)) T18 (fun b hb hm=>by have:=LaTrackedSets b hb;have:=G6 b hm;omega)) T19 (fun b hb hm=>by have:=LaTrackedSets b hb;have:=G7 b hm;omega)) T20) T21 (fun b hb hm=>by have:=LaTrackedSets b hb;have:=G8 b hm;omega)) T22) T23) smaTrackedSets).mono ?_
 rintro e w25 ⟨v13,f13,rfl,r13,F13,t24⟩
 have T24:Only [] w24 w25:=t24
 have S24:w24.heap.size + 0<=w25.heap.size:=by have:=T24.size;omega
 have L13:=Rp.lt r13
 have G13:∀ b∈f13,w24.heap.size<=b:=fun b hb=>by have:=F13.ge b hb;omega
 go_wp2_with fail
 with_reducible refine (Zdw (.slice AaS aS.length CaS) aS _ _ (zK (zK (zK (Rp.only (zK (Rp.only (Rp.only (Rp.only (zK (zK (zK (zK (zK (zK (zK (zK (zK (zK (zK (zK (zK (zK (zK (zK (zK raS T0) T1) T2) T3) T4) T5) T6) T7) T8) T9) T10) T11) T12) T13) T14) T15) T16) T17 (fun b hb hm=>by have:=LaS b hb;have:=G5 b hm;omega)) T18 (fun b hb hm=>by have:=LaS b hb;have:=G6 b hm;omega)) T19 (fun b hb hm=>by have:=LaS b hb;have:=G7 b hm;omega)) T20) T21 (fun b hb hm=>by have:=LaS b hb;have:=G8 b hm;omega)) T22) T23) T24) smaS).mono ?_
 rintro e w26 ⟨v14,f14,rfl,r14,F14,t25⟩
 have T25:Only [] w25 w26:=t25
 have S25:w25.heap.size + 0<=w26.heap.size:=by have:=T25.size;omega
 have L14:=Rp.lt r14
 have G14:∀ b∈f14,w25.heap.size<=b:=fun b hb=>by have:=F14.ge b hb;omega
 go_wp2_with fail
 with_reducible refine (Zjy [.int .i64 aP.points,.string aP.names,.slice A122 aP.moves.length C122] aP _ v13 aTrackedSets _ v14 aS _ aMaxDepth _ (zK (zK r12 T24) T25) (zK r13 T25) r14 (sm_rows smaTrackedSets)).mono ?_
 rintro e w27 ⟨u15,f15,rfl,r15,F15,t26⟩
 have T26:Only [] w26 w27:=t26
 have S26:w26.heap.size + 0<=w27.heap.size:=by have:=T26.size;omega
 have q15:=r15
 obtain ⟨u151,u152,u153,_,_,_,rfl,-,-,z151,z152,z153⟩:=q15
 obtain ⟨A151,C151,_,_,rfl,-⟩:=z151.open_
 obtain ⟨A152,C152,_,_,rfl,-⟩:=z152.open_
 obtain ⟨A153,C153,_,_,rfl,-⟩:=z153.open_
 have L15:=Rp.lt r15
 have G15:∀ b∈f15,w26.heap.size<=b:=fun b hb=>by have:=F15.ge b hb;omega
 have c4_27_0:=((Only.refl [] _).alloc (.cells #[.int .i64 (swCert aP aTrackedSets aS aMaxDepth).kind,.slice A151 (swCert aP aTrackedSets aS aMaxDepth).numbers.length C151,.slice A152 (swCert aP aTrackedSets aS aMaxDepth).words.length C152,.slice A153 (swCert aP aTrackedSets aS aMaxDepth).tables.length C153] 30)).cell (by simp) (((Blk.keep (Blk.keep (Blk.keep (Blk.keep (Blk.keep (Blk.only (Blk.keep (Blk.only (Blk.only (Blk.only (Blk.keep (Blk.keep (Blk.keep (Blk.keep (Blk.keep (Blk.keep (Blk.keep (Blk.keep (Blk.keep (Blk.keep HB4.out T7) T8) T9) T10) T11) T12) T13) T14) T15) T16) T17 (fun hm=>by have:=G5 _ hm;have:=LB4;omega)) T18 (fun hm=>by have:=G6 _ hm;have:=LB4;omega)) T19 (fun hm=>by have:=G7 _ hm;have:=LB4;omega)) T20) T21 (fun hm=>by have:=G8 _ hm;have:=LB4;omega)) T22) T23) T24) T25) T26)).cell 0 rfl)
 have c4_27_1:=((Only.refl [] _).alloc (.cells #[.int .i64 (swCert aP aTrackedSets aS aMaxDepth).kind,.slice A151 (swCert aP aTrackedSets aS aMaxDepth).numbers.length C151,.slice A152 (swCert aP aTrackedSets aS aMaxDepth).words.length C152,.slice A153 (swCert aP aTrackedSets aS aMaxDepth).tables.length C153] 30)).cell (by simp) (((Blk.keep (Blk.keep (Blk.keep (Blk.keep (Blk.keep (Blk.only (Blk.keep (Blk.only (Blk.only (Blk.only (Blk.keep (Blk.keep (Blk.keep (Blk.keep (Blk.keep (Blk.keep (Blk.keep (Blk.keep (Blk.keep (Blk.keep HB4.out T7) T8) T9) T10) T11) T12) T13) T14) T15) T16) T17 (fun hm=>by have:=G5 _ hm;have:=LB4;omega)) T18 (fun hm=>by have:=G6 _ hm;have:=LB4;omega)) T19 (fun hm=>by have:=G7 _ hm;have:=LB4;omega)) T20) T21 (fun hm=>by have:=G8 _ hm;have:=LB4;omega)) T22) T23) T24) T25) T26)).cell 1 rfl)
 have c4_27_2:=((Only.refl [] _).alloc (.cells #[.int .i64 (swCert aP aTrackedSets aS aMaxDepth).kind,.slice A151 (swCert aP aTrackedSets aS aMaxDepth).numbers.length C151,.slice A152 (swCert aP aTrackedSets aS aMaxDepth).words.length C152,.slice A153 (swCert aP aTrackedSets aS aMaxDepth).tables.length C153] 30)).cell (by simp) (((Blk.keep (Blk.keep (Blk.keep (Blk.keep (Blk.keep (Blk.only (Blk.keep (Blk.only (Blk.only (Blk.only (Blk.keep (Blk.keep (Blk.keep (Blk.keep (Blk.keep (Blk.keep (Blk.keep (Blk.keep (Blk.keep (Blk.keep HB4.out T7) T8) T9) T10) T11) T12) T13) T14) T15) T16) T17 (fun hm=>by have:=G5 _ hm;have:=LB4;omega)) T18 (fun hm=>by have:=G6 _ hm;have:=LB4;omega)) T19 (fun hm=>by have:=G7 _ hm;have:=LB4;omega)) T20) T21 (fun hm=>by have:=G8 _ hm;have:=LB4;omega)) T22) T23) T24) T25) T26)).cell 2 rfl)
 have c4_27_3:=((Only.refl [] _).alloc (.cells #[.int .i64 (swCert aP aTrackedSets aS aMaxDepth).kind,.slice A151 (swCert aP aTrackedSets aS aMaxDepth).numbers.length C151,.slice A152 (swCert aP aTrackedSets aS aMaxDepth).words.length C152,.slice A153 (swCert aP aTrackedSets aS aMaxDepth).tables.length C153] 30)).cell (by simp) (((Blk.keep (Blk.keep (Blk.keep (Blk.keep (Blk.keep (Blk.only (Blk.keep (Blk.only (Blk.only (Blk.only (Blk.keep (Blk.keep (Blk.keep (Blk.keep (Blk.keep (Blk.keep (Blk.keep (Blk.keep (Blk.keep (Blk.keep HB4.out T7) T8) T9) T10) T11) T12) T13) T14) T15) T16) T17 (fun hm=>by have:=G5 _ hm;have:=LB4;omega)) T18 (fun hm=>by have:=G6 _ hm;have:=LB4;omega)) T19 (fun hm=>by have:=G7 _ hm;have:=LB4;omega)) T20) T21 (fun hm=>by have:=G8 _ hm;have:=LB4;omega)) T22) T23) T24) T25) T26)).cell 3 rfl)
 have e27:eqV (swCert aP aTrackedSets aS aMaxDepth) (swCert aP aTrackedSets aS aMaxDepth) = true:=eqV_yes rfl
 go_wp2_with fail
 with_reducible refine (Zcu [.int .i64 (swCert aP aTrackedSets aS aMaxDepth).kind,.slice A151 (swCert aP aTrackedSets aS aMaxDepth).numbers.length C151,.slice A152 (swCert aP aTrackedSets aS aMaxDepth).words.length C152,.slice A153 (swCert aP aTrackedSets aS aMaxDepth).tables.length C153] [.int .i64 (swCert aP aTrackedSets aS aMaxDepth).kind,.slice A41 (swCert aP aTrackedSets aS aMaxDepth).numbers.length C41,.slice A42 (swCert aP aTrackedSets aS aMaxDepth).words.length C42,.slice A43 (swCert aP aTrackedSets aS aMaxDepth).tables.length C43] (swCert aP aTrackedSets aS aMaxDepth) (swCert aP aTrackedSets aS aMaxDepth) _ _ _ (zK r15 ((Only.refl [] _).alloc (.cells #[.int .i64 (swCert aP aTrackedSets aS aMaxDepth).kind,.slice A151 (swCert aP aTrackedSets aS aMaxDepth).numbers.length C151,.slice A152 (swCert aP aTrackedSets aS aMaxDepth).words.length C152,.slice A153 (swCert aP aTrackedSets aS aMaxDepth).tables.length C153] 30))) (zK (zK (zK (zK (zK (zK (Rp.only (zK (Rp.only (Rp.only (Rp.only (zK (zK (zK (zK (zK (zK (zK (zK (zK (zK (zK r4 T6) T7) T8) T9) T10) T11) T12) T13) T14) T15) T16) T17 (fun b hb hm=>by have:=L4 b hb;have:=G5 b hm;omega)) T18 (fun b hb hm=>by have:=L4 b hb;have:=G6 b hm;omega)) T19 (fun b hb hm=>by have:=L4 b hb;have:=G7 b hm;omega)) T20) T21 (fun b hb hm=>by have:=L4 b hb;have:=G8 b hm;omega)) T22) T23) T24) T25) T26) ((Only.refl [] _).alloc (.cells #[.int .i64 (swCert aP aTrackedSets aS aMaxDepth).kind,.slice A151 (swCert aP aTrackedSets aS aMaxDepth).numbers.length C151,.slice A152 (swCert aP aTrackedSets aS aMaxDepth).words.length C152,.slice A153 (swCert aP aTrackedSets aS aMaxDepth).tables.length C153] 30)))).mono ?_
 rintro e w28 ⟨rfl,t27⟩
 have T27:Only [] w27 w28:=((Only.refl [] _).alloc (.cells #[.int .i64 (swCert aP aTrackedSets aS aMaxDepth).kind,.slice A151 (swCert aP aTrackedSets aS aMaxDepth).numbers.length C151,.slice A152 (swCert aP aTrackedSets aS aMaxDepth).words.length C152,.slice A153 (swCert aP aTrackedSets aS aMaxDepth).tables.length C153] 30)).trans t27
 have S27:w27.heap.size + 1<=w28.heap.size:=by have:=t27.size;simp at this;omega
 have B15:Blk w28 w27.heap.size [.int .i64 (swCert aP aTrackedSets aS aMaxDepth).kind,.slice A151 (swCert aP aTrackedSets aS aMaxDepth).numbers.length C151,.slice A152 (swCert aP aTrackedSets aS aMaxDepth).words.length C152,.slice A153 (swCert aP aTrackedSets aS aMaxDepth).tables.length C153]:=(Blk.keep (Blk.new_at (by simp)) t27)
 have LB15:w27.heap.size < w28.heap.size:=B15.lt
 have HB15:=zH B15;clear B15
 clear c4_27_0 c4_27_1 c4_27_2 c4_27_3
 have c8_28_0:=((Blk.keep (Blk.keep (Blk.keep (Blk.keep (Blk.keep (Blk.keep (Blk.only (Blk.keep (Blk.only (Blk.only (Blk.only (Blk.keep (Blk.keep (Blk.keep (Blk.keep (Blk.keep (Blk.keep HB8.out T11) T12) T13) T14) T15) T16) T17 (fun hm=>by have:=L5 _ hm;omega)) T18 (fun hm=>by have:=L6 _ hm;omega)) T19 (fun hm=>by have:=L7 _ hm;omega)) T20) T21 (fun hm=>by have:=L8 _ hm;omega)) T22) T23) T24) T25) T26) T27)).cell 0 rfl
 have c8_28_1:=((Blk.keep (Blk.keep (Blk.keep (Blk.keep (Blk.keep (Blk.keep (Blk.only (Blk.keep (Blk.only (Blk.only (Blk.only (Blk.keep (Blk.keep (Blk.keep (Blk.keep (Blk.keep (Blk.keep HB8.out T11) T12) T13) T14) T15) T16) T17 (fun hm=>by have:=L5 _ hm;omega)) T18 (fun hm=>by have:=L6 _ hm;omega)) T19 (fun hm=>by have:=L7 _ hm;omega)) T20) T21 (fun hm=>by have:=L8 _ hm;omega)) T22) T23) T24) T25) T26) T27)).cell 1 rfl
 have c8_28_2:=((Blk.keep (Blk.keep (Blk.keep (Blk.keep (Blk.keep (Blk.keep (Blk.only (Blk.keep (Blk.only (Blk.only (Blk.only (Blk.keep (Blk.keep (Blk.keep (Blk.keep (Blk.keep (Blk.keep HB8.out T11) T12) T13) T14) T15) T16) T17 (fun hm=>by have:=L5 _ hm;omega)) T18 (fun hm=>by have:=L6 _ hm;omega)) T19 (fun hm=>by have:=L7 _ hm;omega)) T20) T21 (fun hm=>by have:=L8 _ hm;omega)) T22) T23) T24) T25) T26) T27)).cell 2 rfl
 have c8_28_3:=((Blk.keep (Blk.keep (Blk.keep (Blk.keep (Blk.keep (Blk.keep (Blk.only (Blk.keep (Blk.only (Blk.only (Blk.only (Blk.keep (Blk.keep (Blk.keep (Blk.keep (Blk.keep (Blk.keep HB8.out T11) T12) T13) T14) T15) T16) T17 (fun hm=>by have:=L5 _ hm;omega)) T18 (fun hm=>by have:=L6 _ hm;omega)) T19 (fun hm=>by have:=L7 _ hm;omega)) T20) T21 (fun hm=>by have:=L8 _ hm;omega)) T22) T23) T24) T25) T26) T27)).cell 3 rfl
 have h28:heldV (1) (Mk.mark (1) (swCert aP aTrackedSets aS aMaxDepth)) = 1 + (Mk.cnt (swCert aP aTrackedSets aS aMaxDepth):Nat):=Zkb (1) (swCert aP aTrackedSets aS aMaxDepth)
 have m28:(1:Int) + (Mk.cnt (Mk.mark (1) (swCert aP aTrackedSets aS aMaxDepth)):Nat)<=4611686018427387904:=by rw [MkL.cnt];omega
 go_wp2_with fail
 with_reducible refine (Zdv [.int .i64 (swCert aP aTrackedSets aS aMaxDepth).kind,.slice A81 (swCert aP aTrackedSets aS aMaxDepth).numbers.length C81,.slice A82 (swCert aP aTrackedSets aS aMaxDepth).words.length C82,.slice A83 (swCert aP aTrackedSets aS aMaxDepth).tables.length C83] (Mk.mark (1) (swCert aP aTrackedSets aS aMaxDepth)) _ (1) _ (zK (zK (zK (zK (zK (zK r8 T22) T23) T24) T25) T26) T27) (by omega) m28).mono ?_
 rintro e w29 ⟨rfl,t28⟩
 have T28:Only [] w28 w29:=t28
 have S28:w28.heap.size + 0<=w29.heap.size:=by have:=T28.size;omega
 clear c8_28_0 c8_28_1 c8_28_2 c8_28_3
 go_wp2
 go_ret
 refine ⟨rfl,?_⟩
 exact (Only.keepThen (Only.keepThen (Only.keepThen (Only.keepThen (Only.keepThen (Only.keepThen (Only.keepThen (Only.then_ (Only.keepThen (Only.then_ (Only.then_ (Only.then_ (Only.keepThen (Only.keepThen (Only.keepThen (Only.keepThen (Only.keepThen (Only.keepThen (Only.keepThen (Only.keepThen (Only.keepThen (Only.keepThen (Only.keepThen (Only.keepThen (Only.keepThen (Only.keepThen (Only.keepThen (Only.keepThen T0 T1) T2) T3) T4) T5) T6) T7) T8) T9) T10) T11) T12) T13) T14) T15) T16) T17 (fun b hb hl=>by have:=G5 b hb;omega)) T18 (fun b hb hl=>by have:=G6 b hb;omega)) T19 (fun b hb hl=>by have:=G7 b hb;omega)) T20) T21 (fun b hb hl=>by have:=G8 b hb;omega)) T22) T23) T24) T25) T26) T27) T28)
end Go.Proofs.YtclhblofchfglaaGreat
