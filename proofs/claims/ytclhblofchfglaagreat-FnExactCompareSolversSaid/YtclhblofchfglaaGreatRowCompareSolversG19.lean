/- The certificate of a method's words, by the reference (laws 41, 51, 57, 58). (Printed by mkmthu.py.) -/
import Derived.Test.YtclhblofchfglaaGreatRowCompareSolversG18
import Derived.Test.YtclhblofchfglaaGreatRowCompareSolversG17
import Derived.Test.YtclhblofchfglaaGreatRowCompareSolversG15
namespace Go.Proofs.YtclhblofchfglaaGreat
open Go.RowKit
set_option maxRecDepth 10000
def catW (ws:List (List Int)):Option (List Int):=if ws.all (validW 8) = true then shortW ws.flatten else none
theorem Zlj {ws:List (List Int)} (h:ws.all (validW 8) = true):ws.flatten.length<=200 * ws.length:=flat_le fun w hw=>Zfg (List.all_eq_true.1 h w hw)
theorem valid8 {m:Nat} (hm:m<=8) {w:List Int} (h1:w.length<=200) (h2:∀ l∈w,l∈ltrs m):validW 8 w = true:=
 Zkw h1 fun l hl=>Zga.2 (by have:=Zas.1 (h2 l hl);omega)
theorem Zge (w:World) (e:TypeId) {g:Nat} (hg:g = w.heap.size):Rd (w.alloc (.cells #[] e)) (.slice (some ⟨g,0,none⟩) 0 0) ([]:List Int) [g]/\Fresh w.heap.size (w.alloc (.cells #[] e)) [g]:=by
 subst hg
 have hA:=AccI.made w w.heap.size e rfl (Nat.le_refl _)
 exact ⟨by simpa [Value.ownBlock] using hA.rd,by simpa [Value.ownBlock] using hA.fresh⟩
set_option maxHeartbeats 4000000 in
theorem Zbi (v:Value) (ws:List (List Int)) (fw:List Nat) (w:World) (h:Rd w v ws fw) (hl:ws.length<=1000) :
  Calls Tryz.prog 32 #[v] w fun e w'=>∃ u fu,e = .returned (.tuple #[u,.bool (catW ws).isSome])/\Rd w' u ((catW ws).getD []) fu/\Fresh w.heap.size w' fu/\Only [] w w':=by
 obtain ⟨i0,hi,hz0,hz1,hz2⟩:=info_parts Tryz.info2
 obtain ⟨a,cap,ob,fps,rfl,-,S⟩:=h.open_
 have hb:=S.bound
 go_enter Tryz.func32,Tryz.ntmps32
 go_wp2
 go_loopw [4,5] (fun o i wr=>∃ j:Nat,j<=ws.length/\i = .int .i64 j/\(ws.take j).all (validW 8) = true/\AccI w.heap.size 2 wr o (ws.take j).flatten/\Only [] w wr)
  (fun _ i _=>ws.length - (intOf i).toNat)
 case atStart=>exact ⟨0,Nat.zero_le _,rfl,rfl,AccI.made w w.heap.size 2 rfl (Nat.le_refl _),zO.alloc _⟩
 case round=>
  obtain ⟨W2,hnew⟩:∃ W,W = wr:=⟨_,rfl⟩
  subst hnew
  obtain ⟨j,hj,rfl,hv,hA,hK⟩:=hrel
  have HA:=zH hA
  have Hv:=zH hv
  by_cases hlt:j < ws.length
  ·obtain ⟨b,off,u,rfl,-,hc,hu⟩:=S.atRow j hlt
   have hu2:Rd W2 u ws[j] _:=zK hu hK
   obtain ⟨a1,c1,rfl,I1⟩:=hu2.ints
   have hc2:=hK.cell (by simp) hc
   have e1:=Zid ws j hlt
   obtain ⟨R,hR⟩:∃ R,R = ws[j]:=⟨_,rfl⟩
   rw [<- hR] at hc2 I1 e1
   have hIw:∀ W,Only [] W2 W->Calls Tryz.prog 62 #[.slice a1 R.length c1] W fun e w'=>e = .returned (.bool (validW 8 R))/\Only [] W w':=fun W hW=>(Zfa _ R _ W (I1.keep hW).rd).mono fun e w' hh=>⟨hh.1,hh.2.only []⟩
   have HIw:=zH hIw
   clear hIw
   rcases hval:validW 8 R
   ·have Hn:=zH (show catW ws = none by
     unfold catW
     rw [if_neg]
     intro hall
     have:=List.all_eq_true.1 hall ws[j] (List.getElem_mem _)
     rw [<- hR,hval] at this;cases this)
    have Hval:=zH hval
    clear hv hA hc hu hu2 e1 hR hval I1
    go_wp2_with (first
     | (go_at_call 62;(with_reducible refine (HIw.out _ zO).mono ?_);rintro e w3 ⟨he,t3⟩;rw [Hval.out] at he;subst he)
     | fail)
    obtain ⟨hE,hF⟩:=Zge w3 2 rfl
    exact bodyPost_ret (v:=.tuple #[.slice (some ⟨w3.heap.size,0,none⟩) 0 0,.bool false]) (by simp [results,Tryz.results32,go_sem]) rfl ⟨_,[w3.heap.size],by rw [Hn.out];rfl,by rw [Hn.out];exact hE,hF.mono (hK.trans t3).size,(hK.trans t3).alloc _⟩
   ·have hv1:(ws.take (j + 1)).all (validW 8) = true:=by
     rw [Zac ws j hlt,List.all_append,hv,<- hR];simp [hval]
    have hsum:=Zlj hv1
    rw [e1,List.length_append,List.length_take] at hsum
    have Hv1:=zH hv1
    have Hval:=zH hval
    have E1:=zH e1
    have hsum2:(ws.take j).flatten.length + R.length<=1000000:=by omega
    clear hv hA hc hu hu2 e1 hR hval hv1 hsum
    go_upto_region 7 with (first
     | (go_at_call 62;(with_reducible refine (HIw.out _ zO).mono ?_);rintro e w3 ⟨he,t3⟩;rw [Hval.out] at he;subst he)
     | fail)
    obtain ⟨hO,hI⟩:=(HA.out.keep t3).row
    have I3:=I1.keep t3
    obtain ⟨q1,q2⟩:=Zfs I3
    have hK3:=hK.trans t3
    have hsz:=hK3.size
    have hc3:=t3.cell (by simp) hc2
    obtain ⟨D,hD⟩:∃ D,D = (ws.take j).flatten:=⟨_,rfl⟩
    rw [<- hD] at hO hI hsum2 E1
    have HO:=zH hO
    have HIR:=zH (show ∀ y∈D ++ R,I64 y from fun y hy=>by
     rcases List.mem_append.1 hy with hy | hy
     ·exact hI y hy
     ·exact I3.wf y hy)
    clear hO hI hD HA hc2
    go_wp2_with (at_builtin;refine Zbr _ rfl _ _ 25 rfl w.heap.size 2 i0 _ 1 8 Tryz.underlying25 hi hz0 hz1 hz2 rfl (by omega) u4 D.length (D.map (Value.int .i64)) rfl HO.out a1 R.length c1 (R.map (Value.int .i64)) rfl (by simp) q1 q2 (Zfq R) (by unfold maxLen;omega) (by omega) hsz ?_;intro v5 w5 hO5 hg5 hb5)
    have hK5:Only [] w w5:=hK3.grown hg5 (fun k hk hlt=>by
     have h8:=AccI.ofRow (l:=D) HO.out (fun y hy=>HIR.out y (List.mem_append_left _ hy))
     have:=(h8.ownlt k hk).1
     omega)
    rw [<- List.map_append,<- List.length_append] at hO5
    have hA5:=AccI.ofRow hO5 HIR.out
    go_roundw
    case rel=>exact ⟨j + 1,by omega,by go_num,Hv1.out,by rw [E1.out];exact hA5,hK5⟩
    case measure=>simp [intOf];omega
  ·have hje:j = ws.length:=by omega
   rw [hje,List.take_length] at hA hv
   have hsum:=Zlj hv
   have hcat:catW ws = shortW ws.flatten:=if_pos hv
   obtain ⟨fl,hfl⟩:∃ fl,fl = ws.flatten:=⟨_,rfl⟩
   rw [<- hfl] at hcat hA hsum
   have hjI:¬ (j:Int) < (ws.length:Int):=by omega
   obtain ⟨a4,c4,hu4⟩:=hA.form
   have HA':=zH hA
   by_cases h200:fl.length<=200
   ·rw [Zlb h200] at hcat
    have Hn:=zH hcat
    have hlI:¬ ((200:Int) < (fl.length:Int)):=by omega
    clear hv hA hcat hfl HA Hv hje
    subst hu4
    go_wp2
    exact bodyPost_ret (v:=.tuple #[.slice a4 fl.length c4,.bool true]) (by simp [results,Tryz.results32,go_sem]) rfl ⟨_,by rw [Hn.out];rfl,(Value.slice a4 fl.length c4).ownBlock.toList,by rw [Hn.out];exact HA'.out.rd,HA'.out.fresh,hK⟩
   ·rw [Zna h200] at hcat
    have Hn:=zH hcat
    have hlI:(200:Int) < (fl.length:Int):=by omega
    clear hv hA hcat hfl HA Hv hje
    subst hu4
    go_wp2
    obtain ⟨hE,hF⟩:=Zge W2 2 rfl
    exact bodyPost_ret (v:=.tuple #[.slice (some ⟨W2.heap.size,0,none⟩) 0 0,.bool false]) (by simp [results,Tryz.results32,go_sem]) rfl ⟨_,by rw [Hn.out];rfl,[W2.heap.size],by rw [Hn.out];exact hE,hF.mono hK.size,hK.alloc _⟩
theorem Zuw {x:Puzzle} {goals:List (List Int)} {s:List Int} {ws:List (List Int)} (h:mthX x goals s = some ws):catW ws = mthC x goals s/\ws.length<=5:=by
 rw [Zmo h]
 obtain ⟨t,he,hr,hm,hw,hl⟩:=Zhk h
 obtain ⟨hb,-⟩:=Zad he
 obtain ⟨-,m2,m3,-,-⟩:=Zch hm
 obtain ⟨i0,hi0,hp0⟩:=List.getElem_of_mem ((Zak he).2 hr)
 have e1:t.patterns.getD i0 [] = s:=by rw [Zab hi0,hp0]
 have hlet:=Zfu he goals m3 i0 hi0
 rw [e1,<- hw] at hlet
 have hall:ws.all (validW 8) = true:=List.all_eq_true.2 fun w hw=>valid8 (by have:=Zae hb.v;omega) (hl w hw) (hlet w hw)
 refine ⟨if_pos hall,?_⟩
 rw [hw,Zjl];omega
set_option maxHeartbeats 4000000 in
theorem Zex (cs:List Value) (x:Puzzle) (fp:List Nat) (v:Value) (goals:List (List Int)) (fg:List Nat) (u:Value) (s:List Int) (fs0:List Nat) (w:World) (h:Rp.rep w cs x fp) (hg:Rd w v goals fg) (hs:Rd w u s fs0) :
  Calls Tryz.prog 9 #[.agg cs.toArray,v,u] w fun e w'=>∃ cs' fp',e = .returned (.tuple #[.agg (List.toArray cs'),.bool (mthC x goals s).isSome])/\Rp.rep w' cs' (wCert (mthC x goals s)) fp'/\Fresh w.heap.size w' fp'/\Only [] w w':=by
 have h0:=h
 obtain ⟨v2,rfl,p0,p1,h2⟩:=h
 clear p0 p1 h2
 have Y0:Blk ((w.alloc (.cells #[.int .i64 x.points,.string x.names,v2] 33)).alloc (.cells #[.int .i64 0,.slice none 0 0,.slice none 0 0,.slice none 0 0] 30)) (w.heap.size + 1) [.int .i64 0,.slice none 0 0,.slice none 0 0,.slice none 0 0]:=Blk.new_at (by simp)
 have X0:Blk ((w.alloc (.cells #[.int .i64 x.points,.string x.names,v2] 33)).alloc (.cells #[.int .i64 0,.slice none 0 0,.slice none 0 0,.slice none 0 0] 30)) w.heap.size [.int .i64 x.points,.string x.names,v2]:=(Blk.new w [.int .i64 x.points,.string x.names,v2] 33).keep (zO.alloc _)
 obtain ⟨x0,x1,x2⟩:=X0.c3
 rcases hm:mthX x goals s with _ | ws
 ·have Hn:=zH (Znb hm)
  have Hm:=zH hm
  clear hm
  go_enter Tryz.func9,Tryz.ntmps9
  go_wp2_with (first
   | (go_at_call 31;(with_reducible refine (Zbx [.int .i64 x.points,.string x.names,v2] x _ _ goals _ _ s _ _ (zK h0 zA) (zK hg zA) (zK hs zA)).mono ?_);rintro e w1 ⟨z,fz,he,rz,-,t1⟩;rw [Hm.out] at he rz;subst he;simp only [Option.getD] at rz;have Y1:=Y0.keep t1)
   | (go_at_call 32;(with_reducible refine (Zbi z [] fz _ rz (by simp)).mono ?_);rintro e w2 ⟨u2,f2,rfl,-,-,t2⟩;have Y9:=Y1.keep t2;obtain ⟨g0,g1,g2,g3⟩:=Y9.c4;obtain ⟨p0,p1,p2,p3⟩:=Y9.f4)
   | fail)
  have K2:Only [] w w2:=zA
  have Yf:=(((Y9.set 0 (.int .i64 0)).set 1 (.slice none 0 0)).set 2 (.slice none 0 0)).set 3 (.slice none 0 0)
  have kf:Only [w.heap.size + 1] w2 ((((w2.setCell ⟨w.heap.size + 1,0,none⟩ (.int .i64 0)).setCell ⟨w.heap.size + 1,1,none⟩ (.slice none 0 0)).setCell ⟨w.heap.size + 1,2,none⟩ (.slice none 0 0)).setCell ⟨w.heap.size + 1,3,none⟩ (.slice none 0 0)):=(((zO.setCell (by simp) _).setCell (by simp) _).setCell (by simp) _).setCell (by simp) _
  obtain ⟨wf,hwf⟩:∃ wf,wf = ((((w2.setCell ⟨w.heap.size + 1,0,none⟩ (.int .i64 0)).setCell ⟨w.heap.size + 1,1,none⟩ (.slice none 0 0)).setCell ⟨w.heap.size + 1,2,none⟩ (.slice none 0 0)).setCell ⟨w.heap.size + 1,3,none⟩ (.slice none 0 0)):=⟨_,rfl⟩
  rw [<- hwf] at Yf kf ⊢
  simp only [List.set] at Yf
  clear hwf g0 g1 g2 g3 p0 p1 p2 p3
  obtain ⟨z0,z1,z2,z3⟩:=Yf.c4
  refine bodyPost_ret (v:=.tuple #[.agg #[.int .i64 0,.slice none 0 0,.slice none 0 0,.slice none 0 0],.bool false]) (by simp [results,Tryz.results9,go_sem,z0,z1,z2,z3]) rfl ⟨[.int .i64 0,.slice none 0 0,.slice none 0 0,.slice none 0 0],[],by rw [Hn.out];rfl,by rw [Hn.out];exact Zbl _,Fresh.nil _ _,K2.then_ kf (by simp)⟩
 ·obtain ⟨hcat,hwl⟩:=Zuw hm
  have Hm:=zH hm
  rcases hc:mthC x goals s with _ | fl
  ·rw [hc] at hcat
   have Hn:=zH hc
   have Hc:=zH hcat
   clear hm hc hcat
   go_enter Tryz.func9,Tryz.ntmps9
   go_wp2_with (first
    | (go_at_call 31;(with_reducible refine (Zbx [.int .i64 x.points,.string x.names,v2] x _ _ goals _ _ s _ _ (zK h0 zA) (zK hg zA) (zK hs zA)).mono ?_);rintro e w1 ⟨z,fz,he,rz,-,t1⟩;rw [Hm.out] at he rz;subst he;simp only [Option.getD] at rz;have Y1:=Y0.keep t1)
    | (go_at_call 32;(with_reducible refine (Zbi z ws fz _ rz (by omega)).mono ?_);rintro e w2 ⟨u2,f2,he,-,-,t2⟩;rw [Hc.out] at he;subst he;have Y9:=Y1.keep t2;obtain ⟨g0,g1,g2,g3⟩:=Y9.c4;obtain ⟨p0,p1,p2,p3⟩:=Y9.f4)
    | fail)
   have K2:Only [] w w2:=zA
   have Yf:=(((Y9.set 0 (.int .i64 0)).set 1 (.slice none 0 0)).set 2 (.slice none 0 0)).set 3 (.slice none 0 0)
   have kf:Only [w.heap.size + 1] w2 ((((w2.setCell ⟨w.heap.size + 1,0,none⟩ (.int .i64 0)).setCell ⟨w.heap.size + 1,1,none⟩ (.slice none 0 0)).setCell ⟨w.heap.size + 1,2,none⟩ (.slice none 0 0)).setCell ⟨w.heap.size + 1,3,none⟩ (.slice none 0 0)):=(((zO.setCell (by simp) _).setCell (by simp) _).setCell (by simp) _).setCell (by simp) _
   obtain ⟨wf,hwf⟩:∃ wf,wf = ((((w2.setCell ⟨w.heap.size + 1,0,none⟩ (.int .i64 0)).setCell ⟨w.heap.size + 1,1,none⟩ (.slice none 0 0)).setCell ⟨w.heap.size + 1,2,none⟩ (.slice none 0 0)).setCell ⟨w.heap.size + 1,3,none⟩ (.slice none 0 0)):=⟨_,rfl⟩
   rw [<- hwf] at Yf kf ⊢
   simp only [List.set] at Yf
   clear hwf g0 g1 g2 g3 p0 p1 p2 p3
   obtain ⟨z0,z1,z2,z3⟩:=Yf.c4
   refine bodyPost_ret (v:=.tuple #[.agg #[.int .i64 0,.slice none 0 0,.slice none 0 0,.slice none 0 0],.bool false]) (by simp [results,Tryz.results9,go_sem,z0,z1,z2,z3]) rfl ⟨[.int .i64 0,.slice none 0 0,.slice none 0 0,.slice none 0 0],[],rfl,Zbl _,Fresh.nil _ _,K2.then_ kf (by simp)⟩
  ·rw [hc] at hcat
   have Hn:=zH hc
   have Hc:=zH hcat
   clear hm hc hcat
   go_enter Tryz.func9,Tryz.ntmps9
   go_wp2_with (first
    | (go_at_call 31;(with_reducible refine (Zbx [.int .i64 x.points,.string x.names,v2] x _ _ goals _ _ s _ _ (zK h0 zA) (zK hg zA) (zK hs zA)).mono ?_);rintro e w1 ⟨z,fz,he,rz,-,t1⟩;rw [Hm.out] at he rz;subst he;simp only [Option.getD] at rz;have Y1:=Y0.keep t1)
    | (go_at_call 32;(with_reducible refine (Zbi z ws fz _ rz (by omega)).mono ?_);rintro e w2 ⟨u2,f2,he,r2,-,t2⟩;rw [Hc.out] at he r2;subst he;simp only [Option.getD] at r2;have Y2:=Y1.keep t2)
    | (go_at_call 33;(with_reducible refine (Zgy u2 fl _ _ r2).mono ?_);rintro e w4 ⟨cs4,f4,rfl,r4,F4,t4⟩;have rr:=id r4;obtain ⟨v1,v2,v3,e1,e2,e3,rfl,-,i1,s1,s2,s3⟩:=r4;simp only [List.cons_append,List.nil_append] at rr;obtain ⟨b1,k1,_,_,rfl,-,-⟩:=s1.open_;obtain ⟨b2,k2,_,_,rfl,-,-⟩:=s2.open_;obtain ⟨b3,k3,_,_,rfl,-,-⟩:=s3.open_;have Y9:=Y2.keep t4;obtain ⟨g0,g1,g2,g3⟩:=Y9.c4;obtain ⟨p0,p1,p2,p3⟩:=Y9.f4)
    | fail)
   have K4:Only [] w w4:=zA
   have hz1:=t1.size
   have hz2:=t2.size
   simp at hz1
   have hFg:∀ g∈f4,g ∉ [w.heap.size + 1]:=fun g hg hm=>by have:=F4.ge g hg;simp at hm;omega
   have Yf:=(((Y9.set 0 (.int .i64 (solCert fl).kind)).set 1 (.slice b1 (solCert fl).numbers.length k1)).set 2 (.slice b2 (solCert fl).words.length k2)).set 3 (.slice b3 (solCert fl).tables.length k3)
   have kf:Only [w.heap.size + 1] w4 ((((w4.setCell ⟨w.heap.size + 1,0,none⟩ (.int .i64 (solCert fl).kind)).setCell ⟨w.heap.size + 1,1,none⟩ (.slice b1 (solCert fl).numbers.length k1)).setCell ⟨w.heap.size + 1,2,none⟩ (.slice b2 (solCert fl).words.length k2)).setCell ⟨w.heap.size + 1,3,none⟩ (.slice b3 (solCert fl).tables.length k3)):=(((zO.setCell (by simp) _).setCell (by simp) _).setCell (by simp) _).setCell (by simp) _
   obtain ⟨wf,hwf⟩:∃ wf,wf = ((((w4.setCell ⟨w.heap.size + 1,0,none⟩ (.int .i64 (solCert fl).kind)).setCell ⟨w.heap.size + 1,1,none⟩ (.slice b1 (solCert fl).numbers.length k1)).setCell ⟨w.heap.size + 1,2,none⟩ (.slice b2 (solCert fl).words.length k2)).setCell ⟨w.heap.size + 1,3,none⟩ (.slice b3 (solCert fl).tables.length k3)):=⟨_,rfl⟩
   rw [<- hwf] at Yf kf ⊢
   simp only [List.set] at Yf
   clear hwf g0 g1 g2 g3 p0 p1 p2 p3
   obtain ⟨z0,z1,z2,z3⟩:=Yf.c4
   refine bodyPost_ret (v:=.tuple #[.agg #[.int .i64 (solCert fl).kind,.slice b1 (solCert fl).numbers.length k1,.slice b2 (solCert fl).words.length k2,.slice b3 (solCert fl).tables.length k3],.bool true]) (by simp [results,Tryz.results9,go_sem,z0,z1,z2,z3]) rfl ⟨[.int .i64 (solCert fl).kind,.slice b1 (solCert fl).numbers.length k1,.slice b2 (solCert fl).words.length k2,.slice b3 (solCert fl).tables.length k3],f4,rfl,Rp.only rr kf hFg,(F4.mono (by omega)).only kf hFg,K4.then_ kf (by simp)⟩
theorem Ztg {x:Puzzle} {sub s:List Int} {p:List Int × List Int} (h:twX x sub s = some p):∃ t ts,expl x = some t/\expl (subP x sub) = some ts/\reachB x s = true/\trackB x.moves.length sub = true/\p = (twW1 x t ts s,twW2 x sub t ts s):=by
 unfold twX at h
 cases he:expl x with
 | none=>rw [he] at h;cases h
 | some t=>
  cases h2:expl (subP x sub) with
  | none=>rw [he,h2] at h;cases h
  | some ts=>
   rw [he,h2] at h
   simp only at h
   split at h
   ·rename_i hc
    rw [Bool.and_eq_true] at hc
    split at h
    ·injection h with h
     exact ⟨t,ts,rfl,rfl,hc.1,hc.2,h.symm⟩
    ·cases h
   ·cases h
theorem twX_cat {x:Puzzle} {sub s:List Int} {W1 W2:List Int} (h:twX x sub s = some (W1,W2)):catW [W1,W2] = twC x sub s:=by
 rw [Zpv h]
 obtain ⟨l1,l2⟩:=twX_len h
 obtain ⟨t,ts,he,h2,hr,ht,hp⟩:=Ztg h
 injection hp with hp1 hp2
 obtain ⟨hb,-⟩:=Zad he
 obtain ⟨i0,hi0,hp0⟩:=List.getElem_of_mem ((Zak he).2 hr)
 have e1:t.patterns.getD i0 [] = s:=by rw [Zab hi0,hp0]
 obtain ⟨-,a,-,-,-,-,-,-,-,-,b,-⟩:=Zhv he ht h2 hi0
 rw [e1] at a b
 have h8:x.moves.length<=8:=by have:=Zae hb.v;omega
 refine if_pos (List.all_eq_true.2 fun w hw=>?_)
 rcases List.mem_cons.1 hw with rfl | hw
 ·exact valid8 h8 l1 (by rw [hp1];exact a)
 ·rcases List.mem_cons.1 hw with rfl | hw
  ·exact valid8 h8 l2 (by
    rw [hp2]
    intro q hq
    obtain ⟨q',hq',rfl⟩:=List.mem_map.1 hq
    exact Zqp ht (b q' hq'))
  ·cases hw
set_option maxHeartbeats 4000000 in
theorem Zee (cs:List Value) (x:Puzzle) (fp:List Nat) (v:Value) (sub:List Int) (fg:List Nat) (u:Value) (s:List Int) (fs0:List Nat) (w:World) (h:Rp.rep w cs x fp) (hg:Rd w v sub fg) (hs:Rd w u s fs0) :
  Calls Tryz.prog 23 #[.agg cs.toArray,v,u] w fun e w'=>∃ cs' fp',e = .returned (.tuple #[.agg (List.toArray cs'),.bool (twC x sub s).isSome])/\Rp.rep w' cs' (wCert (twC x sub s)) fp'/\Fresh w.heap.size w' fp'/\Only [] w w':=by
 have h0:=h
 obtain ⟨v2,rfl,p0,p1,h2⟩:=h
 clear p0 p1 h2
 have Y0:Blk ((w.alloc (.cells #[.int .i64 x.points,.string x.names,v2] 33)).alloc (.cells #[.int .i64 0,.slice none 0 0,.slice none 0 0,.slice none 0 0] 30)) (w.heap.size + 1) [.int .i64 0,.slice none 0 0,.slice none 0 0,.slice none 0 0]:=Blk.new_at (by simp)
 have X0:Blk ((w.alloc (.cells #[.int .i64 x.points,.string x.names,v2] 33)).alloc (.cells #[.int .i64 0,.slice none 0 0,.slice none 0 0,.slice none 0 0] 30)) w.heap.size [.int .i64 x.points,.string x.names,v2]:=(Blk.new w [.int .i64 x.points,.string x.names,v2] 33).keep (zO.alloc _)
 obtain ⟨x0,x1,x2⟩:=X0.c3
 rcases hm:twX x sub s with _ | p
 ·have Hn:=zH (Zpj hm)
  have Hm:=zH hm
  clear hm
  go_enter Tryz.func23,Tryz.ntmps23
  go_wp2_with (first
   | (go_at_call 40;(with_reducible refine (Zby [.int .i64 x.points,.string x.names,v2] x _ _ sub _ _ s _ _ (zK h0 zA) (zK hg zA) (zK hs zA)).mono ?_);rintro e w1 ⟨z1,z2,q1,q2,he,r1,r2,t1⟩;rw [Hm.out] at he r1 r2;subst he;simp only [Option.getD] at r1 r2;obtain ⟨a1,c1,rfl,i1⟩:=r1.ints;obtain ⟨a2,c2,rfl,i2⟩:=r2.ints;have Y1:=Y0.keep t1;have rz:=Zhq r1 r2 25 rfl;simp only [List.length_nil] at rz;have ka:Only [] w1 (w1.alloc (.cells #[.slice a1 0 c1,.slice a2 0 c2] 25)):=zO.alloc _)
   | (go_at_call 32;(with_reducible refine (Zbi _ [[],[]] _ _ rz (by simp)).mono ?_);rintro e w2 ⟨u2,f2,rfl,-,-,t2⟩;have Y9:=(Y1.keep ka).keep t2;obtain ⟨g0,g1,g2,g3⟩:=Y9.c4;obtain ⟨p0,p1,p2,p3⟩:=Y9.f4)
   | fail)
  have K2:Only [] w w2:=zA
  have Yf:=(((Y9.set 0 (.int .i64 0)).set 1 (.slice none 0 0)).set 2 (.slice none 0 0)).set 3 (.slice none 0 0)
  have kf:Only [w.heap.size + 1] w2 ((((w2.setCell ⟨w.heap.size + 1,0,none⟩ (.int .i64 0)).setCell ⟨w.heap.size + 1,1,none⟩ (.slice none 0 0)).setCell ⟨w.heap.size + 1,2,none⟩ (.slice none 0 0)).setCell ⟨w.heap.size + 1,3,none⟩ (.slice none 0 0)):=(((zO.setCell (by simp) _).setCell (by simp) _).setCell (by simp) _).setCell (by simp) _
  obtain ⟨wf,hwf⟩:∃ wf,wf = ((((w2.setCell ⟨w.heap.size + 1,0,none⟩ (.int .i64 0)).setCell ⟨w.heap.size + 1,1,none⟩ (.slice none 0 0)).setCell ⟨w.heap.size + 1,2,none⟩ (.slice none 0 0)).setCell ⟨w.heap.size + 1,3,none⟩ (.slice none 0 0)):=⟨_,rfl⟩
  rw [<- hwf] at Yf kf ⊢
  simp only [List.set] at Yf
  clear hwf g0 g1 g2 g3 p0 p1 p2 p3
  obtain ⟨z0,z1,z2,z3⟩:=Yf.c4
  refine bodyPost_ret (v:=.tuple #[.agg #[.int .i64 0,.slice none 0 0,.slice none 0 0,.slice none 0 0],.bool false]) (by simp [results,Tryz.results23,go_sem,z0,z1,z2,z3]) rfl ⟨[.int .i64 0,.slice none 0 0,.slice none 0 0,.slice none 0 0],[],by rw [Hn.out];rfl,by rw [Hn.out];exact Zbl _,Fresh.nil _ _,K2.then_ kf (by simp)⟩
 ·obtain ⟨W1,W2⟩:=p
  have hcat:=twX_cat hm
  have Hm:=zH hm
  rcases hc:twC x sub s with _ | fl
  ·rw [hc] at hcat
   have Hn:=zH hc
   have Hc:=zH hcat
   clear hm hc hcat
   go_enter Tryz.func23,Tryz.ntmps23
   go_wp2_with (first
    | (go_at_call 40;(with_reducible refine (Zby [.int .i64 x.points,.string x.names,v2] x _ _ sub _ _ s _ _ (zK h0 zA) (zK hg zA) (zK hs zA)).mono ?_);rintro e w1 ⟨z1,z2,q1,q2,he,r1,r2,t1⟩;rw [Hm.out] at he r1 r2;subst he;simp only [Option.getD] at r1 r2;obtain ⟨a1,c1,rfl,i1⟩:=r1.ints;obtain ⟨a2,c2,rfl,i2⟩:=r2.ints;have Y1:=Y0.keep t1;have rz:=Zhq r1 r2 25 rfl;have ka:Only [] w1 (w1.alloc (.cells #[.slice a1 W1.length c1,.slice a2 W2.length c2] 25)):=zO.alloc _)
    | (go_at_call 32;(with_reducible refine (Zbi _ [W1,W2] _ _ rz (by simp)).mono ?_);rintro e w2 ⟨u2,f2,he,-,-,t2⟩;rw [Hc.out] at he;subst he;have Y9:=(Y1.keep ka).keep t2;obtain ⟨g0,g1,g2,g3⟩:=Y9.c4;obtain ⟨p0,p1,p2,p3⟩:=Y9.f4)
    | fail)
   have K2:Only [] w w2:=zA
   have Yf:=(((Y9.set 0 (.int .i64 0)).set 1 (.slice none 0 0)).set 2 (.slice none 0 0)).set 3 (.slice none 0 0)
   have kf:Only [w.heap.size + 1] w2 ((((w2.setCell ⟨w.heap.size + 1,0,none⟩ (.int .i64 0)).setCell ⟨w.heap.size + 1,1,none⟩ (.slice none 0 0)).setCell ⟨w.heap.size + 1,2,none⟩ (.slice none 0 0)).setCell ⟨w.heap.size + 1,3,none⟩ (.slice none 0 0)):=(((zO.setCell (by simp) _).setCell (by simp) _).setCell (by simp) _).setCell (by simp) _
   obtain ⟨wf,hwf⟩:∃ wf,wf = ((((w2.setCell ⟨w.heap.size + 1,0,none⟩ (.int .i64 0)).setCell ⟨w.heap.size + 1,1,none⟩ (.slice none 0 0)).setCell ⟨w.heap.size + 1,2,none⟩ (.slice none 0 0)).setCell ⟨w.heap.size + 1,3,none⟩ (.slice none 0 0)):=⟨_,rfl⟩
   rw [<- hwf] at Yf kf ⊢
   simp only [List.set] at Yf
   clear hwf g0 g1 g2 g3 p0 p1 p2 p3
   obtain ⟨z0,z1,z2,z3⟩:=Yf.c4
   refine bodyPost_ret (v:=.tuple #[.agg #[.int .i64 0,.slice none 0 0,.slice none 0 0,.slice none 0 0],.bool false]) (by simp [results,Tryz.results23,go_sem,z0,z1,z2,z3]) rfl ⟨[.int .i64 0,.slice none 0 0,.slice none 0 0,.slice none 0 0],[],rfl,Zbl _,Fresh.nil _ _,K2.then_ kf (by simp)⟩
  ·rw [hc] at hcat
   have Hn:=zH hc
   have Hc:=zH hcat
   clear hm hc hcat
   go_enter Tryz.func23,Tryz.ntmps23
   go_wp2_with (first
    | (go_at_call 40;(with_reducible refine (Zby [.int .i64 x.points,.string x.names,v2] x _ _ sub _ _ s _ _ (zK h0 zA) (zK hg zA) (zK hs zA)).mono ?_);rintro e w1 ⟨z1,z2,q1,q2,he,r1,r2,t1⟩;rw [Hm.out] at he r1 r2;subst he;simp only [Option.getD] at r1 r2;obtain ⟨a1,c1,rfl,i1⟩:=r1.ints;obtain ⟨a2,c2,rfl,i2⟩:=r2.ints;have Y1:=Y0.keep t1;have rz:=Zhq r1 r2 25 rfl;have ka:Only [] w1 (w1.alloc (.cells #[.slice a1 W1.length c1,.slice a2 W2.length c2] 25)):=zO.alloc _)
    | (go_at_call 32;(with_reducible refine (Zbi _ [W1,W2] _ _ rz (by simp)).mono ?_);rintro e w2 ⟨u2,f2,he,r2',-,t2⟩;rw [Hc.out] at he r2';subst he;simp only [Option.getD] at r2';have Y2:=(Y1.keep ka).keep t2)
    | (go_at_call 33;(with_reducible refine (Zgy u2 fl _ _ r2').mono ?_);rintro e w4 ⟨cs4,f4,rfl,r4,F4,t4⟩;have rr:=id r4;obtain ⟨v1,v2,v3,e1,e2,e3,rfl,-,i1,s1,s2,s3⟩:=r4;simp only [List.cons_append,List.nil_append] at rr;obtain ⟨b1,k1,_,_,rfl,-,-⟩:=s1.open_;obtain ⟨b2,k2,_,_,rfl,-,-⟩:=s2.open_;obtain ⟨b3,k3,_,_,rfl,-,-⟩:=s3.open_;have Y9:=Y2.keep t4;obtain ⟨g0,g1,g2,g3⟩:=Y9.c4;obtain ⟨p0,p1,p2,p3⟩:=Y9.f4)
    | fail)
   have K4:Only [] w w4:=zA
   have hz1:=t1.size
   have hz2:=t2.size
   simp at hz1 hz2
   have hFg:∀ g∈f4,g ∉ [w.heap.size + 1]:=fun g hg hm=>by have:=F4.ge g hg;simp at hm;omega
   have Yf:=(((Y9.set 0 (.int .i64 (solCert fl).kind)).set 1 (.slice b1 (solCert fl).numbers.length k1)).set 2 (.slice b2 (solCert fl).words.length k2)).set 3 (.slice b3 (solCert fl).tables.length k3)
   have kf:Only [w.heap.size + 1] w4 ((((w4.setCell ⟨w.heap.size + 1,0,none⟩ (.int .i64 (solCert fl).kind)).setCell ⟨w.heap.size + 1,1,none⟩ (.slice b1 (solCert fl).numbers.length k1)).setCell ⟨w.heap.size + 1,2,none⟩ (.slice b2 (solCert fl).words.length k2)).setCell ⟨w.heap.size + 1,3,none⟩ (.slice b3 (solCert fl).tables.length k3)):=(((zO.setCell (by simp) _).setCell (by simp) _).setCell (by simp) _).setCell (by simp) _
   obtain ⟨wf,hwf⟩:∃ wf,wf = ((((w4.setCell ⟨w.heap.size + 1,0,none⟩ (.int .i64 (solCert fl).kind)).setCell ⟨w.heap.size + 1,1,none⟩ (.slice b1 (solCert fl).numbers.length k1)).setCell ⟨w.heap.size + 1,2,none⟩ (.slice b2 (solCert fl).words.length k2)).setCell ⟨w.heap.size + 1,3,none⟩ (.slice b3 (solCert fl).tables.length k3)):=⟨_,rfl⟩
   rw [<- hwf] at Yf kf ⊢
   simp only [List.set] at Yf
   clear hwf g0 g1 g2 g3 p0 p1 p2 p3
   obtain ⟨z0,z1,z2,z3⟩:=Yf.c4
   refine bodyPost_ret (v:=.tuple #[.agg #[.int .i64 (solCert fl).kind,.slice b1 (solCert fl).numbers.length k1,.slice b2 (solCert fl).words.length k2,.slice b3 (solCert fl).tables.length k3],.bool true]) (by simp [results,Tryz.results23,go_sem,z0,z1,z2,z3]) rfl ⟨[.int .i64 (solCert fl).kind,.slice b1 (solCert fl).numbers.length k1,.slice b2 (solCert fl).words.length k2,.slice b3 (solCert fl).tables.length k3],f4,rfl,Rp.only rr kf hFg,(F4.mono (by omega)).only kf hFg,K4.then_ kf (by simp)⟩
def WOk (o:Option (List Int)):Prop:=∀ l,o = some l->validW 8 l = true
theorem twC_ok (x:Puzzle) (sub s:List Int):WOk (twC x sub s):=fun l h=>by
 obtain ⟨hr,h1,h2,-⟩:=twC_sol h
 exact valid8 (by have:=Zae (Zie (Zdx hr));omega) h1 h2
theorem mthC_ok (x:Puzzle) (goals:List (List Int)) (s:List Int):WOk (mthC x goals s):=fun l h=>by
 obtain ⟨hr,h1,h2,-⟩:=Ztt h
 exact valid8 (by have:=Zae (Zie (Zdx hr));omega) h1 h2
theorem Zkh {l:List Int} (h:validW 8 l = true):wCert (some l) = ⟨1,[],[l],[]⟩:=by
 show solCert l = _
 unfold solCert
 rw [if_pos h]
set_option maxHeartbeats 1000000 in
theorem Zce (cs:List Value) (o:Option (List Int)) (fp:List Nat) (w:World) (h:Rp.rep w cs (wCert o) fp) (ho:WOk o) :
  Calls Tryz.prog 48 #[.agg cs.toArray,.bool o.isSome] w fun e w'=>e = .returned (.int .i64 (wLen o))/\Only [] w w':=by
 cases o with
 | none=>
  obtain ⟨v1,v2,v3,f1,f2,f3,rfl,-,-,-,-,-⟩:=h
  have Hf:=zH (show wLen none = -1 from rfl)
  rw [Hf.out]
  go_enter Tryz.func48,Tryz.ntmps48
  go_wp2
  go_ret
  exact ⟨rfl,zA⟩
 | some l=>
  rw [Zkh (ho l rfl)] at h
  obtain ⟨v1,v2,v3,f1,f2,f3,rfl,-,-,-,h2,-⟩:=h
  obtain ⟨A2,C2,ob,fps,rfl,-,S⟩:=h2.open_
  obtain ⟨b,off,ur,rfl,-,hc,hu⟩:=S.atRow 0 (by simp)
  have X0:Blk (w.alloc (.cells #[.int .i64 1,v1,.slice (some ⟨b,off,none⟩) 1 C2,v3] 30)) w.heap.size [.int .i64 1,v1,.slice (some ⟨b,off,none⟩) 1 C2,v3]:=Blk.new w _ _
  have ka:Only [] w (w.alloc (.cells #[.int .i64 1,v1,.slice (some ⟨b,off,none⟩) 1 C2,v3] 30)):=zO.alloc _
  have hcw:=ka.cell (by simp) hc
  have x2:=X0.cell 2 rfl
  simp only [Nat.add_zero] at hcw
  obtain ⟨fq,hu'⟩:∃ fq,Rd w ur l fq:=⟨_,hu⟩
  have Hu:=zH hu'
  clear hu'
  clear X0 hc S hu
  go_enter Tryz.func48,Tryz.ntmps48
  go_wp2_with (first
   | (go_at_call 47;(with_reducible refine (Zbg ur l _ _ (zK Hu.out zA)).mono ?_);rintro e w1 ⟨rfl,rfl⟩)
   | fail)
  go_ret
  exact ⟨rfl,zA⟩
set_option maxHeartbeats 1000000 in
theorem Zbq (cs:List Value) (o:Option (List Int)) (fp:List Nat) (w:World) (h:Rp.rep w cs (wCert o) fp) (ho:WOk o) :
  Calls Tryz.prog 44 #[.agg cs.toArray,.bool o.isSome] w fun e w'=>e = .returned (.int .i64 (wLen o))/\Only [] w w':=by
 cases o with
 | none=>
  obtain ⟨v1,v2,v3,f1,f2,f3,rfl,-,-,-,-,-⟩:=h
  have Hf:=zH (show wLen none = -1 from rfl)
  rw [Hf.out]
  go_enter Tryz.func44,Tryz.ntmps44
  go_wp2
  go_ret
  exact ⟨rfl,zA⟩
 | some l=>
  rw [Zkh (ho l rfl)] at h
  obtain ⟨v1,v2,v3,f1,f2,f3,rfl,-,-,-,h2,-⟩:=h
  obtain ⟨A2,C2,ob,fps,rfl,-,S⟩:=h2.open_
  obtain ⟨b,off,ur,rfl,-,hc,hu⟩:=S.atRow 0 (by simp)
  obtain ⟨fq,hu'⟩:∃ fq,Rd w ur l fq:=⟨_,hu⟩
  have Hu:=zH hu'
  clear hu'
  obtain ⟨au,cu,rfl,-⟩:=Hu.out.ints
  have X0:Blk (w.alloc (.cells #[.int .i64 1,v1,.slice (some ⟨b,off,none⟩) 1 C2,v3] 30)) w.heap.size [.int .i64 1,v1,.slice (some ⟨b,off,none⟩) 1 C2,v3]:=Blk.new w _ _
  have ka:Only [] w (w.alloc (.cells #[.int .i64 1,v1,.slice (some ⟨b,off,none⟩) 1 C2,v3] 30)):=zO.alloc _
  have hcw:=ka.cell (by simp) hc
  have x2:=X0.cell 2 rfl
  simp only [Nat.add_zero] at hcw
  clear X0 hc S hu
  go_enter Tryz.func44,Tryz.ntmps44
  go_wp2
  go_ret
  exact ⟨rfl,zA⟩
theorem Zaw {o:Option (List Int)} (h:WOk o):I64 (wLen o):=by
 cases o with
 | none=>show I64 (-1);unfold I64;omega
 | some l=>
  have:=Zfg (h l rfl)
  show I64 (l.length:Int)
  unfold I64;omega
theorem Zbs (w:World) (e:TypeId) {a b c:Int} {g:Nat} (hg:g = w.heap.size) (ha:I64 a) (hb:I64 b) (hc:I64 c):Rd (w.alloc (.cells #[.int .i64 a,.int .i64 b,.int .i64 c] e)) (.slice (some ⟨g,0,none⟩) 3 3) [a,b,c] [g]/\Fresh w.heap.size (w.alloc (.cells #[.int .i64 a,.int .i64 b,.int .i64 c] e)) [g]:=by
 subst hg
 have X:=Blk.new w [.int .i64 a,.int .i64 b,.int .i64 c] e
 refine ⟨IntsA.rd (l:=[a,b,c]) ⟨by simp,by simp [maxLen],?_,fun k hk=>?_,by simp,by simp⟩,⟨by simp,by simp,?_⟩⟩
 ·intro y hy
  simp at hy
  rcases hy with rfl | rfl | rfl <;> assumption
 ·match k,hk with
  | 0,_=>exact ⟨_,0,rfl,rfl,X.cell 0 rfl⟩
  | 1,_=>exact ⟨_,0,rfl,rfl,X.cell 1 rfl⟩
  | 2,_=>exact ⟨_,0,rfl,rfl,X.cell 2 rfl⟩
 ·intro b' hb'
  simp at hb'
  subst hb'
  obtain ⟨ty,hX⟩:=X
  exact ⟨_,ty,hX⟩
theorem optX_ok {x:Puzzle} {s l:List Int} (h:optX x s = some l):l.length<=200/\True:=by
 refine ⟨?_,trivial⟩
 have:=Zuq h
 omega
set_option maxHeartbeats 4000000 in
theorem Zgp (cs:List Value) (x:Puzzle) (fp:List Nat) (vb:Value) (sub:List Int) (fb:List Nat) (vg:Value) (goals:List (List Int)) (fg:List Nat) (u:Value) (s:List Int) (fs0:List Nat) (w:World) (h:Rp.rep w cs x fp) (hb:Rd w vb sub fb) (hg:Rd w vg goals fg) (hs:Rd w u s fs0) :
  Calls Tryz.prog 26 #[.agg cs.toArray,vb,vg,u] w fun e w'=>∃ z fz,e = .returned z/\Rd w' z (cmpX x sub goals s) fz/\Fresh w.heap.size w' fz/\Only [] w w':=by
 have h0:=h
 obtain ⟨v2,rfl,p0,p1,h3⟩:=h
 clear p0 p1 h3
 have X0:Blk (w.alloc (.cells #[.int .i64 x.points,.string x.names,v2] 33)) w.heap.size [.int .i64 x.points,.string x.names,v2]:=Blk.new w [.int .i64 x.points,.string x.names,v2] 33
 have X1t:Only [] w (w.alloc (.cells #[.int .i64 x.points,.string x.names,v2] 33)):=zO.alloc _
 rcases hq:stateB x s
 ·have Hn:=zH (show cmpX x sub goals s = [] by unfold cmpX;rw [if_neg (by rw [hq];simp)])
  have Hq:=zH hq
  clear hq
  go_enter Tryz.func26,Tryz.ntmps26
  go_wp2_with (first
   | (go_at_call 45;(with_reducible refine (Zdu [.int .i64 x.points,.string x.names,v2] x _ _ s _ _ (zK h0 zA) (zK hs zA)).mono ?_);rintro e w1 ⟨he,t1⟩;rw [Hq.out] at he;subst he)
   | fail)
  go_ret
  exact ⟨_,[],rfl,by rw [Hn.out];exact nil_rd _,Fresh.nil _ _,zA⟩
 ·have Hq:=zH hq
  rcases ho:optX x s with _ | l
  ·have Hn:=zH (show cmpX x sub goals s = [-1,wLen (twC x sub s),wLen (mthC x goals s)] by unfold cmpX;rw [if_pos hq,ho];rfl)
   have Ho:=zH ho
   have HI0:=zH (show I64 (-1) by unfold I64;omega)
   clear hq ho
   go_enter Tryz.func26,Tryz.ntmps26
   go_upto_region 7 with (first
    | (go_at_call 45;(with_reducible refine (Zdu [.int .i64 x.points,.string x.names,v2] x _ _ s _ _ (zK h0 zA) (zK hs zA)).mono ?_);rintro e w1 ⟨he,t1⟩;rw [Hq.out] at he;subst he;have X1:=X0.keep t1;obtain ⟨x0,x1,x2⟩:=X1.c3)
    | (go_at_call 46;(with_reducible refine (Zeh [.int .i64 x.points,.string x.names,v2] x _ _ s _ _ (zK h0 zA) (zK hs zA)).mono ?_);rintro e w2 ⟨z,fz,he,-,-,t2⟩;rw [Ho.out] at he;subst he)
    | fail)
   have K2:Only [] w w2:=(X1t.trans t1).trans t2
   have X2:=(X0.keep t1).keep t2
   obtain ⟨y0,y1,y2⟩:=X2.c3
   clear x0 x1 x2
   go_region_held3 (fun w'=>Only [] w2 w'/\w'.cell? ⟨w.heap.size,0,none⟩ = some (.int .i64 x.points)/\w'.cell? ⟨w.heap.size,1,none⟩ = some (.string x.names)/\w'.cell? ⟨w.heap.size,2,none⟩ = some (v2)) (((refine and_of ?_ (fun q_=>⟨q_.ce y0,q_.ce y1,q_.ce y2⟩));first | exact zO.drew | exact (zO.drewN _).drew | exact Only.trans (And.left (by assumption)) (by assumption) | exact Only.alloc (And.left (by assumption)) _ | assumption)) (first | (go_at_call 24;(with_reducible refine (Zdw [.int .i64 x.points,.string x.names,v2] x _ _ sub _ _ s _ _ (zK h0 (K2.trans (And.left (by assumption)))) (zK hb (K2.trans (And.left (by assumption)))) (zK hs (K2.trans (And.left (by assumption))))).mono ?_);rintro e w5 ⟨cs5,f5,rfl,r5,-,t5⟩) | (go_at_call 48;(with_reducible refine (Zce cs7 (mthC x goals s) f7 _ (zK r7 zA) (mthC_ok x goals s)).mono ?_);rintro e w8 ⟨rfl,t8⟩) | (go_at_call 13;(with_reducible refine (Zes [.int .i64 x.points,.string x.names,v2] x _ _ goals _ _ s _ _ (zK h0 (K2.trans (And.left (by assumption)))) (zK hg (K2.trans (And.left (by assumption)))) (zK hs (K2.trans (And.left (by assumption))))).mono ?_);rintro e w7 ⟨cs7,f7,rfl,r7,-,t7⟩) | (go_at_call 48;(with_reducible refine (Zce cs5 (twC x sub s) f5 _ (zK r5 zA) (twC_ok x sub s)).mono ?_);rintro e w6 ⟨rfl,t6⟩) | fail)
   go_wp2
   go_ret
   exact ⟨_,_,rfl,by rw [Hn.out];exact (Zbs w8 2 rfl HI0.out (Zaw (twC_ok x sub s)) (Zaw (mthC_ok x goals s))).1,((Zbs w8 2 rfl HI0.out (Zaw (twC_ok x sub s)) (Zaw (mthC_ok x goals s))).2).mono (K2.trans ((Only.refl [] w2).trans zA)).size,K2.trans (And.left (by assumption))⟩
  ·obtain ⟨hl1,hl2⟩:=optX_ok ho
   have Hn:=zH (show cmpX x sub goals s = [(l.length:Int),wLen (twC x sub s),wLen (mthC x goals s)] by unfold cmpX;rw [if_pos hq,ho];rfl)
   have Ho:=zH ho
   have HI0:=zH (show I64 (l.length:Int) by unfold I64;omega)
   clear hq ho hl2
   go_enter Tryz.func26,Tryz.ntmps26
   go_upto_region 7 with (first
    | (go_at_call 45;(with_reducible refine (Zdu [.int .i64 x.points,.string x.names,v2] x _ _ s _ _ (zK h0 zA) (zK hs zA)).mono ?_);rintro e w1 ⟨he,t1⟩;rw [Hq.out] at he;subst he;have X1:=X0.keep t1;obtain ⟨x0,x1,x2⟩:=X1.c3)
    | (go_at_call 46;(with_reducible refine (Zeh [.int .i64 x.points,.string x.names,v2] x _ _ s _ _ (zK h0 zA) (zK hs zA)).mono ?_);rintro e w2 ⟨z,fz,he,rz,-,t2⟩;rw [Ho.out] at he rz;subst he;simp only [Option.getD] at rz;obtain ⟨az,cz,rfl,-⟩:=rz.ints)
    | (go_at_call 47;(with_reducible refine (Zbg _ l _ _ rz).mono ?_);rintro e w4 ⟨rfl,hw4⟩;obtain rfl:w2 = w4:=hw4.symm)
    | fail)
   have K2:Only [] w w2:=(X1t.trans t1).trans t2
   have X2:=(X0.keep t1).keep t2
   obtain ⟨y0,y1,y2⟩:=X2.c3
   clear x0 x1 x2
   go_region_held3 (fun w'=>Only [] w2 w'/\w'.cell? ⟨w.heap.size,0,none⟩ = some (.int .i64 x.points)/\w'.cell? ⟨w.heap.size,1,none⟩ = some (.string x.names)/\w'.cell? ⟨w.heap.size,2,none⟩ = some (v2)) (((refine and_of ?_ (fun q_=>⟨q_.ce y0,q_.ce y1,q_.ce y2⟩));first | exact zO.drew | exact (zO.drewN _).drew | exact Only.trans (And.left (by assumption)) (by assumption) | exact Only.alloc (And.left (by assumption)) _ | assumption)) (first | (go_at_call 24;(with_reducible refine (Zdw [.int .i64 x.points,.string x.names,v2] x _ _ sub _ _ s _ _ (zK h0 (K2.trans (And.left (by assumption)))) (zK hb (K2.trans (And.left (by assumption)))) (zK hs (K2.trans (And.left (by assumption))))).mono ?_);rintro e w5 ⟨cs5,f5,rfl,r5,-,t5⟩) | (go_at_call 48;(with_reducible refine (Zce cs7 (mthC x goals s) f7 _ (zK r7 zA) (mthC_ok x goals s)).mono ?_);rintro e w8 ⟨rfl,t8⟩) | (go_at_call 13;(with_reducible refine (Zes [.int .i64 x.points,.string x.names,v2] x _ _ goals _ _ s _ _ (zK h0 (K2.trans (And.left (by assumption)))) (zK hg (K2.trans (And.left (by assumption)))) (zK hs (K2.trans (And.left (by assumption))))).mono ?_);rintro e w7 ⟨cs7,f7,rfl,r7,-,t7⟩) | (go_at_call 48;(with_reducible refine (Zce cs5 (twC x sub s) f5 _ (zK r5 zA) (twC_ok x sub s)).mono ?_);rintro e w6 ⟨rfl,t6⟩) | fail)
   go_wp2
   go_ret
   exact ⟨_,_,rfl,by rw [Hn.out];exact (Zbs w8 2 rfl HI0.out (Zaw (twC_ok x sub s)) (Zaw (mthC_ok x goals s))).1,((Zbs w8 2 rfl HI0.out (Zaw (twC_ok x sub s)) (Zaw (mthC_ok x goals s))).2).mono (K2.trans ((Only.refl [] w2).trans zA)).size,K2.trans (And.left (by assumption))⟩
set_option maxHeartbeats 4000000 in
theorem Zkl (cs:List Value) (x:Puzzle) (fp:List Nat) (vb:Value) (sub:List Int) (fb:List Nat) (vg:Value) (goals:List (List Int)) (fg:List Nat) (u:Value) (s:List Int) (fs0:List Nat) (w:World) (h:Rp.rep w cs x fp) (hb:Rd w vb sub fb) (hg:Rd w vg goals fg) (hs:Rd w u s fs0) :
  Calls Tryz.prog 25 #[.agg cs.toArray,vb,vg,u] w fun e w'=>∃ z fz,e = .returned z/\Rd w' z (cmpX x sub goals s) fz/\Fresh w.heap.size w' fz/\Only [] w w':=by
 have h0:=h
 obtain ⟨v2,rfl,p0,p1,h3⟩:=h
 clear p0 p1 h3
 have X0:Blk (w.alloc (.cells #[.int .i64 x.points,.string x.names,v2] 33)) w.heap.size [.int .i64 x.points,.string x.names,v2]:=Blk.new w [.int .i64 x.points,.string x.names,v2] 33
 have X1t:Only [] w (w.alloc (.cells #[.int .i64 x.points,.string x.names,v2] 33)):=zO.alloc _
 rcases hq:stateB x s
 ·have Hn:=zH (show cmpX x sub goals s = [] by unfold cmpX;rw [if_neg (by rw [hq];simp)])
  have Hq:=zH hq
  clear hq
  go_enter Tryz.func25,Tryz.ntmps25
  go_wp2_with (first
   | (go_at_call 42;(with_reducible refine (Zax [.int .i64 x.points,.string x.names,v2] x _ _ s _ _ (zK h0 zA) (zK hs zA)).mono ?_);rintro e w1 ⟨he,t1⟩;rw [Hq.out] at he;subst he)
   | fail)
  go_ret
  exact ⟨_,_,rfl,by rw [Hn.out];exact (Zge w1 2 rfl).1,((Zge w1 2 rfl).2).mono (X1t.trans t1).size,(X1t.trans t1).alloc _⟩
 ·have Hq:=zH hq
  rcases ho:optX x s with _ | l
  ·have Hn:=zH (show cmpX x sub goals s = [-1,wLen (twC x sub s),wLen (mthC x goals s)] by unfold cmpX;rw [if_pos hq,ho];rfl)
   have Ho:=zH ho
   have HI0:=zH (show I64 (-1) by unfold I64;omega)
   clear hq ho
   go_enter Tryz.func25,Tryz.ntmps25
   go_upto_region 7 with (first
    | (go_at_call 42;(with_reducible refine (Zax [.int .i64 x.points,.string x.names,v2] x _ _ s _ _ (zK h0 zA) (zK hs zA)).mono ?_);rintro e w1 ⟨he,t1⟩;rw [Hq.out] at he;subst he;have X1:=X0.keep t1;obtain ⟨x0,x1,x2⟩:=X1.c3)
    | (go_at_call 43;(with_reducible refine (Zef [.int .i64 x.points,.string x.names,v2] x _ _ s _ _ (zK h0 zA) (zK hs zA)).mono ?_);rintro e w2 ⟨z,fz,he,-,-,t2⟩;rw [Ho.out] at he;subst he)
    | fail)
   have K2:Only [] w w2:=(X1t.trans t1).trans t2
   have X2:=(X0.keep t1).keep t2
   obtain ⟨y0,y1,y2⟩:=X2.c3
   clear x0 x1 x2
   go_region_held3 (fun w'=>Only [] w2 w'/\w'.cell? ⟨w.heap.size,0,none⟩ = some (.int .i64 x.points)/\w'.cell? ⟨w.heap.size,1,none⟩ = some (.string x.names)/\w'.cell? ⟨w.heap.size,2,none⟩ = some (v2)) (((refine and_of ?_ (fun q_=>⟨q_.ce y0,q_.ce y1,q_.ce y2⟩));first | exact zO.drew | exact (zO.drewN _).drew | exact Only.trans (And.left (by assumption)) (by assumption) | exact Only.alloc (And.left (by assumption)) _ | assumption)) (first | (go_at_call 23;(with_reducible refine (Zee [.int .i64 x.points,.string x.names,v2] x _ _ sub _ _ s _ _ (zK h0 (K2.trans (And.left (by assumption)))) (zK hb (K2.trans (And.left (by assumption)))) (zK hs (K2.trans (And.left (by assumption))))).mono ?_);rintro e w5 ⟨cs5,f5,rfl,r5,-,t5⟩) | (go_at_call 44;(with_reducible refine (Zbq cs7 (mthC x goals s) f7 _ (zK r7 zA) (mthC_ok x goals s)).mono ?_);rintro e w8 ⟨rfl,t8⟩) | (go_at_call 9;(with_reducible refine (Zex [.int .i64 x.points,.string x.names,v2] x _ _ goals _ _ s _ _ (zK h0 (K2.trans (And.left (by assumption)))) (zK hg (K2.trans (And.left (by assumption)))) (zK hs (K2.trans (And.left (by assumption))))).mono ?_);rintro e w7 ⟨cs7,f7,rfl,r7,-,t7⟩) | (go_at_call 44;(with_reducible refine (Zbq cs5 (twC x sub s) f5 _ (zK r5 zA) (twC_ok x sub s)).mono ?_);rintro e w6 ⟨rfl,t6⟩) | fail)
   go_wp2
   go_ret
   exact ⟨_,_,rfl,by rw [Hn.out];exact (Zbs w8 2 rfl HI0.out (Zaw (twC_ok x sub s)) (Zaw (mthC_ok x goals s))).1,((Zbs w8 2 rfl HI0.out (Zaw (twC_ok x sub s)) (Zaw (mthC_ok x goals s))).2).mono (K2.trans ((Only.refl [] w2).trans zA)).size,K2.trans (And.left (by assumption))⟩
  ·obtain ⟨hl1,hl2⟩:=optX_ok ho
   have Hn:=zH (show cmpX x sub goals s = [(l.length:Int),wLen (twC x sub s),wLen (mthC x goals s)] by unfold cmpX;rw [if_pos hq,ho];rfl)
   have Ho:=zH ho
   have HI0:=zH (show I64 (l.length:Int) by unfold I64;omega)
   clear hq ho hl2
   go_enter Tryz.func25,Tryz.ntmps25
   go_upto_region 7 with (first
    | (go_at_call 42;(with_reducible refine (Zax [.int .i64 x.points,.string x.names,v2] x _ _ s _ _ (zK h0 zA) (zK hs zA)).mono ?_);rintro e w1 ⟨he,t1⟩;rw [Hq.out] at he;subst he;have X1:=X0.keep t1;obtain ⟨x0,x1,x2⟩:=X1.c3)
    | (go_at_call 43;(with_reducible refine (Zef [.int .i64 x.points,.string x.names,v2] x _ _ s _ _ (zK h0 zA) (zK hs zA)).mono ?_);rintro e w2 ⟨z,fz,he,rz,-,t2⟩;rw [Ho.out] at he rz;subst he;simp only [Option.getD] at rz;obtain ⟨az,cz,rfl,-⟩:=rz.ints)
    | fail)
   have K2:Only [] w w2:=(X1t.trans t1).trans t2
   have X2:=(X0.keep t1).keep t2
   obtain ⟨y0,y1,y2⟩:=X2.c3
   clear x0 x1 x2
   go_region_held3 (fun w'=>Only [] w2 w'/\w'.cell? ⟨w.heap.size,0,none⟩ = some (.int .i64 x.points)/\w'.cell? ⟨w.heap.size,1,none⟩ = some (.string x.names)/\w'.cell? ⟨w.heap.size,2,none⟩ = some (v2)) (((refine and_of ?_ (fun q_=>⟨q_.ce y0,q_.ce y1,q_.ce y2⟩));first | exact zO.drew | exact (zO.drewN _).drew | exact Only.trans (And.left (by assumption)) (by assumption) | exact Only.alloc (And.left (by assumption)) _ | assumption)) (first | (go_at_call 23;(with_reducible refine (Zee [.int .i64 x.points,.string x.names,v2] x _ _ sub _ _ s _ _ (zK h0 (K2.trans (And.left (by assumption)))) (zK hb (K2.trans (And.left (by assumption)))) (zK hs (K2.trans (And.left (by assumption))))).mono ?_);rintro e w5 ⟨cs5,f5,rfl,r5,-,t5⟩) | (go_at_call 44;(with_reducible refine (Zbq cs7 (mthC x goals s) f7 _ (zK r7 zA) (mthC_ok x goals s)).mono ?_);rintro e w8 ⟨rfl,t8⟩) | (go_at_call 9;(with_reducible refine (Zex [.int .i64 x.points,.string x.names,v2] x _ _ goals _ _ s _ _ (zK h0 (K2.trans (And.left (by assumption)))) (zK hg (K2.trans (And.left (by assumption)))) (zK hs (K2.trans (And.left (by assumption))))).mono ?_);rintro e w7 ⟨cs7,f7,rfl,r7,-,t7⟩) | (go_at_call 44;(with_reducible refine (Zbq cs5 (twC x sub s) f5 _ (zK r5 zA) (twC_ok x sub s)).mono ?_);rintro e w6 ⟨rfl,t6⟩) | fail)
   go_wp2
   go_ret
   exact ⟨_,_,rfl,by rw [Hn.out];exact (Zbs w8 2 rfl HI0.out (Zaw (twC_ok x sub s)) (Zaw (mthC_ok x goals s))).1,((Zbs w8 2 rfl HI0.out (Zaw (twC_ok x sub s)) (Zaw (mthC_ok x goals s))).2).mono (K2.trans ((Only.refl [] w2).trans zA)).size,K2.trans (And.left (by assumption))⟩
end Go.Proofs.YtclhblofchfglaaGreat
