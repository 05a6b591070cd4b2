/- The laws' own helpers on slices of tables: eq, mark, held, to, sz. -/
import Derived.Test.YtclhblofchfglaaGreatRowSolveWithTablesG2
import Derived.StillTailTactics
namespace Go.Proofs.YtclhblofchfglaaGreat
open Go.RowKit
set_option maxRecDepth 10000
theorem SeqA.at3 {w:World} {a:Option Addr} {cap:Nat} {xs:List Table} {ob:List Nat} {fps:List (List Nat)} (h:SeqA w a cap xs ob fps) (k:Nat) (hk:k < xs.length) :
  ∃ b off v1 v2 v3,a = some ⟨b,off,none⟩/\ob = [b]/\w.cell? ⟨b,off + k * 3,none⟩ = some v1/\w.cell? ⟨b,off + k * 3 + 1,none⟩ = some v2/\w.cell? ⟨b,off + k * 3 + 2,none⟩ = some v3/\Rp.rep w [v1,v2,v3] xs[k] (fps[k]'(by rw [h.nf];exact hk)):=by
 obtain ⟨b,off,cs,ha,hob,hc,hr⟩:=h.at_ k hk
 have hl:=Rp.len hr
 match cs,hl with
 | [v1,v2,v3],_=>exact ⟨b,off,v1,v2,v3,ha,hob,hc 0 v1 rfl,hc 1 v2 rfl,hc 2 v3 rfl,hr⟩
set_option maxHeartbeats 400000 in
theorem Zoa (a a':Option Addr) (cap cap':Nat) (l l':List Table) (ob ob':List Nat) (fps fps':List (List Nat)) (w:World) (h:SeqA w a cap l ob fps) (h':SeqA w a' cap' l' ob' fps') :
  Calls Tryz.prog 36 #[.slice a l.length cap,.slice a' l'.length cap'] w fun e w'=>e = .returned (.bool (eqV l l'))/\Only [] w w':=by
 have hb:=h.bound
 have hb':=h'.bound
 by_cases hl:l.length = l'.length
 ·have hne:((l.length:Int) != (l'.length:Int)) = false:=by simp [hl]
  have Hl:=zH hl;clear hl
  go_enter Tryz.func36,Tryz.ntmps36
  go_wp2
  go_loopw [5] (fun i wr=>∃ j:Nat,j<=l.length/\i = .int .i64 j/\l.take j = l'.take j/\Only [] w wr)
   (fun i _=>l.length - (intOf i).toNat)
  case atStart=>exact ⟨0,Nat.zero_le _,rfl,rfl,Only.refl _ _⟩
  case round=>
   obtain ⟨j,hj,rfl,hr,hK⟩:=hrel
   have Hr:=zH hr;clear hr
   by_cases hlt:j < l.length
   ·have hlt':j < l'.length:=by have:=Hl.out;omega
    obtain ⟨b,off,v1,v2,v3,rfl,-,c1,c2,c3,hv⟩:=h.at3 j hlt
    obtain ⟨b',off',v1',v2',v3',rfl,-,c1',c2',c3',hv'⟩:=h'.at3 j hlt'
    have d1:=hK.cell (by simp) c1
    have d2:=hK.cell (by simp) c2
    have d3:=hK.cell (by simp) c3
    have d1':=hK.cell (by simp) c1'
    have d2':=hK.cell (by simp) c2'
    have d3':=hK.cell (by simp) c3'
    clear c1 c2 c3 c1' c2' c3'
    rcases hq:eqV l[j] l'[j]
    all_goals go_wp2
    all_goals go_still_tail 8,(by kernel_rfl)
    all_goals change wpList _ _ _ _ _ wr.drew
    all_goals go_wp2_with ((go_at_call 69;(with_reducible refine (Zoz [v1,v2,v3] [v1',v2',v3'] l[j] l'[j] _ _ _ (zK hv zA) (zK hv' zA)).mono ?_);rintro e w1 ⟨rfl,hk1⟩))
    ·go_ret
     exact ⟨Zaa (eqL_no hlt hlt' hq).symm,zA⟩
    ·go_roundw
     case rel=>exact ⟨j + 1,by omega,by go_num,Zgq hlt hlt' hq Hr.out,zA⟩
     case measure=>simp [intOf];omega
   ·go_wp2
    go_ret
    exact ⟨Zaa (eqL_yes Hl.out hlt Hr.out).symm,hK⟩
 ·have hne:((l.length:Int) != (l'.length:Int)) = true:=by simp;omega
  go_enter Tryz.func36,Tryz.ntmps36
  go_wp2
  go_ret
  exact ⟨Zaa (eqL_len hne).symm,Only.refl _ _⟩
theorem Zcv (v v':Value) (l l':List Table) (fp fp':List Nat) (w:World) (h:Rd w v l fp) (h':Rd w v' l' fp') :
  Calls Tryz.prog 36 #[v,v'] w fun e w'=>e = .returned (.bool (eqV l l'))/\Only [] w w':=by
 obtain ⟨a,cap,ob,fps,rfl,-,hs⟩:=h.open_
 obtain ⟨a',cap',ob',fps',rfl,-,hs'⟩:=h'.open_
 exact Zoa a a' cap cap' l l' ob ob' fps fps' w hs hs'
set_option maxHeartbeats 1000000 in
theorem Zlk (a:Option Addr) (cap:Nat) (l:List Table) (ob:List Nat) (fps:List (List Nat)) (k:Int) (w:World) (h:SeqA w a cap l ob fps) (h0:0<=k) (h1:k + (cntL l:Nat)<=4611686018427387904) :
  Calls Tryz.prog 39 #[.slice a l.length cap,.int .i64 k] w fun e w'=>e = .returned (.int .i64 (heldV k l))/\Drew w w':=by
 have hb:=h.bound
 go_enter Tryz.func39,Tryz.ntmps39
 go_wp2
 go_loopw [1,5] (fun q i wr=>∃ j:Nat,j<=l.length/\q = .int .i64 (k + (cntL (l.take j):Nat))/\i = .int .i64 j/\l.take j = markL k (l.take j)/\Drew w wr)
  (fun _ i _=>l.length - (intOf i).toNat)
 case atStart=>exact ⟨0,Nat.zero_le _,by simp [cntL],rfl,rfl,Drew.refl _⟩
 case round=>
  obtain ⟨j,hj,rfl,rfl,hr,n,rfl⟩:=hrel
  have Hr:=zH hr;clear hr
  by_cases hlt:j < l.length
  ·obtain ⟨b,off,v1,v2,v3,rfl,-,c1,c2,c3,hv⟩:=h.at3 j hlt
   obtain ⟨_,_,_,f1,f2,f3,hcs,-,r1,r2,r3⟩:=hv
   injection hcs with e1 hcs;injection hcs with e2 hcs;injection hcs with e3 hcs;subst e1;subst e2;subst e3
   have hcnt:=Zcr l j hlt
   have hle:=Zdt l (j + 1)
   have hcc:Mk.cnt l[j] = Mk.cnt l[j].tracked + Mk.cnt l[j].patterns + Mk.cnt l[j].distances:=rfl
   generalize hK:k + ((cntL (l.take j):Nat):Int) = K at *
   have HK:=zH hK
   have hK0:0<=K:=by omega
   have hb1:K + (Mk.cnt l[j].tracked:Nat)<=4611686018427387904:=by omega
   have hb2:K + (Mk.cnt l[j].tracked:Nat) + (Mk.cnt l[j].patterns:Nat)<=4611686018427387904:=by omega
   have hb3:K + (Mk.cnt l[j].tracked:Nat) + (Mk.cnt l[j].patterns:Nat) + (Mk.cnt l[j].distances:Nat)<=4611686018427387904:=by omega
   have Hcnt:=zH hcnt
   have Hcc:=zH hcc
   have hiff:l[j] = Mk.mark K l[j] ↔ l[j].tracked = Mk.mark K l[j].tracked/\l[j].patterns = Mk.mark (K + (Mk.cnt l[j].tracked:Nat)) l[j].patterns/\l[j].distances = Mk.mark (K + (Mk.cnt l[j].tracked:Nat) + (Mk.cnt l[j].patterns:Nat)) l[j].distances:=by
    rw [Table.eq_iff];simp [Mk.mark]
   have Hiff:=zH hiff
   clear hcnt hcc hiff hK hcs
   rcases Zcm K l[j].tracked with ⟨e1,m1⟩ | ⟨e1,m1⟩
   ·have M1:=zH m1;clear m1
    go_wp2_with ((go_at_call 27;(with_reducible refine (Zas v1 l[j].tracked _ K _ (zK r1 zA) hK0 hb1).mono ?_);rintro e w1 ⟨rfl,n1,rfl⟩))
    go_ret
    exact ⟨ret_int (Zbq (Zex hlt (by rw [HK.out];exact fun he=>M1.out (Hiff.out.1 he).1))).symm,⟨_,rfl⟩⟩
   have M1:=zH m1;clear m1
   rcases Zcm (K + (Mk.cnt l[j].tracked:Nat)) l[j].patterns with ⟨e2,m2⟩ | ⟨e2,m2⟩
   ·have M2:=zH m2;clear m2
    go_wp2_with (first | (go_at_call 27;(with_reducible refine (Zas v1 l[j].tracked _ K _ (zK r1 zA) hK0 hb1).mono ?_);rintro e w1 ⟨rfl,n1,rfl⟩) | (go_at_call 38;(with_reducible refine (Zbf v2 l[j].patterns _ (K + (Mk.cnt l[j].tracked:Nat)) _ (zK r2 zA) (by omega) hb2).mono ?_);rintro e w2 ⟨rfl,n2,rfl⟩))
    go_ret
    exact ⟨ret_int (Zbq (Zex hlt (by rw [HK.out];exact fun he=>M2.out (Hiff.out.1 he).2.1))).symm,⟨_,rfl⟩⟩
   have M2:=zH m2;clear m2
   rcases Zcm (K + (Mk.cnt l[j].tracked:Nat) + (Mk.cnt l[j].patterns:Nat)) l[j].distances with ⟨e3,m3⟩ | ⟨e3,m3⟩
   all_goals have M3:=zH m3
   all_goals clear m3
   all_goals go_wp2_with (first | (go_at_call 27;(with_reducible refine (Zas v1 l[j].tracked _ K _ (zK r1 zA) hK0 hb1).mono ?_);rintro e w1 ⟨rfl,n1,rfl⟩) | (go_at_call 38;(with_reducible refine (Zbf v2 l[j].patterns _ (K + (Mk.cnt l[j].tracked:Nat)) _ (zK r2 zA) (by omega) hb2).mono ?_);rintro e w2 ⟨rfl,n2,rfl⟩) | (go_at_call 27;(with_reducible refine (Zas v3 l[j].distances _ (K + (Mk.cnt l[j].tracked:Nat) + (Mk.cnt l[j].patterns:Nat)) _ (zK r3 zA) (by omega) hb3).mono ?_);rintro e w3 ⟨rfl,n3,rfl⟩))
   ·go_ret
    exact ⟨ret_int (Zbq (Zex hlt (by rw [HK.out];exact fun he=>M3.out (Hiff.out.1 he).2.2))).symm,⟨_,rfl⟩⟩
   ·go_roundw
    case rel=>exact ⟨j + 1,by omega,by have:=Hcnt.out;have:=Hcc.out;have:=HK.out;go_num,by go_num,Zhh hlt Hr.out (by rw [HK.out];exact Hiff.out.2 ⟨M1.out,M2.out,M3.out⟩),⟨_,rfl⟩⟩
    case measure=>simp [intOf];omega
  ·have Hj:Hid (j = l.length):=(by omega:j = l.length)
   go_wp2
   go_ret
   have hjl:=Hj.out
   subst hjl
   refine ⟨ret_int ?_,(Drew.refl _).drewN n⟩
   have hr:=Hr.out
   rw [List.take_length] at hr ⊢
   exact (Zdg hr).symm
theorem Zcy (v:Value) (l:List Table) (fp:List Nat) (k:Int) (w:World) (h:Rd w v l fp) (h0:0<=k) (h1:k + (Mk.cnt l:Nat)<=4611686018427387904) :
  Calls Tryz.prog 39 #[v,.int .i64 k] w fun e w'=>e = .returned (.int .i64 (heldV k l))/\Only [] w w':=by
 obtain ⟨a,cap,ob,fps,rfl,-,hs⟩:=h.open_
 exact (Zlk a cap l ob fps k w hs h0 h1).mono fun e w' ⟨he,hd⟩=>⟨he,hd.only _⟩
set_option maxHeartbeats 1000000 in
theorem Zky (a:Option Addr) (cap:Nat) (l:List Table) (ob:List Nat) (fps:List (List Nat)) (k:Int) (w:World) (h:SeqA w a cap l ob fps) (hnd:(ob ++ fps.flatten).Nodup) (ho:Own w (ob ++ fps.flatten)) (h0:0<=k) (h1:k + (cntL l:Nat)<=4611686018427387904) :
  Calls Tryz.prog 37 #[.slice a l.length cap,.int .i64 k] w fun e w'=>
   e = .returned (.int .i64 (k + (cntL l:Nat)))/\SeqA w' a cap (markL k l) ob fps/\Own w' (ob ++ fps.flatten)/\Only (ob ++ fps.flatten) w w':=by
 have hb:=h.bound
 have hnf:=h.nf
 go_enter Tryz.func37,Tryz.ntmps37
 have Hnf:=zH hnf
 clear hnf
 go_wp2
 go_loopw [1,5] (fun q i wr=>∃ j:Nat,j<=l.length/\q = .int .i64 (k + (cntL (l.take j):Nat))/\i = .int .i64 j/\SeqA wr a cap (markL k (l.take j) ++ l.drop j) ob fps/\Own wr (ob ++ fps.flatten)/\Only (ob ++ fps.flatten) w wr)
  (fun _ i _=>l.length - (intOf i).toNat)
 case atStart=>exact ⟨0,Nat.zero_le _,by simp [cntL],rfl,by simpa [markL] using h,ho,Only.refl _ _⟩
 case round=>
  obtain ⟨j,hj,rfl,rfl,hI,hO,hK⟩:=hrel
  by_cases hlt:j < l.length
  ·have hjm:(markL k (l.take j) ++ l.drop j).length = l.length:=by simp [Zaf];omega
   have hjf:j < fps.length:=by have:=Hnf.out;omega
   obtain ⟨b,off,v1,v2,v3,rfl,hob,c1,c2,c3,hv0⟩:=hI.at3 j (by omega)
   have hx:(markL k (l.take j) ++ l.drop j)[j]'(by omega) = l[j]:=by
    rw [List.getElem_append_right (by simp [Zaf];omega)]
    simp [Zaf,Nat.min_eq_left hj]
   have hv:Rp.rep wr [v1,v2,v3] l[j] fps[j]:=by rw [hx] at hv0;exact hv0
   have hbn:b ∉ fps[j]:=fun hm=>(nd_app hnd).2.2.1 b (by simp [hob]) (Zak hjf hm)
   have hndj:(fps[j]).Nodup:=(List.nodup_iff_pairwise_ne.1 (nd_app hnd).2.1 |> List.pairwise_flatten.1).1 _ (List.getElem_mem _)
   have hOj:Own wr fps[j]:=hO.sub (fun b hb=>List.mem_append_right _ (Zak hjf hb))
   have hbl:b < wr.heap.size:=hI.lt b (by simp [hob])
   obtain ⟨_,_,_,f1,f2,f3,hcs,hfp,r1,r2,r3⟩:=hv
   injection hcs with e1 hcs;injection hcs with e2 hcs;injection hcs with e3 hcs;subst e1;subst e2;subst e3
   rw [hfp] at hndj hOj hbn
   obtain ⟨n1,n23,d1,d1'⟩:=nd_app hndj
   obtain ⟨n2,n3,d2,d2'⟩:=nd_app n23
   simp only [List.mem_append,not_or] at d1 d1' hbn
   have o1:=hOj.left;have o2:=hOj.right.left;have o3:=hOj.right.right
   have hcnt:=Zcr l j hlt
   have hle:=Zdt l (j + 1)
   have hcc:Mk.cnt l[j] = Mk.cnt l[j].tracked + Mk.cnt l[j].patterns + Mk.cnt l[j].distances:=rfl
   generalize hKq:k + ((cntL (l.take j):Nat):Int) = K at *
   have HK:=zH hKq
   have hK0:0<=K:=by omega
   have hb1:K + (Mk.cnt l[j].tracked:Nat)<=4611686018427387904:=by omega
   have hb2:K + (Mk.cnt l[j].tracked:Nat) + (Mk.cnt l[j].patterns:Nat)<=4611686018427387904:=by omega
   have hb3:K + (Mk.cnt l[j].tracked:Nat) + (Mk.cnt l[j].patterns:Nat) + (Mk.cnt l[j].distances:Nat)<=4611686018427387904:=by omega
   have Hcnt:=zH hcnt
   have Hcc:=zH hcc
   have Hs:=zH (Zhi k l j hlt)
   have Hob:=zH hob
   have Hfp:=zH hfp
   clear hcnt hv0 hx hjm hob hcc hKq hcs hfp
   go_wp2_with (first
    | (go_at_call 20;(with_reducible refine (Zbs v1 l[j].tracked f1 K wr r1 o1 hK0 hb1).mono ?_);rintro e w1 ⟨rfl,s1,p1,t1⟩;have q1:=t1.cells_eq b hbl hbn.1)
    | (go_at_call 19;(with_reducible refine (Zcp v2 l[j].patterns f2 (K + (Mk.cnt l[j].tracked:Nat)) w1 (Rp.only r2 t1 (fun x hx=>(d1' x (.inl hx)))) n2 (o2.only t1 (fun x hx=>(d1' x (.inl hx)))) (by omega) hb2).mono ?_);rintro e w2 ⟨rfl,s2,p2,t2⟩;have q2:=t2.cells_eq b (Nat.lt_of_lt_of_le hbl t1.size) hbn.2.1)
    | (go_at_call 20;(with_reducible refine (Zbs v3 l[j].distances f3 (K + (Mk.cnt l[j].tracked:Nat) + (Mk.cnt l[j].patterns:Nat)) w2 (Rp.only (Rp.only r3 t1 (fun x hx=>(d1' x (.inr hx)))) t2 d2') ((o3.only t1 (fun x hx=>(d1' x (.inr hx)))).only t2 d2') (by omega) hb3).mono ?_);rintro e w3 ⟨rfl,s3,p3,t3⟩;have q3:=t3.cells_eq b (Nat.lt_of_lt_of_le hbl (Nat.le_trans t1.size t2.size)) hbn.2.2))
   have T:Only fps[j] wr w3:=by
    rw [Hfp.out]
    exact ((t1.mono (fun x hx _=>by simp [hx])).trans (t2.mono (fun x hx _=>by simp [hx]))).trans (t3.mono (fun x hx _=>by simp [hx]))
   have hrep:Rp.rep w3 [v1,v2,v3] (Mk.mark K l[j]) fps[j]:=
    ⟨v1,v2,v3,f1,f2,f3,rfl,Hfp.out,Rp.only (Rp.only s1 t2 (fun x hx=>(d1 x hx).1)) t3 (fun x hx=>(d1 x hx).2),Rp.only s2 t3 d2,s3⟩
   have hown:Own w3 fps[j]:=by
    rw [Hfp.out]
    exact ((p1.only t2 (fun x hx=>(d1 x hx).1)).only t3 (fun x hx=>(d1 x hx).2)).append ((p2.only t3 d2).append p3)
   have hI1:=hI.touch (w':=w3) hnd (j:=j) (b:=b) (off:=off) (cs:=[v1,v2,v3]) (x':=Mk.mark K l[j]) (by simp [Zaf];omega) hjf rfl rfl
    (by intro i u hu;match i,hu with
      | 0,hu=>simp at hu;subst hu;simpa [Rp.size] using c1
      | 1,hu=>simp at hu;subst hu;simpa [Rp.size] using c2
      | 2,hu=>simp at hu;subst hu;simpa [Rp.size] using c3) T hrep
   have hs:=Hs.out
   rw [HK.out] at hs
   rw [hs] at hI1
   have hK1:Only (ob ++ fps.flatten) wr w3:=T.mono (fun b hb _=>List.mem_append_right _ (Zak hjf hb))
   have hO1:Own w3 (ob ++ fps.flatten):=by
    intro b hb
    by_cases hm:b∈fps[j]
    ·exact hown b hm
    ·rw [T.block b (hO.lt b hb) hm];exact hO b hb
   have HI:=zH hI1
   clear hI hI1 hs
   go_roundw
   case rel=>exact ⟨j + 1,by omega,by have:=Hcnt.out;have:=Hcc.out;have:=HK.out;go_num,by go_num,HI.out,hO1,hK.trans hK1⟩
   case measure=>simp [intOf];omega
  ·have hjl:j = l.length:=by omega
   have hI':=hI
   rw [hjl] at hI'
   simp only [List.take_length,List.drop_length,List.append_nil] at hI'
   have Hj:=zH hjl
   clear hI hjl
   go_wp2
   go_ret
   exact ⟨ret_int (by rw [Hj.out,List.take_length]),hI',hO,hK⟩
theorem Zmv (v:Value) (l:List Table) (fp:List Nat) (k:Int) (w:World) (h:Rd w v l fp) (hnd:fp.Nodup) (ho:Own w fp) (h0:0<=k) (h1:k + (Mk.cnt l:Nat)<=4611686018427387904) :
  Calls Tryz.prog 37 #[v,.int .i64 k] w fun e w'=>e = .returned (.int .i64 (k + (Mk.cnt l:Nat)))/\Rd w' v (Mk.mark k l) fp/\Own w' fp/\Only fp w w':=by
 obtain ⟨a,cap,ob,fps,rfl,rfl,hs⟩:=h.open_
 refine (Zky a cap l ob fps k w hs hnd ho h0 h1).mono ?_
 rintro e w' ⟨he,hI',ho',hk⟩
 refine ⟨he,?_,ho',hk⟩
 have:=hI'.rd
 rw [Zaf] at this
 exact this
section
variable {α:Type} [Rp α] {w w':World} {B:Nat} {css:List (List Value)} {xs:List α} {fps:List (List Nat)}
end
theorem Tryz.infoTable:(Tryz.prog.info? 82).map (fun i=>(i.zero,i.size,i.bytes)) = some (some (.agg #[.slice none 0 0,.slice none 0 0,.slice none 0 0]),3,72):=by kernel_rfl
structure Puzzle where
 points:Int
 names:ByteArray
 moves:List (List Int)
instance:Rp Puzzle where
 size:=3
 rep w cs x fp:=∃ v2,cs = [Value.int .i64 x.points] ++ [Value.string x.names] ++ [v2]/\I64 x.points/\x.names.size<=maxLen/\Rd w v2 x.moves fp
 len h:=by
  obtain ⟨v2,rfl,p0,p1,h2⟩:=h
  rfl
 frame h hf:=by
  obtain ⟨v2,hcs,p0,p1,h2⟩:=h
  exact ⟨v2,hcs,p0,p1,Rp.frame h2 fun b hb=>hf b (by simp [hb])⟩
 lt h:=by
  obtain ⟨v2,hcs,p0,p1,h2⟩:=h
  intro b hb
  exact Rp.lt h2 b hb
instance:Mk Puzzle where
 mark k x:=⟨x.points,x.names,Mk.mark (k) x.moves⟩
 cnt x:=Mk.cnt x.moves
instance:Sz Puzzle where
 sz x:=x.names.size + Sz.sz x.moves
instance:Sm Puzzle where
 sm x:=Sm.sm x.moves
instance:SzSm Puzzle:=⟨fun x h=>by
 have h':x.names.size + Sz.sz x.moves<=2097152:=h
 exact SzSm.of_ x.moves (by omega)⟩
instance:CntSz Puzzle:=⟨fun x=>by
 have h':Mk.cnt x.moves<=x.names.size + Sz.sz x.moves:=by have:=CntSz.le x.moves;omega
 exact h'⟩
instance:MkL Puzzle:=⟨fun k x=>by simp [Mk.mark,Zeo],fun k x=>by simp [Mk.mark,Mk.cnt,Zdc]⟩
theorem Puzzle.eq_iff {x y:Puzzle}:x = y ↔ x.points = y.points/\x.names = y.names/\x.moves = y.moves:=by
 cases x;cases y;simp
set_option maxHeartbeats 1000000 in
theorem Zno (cs cs':List Value) (x y:Puzzle) (fp fp':List Nat) (w:World) (h:Rp.rep w cs x fp) (h':Rp.rep w cs' y fp') :
  Calls Tryz.prog 15 #[.agg cs.toArray,.agg cs'.toArray] w fun e w'=>e = .returned (.bool (eqV x y))/\Only [] w w':=by
 obtain ⟨v2,rfl,p0,p1,h2⟩:=h
 obtain ⟨v2',rfl,p0',p1',h2'⟩:=h'
 by_cases q0:x.points ≠ y.points
 ·have b0:(x.points != y.points) = true:=by simpa using q0
  go_enter Tryz.func15,Tryz.ntmps15
  go_wp2_with (first | (go_at_call 16;(with_reducible refine (Zai v2 v2' x.moves y.moves _ _ _ (zK h2 zA) (zK h2' zA)).mono ?_);rintro e w2 ⟨rfl,n2,rfl⟩))
  go_ret
  exact ⟨Zaa (eqV_no (fun he=>q0 (Puzzle.eq_iff.1 he).1)).symm,zA⟩
 have q0:x.points = y.points:=Classical.not_not.1 q0
 have b0:(x.points != y.points) = false:=by simpa using q0
 have Q0:=zH q0
 clear q0
 by_cases q1:x.names ≠ y.names
 ·have b1:=str_ne q1
  go_enter Tryz.func15,Tryz.ntmps15
  go_wp2_with (first | (go_at_call 16;(with_reducible refine (Zai v2 v2' x.moves y.moves _ _ _ (zK h2 zA) (zK h2' zA)).mono ?_);rintro e w2 ⟨rfl,n2,rfl⟩))
  go_ret
  exact ⟨Zaa (eqV_no (fun he=>q1 (Puzzle.eq_iff.1 he).2.1)).symm,zA⟩
 have q1:x.names = y.names:=Classical.not_not.1 q1
 have b1:=str_eq q1
 have Q1:=zH q1
 clear q1
 rcases q2:eqV x.moves y.moves
 ·go_enter Tryz.func15,Tryz.ntmps15
  go_wp2_with (first | (go_at_call 16;(with_reducible refine (Zai v2 v2' x.moves y.moves _ _ _ (zK h2 zA) (zK h2' zA)).mono ?_);rintro e w2 ⟨rfl,n2,rfl⟩))
  go_ret
  exact ⟨Zaa (eqV_no (fun he=>(eqV_iff'.1 q2) (Puzzle.eq_iff.1 he).2.2)).symm,zA⟩
 go_enter Tryz.func15,Tryz.ntmps15
 go_wp2_with (first | (go_at_call 16;(with_reducible refine (Zai v2 v2' x.moves y.moves _ _ _ (zK h2 zA) (zK h2' zA)).mono ?_);rintro e w2 ⟨rfl,n2,rfl⟩))
 go_ret
 exact ⟨Zaa (eqV_yes (Puzzle.eq_iff.2 ⟨Q0.out,Q1.out,eqV_iff.1 q2⟩)).symm,zA⟩
set_option maxHeartbeats 1000000 in
theorem Zey (cs:List Value) (x:Puzzle) (fp:List Nat) (k:Int) (w:World) (h:Rp.rep w cs x fp) (h0:0<=k) (h1:k<=2147483648) :
  Calls Tryz.prog 7 #[.agg cs.toArray,.int .i64 k] w fun e w'=>e = .returned (.int .i64 (szV k x))/\Only [] w w':=by
 obtain ⟨v2,rfl,p0,p1,h2⟩:=h
 have hcc:Sz.sz x = x.names.size + Sz.sz x.moves:=rfl
 have Hcc:=zH hcc;clear hcc
 have hm1:=p1
 unfold maxLen at hm1
 by_cases e1:k - (x.names.size:Nat) < 0
 ·go_enter Tryz.func7,Tryz.ntmps7
  go_wp2_with (first | (go_at_call 8;(with_reducible refine (Zca v2 x.moves _ (k - (x.names.size:Nat)) _ (zK h2 zA) (by omega) (by omega)).mono ?_);rintro e w2 ⟨rfl,n2,rfl⟩))
  go_ret
  exact ⟨ret_int (szV_no (by have:=Hcc.out;omega)).symm,zA⟩
 rcases Zfj (k - (x.names.size:Nat)) x.moves with ⟨e2,m2⟩ | ⟨e2,r2,m2⟩
 ·go_enter Tryz.func7,Tryz.ntmps7
  go_wp2_with (first | (go_at_call 8;(with_reducible refine (Zca v2 x.moves _ (k - (x.names.size:Nat)) _ (zK h2 zA) (by omega) (by omega)).mono ?_);rintro e w2 ⟨rfl,n2,rfl⟩))
  go_ret
  exact ⟨ret_int (szV_no (by have:=Hcc.out;omega)).symm,zA⟩
 go_enter Tryz.func7,Tryz.ntmps7
 go_wp2_with (first | (go_at_call 8;(with_reducible refine (Zca v2 x.moves _ (k - (x.names.size:Nat)) _ (zK h2 zA) (by omega) (by omega)).mono ?_);rintro e w2 ⟨rfl,n2,rfl⟩))
 go_ret
 exact ⟨ret_int (by rw [szV_yes (by have:=Hcc.out;omega)];have:=Hcc.out;omega),zA⟩
set_option maxHeartbeats 1000000 in
theorem Zlg (cs:List Value) (x:Puzzle) (fp:List Nat) (k:Int) (w:World) (h:Rp.rep w cs x fp) (hnd:fp.Nodup) (ho:Own w fp) (h0:0<=k) (hc:k + (Mk.cnt x:Nat)<=4611686018427387904) :
  Calls Tryz.prog 18 #[.agg cs.toArray,.int .i64 k] w fun e w'=>e = .returned (.int .i64 (k + (Mk.cnt x:Nat)))/\Rp.rep w' cs (Mk.mark k x) fp/\Own w' fp/\Only fp w w':=by
 obtain ⟨v2,rfl,p0,p1,h2⟩:=h
 have hcc:Mk.cnt x = Mk.cnt x.moves:=rfl
 have Hcc:=zH hcc;clear hcc
 have hb2:k + (Mk.cnt x.moves:Nat)<=4611686018427387904:=by have:=Hcc.out;omega
 have n2:=hnd
 have l2:=Rp.lt h2
 go_enter Tryz.func18,Tryz.ntmps18
 go_wp2_with (first | (go_at_call 19;(with_reducible refine (Zcp v2 x.moves fp (k) _ (zK h2 zA) n2 (ho.keep zA) (by omega) hb2).mono ?_);rintro e w2 ⟨rfl,r2,o2,t2⟩;have s2:w.heap.size < w2.heap.size:=(Nat.lt_of_lt_of_le (by simp) t2.size);have q2:=t2.cells_eq w.heap.size (by simp) (fun hm=>absurd (l2 _ hm) (by omega))))
 go_ret
 have hk0:Only [] w (w.alloc (.cells ([Value.int .i64 x.points] ++ [Value.string x.names] ++ [v2]).toArray 33)):=zA
 exact ⟨ret_int (by have:=Hcc.out;omega),⟨v2,rfl,p0,p1,r2⟩,o2,(hk0.weaken _).trans t2⟩
set_option maxHeartbeats 1000000 in
theorem Zdj (cs:List Value) (x:Puzzle) (fp:List Nat) (w:World) (h:Rp.rep w cs x fp) (hsm:Sm.sm x) :
  Calls Tryz.prog 10 #[.agg cs.toArray] w fun e w'=>∃ cs' fp',e = .returned (.agg cs'.toArray)/\Rp.rep w' cs' x fp'/\Fresh w.heap.size w' fp'/\Only [] w w':=by
 obtain ⟨v2,rfl,p0,p1,h2⟩:=h
 have g2:Sm.sm x.moves:=hsm
 go_enter Tryz.func10,Tryz.ntmps10
 go_wp2_with (first | (go_at_call 11;(with_reducible refine (Zcc v2 x.moves _ _ (zK h2 zA) g2).mono ?_);rintro e w2 ⟨u2,fz2,rfl,r2,F2,t2⟩;have k2:=r2.open_;obtain ⟨A2,C2,_,_,rfl,-⟩:=k2;have s2:w.heap.size + 1 + 1 < w2.heap.size:=(by have:=t2.size;simp at this;omega);have y20:=t2.cells_eq w.heap.size (by simp;try omega) (by simp);have z20:=t2.frozen_eq w.heap.size (by simp;try omega) (by simp);have y21:=t2.cells_eq (w.heap.size + 1) (by simp;try omega) (by simp);have z21:=t2.frozen_eq (w.heap.size + 1) (by simp;try omega) (by simp);have y22:=t2.cells_eq (w.heap.size + 1 + 1) (by simp;try omega) (by simp);have z22:=t2.frozen_eq (w.heap.size + 1 + 1) (by simp;try omega) (by simp)))
 have T2:=t2.size
 simp at T2
 refine bodyPost_ret (v:=.agg #[.int .i64 x.points,.string x.names,.slice A2 x.moves.length C2]) (by simp [results,Tryz.results10,go_sem,y21]) rfl ⟨[.int .i64 x.points,.string x.names,.slice A2 x.moves.length C2],_,rfl,⟨.slice A2 x.moves.length C2,rfl,p0,p1,Rp.only (fp':=[w.heap.size + 1,w.heap.size + 1 + 1]) r2 zB (fun b hb hm=>by have:=F2.ge b hb;simp at hm this;omega)⟩,Fresh.mono (F2.only (fp':=[w.heap.size + 1,w.heap.size + 1 + 1]) zB (fun b hb hm=>by have:=F2.ge b hb;simp at hm this;omega)) (by simp;try omega),zA⟩
def bl (s:ByteArray):List Int:=s.data.toList.map fun b=>(b.toNat:Int)
theorem bl_len (s:ByteArray):(bl s).length = s.size:=by
 unfold bl;rw [List.length_map,Array.length_toList];rfl
theorem bl_get (s:ByteArray) (i:Nat) (h:i < s.size) (h':i < (bl s).length):(bl s)[i] = (s[i].toNat:Int):=by
 simp [bl];rfl
def moveNameB (L:List Int) (i:Nat):Bool:=match L[i]? with
 | some b=>inR b 65 90 && decide (b ∉ L.take i)
 | none=>false
theorem Zdn {L:List Int} {i:Nat} (h:i < L.length):moveNameB L i = (inR L[i] 65 90 && decide (L[i] ∉ L.take i)):=by
 simp [moveNameB,h]
def namesB (s:ByteArray):Bool:=inR s.size 1 8 && ((bl s).all (fun b=>inR b 65 90) && decide (bl s).Nodup)
def validPz (p:Puzzle):Bool:=gensB p.points p.moves && (namesB p.names && decide (p.names.size = p.moves.length))
theorem Zon {L:List Int}:(L.all (fun b=>inR b 65 90) && decide L.Nodup) = true ↔ (∀ x∈L,inR x 65 90 = true)/\L.Nodup:=by simp
set_option maxHeartbeats 1000000 in
theorem Zli (s:ByteArray) (i:Nat) (w:World) (hs:s.size<=maxLen) (hi:i < s.size) :
  Calls Tryz.prog 132 #[.string s,.int .i64 i] w fun e w'=>e = .returned (.bool (moveNameB (bl s) i))/\Drew w w':=by
 unfold maxLen at hs
 have hi1:(0:Int)<=(i:Int):=by omega
 have hi2:(i:Int) < (s.size:Int):=by omega
 have hL:i < (bl s).length:=by rw [bl_len];exact hi
 have hfin:moveNameB (bl s) i = (inR (s[i].toNat:Int) 65 90 && decide ((s[i].toNat:Int) ∉ (bl s).take i)):=by rw [Zdn hL,bl_get s i hi hL]
 have Hfin:=zH hfin;clear hfin
 by_cases c1:(s[i].toNat:Int) < 65
 ·go_enter Tryz.func132,Tryz.ntmps132
  go_wp2
  go_ret
  exact ⟨Zaa (by rw [Hfin.out,show inR (s[i].toNat:Int) 65 90 = false by rw [inR_not];omega];rfl),⟨0,rfl⟩⟩
 by_cases c2:90 < (s[i].toNat:Int)
 ·go_enter Tryz.func132,Tryz.ntmps132
  go_wp2
  go_ret
  exact ⟨Zaa (by rw [Hfin.out,show inR (s[i].toNat:Int) 65 90 = false by rw [inR_not];omega];rfl),⟨0,rfl⟩⟩
 have hR:moveNameB (bl s) i = decide ((s[i].toNat:Int) ∉ (bl s).take i):=by rw [Hfin.out,show inR (s[i].toNat:Int) 65 90 = true by rw [inR_iff];omega];rfl
 have HR:=zH hR;clear hR Hfin
 go_enter Tryz.func132,Tryz.ntmps132
 go_wp2
 go_loopw [5] (fun t wr=>∃ j:Nat,j<=i/\t = .int .i64 j/\(s[i].toNat:Int) ∉ (bl s).take j/\Drew w wr)
  (fun t _=>i - (intOf t).toNat)
 case atStart=>exact ⟨0,Nat.zero_le _,rfl,by simp,Drew.refl _⟩
 case round=>
  obtain ⟨j,hj,rfl,hr,k,rfl⟩:=hrel
  have Hr:=zH hr;clear hr
  by_cases hlt:j < i
  ·have hjs:j < s.size:=by omega
   have hj1:(0:Int)<=(j:Int):=by omega
   have hj2:(j:Int) < (s.size:Int):=by omega
   have hbj:(bl s)[j]'(by rw [bl_len];exact hjs) = (s[j].toNat:Int):=bl_get s j hjs _
   have Hbj:=zH hbj;clear hbj
   by_cases hx:(s[j].toNat:Int) = (s[i].toNat:Int)
   ·have hq:((s[j].toNat:Int) == (s[i].toNat:Int)) = true:=by simp [hx]
    have Hx:=zH hx;clear hx
    go_wp2
    go_quiet (fail)
    go_wp2
    go_ret
    exact ⟨Zaa (by rw [HR.out,eq_comm,decide_eq_false_iff_not,Classical.not_not,<- Hx.out,<- Hbj.out];exact List.mem_take_iff_getElem.2 ⟨j,by rw [bl_len];omega,rfl⟩),((Drew.refl _).drewN _).drewN _⟩
   ·have hq:((s[j].toNat:Int) == (s[i].toNat:Int)) = false:=by simpa using hx
    have Hx:=zH hx;clear hx
    go_wp2
    go_quiet (fail)
    go_wp2
    go_roundw
    case rel=>exact ⟨j + 1,by omega,by go_num,by
     rw [Zab (bl s) j (by rw [bl_len];exact hjs)];intro hm
     rcases List.mem_append.1 hm with hm | hm
     ·exact Hr.out hm
     ·simp at hm;rw [Hbj.out] at hm;exact Hx.out hm.symm,⟨_,rfl⟩⟩
    case measure=>simp [intOf];omega
  ·go_wp2
   go_ret
   exact ⟨Zaa (by rw [HR.out,eq_comm,decide_eq_true_iff];have:=Hr.out;have e:j = i:=(by omega);rwa [e] at this),⟨_,rfl⟩⟩
theorem Zjc {L:List Int} (h:∀ k,k < L.length->moveNameB L k = true):(L.all (fun b=>inR b 65 90) && decide L.Nodup) = true:=by
 rw [Zon]
 have hk:∀ k (hk:k < L.length),inR L[k] 65 90 = true/\L[k] ∉ L.take k:=by
  intro k hk
  have:=h k hk
  rw [Zdn hk] at this
  simpa using this
 refine ⟨fun x hx=>?_,?_⟩
 ·obtain ⟨k,hk',rfl⟩:=List.getElem_of_mem hx
  exact (hk k hk').1
 ·rw [List.nodup_iff_pairwise_ne,List.pairwise_iff_getElem]
  intro i j hi hj hij he
  exact (hk j hj).2 (List.mem_take_iff_getElem.2 ⟨i,by omega,he⟩)
theorem Zmg {L:List Int} {k:Nat} (hk:k < L.length) (h:moveNameB L k = false):(L.all (fun b=>inR b 65 90) && decide L.Nodup) = false:=by
 rw [<- Bool.not_eq_true,Zon]
 rintro ⟨h1,h2⟩
 rw [Zdn hk,h1 _ (List.getElem_mem _)] at h
 simp at h
 exact Zge hk h h2
set_option maxHeartbeats 2000000 in
theorem Zap (cs:List Value) (x:Puzzle) (fp:List Nat) (w:World) (h:Rp.rep w cs x fp) :
  Calls Tryz.prog 81 #[.agg cs.toArray] w fun e w'=>e = .returned (.bool (validPz x))/\Only [] w w':=by
 obtain ⟨v2,rfl,p0,p1,h2⟩:=h
 obtain ⟨A2,C2,ob,fps,rfl,-,hs⟩:=h2.open_
 have hb:=hs.bound
 have hm:=p1;unfold maxLen at hm
 by_cases c1:x.moves.length = 0
 ·have hf:validPz x = false:=by
   unfold validPz namesB
   rw [Bool.and_eq_false_iff,Bool.and_eq_false_iff,Bool.and_eq_false_iff]
   right
   by_cases hz:x.names.size = x.moves.length
   ·left;left;rw [inR_not];omega
   ·right;exact decide_eq_false hz
  have Hf:=zH hf;clear hf
  have d1:((x.moves.length:Int) == 0) = true:=by simp [c1]
  have C1:=zH c1;clear c1
  go_enter Tryz.func81,Tryz.ntmps81
  go_wp2
  go_ret
  exact ⟨Zaa Hf.out.symm,zA⟩
 have d1:((x.moves.length:Int) == 0) = false:=by rw [beq_eq_false_iff_ne];omega
 by_cases c2:x.names.size = x.moves.length
 ·have d2:((x.names.size:Int) != (x.moves.length:Int)) = false:=by simp [c2]
  rcases c3:gensB x.points x.moves
  ·have hf:validPz x = false:=by unfold validPz;rw [c3];rfl
   have Hf:=zH hf;clear hf
   have C2':=zH c2;clear c2
   have C1:=zH c1;clear c1
   go_enter Tryz.func81,Tryz.ntmps81
   go_wp2_with ((go_at_call 131;(with_reducible refine (Zeg x.points _ x.moves _ _ (zK h2 zA)).mono ?_);rintro e w1 ⟨rfl,n1,rfl⟩))
   go_ret
   exact ⟨Zaa Hf.out.symm,zA⟩
  have hl8:x.moves.length<=8:=by
   unfold gensB at c3;simp only [Bool.and_eq_true,decide_eq_true_eq] at c3;exact c3.1.2
  have hf:validPz x = ((bl x.names).all (fun b=>inR b 65 90) && decide (bl x.names).Nodup):=by
   unfold validPz namesB;rw [c3,decide_eq_true c2,show inR x.names.size 1 8 = true by rw [inR_iff];omega];simp
  have Hf:=zH hf;clear hf
  have C2':=zH c2;clear c2
  have C1:=zH c1;clear c1
  go_enter Tryz.func81,Tryz.ntmps81
  go_wp2_with ((go_at_call 131;(with_reducible refine (Zeg x.points _ x.moves _ _ (zK h2 zA)).mono ?_);rintro e w1 ⟨rfl,n1,rfl⟩))
  go_loopw [3] (fun i wr=>∃ j:Nat,j<=x.names.size/\i = .int .i64 j/\(∀ k,k < j->moveNameB (bl x.names) k = true)/\Drew ((w.alloc (.cells #[.int .i64 x.points,.string x.names,.slice A2 x.moves.length C2] 33))) wr)
   (fun i _=>x.names.size - (intOf i).toNat)
  case atStart=>exact ⟨0,Nat.zero_le _,rfl,by simp,⟨_,rfl⟩⟩
  case round=>
   obtain ⟨j,hj,rfl,hr,k,rfl⟩:=hrel
   have Hr:=zH hr;clear hr
   by_cases hlt:j < x.names.size
   ·rcases c4:moveNameB (bl x.names) j
    all_goals go_wp2_with ((go_at_call 132;(with_reducible refine (Zli x.names j _ p1 hlt).mono ?_);rintro e w1 ⟨rfl,n1,rfl⟩))
    ·go_ret
     exact ⟨Zaa (by rw [Hf.out,Zmg (by rw [bl_len];exact hlt) c4]),zA⟩
    ·go_roundw
     case rel=>exact ⟨j + 1,by omega,by go_num,fun k hk=>by
      by_cases hkj:k = j
      ·subst hkj;exact c4
      ·exact Hr.out k (by omega),⟨_,rfl⟩⟩
     case measure=>simp [intOf];omega
   ·go_wp2
    go_ret
    exact ⟨Zaa (by rw [Hf.out,Zjc (fun k hk=>Hr.out k (by rw [bl_len] at hk;omega))]),zA⟩
 ·have d2:((x.names.size:Int) != (x.moves.length:Int)) = true:=by simp only [bne_iff_ne,ne_eq];omega
  have hf:validPz x = false:=by unfold validPz;rw [decide_eq_false c2];simp
  have Hf:=zH hf;clear hf
  have C2':=zH c2;clear c2
  have C1:=zH c1;clear c1
  go_enter Tryz.func81,Tryz.ntmps81
  go_wp2
  go_ret
  exact ⟨Zaa Hf.out.symm,zA⟩
set_option maxHeartbeats 2000000 in
theorem Zfw (s:ByteArray) (w:World) (hs:s.size<=maxLen) :
  Calls Tryz.prog 136 #[.string s] w fun e w'=>e = .returned (.bool (namesB s))/\Drew w w':=by
 unfold maxLen at hs
 have hno:∀ k,k < s.size->moveNameB (bl s) k = false->namesB s = false:=by
  intro k hk h
  unfold namesB
  rw [Zmg (by rw [bl_len];exact hk) h];simp
 have hyes:(∀ k,k < s.size->moveNameB (bl s) k = true)->namesB s = inR s.size 1 8:=by
  intro h
  unfold namesB
  rw [Zjc (fun k hk=>h k (by rw [bl_len] at hk;exact hk))];simp
 have Hno:=zH hno;clear hno
 have Hyes:=zH hyes;clear hyes
 go_enter Tryz.func136,Tryz.ntmps136
 go_wp2
 go_loopw [7] (fun i wr=>∃ j:Nat,j<=s.size/\i = .int .i64 j/\(∀ k,k < j->moveNameB (bl s) k = true)/\Drew w wr)
  (fun i _=>s.size - (intOf i).toNat)
 case atStart=>exact ⟨0,Nat.zero_le _,rfl,by simp,Drew.refl _⟩
 case round=>
  obtain ⟨j,hj,rfl,hr,k,rfl⟩:=hrel
  have Hr:=zH hr;clear hr
  by_cases hlt:j < s.size
  ·have hi1:(0:Int)<=(j:Int):=by omega
   have hi2:(j:Int) < (s.size:Int):=by omega
   have hL:j < (bl s).length:=by rw [bl_len];exact hlt
   have hbj:(bl s)[j] = (s[j].toNat:Int):=bl_get s j hlt _
   have hmn:moveNameB (bl s) j = (inR (s[j].toNat:Int) 65 90 && decide ((s[j].toNat:Int) ∉ (bl s).take j)):=by rw [Zdn hL,hbj]
   have Hmn:=zH hmn;clear hmn hbj hL
   have hw:wrap64 (s[j].toNat:Int) = (s[j].toNat:Int):=Zdi _ (by omega) (by have:=UInt8.toNat_lt s[j];omega)
   rcases c1:inR (s[j].toNat:Int) 65 90
   ·go_wp2_with ((go_at_call 96;(with_reducible refine (Zaj (s[j].toNat:Int) 65 90 _).mono ?_);rintro e w1 ⟨rfl,rfl⟩))
    go_ret
    exact ⟨Zaa (Hno.out j hlt (by rw [Hmn.out,c1];rfl)).symm,⟨_,rfl⟩⟩
   go_wp2_with ((go_at_call 96;(with_reducible refine (Zaj (s[j].toNat:Int) 65 90 _).mono ?_);rintro e w1 ⟨rfl,rfl⟩))
   go_loopw [17] (fun i wr=>∃ q:Nat,q<=j/\i = .int .i64 q/\(s[j].toNat:Int) ∉ (bl s).take q/\Drew w wr)
    (fun i _=>j - (intOf i).toNat)
   case atStart=>exact ⟨0,Nat.zero_le _,rfl,by simp,⟨_,rfl⟩⟩
   case round=>
    obtain ⟨q,hq,rfl,hu,k2,rfl⟩:=hrel
    have Hu:=zH hu;clear hu
    by_cases hlq:q < j
    ·have hqs:q < s.size:=by omega
     have hq1:(0:Int)<=(q:Int):=by omega
     have hq2:(q:Int) < (s.size:Int):=by omega
     have hbq:(bl s)[q]'(by rw [bl_len];exact hqs) = (s[q].toNat:Int):=bl_get s q hqs _
     have Hbq:=zH hbq;clear hbq
     by_cases hx:(s[q].toNat:Int) = (s[j].toNat:Int)
     ·have hqq:((s[q].toNat:Int) == (s[j].toNat:Int)) = true:=by simp [hx]
      have Hx:=zH hx;clear hx
      go_wp2
      go_quiet (fail)
      go_wp2
      go_ret
      exact ⟨Zaa (Hno.out j hlt (by rw [Hmn.out,c1,decide_eq_false (by rw [Classical.not_not,<- Hx.out,<- Hbq.out];exact List.mem_take_iff_getElem.2 ⟨q,by rw [bl_len];omega,rfl⟩)];rfl)).symm,((Drew.refl _).drewN _).drewN _⟩
     ·have hqq:((s[q].toNat:Int) == (s[j].toNat:Int)) = false:=by simpa using hx
      have Hx:=zH hx;clear hx
      go_wp2
      go_quiet (fail)
      go_wp2
      go_roundw
      case rel=>exact ⟨q + 1,by omega,by go_num,by
       rw [Zab (bl s) q (by rw [bl_len];exact hqs)];intro hm
       rcases List.mem_append.1 hm with hm | hm
       ·exact Hu.out hm
       ·simp at hm;rw [Hbq.out] at hm;exact Hx.out hm.symm,⟨_,rfl⟩⟩
      case measure=>simp [intOf];omega
    ·have hqj:q = j:=by omega
     have Hqj:=zH hqj;clear hqj
     go_wp2
     go_roundw
     case rel=>exact ⟨j + 1,by omega,by go_num,fun z hz=>by
      by_cases hzj:z = j
      ·subst hzj;rw [Hmn.out,c1,decide_eq_true (by have:=Hu.out;rwa [Hqj.out] at this)];rfl
      ·exact Hr.out z (by omega),⟨_,rfl⟩⟩
     case measure=>simp [intOf];omega
  ·rcases c5:inR s.size 1 8
   all_goals go_wp2_with ((go_at_call 96;(with_reducible refine (Zaj s.size 1 8 _).mono ?_);rintro e w1 ⟨rfl,rfl⟩))
   all_goals go_ret
   all_goals exact ⟨Zaa (by rw [Hyes.out (fun z hz=>Hr.out z (by omega)),c5]),⟨_,rfl⟩⟩
set_option maxHeartbeats 2000000 in
theorem Zao (cs:List Value) (x:Puzzle) (fp:List Nat) (w:World) (h:Rp.rep w cs x fp) :
  Calls Tryz.prog 85 #[.agg cs.toArray] w fun e w'=>e = .returned (.bool (validPz x))/\Only [] w w':=by
 obtain ⟨v2,rfl,p0,p1,h2⟩:=h
 obtain ⟨A2,C2,ob,fps,rfl,-,hs⟩:=h2.open_
 have hb:=hs.bound
 have hm:=p1;unfold maxLen at hm
 have G:∀ w',Only [] w w'->Calls Tryz.prog 135 #[.int .i64 x.points,.slice A2 x.moves.length C2] w' fun e w''=>e = .returned (.bool (gensB x.points x.moves))/\Only [] w' w'':=
  fun w' hw=>Znc x.points _ x.moves _ w' (zK h2 hw)
 have HG:=zH G;clear G
 rcases c3:gensB x.points x.moves
 ·have hf:validPz x = false:=by unfold validPz;rw [c3];rfl
  have Hf:=zH hf;clear hf
  go_enter Tryz.func85,Tryz.ntmps85
  go_wp2_with ((go_at_call 135;(with_reducible refine (HG.out _ zA).mono ?_);rintro e w1 ⟨rfl,t1⟩;have y1:=t1.cells_eq w.heap.size (by simp) (by simp)))
  go_ret
  exact ⟨Zaa Hf.out.symm,zA⟩
 rcases c4:namesB x.names
 ·have hf:validPz x = false:=by unfold validPz;rw [c3,c4];rfl
  have Hf:=zH hf;clear hf
  go_enter Tryz.func85,Tryz.ntmps85
  go_wp2_with (first | (go_at_call 135;(with_reducible refine (HG.out _ zA).mono ?_);rintro e w1 ⟨rfl,t1⟩;have y1:=t1.cells_eq w.heap.size (by simp) (by simp)) | (go_at_call 136;(with_reducible refine (Zfw x.names _ p1).mono ?_);rintro e w2 ⟨rfl,n2,rfl⟩))
  go_ret
  exact ⟨Zaa Hf.out.symm,zA⟩
 have hf:validPz x = decide (x.names.size = x.moves.length):=by unfold validPz;rw [c3,c4];rfl
 have Hf:=zH hf;clear hf
 by_cases c5:x.names.size = x.moves.length
 ·have d5:((x.names.size:Int) == (x.moves.length:Int)) = true:=by simp [c5]
  have C5:=zH c5;clear c5
  go_enter Tryz.func85,Tryz.ntmps85
  go_wp2_with (first | (go_at_call 135;(with_reducible refine (HG.out _ zA).mono ?_);rintro e w1 ⟨rfl,t1⟩;have y1:=t1.cells_eq w.heap.size (by simp) (by simp)) | (go_at_call 136;(with_reducible refine (Zfw x.names _ p1).mono ?_);rintro e w2 ⟨rfl,n2,rfl⟩))
  go_ret
  exact ⟨Zaa (by rw [Hf.out,decide_eq_true C5.out]),zA⟩
 ·have d5:((x.names.size:Int) == (x.moves.length:Int)) = false:=by rw [beq_eq_false_iff_ne];omega
  have C5:=zH c5;clear c5
  go_enter Tryz.func85,Tryz.ntmps85
  go_wp2_with (first | (go_at_call 135;(with_reducible refine (HG.out _ zA).mono ?_);rintro e w1 ⟨rfl,t1⟩;have y1:=t1.cells_eq w.heap.size (by simp) (by simp)) | (go_at_call 136;(with_reducible refine (Zfw x.names _ p1).mono ?_);rintro e w2 ⟨rfl,n2,rfl⟩))
  go_ret
  exact ⟨Zaa (by rw [Hf.out,decide_eq_false C5.out]),zA⟩
set_option maxHeartbeats 400000 in
theorem Znd (a a':Option Addr) (cap cap':Nat) (l l':List Int) (fp fp':List Nat) (w:World) (h:IntsA w a cap l fp) (h':IntsA w a' cap' l' fp') :
  Calls Tryz.prog 166 #[.slice a l.length cap,.slice a' l'.length cap'] w fun e w'=>e = .returned (.bool (eqV l l'))/\Drew w w':=by
 have hb:=h.bound
 have hb':=h'.bound
 by_cases hl:l.length = l'.length
 ·have hne:((l.length:Int) != (l'.length:Int)) = false:=by simp [hl]
  have Hl:=zH hl;clear hl
  go_enter Tryz.func166,Tryz.ntmps166
  go_wp2
  go_loopw [5] (fun i wr=>∃ j:Nat,j<=l.length/\i = .int .i64 j/\l.take j = l'.take j/\Drew w wr)
   (fun i _=>l.length - (intOf i).toNat)
  case atStart=>exact ⟨0,Nat.zero_le _,rfl,rfl,Drew.refl _⟩
  case round=>
   obtain ⟨j,hj,rfl,hr,n,rfl⟩:=hrel
   have Hr:=zH hr;clear hr
   by_cases hlt:j < l.length
   ·have hlt':j < l'.length:=by have:=Hl.out;omega
    obtain ⟨b,off,ha,-,hc⟩:=h.at_ j hlt
    obtain ⟨b',off',ha',-,hc'⟩:=h'.at_ j hlt'
    go_wp2
    go_quiet (fail)
    go_wp2
    ·have hne:(l[j] != l'[j]) = true:=by assumption
     go_ret
     exact ⟨Zaa (Zhk hlt hlt' hne).symm,((Drew.refl _).drewN _).drewN _⟩
    ·have heq:(l[j] != l'[j]) = false:=by assumption
     go_roundw
     case rel=>exact ⟨j + 1,by omega,by go_num,Zft hlt hlt' heq Hr.out,⟨_,rfl⟩⟩
     case measure=>simp [intOf];omega
   ·go_wp2
    go_ret
    exact ⟨Zaa (eqL_yes Hl.out hlt Hr.out).symm,(Drew.refl _).drewN n⟩
 ·have hne:((l.length:Int) != (l'.length:Int)) = true:=by simp;omega
  go_enter Tryz.func166,Tryz.ntmps166
  go_wp2
  go_ret
  exact ⟨Zaa (eqL_len hne).symm,Drew.refl _⟩
theorem Zam (v v':Value) (l l':List Int) (fp fp':List Nat) (w:World) (h:Rd w v l fp) (h':Rd w v' l' fp') :
  Calls Tryz.prog 166 #[v,v'] w fun e w'=>e = .returned (.bool (eqV l l'))/\Drew w w':=by
 obtain ⟨a,cap,rfl,hI⟩:=h.ints
 obtain ⟨a',cap',rfl,hI'⟩:=h'.ints
 exact Znd a a' cap cap' l l' fp fp' w hI hI'
set_option maxHeartbeats 400000 in
theorem Zqv (a a':Option Addr) (cap cap':Nat) (l l':List Int) (fp fp':List Nat) (w:World) (h:IntsA w a cap l fp) (h':IntsA w a' cap' l' fp') :
  Calls Tryz.prog 210 #[.slice a l.length cap,.slice a' l'.length cap'] w fun e w'=>e = .returned (.bool (eqV l l'))/\Drew w w':=by
 have hb:=h.bound
 have hb':=h'.bound
 by_cases hl:l.length = l'.length
 ·have hne:((l.length:Int) != (l'.length:Int)) = false:=by simp [hl]
  have Hl:=zH hl;clear hl
  go_enter Tryz.func210,Tryz.ntmps210
  go_wp2
  go_loopw [5,13] (fun _ i wr=>∃ j:Nat,j<=l.length/\i = .int .i64 j/\l.take j = l'.take j/\Drew w wr)
   (fun _ i _=>l.length - (intOf i).toNat)
  case atStart=>exact ⟨0,Nat.zero_le _,rfl,rfl,Drew.refl _⟩
  case round=>
   obtain ⟨j,hj,rfl,hr,n,rfl⟩:=hrel
   have Hr:=zH hr;clear hr
   by_cases hlt:j < l.length
   ·have hlt':j < l'.length:=by have:=Hl.out;omega
    obtain ⟨b,off,ha,-,hc⟩:=h.at_ j hlt
    obtain ⟨b',off',ha',-,hc'⟩:=h'.at_ j hlt'
    go_wp2
    go_quiet (fail)
    go_wp2
    ·have hne:(l[j] != l'[j]) = true:=by assumption
     go_ret
     exact ⟨Zaa (Zhk hlt hlt' hne).symm,((Drew.refl _).drewN _).drewN _⟩
    ·have heq:(l[j] != l'[j]) = false:=by assumption
     go_roundw
     case rel=>exact ⟨j + 1,by omega,by go_num,Zft hlt hlt' heq Hr.out,⟨_,rfl⟩⟩
     case measure=>simp [intOf];omega
   ·go_wp2
    go_ret
    exact ⟨Zaa (eqL_yes Hl.out hlt Hr.out).symm,(Drew.refl _).drewN n⟩
 ·have hne:((l.length:Int) != (l'.length:Int)) = true:=by simp;omega
  go_enter Tryz.func210,Tryz.ntmps210
  go_wp2
  go_ret
  exact ⟨Zaa (eqL_len hne).symm,Drew.refl _⟩
theorem Zeq (v v':Value) (l l':List Int) (fp fp':List Nat) (w:World) (h:Rd w v l fp) (h':Rd w v' l' fp') :
  Calls Tryz.prog 210 #[v,v'] w fun e w'=>e = .returned (.bool (eqV l l'))/\Drew w w':=by
 obtain ⟨a,cap,rfl,hI⟩:=h.ints
 obtain ⟨a',cap',rfl,hI'⟩:=h'.ints
 exact Zqv a a' cap cap' l l' fp fp' w hI hI'
set_option maxHeartbeats 1000000 in
theorem Zkq (f:FuncId) (caps:Array Value) (hcf:∀ args w,(callFunc f args).run Tryz.prog w = .ok (.enter f args) w)
  (v v':Value) (l l':List (List Int)) (fp fp':List Nat) (w:World) (h:Rd w v l fp) (h':Rd w v' l' fp')
  (hc:∀ (u u':Value) (x x':List Int) (f1 f1':List Nat) (w':World),Rd w' u x f1->Rd w' u' x' f1'->Calls Tryz.prog f (#[u,u'] ++ caps) w' fun e w''=>e = .returned (.bool (eqV x x'))/\Only [] w' w'') :
  Calls Tryz.prog 214 #[v,v',.func (.func f) #[] caps] w fun e w'=>e = .returned (.bool (eqV l l'))/\Only [] w w':=by
 obtain ⟨a,cap,ob,fps,rfl,-,hs⟩:=h.open_
 obtain ⟨a',cap',ob',fps',rfl,-,hs'⟩:=h'.open_
 have hb:=hs.bound
 have hb':=hs'.bound
 have HC:=zH hc
 clear hc
 by_cases hl:l.length = l'.length
 ·have hne:((l.length:Int) != (l'.length:Int)) = false:=by simp [hl]
  have Hl:=zH hl;clear hl
  go_enter Tryz.func214,Tryz.ntmps214
  go_wp2
  go_loopw [7,8,9,17] (fun _ _ _ i wr=>∃ j:Nat,j<=l.length/\i = .int .i64 j/\l.take j = l'.take j/\Only [] w wr)
   (fun _ _ _ i _=>l.length - (intOf i).toNat)
  case atStart=>exact ⟨0,Nat.zero_le _,rfl,rfl,Only.refl _ _⟩
  case round=>
   obtain ⟨j,hj,rfl,hr,hK⟩:=hrel
   have Hr:=zH hr;clear hr
   by_cases hlt:j < l.length
   ·have hlt':j < l'.length:=by have:=Hl.out;omega
    obtain ⟨b,off,u,rfl,-,c0,hv⟩:=hs.atRow j hlt
    obtain ⟨b',off',u',rfl,-,c0',hv'⟩:=hs'.atRow j hlt'
    have c:=hK.cell (by simp) c0
    have c':=hK.cell (by simp) c0'
    clear c0 c0'
    rcases hq:eqV l[j] l'[j]
    all_goals go_wp2_with (with_reducible refine (HC.out u u' l[j] l'[j] _ _ wr (zK hv hK) (zK hv' hK)).mono ?_;rintro e w1 ⟨rfl,hk1⟩)
    ·go_ret
     exact ⟨Zaa (eqL_no hlt hlt' hq).symm,hK.trans hk1⟩
    ·go_roundw
     case rel=>exact ⟨j + 1,by omega,by go_num,Zgq hlt hlt' hq Hr.out,hK.trans hk1⟩
     case measure=>simp [intOf];omega
   ·go_wp2
    go_ret
    exact ⟨Zaa (eqL_yes Hl.out hlt Hr.out).symm,hK⟩
 ·have hne:((l.length:Int) != (l'.length:Int)) = true:=by simp;omega
  go_enter Tryz.func214,Tryz.ntmps214
  go_wp2
  go_ret
  exact ⟨Zaa (eqL_len hne).symm,Only.refl _ _⟩
theorem Zgb (u u':Value) (x x':List Int) (f1 f1':List Nat) (w:World) (h:Rd w u x f1) (h':Rd w u' x' f1') :
  Calls Tryz.prog 215 #[u,u'] w fun e w'=>e = .returned (.bool (eqV x x'))/\Only [] w w':=by
 go_enter Tryz.func215,Tryz.ntmps215
 go_wp2_with ((go_at_call 210;(with_reducible refine (Zeq u u' x x' _ _ _ h h').mono ?_);rintro e w1 ⟨rfl,d1⟩))
 go_ret
 exact ⟨rfl,d1.only _⟩
theorem Zeu (v v':Value) (l l':List (List Int)) (fp fp':List Nat) (w:World) (h:Rd w v l fp) (h':Rd w v' l' fp') :
  Calls Tryz.prog 211 #[v,v'] w fun e w'=>e = .returned (.bool (eqV l l'))/\Only [] w w':=by
 have Hc:=zH (Zkq 215 #[] Tryz.call215 v v' l l' fp fp' w h h' (fun u u' x x' f1 f1' w' r r'=>Zgb u u' x x' f1 f1' w' r r'))
 go_enter Tryz.func211,Tryz.ntmps211
 go_wp2_with ((go_at_call 214;(with_reducible refine (Hc.out).mono ?_);rintro e w1 ⟨rfl,t1⟩))
 go_ret
 exact ⟨rfl,t1⟩
theorem Table.ne1 {t t':Table} (h:eqV t.tracked t'.tracked = false):eqV t t' = false:=eqV_no fun he=>(eqV_iff'.1 h) (by rw [he])
theorem Table.ne2 {t t':Table} (h:eqV t.patterns t'.patterns = false):eqV t t' = false:=eqV_no fun he=>(eqV_iff'.1 h) (by rw [he])
theorem Table.ne3 {t t':Table} (h:eqV t.distances t'.distances = false):eqV t t' = false:=eqV_no fun he=>(eqV_iff'.1 h) (by rw [he])
theorem Table.eq3 {t t':Table} (h1:eqV t.tracked t'.tracked = true) (h2:eqV t.patterns t'.patterns = true) (h3:eqV t.distances t'.distances = true):eqV t t' = true:=
 eqV_yes (Table.eq_iff.2 ⟨eqV_iff.1 h1,eqV_iff.1 h2,eqV_iff.1 h3⟩)
set_option maxHeartbeats 1000000 in
theorem Zhq (cs cs':List Value) (t t':Table) (fp fp':List Nat) (w:World) (h:Rp.rep w cs t fp) (h':Rp.rep w cs' t' fp') :
  Calls Tryz.prog 204 #[.agg cs.toArray,.agg cs'.toArray] w fun e w'=>e = .returned (.bool (eqV t t'))/\Only [] w w':=by
 obtain ⟨v0,v1,v2,f0,f1,f2,rfl,rfl,h0,h1,h2⟩:=h
 obtain ⟨v0',v1',v2',f0',f1',f2',rfl,rfl,h0',h1',h2'⟩:=h'
 rcases q0:eqV t.tracked t'.tracked
 ·go_enter Tryz.func204,Tryz.ntmps204
  go_wp2_with ((go_at_call 210;(with_reducible refine (Zeq v0 v0' t.tracked t'.tracked _ _ _ (zK h0 zA) (zK h0' zA)).mono ?_);rintro e w1 ⟨rfl,n1,rfl⟩))
  go_ret
  exact ⟨Zaa (Table.ne1 q0).symm,zA⟩
 rcases q1:eqV t.patterns t'.patterns
 ·go_enter Tryz.func204,Tryz.ntmps204
  go_wp2_with (first
   | (go_at_call 210;(with_reducible refine (Zeq v0 v0' t.tracked t'.tracked _ _ _ (zK h0 zA) (zK h0' zA)).mono ?_);rintro e w1 ⟨rfl,n1,rfl⟩)
   | (go_at_call 211;(with_reducible refine (Zeu v1 v1' t.patterns t'.patterns _ _ _ (zK h1 zA) (zK h1' zA)).mono ?_);rintro e w2 ⟨rfl,t2⟩))
  go_ret
  exact ⟨Zaa (Table.ne2 q1).symm,zA⟩
 rcases q2:eqV t.distances t'.distances
 all_goals go_enter Tryz.func204,Tryz.ntmps204
 all_goals go_wp2_with (first
   | (go_at_call 210;(with_reducible refine (Zeq v0 v0' t.tracked t'.tracked _ _ _ (zK h0 zA) (zK h0' zA)).mono ?_);rintro e w1 ⟨rfl,n1,rfl⟩)
   | (go_at_call 211;(with_reducible refine (Zeu v1 v1' t.patterns t'.patterns _ _ _ (zK h1 zA) (zK h1' zA)).mono ?_);rintro e w2 ⟨rfl,t2⟩;have y0:=t2.cells_eq w.heap.size (by simp;try omega) (by simp);have y1:=t2.cells_eq (w.heap.size + 1) (by simp) (by simp))
   | (go_at_call 210;(with_reducible refine (Zeq v2 v2' t.distances t'.distances _ _ _ (zK h2 zA) (zK h2' zA)).mono ?_);rintro e w3 ⟨rfl,n3,rfl⟩))
 ·go_ret
  exact ⟨Zaa (Table.ne3 q2).symm,zA⟩
 ·go_ret
  exact ⟨Zaa (Table.eq3 q0 q1 q2).symm,zA⟩
set_option maxHeartbeats 1000000 in
theorem Zht (cs cs':List Value) (t t':Table) (fp fp':List Nat) (w:World) (h:Rp.rep w cs t fp) (h':Rp.rep w cs' t' fp') :
  Calls Tryz.prog 198 #[.agg cs.toArray,.agg cs'.toArray] w fun e w'=>e = .returned (.bool (eqV t t'))/\Only [] w w':=by
 obtain ⟨v0,v1,v2,f0,f1,f2,rfl,rfl,h0,h1,h2⟩:=h
 obtain ⟨v0',v1',v2',f0',f1',f2',rfl,rfl,h0',h1',h2'⟩:=h'
 rcases q0:eqV t.tracked t'.tracked
 ·go_enter Tryz.func198,Tryz.ntmps198
  go_wp2_with ((go_at_call 166;(with_reducible refine (Zam v0 v0' t.tracked t'.tracked _ _ _ (zK h0 zA) (zK h0' zA)).mono ?_);rintro e w1 ⟨rfl,n1,rfl⟩))
  go_ret
  exact ⟨Zaa (Table.ne1 q0).symm,zA⟩
 rcases q2:eqV t.distances t'.distances
 ·go_enter Tryz.func198,Tryz.ntmps198
  go_wp2_with (first
   | (go_at_call 166;(with_reducible refine (Zam v0 v0' t.tracked t'.tracked _ _ _ (zK h0 zA) (zK h0' zA)).mono ?_);rintro e w1 ⟨rfl,n1,rfl⟩)
   | (go_at_call 166;(with_reducible refine (Zam v2 v2' t.distances t'.distances _ _ _ (zK h2 zA) (zK h2' zA)).mono ?_);rintro e w3 ⟨rfl,n3,rfl⟩))
  go_ret
  exact ⟨Zaa (Table.ne3 q2).symm,zA⟩
 generalize hl:t.patterns = l at *
 generalize hl':t'.patterns = l' at *
 have L1:=zH hl
 have L2:=zH hl'
 clear hl hl'
 obtain ⟨a,cap,ob,fps,rfl,rfl,hs⟩:=h1.open_
 obtain ⟨a',cap',ob',fps',rfl,rfl,hs'⟩:=h1'.open_
 have hb:=hs.bound
 have hb':=hs'.bound
 by_cases hlen:l.length ≠ l'.length
 ·have hne:((l.length:Int) != (l'.length:Int)) = true:=by simp;omega
  go_enter Tryz.func198,Tryz.ntmps198
  go_wp2_with (first
   | (go_at_call 166;(with_reducible refine (Zam v0 v0' t.tracked t'.tracked _ _ _ (zK h0 zA) (zK h0' zA)).mono ?_);rintro e w1 ⟨rfl,n1,rfl⟩)
   | (go_at_call 166;(with_reducible refine (Zam v2 v2' t.distances t'.distances _ _ _ (zK h2 zA) (zK h2' zA)).mono ?_);rintro e w3 ⟨rfl,n3,rfl⟩))
  go_ret
  exact ⟨Zaa (Table.ne2 (by rw [L1.out,L2.out];exact eqL_len hne)).symm,zA⟩
 have hlen:=Classical.not_not.1 hlen
 have hne:((l.length:Int) != (l'.length:Int)) = false:=by simp [hlen]
 have Hl:=zH hlen;clear hlen
 go_enter Tryz.func198,Tryz.ntmps198
 go_wp2_with (first
   | (go_at_call 166;(with_reducible refine (Zam v0 v0' t.tracked t'.tracked _ _ _ (zK h0 zA) (zK h0' zA)).mono ?_);rintro e w1 ⟨rfl,n1,rfl⟩)
   | (go_at_call 166;(with_reducible refine (Zam v2 v2' t.distances t'.distances _ _ _ (zK h2 zA) (zK h2' zA)).mono ?_);rintro e w3 ⟨rfl,n3,rfl⟩))
 go_loopw [5] (fun i wr=>∃ j:Nat,j<=l.length/\i = .int .i64 j/\l.take j = l'.take j/\Drew ((w.alloc (.cells #[v0,.slice a l.length cap,v2] 82)).alloc (.cells #[v0',.slice a' l'.length cap',v2'] 82)) wr)
  (fun i _=>l.length - (intOf i).toNat)
 case atStart=>exact ⟨0,Nat.zero_le _,rfl,rfl,⟨_,rfl⟩⟩
 case round=>
  obtain ⟨j,hj,rfl,hr,n,rfl⟩:=hrel
  have Hr:=zH hr;clear hr
  by_cases hlt:j < l.length
  ·have hlt':j < l'.length:=by have:=Hl.out;omega
   obtain ⟨b,off,u,rfl,-,c0,hv⟩:=hs.atRow j hlt
   obtain ⟨b',off',u',rfl,-,c0',hv'⟩:=hs'.atRow j hlt'
   have k0:=World.block_lt_of_cell? w _ c0
   have k0':=World.block_lt_of_cell? w _ c0'
   simp only at k0 k0'
   have l0:b < w.heap.size + 1:=by omega
   have l0':b' < w.heap.size + 1:=by omega
   rcases hq:eqV l[j] l'[j]
   all_goals go_wp2
   all_goals go_quiet ((go_at_call 166;exact Zan (Zam u u' l[j] l'[j] _ _ _ (zK hv ((((Only.refl [] w).alloc _).alloc _).drewN _)) (zK hv' ((((Only.refl [] w).alloc _).alloc _).drewN _)))))
   all_goals go_wp2
   ·go_ret
    exact ⟨Zaa (Table.ne2 (by rw [L1.out,L2.out];exact eqL_no hlt hlt' hq)).symm,zA⟩
   ·go_roundw
    case rel=>exact ⟨j + 1,by omega,by go_num,Zgq hlt hlt' hq Hr.out,⟨_,rfl⟩⟩
    case measure=>simp [intOf];omega
  ·go_wp2
   go_ret
   exact ⟨Zaa (Table.eq3 q0 (by rw [L1.out,L2.out];exact eqL_yes Hl.out hlt Hr.out) q2).symm,zA⟩
def Inc (n:Int) (l:List Int):Prop:=(∀ x∈l,0<=x/\x < n)/\l.Pairwise (· < ·)
instance (n:Int) (l:List Int):Decidable (Inc n l):=inferInstanceAs (Decidable (_/\_))
def Dis (n:Int) (l:List Int):Prop:=(∀ x∈l,0<=x/\x < n)/\l.Nodup
instance (n:Int) (l:List Int):Decidable (Dis n l):=inferInstanceAs (Decidable (_/\_))
def trackB (n:Int) (l:List Int):Bool:=decide (0 < l.length) && decide (Inc n l)
def patB (n:Int) (k:Nat) (l:List Int):Bool:=decide (l.length = k) && decide (Dis n l)
theorem Zdm {l:List Int} {j:Nat} (h:j < l.length) (h1:(l.take j).Pairwise (· < ·)) (h2:∀ i (hi:i + 1 = j),l[i]'(by omega) < l[j]):(l.take (j + 1)).Pairwise (· < ·):=by
 rw [Zab l j h]
 refine List.pairwise_append.2 ⟨h1,by simp,fun a ha b hb=>?_⟩
 simp at hb;subst hb
 rcases Nat.eq_zero_or_pos j with h0 | h0
 ·subst h0;simp at ha
 ·obtain ⟨i,rfl⟩:∃ i,j = i + 1:=⟨j - 1,by omega⟩
  have hi:i < l.length:=by omega
  have h3:=h2 i rfl
  obtain ⟨k,hk,rfl⟩:=List.mem_take_iff_getElem.1 ha
  rcases Nat.lt_or_ge k i with hki | hki
  ·rw [Zab l i hi] at h1
   have:=(List.pairwise_append.1 h1).2.2 l[k] (List.mem_take_iff_getElem.2 ⟨k,by omega,rfl⟩) l[i] (by simp)
   omega
  ·have:k = i:=by omega
   subst this;exact h3
theorem Zia {l:List Int} {i:Nat} (h:i + 1 < l.length) (h2:¬ l[i] < l[i + 1]):¬ l.Pairwise (· < ·):=by
 intro hp
 exact h2 (List.pairwise_iff_getElem.1 hp i (i + 1) (by omega) h (by omega))
theorem inc_ge {l:List Int} (h0:∀ x∈l,0<=x) (hp:l.Pairwise (· < ·)):∀ k (hk:k < l.length),(k:Int)<=l[k]:=by
 intro k
 induction k with
 | zero=>intro hk;have:=h0 _ (List.getElem_mem hk);omega
 | succ k ih=>
  intro hk
  have h1:=ih (by omega)
  have h2:=List.pairwise_iff_getElem.1 hp k (k + 1) (by omega) hk (by omega)
  omega
theorem Inc.len {n:Int} {l:List Int} (h:Inc n l):(l.length:Int)<=n\/l.length = 0:=by
 rcases Nat.eq_zero_or_pos l.length with h0 | h0
 ·exact .inr h0
 ·left
  have h1:=inc_ge (fun x hx=>(h.1 x hx).1) h.2 (l.length - 1) (by omega)
  have h2:=(h.1 l[l.length - 1] (List.getElem_mem _)).2
  omega
theorem Zrq {l:List Int} (h:l.Pairwise (· < ·)):l.Nodup:=by
 rw [List.nodup_iff_pairwise_ne]
 exact h.imp fun h=>Int.ne_of_lt h
theorem Inc.dis {n:Int} {l:List Int} (h:Inc n l):Dis n l:=⟨h.1,Zrq h.2⟩
theorem Zaz {n:Int} {l:List Int}:trackB n l = true ↔ 0 < l.length/\Inc n l:=by simp [trackB]
theorem Zat {n:Int} {k:Nat} {l:List Int}:patB n k l = true ↔ l.length = k/\Dis n l:=by simp [patB]
theorem Zlv {n:Int} {l:List Int} (h:¬ Inc n l):trackB n l = false:=by simp [trackB,h]
theorem Zgk {n:Int} {l:List Int} (h:trackB n l = true):patB n l.length l = true:=Zat.2 ⟨rfl,(Zaz.1 h).2.dis⟩
theorem Zhz (i:Nat) (h:i < 9223372036854775807):wrap64 (((i + 1:Nat):Int) - 1) = (i:Int):=by unfold wrap64;omega
set_option maxHeartbeats 1000000 in
theorem Zkg (n:Int) (a:Option Addr) (cap:Nat) (l:List Int) (fp:List Nat) (w:World) (h:IntsA w a cap l fp) (n0:0<=n) (n1:n<=1000) :
  Calls Tryz.prog 107 #[.int .i64 n,.slice a l.length cap] w fun e w'=>e = .returned (.bool (trackB n l))/\Drew w w':=by
 have hb:=h.bound
 rcases hq:inR l.length 1 n
 ·go_enter Tryz.func107,Tryz.ntmps107
  go_wp2_with ((go_at_call 88;(with_reducible refine (Zah l.length 1 n _).mono ?_);rintro e w1 ⟨rfl,rfl⟩))
  go_ret
  exact ⟨Zaa (by
   rw [eq_comm,<- Bool.not_eq_true,Zaz];rintro ⟨h0,h1⟩
   rw [inR_not] at hq;have:=h1.len;omega),Drew.refl _⟩
 obtain ⟨g1,g2⟩:=inR_iff.1 hq
 have hfin:trackB n l = decide (Inc n l):=by unfold trackB;rw [decide_eq_true (by omega)];rfl
 have Hfin:=zH hfin;clear hfin
 go_enter Tryz.func107,Tryz.ntmps107
 go_wp2_with ((go_at_call 88;(with_reducible refine (Zah l.length 1 n _).mono ?_);rintro e w ⟨rfl,rfl⟩))
 go_loopw [5] (fun i wr=>∃ j:Nat,j<=l.length/\i = .int .i64 j/\(∀ x∈l.take j,0<=x/\x < n)/\(l.take j).Pairwise (· < ·)/\Drew w wr)
  (fun i _=>l.length - (intOf i).toNat)
 case atStart=>exact ⟨0,Nat.zero_le _,rfl,by simp,by simp,Drew.refl _⟩
 case round=>
  obtain ⟨j,hj,rfl,hr,hn,k,rfl⟩:=hrel
  have Hr:=zH hr;clear hr
  have Hn:=zH hn;clear hn
  by_cases hlt:j < l.length
  ·rcases c1:inR l[j] 0 (n - 1)
   ·obtain ⟨b,off,rfl,-,hc⟩:=h.at_ j hlt
    go_wp2
    go_quiet ((go_at_call 88;exact Zan (Zdf l[j] 0 (n - 1) _)))
    go_wp2
    go_ret
    exact ⟨Zaa (by rw [Hfin.out,eq_comm,decide_eq_false_iff_not];intro hp;have:=hp.1 l[j] (List.getElem_mem _);rw [inR_not] at c1;omega),((Drew.refl _).drewN _).drewN _⟩
   have hx:=inR_iff.1 c1
   have Hx:=zH hx;clear hx
   rcases Nat.eq_zero_or_pos j with hj0 | hj0
   ·subst hj0
    obtain ⟨b,off,rfl,-,hc⟩:=h.at_ 0 hlt
    rw [Nat.add_zero] at hc
    go_wp2
    go_quiet ((go_at_call 88;exact Zan (Zdf l[0] 0 (n - 1) _)))
    go_wp2
    go_roundw
    case rel=>exact ⟨1,by omega,by go_num,Zbk hlt Hr.out (by have:=Hx.out;omega),Zdm hlt Hn.out (by intro i hi;omega),⟨_,rfl⟩⟩
    case measure=>simp [intOf];omega
   ·obtain ⟨i,rfl⟩:∃ i,j = i + 1:=⟨j - 1,by omega⟩
    have hi:i < l.length:=by omega
    have hw:=Zhz i (by omega)
    have hgt:decide ((((i + 1:Nat):Int)) > 0) = true:=decide_eq_true (by omega)
    obtain ⟨b,off,rfl,-,hc⟩:=h.at_ (i + 1) hlt
    obtain ⟨b2,off2,he,-,hc2⟩:=h.at_ i hi
    obtain ⟨rfl,rfl⟩:b = b2/\off = off2:=by simpa using he
    by_cases c2:l[i + 1]<=l[i]
    ·have d2:decide (l[i + 1]<=l[i]) = true:=decide_eq_true c2
     have C2:=zH c2;clear c2
     go_wp2
     go_quiet ((go_at_call 88;exact Zan (Zdf l[i + 1] 0 (n - 1) _)))
     go_wp2
     go_ret
     exact ⟨Zaa (by rw [Hfin.out,eq_comm,decide_eq_false_iff_not];intro hp;exact Zia hlt (by have:=C2.out;omega) hp.2),((Drew.refl _).drewN _).drewN _⟩
    ·have d2:decide (l[i + 1]<=l[i]) = false:=decide_eq_false c2
     have C2:=zH c2;clear c2
     go_wp2
     go_quiet ((go_at_call 88;exact Zan (Zdf l[i + 1] 0 (n - 1) _)))
     go_wp2
     go_roundw
     case rel=>exact ⟨i + 2,by omega,by go_num,Zbk hlt Hr.out (by have:=Hx.out;omega),Zdm hlt Hn.out (by
      intro q hq;have:q = i:=(by omega);subst this;have:=C2.out;omega),⟨_,rfl⟩⟩
     case measure=>simp [intOf];omega
  ·go_wp2
   go_ret
   exact ⟨Zaa (by rw [Hfin.out,eq_comm,decide_eq_true_iff];have h1:=Hr.out;have h2:=Hn.out;rw [List.take_of_length_le (by omega)] at h1 h2;exact ⟨h1,h2⟩),⟨_,rfl⟩⟩
theorem Zlj (n:Int) (v:Value) (l:List Int) (fp:List Nat) (w:World) (h:Rd w v l fp) (n0:0<=n) (n1:n<=1000) :
  Calls Tryz.prog 107 #[.int .i64 n,v] w fun e w'=>e = .returned (.bool (trackB n l))/\Drew w w':=by
 obtain ⟨a,cap,rfl,hI⟩:=h.ints
 exact Zkg n a cap l fp w hI n0 n1
theorem Zff (n x:Int) (w:World) (n0:0<=n) (n1:n<=1000) :
  Calls Tryz.prog 162 #[.int .i64 n,.int .i64 x] w fun e w'=>e = .returned (.bool (inR x 0 (n - 1)))/\Drew w w':=by
 go_enter Tryz.func162,Tryz.ntmps162
 go_wp2_with ((go_at_call 96;(with_reducible refine (Zaj x 0 (n - 1) _).mono ?_);rintro e w1 ⟨rfl,rfl⟩))
 go_ret
 exact ⟨rfl,Drew.refl _⟩
set_option maxHeartbeats 1000000 in
theorem Zmu (n:Int) (a:Option Addr) (cap:Nat) (l:List Int) (fp:List Nat) (w:World) (h:IntsA w a cap l fp) (n0:0<=n) (n1:n<=1000) :
  Calls Tryz.prog 114 #[.int .i64 n,.slice a l.length cap] w fun e w'=>e = .returned (.bool (trackB n l))/\Drew w w':=by
 have hb:=h.bound
 go_enter Tryz.func114,Tryz.ntmps114
 go_wp2
 go_loopw [9] (fun i wr=>∃ j:Nat,j<=l.length/\i = .int .i64 j/\(∀ x∈l.take j,0<=x/\x < n)/\(l.take j).Pairwise (· < ·)/\Drew w wr)
  (fun i _=>l.length - (intOf i).toNat)
 case atStart=>exact ⟨0,Nat.zero_le _,rfl,by simp,by simp,Drew.refl _⟩
 case round=>
  obtain ⟨j,hj,rfl,hr,hn,k,rfl⟩:=hrel
  have Hr:=zH hr;clear hr
  have Hn:=zH hn;clear hn
  by_cases hlt:j < l.length
  ·rcases c1:inR l[j] 0 (n - 1)
   ·obtain ⟨b,off,rfl,-,hc⟩:=h.at_ j hlt
    go_wp2_with ((go_at_call 162;(with_reducible refine (Zff n l[j] _ n0 n1).mono ?_);rintro e w1 ⟨rfl,m,rfl⟩))
    go_ret
    exact ⟨Zaa (by rw [eq_comm];exact Zlv fun hp=>by have:=hp.1 l[j] (List.getElem_mem _);rw [inR_not] at c1;omega),⟨_,rfl⟩⟩
   have hx:=inR_iff.1 c1
   have Hx:=zH hx;clear hx
   rcases Nat.eq_zero_or_pos j with hj0 | hj0
   ·subst hj0
    obtain ⟨b,off,rfl,-,hc⟩:=h.at_ 0 hlt
    rw [Nat.add_zero] at hc
    go_wp2_with ((go_at_call 162;(with_reducible refine (Zff n l[0] _ n0 n1).mono ?_);rintro e w1 ⟨rfl,m,rfl⟩))
    go_roundw
    case rel=>exact ⟨1,by omega,by go_num,Zbk hlt Hr.out (by have:=Hx.out;omega),Zdm hlt Hn.out (by intro i hi;omega),⟨_,rfl⟩⟩
    case measure=>simp [intOf];omega
   ·obtain ⟨i,rfl⟩:∃ i,j = i + 1:=⟨j - 1,by omega⟩
    have hi:i < l.length:=by omega
    have hw:=Zhz i (by omega)
    have hgt:decide ((((i + 1:Nat):Int)) > 0) = true:=decide_eq_true (by omega)
    obtain ⟨b,off,rfl,-,hc⟩:=h.at_ (i + 1) hlt
    obtain ⟨b2,off2,he,-,hc2⟩:=h.at_ i hi
    obtain ⟨rfl,rfl⟩:b = b2/\off = off2:=by simpa using he
    by_cases c2:l[i + 1]<=l[i]
    ·have d2:decide (l[i] ≥ l[i + 1]) = true:=decide_eq_true c2
     have C2:=zH c2;clear c2
     go_wp2_with ((go_at_call 162;(with_reducible refine (Zff n l[i + 1] _ n0 n1).mono ?_);rintro e w1 ⟨rfl,m,rfl⟩))
     go_ret
     exact ⟨Zaa (by rw [eq_comm];exact Zlv fun hp=>Zia hlt (by have:=C2.out;omega) hp.2),⟨_,rfl⟩⟩
    ·have d2:decide (l[i] ≥ l[i + 1]) = false:=decide_eq_false c2
     have C2:=zH c2;clear c2
     go_wp2_with ((go_at_call 162;(with_reducible refine (Zff n l[i + 1] _ n0 n1).mono ?_);rintro e w1 ⟨rfl,m,rfl⟩))
     go_roundw
     case rel=>exact ⟨i + 2,by omega,by go_num,Zbk hlt Hr.out (by have:=Hx.out;omega),Zdm hlt Hn.out (by
      intro q hq;have:q = i:=(by omega);subst this;have:=C2.out;omega),⟨_,rfl⟩⟩
     case measure=>simp [intOf];omega
  ·go_wp2
   go_ret
   refine ⟨Zaa ?_,⟨_,rfl⟩⟩
   have h1:=Hr.out;have h2:=Hn.out;rw [List.take_of_length_le (by omega)] at h1 h2
   unfold trackB
   rw [decide_eq_true (show Inc n l from ⟨h1,h2⟩)];simp
theorem Zoc (n:Int) (v:Value) (l:List Int) (fp:List Nat) (w:World) (h:Rd w v l fp) (n0:0<=n) (n1:n<=1000) :
  Calls Tryz.prog 114 #[.int .i64 n,v] w fun e w'=>e = .returned (.bool (trackB n l))/\Drew w w':=by
 obtain ⟨a,cap,rfl,hI⟩:=h.ints
 exact Zmu n a cap l fp w hI n0 n1
end Go.Proofs.YtclhblofchfglaaGreat
