/- IsValidPuzzle: the reference's and the program's. -/
import Derived.Test.YtclhblofchfglaaGreatRowCompareSolversG3
import Derived.StillTailTactics
import Derived.Test.YtclhblofchfglaaGreatRowCompareSolversG1
namespace Go.Proofs.YtclhblofchfglaaGreat
open Go.RowKit
set_option maxRecDepth 10000
def bl (s:ByteArray):List Int:=s.data.toList.map fun b=>(b.toNat:Int)
theorem bl_len (s:ByteArray):(bl s).length = s.size:=by
 unfold bl;rw [List.length_map,Array.length_toList];rfl
theorem bl_get (s:ByteArray) (i:Nat) (h:i < s.size) (h':i < (bl s).length):(bl s)[i] = (s[i].toNat:Int):=by
 simp [bl];rfl
def moveNameB (L:List Int) (i:Nat):Bool:=match L[i]? with
 | some b=>inR b 65 90 && decide (b ∉ L.take i)
 | none=>false
theorem Zdr {L:List Int} {i:Nat} (h:i < L.length):moveNameB L i = (inR L[i] 65 90 && decide (L[i] ∉ L.take i)):=by
 simp [moveNameB,h]
def namesB (s:ByteArray):Bool:=inR s.size 1 8 && ((bl s).all (fun b=>inR b 65 90) && decide (bl s).Nodup)
def validPz (p:Puzzle):Bool:=gensB p.points p.moves && (namesB p.names && decide (p.names.size = p.moves.length))
theorem Zht {L:List Int}:(L.all (fun b=>inR b 65 90) && decide L.Nodup) = true ↔ (∀ x∈L,inR x 65 90 = true)/\L.Nodup:=by simp
set_option maxHeartbeats 1000000 in
theorem Zme (s:ByteArray) (i:Nat) (w:World) (hs:s.size<=maxLen) (hi:i < s.size) :
  Calls Tryz.prog 132 #[.string s,.int .i64 i] w fun e w'=>e = .returned (.bool (moveNameB (bl s) i))/\Drew w w':=by
 unfold maxLen at hs
 have hi1:(0:Int)<=(i:Int):=by omega
 have hi2:(i:Int) < (s.size:Int):=by omega
 have hL:i < (bl s).length:=by rw [bl_len];exact hi
 have hfin:moveNameB (bl s) i = (inR (s[i].toNat:Int) 65 90 && decide ((s[i].toNat:Int) ∉ (bl s).take i)):=by rw [Zdr hL,bl_get s i hi hL]
 have Hfin:=zH hfin;clear hfin
 by_cases c1:(s[i].toNat:Int) < 65
 ·go_enter Tryz.func132,Tryz.ntmps132
  go_wp2
  go_ret
  exact ⟨Zaa (by rw [Hfin.out,show inR (s[i].toNat:Int) 65 90 = false by rw [inR_not];omega];rfl),⟨0,rfl⟩⟩
 by_cases c2:90 < (s[i].toNat:Int)
 ·go_enter Tryz.func132,Tryz.ntmps132
  go_wp2
  go_ret
  exact ⟨Zaa (by rw [Hfin.out,show inR (s[i].toNat:Int) 65 90 = false by rw [inR_not];omega];rfl),⟨0,rfl⟩⟩
 have hR:moveNameB (bl s) i = decide ((s[i].toNat:Int) ∉ (bl s).take i):=by rw [Hfin.out,show inR (s[i].toNat:Int) 65 90 = true by rw [inR_iff];omega];rfl
 have HR:=zH hR;clear hR Hfin
 go_enter Tryz.func132,Tryz.ntmps132
 go_wp2
 go_loopw [5] (fun t wr=>∃ j:Nat,j<=i/\t = .int .i64 j/\(s[i].toNat:Int) ∉ (bl s).take j/\Drew w wr)
  (fun t _=>i - (intOf t).toNat)
 case atStart=>exact ⟨0,Nat.zero_le _,rfl,by simp,Drew.refl _⟩
 case round=>
  obtain ⟨j,hj,rfl,hr,k,rfl⟩:=hrel
  have Hr:=zH hr;clear hr
  by_cases hlt:j < i
  ·have hjs:j < s.size:=by omega
   have hj1:(0:Int)<=(j:Int):=by omega
   have hj2:(j:Int) < (s.size:Int):=by omega
   have hbj:(bl s)[j]'(by rw [bl_len];exact hjs) = (s[j].toNat:Int):=bl_get s j hjs _
   have Hbj:=zH hbj;clear hbj
   by_cases hx:(s[j].toNat:Int) = (s[i].toNat:Int)
   ·have hq:((s[j].toNat:Int) == (s[i].toNat:Int)) = true:=by simp [hx]
    have Hx:=zH hx;clear hx
    go_wp2
    go_quiet (fail)
    go_wp2
    go_ret
    exact ⟨Zaa (by rw [HR.out,eq_comm,decide_eq_false_iff_not,Classical.not_not,<- Hx.out,<- Hbj.out];exact List.mem_take_iff_getElem.2 ⟨j,by rw [bl_len];omega,rfl⟩),((Drew.refl _).drewN _).drewN _⟩
   ·have hq:((s[j].toNat:Int) == (s[i].toNat:Int)) = false:=by simpa using hx
    have Hx:=zH hx;clear hx
    go_wp2
    go_quiet (fail)
    go_wp2
    go_roundw
    case rel=>exact ⟨j + 1,by omega,by go_num,by
     rw [Zac (bl s) j (by rw [bl_len];exact hjs)];intro hm
     rcases List.mem_append.1 hm with hm | hm
     ·exact Hr.out hm
     ·simp at hm;rw [Hbj.out] at hm;exact Hx.out hm.symm,⟨_,rfl⟩⟩
    case measure=>simp [intOf];omega
  ·go_wp2
   go_ret
   exact ⟨Zaa (by rw [HR.out,eq_comm,decide_eq_true_iff];have:=Hr.out;have e:j = i:=(by omega);rwa [e] at this),⟨_,rfl⟩⟩
theorem Zld {L:List Int} (h:∀ k,k < L.length->moveNameB L k = true):(L.all (fun b=>inR b 65 90) && decide L.Nodup) = true:=by
 rw [Zht]
 have hk:∀ k (hk:k < L.length),inR L[k] 65 90 = true/\L[k] ∉ L.take k:=by
  intro k hk
  have:=h k hk
  rw [Zdr hk] at this
  simpa using this
 refine ⟨fun x hx=>?_,?_⟩
 ·obtain ⟨k,hk',rfl⟩:=List.getElem_of_mem hx
  exact (hk k hk').1
 ·rw [List.nodup_iff_pairwise_ne,List.pairwise_iff_getElem]
  intro i j hi hj hij he
  exact (hk j hj).2 (List.mem_take_iff_getElem.2 ⟨i,by omega,he⟩)
theorem Zmt {L:List Int} {k:Nat} (hk:k < L.length) (h:moveNameB L k = false):(L.all (fun b=>inR b 65 90) && decide L.Nodup) = false:=by
 rw [<- Bool.not_eq_true,Zht]
 rintro ⟨h1,h2⟩
 rw [Zdr hk,h1 _ (List.getElem_mem _)] at h
 simp at h
 exact Zhe hk h h2
set_option maxHeartbeats 2000000 in
theorem Zaj (cs:List Value) (x:Puzzle) (fp:List Nat) (w:World) (h:Rp.rep w cs x fp) :
  Calls Tryz.prog 81 #[.agg cs.toArray] w fun e w'=>e = .returned (.bool (validPz x))/\Only [] w w':=by
 obtain ⟨v2,rfl,p0,p1,h2⟩:=h
 obtain ⟨A2,C2,ob,fps,rfl,-,hs⟩:=h2.open_
 have hb:=hs.bound
 have hm:=p1;unfold maxLen at hm
 by_cases c1:x.moves.length = 0
 ·have hf:validPz x = false:=by
   unfold validPz namesB
   rw [Bool.and_eq_false_iff,Bool.and_eq_false_iff,Bool.and_eq_false_iff]
   right
   by_cases hz:x.names.size = x.moves.length
   ·left;left;rw [inR_not];omega
   ·right;exact decide_eq_false hz
  have Hf:=zH hf;clear hf
  have d1:((x.moves.length:Int) == 0) = true:=by simp [c1]
  have C1:=zH c1;clear c1
  go_enter Tryz.func81,Tryz.ntmps81
  go_wp2
  go_ret
  exact ⟨Zaa Hf.out.symm,zA⟩
 have d1:((x.moves.length:Int) == 0) = false:=by rw [beq_eq_false_iff_ne];omega
 by_cases c2:x.names.size = x.moves.length
 ·have d2:((x.names.size:Int) != (x.moves.length:Int)) = false:=by simp [c2]
  rcases c3:gensB x.points x.moves
  ·have hf:validPz x = false:=by unfold validPz;rw [c3];rfl
   have Hf:=zH hf;clear hf
   have C2':=zH c2;clear c2
   have C1:=zH c1;clear c1
   go_enter Tryz.func81,Tryz.ntmps81
   go_wp2_with ((go_at_call 131;(with_reducible refine (Zic x.points _ x.moves _ _ (zK h2 zA)).mono ?_);rintro e w1 ⟨rfl,n1,rfl⟩))
   go_ret
   exact ⟨Zaa Hf.out.symm,zA⟩
  have hl8:x.moves.length<=8:=by
   unfold gensB at c3;simp only [Bool.and_eq_true,decide_eq_true_eq] at c3;exact c3.1.2
  have hf:validPz x = ((bl x.names).all (fun b=>inR b 65 90) && decide (bl x.names).Nodup):=by
   unfold validPz namesB;rw [c3,decide_eq_true c2,show inR x.names.size 1 8 = true by rw [inR_iff];omega];simp
  have Hf:=zH hf;clear hf
  have C2':=zH c2;clear c2
  have C1:=zH c1;clear c1
  go_enter Tryz.func81,Tryz.ntmps81
  go_wp2_with ((go_at_call 131;(with_reducible refine (Zic x.points _ x.moves _ _ (zK h2 zA)).mono ?_);rintro e w1 ⟨rfl,n1,rfl⟩))
  go_loopw [3] (fun i wr=>∃ j:Nat,j<=x.names.size/\i = .int .i64 j/\(∀ k,k < j->moveNameB (bl x.names) k = true)/\Drew ((w.alloc (.cells #[.int .i64 x.points,.string x.names,.slice A2 x.moves.length C2] 33))) wr)
   (fun i _=>x.names.size - (intOf i).toNat)
  case atStart=>exact ⟨0,Nat.zero_le _,rfl,by simp,⟨_,rfl⟩⟩
  case round=>
   obtain ⟨j,hj,rfl,hr,k,rfl⟩:=hrel
   have Hr:=zH hr;clear hr
   by_cases hlt:j < x.names.size
   ·rcases c4:moveNameB (bl x.names) j
    all_goals go_wp2_with ((go_at_call 132;(with_reducible refine (Zme x.names j _ p1 hlt).mono ?_);rintro e w1 ⟨rfl,n1,rfl⟩))
    ·go_ret
     exact ⟨Zaa (by rw [Hf.out,Zmt (by rw [bl_len];exact hlt) c4]),zA⟩
    ·go_roundw
     case rel=>exact ⟨j + 1,by omega,by go_num,fun k hk=>by
      by_cases hkj:k = j
      ·subst hkj;exact c4
      ·exact Hr.out k (by omega),⟨_,rfl⟩⟩
     case measure=>simp [intOf];omega
   ·go_wp2
    go_ret
    exact ⟨Zaa (by rw [Hf.out,Zld (fun k hk=>Hr.out k (by rw [bl_len] at hk;omega))]),zA⟩
 ·have d2:((x.names.size:Int) != (x.moves.length:Int)) = true:=by simp only [bne_iff_ne,ne_eq];omega
  have hf:validPz x = false:=by unfold validPz;rw [decide_eq_false c2];simp
  have Hf:=zH hf;clear hf
  have C2':=zH c2;clear c2
  have C1:=zH c1;clear c1
  go_enter Tryz.func81,Tryz.ntmps81
  go_wp2
  go_ret
  exact ⟨Zaa Hf.out.symm,zA⟩
set_option maxHeartbeats 2000000 in
theorem Zgr (s:ByteArray) (w:World) (hs:s.size<=maxLen) :
  Calls Tryz.prog 136 #[.string s] w fun e w'=>e = .returned (.bool (namesB s))/\Drew w w':=by
 unfold maxLen at hs
 have hno:∀ k,k < s.size->moveNameB (bl s) k = false->namesB s = false:=by
  intro k hk h
  unfold namesB
  rw [Zmt (by rw [bl_len];exact hk) h];simp
 have hyes:(∀ k,k < s.size->moveNameB (bl s) k = true)->namesB s = inR s.size 1 8:=by
  intro h
  unfold namesB
  rw [Zld (fun k hk=>h k (by rw [bl_len] at hk;exact hk))];simp
 have Hno:=zH hno;clear hno
 have Hyes:=zH hyes;clear hyes
 go_enter Tryz.func136,Tryz.ntmps136
 go_wp2
 go_loopw [7] (fun i wr=>∃ j:Nat,j<=s.size/\i = .int .i64 j/\(∀ k,k < j->moveNameB (bl s) k = true)/\Drew w wr)
  (fun i _=>s.size - (intOf i).toNat)
 case atStart=>exact ⟨0,Nat.zero_le _,rfl,by simp,Drew.refl _⟩
 case round=>
  obtain ⟨j,hj,rfl,hr,k,rfl⟩:=hrel
  have Hr:=zH hr;clear hr
  by_cases hlt:j < s.size
  ·have hi1:(0:Int)<=(j:Int):=by omega
   have hi2:(j:Int) < (s.size:Int):=by omega
   have hL:j < (bl s).length:=by rw [bl_len];exact hlt
   have hbj:(bl s)[j] = (s[j].toNat:Int):=bl_get s j hlt _
   have hmn:moveNameB (bl s) j = (inR (s[j].toNat:Int) 65 90 && decide ((s[j].toNat:Int) ∉ (bl s).take j)):=by rw [Zdr hL,hbj]
   have Hmn:=zH hmn;clear hmn hbj hL
   have hw:wrap64 (s[j].toNat:Int) = (s[j].toNat:Int):=Zea _ (by omega) (by have:=UInt8.toNat_lt s[j];omega)
   rcases c1:inR (s[j].toNat:Int) 65 90
   ·go_wp2_with ((go_at_call 96;(with_reducible refine (Zam (s[j].toNat:Int) 65 90 _).mono ?_);rintro e w1 ⟨rfl,rfl⟩))
    go_ret
    exact ⟨Zaa (Hno.out j hlt (by rw [Hmn.out,c1];rfl)).symm,⟨_,rfl⟩⟩
   go_wp2_with ((go_at_call 96;(with_reducible refine (Zam (s[j].toNat:Int) 65 90 _).mono ?_);rintro e w1 ⟨rfl,rfl⟩))
   go_loopw [17] (fun i wr=>∃ q:Nat,q<=j/\i = .int .i64 q/\(s[j].toNat:Int) ∉ (bl s).take q/\Drew w wr)
    (fun i _=>j - (intOf i).toNat)
   case atStart=>exact ⟨0,Nat.zero_le _,rfl,by simp,⟨_,rfl⟩⟩
   case round=>
    obtain ⟨q,hq,rfl,hu,k2,rfl⟩:=hrel
    have Hu:=zH hu;clear hu
    by_cases hlq:q < j
    ·have hqs:q < s.size:=by omega
     have hq1:(0:Int)<=(q:Int):=by omega
     have hq2:(q:Int) < (s.size:Int):=by omega
     have hbq:(bl s)[q]'(by rw [bl_len];exact hqs) = (s[q].toNat:Int):=bl_get s q hqs _
     have Hbq:=zH hbq;clear hbq
     by_cases hx:(s[q].toNat:Int) = (s[j].toNat:Int)
     ·have hqq:((s[q].toNat:Int) == (s[j].toNat:Int)) = true:=by simp [hx]
      have Hx:=zH hx;clear hx
      go_wp2
      go_quiet (fail)
      go_wp2
      go_ret
      exact ⟨Zaa (Hno.out j hlt (by rw [Hmn.out,c1,decide_eq_false (by rw [Classical.not_not,<- Hx.out,<- Hbq.out];exact List.mem_take_iff_getElem.2 ⟨q,by rw [bl_len];omega,rfl⟩)];rfl)).symm,((Drew.refl _).drewN _).drewN _⟩
     ·have hqq:((s[q].toNat:Int) == (s[j].toNat:Int)) = false:=by simpa using hx
      have Hx:=zH hx;clear hx
      go_wp2
      go_quiet (fail)
      go_wp2
      go_roundw
      case rel=>exact ⟨q + 1,by omega,by go_num,by
       rw [Zac (bl s) q (by rw [bl_len];exact hqs)];intro hm
       rcases List.mem_append.1 hm with hm | hm
       ·exact Hu.out hm
       ·simp at hm;rw [Hbq.out] at hm;exact Hx.out hm.symm,⟨_,rfl⟩⟩
      case measure=>simp [intOf];omega
    ·have hqj:q = j:=by omega
     have Hqj:=zH hqj;clear hqj
     go_wp2
     go_roundw
     case rel=>exact ⟨j + 1,by omega,by go_num,fun z hz=>by
      by_cases hzj:z = j
      ·subst hzj;rw [Hmn.out,c1,decide_eq_true (by have:=Hu.out;rwa [Hqj.out] at this)];rfl
      ·exact Hr.out z (by omega),⟨_,rfl⟩⟩
     case measure=>simp [intOf];omega
  ·rcases c5:inR s.size 1 8
   all_goals go_wp2_with ((go_at_call 96;(with_reducible refine (Zam s.size 1 8 _).mono ?_);rintro e w1 ⟨rfl,rfl⟩))
   all_goals go_ret
   all_goals exact ⟨Zaa (by rw [Hyes.out (fun z hz=>Hr.out z (by omega)),c5]),⟨_,rfl⟩⟩
set_option maxHeartbeats 2000000 in
theorem Zai (cs:List Value) (x:Puzzle) (fp:List Nat) (w:World) (h:Rp.rep w cs x fp) :
  Calls Tryz.prog 85 #[.agg cs.toArray] w fun e w'=>e = .returned (.bool (validPz x))/\Only [] w w':=by
 obtain ⟨v2,rfl,p0,p1,h2⟩:=h
 obtain ⟨A2,C2,ob,fps,rfl,-,hs⟩:=h2.open_
 have hb:=hs.bound
 have hm:=p1;unfold maxLen at hm
 have G:∀ w',Only [] w w'->Calls Tryz.prog 135 #[.int .i64 x.points,.slice A2 x.moves.length C2] w' fun e w''=>e = .returned (.bool (gensB x.points x.moves))/\Only [] w' w'':=
  fun w' hw=>Zny x.points _ x.moves _ w' (zK h2 hw)
 have HG:=zH G;clear G
 rcases c3:gensB x.points x.moves
 ·have hf:validPz x = false:=by unfold validPz;rw [c3];rfl
  have Hf:=zH hf;clear hf
  go_enter Tryz.func85,Tryz.ntmps85
  go_wp2_with ((go_at_call 135;(with_reducible refine (HG.out _ zA).mono ?_);rintro e w1 ⟨rfl,t1⟩;have y1:=t1.cells_eq w.heap.size (by simp) (by simp)))
  go_ret
  exact ⟨Zaa Hf.out.symm,zA⟩
 rcases c4:namesB x.names
 ·have hf:validPz x = false:=by unfold validPz;rw [c3,c4];rfl
  have Hf:=zH hf;clear hf
  go_enter Tryz.func85,Tryz.ntmps85
  go_wp2_with (first | (go_at_call 135;(with_reducible refine (HG.out _ zA).mono ?_);rintro e w1 ⟨rfl,t1⟩;have y1:=t1.cells_eq w.heap.size (by simp) (by simp)) | (go_at_call 136;(with_reducible refine (Zgr x.names _ p1).mono ?_);rintro e w2 ⟨rfl,n2,rfl⟩))
  go_ret
  exact ⟨Zaa Hf.out.symm,zA⟩
 have hf:validPz x = decide (x.names.size = x.moves.length):=by unfold validPz;rw [c3,c4];rfl
 have Hf:=zH hf;clear hf
 by_cases c5:x.names.size = x.moves.length
 ·have d5:((x.names.size:Int) == (x.moves.length:Int)) = true:=by simp [c5]
  have C5:=zH c5;clear c5
  go_enter Tryz.func85,Tryz.ntmps85
  go_wp2_with (first | (go_at_call 135;(with_reducible refine (HG.out _ zA).mono ?_);rintro e w1 ⟨rfl,t1⟩;have y1:=t1.cells_eq w.heap.size (by simp) (by simp)) | (go_at_call 136;(with_reducible refine (Zgr x.names _ p1).mono ?_);rintro e w2 ⟨rfl,n2,rfl⟩))
  go_ret
  exact ⟨Zaa (by rw [Hf.out,decide_eq_true C5.out]),zA⟩
 ·have d5:((x.names.size:Int) == (x.moves.length:Int)) = false:=by rw [beq_eq_false_iff_ne];omega
  have C5:=zH c5;clear c5
  go_enter Tryz.func85,Tryz.ntmps85
  go_wp2_with (first | (go_at_call 135;(with_reducible refine (HG.out _ zA).mono ?_);rintro e w1 ⟨rfl,t1⟩;have y1:=t1.cells_eq w.heap.size (by simp) (by simp)) | (go_at_call 136;(with_reducible refine (Zgr x.names _ p1).mono ?_);rintro e w2 ⟨rfl,n2,rfl⟩))
  go_ret
  exact ⟨Zaa (by rw [Hf.out,decide_eq_false C5.out]),zA⟩
set_option maxHeartbeats 400000 in
theorem Zod (a a':Option Addr) (cap cap':Nat) (l l':List Int) (fp fp':List Nat) (w:World) (h:IntsA w a cap l fp) (h':IntsA w a' cap' l' fp') :
  Calls Tryz.prog 166 #[.slice a l.length cap,.slice a' l'.length cap'] w fun e w'=>e = .returned (.bool (eqV l l'))/\Drew w w':=by
 have hb:=h.bound
 have hb':=h'.bound
 by_cases hl:l.length = l'.length
 ·have hne:((l.length:Int) != (l'.length:Int)) = false:=by simp [hl]
  have Hl:=zH hl;clear hl
  go_enter Tryz.func166,Tryz.ntmps166
  go_wp2
  go_loopw [5] (fun i wr=>∃ j:Nat,j<=l.length/\i = .int .i64 j/\l.take j = l'.take j/\Drew w wr)
   (fun i _=>l.length - (intOf i).toNat)
  case atStart=>exact ⟨0,Nat.zero_le _,rfl,rfl,Drew.refl _⟩
  case round=>
   obtain ⟨j,hj,rfl,hr,n,rfl⟩:=hrel
   have Hr:=zH hr;clear hr
   by_cases hlt:j < l.length
   ·have hlt':j < l'.length:=by have:=Hl.out;omega
    obtain ⟨b,off,ha,-,hc⟩:=h.at_ j hlt
    obtain ⟨b',off',ha',-,hc'⟩:=h'.at_ j hlt'
    go_wp2
    go_quiet (fail)
    go_wp2
    ·have hne:(l[j] != l'[j]) = true:=by assumption
     go_ret
     exact ⟨Zaa (Znh hlt hlt' hne).symm,((Drew.refl _).drewN _).drewN _⟩
    ·have heq:(l[j] != l'[j]) = false:=by assumption
     go_roundw
     case rel=>exact ⟨j + 1,by omega,by go_num,Zjf hlt hlt' heq Hr.out,⟨_,rfl⟩⟩
     case measure=>simp [intOf];omega
   ·go_wp2
    go_ret
    exact ⟨Zaa (eqL_yes Hl.out hlt Hr.out).symm,(Drew.refl _).drewN n⟩
 ·have hne:((l.length:Int) != (l'.length:Int)) = true:=by simp;omega
  go_enter Tryz.func166,Tryz.ntmps166
  go_wp2
  go_ret
  exact ⟨Zaa (eqL_len hne).symm,Drew.refl _⟩
theorem Zpk (v v':Value) (l l':List Int) (fp fp':List Nat) (w:World) (h:Rd w v l fp) (h':Rd w v' l' fp') :
  Calls Tryz.prog 166 #[v,v'] w fun e w'=>e = .returned (.bool (eqV l l'))/\Drew w w':=by
 obtain ⟨a,cap,rfl,hI⟩:=h.ints
 obtain ⟨a',cap',rfl,hI'⟩:=h'.ints
 exact Zod a a' cap cap' l l' fp fp' w hI hI'
def Inc (n:Int) (l:List Int):Prop:=(∀ x∈l,0<=x/\x < n)/\l.Pairwise (· < ·)
instance (n:Int) (l:List Int):Decidable (Inc n l):=inferInstanceAs (Decidable (_/\_))
def Dis (n:Int) (l:List Int):Prop:=(∀ x∈l,0<=x/\x < n)/\l.Nodup
instance (n:Int) (l:List Int):Decidable (Dis n l):=inferInstanceAs (Decidable (_/\_))
def trackB (n:Int) (l:List Int):Bool:=decide (0 < l.length) && decide (Inc n l)
def patB (n:Int) (k:Nat) (l:List Int):Bool:=decide (l.length = k) && decide (Dis n l)
theorem Zdz {l:List Int} {j:Nat} (h:j < l.length) (h1:(l.take j).Pairwise (· < ·)) (h2:∀ i (hi:i + 1 = j),l[i]'(by omega) < l[j]):(l.take (j + 1)).Pairwise (· < ·):=by
 rw [Zac l j h]
 refine List.pairwise_append.2 ⟨h1,by simp,fun a ha b hb=>?_⟩
 simp at hb;subst hb
 rcases Nat.eq_zero_or_pos j with h0 | h0
 ·subst h0;simp at ha
 ·obtain ⟨i,rfl⟩:∃ i,j = i + 1:=⟨j - 1,by omega⟩
  have hi:i < l.length:=by omega
  have h3:=h2 i rfl
  obtain ⟨k,hk,rfl⟩:=List.mem_take_iff_getElem.1 ha
  rcases Nat.lt_or_ge k i with hki | hki
  ·rw [Zac l i hi] at h1
   have:=(List.pairwise_append.1 h1).2.2 l[k] (List.mem_take_iff_getElem.2 ⟨k,by omega,rfl⟩) l[i] (by simp)
   omega
  ·have:k = i:=by omega
   subst this;exact h3
theorem Ziz {l:List Int} {i:Nat} (h:i + 1 < l.length) (h2:¬ l[i] < l[i + 1]):¬ l.Pairwise (· < ·):=by
 intro hp
 exact h2 (List.pairwise_iff_getElem.1 hp i (i + 1) (by omega) h (by omega))
theorem inc_ge {l:List Int} (h0:∀ x∈l,0<=x) (hp:l.Pairwise (· < ·)):∀ k (hk:k < l.length),(k:Int)<=l[k]:=by
 intro k
 induction k with
 | zero=>intro hk;have:=h0 _ (List.getElem_mem hk);omega
 | succ k ih=>
  intro hk
  have h1:=ih (by omega)
  have h2:=List.pairwise_iff_getElem.1 hp k (k + 1) (by omega) hk (by omega)
  omega
theorem Inc.len {n:Int} {l:List Int} (h:Inc n l):(l.length:Int)<=n\/l.length = 0:=by
 rcases Nat.eq_zero_or_pos l.length with h0 | h0
 ·exact .inr h0
 ·left
  have h1:=inc_ge (fun x hx=>(h.1 x hx).1) h.2 (l.length - 1) (by omega)
  have h2:=(h.1 l[l.length - 1] (List.getElem_mem _)).2
  omega
theorem Zud {l:List Int} (h:l.Pairwise (· < ·)):l.Nodup:=by
 rw [List.nodup_iff_pairwise_ne]
 exact h.imp fun h=>Int.ne_of_lt h
theorem Inc.dis {n:Int} {l:List Int} (h:Inc n l):Dis n l:=⟨h.1,Zud h.2⟩
theorem Zal {n:Int} {l:List Int}:trackB n l = true ↔ 0 < l.length/\Inc n l:=by simp [trackB]
theorem Zaq {n:Int} {k:Nat} {l:List Int}:patB n k l = true ↔ l.length = k/\Dis n l:=by simp [patB]
theorem Znu {n:Int} {l:List Int} (h:¬ Inc n l):trackB n l = false:=by simp [trackB,h]
theorem Zdq {n:Int} {l:List Int} (h:trackB n l = true):patB n l.length l = true:=Zaq.2 ⟨rfl,(Zal.1 h).2.dis⟩
theorem Zjh (i:Nat) (h:i < 9223372036854775807):wrap64 (((i + 1:Nat):Int) - 1) = (i:Int):=by unfold wrap64;omega
set_option maxHeartbeats 1000000 in
theorem Zlo (n:Int) (a:Option Addr) (cap:Nat) (l:List Int) (fp:List Nat) (w:World) (h:IntsA w a cap l fp) (n0:0<=n) (n1:n<=1000) :
  Calls Tryz.prog 107 #[.int .i64 n,.slice a l.length cap] w fun e w'=>e = .returned (.bool (trackB n l))/\Drew w w':=by
 have hb:=h.bound
 rcases hq:inR l.length 1 n
 ·go_enter Tryz.func107,Tryz.ntmps107
  go_wp2_with ((go_at_call 88;(with_reducible refine (Zao l.length 1 n _).mono ?_);rintro e w1 ⟨rfl,rfl⟩))
  go_ret
  exact ⟨Zaa (by
   rw [eq_comm,<- Bool.not_eq_true,Zal];rintro ⟨h0,h1⟩
   rw [inR_not] at hq;have:=h1.len;omega),Drew.refl _⟩
 obtain ⟨g1,g2⟩:=inR_iff.1 hq
 have hfin:trackB n l = decide (Inc n l):=by unfold trackB;rw [decide_eq_true (by omega)];rfl
 have Hfin:=zH hfin;clear hfin
 go_enter Tryz.func107,Tryz.ntmps107
 go_wp2_with ((go_at_call 88;(with_reducible refine (Zao l.length 1 n _).mono ?_);rintro e w ⟨rfl,rfl⟩))
 go_loopw [5] (fun i wr=>∃ j:Nat,j<=l.length/\i = .int .i64 j/\(∀ x∈l.take j,0<=x/\x < n)/\(l.take j).Pairwise (· < ·)/\Drew w wr)
  (fun i _=>l.length - (intOf i).toNat)
 case atStart=>exact ⟨0,Nat.zero_le _,rfl,by simp,by simp,Drew.refl _⟩
 case round=>
  obtain ⟨j,hj,rfl,hr,hn,k,rfl⟩:=hrel
  have Hr:=zH hr;clear hr
  have Hn:=zH hn;clear hn
  by_cases hlt:j < l.length
  ·rcases c1:inR l[j] 0 (n - 1)
   ·obtain ⟨b,off,rfl,-,hc⟩:=h.at_ j hlt
    go_wp2
    go_quiet ((go_at_call 88;exact Zau (Zdk l[j] 0 (n - 1) _)))
    go_wp2
    go_ret
    exact ⟨Zaa (by rw [Hfin.out,eq_comm,decide_eq_false_iff_not];intro hp;have:=hp.1 l[j] (List.getElem_mem _);rw [inR_not] at c1;omega),((Drew.refl _).drewN _).drewN _⟩
   have hx:=inR_iff.1 c1
   have Hx:=zH hx;clear hx
   rcases Nat.eq_zero_or_pos j with hj0 | hj0
   ·subst hj0
    obtain ⟨b,off,rfl,-,hc⟩:=h.at_ 0 hlt
    rw [Nat.add_zero] at hc
    go_wp2
    go_quiet ((go_at_call 88;exact Zau (Zdk l[0] 0 (n - 1) _)))
    go_wp2
    go_roundw
    case rel=>exact ⟨1,by omega,by go_num,Zbk hlt Hr.out (by have:=Hx.out;omega),Zdz hlt Hn.out (by intro i hi;omega),⟨_,rfl⟩⟩
    case measure=>simp [intOf];omega
   ·obtain ⟨i,rfl⟩:∃ i,j = i + 1:=⟨j - 1,by omega⟩
    have hi:i < l.length:=by omega
    have hw:=Zjh i (by omega)
    have hgt:decide ((((i + 1:Nat):Int)) > 0) = true:=decide_eq_true (by omega)
    obtain ⟨b,off,rfl,-,hc⟩:=h.at_ (i + 1) hlt
    obtain ⟨b2,off2,he,-,hc2⟩:=h.at_ i hi
    obtain ⟨rfl,rfl⟩:b = b2/\off = off2:=by simpa using he
    by_cases c2:l[i + 1]<=l[i]
    ·have d2:decide (l[i + 1]<=l[i]) = true:=decide_eq_true c2
     have C2:=zH c2;clear c2
     go_wp2
     go_quiet ((go_at_call 88;exact Zau (Zdk l[i + 1] 0 (n - 1) _)))
     go_wp2
     go_ret
     exact ⟨Zaa (by rw [Hfin.out,eq_comm,decide_eq_false_iff_not];intro hp;exact Ziz hlt (by have:=C2.out;omega) hp.2),((Drew.refl _).drewN _).drewN _⟩
    ·have d2:decide (l[i + 1]<=l[i]) = false:=decide_eq_false c2
     have C2:=zH c2;clear c2
     go_wp2
     go_quiet ((go_at_call 88;exact Zau (Zdk l[i + 1] 0 (n - 1) _)))
     go_wp2
     go_roundw
     case rel=>exact ⟨i + 2,by omega,by go_num,Zbk hlt Hr.out (by have:=Hx.out;omega),Zdz hlt Hn.out (by
      intro q hq;have:q = i:=(by omega);subst this;have:=C2.out;omega),⟨_,rfl⟩⟩
     case measure=>simp [intOf];omega
  ·go_wp2
   go_ret
   exact ⟨Zaa (by rw [Hfin.out,eq_comm,decide_eq_true_iff];have h1:=Hr.out;have h2:=Hn.out;rw [List.take_of_length_le (by omega)] at h1 h2;exact ⟨h1,h2⟩),⟨_,rfl⟩⟩
theorem Zha (n:Int) (v:Value) (l:List Int) (fp:List Nat) (w:World) (h:Rd w v l fp) (n0:0<=n) (n1:n<=1000) :
  Calls Tryz.prog 107 #[.int .i64 n,v] w fun e w'=>e = .returned (.bool (trackB n l))/\Drew w w':=by
 obtain ⟨a,cap,rfl,hI⟩:=h.ints
 exact Zlo n a cap l fp w hI n0 n1
theorem Zgj (n x:Int) (w:World) (n0:0<=n) (n1:n<=1000) :
  Calls Tryz.prog 162 #[.int .i64 n,.int .i64 x] w fun e w'=>e = .returned (.bool (inR x 0 (n - 1)))/\Drew w w':=by
 go_enter Tryz.func162,Tryz.ntmps162
 go_wp2_with ((go_at_call 96;(with_reducible refine (Zam x 0 (n - 1) _).mono ?_);rintro e w1 ⟨rfl,rfl⟩))
 go_ret
 exact ⟨rfl,Drew.refl _⟩
set_option maxHeartbeats 1000000 in
theorem Zol (n:Int) (a:Option Addr) (cap:Nat) (l:List Int) (fp:List Nat) (w:World) (h:IntsA w a cap l fp) (n0:0<=n) (n1:n<=1000) :
  Calls Tryz.prog 114 #[.int .i64 n,.slice a l.length cap] w fun e w'=>e = .returned (.bool (trackB n l))/\Drew w w':=by
 have hb:=h.bound
 go_enter Tryz.func114,Tryz.ntmps114
 go_wp2
 go_loopw [9] (fun i wr=>∃ j:Nat,j<=l.length/\i = .int .i64 j/\(∀ x∈l.take j,0<=x/\x < n)/\(l.take j).Pairwise (· < ·)/\Drew w wr)
  (fun i _=>l.length - (intOf i).toNat)
 case atStart=>exact ⟨0,Nat.zero_le _,rfl,by simp,by simp,Drew.refl _⟩
 case round=>
  obtain ⟨j,hj,rfl,hr,hn,k,rfl⟩:=hrel
  have Hr:=zH hr;clear hr
  have Hn:=zH hn;clear hn
  by_cases hlt:j < l.length
  ·rcases c1:inR l[j] 0 (n - 1)
   ·obtain ⟨b,off,rfl,-,hc⟩:=h.at_ j hlt
    go_wp2_with ((go_at_call 162;(with_reducible refine (Zgj n l[j] _ n0 n1).mono ?_);rintro e w1 ⟨rfl,m,rfl⟩))
    go_ret
    exact ⟨Zaa (by rw [eq_comm];exact Znu fun hp=>by have:=hp.1 l[j] (List.getElem_mem _);rw [inR_not] at c1;omega),⟨_,rfl⟩⟩
   have hx:=inR_iff.1 c1
   have Hx:=zH hx;clear hx
   rcases Nat.eq_zero_or_pos j with hj0 | hj0
   ·subst hj0
    obtain ⟨b,off,rfl,-,hc⟩:=h.at_ 0 hlt
    rw [Nat.add_zero] at hc
    go_wp2_with ((go_at_call 162;(with_reducible refine (Zgj n l[0] _ n0 n1).mono ?_);rintro e w1 ⟨rfl,m,rfl⟩))
    go_roundw
    case rel=>exact ⟨1,by omega,by go_num,Zbk hlt Hr.out (by have:=Hx.out;omega),Zdz hlt Hn.out (by intro i hi;omega),⟨_,rfl⟩⟩
    case measure=>simp [intOf];omega
   ·obtain ⟨i,rfl⟩:∃ i,j = i + 1:=⟨j - 1,by omega⟩
    have hi:i < l.length:=by omega
    have hw:=Zjh i (by omega)
    have hgt:decide ((((i + 1:Nat):Int)) > 0) = true:=decide_eq_true (by omega)
    obtain ⟨b,off,rfl,-,hc⟩:=h.at_ (i + 1) hlt
    obtain ⟨b2,off2,he,-,hc2⟩:=h.at_ i hi
    obtain ⟨rfl,rfl⟩:b = b2/\off = off2:=by simpa using he
    by_cases c2:l[i + 1]<=l[i]
    ·have d2:decide (l[i] ≥ l[i + 1]) = true:=decide_eq_true c2
     have C2:=zH c2;clear c2
     go_wp2_with ((go_at_call 162;(with_reducible refine (Zgj n l[i + 1] _ n0 n1).mono ?_);rintro e w1 ⟨rfl,m,rfl⟩))
     go_ret
     exact ⟨Zaa (by rw [eq_comm];exact Znu fun hp=>Ziz hlt (by have:=C2.out;omega) hp.2),⟨_,rfl⟩⟩
    ·have d2:decide (l[i] ≥ l[i + 1]) = false:=decide_eq_false c2
     have C2:=zH c2;clear c2
     go_wp2_with ((go_at_call 162;(with_reducible refine (Zgj n l[i + 1] _ n0 n1).mono ?_);rintro e w1 ⟨rfl,m,rfl⟩))
     go_roundw
     case rel=>exact ⟨i + 2,by omega,by go_num,Zbk hlt Hr.out (by have:=Hx.out;omega),Zdz hlt Hn.out (by
      intro q hq;have:q = i:=(by omega);subst this;have:=C2.out;omega),⟨_,rfl⟩⟩
     case measure=>simp [intOf];omega
  ·go_wp2
   go_ret
   refine ⟨Zaa ?_,⟨_,rfl⟩⟩
   have h1:=Hr.out;have h2:=Hn.out;rw [List.take_of_length_le (by omega)] at h1 h2
   unfold trackB
   rw [decide_eq_true (show Inc n l from ⟨h1,h2⟩)];simp
theorem Zfk (n:Int) (v:Value) (l:List Int) (fp:List Nat) (w:World) (h:Rd w v l fp) (n0:0<=n) (n1:n<=1000) :
  Calls Tryz.prog 114 #[.int .i64 n,v] w fun e w'=>e = .returned (.bool (trackB n l))/\Drew w w':=by
 obtain ⟨a,cap,rfl,hI⟩:=h.ints
 exact Zol n a cap l fp w hI n0 n1
set_option maxHeartbeats 400000 in
theorem Zsc (a:Option Addr) (cap:Nat) (l:List Int) (n:Int) (fp:List Nat) (w:World) (h:IntsA w a cap l fp) :
  Calls Tryz.prog 163 #[.slice a l.length cap,.int .i64 n] w fun e w'=>e = .returned (.int .i64 (idxF (fun x=>decide (n = x)) l))/\Drew w w':=by
 have hb:=h.bound
 go_enter Tryz.func163,Tryz.ntmps163
 go_wp2
 go_loopw [5,8] (fun i t wr=>∃ j:Nat,j<=l.length/\t = .int .i64 j/\(∀ x∈l.take j,decide (n = x) = false)/\Drew w wr)
  (fun _ t _=>l.length - (intOf t).toNat)
 case atStart=>exact ⟨0,Nat.zero_le _,rfl,by simp,Drew.refl _⟩
 case round=>
  obtain ⟨j,hj,rfl,hr,k,rfl⟩:=hrel
  have Hr:=zH hr;clear hr
  by_cases hlt:j < l.length
  ·obtain ⟨b,off,rfl,-,hc⟩:=h.at_ j hlt
   by_cases hx:n = l[j]
   ·have hq:(n == l[j]) = true:=by simp [hx]
    have Hx:=zH hx;clear hx
    go_wp2
    go_ret
    exact ⟨ret_int (Zdh hlt Hr.out (decide_eq_true Hx.out)).symm,⟨_,rfl⟩⟩
   ·have hq:(n == l[j]) = false:=by simpa using hx
    have Hx:=zH hx;clear hx
    go_wp2
    go_roundw
    case rel=>exact ⟨j + 1,by omega,by go_num,Zbk hlt Hr.out (decide_eq_false Hx.out),⟨_,rfl⟩⟩
    case measure=>simp [intOf];omega
  ·go_wp2
   go_ret
   exact ⟨ret_int (Zij (by have:=Hr.out;rwa [List.take_of_length_le (by omega)] at this)).symm,⟨_,rfl⟩⟩
theorem Zrv (l:List Int) (n:Int):l.any (fun x=>decide (n = x)) = decide (n∈l):=by
 rw [Bool.eq_iff_iff,List.any_eq_true,decide_eq_true_iff]
 constructor
 ·rintro ⟨x,hx,he⟩;rw [of_decide_eq_true he];exact hx
 ·intro h;exact ⟨n,h,decide_eq_true rfl⟩
theorem Zoh (a:Option Addr) (cap:Nat) (l:List Int) (n:Int) (fp:List Nat) (w:World) (h:IntsA w a cap l fp) :
  Calls Tryz.prog 117 #[.slice a l.length cap,.int .i64 n] w fun e w'=>e = .returned (.bool (decide (n∈l)))/\Drew w w':=by
 go_enter Tryz.func117,Tryz.ntmps117
 go_wp2_with ((go_at_call 163;(with_reducible refine (Zsc a cap l n fp _ h).mono ?_);rintro e w1 ⟨rfl,m,rfl⟩))
 go_ret
 exact ⟨Zaa ((idxF_ge).trans (Zrv l n)),⟨_,rfl⟩⟩
theorem Zjm (k:Nat):PM.pts (k + 1) = PM.pts k ++ [(k:Int)]:=by simp [PM.pts,List.range_succ]
set_option maxHeartbeats 1000000 in
theorem Zke (m:Nat) (w:World) (hm:m<=1000) :
  Calls Tryz.prog 156 #[.int .i64 m] w fun e w'=>∃ v fp',e = .returned v/\Rd w' v (PM.pts m) fp'/\Fresh w.heap.size w' fp'/\Only [] w w':=by
 obtain ⟨i0,hi,hz0,hz1,hz2⟩:=info_parts Tryz.info2
 go_enter Tryz.func156,Tryz.ntmps156
 go_wp2
 go_loopw [3,4] (fun o i wr=>∃ (j:Nat) (fs:List (List Nat)),j<=m/\i = .int .i64 j/\Acc w.heap.size 2 wr o (PM.pts j) fs/\Fresh w.heap.size wr fs.flatten/\Only [] w wr)
  (fun _ i _=>m - (intOf i).toNat)
 case atStart=>exact ⟨0,[],Nat.zero_le _,rfl,Acc.made w w.heap.size _ rfl (Nat.le_refl _),Fresh.nil _ _,zO.alloc _⟩
 case round=>
  obtain ⟨j,fs,hj,rfl,hA,hF,hK⟩:=hrel
  by_cases hlt:j < m
  ·have hsz:=hK.size
   have hlj:(PM.pts j).length + 1<=1073741824:=by rw [PM.pts_len];omega
   have hI:I64 (j:Int):=by unfold I64;omega
   have HI:=zH hI;clear hI
   go_wp2_with ((at_builtin;refine Zbf rfl _ _ 25 rfl w.heap.size 2 i0 _ 8 Tryz.underlying25 hi hz0 hz1 hz2 rfl (by decide) (by decide) wr _ (PM.pts j) fs rfl hA hF (zO.alloc _) hsz wr.heap.size 1 [.int .i64 (j:Int)] (j:Int) [] rfl (lit_src wr [.int .i64 (j:Int)] _ rfl) (by intro u hu;simp at hu;subst hu;rfl) (int_rd _ HI.out) (Fresh.nil _ _) hlj w (hK.alloc _) (Nat.le_refl _) ?_;intro v3 w3 hA3 hF3 hK3 _))
   go_roundw
   case rel=>exact ⟨j + 1,_,by omega,by go_num,by rw [Zjm];exact hA3,hF3,hK3⟩
   case measure=>simp [intOf];omega
  ·have hjl:j = m:=by omega
   rw [hjl] at hA
   have HA:=zH hA
   clear hjl hA
   go_wp2
   go_ret
   exact ⟨_,_,rfl,HA.out.rd (by decide),HA.out.fresh hF,hK⟩
set_option maxHeartbeats 1000000 in
theorem Zfl (m:Nat) (w:World) (hm:m<=1000) :
  Calls Tryz.prog 159 #[.int .i64 m] w fun e w'=>∃ v fp',e = .returned v/\Rd w' v (PM.pts m) fp'/\Fresh w.heap.size w' fp'/\Only [] w w':=by
 obtain ⟨i0,hi,hz0,hz1,hz2⟩:=info_parts Tryz.info2
 go_enter Tryz.func159,Tryz.ntmps159
 go_wp2_with (at_make;refine wpList_make_full _ rfl _ _ 25 rfl w.heap.size 2 i0 _ 1 Tryz.underlying25 hi hz0 hz1 _ _ _ _ m rfl rfl rfl rfl (by rw [hz2];omega) (by unfold maxLen;omega) (Nat.le_refl _) ?_;intro w1 hown hg)
 rw [madeInts,Nat.mul_one] at hown
 have hs1:=hg.size
 go_loopw [9] (fun i wr=>∃ j:Nat,j<=m/\i = .int .i64 j /\
   wr.ownsRow w.heap.size 2 1 (.slice (some ⟨w.heap.size,0,none⟩) m m) m ((PM.pts j).map (Value.int .i64) ++ List.replicate (m - j) (.int .i64 0))/\Only [] w wr)
  (fun i _=>m - (intOf i).toNat)
 case atStart=>exact ⟨0,Nat.zero_le _,rfl,by simpa [PM.pts] using hown,zO.grown hg (by simp)⟩
 case round=>
  obtain ⟨j,hj,rfl,hO,hK⟩:=hrel
  have hpl:((PM.pts j).map (Value.int .i64)).length = j:=by rw [List.length_map,PM.pts_len]
  by_cases hlt:j < m
  ·obtain ⟨hO2,hg2⟩:=hO.stored j (.int .i64 j)
   have hstep:((PM.pts j).map (Value.int .i64) ++ List.replicate (m - j) (Value.int .i64 0)).set j (.int .i64 j) = (PM.pts (j + 1)).map (Value.int .i64) ++ List.replicate (m - (j + 1)) (.int .i64 0):=by
    rw [show m - j = (m - (j + 1)) + 1 by omega,List.replicate_succ,List.set_append_right _ _ (by omega),hpl,Nat.sub_self,Zjm]
    simp
   rw [hstep] at hO2
   have hc2:wr.cell? ⟨w.heap.size,j,none⟩ = some (.int .i64 0):=by
    rw [hO.cellAt j (by omega),List.getElem?_append_right (by omega),List.getElem?_replicate,if_pos (by omega)]
   have hf2:=hO.frozenAt j
   have hK2:=hK.setCell (p:=⟨w.heap.size,j,none⟩) (by simp) (.int .i64 j)
   have HO:=zH hO2
   clear hO hO2 hg hg2 hown hstep hpl
   go_wp2
   go_roundw
   case rel=>exact ⟨j + 1,by omega,by go_num,HO.out,hK2⟩
   case measure=>simp [intOf];omega
  ·have hjl:j = m:=by omega
   rw [hjl] at hO
   simp only [Nat.sub_self,List.replicate_zero,List.append_nil] at hO
   have hw:∀ x∈PM.pts m,I64 x:=fun x hx=>by have:=PM.mem_pts.1 hx;unfold I64;omega
   have hO':wr.ownsRow w.heap.size 2 1 (.slice (some ⟨w.heap.size,0,none⟩) m m) (PM.pts m).length ((PM.pts m).map (Value.int .i64)):=by rw [PM.pts_len];exact hO
   obtain ⟨a',cap',hv,-,hI,hF⟩:=Zba hO' hw
   have HI:=zH hI
   have Hv:=zH hv
   clear hjl hO hO' hv hown hI hpl hw
   go_wp2
   go_ret
   refine ⟨_,_,rfl,?_,hF,hK⟩
   have hr:=HI.out.rd
   rw [<- Hv.out] at hr;exact hr
theorem Zmd (n:Int) (w:World) (h0:0<=n) (h1:n<=1000) :
  Calls Tryz.prog 156 #[.int .i64 n] w fun e w'=>∃ v fp',e = .returned v/\Rd w' v (PM.pts n.toNat) fp'/\Fresh w.heap.size w' fp'/\Only [] w w':=by
 obtain ⟨m,rfl⟩:=Int.eq_ofNat_of_zero_le h0
 exact Zke m w (by omega)
theorem Zmm (n:Int) (w:World) (h0:0<=n) (h1:n<=1000) :
  Calls Tryz.prog 159 #[.int .i64 n] w fun e w'=>∃ v fp',e = .returned v/\Rd w' v (PM.pts n.toNat) fp'/\Fresh w.heap.size w' fp'/\Only [] w w':=by
 obtain ⟨m,rfl⟩:=Int.eq_ofNat_of_zero_le h0
 exact Zfl m w (by omega)
def ltrs:Nat->List Int
 | 0=>[]
 | n + 1=>ltrs n ++ [((n + 1:Nat):Int),-((n + 1:Nat):Int)]
theorem Zel (n:Nat):(ltrs n).length = 2 * n:=by
 induction n with
 | zero=>rfl
 | succ n ih=>simp [ltrs,ih];omega
theorem Zas {n:Nat} {x:Int}:x∈ltrs n ↔ x ≠ 0/\-(n:Int)<=x/\x<=n:=by
 induction n with
 | zero=>simp [ltrs];omega
 | succ n ih=>simp [ltrs,ih];omega
def mv (gens:List (List Int)) (l:Int):List Int:=if 0 < l then gens.getD (l - 1).toNat [] else PM.inv (gens.getD (-l - 1).toNat [])
theorem mv_pos {gens:List (List Int)} {l:Int} {k:Nat} (h:l = (k:Int) + 1) (hk:k < gens.length):mv gens l = gens[k]:=by
 unfold mv
 rw [if_pos (by omega),show (l - 1).toNat = k by omega,List.getD_eq_getElem?_getD,List.getElem?_eq_getElem hk];rfl
theorem mv_neg {gens:List (List Int)} {l:Int} {k:Nat} (h:l = -((k:Int) + 1)) (hk:k < gens.length):mv gens l = PM.inv gens[k]:=by
 unfold mv
 rw [if_neg (by omega),show (-l - 1).toNat = k by omega,List.getD_eq_getElem?_getD,List.getElem?_eq_getElem hk];rfl
theorem Zcp {n:Nat} {l:Int} (h:l∈ltrs n):(∃ k:Nat,k < n/\l = (k:Int) + 1)\/(∃ k:Nat,k < n/\l = -((k:Int) + 1)):=by
 rw [Zas] at h
 rcases Int.lt_or_gt_of_ne h.1 with h0 | h0
 ·right;exact ⟨(-l - 1).toNat,by omega,by omega⟩
 ·left;exact ⟨(l - 1).toNat,by omega,by omega⟩
theorem mv_pn {n:Nat} {gens:List (List Int)} (h:∀ g∈gens,PM.PN n g) {l:Int} (hl:l∈ltrs gens.length):PM.PN n (mv gens l):=by
 rcases Zcp hl with ⟨k,hk,e⟩ | ⟨k,hk,e⟩
 ·rw [mv_pos e hk];exact h _ (List.getElem_mem _)
 ·rw [mv_neg e hk];exact (h _ (List.getElem_mem _)).inv
theorem Zhn (w:World) (cs:List Value) (e:TypeId) {g:Nat} (hg:g = w.heap.size):∀ ad,some (⟨g,0,none⟩:Addr) = some ad->∀ j u,cs[j]? = some u->(w.alloc (.cells cs.toArray e)).cell? (ad.add j) = some u:=by
 intro ad had j u hu
 injection had with had;subst had
 have hadd:(⟨g,0,none⟩:Addr).add j = ⟨g,j,none⟩:=by unfold Addr.add;split <;> simp_all
 rw [hadd];exact lit_src w cs e hg j u hu
theorem Zhu (n:Int) (h0:-9223372036854775808<=n) (h1:n < 9223372036854775808):wrap64 n = n:=by unfold wrap64;omega
def Arr (B:Nat) (e:TypeId) (w:World) (g m:Nat) (l:List Int):Prop:=w.ownsRow B e 1 (.slice (some ⟨g,0,none⟩) m m) m (l.map (Value.int .i64))
section
variable {B:Nat} {e:TypeId} {w:World} {g m:Nat} {l:List Int}
theorem Arr.len (h:Arr B e w g m l):l.length = m:=by have:=h.1;simpa using this
theorem Arr.set (h:Arr B e w g m l) (i:Nat) (x:Int):Arr B e (w.setCell ⟨g,i,none⟩ (.int .i64 x)) g m (l.set i x):=by
 have:=(World.ownsRow.stored h i (.int .i64 x)).1
 unfold Arr
 rwa [List.map_set]
theorem Arr.cell (h:Arr B e w g m l) {i:Nat} (hi:i < l.length):w.cell? ⟨g,i,none⟩ = some (.int .i64 l[i]):=by
 rw [World.ownsRow.cellAt h i (by have:=h.len;omega)];simp [hi]
theorem Arr.frozen (h:Arr B e w g m l) (i:Nat):w.frozen? ⟨g,i,none⟩ = false:=World.ownsRow.frozenAt h i
theorem Arr.rd (h:Arr B e w g m l) (hw:∀ x∈l,I64 x):Rd w (.slice (some ⟨g,0,none⟩) m m) l [g]/\Fresh B w [g]:=by
 have h':w.ownsRow B e 1 (.slice (some ⟨g,0,none⟩) m m) m (l.map (Value.int .i64)):=h
 obtain ⟨a,cap,hv,-,hI,hF⟩:=Zba h' hw
 have hr:=hI.rd
 rw [<- hv] at hr
 exact ⟨hr,hF⟩
end
def invUp (p:List Int) (j:Nat):List Int:=(PM.pts p.length).map fun y=>if p.idxOf y < j then (p.idxOf y:Int) else 0
theorem Zkg (p:List Int):invUp p 0 = List.replicate p.length 0:=by
 unfold invUp
 apply List.ext_getElem (by simp [PM.pts_len])
 intro k h1 h2;simp
theorem Zgo (p:List Int) (j:Nat):(invUp p j).length = p.length:=by simp [invUp,PM.pts_len]
theorem Znj {p:List Int} (h:PM.IsP p):invUp p p.length = PM.inv p:=by
 unfold invUp PM.inv
 apply List.map_congr_left
 intro y hy
 have:=h.all hy
 rw [if_pos (List.idxOf_lt_length_of_mem this)]
theorem Zkp {p:List Int} (h:PM.IsP p) {j:Nat} (hj:j < p.length):(invUp p j).set p[j].toNat (j:Int) = invUp p (j + 1):=by
 have hp:=h.1 p[j] (List.getElem_mem hj)
 apply List.ext_getElem (by simp [Zgo])
 intro k h1 h2
 have hk:k < p.length:=by simpa [Zgo] using h2
 have hm:((k:Int))∈p:=h.all (PM.mem_pts.2 ⟨by omega,by omega⟩)
 have hi:=List.idxOf_lt_length_of_mem hm
 have hgi:p[p.idxOf (k:Int)] = (k:Int):=List.getElem_idxOf hi
 rw [List.getElem_set]
 simp only [invUp,List.getElem_map,PM.pts_get]
 by_cases hjk:p[j].toNat = k
 ·rw [if_pos hjk]
  have:p.idxOf (k:Int) = j:=PM.Zgg h.2 hi hj (by rw [hgi];omega)
  rw [this,if_pos (by omega)]
 ·rw [if_neg hjk]
  have:p.idxOf (k:Int) ≠ j:=by
   intro he
   apply hjk
   have:p[j] = (k:Int):=by rw [<- hgi];congr 1;exact he.symm
   omega
  by_cases hlt:p.idxOf (k:Int) < j
  ·rw [if_pos hlt,if_pos (by omega)]
  ·rw [if_neg hlt,if_neg (by omega)]
theorem madeArr {B:Nat} {e:TypeId} {w:World} {g m:Nat} (h:w.ownsRow B e 1 (.slice (some ⟨g,0,none⟩) m m) m (List.replicate m (.int .i64 0))):Arr B e w g m (List.replicate m 0):=by
 unfold Arr;rwa [List.map_replicate]
theorem inv_i64 {p:List Int} (hl:p.length<=1000):∀ x∈PM.inv p,I64 x:=by
 intro x hx
 unfold PM.inv at hx
 obtain ⟨y,-,rfl⟩:=List.mem_map.1 hx
 have:=List.idxOf_le_length (a:=y) (l:=p)
 unfold I64;omega
set_option maxHeartbeats 1000000 in
theorem Zjq (a:Option Addr) (cap:Nat) (p:List Int) (fp:List Nat) (w:World) (h:IntsA w a cap p fp) (hp:PM.IsP p) (hl:p.length<=1000) :
  Calls Tryz.prog 193 #[.slice a p.length cap] w fun e w'=>∃ v fp',e = .returned v/\Rd w' v (PM.inv p) fp'/\Fresh w.heap.size w' fp'/\Only [] w w':=by
 obtain ⟨i0,hi,hz0,hz1,hz2⟩:=info_parts Tryz.info2
 go_enter Tryz.func193,Tryz.ntmps193
 go_wp2_with (at_make;refine wpList_make_full _ rfl _ _ 25 rfl w.heap.size 2 i0 _ 1 Tryz.underlying25 hi hz0 hz1 _ _ _ _ p.length rfl rfl rfl rfl (by rw [hz2];omega) (by unfold maxLen;omega) (Nat.le_refl _) ?_;intro w1 hown hg)
 rw [madeInts,Nat.mul_one] at hown
 have hA:=madeArr hown
 clear hown
 go_loopw [4] (fun i wr=>∃ j:Nat,j<=p.length/\i = .int .i64 j/\Arr w.heap.size 2 wr w.heap.size p.length (invUp p j)/\Only [] w wr)
  (fun i _=>p.length - (intOf i).toNat)
 case atStart=>exact ⟨0,Nat.zero_le _,rfl,by rw [Zkg];exact hA,zO.grown hg (by simp)⟩
 case round=>
  obtain ⟨j,hj,rfl,hO,hK⟩:=hrel
  by_cases hlt:j < p.length
  ·obtain ⟨b,off,rfl,-,hc0⟩:=h.at_ j hlt
   have hc:=hK.cell (by simp) hc0
   have hr:=hp.1 p[j] (List.getElem_mem _)
   have hO2:=hO.set p[j].toNat j
   rw [Zkp hp hlt] at hO2
   have hc2:=hO.cell (i:=p[j].toNat) (by rw [Zgo];omega)
   have hf2:=hO.frozen p[j].toNat
   have hK2:=hK.setCell (p:=⟨w.heap.size,p[j].toNat,none⟩) (by simp) (.int .i64 j)
   obtain ⟨hr0,hr1⟩:=hr
   have HO:=zH hO2
   clear hO hO2 hA hc0
   go_wp2
   go_roundw
   case rel=>exact ⟨j + 1,by omega,by go_num,HO.out,hK2⟩
   case measure=>simp [intOf];omega
  ·have hjl:j = p.length:=by omega
   rw [hjl,Znj hp] at hO
   have HO:=zH (hO.rd (inv_i64 hl))
   clear hjl hO hA
   go_wp2
   go_ret
   exact ⟨_,_,rfl,HO.out.1,HO.out.2,hK⟩
set_option maxHeartbeats 1000000 in
theorem Zjz (a:Option Addr) (cap:Nat) (p:List Int) (fp:List Nat) (w:World) (h:IntsA w a cap p fp) (hp:PM.IsP p) (hl:p.length<=1000) :
  Calls Tryz.prog 202 #[.slice a p.length cap] w fun e w'=>∃ v fp',e = .returned v/\Rd w' v (PM.inv p) fp'/\Fresh w.heap.size w' fp'/\Only [] w w':=by
 obtain ⟨i0,hi,hz0,hz1,hz2⟩:=info_parts Tryz.info2
 go_enter Tryz.func202,Tryz.ntmps202
 go_wp2_with (at_make;refine wpList_make_full _ rfl _ _ 25 rfl w.heap.size 2 i0 _ 1 Tryz.underlying25 hi hz0 hz1 _ _ _ _ p.length rfl rfl rfl rfl (by rw [hz2];omega) (by unfold maxLen;omega) (Nat.le_refl _) ?_;intro w1 hown hg)
 rw [madeInts,Nat.mul_one] at hown
 have hA:=madeArr hown
 clear hown
 go_loopw [11] (fun i wr=>∃ j:Nat,j<=p.length/\i = .int .i64 j/\Arr w.heap.size 2 wr w.heap.size p.length (invUp p j)/\Only [] w wr)
  (fun i _=>p.length - (intOf i).toNat)
 case atStart=>exact ⟨0,Nat.zero_le _,rfl,by rw [Zkg];exact hA,zO.grown hg (by simp)⟩
 case round=>
  obtain ⟨j,hj,rfl,hO,hK⟩:=hrel
  by_cases hlt:j < p.length
  ·obtain ⟨b,off,rfl,-,hc0⟩:=h.at_ j hlt
   have hc:=hK.cell (by simp) hc0
   have hr:=hp.1 p[j] (List.getElem_mem _)
   have hO2:=hO.set p[j].toNat j
   rw [Zkp hp hlt] at hO2
   have hc2:=hO.cell (i:=p[j].toNat) (by rw [Zgo];omega)
   have hf2:=hO.frozen p[j].toNat
   have hK2:=hK.setCell (p:=⟨w.heap.size,p[j].toNat,none⟩) (by simp) (.int .i64 j)
   obtain ⟨hr0,hr1⟩:=hr
   have HO:=zH hO2
   clear hO hO2 hA hc0
   go_wp2
   go_roundw
   case rel=>exact ⟨j + 1,by omega,by go_num,HO.out,hK2⟩
   case measure=>simp [intOf];omega
  ·have hjl:j = p.length:=by omega
   rw [hjl,Znj hp] at hO
   have HO:=zH (hO.rd (inv_i64 hl))
   clear hjl hO hA
   go_wp2
   go_ret
   exact ⟨_,_,rfl,HO.out.1,HO.out.2,hK⟩
theorem Zko (v:Value) (p:List Int) (fp:List Nat) (w:World) (h:Rd w v p fp) (hp:PM.IsP p) (hl:p.length<=1000) :
  Calls Tryz.prog 202 #[v] w fun e w'=>∃ v fp',e = .returned v/\Rd w' v (PM.inv p) fp'/\Fresh w.heap.size w' fp'/\Only [] w w':=by
 obtain ⟨a,cap,rfl,hI⟩:=h.ints
 exact Zjz a cap p fp w hI hp hl
theorem Zkr (v:Value) (p:List Int) (fp:List Nat) (w:World) (h:Rd w v p fp) (hp:PM.IsP p) (hl:p.length<=1000) :
  Calls Tryz.prog 193 #[v] w fun e w'=>∃ v fp',e = .returned v/\Rd w' v (PM.inv p) fp'/\Fresh w.heap.size w' fp'/\Only [] w w':=by
 obtain ⟨a,cap,rfl,hI⟩:=h.ints
 exact Zjq a cap p fp w hI hp hl
theorem Zmj (v:Value) (p:List Int) (fp:List Nat) (w:World) (h:Rd w v p fp) (hp:permB p = true) :
  Calls Tryz.prog 167 #[v] w fun e w'=>∃ v fp',e = .returned v/\Rd w' v (PM.inv p) fp'/\Fresh w.heap.size w' fp'/\Only [] w w':=by
 have hp':=Zdm.1 hp
 go_enter Tryz.func167,Tryz.ntmps167
 go_wp2_with (first | (go_at_call 133;(with_reducible refine (Zez v p _ _ h).mono ?_);rintro e w1 ⟨rfl,n1,rfl⟩) | (go_at_call 193;(with_reducible refine (Zkr v p _ _ (zK h (Only.ofDrewN _ _ _)) hp'.2 (by omega)).mono ?_);rintro e w2 ⟨u,f2,rfl,r2,F2,t2⟩))
 go_ret
 exact ⟨_,_,rfl,r2,F2,zA⟩
set_option maxHeartbeats 1000000 in
theorem Zrf (v:Value) (gens:List (List Int)) (l:Int) (fp:List Nat) (w:World) (h:Rd w v gens fp) (hg:∀ g∈gens,PM.IsP g/\g.length<=1000) (hl:l∈ltrs gens.length) (hn:gens.length<=1000) :
  Calls Tryz.prog 191 #[v,.int .i64 l] w fun e w'=>∃ v fp',e = .returned v/\Rd w' v (mv gens l) fp'/\(∀ b∈fp',b∈fp\/w.heap.size<=b)/\Only [] w w':=by
 obtain ⟨a,cap,ob,fps,rfl,rfl,hs⟩:=h.open_
 have hb:=hs.bound
 rcases Zcp hl with ⟨k,hk,rfl⟩ | ⟨k,hk,rfl⟩
 ·have hm:=mv_pos rfl hk
  have Hm:=zH hm;clear hm
  obtain ⟨b,off,u,rfl,hob,hc,hu⟩:=hs.atRow k hk
  have e1:wrap64 ((k:Int) + 1 - 1) = (k:Int):=Zhu _ (by omega) (by omega) |>.trans (by omega)
  have e2:(0:Int) < (k:Int) + 1:=by omega
  go_enter Tryz.func191,Tryz.ntmps191
  go_wp2
  go_ret
  refine ⟨_,_,rfl,by rw [Hm.out];exact hu,fun b' hb'=>?_,zA⟩
  left
  exact List.mem_append_right _ (List.mem_flatten.2 ⟨_,List.getElem_mem _,hb'⟩)
 ·have hm:=mv_neg rfl hk
  have Hm:=zH hm;clear hm
  obtain ⟨b,off,u,rfl,hob,hc,hu⟩:=hs.atRow k hk
  have e1:wrap64 (wrap64 (-(-((k:Int) + 1))) - 1) = (k:Int):=by
   rw [Zhu (-(-((k:Int) + 1))) (by omega) (by omega),Zhu _ (by omega) (by omega)];omega
  have e2:¬ (0:Int) < -((k:Int) + 1):=by omega
  have hg2:=hg _ (List.getElem_mem hk)
  go_enter Tryz.func191,Tryz.ntmps191
  go_wp2_with ((go_at_call 202;(with_reducible refine (Zko u gens[k] _ _ hu hg2.1 hg2.2).mono ?_);rintro e w2 ⟨u2,f2,rfl,r2,F2,t2⟩))
  go_ret
  exact ⟨_,_,rfl,by rw [Hm.out];exact r2,fun b' hb'=>.inr (F2.ge b' hb'),zA⟩
set_option maxHeartbeats 1000000 in
theorem Zep (m:Nat) (w:World) (hm:m<=1000) :
  Calls Tryz.prog 118 #[.int .i64 m] w fun e w'=>∃ v fp',e = .returned v/\Rd w' v (ltrs m) fp'/\Fresh w.heap.size w' fp'/\Only [] w w':=by
 obtain ⟨i0,hi,hz0,hz1,hz2⟩:=info_parts Tryz.info2
 go_enter Tryz.func118,Tryz.ntmps118
 go_wp2
 go_loopw [3,6] (fun o i wr=>∃ j:Nat,j<=m/\i = .int .i64 j/\wr.ownsRow w.heap.size 2 1 o (ltrs j).length ((ltrs j).map (Value.int .i64))/\Only [] w wr)
  (fun _ i _=>m - (intOf i).toNat)
 case atStart=>exact ⟨0,Nat.zero_le _,rfl,World.ownsRow_nil w _ _ _,Only.refl _ _⟩
 case round=>
  obtain ⟨j,hj,rfl,hO,hK⟩:=hrel
  by_cases hlt:j < m
  ·have hsz:=hK.size
   have hlj:(ltrs j).length<=2000:=by rw [Zel];omega
   go_wp2_with (at_builtin;refine Zbr _ rfl _ _ 25 rfl w.heap.size 2 i0 _ 1 8 Tryz.underlying25 hi hz0 hz1 hz2 rfl (by omega) _ (ltrs j).length _ rfl (hO.alloc _) (some ⟨wr.heap.size,0,none⟩) 2 2 [.int .i64 ((j:Int) + 1),.int .i64 (-((j:Int) + 1))] rfl rfl (Zhn wr [.int .i64 ((j:Int) + 1),.int .i64 (-((j:Int) + 1))] _ rfl) (by simp) (by intro u hu;simp at hu;rcases hu with rfl | rfl <;> rfl) (by unfold maxLen;omega) (by omega) (by simp;omega) ?_;intro v1 w1 hO1 hg1 hb1)
   go_roundw
   case rel=>exact ⟨j + 1,by omega,by go_num,by simpa [ltrs] using hO1,(hK.alloc _).grown hg1 (by intro k hk hk2;have:=(hO.lt k hk).1;omega)⟩
   case measure=>simp [intOf];omega
  ·have hjl:j = m:=by omega
   rw [hjl] at hO
   have hw:∀ x∈ltrs m,I64 x:=fun x hx=>by have:=Zas.1 hx;unfold I64;omega
   obtain ⟨a',cap',hv,-,hI,hF⟩:=Zba hO hw
   have HI:=zH hI
   have Hv:=zH hv
   clear hjl hO hv hI hw
   go_wp2
   go_ret
   refine ⟨_,_,rfl,?_,hF,hK⟩
   have hr:=HI.out.rd
   rw [<- Hv.out] at hr;exact hr
theorem Zae {x:Puzzle} (h:validPz x = true):1<=x.points/\x.points<=20/\x.moves.length<=8/\∀ y∈x.moves,(y.length:Int) = x.points/\permB y = true:=by
 unfold validPz at h
 rw [Bool.and_eq_true] at h
 have h1:=h.1
 unfold gensB at h1
 rw [Bool.and_eq_true,Bool.and_eq_true,inR_iff,decide_eq_true_iff,List.all_eq_true] at h1
 refine ⟨h1.1.1.1,h1.1.1.2,h1.1.2,fun y hy=>?_⟩
 have:=h1.2 y hy
 unfold genB at this
 simpa using this
theorem Zag {x:Puzzle} (h:validPz x = true):∀ g∈x.moves,PM.PN x.points.toNat g:=by
 intro g hg
 obtain ⟨h1,h2,h3,h4⟩:=Zae h
 obtain ⟨h5,h6⟩:=h4 g hg
 exact ⟨by omega,(Zdm.1 h6).2⟩
def idxL (l:List (List Int)) (p:List Int):Int:=idxF (fun q=>decide (q = p)) l
def nxt (x:Puzzle) (p:List Int) (l:Int):List Int:=PM.comp p (mv x.moves l)
def nextI (x:Puzzle) (t:Table) (p:List Int) (l:Int):Int:=idxL t.patterns (nxt x p l)
def leads (x:Puzzle) (t:Table) (p:List Int) (d:Int) (l:Int):Bool:=decide (0<=nextI x t p l) && decide (t.distances.getD (nextI x t p l).toNat 0 = d)
def descL (x:Puzzle) (t:Table) (p:List Int) (d:Int):Int:=((ltrs x.moves.length).find? (leads x t p d)).getD 0
structure Fault where
 kind:Int
 entry:Int
 letter:Int
instance:Rp Fault where
 size:=3
 rep _ cs x fp:=cs = [Value.int .i64 x.kind,Value.int .i64 x.entry,Value.int .i64 x.letter]/\(I64 x.kind/\I64 x.entry/\I64 x.letter)/\fp = []
 len h:=by rw [h.1];rfl
 frame h _:=h
 lt h:=by rw [h.2.2];simp
def atD (t:Table) (i:Int):Int:=t.distances.getD i.toNat 0
def atP (t:Table) (i:Nat):List Int:=t.patterns.getD i []
def one (b:Bool) (f:Fault):List Fault:=if b = true then [f] else []
def letF (x:Puzzle) (t:Table) (i:Nat) (l:Int):List Fault:=
 if nextI x t (atP t i) l < 0 then [⟨4,i,l⟩] else if inR (atD t (nextI x t (atP t i) l) - atD t i) (-1) 1 = true then [] else [⟨5,i,l⟩]
def entF (x:Puzzle) (t:Table) (i:Nat):List Fault:=
 one (decide (i = 0) && (decide (atD t i ≠ 0) || decide (atP t 0 ≠ t.tracked))) ⟨1,i,0⟩ ++
 (one (decide (idxL t.patterns (atP t i) < i)) ⟨2,i,0⟩ ++
 (one (decide (0 < i) && decide (atD t i = 0)) ⟨3,i,0⟩ ++
 ((ltrs x.moves.length).flatMap (letF x t i) ++
 one (decide (0 < atD t i) && decide (descL x t (atP t i) (atD t i - 1) = 0)) ⟨6,i,0⟩)))
theorem Zej {α:Type} (pr:α->Bool) (l:List α):idxF pr l = -1\/∃ k:Nat,∃ h:k < l.length,idxF pr l = k/\pr l[k] = true:=by
 unfold idxF
 cases h:l.findIdx? pr with
 | none=>exact .inl rfl
 | some i=>
  right
  obtain ⟨hi,hp,-⟩:=List.findIdx?_eq_some_iff_getElem.1 h
  exact ⟨i,hi,rfl,hp⟩
theorem idxL_lt {l:List (List Int)} {p:List Int}:-1<=idxL l p/\idxL l p < l.length:=by
 rcases Zej (fun q=>decide (q = p)) l with h | ⟨k,hk,h,-⟩
 ·unfold idxL;omega
 ·unfold idxL;omega
theorem nxt_pat {x:Puzzle} {k:Nat} {p:List Int} {l:Int} (hv:validPz x = true) (hp:patB x.points k p = true) (hl:l∈ltrs x.moves.length):patB x.points k (nxt x p l) = true:=by
 obtain ⟨h1,h2,h3,h4⟩:=Zae hv
 obtain ⟨h5,h6,h7⟩:=Zaq.1 hp
 have hm:=mv_pn (Zag hv) hl
 refine Zaq.2 ⟨by unfold nxt;rw [PM.Zan];exact h5,fun y hy=>?_,?_⟩
 ·obtain ⟨z,hz,rfl⟩:=List.mem_map.1 hy
  have:=h6 z hz
  have:=hm.rng this.1 (by omega)
  omega
 ·unfold nxt PM.comp
  rw [List.nodup_iff_pairwise_ne,List.pairwise_map]
  refine (List.nodup_iff_pairwise_ne.1 h7).imp_of_mem fun {a b} ha hb hab he=>hab ?_
  have h8:=h6 a ha;have h9:=h6 b hb
  exact hm.inj h8.1 (by omega) h9.1 (by omega) he
abbrev Met16:=List (List Int) × List Int
def bMeet (s:Met16) (d:Int) (y:List Int):Option Met16:=if y∈s.1 then some s else if s.1.length = 3000 then none else some (s.1 ++ [y],s.2 ++ [d])
def bLets (x:Puzzle) (q:List Int) (d:Int):List Int->Met16->Option Met16
 | [],s=>some s
 | l :: ls,s=>(bMeet s d (nxt x q l)).bind (bLets x q d ls)
def bFrom (x:Puzzle):Nat->Nat->Met16->Option Met16
 | 0,_,s=>some s
 | n + 1,k,s=>if k < s.1.length then (bLets x (s.1.getD k []) (s.2.getD k 0 + 1) (ltrs x.moves.length) s).bind (bFrom x n (k + 1)) else some s
def bfs16 (x:Puzzle) (tr:List Int):Option Met16:=if (validPz x && trackB x.points tr) = true then bFrom x 3001 0 ([tr],[0]) else none
theorem Zmy {s s':Met16} {d:Int} {y:List Int} (h:bMeet s d y = some s') (h1:s.1.length = s.2.length) (h2:s.1.length<=3000):s'.1.length = s'.2.length/\s'.1.length<=3000/\s.1.length<=s'.1.length:=by
 unfold bMeet at h
 split at h
 ·injection h with h;subst h;exact ⟨h1,h2,Nat.le_refl _⟩
 ·split at h
  ·cases h
  ·injection h with h;subst h;simp;omega
theorem Zmr {x:Puzzle} {q:List Int} {d:Int}:∀ {ls:List Int} {s s':Met16},bLets x q d ls s = some s'->s.1.length = s.2.length->s.1.length<=3000->s'.1.length = s'.2.length/\s'.1.length<=3000/\s.1.length<=s'.1.length
 | [],s,s',h,h1,h2=>by unfold bLets at h;injection h with h;subst h;exact ⟨h1,h2,Nat.le_refl _⟩
 | l :: ls,s,s',h,h1,h2=>by
  unfold bLets at h
  rw [Option.bind_eq_some_iff] at h
  obtain ⟨s1,e1,e2⟩:=h
  obtain ⟨a,b,c⟩:=Zmy e1 h1 h2
  obtain ⟨a',b',c'⟩:=Zmr e2 a b
  exact ⟨a',b',Nat.le_trans c c'⟩
def prec:List Int->List Int->Bool
 | a :: xs,b :: ys=>if a = b then prec xs ys else decide (a < b)
 | _,_=>false
theorem Zqh:∀ (a:List Int),prec a a = false
 | []=>rfl
 | a :: xs=>by simp [prec,Zqh xs]
theorem Zlg:∀ {a b c:List Int},a.length = b.length->b.length = c.length->prec a b = true->prec b c = true->prec a c = true
 | [],_,_,_,_,h,_=>by cases h
 | _ :: _,[],_,h,_,_,_=>by cases h
 | _ :: _,_ :: _,[],_,h,_,_=>by cases h
 | a :: xs,b :: ys,c :: zs,h1,h2,h3,h4=>by
  unfold prec at h3 h4 ⊢
  by_cases e1:a = b
  ·by_cases e2:b = c
   ·rw [if_pos e1] at h3;rw [if_pos e2] at h4;rw [if_pos (e1.trans e2)]
    exact Zlg (by simpa using h1) (by simpa using h2) h3 h4
   ·rw [if_neg e2] at h4;subst e1;rw [if_neg e2];exact h4
  ·rw [if_neg e1] at h3
   have h3:=of_decide_eq_true h3
   by_cases e2:b = c
   ·subst e2;rw [if_neg e1];exact decide_eq_true h3
   ·rw [if_neg e2] at h4
    have h4:=of_decide_eq_true h4
    rw [if_neg (by omega)];exact decide_eq_true (by omega)
theorem Zqq:∀ {a b:List Int},a.length = b.length->a ≠ b->prec a b = false->prec b a = true
 | [],[],_,h,_=>absurd rfl h
 | [],_ :: _,h,_,_=>by cases h
 | _ :: _,[],h,_,_=>by cases h
 | a :: xs,b :: ys,h1,h2,h3=>by
  unfold prec at h3 ⊢
  by_cases e1:a = b
  ·subst e1
   rw [if_pos rfl] at h3 ⊢
   exact Zqq (by simpa using h1) (fun e=>h2 (by rw [e])) h3
  ·rw [if_neg e1] at h3
   rw [if_neg (fun e=>e1 e.symm)]
   have:=of_decide_eq_false h3
   exact decide_eq_true (by omega)
theorem Ziu:∀ {a b:List Int} {j:Nat},(∀ i,i < j->a[i]? = b[i]?)->j<=a.length->j<=b.length->prec a b = prec (a.drop j) (b.drop j)
 | _,_,0,_,_,_=>by simp
 | [],_,j + 1,_,h,_=>by simp at h
 | _ :: _,[],j + 1,_,_,h=>by simp at h
 | a :: xs,b :: ys,j + 1,h,h1,h2=>by
  have h0:=h 0 (by omega)
  simp only [List.getElem?_cons_zero,Option.some.injEq] at h0
  rw [List.drop_succ_cons,List.drop_succ_cons]
  rw [show prec (a :: xs) (b :: ys) = if a = b then prec xs ys else decide (a < b) from rfl,if_pos h0]
  exact Ziu (fun i hi=>by simpa using h (i + 1) (by omega)) (by simpa using h1) (by simpa using h2)
theorem prec_at {a b:List Int} {j:Nat} (h:∀ i,i < j->a[i]? = b[i]?) (h1:j < a.length) (h2:j < b.length) (hne:a[j] ≠ b[j]):prec a b = decide (a[j] < b[j]):=by
 rw [Ziu h (by omega) (by omega),List.drop_eq_getElem_cons h1,List.drop_eq_getElem_cons h2]
 rw [show ∀ (x y:Int) (xs ys:List Int),prec (x :: xs) (y :: ys) = if x = y then prec xs ys else decide (x < y) from fun _ _ _ _=>rfl,if_neg hne]
theorem Zto {a b:List Int} (h:∀ i,i < a.length->a[i]? = b[i]?) (hl:a.length = b.length):prec a b = false:=by
 rw [Ziu h (Nat.le_refl _) (by omega),List.drop_length]
 rfl
structure Srt (m:Nat) (L:List (List Int)) (so:List Nat):Prop where
 len:so.length = L.length
 many:∀ x∈L,x.length = m
 in_:∀ i∈so,i < L.length
 all:∀ i,i < L.length->i∈so
 asc:∀ (i j:Nat) (hi:i < so.length) (hj:j < so.length),i < j->prec (L.getD so[i] []) (L.getD so[j] []) = true
theorem Srt.nil (m:Nat):Srt m [] []:=⟨rfl,by simp,by simp,by simp,by simp⟩
theorem Srt.mem {m:Nat} {L:List (List Int)} {so:List Nat} (h:Srt m L so) {i:Nat} (hi:i < so.length):L.getD so[i] []∈L:=by
 have:=h.in_ so[i] (List.getElem_mem hi)
 rw [List.getD_eq_getElem?_getD,List.getElem?_eq_getElem this]
 exact List.getElem_mem this
structure Slot (L:List (List Int)) (so:List Nat) (s:List Int) (k:Nat):Prop where
 le:k<=so.length
 lo:∀ (i:Nat) (hi:i < so.length),i < k->prec (L.getD so[i] []) s = true
 hi:∀ (i:Nat) (hi:i < so.length),k<=i->prec (L.getD so[i] []) s = false
theorem Srt.below {m:Nat} {L:List (List Int)} {so:List Nat} (h:Srt m L so) {s:List Int} (hs:s.length = m) {k:Nat} (hk:k < so.length) (hp:prec (L.getD so[k] []) s = true) {i:Nat} (hi:i < so.length) (hik:i<=k):prec (L.getD so[i] []) s = true:=by
 rcases Nat.lt_or_eq_of_le hik with hlt | rfl
 ·exact Zlg (by rw [h.many _ (h.mem hi),h.many _ (h.mem hk)]) (by rw [h.many _ (h.mem hk),hs]) (h.asc i k hi hk hlt) hp
 ·exact hp
theorem Srt.above {m:Nat} {L:List (List Int)} {so:List Nat} (h:Srt m L so) {s:List Int} (hs:s.length = m) {k:Nat} (hk:k < so.length) (hp:prec (L.getD so[k] []) s = false) {i:Nat} (hi:i < so.length) (hik:k<=i):prec (L.getD so[i] []) s = false:=by
 rcases hq:prec (L.getD so[i] []) s
 ·rfl
 ·rw [h.below hs hi hq hk hik] at hp;cases hp
theorem Srt.slot_mem {m:Nat} {L:List (List Int)} {so:List Nat} (h:Srt m L so) {s:List Int} {k:Nat} (hk:Slot L so s k):s∈L ↔ ∃ hk:k < so.length,L.getD so[k] [] = s:=by
 constructor
 ·intro hm
  obtain ⟨i,hi,he⟩:=List.mem_iff_getElem.1 hm
  obtain ⟨t,ht,hte⟩:=List.mem_iff_getElem.1 (h.all i hi)
  have hts:L.getD so[t] [] = s:=by rw [hte,List.getD_eq_getElem?_getD,List.getElem?_eq_getElem hi];exact he
  rcases Nat.lt_trichotomy t k with hlt | heq | hgt
  ·have:=hk.lo t ht hlt
   rw [hts,Zqh] at this;cases this
  ·subst heq;exact ⟨ht,hts⟩
  ·have h1:=h.asc k t (by omega) ht hgt
   have h2:=hk.hi k (by omega) (Nat.le_refl _)
   rw [hts] at h1;rw [h1] at h2;cases h2
 ·rintro ⟨hk,he⟩
  rw [<- he];exact h.mem hk
theorem Srt.add {m:Nat} {L:List (List Int)} {so:List Nat} (h:Srt m L so) {s:List Int} (hs:s.length = m) (hn:s ∉ L) {k:Nat} (hk:Slot L so s k):Srt m (L ++ [s]) (so.take k ++ L.length :: so.drop k):=by
 have hD:∀ (t:Nat) (ht:t < so.length),(L ++ [s]).getD so[t] [] = L.getD so[t] []:=fun t ht=>by
  have:=h.in_ so[t] (List.getElem_mem ht)
  simp only [List.getD_eq_getElem?_getD,List.getElem?_append_left this]
 have hS:(L ++ [s]).getD L.length [] = s:=by simp [List.getD_eq_getElem?_getD]
 have hle:=hk.le
 have hG:∀ (t:Nat) (ht:t < (so.take k ++ L.length :: so.drop k).length),(L ++ [s]).getD (so.take k ++ L.length :: so.drop k)[t] [] = if t < k then L.getD (so.getD t 0) [] else if t = k then s else L.getD (so.getD (t - 1) 0) []:=by
  intro t ht
  have htl:t < so.length + 1:=by simp at ht;omega
  by_cases h1:t < k
  ·rw [if_pos h1]
   rw [List.getElem_append_left (by simp;omega),List.getElem_take]
   rw [hD t (by omega)]
   simp [List.getD_eq_getElem?_getD,List.getElem?_eq_getElem (show t < so.length by omega)]
  ·rw [if_neg h1]
   have hkl:(so.take k).length = k:=by simp;omega
   rw [List.getElem_append_right (by rw [hkl];omega)]
   by_cases h2:t = k
   ·subst h2;rw [if_pos rfl];simp only [hkl,Nat.sub_self,List.getElem_cons_zero];exact hS
   ·rw [if_neg h2]
    have h3:t - (so.take k).length = (t - 1 - k) + 1:=by rw [hkl];omega
    simp only [h3,List.getElem_cons_succ,List.getElem_drop]
    have h4:k + (t - 1 - k) = t - 1:=by omega
    have h5:t - 1 < so.length:=by omega
    simp only [h4]
    rw [hD _ h5]
    simp [List.getD_eq_getElem?_getD,List.getElem?_eq_getElem h5]
 refine ⟨?_,?_,?_,?_,?_⟩
 ·have:=h.len;simp;omega
 ·intro x hx
  rcases List.mem_append.1 hx with hx | hx
  ·exact h.many x hx
  ·simp at hx;subst hx;exact hs
 ·intro i hi
  rw [List.length_append,List.length_singleton]
  rcases List.mem_append.1 hi with hi | hi
  ·have:=h.in_ i (List.mem_of_mem_take hi);omega
  ·rcases List.mem_cons.1 hi with rfl | hi
   ·omega
   ·have:=h.in_ i (List.mem_of_mem_drop hi);omega
 ·intro i hi
  rw [List.length_append,List.length_singleton] at hi
  by_cases he:i = L.length
  ·subst he;simp
  ·have:=h.all i (by omega)
   rw [<- List.take_append_drop k so] at this
   rcases List.mem_append.1 this with h1 | h1
   ·exact List.mem_append_left _ h1
   ·exact List.mem_append_right _ (List.mem_cons_of_mem _ h1)
 ·intro i j hi hj hij
  rw [hG i hi,hG j hj]
  have hjl:j < so.length + 1:=by simp at hj;omega
  have gd:∀ (t:Nat) (ht:t < so.length),so.getD t 0 = so[t]:=fun t ht=>by simp [List.getD_eq_getElem?_getD,List.getElem?_eq_getElem ht]
  by_cases j1:j < k
  ·rw [if_pos j1,if_pos (by omega),gd i (by omega),gd j (by omega)]
   exact h.asc i j (by omega) (by omega) hij
  ·rw [if_neg j1]
   by_cases j2:j = k
   ·subst j2
    rw [if_pos rfl,if_pos hij,gd i (by omega)]
    exact hk.lo i (by omega) hij
   ·rw [if_neg j2,gd (j - 1) (by omega)]
    by_cases i1:i < k
    ·rw [if_pos i1,gd i (by omega)]
     exact h.asc i (j - 1) (by omega) (by omega) (by omega)
    ·rw [if_neg i1]
     by_cases i2:i = k
     ·rw [if_pos i2]
      have hj1:j - 1 < so.length:=by omega
      have hne:L.getD so[j - 1] [] ≠ s:=fun e=>hn (e ▸ h.mem hj1)
      exact Zqq (by rw [h.many _ (h.mem hj1),hs]) hne (hk.hi (j - 1) hj1 (by omega))
     ·rw [if_neg i2,gd (i - 1) (by omega)]
      exact h.asc (i - 1) (j - 1) (by omega) (by omega) (by omega)
end Go.Proofs.YtclhblofchfglaaGreat
