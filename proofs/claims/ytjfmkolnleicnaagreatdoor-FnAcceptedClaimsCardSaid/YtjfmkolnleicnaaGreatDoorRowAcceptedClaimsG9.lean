/- The reference's tables: letters, what lies behind a letter. (Written by mkspectab.py.) -/
import Derived.Test.YtjfmkolnleicnaaGreatDoorRowAcceptedClaimsG8
import Derived.Test.YtjfmkolnleicnaaGreatDoorRowAcceptedClaimsG7
import Derived.Deep.RegionHeld3
import Derived.Test.YtjfmkolnleicnaaGreatDoorRowAcceptedClaimsG2
import Derived.Deep.DeepCutAuto
import Derived.Test.YtjfmkolnleicnaaGreatDoorRowAcceptedClaimsG3
import Derived.Deep.QuietTactic
import Derived.BigQuiet
import Derived.BigRegion
import Derived.Laws.Bits64b
namespace Go.Proofs.YtjfmkolnleicnaaGreatDoor
open Go.RowKit
set_option maxRecDepth 10000
set_option maxHeartbeats 1000000 in
theorem Zii (cs:List Value) (x:Puzzle) (fp:List Nat) (w:World) (h:Rp.rep w cs x fp) (hl:x.moves.length<=1000) :
  Calls Tryz.prog 117 #[.agg cs.toArray] w fun e w'=>∃ v fp',e = .returned v/\Rd w' v (ltrs x.moves.length) fp'/\Fresh w.heap.size w' fp'/\Only [] w w':=by
 obtain ⟨v2,rfl,p0,p1,hm⟩:=h
 obtain ⟨A2,C2,ob,fps,rfl,-,hs⟩:=hm.open_
 obtain ⟨i0,hi,hz0,hz1,hz2⟩:=info_parts Tryz.info2
 have hB:=Blk.new_at (w:=w) (cs:=[.int .i64 x.points,.string x.names,.slice A2 x.moves.length C2]) (t:=26) rfl
 go_enter Tryz.func117,Tryz.ntmps117
 go_wp2
 go_loopw [3,4] (fun o i wr=>∃ j:Nat,j<=x.moves.length/\i = .int .i64 ((j:Int) + 1)/\wr.ownsRow (w.heap.size + 1) 2 1 o (ltrs j).length ((ltrs j).map (Value.int .i64))/\Only [] (w.alloc (.cells #[.int .i64 x.points,.string x.names,.slice A2 x.moves.length C2] 26)) wr)
  (fun _ i _=>x.moves.length + 1 - (intOf i).toNat)
 case atStart=>exact ⟨0,Nat.zero_le _,rfl,by have:=World.ownsRow_made (base:=w.heap.size + 1) (e:=2) (size:=1) (w.alloc (.cells #[.int .i64 x.points,.string x.names,.slice A2 x.moves.length C2] 26)) #[] 0 (by simp) (by unfold maxLen;omega) (by simp);simpa [ltrs] using this,zA⟩
 case round=>
  obtain ⟨j,hj,rfl,hO,hK⟩:=hrel
  have y2:=(hB.keep hK).cell 2 rfl
  by_cases hlt:j < x.moves.length
  ·have hsz:=hK.size
   have hlt':(j:Int) + 1<=(x.moves.length:Int):=by omega
   have hlj:(ltrs j).length<=2000:=by rw [Zel];omega
   go_wp2_with (at_builtin;refine Zcs _ rfl _ _ 27 rfl (w.heap.size + 1) 2 i0 _ 1 8 Tryz.underlying27 hi hz0 hz1 hz2 rfl (by omega) _ (ltrs j).length _ rfl (hO.alloc _) (some ⟨wr.heap.size,0,none⟩) 2 2 [.int .i64 ((j:Int) + 1),.int .i64 (-((j:Int) + 1))] rfl rfl (Zcq wr [.int .i64 ((j:Int) + 1),.int .i64 (-((j:Int) + 1))] _ rfl) (by simp) (by intro u hu;simp at hu;rcases hu with rfl | rfl <;> rfl) (by unfold maxLen;omega) (by omega) (by simp at hsz ⊢;omega) ?_;intro v1 w1 hO1 hg1 hb1)
   go_roundw
   case rel=>exact ⟨j + 1,by omega,by go_num,by simpa [ltrs] using hO1,(hK.alloc _).grown hg1 (by intro k hk hk2;have:=(hO.lt k hk).1;simp at hk2;omega)⟩
   case measure=>simp [intOf];omega
  ·have hjl:j = x.moves.length:=by omega
   have hw:∀ y∈ltrs x.moves.length,I64 y:=fun y hy=>by have:=Zbv.1 hy;unfold I64;omega
   subst hjl
   obtain ⟨a',cap',hv,-,hI,hF⟩:=Zbg hO hw
   have HI:=zH hI
   have Hv:=zH hv
   have HF:=zH (Fresh.mono hF (Nat.le_succ _))
   clear hO hv hI hw hF
   have hlt3:¬ (x.moves.length:Int) + 1<=(x.moves.length:Int):=by omega
   go_wp2
   go_ret
   refine ⟨_,rfl,_,?_,HF.out,zA⟩
   have hr:=HI.out.rd
   rw [<- Hv.out] at hr;exact hr
set_option maxHeartbeats 2000000 in
theorem Zgf (cs:List Value) (x:Puzzle) (fp:List Nat) (v:Value) (l:List Int) (f2:List Nat) (lt:Int) (w:World) (h:Rp.rep w cs x fp) (h2:Rd w v l f2)
  (hv:validPz x = true) (hl:lt∈ltrs x.moves.length) (hx:∀ y∈l,0<=y/\y < x.points) (hlen:l.length<=1000) :
  Calls Tryz.prog 118 #[.agg cs.toArray,v,.int .i64 lt] w fun e w'=>∃ v fp',e = .returned v/\Rd w' v (nxt x l lt) fp'/\Fresh w.heap.size w' fp'/\Only [] w w':=by
 obtain ⟨v2,rfl,p0,p1,hm⟩:=h
 obtain ⟨AG,CG,ob,fps,rfl,-,hs⟩:=hm.open_
 obtain ⟨A2,C2,rfl,I2⟩:=h2.ints
 obtain ⟨g1,g2,g3,g4⟩:=Zae hv
 obtain ⟨i0,hi,hz0,hz1,hz2⟩:=info_parts Tryz.info2
 obtain ⟨M,hM⟩:∃ M,M = mv x.moves lt:=⟨_,rfl⟩
 have hMl:(M.length:Int) = x.points:=by rw [hM,(mv_pn (Zas hv) hl).1];omega
 have Hres:=zH (show nxt x l lt = PM.comp l M by rw [hM];rfl)
 rcases Zci hl with ⟨k,hk,rfl⟩ | ⟨k,hk,rfl⟩
 ·rw [mv_pos rfl hk] at hM
  obtain ⟨b,off,u,rfl,hob,hc,hu⟩:=hs.atRow k hk
  rw [<- hM] at hu
  obtain ⟨AM,CM,rfl,IM⟩:=hu.ints
  have e0:max ((k:Int) + 1) (-((k:Int) + 1)) = (k:Int) + 1:=by omega
  have hKw:Only [] w w:=Only.refl _ _
  have hcw:=((Only.refl [] w).alloc (.cells #[.int .i64 x.points,.string x.names,.slice (some ⟨b,off,none⟩) x.moves.length CG] 26)).cell (by simp) hc
  clear hM hob hc
  go_enter Tryz.func118,Tryz.ntmps118
  go_wp2
  go_loopw [8,9] (fun o i wr=>∃ (j:Nat) (fs:List (List Nat)),j<=l.length/\i = .int .i64 j/\Acc w.heap.size 2 wr o (PM.comp (l.take j) M) fs/\Fresh w.heap.size wr fs.flatten/\Only [] w wr)
   (fun _ i _=>l.length - (intOf i).toNat)
  case atStart=>exact ⟨0,[],Nat.zero_le _,rfl,Acc.made (w.alloc (.cells #[.int .i64 x.points,.string x.names,.slice (some ⟨b,off,none⟩) x.moves.length CG] 26)) w.heap.size _ (by simp) (by simp),Fresh.nil _ _,zA⟩
  case round=>
   obtain ⟨j,fs,hj,rfl,hA,hF,hK⟩:=hrel
   have hKz:Only [] w wr:=hKw.trans hK
   have hsz:=hK.size
   by_cases hlt:j < l.length
   ·obtain ⟨b,off,rfl,-,hc0⟩:=I2.at_ j hlt
    obtain ⟨hr0,hr1⟩:=hx l[j] (List.getElem_mem _)
    have hml:l[j].toNat < M.length:=by omega
    have hr2:l[j] < (M.length:Int):=by omega
    obtain ⟨b2,off2,rfl,-,hd0⟩:=IM.at_ l[j].toNat hml
    have hc:=hKz.cell (by simp) hc0
    have hd:=hK.cell (by simp) hd0
    have hstep:PM.comp (l.take j) M ++ [M[l[j].toNat]] = PM.comp (l.take (j + 1)) M:=by
     have e1:PM.at_ M l[j] = M[l[j].toNat]:=by
      have:=PM.at_nat M l[j].toNat hml
      rwa [show ((l[j].toNat:Nat):Int) = l[j] by omega] at this
     rw [Zab l j hlt]
     simp only [PM.comp,List.map_append,List.map_cons,List.map_nil,e1]
    have hlj:(PM.comp (l.take j) M).length + 1<=1073741824:=by rw [PM.Zan,List.length_take];omega
    have HI:=zH (IM.wf _ (List.getElem_mem hml))
    have Hs:=zH hstep
    clear hstep hc0 hd0
    go_wp2_with (at_builtin;refine Zak rfl _ _ 27 rfl w.heap.size 2 i0 _ 8 Tryz.underlying27 hi hz0 hz1 hz2 rfl (by decide) (by decide) wr _ (PM.comp (l.take j) M) fs rfl hA hF (zO.alloc _) hsz wr.heap.size 1 [.int .i64 M[l[j].toNat]] M[l[j].toNat] [] rfl (lit_src wr [.int .i64 M[l[j].toNat]] _ rfl) (by intro u hu;simp at hu;subst hu;rfl) (int_rd _ HI.out) (Fresh.nil _ _) hlj w (hK.alloc _) (Nat.le_refl _) ?_;intro v3 w3 hA3 hF3 hK3 _)
    go_roundw
    case rel=>exact ⟨j + 1,_,by omega,by go_num,by rw [<- Hs.out];exact hA3,hF3,hK3⟩
    case measure=>simp [intOf];omega
   ·have hjl:j = l.length:=by omega
    rw [hjl,List.take_length] at hA
    have HA:=zH hA
    clear hjl hA
    go_wp2
    go_ret
    exact ⟨_,_,rfl,by rw [Hres.out];exact HA.out.rd (by decide),(HA.out.fresh hF).mono hKw.size,hKz⟩
 ·have hg:=g4 _ (List.getElem_mem hk)
  rw [mv_neg rfl hk] at hM
  obtain ⟨b,off,u,rfl,hob,hc,hu⟩:=hs.atRow k hk
  have e0:max (-((k:Int) + 1)) ((k:Int) + 1) = (k:Int) + 1:=by omega
  have HM:=zH hM
  have hcw:=((Only.refl [] w).alloc (.cells #[.int .i64 x.points,.string x.names,.slice (some ⟨b,off,none⟩) x.moves.length CG] 26)).cell (by simp) hc
  clear hM hob hc
  go_enter Tryz.func118,Tryz.ntmps118
  go_wp2_with ((go_at_call 151;(with_reducible refine (Zmj u x.moves[k] _ _ (zK hu zA) hg.2).mono ?_);rintro e w2 ⟨u2,fm,rfl,r2,F2,t2⟩;rw [<- HM.out] at r2;obtain ⟨AM,CM,rfl,IM⟩:=r2.ints))
  have hKw:Only [] w w2:=zA
  go_loopw [8,9] (fun o i wr=>∃ (j:Nat) (fs:List (List Nat)),j<=l.length/\i = .int .i64 j/\Acc w2.heap.size 2 wr o (PM.comp (l.take j) M) fs/\Fresh w2.heap.size wr fs.flatten/\Only [] w2 wr)
   (fun _ i _=>l.length - (intOf i).toNat)
  case atStart=>exact ⟨0,[],Nat.zero_le _,rfl,Acc.made w2 w2.heap.size _ rfl (Nat.le_refl _),Fresh.nil _ _,zA⟩
  case round=>
   obtain ⟨j,fs,hj,rfl,hA,hF,hK⟩:=hrel
   have hKz:Only [] w wr:=hKw.trans hK
   have hsz:=hK.size
   by_cases hlt:j < l.length
   ·obtain ⟨b,off,rfl,-,hc0⟩:=I2.at_ j hlt
    obtain ⟨hr0,hr1⟩:=hx l[j] (List.getElem_mem _)
    have hml:l[j].toNat < M.length:=by omega
    have hr2:l[j] < (M.length:Int):=by omega
    obtain ⟨b2,off2,rfl,-,hd0⟩:=IM.at_ l[j].toNat hml
    have hc:=hKz.cell (by simp) hc0
    have hd:=hK.cell (by simp) hd0
    have hstep:PM.comp (l.take j) M ++ [M[l[j].toNat]] = PM.comp (l.take (j + 1)) M:=by
     have e1:PM.at_ M l[j] = M[l[j].toNat]:=by
      have:=PM.at_nat M l[j].toNat hml
      rwa [show ((l[j].toNat:Nat):Int) = l[j] by omega] at this
     rw [Zab l j hlt]
     simp only [PM.comp,List.map_append,List.map_cons,List.map_nil,e1]
    have hlj:(PM.comp (l.take j) M).length + 1<=1073741824:=by rw [PM.Zan,List.length_take];omega
    have HI:=zH (IM.wf _ (List.getElem_mem hml))
    have Hs:=zH hstep
    clear hstep hc0 hd0
    go_wp2_with (at_builtin;refine Zak rfl _ _ 27 rfl w2.heap.size 2 i0 _ 8 Tryz.underlying27 hi hz0 hz1 hz2 rfl (by decide) (by decide) wr _ (PM.comp (l.take j) M) fs rfl hA hF (zO.alloc _) hsz wr.heap.size 1 [.int .i64 M[l[j].toNat]] M[l[j].toNat] [] rfl (lit_src wr [.int .i64 M[l[j].toNat]] _ rfl) (by intro u hu;simp at hu;subst hu;rfl) (int_rd _ HI.out) (Fresh.nil _ _) hlj w2 (hK.alloc _) (Nat.le_refl _) ?_;intro v3 w3 hA3 hF3 hK3 _)
    go_roundw
    case rel=>exact ⟨j + 1,_,by omega,by go_num,by rw [<- Hs.out];exact hA3,hF3,hK3⟩
    case measure=>simp [intOf];omega
   ·have hjl:j = l.length:=by omega
    rw [hjl,List.take_length] at hA
    have HA:=zH hA
    clear hjl hA
    go_wp2
    go_ret
    exact ⟨_,_,rfl,by rw [Hres.out];exact HA.out.rd (by decide),(HA.out.fresh hF).mono hKw.size,hKz⟩
theorem Zhr {x:Puzzle} {k:Nat} {L:List (List Int)} {D:List Int} (hk:k < L.length) (h:L.length<=3000) :
  bFrom x (3001 - k) k (L,D) = (bLets x (L.getD k []) (D.getD k 0 + 1) (ltrs x.moves.length) (L,D)).bind (bFrom x (3001 - (k + 1)) (k + 1)):=by
 have e:3001 - k = (3001 - (k + 1)) + 1:=by omega
 rw [e]
 show (if k < L.length then _ else _) = _
 rw [if_pos hk]
theorem Zja {x:Puzzle} {k:Nat} {L:List (List Int)} {D:List Int} (hk:¬ k < L.length) (h:k<=3000):bFrom x (3001 - k) k (L,D) = some (L,D):=by
 have e:3001 - k = (3001 - (k + 1)) + 1:=by omega
 rw [e]
 show (if k < L.length then _ else _) = _
 rw [if_neg hk]
theorem Zjc {x:Puzzle} {q:List Int} {d l:Int} {ls:List Int} {L:List (List Int)} {D:List Int} (h:nxt x q l∈L):bLets x q d (l :: ls) (L,D) = bLets x q d ls (L,D):=by
 show (bMeet (L,D) d (nxt x q l)).bind _ = _
 unfold bMeet
 rw [if_pos h];rfl
theorem Zhx {x:Puzzle} {q:List Int} {d l:Int} {ls:List Int} {L:List (List Int)} {D:List Int} (h:nxt x q l ∉ L) (hl:L.length = 3000):bLets x q d (l :: ls) (L,D) = none:=by
 show (bMeet (L,D) d (nxt x q l)).bind _ = _
 unfold bMeet
 rw [if_neg h,if_pos hl];rfl
theorem Zjf {x:Puzzle} {q:List Int} {d l:Int} {ls:List Int} {L:List (List Int)} {D:List Int} (h:nxt x q l ∉ L) (hl:L.length ≠ 3000):bLets x q d (l :: ls) (L,D) = bLets x q d ls (L ++ [nxt x q l],D ++ [d]):=by
 show (bMeet (L,D) d (nxt x q l)).bind _ = _
 unfold bMeet
 rw [if_neg h,if_neg hl];rfl
theorem Zcn {α:Type} {l:List α} {a z:α} {k:Nat} (h:k < l.length):(l ++ [a]).getD k z = l.getD k z:=by
 simp only [List.getD_eq_getElem?_getD,List.getElem?_append_left h]
theorem SrO.pend {B:Nat} {w w':World} {v1 v2 v3:Value} {L:List (List Int)} {D si:List Int} {fs:List (List Nat)} {f:List Nat} (h:SrO B w v1 v2 v3 L D si fs []) (ho:Only [] w w') (hB:B<=w.heap.size) (hF:Fresh w.heap.size w' f):SrO B w' v1 v2 v3 L D si fs f:=by
 have h':=h.keep ho
 refine ⟨h'.acc,h'.dep,h'.srt,?_⟩
 have h1:=Fresh.append h'.fr hF hB (fun b hb=>h.fr.lt b hb)
 have hp:((v1.ownBlock.toList ++ ((fs.flatten ++ []) ++ (v2.ownBlock.toList ++ v3.ownBlock.toList))) ++ f).Perm (v1.ownBlock.toList ++ ((fs.flatten ++ f) ++ (v2.ownBlock.toList ++ v3.ownBlock.toList))):=by
  have:=((List.perm_append_comm (l₁:=v2.ownBlock.toList ++ v3.ownBlock.toList) (l₂:=f)).append_left fs.flatten).append_left v1.ownBlock.toList
  simpa only [List.append_assoc,List.append_nil] using this
 exact ⟨hp.nodup h1.nd,fun b hb=>h1.ge b (hp.mem_iff.2 hb),h1.own.sub fun b hb=>hp.mem_iff.2 hb⟩
structure SFi (x:Puzzle) (m:Nat) (w W:World) (b:Nat) (L:List (List Int)) (D:List Int) (wr:World) (A1 A2 A3:Option Addr) (C1 C2 C3:Nat) (so:List Nat) (fs:List (List Nat)):Prop where
 blk:Blk wr b [.slice A1 L.length C1,.slice A2 D.length C2,.slice A3 so.length C3,.bool false]
 sro:SrO (w.heap.size + 2) wr (.slice A1 L.length C1) (.slice A2 D.length C2) (.slice A3 so.length C3) L D (soI so) fs []
 srt:Srt m L so
 dl:D.length = L.length
 ll:L.length<=3000
 pat:∀ q∈L,patB x.points m q = true
 dep:∀ d∈D,0<=d/\d<=D.length
 ap:∀ g∈(Value.slice A1 L.length C1).ownBlock.toList ++ ((Value.slice A2 D.length C2).ownBlock.toList ++ (Value.slice A3 so.length C3).ownBlock.toList),g < b\/W.heap.size<=g
 apf:∀ g∈fs.flatten,g < b\/W.heap.size<=g
 keep:∀ g,(g < w.heap.size + 2\/(b < g/\g < W.heap.size))->wr.heap[g]? = W.heap[g]?
 on:Only [] w wr
 sz:W.heap.size<=wr.heap.size
 bW:b < W.heap.size
 wb:w.heap.size + 2<=b
theorem SFi.only {x:Puzzle} {m:Nat} {w W:World} {b:Nat} {L:List (List Int)} {D:List Int} {wr wr':World} {A1 A2 A3:Option Addr} {C1 C2 C3:Nat} {so:List Nat} {fs:List (List Nat)} (h:SFi x m w W b L D wr A1 A2 A3 C1 C2 C3 so fs) (ho:Only [] wr wr'):SFi x m w W b L D wr' A1 A2 A3 C1 C2 C3 so fs:=
 ⟨h.blk.keep ho,h.sro.keep ho,h.srt,h.dl,h.ll,h.pat,h.dep,h.ap,h.apf,fun g hg=>by
  have hb:=h.bW;have hz:=h.sz;have hw:=h.wb
  rw [ho.block g (by omega) (by simp)];exact h.keep g hg,h.on.trans ho,Nat.le_trans h.sz ho.size,h.bW,h.wb⟩
theorem SFi.oldBlk {x:Puzzle} {m:Nat} {w W:World} {b:Nat} {L:List (List Int)} {D:List Int} {wr:World} {A1 A2 A3:Option Addr} {C1 C2 C3:Nat} {so:List Nat} {fs:List (List Nat)} (h:SFi x m w W b L D wr A1 A2 A3 C1 C2 C3 so fs) {g:Nat} {cs:List Value} (hB:Blk W g cs) (hg:g < w.heap.size + 2):Blk wr g cs:=by
 obtain ⟨t,ht⟩:=hB
 exact ⟨t,(h.keep g (.inl hg)).trans ht⟩
theorem SFi.step {x:Puzzle} {m:Nat} {w W:World} {b:Nat} {L:List (List Int)} {D:List Int} {wr w2 wf:World} {A1 A2 A3 A1' A2' A3':Option Addr} {C1 C2 C3 C1' C2' C3':Nat} {so so':List Nat} {fs:List (List Nat)} {f:List Nat} {s:List Int} {d:Int} {fpw:List Nat}
  (h:SFi x m w W b L D wr A1 A2 A3 C1 C2 C3 so fs) (hf:∀ g∈f,W.heap.size<=g) (hL:L.length < 3000) (hp:patB x.points m s = true) (hd:0<=d/\d<=D.length + 1)
  (h1:SrO (w.heap.size + 2) w2 (.slice A1' (L.length + 1) C1') (.slice A2' (D.length + 1) C2') (.slice A3' (so.length + 1) C3') (L ++ [s]) (D ++ [d]) (soI so') (fs ++ [f]) []) (h2:Srt m (L ++ [s]) so') (h3:so'.length = so.length + 1)
  (h4:Only ((Value.slice A1 L.length C1).ownBlock.toList ++ ((Value.slice A2 D.length C2).ownBlock.toList ++ (Value.slice A3 so.length C3).ownBlock.toList)) wr w2)
  (h5:∀ g∈(Value.slice A1' (L.length + 1) C1').ownBlock.toList ++ ((Value.slice A2' (D.length + 1) C2').ownBlock.toList ++ (Value.slice A3' (so.length + 1) C3').ownBlock.toList),g∈(Value.slice A1 L.length C1).ownBlock.toList ++ ((Value.slice A2 D.length C2).ownBlock.toList ++ (Value.slice A3 so.length C3).ownBlock.toList)\/wr.heap.size<=g)
  (h6:Only fpw w2 wf) (hfp:∀ g∈fpw,g = b) (h7:Blk wf b [.slice A1' (L.length + 1) C1',.slice A2' (D.length + 1) C2',.slice A3' (so.length + 1) C3',.bool false]) :
  SFi x m w W b (L ++ [s]) (D ++ [d]) wf A1' A2' A3' C1' C2' C3' so' (fs ++ [f]):=by
 have hb:=h.bW;have hz:=h.sz;have hw:=h.wb
 have hge:=h.sro.fr.ge
 have hap':∀ g∈(Value.slice A1' (L.length + 1) C1').ownBlock.toList ++ ((Value.slice A2' (D.length + 1) C2').ownBlock.toList ++ (Value.slice A3' (so.length + 1) C3').ownBlock.toList),g < b\/W.heap.size<=g:=fun g hg=>by
  rcases h5 g hg with h8 | h8
  ·exact h.ap g h8
  ·right;omega
 have hapf':∀ g∈(fs ++ [f]).flatten,g < b\/W.heap.size<=g:=fun g hg=>by
  rw [List.flatten_append] at hg
  rcases List.mem_append.1 hg with hg | hg
  ·exact h.apf g hg
  ·exact .inr (hf g (by simpa using hg))
 have hs2:=h4.size
 have hnin:∀ g∈(Value.slice A1 L.length C1).ownBlock.toList ++ ((Value.slice A2 D.length C2).ownBlock.toList ++ (Value.slice A3 so.length C3).ownBlock.toList),w.heap.size + 2<=g:=fun g hg=>hge g (by
  simp only [List.mem_append] at hg ⊢
  rcases hg with hg | hg | hg
  ·exact .inl hg
  ·exact .inr (.inr (.inl hg))
  ·exact .inr (.inr (.inr hg)))
 refine ⟨?_,?_,h2,by simp [h.dl],by simp;omega,?_,?_,?_,hapf',fun g hg=>?_,?_,?_,h.bW,h.wb⟩
 ·simpa [h3] using h7
 ·have:=h1.only h6 (fun g hg hm=>by
   have e:=hfp g hm
   simp only [List.mem_append,List.append_nil] at hg
   rcases hg with hg | hg | hg | hg
   ·have:=hap' g (by simp only [List.mem_append];exact .inl hg);omega
   ·have:=hapf' g hg;omega
   ·have:=hap' g (by simp only [List.mem_append];exact .inr (.inl hg));omega
   ·have:=hap' g (by simp only [List.mem_append];exact .inr (.inr hg));omega)
  simpa [h3] using this
 ·intro q hq
  rcases List.mem_append.1 hq with hq | hq
  ·exact h.pat q hq
  ·simp at hq;subst hq;exact hp
 ·intro q hq
  rw [List.length_append,List.length_singleton]
  rcases List.mem_append.1 hq with hq | hq
  ·have:=h.dep q hq;omega
  ·simp at hq;subst hq;omega
 ·rw [List.length_append,List.length_append,List.length_singleton,List.length_singleton,h3];exact hap'
 ·rw [h6.block g (by omega) (fun hm=>by have:=hfp g hm;omega),h4.block g (by omega) (fun hm=>by have:=hnin g hm;have:=h.ap g hm;omega)]
  exact h.keep g hg
 ·exact (h.on.then_ h4 (fun g hg hl=>by have:=hnin g hg;omega)).then_ h6 (fun g hg hl=>by have:=hfp g hg;omega)
 ·exact Nat.le_trans hz (Nat.le_trans hs2 h6.size)
theorem SFi.out {x:Puzzle} {m:Nat} {w W:World} {b:Nat} {L:List (List Int)} {D:List Int} {wr wf:World} {A1 A2 A3:Option Addr} {C1 C2 C3:Nat} {so:List Nat} {fs:List (List Nat)} {fpw:List Nat}
  (h:SFi x m w W b L D wr A1 A2 A3 C1 C2 C3 so fs) (ho:Only fpw wr wf) (hf:∀ g∈fpw,g = b\/g = w.heap.size + 1) (hm:m<=1000):∃ fL fD,Rd wf (.slice A1 L.length C1) L fL/\Rd wf (.slice A2 D.length C2) D fD/\Only [] w wf/\(∀ g∈fL ++ fD,w.heap.size<=g)/\L.length<=3000/\D.length<=3000/\∀ q∈L,q.length<=1000:=by
 have hb:=h.bW;have hw:=h.wb
 have hge:=h.sro.fr.ge
 have h1:=h.sro.only ho (fun g hg hm=>by
  have e:=hf g hm
  have e2:=hge g hg
  simp only [List.mem_append,List.append_nil] at hg
  rcases hg with hg | hg | hg | hg
  ·have:=h.ap g (by simp only [List.mem_append];exact .inl hg);omega
  ·have:=h.apf g hg;omega
  ·have:=h.ap g (by simp only [List.mem_append];exact .inr (.inl hg));omega
  ·have:=h.ap g (by simp only [List.mem_append];exact .inr (.inr hg));omega)
 have hD:∀ z∈D,I64 z:=fun z hz=>by have:=h.dep z hz;have:=h.dl;have:=h.ll;unfold I64;omega
 obtain ⟨a2,c2,hv2,-,hI2,-⟩:=Zbg h1.dep hD
 injection hv2 with e1 _ e2;subst e1;subst e2
 refine ⟨_,_,h1.acc.rd (by decide),hI2.rd,h.on.then_ ho (fun g hg hl=>by have:=hf g hg;omega),fun g hg=>?_,h.ll,by have:=h.dl;have:=h.ll;omega,fun q hq=>by rw [(Zba.1 (h.pat q hq)).1];exact hm⟩
 have:=hge g (by
  simp only [List.mem_append] at hg ⊢
  rcases hg with (hg | hg) | hg
  ·exact .inl hg
  ·exact .inr (.inl (.inl hg))
  ·exact .inr (.inr (.inl hg)))
 omega
theorem SFi.out2 {x:Puzzle} {m:Nat} {w W:World} {b:Nat} {L:List (List Int)} {D:List Int} {wr wf:World} {A1 A2 A3:Option Addr} {C1 C2 C3:Nat} {so:List Nat} {fs:List (List Nat)} {fpw:List Nat}
  (h:SFi x m w W b L D wr A1 A2 A3 C1 C2 C3 so fs) (ho:Only fpw wr wf) (hf:∀ g∈fpw,g = b\/g = w.heap.size + 1):∃ ob fps fd fz,SrR wf A1 A2 A3 C1 C2 C3 L D so ob fps fd fz/\∀ g∈(ob ++ fps.flatten) ++ (fd ++ fz),w.heap.size<=g:=by
 have hb:=h.bW;have hw:=h.wb
 have hge:=h.sro.fr.ge
 have h1:=h.sro.only ho (fun g hg hm=>by
  have e:=hf g hm
  have e2:=hge g hg
  simp only [List.mem_append,List.append_nil] at hg
  rcases hg with hg | hg | hg | hg
  ·have:=h.ap g (by simp only [List.mem_append];exact .inl hg);omega
  ·have:=h.apf g hg;omega
  ·have:=h.ap g (by simp only [List.mem_append];exact .inr (.inl hg));omega
  ·have:=h.ap g (by simp only [List.mem_append];exact .inr (.inr hg));omega)
 obtain ⟨ob,fps,fd,fz,q1,q2⟩:=h1.srR2 (fun z hz=>by have:=h.dep z hz;have:=h.dl;have:=h.ll;unfold I64;omega) (fun i hi=>by have:=h.srt.in_ i hi;have:=h.ll;omega)
 exact ⟨ob,fps,fd,fz,q1,fun g hg=>by have:=q2 g hg;omega⟩
theorem Zpl (B m:Nat) (v:Value) (s:List Int) (f:List Nat) (d:Int) (w:World) (hv:Rd w v s f) (hs:s.length = m) (hB:B<=w.heap.size) (hF:Fresh B w f) :
  Calls Tryz.prog 163 #[.agg #[.slice none 0 0,.slice none 0 0,.slice none 0 0,.bool false],v,.int .i64 d] w fun e w'=>∃ A1' A2' A3' C1' C2' C3' so',e = .returned (.agg #[.slice A1' 1 C1',.slice A2' 1 C2',.slice A3' 1 C3',.bool false]) /\
   SrO B w' (.slice A1' 1 C1') (.slice A2' 1 C2') (.slice A3' 1 C3') [s] [d] (soI so') [f] []/\Srt m [s] so'/\so'.length = 1/\Only [] w w':=by
 have h0:SrO B w (.slice none ([]:List (List Int)).length 0) (.slice none ([]:List Int).length 0) (.slice none ([]:List Nat).length 0) [] [] (soI []) [] f:=
  ⟨Acc.nil _ _ _,⟨by simp,.inl ⟨rfl,rfl⟩⟩,⟨by simp [soI],.inl ⟨rfl,rfl⟩⟩,by simpa [Value.ownBlock] using hF⟩
 refine (Zie B none none none 0 0 0 false [] [] [] [] m v s f d w h0 (Srt.nil m) hv hs (by simp) (by simp) rfl (by simp) hB).mono ?_
 rintro e w' ⟨A1',A2',A3',C1',C2',C3',so',rfl,h1,h2,h3,h4,-⟩
 exact ⟨A1',A2',A3',C1',C2',C3',so',rfl,h1,h2,h3,by simpa [Value.ownBlock] using h4⟩
set_option maxHeartbeats 8000000 in
theorem Zhb (cs:List Value) (x:Puzzle) (fp:List Nat) (v:Value) (tr:List Int) (ft:List Nat) (w:World) (h:Rp.rep w cs x fp) (hv:Rd w v tr ft) (hx:validPz x = true) (hp:patB x.points tr.length tr = true) (htl:tr.length<=1000) :
  Calls Tryz.prog 143 #[.agg cs.toArray,v] w fun e w'=>∃ A1 A2 A3 C1 C2 C3 n3 wh L D fL fD,e = .returned (.agg #[.slice A1 (List.length L) C1,.slice A2 (List.length D) C2,.slice A3 n3 C3,.bool wh]) /\
   Rd w' (.slice A1 L.length C1) L fL/\Rd w' (.slice A2 D.length C2) D fD/\(bFrom x 3001 0 ([tr],[0]) = if wh = true then some (L,D) else none)/\Only [] w w'/\(∀ g∈fL ++ fD,w.heap.size<=g)/\L.length<=3000/\D.length<=3000/\(∀ q∈L,q.length<=1000)/\∃ so ob fps fd fz,n3 = List.length so/\SrR w' A1 A2 A3 C1 C2 C3 L D so ob fps fd fz/\Srt tr.length L so/\∀ g∈(ob ++ fps.flatten) ++ (fd ++ fz),w.heap.size<=g:=by
 have h0:=h
 obtain ⟨v2,rfl,p0,p1,h2⟩:=h
 obtain ⟨A2,C2,_,_,rfl,-,-⟩:=h2.open_
 obtain ⟨a,cap,rfl,Iv⟩:=hv.ints
 have hxm:=(Zae hx).2.2.1
 clear Iv h2 p0 p1
 have Hp:=zH hp
 have Hx:=zH hx
 clear hp hx
 have X0:Blk ((w.alloc (.cells #[.int .i64 x.points,.string x.names,.slice A2 x.moves.length C2] 26)).alloc (.cells #[.slice none 0 0,.slice none 0 0,.slice none 0 0,.bool false] 95)) w.heap.size [.int .i64 x.points,.string x.names,.slice A2 x.moves.length C2]:=(Blk.new w [.int .i64 x.points,.string x.names,.slice A2 x.moves.length C2] 26).keep (zO.alloc _)
 have Y0:Blk ((w.alloc (.cells #[.int .i64 x.points,.string x.names,.slice A2 x.moves.length C2] 26)).alloc (.cells #[.slice none 0 0,.slice none 0 0,.slice none 0 0,.bool false] 95)) (w.heap.size + 1) [.slice none 0 0,.slice none 0 0,.slice none 0 0,.bool false]:=Blk.new_at (by simp)
 go_enter Tryz.func143,Tryz.ntmps143
 go_wp2_with (first
  | (go_at_call 77;(with_reducible refine (Zbd _ tr _ _ (zK hv zA) (by omega)).mono ?_);rintro e w1 ⟨v1,f1,rfl,r1,F1,t1⟩;obtain ⟨a1,c1,rfl,I1⟩:=r1.ints;clear I1;have F1':Fresh (w.heap.size + 2) w1 f1:=F1.mono (by simp);have z1:w.heap.size + 2<=w1.heap.size:=(by have:=t1.size;simp at this;omega))
  | (go_at_call 163;(with_reducible refine (Zpl (w.heap.size + 2) tr.length _ tr f1 0 _ (zK r1 zA) rfl z1 F1').mono ?_);rintro e w2 ⟨B1,B2,B3,D1,D2,D3,so1,rfl,S2,T2,l2,t2⟩;have XB:=(((X0.keep t1).keep t2).keep ((Only.refl [] w2).alloc (.cells #[.slice B1 1 D1,.slice B2 1 D2,.slice B3 1 D3,.bool false] 95)));obtain ⟨y0,y1,y2⟩:=XB.c3)
  | (go_at_call 117;(with_reducible refine (Zii [.int .i64 x.points,.string x.names,.slice A2 x.moves.length C2] x _ _ (zK h0 zA) (by omega)).mono ?_);rintro e w3 ⟨v3,f3,rfl,r3,F3,t3⟩;obtain ⟨a3,c3,rfl,I3⟩:=r3.ints)
  | fail)
 have K3:Only [] w w3:=zA
 have z2:=t2.size
 have z3:w2.heap.size + 1<=w3.heap.size:=by have:=t3.size;simp at this;omega
 have X3:=XB.keep t3
 have Y3:=(((Y0.keep t1).keep t2).keep ((Only.refl [] w2).alloc (.cells #[.slice B1 1 D1,.slice B2 1 D2,.slice B3 1 D3,.bool false] 95))).keep t3
 have hS:SFi x tr.length w w3 w2.heap.size [tr] [0] w3 B1 B2 B3 D1 D2 D3 so1 [f1]:=by
  refine ⟨?_,?_,T2,rfl,by simp,by simpa using Hp.out,by simp,fun g hg=>.inl ?_,fun g hg=>.inl ?_,fun _ _=>rfl,K3,Nat.le_refl _,by omega,by omega⟩
  ·have:=((Blk.new w2 [.slice B1 1 D1,.slice B2 1 D2,.slice B3 1 D3,.bool false] 95).keep t3)
   simpa [l2] using this
  ·have:=(S2.keep ((Only.refl [] w2).alloc (.cells #[.slice B1 1 D1,.slice B2 1 D2,.slice B3 1 D3,.bool false] 95))).keep t3
   simpa [l2] using this
  ·refine S2.fr.lt g ?_
   simp only [List.mem_append] at hg ⊢
   rw [l2] at hg
   rcases hg with hg | hg | hg
   ·exact .inl hg
   ·exact .inr (.inr (.inl hg))
   ·exact .inr (.inr (.inr hg))
  ·refine S2.fr.lt g ?_
   simp only [List.mem_append]
   exact .inr (.inl (.inl hg))
 have hf3:∀ g∈f3,w2.heap.size < g/\g < w3.heap.size:=fun g hg=>⟨by have:=F3.ge g hg;simp at this;omega,F3.lt g hg⟩
 clear F3
 clear S2 T2 l2 XB y0 y1 y2 X0 Y0 r1 F1 F1' t1 t2 t3 z1 z2 z3
 obtain ⟨b5,hb5⟩:∃ b5,b5 = w2.heap.size:=⟨_,rfl⟩
 rw [<- hb5] at hS hf3 ⊢
 clear hb5
 obtain ⟨R,hR⟩:∃ R,R = bFrom x 3001 0 ([tr],[0]):=⟨_,rfl⟩
 have HR:=zH hR
 have hll:(ltrs x.moves.length).length<=1000:=by rw [Zel];omega
 obtain ⟨ls,hls⟩:∃ ls,ls = ltrs x.moves.length:=⟨_,rfl⟩
 rw [<- hls] at r3 I3 hll
 rw [<- hls]
 have Hls:=zH hls
 clear hR hls
 go_loopw [7] (fun s7 wr=>∃ (k:Nat) (L:List (List Int)) (D:List Int),s7 = .int .i64 k/\k<=L.length/\(∃ A1 A2 A3 C1 C2 C3 so fs,SFi x tr.length w w3 b5 L D wr A1 A2 A3 C1 C2 C3 so fs)/\R = bFrom x (3001 - k) k (L,D))
  (fun s7 _=>3001 - (intOf s7).toNat)
 case atStart=>exact ⟨0,[tr],[0],rfl,by simp,⟨_,_,_,_,_,_,_,_,hS⟩,HR.out⟩
 case round=>
  obtain ⟨W2,hnew⟩:∃ W,W = wr:=⟨_,rfl⟩
  subst hnew
  obtain ⟨k,L,D,rfl,hk,⟨A1,A2',A3,C1,C2',C3,so,fs,hF⟩,hRk⟩:=hrel
  have HRk:=zH hRk
  have hL3:=hF.ll
  have y0:=hF.blk.cell 0 rfl
  clear hRk
  by_cases hlt:k < L.length
  ·have hst:=HRk.out.trans (Zhr hlt hL3)
   rw [<- Hls.out] at hst
   have Hst:=zH hst
   clear hst
   obtain ⟨q,hq⟩:∃ q,q = L.getD k []:=⟨_,rfl⟩
   obtain ⟨d1,hd1⟩:∃ d,d = D.getD k 0 + 1:=⟨_,rfl⟩
   rw [<- hq,<- hd1] at Hst
   have Hq:=zH hq.symm
   have Hd:=zH hd1.symm
   clear hq hd1
   go_wp2
   go_loopw [8] (fun s8 wr=>∃ (i:Nat) (L:List (List Int)) (D:List Int),s8 = .int .i64 i/\i<=ls.length/\(∃ A1 A2 A3 C1 C2 C3 so fs,SFi x tr.length w w3 b5 L D wr A1 A2 A3 C1 C2 C3 so fs)/\k < L.length/\L.getD k [] = q/\D.getD k 0 + 1 = d1/\R = (bLets x q d1 (ls.drop i) (L,D)).bind (bFrom x (3001 - (k + 1)) (k + 1)))
    (fun s8 _=>ls.length - (intOf s8).toNat)
   case atStart=>exact ⟨0,L,D,rfl,Nat.zero_le _,⟨_,_,_,_,_,_,_,_,hF⟩,hlt,Hq.out,Hd.out,by rw [List.drop_zero];exact Hst.out⟩
   case round=>
    clear y0 hL3 hF HRk Hst Hq Hd hlt hk
    obtain ⟨W3,hnew⟩:∃ W,W = wr:=⟨_,rfl⟩
    subst hnew
    obtain ⟨i,L,D,rfl,hi,⟨A1,A2',A3,C1,C2',C3,so,fs,hF⟩,hlt,hq,hd,hRi⟩:=hrel
    have Hq:=zH hq
    have Hd:=zH hd
    have HRi:=zH hRi
    have hL3:=hF.ll
    have hDl:=hF.dl
    have HDl:=zH hDl
    clear hq hd hRi hDl
    have hXx:=hF.oldBlk X3 (by omega)
    obtain ⟨x0,x1,x2⟩:=hXx.c3
    have y0:=hF.blk.cell 0 rfl
    have K:=hF.on
    have IL:=I3.frame (fun g hg=>hF.keep g (.inr (hf3 g hg)))
    by_cases hil:i < ls.length
    ·obtain ⟨b3,off3,rfl,-,hc3⟩:=IL.at_ i hil
     have hla:ls[i]∈ltrs x.moves.length:=by rw [<- Hls.out];exact List.getElem_mem hil
     have hacc:=(hF.sro.acc.rd (by decide)).open_
     obtain ⟨a1',c1',ob,fps,hv1,-,hS1⟩:=hacc
     injection hv1 with e1 _ e2
     subst e1
     subst e2
     obtain ⟨b1,off1,u,rfl,-,hc1,hu⟩:=hS1.atRow k hlt
     have hqk:L[k] = q:=by have:=Hq.out;rw [List.getD_eq_getElem?_getD,List.getElem?_eq_getElem hlt] at this;exact this
     have hpat:=hF.pat L[k] (List.getElem_mem hlt)
     rw [hqk] at hu hpat
     have Hpat:=zH hpat
     have Hla:=zH hla
     have hql:q.length<=1000:=by rw [(Zba.1 hpat).1];exact htl
     have Hrng:=zH (Zba.1 hpat).2.1
     clear hqk hpat hla
     have Hc:=zH (fun (W:World) (hh:Only [] W3 W)=>Zgf [.int .i64 x.points,.string x.names,.slice A2 x.moves.length C2] x _ _ q _ ls[i] W (zK h0 (K.trans hh)) (zK hu hh) Hx.out Hla.out Hrng.out hql)
     go_wp2
     go_region_held3 (fun w'=>Only [] W3 w'/\w'.cell? ⟨w.heap.size,0,none⟩ = some (.int .i64 x.points)/\w'.cell? ⟨w.heap.size,1,none⟩ = some (.string x.names)/\w'.cell? ⟨w.heap.size,2,none⟩ = some (.slice A2 x.moves.length C2)/\w'.cell? ⟨b5,0,none⟩ = some (.slice (some ⟨b1,off1,none⟩) L.length C1)/\w'.cell? ⟨b1,off1 + k,none⟩ = some (u)/\w'.cell? ⟨b3,off3 + i,none⟩ = some (.int .i64 ls[i])) (((refine and_of ?_ (fun q_=>⟨q_.ce x0,q_.ce x1,q_.ce x2,q_.ce y0,q_.ce hc1,q_.ce hc3⟩));first | exact zO.drew | exact (zO.drewN _).drew | exact Only.trans (And.left (by assumption)) (by assumption) | exact Only.alloc (And.left (by assumption)) _ | assumption)) (first | (go_at_call 118;(with_reducible refine (Hc.out _ (And.left (by assumption))).mono ?_);rintro e w4 ⟨u4,f4,rfl,r4,F4,t4⟩;have F4':=F4.mono (((Only.refl [] W3).trans (And.left (by assumption))).size)) | fail)
     have k4:Only [] W3 w4:=(Only.refl [] W3).trans (And.left (by assumption))
     obtain ⟨s,hs⟩:∃ s,s = nxt x q ls[i]:=⟨_,rfl⟩
     rw [<- hs] at r4
     have hps:patB x.points tr.length s = true:=by rw [hs];exact nxt_pat Hx.out Hpat.out Hla.out
     have hsl:s.length = tr.length:=(Zba.1 hps).1
     have hdr:ls.drop i = ls[i] :: ls.drop (i + 1):=List.drop_eq_getElem_cons hil
     have HRi2:=zH hdr
     have Hs:=zH hs
     have Hps:=zH hps
     have Hsl:=zH hsl
     have hF4:=hF.only k4
     obtain ⟨ob4,fps4,fd4,fz4,hR4⟩:=hF4.sro.srR (fun z hz=>by have:=hF4.dep z hz;have:=HDl.out;unfold I64;omega) (fun j hj=>by have:=hF4.srt.in_ j hj;omega)
     have q0:=hF4.blk.cell 0 rfl
     have q1:=hF4.blk.cell 1 rfl
     have q2:=hF4.blk.cell 2 rfl
     have q3:=hF4.blk.cell 3 rfl
     have hS4:=zH hF4.srt
     clear hs hps hsl hdr x0 x1 x2 y0 hc1 hc3 hu hS1 Hc
     by_cases hmem:s∈L
     ·have Hmem:=zH hmem
      clear hmem
      go_wp2_with (first
       | (go_at_call 144;(with_reducible refine (Zeb (some ⟨b1,off1,none⟩) A2' A3 C1 C2' C3 false L D so ob4 fps4 fd4 fz4 tr.length _ s f4 _ (hR4.keep zA) hS4.out (zK r4 zA) Hsl.out hL3).mono ?_);rintro e w5 ⟨r,rfl,hr,t5⟩;have hr2:=hr.2 Hmem.out;clear hr)
       | fail)
      go_roundw
      case rel=>exact ⟨i + 1,L,D,by go_num,by omega,⟨_,_,_,_,_,_,_,_,hF4.only t5⟩,hlt,Hq.out,Hd.out,by rw [HRi.out,HRi2.out,Zjc (by rw [<- Hs.out];exact Hmem.out)]⟩
      case measure=>simp [intOf];omega
     ·have Hmem:=zH hmem
      clear hmem
      by_cases hfull:L.length = 3000
      ·have Hfull:=zH hfull
       have hfb:((L.length:Int) == 3000) = true:=by simp [hfull]
       clear hfull
       go_wp2_with (first
        | (go_at_call 144;(with_reducible refine (Zeb (some ⟨b1,off1,none⟩) A2' A3 C1 C2' C3 false L D so ob4 fps4 fd4 fz4 tr.length _ s f4 _ (hR4.keep zA) hS4.out (zK r4 zA) Hsl.out hL3).mono ?_);rintro e w5 ⟨r,rfl,hr,t5⟩;have hr2:¬ 0<=r:=(fun hh=>Hmem.out (hr.1 hh));clear hr;have hF5:=hF4.only t5;clear q0 q1 q2 q3;have q0:=hF5.blk.cell 0 rfl;have q1:=hF5.blk.cell 1 rfl;have q2:=hF5.blk.cell 2 rfl;have q3:=hF5.blk.cell 3 rfl;have hY5:=hF5.oldBlk Y3 (by omega);obtain ⟨g0,g1,g2,g3⟩:=hY5.c4;obtain ⟨p0,p1,p2,p3⟩:=hY5.f4)
        | fail)
       have Yf:=((((hY5).set 0 (.slice (some ⟨b1,off1,none⟩) L.length C1)).set 1 (.slice A2' D.length C2')).set 2 (.slice A3 so.length C3)).set 3 (.bool false)
       have kf:Only [w.heap.size + 1] w5 ((((w5.setCell ⟨w.heap.size + 1,0,none⟩ (.slice (some ⟨b1,off1,none⟩) L.length C1)).setCell ⟨w.heap.size + 1,1,none⟩ (.slice A2' D.length C2')).setCell ⟨w.heap.size + 1,2,none⟩ (.slice A3 so.length C3)).setCell ⟨w.heap.size + 1,3,none⟩ (.bool false)):=(((zO.setCell (by simp) _).setCell (by simp) _).setCell (by simp) _).setCell (by simp) _
       have o9:=hF5.srt
       obtain ⟨fL,fD,o1,o2,o3,o4,o5,o6⟩:=hF5.out kf (by simp) htl
       obtain ⟨ob9,fps9,fd9,fz9,o8,o10⟩:=hF5.out2 kf (by simp)
       obtain ⟨wf,hwf⟩:∃ wf,wf = ((((w5.setCell ⟨w.heap.size + 1,0,none⟩ (.slice (some ⟨b1,off1,none⟩) L.length C1)).setCell ⟨w.heap.size + 1,1,none⟩ (.slice A2' D.length C2')).setCell ⟨w.heap.size + 1,2,none⟩ (.slice A3 so.length C3)).setCell ⟨w.heap.size + 1,3,none⟩ (.bool false)):=⟨_,rfl⟩
       rw [<- hwf] at Yf o1 o2 o3 o8 ⊢
       simp only [List.set] at Yf
       clear hwf kf q0 q1 q2 q3 g0 g1 g2 g3 p0 p1 p2 p3
       obtain ⟨r0,r1,r2,r3⟩:=Yf.c4
       refine bodyPost_ret (v:=.agg #[.slice (some ⟨b1,off1,none⟩) L.length C1,.slice A2' D.length C2',.slice A3 so.length C3,.bool false]) (by simp [results,Tryz.results143,go_sem,r0,r1,r2,r3]) rfl ⟨_,_,_,_,_,_,_,false,L,D,fL,fD,rfl,o1,o2,?_,o3,o4,o5,o6.1,o6.2,so,ob9,fps9,fd9,fz9,rfl,o8,o9,o10⟩
       rw [<- HR.out,HRi.out,HRi2.out,Zhx (by rw [<- Hs.out];exact Hmem.out) Hfull.out]
       rfl
      ·have hfb:((L.length:Int) == 3000) = false:=by simp;omega
       have hL4:L.length < 3000:=by omega
       clear hfull
       obtain ⟨b2,off2,rfl,-,hcd⟩:=hR4.dp.at_ k (by have:=HDl.out;omega)
       have hdk:=hF4.dep (D[k]'(by have:=HDl.out;omega)) (List.getElem_mem _)
       obtain ⟨dk,hdk0⟩:∃ dk,dk = D[k]'(by have:=HDl.out;omega):=⟨_,rfl⟩
       rw [<- hdk0] at hcd hdk
       have hdd:dk + 1 = d1:=by
        have:=Hd.out
        rw [List.getD_eq_getElem?_getD,List.getElem?_eq_getElem (show k < D.length by have:=HDl.out;omega)] at this
        rw [hdk0];exact this
       have Hdd:=zH hdd
       have hdk1:0<=dk:=hdk.1
       have hdk2:dk<=3000:=by have:=hdk.2;have:=HDl.out;omega
       have hdk3:=hdk.2
       have Hdk3:=zH hdk3
       have hkD:k < D.length:=by have:=HDl.out;omega
       have hw1:IntKind.i64.wrap (dk + 1) = dk + 1:=by rw [IntKind.wrap_i64];omega
       clear hdk hdk0 hdd hdk3
       go_wp2_with (first
        | (go_at_call 144;(with_reducible refine (Zeb (some ⟨b1,off1,none⟩) (some ⟨b2,off2,none⟩) A3 C1 C2' C3 false L D so ob4 fps4 fd4 fz4 tr.length _ s f4 _ (hR4.keep zA) hS4.out (zK r4 zA) Hsl.out hL3).mono ?_);rintro e w5 ⟨r,rfl,hr,t5⟩;have hr2:¬ 0<=r:=(fun hh=>Hmem.out (hr.1 hh));clear hr;have hF5:=hF4.only t5;clear q0 q1 q2 q3;have q0:=hF5.blk.cell 0 rfl;have q1:=hF5.blk.cell 1 rfl;have q2:=hF5.blk.cell 2 rfl;have q3:=hF5.blk.cell 3 rfl;have hcd5:=t5.cell (by simp) hcd)
        | fail)
       have hb5s:=hF5.sz
       have hBW:w.heap.size + 2<=W3.heap.size:=by have:=hF.sz;have:=hF.bW;have:=hF.wb;omega
       have hDI:∀ z∈D,I64 z:=fun z hz=>by have:=hF5.dep z hz;have:=HDl.out;unfold I64;omega
       have Hc6:=zH (fun (W:World) (hh:Only [] w5 W)=>Zie (w.heap.size + 2) (some ⟨b1,off1,none⟩) (some ⟨b2,off2,none⟩) A3 C1 C2' C3 false L D so fs tr.length u4 s f4 (dk + 1) W (hF.sro.pend ((k4.trans t5).trans hh) hBW (F4'.keep (t5.trans hh))) hS4.out (zK r4 (t5.trans hh)) Hsl.out Hmem.out hL4 HDl.out hDI (Nat.le_trans hBW ((k4.trans t5).trans hh).size))
       clear hDI
       go_region_law (first
        | (go_simp;go_at_call 163;(with_reducible refine (Hc6.out _ zA).mono ?_);rintro e w6 ⟨A1n,A2n,A3n,C1n,C2n,C3n,son,rfl,S6,T6,l6,t6,v6⟩;have B6:=(hF5.only zA).blk.only t6 (fun hm=>by have:=hF5.ap b5 hm;have:=hF5.bW;omega);obtain ⟨g0,g1,g2,g3⟩:=B6.c4;obtain ⟨p0,p1,p2,p3⟩:=B6.f4;rw [Hdd.out] at S6)
        | fail)
       all_goals go_wp2_with fail
       all_goals go_roundw
       all_goals first
        | (simp [intOf];omega)
        | exact ⟨i + 1,L ++ [s],D ++ [d1],by go_num,by omega,⟨_,_,_,_,_,_,_,_,SFi.step (hF5.only zA) (fun g hg=>by have:=F4'.ge g hg;have:=hF.sz;omega) hL4 Hps.out (by have:=Hdd.out;have:=Hdk3.out;omega) S6 T6 l6 t6 v6 (fpw:=[b5]) (by with_reducible repeat (first | exact Only.refl _ _ | refine Only.drew ?_ | refine Only.setCell ?_ (by simp) _)) (by simp) ((((B6.set 0 _).set 1 _).set 2 _).set 3 _)⟩,by simp;omega,by rw [Zcn hlt];exact Hq.out,by rw [Zcn hkD];exact Hd.out,by rw [HRi.out,HRi2.out,Zjf (by rw [<- Hs.out];exact Hmem.out) (by omega),<- Hs.out]⟩
    ·obtain rfl:i = ls.length:=by omega
     go_wp2
     exact ⟨⟨k + 1,L,D,by go_num,by omega,⟨_,_,_,_,_,_,_,_,hF⟩,by rw [HRi.out,List.drop_length];rfl⟩,by simp [intOf];omega⟩
  ·obtain rfl:k = L.length:=by omega
   have hY5:=hF.oldBlk Y3 (by omega)
   have hb5:=hF.wb
   have q3:=hF.blk.cell 3 rfl
   have z3:=hF.blk.frozen 3
   have hB6:=hF.blk.set 3 (.bool true)
   have hY6:=hY5.only ((Only.refl [b5] W2).setCell (p:=⟨b5,3,none⟩) (by simp) (.bool true)) (by simp;omega)
   obtain ⟨q0,q1,q2,q4⟩:=hB6.c4
   obtain ⟨g0,g1,g2,g3⟩:=hY6.c4
   obtain ⟨p0,p1,p2,p3⟩:=hY6.f4
   go_wp2
   have Yf:=((((hY6).set 0 (.slice A1 L.length C1)).set 1 (.slice A2' D.length C2')).set 2 (.slice A3 so.length C3)).set 3 (.bool true)
   have kf:Only [b5,w.heap.size + 1] W2 (((((W2.setCell ⟨b5,3,none⟩ (.bool true)).setCell ⟨w.heap.size + 1,0,none⟩ (.slice A1 L.length C1)).setCell ⟨w.heap.size + 1,1,none⟩ (.slice A2' D.length C2')).setCell ⟨w.heap.size + 1,2,none⟩ (.slice A3 so.length C3)).setCell ⟨w.heap.size + 1,3,none⟩ (.bool true)):=((((((Only.refl [b5,w.heap.size + 1] W2).setCell (by simp) _)).setCell (by simp) _).setCell (by simp) _).setCell (by simp) _).setCell (by simp) _
   have o9:=hF.srt
   obtain ⟨fL,fD,o1,o2,o3,o4,o5,o6⟩:=hF.out kf (by simp) htl
   obtain ⟨ob9,fps9,fd9,fz9,o8,o10⟩:=hF.out2 kf (by simp)
   obtain ⟨wf,hwf⟩:∃ wf,wf = (((((W2.setCell ⟨b5,3,none⟩ (.bool true)).setCell ⟨w.heap.size + 1,0,none⟩ (.slice A1 L.length C1)).setCell ⟨w.heap.size + 1,1,none⟩ (.slice A2' D.length C2')).setCell ⟨w.heap.size + 1,2,none⟩ (.slice A3 so.length C3)).setCell ⟨w.heap.size + 1,3,none⟩ (.bool true)):=⟨_,rfl⟩
   rw [<- hwf] at Yf o1 o2 o3 o8 ⊢
   simp only [List.set] at Yf
   clear hwf kf hB6 hY6 q4 z3 q0 q1 q2 q3 g0 g1 g2 g3 p0 p1 p2 p3
   obtain ⟨r0,r1,r2,r3⟩:=Yf.c4
   refine bodyPost_ret (v:=.agg #[.slice A1 L.length C1,.slice A2' D.length C2',.slice A3 so.length C3,.bool true]) (by simp [results,Tryz.results143,go_sem,r0,r1,r2,r3]) rfl ⟨_,_,_,_,_,_,_,true,L,D,fL,fD,rfl,o1,o2,?_,o3,o4,o5,o6.1,o6.2,so,ob9,fps9,fd9,fz9,rfl,o8,o9,o10⟩
   rw [<- HR.out,HRk.out,Zja hlt hL3]
   rfl
theorem Zmq (cs:List Value) (x:Puzzle) (fp:List Nat) (v:Value) (tr:List Int) (ft:List Nat) (w:World) (h:Rp.rep w cs x fp) (hv:Rd w v tr ft) (hx:validPz x = true) (hp:patB x.points tr.length tr = true) (htl:tr.length<=1000) :
  Calls Tryz.prog 143 #[.agg cs.toArray,v] w fun e w'=>∃ A1 A2 A3 C1 C2 C3 n3 wh L D fL fD,e = .returned (.agg #[.slice A1 (List.length L) C1,.slice A2 (List.length D) C2,.slice A3 n3 C3,.bool wh]) /\
   Rd w' (.slice A1 L.length C1) L fL/\Rd w' (.slice A2 D.length C2) D fD/\(bFrom x 3001 0 ([tr],[0]) = if wh = true then some (L,D) else none)/\Only [] w w'/\(∀ g∈fL ++ fD,w.heap.size<=g)/\L.length<=3000/\D.length<=3000/\∀ q∈L,q.length<=1000:=by
 refine (Zhb cs x fp v tr ft w h hv hx hp htl).mono ?_
 rintro e w' ⟨A1,A2,A3,C1,C2,C3,n3,wh,L,D,fL,fD,e1,o1,o2,o3,o4,o5,o6,o7,o8,-⟩
 exact ⟨A1,A2,A3,C1,C2,C3,n3,wh,L,D,fL,fD,e1,o1,o2,o3,o4,o5,o6,o7,o8⟩
def bTab (x:Puzzle) (tr:List Int):Option Table:=(bfs16 x tr).map fun s=>⟨tr,s.1,s.2⟩
theorem Zhj {x:Puzzle} {tr:List Int} (h:(validPz x && trackB x.points tr) = false):bfs16 x tr = none:=by unfold bfs16;rw [h];rfl
theorem Zdg {x:Puzzle} {tr:List Int} (h:(validPz x && trackB x.points tr) = true):bfs16 x tr = bFrom x 3001 0 ([tr],[0]):=by unfold bfs16;rw [if_pos h]
set_option maxHeartbeats 4000000 in
theorem Zfa (cs:List Value) (x:Puzzle) (fp:List Nat) (v:Value) (tr:List Int) (ft:List Nat) (w:World) (h:Rp.rep w cs x fp) (hv:Rd w v tr ft) :
  Calls Tryz.prog 116 #[.agg cs.toArray,v] w fun e w'=>∃ A1 A2 A3 C1 C2 C3 n3 wh L D fL fD,e = .returned (.tuple #[.agg #[.slice A1 (List.length L) C1,.slice A2 (List.length D) C2,.slice A3 n3 C3,.bool wh],.bool wh]) /\
   Rd w' (.slice A1 L.length C1) L fL/\Rd w' (.slice A2 D.length C2) D fD/\(bfs16 x tr = if wh = true then some (L,D) else none)/\Only [] w w'/\(∀ g∈fL ++ fD,w.heap.size<=g)/\L.length<=3000/\D.length<=3000/\∀ q∈L,q.length<=1000:=by
 have h0:=h
 obtain ⟨v2,rfl,p0,p1,h2⟩:=h
 obtain ⟨A2,C2,_,_,rfl,-,-⟩:=h2.open_
 obtain ⟨a,cap,rfl,Iv⟩:=hv.ints
 clear Iv h2 p0 p1
 have X0:Blk ((w.alloc (.cells #[.int .i64 x.points,.string x.names,.slice A2 x.moves.length C2] 26)).alloc (.cells #[.slice none 0 0,.slice none 0 0,.slice none 0 0,.bool false] 95)) w.heap.size [.int .i64 x.points,.string x.names,.slice A2 x.moves.length C2]:=(Blk.new w [.int .i64 x.points,.string x.names,.slice A2 x.moves.length C2] 26).keep (zO.alloc _)
 have Y0:Blk ((w.alloc (.cells #[.int .i64 x.points,.string x.names,.slice A2 x.moves.length C2] 26)).alloc (.cells #[.slice none 0 0,.slice none 0 0,.slice none 0 0,.bool false] 95)) (w.heap.size + 1) [.slice none 0 0,.slice none 0 0,.slice none 0 0,.bool false]:=Blk.new_at (by simp)
 rcases hq:validPz x && trackB x.points tr
 ·have Hn:=zH (Zhj hq)
  have Hq:=zH hq
  clear hq
  go_enter Tryz.func116,Tryz.ntmps116
  go_wp2_with (first
   | (go_at_call 150;(with_reducible refine (Zeh [.int .i64 x.points,.string x.names,.slice A2 x.moves.length C2] x _ _ tr _ _ (zK h0 zA) (zK hv zA)).mono ?_);rintro e w1 ⟨he,t1⟩;rw [Hq.out] at he;subst he;have Y1:=Y0.keep t1;obtain ⟨g0,g1,g2,g3⟩:=Y1.c4;obtain ⟨p0,p1,p2,p3⟩:=Y1.f4)
   | fail)
  have K1:Only [] w w1:=zA
  have Yf:=(((Y1.set 0 (.slice none 0 0)).set 1 (.slice none 0 0)).set 2 (.slice none 0 0)).set 3 (.bool false)
  have kf:Only [] w ((((w1.setCell ⟨w.heap.size + 1,0,none⟩ (.slice none 0 0)).setCell ⟨w.heap.size + 1,1,none⟩ (.slice none 0 0)).setCell ⟨w.heap.size + 1,2,none⟩ (.slice none 0 0)).setCell ⟨w.heap.size + 1,3,none⟩ (.bool false)):=K1.then_ (((((Only.refl [w.heap.size + 1] w1).setCell (by simp) _).setCell (by simp) _).setCell (by simp) _).setCell (by simp) _) (by simp)
  obtain ⟨wf,hwf⟩:∃ wf,wf = ((((w1.setCell ⟨w.heap.size + 1,0,none⟩ (.slice none 0 0)).setCell ⟨w.heap.size + 1,1,none⟩ (.slice none 0 0)).setCell ⟨w.heap.size + 1,2,none⟩ (.slice none 0 0)).setCell ⟨w.heap.size + 1,3,none⟩ (.bool false)):=⟨_,rfl⟩
  rw [<- hwf] at Yf kf ⊢
  simp only [List.set] at Yf
  clear hwf g0 g1 g2 g3 p0 p1 p2 p3
  obtain ⟨r0,r1,r2,r3⟩:=Yf.c4
  refine bodyPost_ret (v:=.tuple #[.agg #[.slice none 0 0,.slice none 0 0,.slice none 0 0,.bool false],.bool false]) (by simp [results,Tryz.results116,go_sem,r0,r1,r2,r3]) rfl ⟨none,none,none,0,0,0,0,false,[],[],[],[],rfl,nil_rd _,nil_rd _,?_,kf,by simp,by simp,by simp,by simp⟩
  rw [Hn.out];rfl
 ·have Hn:=zH (Zdg hq)
  obtain ⟨q1,q2⟩:=(Bool.and_eq_true _ _).mp hq
  have Hq:=zH hq
  have Hv:=zH q1
  have Hp:=zH (Zea q2)
  have htl:tr.length<=1000:=by
   have h3:=(Zbi.1 q2).2.len
   have:=(Zae q1).2.1
   omega
  clear hq q1 q2
  go_enter Tryz.func116,Tryz.ntmps116
  go_wp2_with (first
   | (go_at_call 150;(with_reducible refine (Zeh [.int .i64 x.points,.string x.names,.slice A2 x.moves.length C2] x _ _ tr _ _ (zK h0 zA) (zK hv zA)).mono ?_);rintro e w1 ⟨he,t1⟩;rw [Hq.out] at he;subst he;have X1:=X0.keep t1;obtain ⟨g0,g1,g2⟩:=X1.c3)
   | (go_at_call 143;(with_reducible refine (Zmq [.int .i64 x.points,.string x.names,.slice A2 x.moves.length C2] x _ _ tr _ _ (zK h0 zA) (zK hv zA) Hv.out Hp.out htl).mono ?_);rintro e w2 ⟨B1,B2,B3,D1,D2,D3,n3,wh,L,D,fL,fD,rfl,o1,o2,o3,t2,o4,o5⟩;have O3:=zH o3;clear o3)
   | fail)
  have K2:Only [] w w2:=zA
  have Y1:=(((Y0.keep t1).keep t2).keep ((Only.refl [] w2).alloc (.cells #[.slice B1 L.length D1,.slice B2 D.length D2,.slice B3 n3 D3,.bool wh] 95)))
  have B4:=Blk.new w2 [.slice B1 L.length D1,.slice B2 D.length D2,.slice B3 n3 D3,.bool wh] 95
  have hsz:w.heap.size + 2<=w2.heap.size:=by have h5:=t1.size;have h6:=t2.size;simp at h5;omega
  have h1s:w.heap.size + 2<=w1.heap.size:=by have h5:=t1.size;simp at h5;omega
  have o1':=zK o1 ((Only.refl [] w2).alloc (.cells #[.slice B1 L.length D1,.slice B2 D.length D2,.slice B3 n3 D3,.bool wh] 95))
  have o2':=zK o2 ((Only.refl [] w2).alloc (.cells #[.slice B1 L.length D1,.slice B2 D.length D2,.slice B3 n3 D3,.bool wh] 95))
  have K3:=K2.alloc (.cells #[.slice B1 L.length D1,.slice B2 D.length D2,.slice B3 n3 D3,.bool wh] 95)
  obtain ⟨b,hb⟩:∃ b,b = w2.heap.size:=⟨_,rfl⟩
  obtain ⟨w3,hw3⟩:∃ w3,w3 = w2.alloc (.cells #[.slice B1 L.length D1,.slice B2 D.length D2,.slice B3 n3 D3,.bool wh] 95):=⟨_,rfl⟩
  rw [<- hb] at B4 hsz ⊢
  rw [<- hw3] at Y1 B4 o1' o2' K3 ⊢
  clear hb hw3 g0 g1 g2 X1 X0 Y0 t1 t2 o1 o2 K2
  have hne:b ≠ w.heap.size + 1:=by omega
  obtain ⟨c0,c1,c2,c3⟩:=B4.c4
  obtain ⟨g0,g1,g2,g3⟩:=Y1.c4
  obtain ⟨p0,p1,p2,p3⟩:=Y1.f4
  have Yf:=(((Y1.set 0 (.slice B1 L.length D1)).set 1 (.slice B2 D.length D2)).set 2 (.slice B3 n3 D3)).set 3 (.bool wh)
  simp only [List.set] at Yf
  obtain ⟨r0,r1,r2,r3⟩:=Yf.c4
  have hno1:∀ g∈fL,g ∉ [w.heap.size + 1]:=fun g hg hm=>by have:=o4 g (by simp [hg]);simp at hm;omega
  have hno2:∀ g∈fD,g ∉ [w.heap.size + 1]:=fun g hg hm=>by have:=o4 g (by simp [hg]);simp at hm;omega
  have hno3:∀ g∈fL ++ fD,w.heap.size<=g:=fun g hg=>by have:=o4 g hg;omega
  go_region
  all_goals go_wp2
  all_goals refine bodyPost_ret (v:=.tuple #[.agg #[.slice B1 L.length D1,.slice B2 D.length D2,.slice B3 n3 D3,.bool wh],.bool wh]) (by simp [results,Tryz.results116,go_sem,r0,r1,r2,r3]) rfl ⟨B1,B2,B3,D1,D2,D3,n3,wh,L,D,fL,fD,rfl,Rp.only o1' (fp':=[w.heap.size + 1]) (by with_reducible repeat (first | exact Only.refl _ _ | refine Only.drew ?_ | refine Only.setCell ?_ (by simp) _)) hno1,Rp.only o2' (fp':=[w.heap.size + 1]) (by with_reducible repeat (first | exact Only.refl _ _ | refine Only.drew ?_ | refine Only.setCell ?_ (by simp) _)) hno2,by rw [Hn.out];exact O3.out,K3.then_ (fp':=[w.heap.size + 1]) (by with_reducible repeat (first | exact Only.refl _ _ | refine Only.drew ?_ | refine Only.setCell ?_ (by simp) _)) (by simp),hno3,o5⟩
def noTab:Table:=⟨[],[],[]⟩
theorem wh_no {x:Puzzle} {tr:List Int} {wh:Bool} {L:List (List Int)} {D:List Int} (h:bfs16 x tr = if wh = true then some (L,D) else none) (hb:bfs16 x tr = none):wh = false:=by
 cases wh
 ·rfl
 ·rw [hb] at h;simp at h
theorem wh_yes {x:Puzzle} {tr:List Int} {wh:Bool} {L:List (List Int)} {D:List Int} {s:Met16} (h:bfs16 x tr = if wh = true then some (L,D) else none) (hb:bfs16 x tr = some s):wh = true/\s = (L,D):=by
 cases wh
 ·rw [hb] at h;simp at h
 ·rw [hb] at h;simp at h;exact ⟨rfl,h⟩
set_option maxHeartbeats 4000000 in
theorem Zbs (cs:List Value) (x:Puzzle) (fp:List Nat) (v:Value) (tr:List Int) (ft:List Nat) (w:World) (h:Rp.rep w cs x fp) (hv:Rd w v tr ft) (htl:tr.length<=2097152) :
  Calls Tryz.prog 72 #[.agg cs.toArray,v] w fun e w'=>∃ cs' fp',e = .returned (.tuple #[.agg (List.toArray cs'),.bool (bTab x tr).isSome])/\Rp.rep w' cs' ((bTab x tr).getD noTab) fp'/\Fresh w.heap.size w' fp'/\Only [] w w':=by
 have h0:=h
 obtain ⟨v2,rfl,p0,p1,h2⟩:=h
 obtain ⟨A2,C2,_,_,rfl,-,-⟩:=h2.open_
 obtain ⟨a,cap,rfl,Iv⟩:=hv.ints
 clear Iv h2 p0 p1
 have X0:Blk ((w.alloc (.cells #[.int .i64 x.points,.string x.names,.slice A2 x.moves.length C2] 26)).alloc (.cells #[.slice none 0 0,.slice none 0 0,.slice none 0 0] 105)) w.heap.size [.int .i64 x.points,.string x.names,.slice A2 x.moves.length C2]:=(Blk.new w [.int .i64 x.points,.string x.names,.slice A2 x.moves.length C2] 26).keep (zO.alloc _)
 have Y0:Blk ((w.alloc (.cells #[.int .i64 x.points,.string x.names,.slice A2 x.moves.length C2] 26)).alloc (.cells #[.slice none 0 0,.slice none 0 0,.slice none 0 0] 105)) (w.heap.size + 1) [.slice none 0 0,.slice none 0 0,.slice none 0 0]:=Blk.new_at (by simp)
 rcases hq:bfs16 x tr with _ | s
 ·have Hq:=zH hq
  have hb:bTab x tr = none:=by unfold bTab;rw [hq];rfl
  have Hb:=zH hb
  clear hq hb
  go_enter Tryz.func72,Tryz.ntmps72
  go_wp2_with (first
   | (go_at_call 116;(with_reducible refine (Zfa [.int .i64 x.points,.string x.names,.slice A2 x.moves.length C2] x _ _ tr _ _ (zK h0 zA) (zK hv zA)).mono ?_);rintro e w2 ⟨B1,B2,B3,D1,D2,D3,n3,wh,L,D,fL,fD,rfl,o1,o2,o3,t2,-,-,-,-⟩;obtain rfl:=wh_no o3 Hq.out;clear o3;have Y1:=(Y0.keep t2).keep ((Only.refl [] w2).alloc (.cells #[.slice B1 L.length D1,.slice B2 D.length D2,.slice B3 n3 D3,.bool false] 95));obtain ⟨g0,g1,g2⟩:=Y1.c3;obtain ⟨p0,p1,p2⟩:=Y1.f3)
   | fail)
  have K2:Only [] w w2:=zA
  have K3:=K2.alloc (.cells #[.slice B1 L.length D1,.slice B2 D.length D2,.slice B3 n3 D3,.bool false] 95)
  have Yf:=((Y1.set 0 (.slice none 0 0)).set 1 (.slice none 0 0)).set 2 (.slice none 0 0)
  have kf:=K3.then_ ((((Only.refl [w.heap.size + 1] (w2.alloc (.cells #[.slice B1 L.length D1,.slice B2 D.length D2,.slice B3 n3 D3,.bool false] 95))).setCell (p:=⟨w.heap.size + 1,0,none⟩) (by simp) (.slice none 0 0)).setCell (p:=⟨w.heap.size + 1,1,none⟩) (by simp) (.slice none 0 0)).setCell (p:=⟨w.heap.size + 1,2,none⟩) (by simp) (.slice none 0 0)) (by simp)
  obtain ⟨wf,hwf⟩:∃ wf,wf = ((((w2.alloc (.cells #[.slice B1 L.length D1,.slice B2 D.length D2,.slice B3 n3 D3,.bool false] 95)).setCell ⟨w.heap.size + 1,0,none⟩ (.slice none 0 0)).setCell ⟨w.heap.size + 1,1,none⟩ (.slice none 0 0)).setCell ⟨w.heap.size + 1,2,none⟩ (.slice none 0 0)):=⟨_,rfl⟩
  rw [<- hwf] at Yf kf ⊢
  simp only [List.set] at Yf
  clear hwf g0 g1 g2 p0 p1 p2
  obtain ⟨r0,r1,r2⟩:=Yf.c3
  refine bodyPost_ret (v:=.tuple #[.agg #[.slice none 0 0,.slice none 0 0,.slice none 0 0],.bool false]) (by simp [results,Tryz.results72,go_sem,r0,r1,r2]) rfl ⟨[.slice none 0 0,.slice none 0 0,.slice none 0 0],[],by rw [Hb.out];rfl,?_,Fresh.nil _ _,kf⟩
  rw [Hb.out]
  exact ⟨_,_,_,[],[],[],rfl,rfl,nil_rd _,nil_rd _,nil_rd _⟩
 ·have Hq:=zH hq
  have hb:bTab x tr = some ⟨tr,s.1,s.2⟩:=by unfold bTab;rw [hq];rfl
  have Hb:=zH hb
  clear hq hb
  go_enter Tryz.func72,Tryz.ntmps72
  go_wp2_with (first
   | (go_at_call 116;(with_reducible refine (Zfa [.int .i64 x.points,.string x.names,.slice A2 x.moves.length C2] x _ _ tr _ _ (zK h0 zA) (zK hv zA)).mono ?_);rintro e w2 ⟨B1,B2,B3,D1,D2,D3,n3,wh,L,D,fL,fD,rfl,o1,o2,o3,t2,m0,m1,m2,m3⟩;obtain ⟨rfl,he⟩:=wh_yes o3 Hq.out;have He:=zH he;clear o3 he)
   | fail)
  have K2:Only [] w w2:=zA
  have Y1:=((Y0.keep t2).keep ((Only.refl [] w2).alloc (.cells #[.slice B1 L.length D1,.slice B2 D.length D2,.slice B3 n3 D3,.bool true] 95)))
  have B4:=Blk.new w2 [.slice B1 L.length D1,.slice B2 D.length D2,.slice B3 n3 D3,.bool true] 95
  have o1':=zK o1 ((Only.refl [] w2).alloc (.cells #[.slice B1 L.length D1,.slice B2 D.length D2,.slice B3 n3 D3,.bool true] 95))
  have o2':=zK o2 ((Only.refl [] w2).alloc (.cells #[.slice B1 L.length D1,.slice B2 D.length D2,.slice B3 n3 D3,.bool true] 95))
  have K3:=K2.alloc (.cells #[.slice B1 L.length D1,.slice B2 D.length D2,.slice B3 n3 D3,.bool true] 95)
  have hsz:w.heap.size + 2<=w2.heap.size:=by have h6:=t2.size;simp at h6;omega
  obtain ⟨b,hb⟩:∃ b,b = w2.heap.size:=⟨_,rfl⟩
  obtain ⟨w3,hw3⟩:∃ w3,w3 = w2.alloc (.cells #[.slice B1 L.length D1,.slice B2 D.length D2,.slice B3 n3 D3,.bool true] 95):=⟨_,rfl⟩
  have hs3:w.heap.size + 3<=w3.heap.size:=by rw [hw3];simp;omega
  rw [<- hb] at B4 hsz ⊢
  rw [<- hw3] at Y1 B4 o1' o2' K3 ⊢
  clear hb hw3 X0 Y0 t2 o1 o2 K2
  have hv':=zK hv K3
  obtain ⟨c0,c1⟩:=B4.c2
  have ml:L.length<=2097152:=by omega
  have mr:∀ y∈L,y.length<=2097152:=fun y hy=>by have:=m3 y hy;omega
  have hdt:∀ g∈ft,g ∉ [w.heap.size + 1]:=fun g hg hm=>by have:=Rp.lt hv g hg;simp at hm;omega
  have hdL:∀ g∈fL,g ∉ [w.heap.size + 1]:=fun g hg hm=>by have:=m0 g (by simp [hg]);simp at this hm;omega
  have hdD:∀ g∈fD,g ∉ [w.heap.size + 1]:=fun g hg hm=>by have:=m0 g (by simp [hg]);simp at this hm;omega
  have hbn:b ∉ [w.heap.size + 1]:=by simp;omega
  go_region_held3 (fun w'=>Only [w.heap.size + 1] w3 w'/\w'.cell? ⟨b,0,none⟩ = some (.slice B1 L.length D1)/\w'.cell? ⟨b,1,none⟩ = some (.slice B2 D.length D2))
   ((
    refine and_of ?_ (fun q_=>⟨q_.cell hbn c0,q_.cell hbn c1⟩);first
    | with_reducible exact zO.drew
    | with_reducible exact Only.keepThen (And.left (by assumption)) (by assumption)
    | with_reducible exact Only.setCell (Only.setCell (Only.setCell (And.left (by assumption)) (by simp) _) (by simp) _) (by simp) _
    | with_reducible exact And.left (by assumption)
    | assumption))
   (first
    | (go_at_call 77;(with_reducible refine (Zbd (.slice a tr.length cap) tr _ _ (Rp.only hv' (And.left (by assumption)) hdt) (by omega)).mono ?_);rintro e x1 ⟨u1,q1,rfl,r1,F1,y1⟩;have hq:=r1.open_;obtain ⟨a1,k1,_,_,rfl,-⟩:=hq)
    | (go_at_call 82;(with_reducible refine (Zfy (.slice B1 L.length D1) L _ _ (Rp.only o1' (And.left (by assumption)) hdL) ml mr).mono ?_);rintro e x2 ⟨u2,q2,rfl,r2,F2,y2⟩;have hq:=r2.open_;obtain ⟨a2,k2,_,_,rfl,-⟩:=hq)
    | (go_at_call 77;(with_reducible refine (Zbd (.slice B2 D.length D2) D _ _ (Rp.only o2' (And.left (by assumption)) hdD) (by omega)).mono ?_);rintro e x3 ⟨u3,q3,rfl,r3,F3,y3⟩;have hq:=r3.open_;obtain ⟨a3,k3,_,_,rfl,-⟩:=hq;have kk:=(((Only.refl [] w3).drew.trans y1).trans y2).trans y3;have Y3:=Y1.keep kk;obtain ⟨g0,g1,g2⟩:=Y3.c3;obtain ⟨p0,p1,p2⟩:=Y3.f3)
    | fail)
  have F23:=(F2.keep y3).append F3 y2.size (fun g hg=>F2.lt g hg)
  have F:=(F1.keep (y2.trans y3)).append F23 y1.size (fun g hg=>F1.lt g hg)
  have hFg:∀ g∈q1 ++ (q2 ++ q3),g ∉ [w.heap.size + 1]:=fun g hg hm=>by have:=F.ge g hg;simp at this hm;omega
  have Yf:=((Y3.set 0 (.slice a1 tr.length k1)).set 1 (.slice a2 L.length k2)).set 2 (.slice a3 D.length k3)
  have kf:Only [w.heap.size + 1] x3 (((x3.setCell ⟨w.heap.size + 1,0,none⟩ (.slice a1 tr.length k1)).setCell ⟨w.heap.size + 1,1,none⟩ (.slice a2 L.length k2)).setCell ⟨w.heap.size + 1,2,none⟩ (.slice a3 D.length k3)):=((zO.setCell (by simp) _).setCell (by simp) _).setCell (by simp) _
  have K4:Only [] w x3:=K3.trans kk
  go_wp2_with fail
  obtain ⟨wf,hwf⟩:∃ wf,wf = (((x3.setCell ⟨w.heap.size + 1,0,none⟩ (.slice a1 tr.length k1)).setCell ⟨w.heap.size + 1,1,none⟩ (.slice a2 L.length k2)).setCell ⟨w.heap.size + 1,2,none⟩ (.slice a3 D.length k3)):=⟨_,rfl⟩
  rw [<- hwf] at Yf kf ⊢
  simp only [List.set] at Yf
  clear hwf g0 g1 g2 p0 p1 p2
  obtain ⟨z0,z1,z2⟩:=Yf.c3
  refine bodyPost_ret (v:=.tuple #[.agg #[.slice a1 tr.length k1,.slice a2 L.length k2,.slice a3 D.length k3],.bool true]) (by simp [results,Tryz.results72,go_sem,z0,z1,z2]) rfl ⟨[.slice a1 tr.length k1,.slice a2 L.length k2,.slice a3 D.length k3],q1 ++ (q2 ++ q3),by rw [Hb.out];rfl,?_,(F.mono (by simp;omega)).only kf hFg,K4.then_ kf (by simp)⟩
  rw [Hb.out,He.out]
  exact ⟨_,_,_,q1,q2,q3,rfl,rfl,Rp.only (zK r1 (y2.trans y3)) kf (fun g hg=>hFg g (by simp [hg])),Rp.only (zK r2 y3) kf (fun g hg=>hFg g (by simp [hg])),Rp.only r3 kf (fun g hg=>hFg g (by simp [hg]))⟩
def bTabsK (x:Puzzle):List (List Int)->Option (List Table)
 | []=>some []
 | tr :: trs=>(bTab x tr).bind fun t=>(bTabsK x trs).map (t :: ·)
def bTabs (x:Puzzle) (trs:List (List Int)):Option (List Table):=if inR trs.length 1 4 = true then bTabsK x trs else none
theorem Zjt (x:Puzzle) (tr:List Int):∀ (trs:List (List Int)),bTabsK x (trs ++ [tr]) = (bTabsK x trs).bind fun ts=>(bTab x tr).map fun t=>ts ++ [t]
 | []=>by simp [bTabsK];cases bTab x tr <;> rfl
 | a :: trs=>by
  simp only [List.cons_append,bTabsK,Zjt x tr trs]
  cases bTab x a with
  | none=>rfl
  | some t=>cases bTabsK x trs with
   | none=>rfl
   | some ts=>cases bTab x tr <;> rfl
theorem Zsb {x:Puzzle} {trs:List (List Int)} {tr:List Int} (hm:tr∈trs) (h:bTab x tr = none):bTabsK x trs = none:=by
 induction trs with
 | nil=>cases hm
 | cons a trs ih=>
  rcases List.mem_cons.1 hm with rfl | hm
  ·simp [bTabsK,h]
  ·simp only [bTabsK,ih hm]
   cases bTab x a <;> rfl
def BT1 (W wx:World) (s8 s9:Value) (t:Option Table):Prop:=
 ∃ g A1 A2 A3 C1 C2 C3 f,s8 = .pointer (some ⟨g,0,none⟩)/\s9 = .bool t.isSome/\Blk wx g [.slice A1 (t.getD noTab).tracked.length C1,.slice A2 (t.getD noTab).patterns.length C2,.slice A3 (t.getD noTab).distances.length C3] /\
  Rp.rep wx [.slice A1 (t.getD noTab).tracked.length C1,.slice A2 (t.getD noTab).patterns.length C2,.slice A3 (t.getD noTab).distances.length C3] (t.getD noTab) f/\Fresh W.heap.size wx f/\Only [] W wx
theorem BT1.of {W w5:World} {t:Option Table} {g:Nat} {A1 A2 A3:Option Addr} {n1 n2 n3 C1 C2 C3:Nat} {f:List Nat} {cs:List Value} (hz:Blk w5 g cs) (hcs:cs.length = 3) (hK:Only [] W w5) (e1:n1 = (t.getD noTab).tracked.length) (e2:n2 = (t.getD noTab).patterns.length) (e3:n3 = (t.getD noTab).distances.length)
  (hr:Rp.rep w5 [.slice A1 n1 C1,.slice A2 n2 C2,.slice A3 n3 C3] (t.getD noTab) f) (hF:Fresh W.heap.size w5 f) (hg:g ∉ f) (hW:W.heap.size<=g) :
  BT1 W (((w5.setCell ⟨g,0,none⟩ (.slice A1 n1 C1)).setCell ⟨g,1,none⟩ (.slice A2 n2 C2)).setCell ⟨g,2,none⟩ (.slice A3 n3 C3)) (.pointer (some ⟨g,0,none⟩)) (.bool t.isSome) t:=by
 subst e1;subst e2;subst e3
 have ho:Only [g] w5 (((w5.setCell ⟨g,0,none⟩ (.slice A1 (t.getD noTab).tracked.length C1)).setCell ⟨g,1,none⟩ (.slice A2 (t.getD noTab).patterns.length C2)).setCell ⟨g,2,none⟩ (.slice A3 (t.getD noTab).distances.length C3)):=((zO.setCell (by simp) _).setCell (by simp) _).setCell (by simp) _
 have hb:=((hz.set 0 (.slice A1 (t.getD noTab).tracked.length C1)).set 1 (.slice A2 (t.getD noTab).patterns.length C2)).set 2 (.slice A3 (t.getD noTab).distances.length C3)
 have hnf:∀ b∈f,b ∉ [g]:=fun b hm1 hm=>by simp at hm;subst hm;exact hg hm1
 refine ⟨g,A1,A2,A3,C1,C2,C3,f,rfl,rfl,?_,Rp.only hr ho hnf,hF.only ho hnf,hK.then_ ho (by intro b hm hl;simp at hm;omega)⟩
 obtain ⟨u0,u1,u2,rfl⟩:∃ u0 u1 u2,cs = [u0,u1,u2]:=by
  match cs,hcs with
  | [u0,u1,u2],_=>exact ⟨u0,u1,u2,rfl⟩
 simpa only [List.set] using hb
theorem BT1.of2 {W w5:World} {t:Option Table} {g:Nat} {A1 A2 A3:Option Addr} {n1 n2 n3 C1 C2 C3:Nat} {f:List Nat} {e:TypeId} (hK:Only [] W w5) (e1:n1 = (t.getD noTab).tracked.length) (e2:n2 = (t.getD noTab).patterns.length) (e3:n3 = (t.getD noTab).distances.length)
  (hr:Rp.rep w5 [.slice A1 n1 C1,.slice A2 n2 C2,.slice A3 n3 C3] (t.getD noTab) f) (hF:Fresh W.heap.size w5 f) (hg:g = w5.heap.size) :
  BT1 W (w5.alloc (.cells #[.slice A1 n1 C1,.slice A2 n2 C2,.slice A3 n3 C3] e)) (.pointer (some ⟨g,0,none⟩)) (.bool t.isSome) t:=by
 subst e1;subst e2;subst e3;subst hg
 have ho:Only [] w5 (w5.alloc (.cells #[.slice A1 (t.getD noTab).tracked.length C1,.slice A2 (t.getD noTab).patterns.length C2,.slice A3 (t.getD noTab).distances.length C3] e)):=zO.alloc _
 exact ⟨_,A1,A2,A3,C1,C2,C3,f,rfl,rfl,Blk.new w5 [.slice A1 (t.getD noTab).tracked.length C1,.slice A2 (t.getD noTab).patterns.length C2,.slice A3 (t.getD noTab).distances.length C3] e,zK hr ho,hF.keep ho,hK.trans ho⟩
theorem Tryz.infoTab:(Tryz.prog.info? 105).map (fun i=>(i.zero,i.size,i.bytes)) = some (some (.agg #[.slice none 0 0,.slice none 0 0,.slice none 0 0]),3,72):=by kernel_rfl
instance:Rp UInt8 where
 size:=1
 rep _ cs x fp:=cs = [.int .u8 (x.toNat:Int)]/\fp = []
 len h:=by rw [h.1];rfl
 frame h _:=h
 lt h:=by rw [h.2];simp
set_option maxHeartbeats 1000000 in
theorem big_any (v:Value) (l:List UInt8) (fc:List Nat) (w:World) (h:Rd w v l fc) :
  Calls Tryz.prog 4 #[v] w fun e w'=>e = .returned (.bool (decide (4096 < l.length)))/\Only [] w w':=by
 obtain ⟨a,cap,ob,fps,rfl,-,hs⟩:=h.open_
 have hb:=hs.bound
 have he:decide ((4096:Int) < (l.length:Int)) = decide (4096 < l.length):=by
  by_cases h:4096 < l.length
  ·rw [decide_eq_true h,decide_eq_true (by omega)]
  ·rw [decide_eq_false h,decide_eq_false (by omega)]
 have He:=zH he
 clear he
 go_enter Tryz.func4,Tryz.ntmps4
 go_wp2
 go_ret
 exact ⟨Zaa (by first | exact He.out | rfl),zA⟩
end Go.Proofs.YtjfmkolnleicnaaGreatDoor
