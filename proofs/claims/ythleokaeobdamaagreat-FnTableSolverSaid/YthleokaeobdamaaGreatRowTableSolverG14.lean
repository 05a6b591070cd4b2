/- The reference's drawn sets of points and tables: drawTrackedSets, drawTables (laws 45, 59). Bounds only. -/
import Derived.Test.YthleokaeobdamaaGreatRowTableSolverG11
import Derived.Test.YthleokaeobdamaaGreatRowTableSolverG13
import Derived.Deep.RegionLaw
import Derived.Test.YthleokaeobdamaaGreatRowTableSolverG12
import Derived.Test.YthleokaeobdamaaGreatRowTableSolverG10
import Derived.Test.YthleokaeobdamaaGreatRowTableSolverG9
import Derived.Test.YthleokaeobdamaaGreatRowTableSolverG4
import Derived.Test.YthleokaeobdamaaGreatRowTableSolverG7
import Derived.Test.YthleokaeobdamaaGreatRowTableSolverG1
import Derived.Test.YthleokaeobdamaaGreatRowTableSolverG2
import Derived.Test.YthleokaeobdamaaGreatRowTableSolverG3
import Derived.Deep.LoopGhost
import Derived.Lib.Walk
import Derived.Sort.WalkB12
import Derived.Lib.SlicesMore
import Derived.Shelf.SortM.Plain
import Derived.Sort.OwnSortedInts
import Derived.Deep.RegionHeld3
import Derived.Deep.QuietTactic
import Derived.Orders
import Derived.RegionTactic
import Derived.Deep.RegionHeld
import Derived.Deep.DeepCutAuto
namespace Go.Proofs.YthleokaeobdamaaGreat
open Go.RowKit
set_option maxRecDepth 10000
theorem SeqA.putRow {w V:World} {a:Option Addr} {cap:Nat} {xs:List (List Int)} {ob:List Nat} {fps:List (List Nat)} (h:SeqA w a cap xs ob fps) (k:Nat) {u':Value} {y:List Int} {f':List Nat}
  (hcell:∀ b off,a = some ⟨b,off,none⟩->(∀ j,j < xs.length->j ≠ k->V.cell? ⟨b,off + j,none⟩ = w.cell? ⟨b,off + j,none⟩)/\V.cell? ⟨b,off + k,none⟩ = some u') (hy:Rd V u' y f') (hrows:∀ j (hj:j < fps.length),j ≠ k->∀ b∈fps[j],V.heap[b]? = w.heap[b]?) (hlt:∀ b∈ob,b < V.heap.size):SeqA V a cap (xs.set k y) ob (fps.set k f'):=by
 refine ⟨by rw [List.length_set];exact h.len,h.cap,by rw [List.length_set,List.length_set];exact h.nf,fun j hj=>?_,hlt,h.one⟩
 have hj':j < xs.length:=by rw [List.length_set] at hj;exact hj
 obtain ⟨b,off,u,ha,hob,hc,hu⟩:=h.atRow j hj'
 obtain ⟨h1,h2⟩:=hcell b off ha
 by_cases e:j = k
 ·subst e
  refine ⟨b,off,[u'],ha,hob,fun i v hv=>?_,?_⟩
  ·cases i with
   | zero=>simp at hv;subst hv;simpa [Rp.size] using h2
   | succ i=>simp at hv
  ·simpa using hy
 ·refine ⟨b,off,[u],ha,hob,fun i v hv=>?_,?_⟩
  ·cases i with
   | zero=>simp at hv;subst hv;have:=(h1 j hj' e).trans hc;simpa [Rp.size] using this
   | succ i=>simp at hv
  ·have hu':=Rp.frame hu (fun q hq=>hrows j (by rw [h.nf];exact hj') e q hq)
   rw [List.getElem_set_ne (Ne.symm e)]
   have:=hu'
   simpa [List.getElem_set_ne (Ne.symm e)] using this
theorem Acc.row0 {B:Nat} {e:TypeId} {w:World} {v:Value} {L:List OwnI} {fs:List (List Nat)} (h:Acc B e w v L fs) (hL:0 < L.length) :
  ∃ g c u,v = .slice (some ⟨g,0,none⟩) L.length c/\L.length<=c/\w.cell? ⟨g,0,none⟩ = some u/\w.frozen? ⟨g,0,none⟩ = false/\AccI 0 2 w u (L[0]).l/\fs[0]? = some u.ownBlock.toList/\B<=g:=by
 obtain ⟨⟨css,ho,hcl,hr⟩,hf,ha⟩:=h
 obtain ⟨v0,hc0,hA0,hf0⟩:=hr 0 (by omega) hL (by omega)
 have ho0:=ho
 rcases ho.2 with ⟨h1,h2⟩ | ⟨g,cp,cur,h1,hb,hg,hn,hcp,hz,ht⟩
 ·omega
 ·subst h1
  have hcs:css.flatten[0]? = some v0:=by
   match css,hcl,hc0 with
   | [],hcl,_=>simp at hcl;omega
   | c :: css',_,hc0=>simp at hc0;subst hc0;simp
  refine ⟨g,cp,v0,rfl,hn,?_,ho0.frozenAt 0,hA0,by rw [List.getElem?_eq_getElem (by omega),hf0],hb⟩
  have:=World.ownsRow.cells ho0 (g:=g) rfl 0 v0 hcs
  have hadd:(⟨g,0,none⟩:Addr).add 0 = ⟨g,0,none⟩:=by unfold Addr.add;split <;> simp_all
  rwa [hadd] at this
theorem Zgi {w w':World} {p:Addr} {fp:List Nat} (h:w.frozen? p = false) (ho:Only fp w w') (hp:p.block < w.heap.size) (hn:p.block ∉ fp):w'.frozen? p = false:=by
 have e:=ho.block p.block hp hn
 simp only [World.frozen?,e] at h ⊢
 exact h
theorem Zqg {fs:List (List Nat)} {f:List Nat} {b:Nat} (h:b∈(fs.set 0 f).flatten):b∈f\/b∈fs.flatten:=by
 match fs,h with
 | [],h=>simp at h
 | x :: fs',h=>
  rw [List.set_cons_zero,List.flatten_cons] at h
  rcases List.mem_append.1 h with h | h
  ·exact .inl h
  ·exact .inr (by rw [List.flatten_cons];exact List.mem_append_right _ h)
theorem Acc.put0 {B:Nat} {e:TypeId} {w8 V w9:World} {gs c:Nat} {L:List OwnI} {fs:List (List Nat)} (h:Acc B e w8 (.slice (some ⟨gs,0,none⟩) L.length c) L fs) (hF:Fresh B w8 fs.flatten) (hL:0 < L.length) {u v9:Value} {y:Int} {B9:Nat}
  (hf0:fs[0]? = some u.ownBlock.toList) (k8:Only [] w8 V) (hA9:AccI B9 2 w9 v9 ((L[0]).l ++ [y])) (hO9:Only u.ownBlock.toList V w9) (hN:v9.ownBlock = u.ownBlock\/v9.ownBlock = some V.heap.size) (hc:(w9.cell? ⟨gs,0,none⟩).isSome = true) :
  Rd (w9.setCell ⟨gs,0,none⟩ v9) (.slice (some ⟨gs,0,none⟩) L.length c) ((L.map OwnI.l).set 0 ((L[0]).l ++ [y])) ([gs] ++ (fs.set 0 v9.ownBlock.toList).flatten)/\∀ b∈(fs.set 0 v9.ownBlock.toList).flatten,b∈fs.flatten\/V.heap.size<=b:=by
 have hlm:(L.map OwnI.l).length = L.length:=List.length_map _
 obtain ⟨⟨css,ho,hcl,hr⟩,hfl,hap⟩:=id (Acc.ofOwn h)
 have hgs:gs < w8.heap.size:=(h.ownlt gs rfl).2
 obtain ⟨a,cap,hv,-,hI⟩:=own_seq (xs:=L.map OwnI.l) (fps:=fs) ho (by decide) hcl hfl hr
 rw [hlm] at hv
 injection hv with hv1 _ hv2
 subst hv1
 subst hv2
 have hown:(Value.slice (some ⟨gs,0,none⟩) L.length c).ownBlock.toList = [gs]:=rfl
 have hu0:∀ b∈u.ownBlock.toList,b∈fs.flatten:=fun b hb=>by
  obtain ⟨h0,e0⟩:=List.getElem?_eq_some_iff.1 hf0
  exact List.mem_flatten.2 ⟨_,List.getElem_mem h0,by rw [e0];exact hb⟩
 have hgn:gs ∉ u.ownBlock.toList:=fun hm=>hap gs rfl (hu0 gs hm)
 have hsub:∀ b∈(fs.set 0 v9.ownBlock.toList).flatten,b∈fs.flatten\/V.heap.size<=b:=fun b hb=>by
  rcases Zqg hb with hb | hb
  ·have hb2:v9.ownBlock = some b:=by simpa using hb
   rcases hN with e1 | e1
   ·exact .inl (hu0 b (by rw [<- e1];simpa using hb))
   ·rw [e1] at hb2;injection hb2 with hb2;exact .inr (by omega)
  ·exact .inl hb
 have hv9g:v9.ownBlock ≠ some gs:=fun e1=>by
  rcases hN with e2 | e2
  ·exact hgn (by rw [<- e2,e1];simp)
  ·rw [e2] at e1;injection e1 with e1;have:=k8.size;omega
 have kst:Only [gs] w9 (w9.setCell ⟨gs,0,none⟩ v9):=zO.setCell (by simp) _
 have hrd:Rd (w9.setCell ⟨gs,0,none⟩ v9) v9 ((L[0]).l ++ [y]) v9.ownBlock.toList:=Rp.only hA9.rd kst (fun b hb hm=>by
  simp at hm
  subst hm
  exact hv9g (by simpa using hb))
 have hgV:gs < V.heap.size:=Nat.lt_of_lt_of_le hgs k8.size
 have hS:=SeqA.putRow (V:=w9.setCell ⟨gs,0,none⟩ v9) hI 0 (u':=v9) (y:=(L[0]).l ++ [y]) (f':=v9.ownBlock.toList) (fun b off ha=>by
  injection ha with ha
  injection ha with ha1 ha2 _
  subst ha1
  subst ha2
  refine ⟨fun j hj hj0=>?_,?_⟩
  ·have hne:(⟨gs,0 + j,none⟩:Addr) ≠ ⟨gs,0,none⟩:=by intro e2;injection e2 with _ e2 _;omega
   rw [World.cell?_setCell_other _ _ _ _ hne.symm]
   rw [World.cell?_of_block (w:=V) (hO9.block gs hgV hgn),World.cell?_of_block (w:=w8) (k8.block gs hgs (by simp))]
  ·exact World.cell?_setCell_same' _ _ _ hc) hrd (fun j hj hj0 b hb=>by
   have hbf:b∈fs.flatten:=List.mem_flatten.2 ⟨_,List.getElem_mem hj,hb⟩
   have hbg:b ≠ gs:=fun e=>hap gs rfl (by rw [<- e];exact hbf)
   have hbl:=hF.lt b hbf
   have hbu:b ∉ u.ownBlock.toList:=fun hm=>by
    obtain ⟨h0,e0⟩:=List.getElem?_eq_some_iff.1 hf0
    have hnd:=hF.nd
    have hfe:fs = fs[0] :: fs.tail:=by
     match fs,h0 with
     | x :: fs',_=>rfl
    have hj2:fs[j]∈fs.tail:=by
     match fs,h0,j,hj,hj0 with
     | x :: fs',_,j + 1,hj,_=>exact List.getElem_mem (by simpa using hj)
    rw [hfe,List.flatten_cons] at hnd
    exact (List.nodup_append.1 hnd).2.2 b (by rw [e0];exact hm) b (List.mem_flatten.2 ⟨_,hj2,hb⟩) rfl
   rw [kst.block b (by have:=k8.size;have:=hO9.size;omega) (by simpa using hbg),hO9.block b (Nat.lt_of_lt_of_le hbl k8.size) hbu,k8.block b hbl (by simp)]) (fun b hb=>by
   rw [hown] at hb
   simp at hb
   subst hb
   exact Nat.lt_of_lt_of_le (Nat.lt_of_lt_of_le hgV hO9.size) kst.size)
 refine ⟨?_,hsub⟩
 have:=hS.rd
 rw [List.length_set,hlm,hown] at this
 exact this
set_option maxHeartbeats 8000000 in
theorem Zhx (g:Nat) (fc:List Nat) (l:List UInt8) (cs:List Value) (x:Puzzle) (fp:List Nat) (w:World) (h:Src w g fc l) (hl:l.length<=4096) (hx:Rp.rep w cs x fp) :
  Calls Tryz.prog 37 #[.pointer (some ⟨g,0,none⟩),.agg cs.toArray] w fun e w'=>∃ v,∃ L:List (List Int),∃ f,e = .returned v/\Rd w' v L f/\(∀ b∈f,w.heap.size<=b)/\(∀ y∈L,y.length<=2097152)/\Src w' g fc l/\Only [g] w w':=by
 obtain ⟨i0,hi,hz0,hz1,hz2⟩:=info_parts Tryz.info2
 obtain ⟨j0,hj,hj0,hj1,hj2⟩:=info_parts Tryz.info22
 have hg:=h.lt
 have hfc:∀ b∈fc,b < w.heap.size:=by obtain ⟨_,_,_,_,_,_,_,h4,_⟩:=h;exact fun b hb=>Rp.lt h4 b hb
 obtain ⟨v2,rfl,p0,p1,h2⟩:=hx
 obtain ⟨A2,C2,_,_,rfl,-,-⟩:=h2.open_
 have Hp0:=zH p0
 have hB0:=Blk.new w [.int .i64 x.points,.string x.names,.slice A2 x.moves.length C2] 26
 have kb:Only [] w (w.alloc (.cells #[.int .i64 x.points,.string x.names,.slice A2 x.moves.length C2] 26)):=zO.alloc _
 have kb2:Only [] w ((w.alloc (.cells #[.int .i64 x.points,.string x.names,.slice A2 x.moves.length C2] 26)).alloc (.cells #[] 27)):=kb.alloc _
 have hB1:=hB0.keep (zO.alloc (.cells #[] 27))
 have hA0:=Acc.made (α:=OwnI) (w.alloc (.cells #[.int .i64 x.points,.string x.names,.slice A2 x.moves.length C2] 26)) (w.heap.size + 1) 27 (g:=w.heap.size + 1) (by simp) (Nat.le_refl _)
 have Hsz:Hid (((w.alloc (.cells #[.int .i64 x.points,.string x.names,.slice A2 x.moves.length C2] 26)).alloc (.cells #[] 27)).heap.size = w.heap.size + 2):=zH (by simp)
 clear p0
 go_enter Tryz.func37,Tryz.ntmps37
 go_wp2_with (first
  | (go_at_call 83;(with_reducible refine (Zae g fc l 2 _ (h.keep kb2) hl (by omega)).mono ?_);rintro e w1 ⟨k,rfl,k0,k2,D1,K1⟩;have hw1:IntKind.i64.wrap (1 + k) = 1 + k:=(by rw [IntKind.wrap_i64];omega))
  | fail)
 have B1:=hB1.only K1 (by simp;omega)
 have A1:=hA0.only K1 (by simp) (fun q hq hm=>by
  have e:w.heap.size + 1 = q:=by simpa [Value.ownBlock] using hq
  simp at hm
  omega)
 have k1:Only [g] w w1:=(kb2.weaken [g]).trans K1
 have hs1:w.heap.size + 2<=w1.heap.size:=by have:=K1.size;rw [Hsz.out] at this;exact this
 have hk2:k<=2:=by omega
 clear hB0 hB1 kb kb2 hA0 K1 k2
 go_loopw [5,6] (fun o kv wr=>∃ (k:Int) (L:List OwnI) (fs:List (List Nat)),0<=k/\kv = .int .i64 k/\(L.length:Int) + k<=3/\1<=(L.length:Int) + k/\Acc (w.heap.size + 1) 27 wr o L fs/\Fresh (w.heap.size + 1) wr fs.flatten/\Hid (∀ y∈L,y.l.length<=8)/\Blk wr w.heap.size [.int .i64 x.points,.string x.names,.slice A2 x.moves.length C2]/\Src wr g fc l/\Only [g] w wr/\w.heap.size + 2<=wr.heap.size)
  (fun _ kv _=>(intOf kv).toNat)
 case atStart=>exact ⟨1 + k,[],[],by omega,rfl,by simp;omega,by simp;omega,A1,Fresh.nil _ _,zH (by simp),B1,D1,k1,hs1⟩
 case round=>
  obtain ⟨W2,hnew⟩:∃ W,W = wr:=⟨_,rfl⟩
  subst hnew
  clear A1 B1 D1 k1 hs1 k0 hk2
  obtain ⟨k,L,fs,k0,rfl,hLk,hL1,hA,hF,hL8,B2,D2,kW,hs2⟩:=hrel
  obtain ⟨aL,cL,rfl⟩:=hA.form
  have hvd:=zH (show ∀ q,(Value.slice aL L.length cL).ownBlock = some q->q ∉ [g] from fun q hq hm=>by have:=(hA.ownlt q hq).1;simp at hm;omega)
  have hfd:=zH (show ∀ q∈fs.flatten,q ∉ [g] from fun q hq hm=>by have:=hF.ge q hq;simp at hm;omega)
  by_cases hgo:0 < k
  ·have hw:IntKind.i64.wrap (k - 1) = k - 1:=by rw [IntKind.wrap_i64];omega
   have HA:=zH hA
   have HF:=zH hF
   have hlen:L.length + 1<=1073741824:=by omega
   have kal2:Only [] W2 (W2.alloc (.cells #[] 2)):=zO.alloc _
   have b0:=(B2.keep kal2)
   have d0:=D2.keep kal2
   have a0:=AccI.made W2 W2.heap.size 2 rfl (Nat.le_refl _)
   have kg2:Only [g] W2 (W2.alloc (.cells #[] 2)):=kal2.weaken _
   clear hA hF B2 D2
   go_wp2
   go_loopw [7,8] (fun o xv wr=>∃ (i:Nat) (p:List Int),i<=7/\xv = .int .i64 i/\p.length<=i/\AccI W2.heap.size 2 wr o p/\Blk wr w.heap.size [.int .i64 x.points,.string x.names,.slice A2 x.moves.length C2]/\Src wr g fc l/\Only [g] W2 wr)
    (fun _ xv _=>8 - (intOf xv).toNat)
   case atStart=>exact ⟨0,[],by omega,rfl,by simp,a0,b0,d0,kg2⟩
   case round=>
    obtain ⟨W4,hnew⟩:∃ W,W = wr:=⟨_,rfl⟩
    subst hnew
    clear a0 b0 d0 kg2 kal2
    obtain ⟨i,p,hi7,rfl,hpi,hAp,B4,D4,K4⟩:=hrel
    obtain ⟨ap,cp,rfl⟩:=hAp.form
    have x0:=B4.cell 0 rfl
    have hpd:=zH (show ∀ q,(Value.slice ap p.length cp).ownBlock = some q->q ∉ [g] from fun q hq hm=>by have:=hAp.ownlt q hq;simp at hm;omega)
    have hwi:IntKind.i64.wrap ((i:Int) + 1) = (i:Int) + 1:=by rw [IntKind.wrap_i64];omega
    have hlenp:p.length + 1<=1073741824:=by omega
    by_cases hlt:(i:Int) < min x.points 7
    ·have hi6:i<=6:=by omega
     have HAp:=zH hAp
     have hiI:=zH (show I64 (i:Int) by unfold I64;omega)
     clear hAp
     go_wp2_with (first
      | (go_at_call 84;(with_reducible refine (Zbf g fc l 2 W4 D4 hl (by omega)).mono ?_);rintro e w5 ⟨b5,rfl,D5,K5⟩;have A5:=HAp.out.only K5 hpd.out;have hs5:W2.heap.size<=w5.heap.size:=(K4.trans K5).size;have B5:=B4.only K5 (by simp;omega))
      | (at_builtin;refine Zbi rfl _ _ 27 rfl W2.heap.size 2 i0 _ Tryz.underlying27 hi hz0 hz1 hz2 rfl w5 _ p rfl A5 (zO.alloc _) hs5 w5.heap.size 1 _ rfl (lit1 w5 _ _ rfl) hiI.out hlenp ?_;intro v9 w9 hA9 hO9 hP9 hN9;replace hO9:Only (Value.slice ap p.length cp).ownBlock.toList _ w9:=hO9)
      | fail)
     all_goals go_roundw
     all_goals first
      | exact ⟨i + 1,_,by omega,by go_num,by rw [List.length_append,List.length_singleton];omega,hA9,(B5.keep (zO.alloc _)).only hO9 (fun hm=>by have:=(HAp.out.ownlt _ (by simpa using hm)).1;omega),(D5.keep (zO.alloc _)).only hO9 (fun hm=>by have:=(HAp.out.ownlt _ (by simpa using hm)).1;omega) (fun b hb hm=>by have h1:=hfc b hb;have:=(HAp.out.ownlt _ (by simpa using hm)).1;omega),((K4.trans K5).alloc _).then_ hO9 (fun b hb hl=>by have:=(HAp.out.ownlt b (by simpa using hb)).1;omega)⟩
      | exact ⟨i + 1,p,by omega,by go_num,by omega,A5,B5,D5,K4.trans K5⟩
      | (simp [intOf];omega)
    ·have hA4:=HA.out.only K4 hfd.out hvd.out
     have hF4:=HF.out.only K4 hfd.out
     have hs4:w.heap.size + 1<=W4.heap.size:=by have:=K4.size;omega
     have hAp0:Rp.rep W4 [.slice ap p.length cp] (OwnI.mk p) (Value.slice ap p.length cp).ownBlock.toList:=⟨_,rfl,hAp.low2 (Nat.zero_le _),rfl⟩
     have hFp:=hAp.fresh
     have HAp:=zH hAp
     clear hAp
     go_wp2_with (first
      | (at_builtin;refine Zec (α:=OwnI) rfl _ _ 24 rfl (w.heap.size + 1) 27 j0 _ 24 Tryz.underlying24 hj hj0 hj1 hj2 rfl (by decide) (by decide) W4 (.slice aL L.length cL) L fs rfl hA4 (zO.alloc _) hs4 W4.heap.size 1 [.slice ap p.length cp] (OwnI.mk p) _ rfl (lit_src W4 [.slice ap p.length cp] _ rfl) (by intro u hu;simp at hu;subst hu;rfl) (zK hAp0 (zO.alloc _)) ?hap hlen ?_;(case hap=>(intro b hb he;have h1:=hFp.ge b hb;have h2:=(HA.out.ownlt b he).2;omega));intro v9 w9 hA9 hO9 hN9)
      | fail)
     have kal4:Only [] W4 (W4.alloc (.cells #[.slice ap p.length cp] 27)):=zO.alloc _
     have hF9:Fresh (w.heap.size + 1) w9 (fs ++ [(Value.slice ap p.length cp).ownBlock.toList]).flatten:=by
      have F1:=(hF4.keep kal4).only hO9 (fun q hq hm=>hA4.apart q (by simpa using hm) hq)
      have F2:=(hFp.keep kal4).only hO9 (fun q hq hm=>by have h1:=hFp.ge q hq;have h2:=(HA.out.ownlt q (by simpa using hm)).2;omega)
      have:=F1.append F2 (by omega) HF.out.lt
      simpa using this
     have hoge:∀ b∈(Value.slice aL L.length cL).ownBlock.toList,w.heap.size + 1<=b:=fun b hb=>(HA.out.ownlt b (by simpa using hb)).1
     go_roundw
     case rel=>exact ⟨k - 1,L ++ [OwnI.mk p],_,by omega,rfl,by rw [List.length_append,List.length_singleton];omega,by rw [List.length_append,List.length_singleton];omega,hA9,hF9,zH (fun y hy=>by
      rcases List.mem_append.1 hy with hy | hy
      ·exact hL8.out y hy
      ·rw [List.mem_singleton.1 hy];show p.length<=8;omega),(B4.keep kal4).only hO9 (fun hm=>by have:=hoge _ hm;omega),(D4.keep kal4).only hO9 (fun hm=>by have:=hoge _ hm;omega) (fun b hb hm=>by have h1:=hfc b hb;have:=hoge b hm;omega),((kW.trans K4).alloc _).then_ hO9 (fun b hb hl=>by have:=hoge b hb;omega),by have h1:=K4.size;have h2:=hO9.size;simp at h2;omega⟩
     case measure=>simp [intOf];omega
  ·have hk0:k = 0:=by omega
   subst hk0
   have hL1':1<=L.length:=by omega
   have hL3:L.length<=3:=by omega
   have HA:=zH hA
   have HF:=zH hF
   clear hA hF
   go_upto_region 12 with fail
   go_cut [36] (fun s36 wx=>∃ b:Bool,s36 = .bool b/\Src wx g fc l/\Only [g] W2 wx)
   case first=>
    go_wp2_with ((go_at_call 84;(with_reducible refine (Zbf g fc l 15 W2 D2 hl (by omega)).mono ?_);rintro e w6 ⟨b,rfl,D6,K6⟩))
    go_meet
    exact ⟨_,rfl,D6,K6⟩
   case rest=>
    obtain ⟨W6,hnew⟩:∃ W,W = wc:=⟨_,rfl⟩
    subst hnew
    obtain ⟨b6,rfl,D6,K6⟩:=hcut
    have B6:=B2.only K6 (by simp;omega)
    have k6:=kW.trans K6
    have hA6:=HA.out.only K6 hfd.out hvd.out
    have hF6:=HF.out.only K6 hfd.out
    have hs6:w.heap.size + 2<=W6.heap.size:=Nat.le_trans hs2 K6.size
    have hge6:∀ b∈(Value.slice aL L.length cL).ownBlock.toList ++ fs.flatten,w.heap.size<=b:=fun b hb=>by
     rcases List.mem_append.1 hb with hb | hb
     ·have:=(HA.out.ownlt b (by simpa using hb)).1;omega
     ·have:=HF.out.ge b hb;omega
    have h8:∀ y∈L.map OwnI.l,y.length<=2097152:=fun y hy=>by
     obtain ⟨z,hz,rfl⟩:=List.mem_map.1 hy
     have:=hL8.out z hz;omega
    have H8:=zH h8
    have Hge6:=zH hge6
    clear h8 hge6 B2 D2 kW
    refine (show ∀ a w,Code.wp Tryz.prog _ _ a w->_ from by assumption) _ _ ?_
    go_cut [5] (fun s5 wx=>∃ (L:List (List Int)) (f:List Nat),Rd wx s5 L f/\(∀ b∈f,w.heap.size<=b)/\(∀ y∈L,y.length<=2097152)/\Src wx g fc l/\Only [g] w wx)
    case first=>
     have hR6:=(Acc.ofOwn hA6).rd (by decide)
     have hRl:(L.map OwnI.l).length = L.length:=List.length_map _
     cases b6
     ·go_wp2
      go_meet
      exact ⟨_,_,hR6,Hge6.out,H8.out,D6,k6⟩
     ·go_upto_region 14 with ((go_at_call 83;(with_reducible refine (Zae g fc l 3 W6 D6 hl (by omega)).mono ?_);rintro e w7 ⟨r,rfl,r0,r1,D7,K7⟩))
      have B7:=B6.only K7 (by simp;omega)
      have k7:=k6.trans K7
      have hA7:=hA6.only K7 hfd.out hvd.out
      have hF7:=hF6.only K7 hfd.out
      have hs7:w.heap.size + 2<=w7.heap.size:=Nat.le_trans hs6 K7.size
      clear hA6 hF6 hR6 B6 D6 k6 hs6
      by_cases e0:r = 0
      ·subst e0
       go_wp2
       go_meet
       exact ⟨[],_,((Acc.made (α:=List Int) w7 w.heap.size 27 rfl (by omega)).rd (by decide)),fun b hb=>by
        have:b = w7.heap.size:=by simpa [Value.ownBlock] using hb
        omega,by simp,D7.keep (zO.alloc _),k7.alloc _⟩
      ·by_cases e1:r = 1
       ·subst e1
        obtain ⟨gs,cc,u,ev,hcl,hc0,hfz,hA0,hf0,hgsB⟩:=hA7.row0 (by omega)
        injection ev with ev1 ev2 ev3
        subst ev1
        subst ev3
        clear ev2
        obtain ⟨q0,hq0⟩:∃ q0,q0 = (L[0]'hL1').l:=⟨_,rfl⟩
        have hq8:q0.length<=8:=by rw [hq0];exact hL8.out _ (List.getElem_mem _)
        rw [<- hq0] at hA0
        obtain ⟨au,cu,rfl⟩:=hA0.form
        have Hq0:=zH hq0
        have hgl:gs < w7.heap.size:=(hA7.ownlt gs rfl).2
        have hgg:gs ≠ g:=by omega
        have hL0I:(0:Int) < (L.length:Int):=by omega
        have hL0n:0 < L.length:=hL1'
        have hu0:∀ b∈(Value.slice au q0.length cu).ownBlock.toList,b∈fs.flatten:=fun b hb=>by
         obtain ⟨h0,e0⟩:=List.getElem?_eq_some_iff.1 hf0
         exact List.mem_flatten.2 ⟨_,List.getElem_mem h0,by rw [e0];exact hb⟩
        have Hu0:=zH hu0
        have hsep:gs ∉ (Value.slice au q0.length cu).ownBlock.toList:=fun hm=>hA7.apart gs rfl (hu0 gs hm)
        have Hsep:=zH hsep
        have hgu:∀ b∈(Value.slice au q0.length cu).ownBlock.toList,w.heap.size + 1<=b:=fun b hb=>hF7.ge b (hu0 b hb)
        have Hgu:=zH hgu
        have hlen0:q0.length + 1<=1073741824:=by omega
        have x0:=B7.cell 0 rfl
        have HA7:=zH hA7
        have HF7:=zH hF7
        clear hq0 hu0 hsep hgu hA7 hF7
        go_wp2
        go_region_law (first
         | (go_simp;go_at_call 38;(with_reducible refine (Zcz g fc l x.points _ (D7.keep zC) hl Hp0.out).mono ?_);rintro en w8 ⟨y,rfl,hy,D8,K8⟩;have K78:Only [g] w7 w8:=Only.trans zC K8;have c08:=K78.cell (p:=⟨gs,0,none⟩) (by simpa using hgg) hc0;have z08:=Zgi hfz K78 hgl (by simpa using hgg);have B8:=B7.only K78 (by simp;omega);have x08:=B8.cell 0 rfl;have kal8:Only [] w8 (w8.alloc (.cells #[.int .i64 y] 2)):=zO.alloc _;have c08a:=kal8.cell (p:=⟨gs,0,none⟩) (by simp) c08;have A08:=hA0.only K78 (fun q hq hm=>by have:=Hgu.out q (by simp [hq]);simp at hm;omega);have Hy:=zH hy;clear hy;have hA8:=HA7.out.only K78 hfd.out hvd.out;have hF8:=HF7.out.only K78 hfd.out)
         | (refine Zey rfl (.tmp 47) (.tmp 52) 27 rfl 0 2 i0 _ Tryz.underlying27 hi hz0 hz1 hz2 rfl w8 (.slice au q0.length cu) q0 rfl A08 zC (Nat.zero_le _) _ 1 y rfl (lit1 _ _ _ rfl) Hy.out hlen0 ?_;intro v9 w9 hA9 hO9 hN9;obtain ⟨a9,c9,rfl⟩:=hA9.form;rw [List.length_append,List.length_singleton] at hA9 hN9;have c09:=hO9.cell (p:=⟨gs,0,none⟩) Hsep.out (kal8.cell (by simp) c08);have z09:=Zgi (Zgi z08 kal8 (Nat.lt_of_lt_of_le hgl K78.size) (by simp)) hO9 (Nat.lt_of_lt_of_le (Nat.lt_of_lt_of_le hgl K78.size) kal8.size) Hsep.out;have HA9:=zH hA9;clear hA9)
         | fail)
        all_goals
         go_wp2
         have hA9':AccI 0 2 w9 (.slice a9 (q0.length + 1) c9) ((L[0]'hL0n).l ++ [y]):=by rw [<- Hq0.out];exact HA9.out
         obtain ⟨hR,hsub⟩:=Acc.put0 hA8 hF8 hL0n (u:=.slice au q0.length cu) hf0 kal8 hA9' hO9 hN9 (by rw [c09];rfl)
         have hs8:w.heap.size<=w8.heap.size:=Nat.le_trans (by omega:w.heap.size<=w7.heap.size) K78.size
         have kst:Only [gs] w9 (w9.setCell ⟨gs,0,none⟩ (.slice a9 (q0.length + 1) c9)):=zO.setCell (by simp) _
         have hgg':g ≠ gs:=Ne.symm hgg
         go_meet
         refine ⟨_,_,hR,fun b hb=>?_,fun z hz=>?_,((D8.keep kal8).only hO9 (fun hm=>by have:=Hgu.out _ hm;omega) (fun b hb hm=>by have h1:=hfc b hb;have:=Hgu.out b hm;omega)).only kst (by simpa using hgg') (fun b hb hm=>by have h1:=hfc b hb;simp at hm;omega),(((k7.trans K78).alloc _).then_ hO9 (fun b hb hl=>by have:=Hgu.out b hb;omega)).then_ kst (fun b hb hl=>by simp at hb;omega)⟩
         ·rcases List.mem_append.1 hb with hb | hb
          ·have:b = gs:=by simpa using hb
           omega
          ·rcases hsub b hb with hb | hb
           ·have:=HF7.out.ge b hb;omega
           ·have:=kal8.size;omega
         ·rcases List.mem_or_eq_of_mem_set hz with hz | rfl
          ·exact H8.out z hz
          ·rw [<- Hq0.out,List.length_append,List.length_singleton];omega
       ·have e2:r = 2:=by omega
        subst e2
        have hAq:=Acc.ofOwn hA7
        have hml:(L.map OwnI.l).length<=3:=by rw [List.length_map];omega
        obtain ⟨M,hM⟩:∃ M,M = L.map OwnI.l:=⟨_,rfl⟩
        have h8M:∀ y∈M,y.length<=2097152:=by rw [hM];exact H8.out
        have hMl:L.length = M.length:=by rw [hM,List.length_map]
        rw [<- hM] at hAq hml
        rw [hMl] at hAq ⊢
        have H8M:=zH h8M
        have gF7:∀ b∈fs.flatten,w.heap.size + 1<=b:=hF7.ge
        have HgF:=zH gF7
        clear hM hMl h8M gF7
        go_wp2
        go_loopw [5] (fun o wr=>∃ (M:List (List Int)) (fs:List (List Nat)),Acc (w.heap.size + 1) 27 wr o M fs/\Hid (∀ y∈M,y.length<=2097152)/\Hid (∀ b∈fs.flatten,w.heap.size + 1<=b)/\M.length<=5/\Src wr g fc l/\Only [g] w wr/\w.heap.size + 2<=wr.heap.size)
         (fun o _=>10 - lenV o)
        case atStart=>exact ⟨M,fs,hAq,H8M,HgF,by omega,D7,k7,hs7⟩
        case round=>
         obtain ⟨W8,hnew⟩:∃ W,W = wr:=⟨_,rfl⟩
         subst hnew
         clear hAq H8M HgF hml D7 k7 hs7
         obtain ⟨M,fs,hAq,H8M,HgF,hml,D7,k7,hs7⟩:=hrel
         obtain ⟨aM,cM,rfl⟩:=hAq.form
         have hM1:M.length + 1<=1073741824:=by omega
         have HAq:=zH hAq
         clear hAq
         go_wp2_with (first
          | (go_at_call 83;(with_reducible refine (Zae g fc l 2 W8 D7 hl (by omega)).mono ?_);rintro e w8 ⟨y,rfl,y0,y1,D8,K78⟩;have hw4':IntKind.i64.wrap (4 + y) = 4 + y:=(by rw [IntKind.wrap_i64];omega);have hA8:=HAq.out.only K78 (fun q hq hm=>by have:=HgF.out q hq;simp at hm;omega) (fun q hq hm=>by have:=(HAq.out.ownlt q hq).1;simp at hm;omega);have hs8:w.heap.size + 1<=w8.heap.size:=Nat.le_trans (by omega:w.heap.size + 1<=W8.heap.size) K78.size)
          | (at_builtin;refine Zec (α:=List Int) rfl _ _ 24 rfl (w.heap.size + 1) 27 j0 _ 24 Tryz.underlying24 hj hj0 hj1 hj2 rfl (by decide) (by decide) w8 (.slice aM M.length cM) M fs rfl hA8 zC hs8 _ 1 [.slice (some ⟨w8.heap.size,0,none⟩) 1 1] [0] [w8.heap.size] rfl (lit_src _ [.slice (some ⟨w8.heap.size,0,none⟩) 1 1] _ (by simp)) (by intro u hu;simp at hu;subst hu;rfl) (zK (AccI.one (n:=0) (by unfold I64;omega) w8 w8.heap.size 2 rfl (Nat.le_refl _)).rd zC) ?hap hM1 ?_;(case hap=>(intro b hb he;have h2:=(hA8.ownlt b he).2;simp at hb;omega));intro v9 w9 hA9 hO9 hN9;replace hO9:Only (Value.slice aM M.length cM).ownBlock.toList _ w9:=hO9;have D9:=(D8.keep zC).only hO9 (fun hm=>by have:=(HAq.out.ownlt _ (by simpa using hm)).1;omega) (fun b hb hm=>by have h1:=hfc b hb;have:=(HAq.out.ownlt b (by simpa using hm)).1;omega);have k9:Only [g] w w9:=Only.then_ (show Only [g] w _ from Only.trans (k7.trans K78) zC) hO9 (fun b hb hl=>by have:=(HAq.out.ownlt b (by simpa using hb)).1;omega);have hs9:w.heap.size + 2<=w9.heap.size:=(by have h1:=K78.size;have h2:=hO9.size;simp at h2;omega))
          | fail)
         all_goals first
          | (go_meet;exact ⟨M,_,hA8.rd (by decide),fun b hb=>by
            rcases List.mem_append.1 hb with hb | hb
            ·have:=(HAq.out.ownlt b (by simpa using hb)).1;omega
            ·have:=HgF.out b hb;omega,H8M.out,D8,k7.trans K78⟩)
          | (
            go_roundw
            case rel=>exact ⟨M ++ [[0]],_,hA9,zH (fun z hz=>by
             rcases List.mem_append.1 hz with hz | hz
             ·exact H8M.out z hz
             ·rw [List.mem_singleton.1 hz];show 1<=2097152;omega),zH (fun b hb=>by
             rw [List.flatten_append] at hb
             rcases List.mem_append.1 hb with hb | hb
             ·exact HgF.out b hb
             ·have:b = w8.heap.size:=by simpa using hb
              omega),by rw [List.length_append,List.length_singleton];omega,D9,k9,hs9⟩
            case measure=>
             obtain ⟨a9,c9,rfl⟩:=hA9.form
             rw [List.length_append,List.length_singleton]
             show 10 - (M.length + 1) < 10 - M.length
             omega)
    case rest=>
     obtain ⟨W9,hnew⟩:∃ W,W = wc:=⟨_,rfl⟩
     subst hnew
     obtain ⟨L',f',q1,q2,q3,q4,q5⟩:=hcut
     go_wp2
     go_ret
     exact ⟨_,rfl,L',⟨f',q1,q2,q3,q4,q5⟩⟩
set_option maxHeartbeats 4000000 in
theorem Zmv (g:Nat) (fc:List Nat) (l:List UInt8) (n:Int) (vg:Value) (gs:List (List Int)) (fp:List Nat) (w:World) (h:Src w g fc l) (hl:l.length<=4096) (hn:I64 n) (hg:Rd w vg gs fp) (hfp:∀ b∈fp,b ≠ g) :
  Calls Tryz.prog 148 #[.pointer (some ⟨g,0,none⟩),.int .i64 n,vg] w fun e w'=>∃ v,∃ p:List Int,∃ f,e = .returned v/\Rd w' v p f/\Fresh w.heap.size w' f/\p.length<=60/\Src w' g fc l/\Only [g] w w':=by
 have hgl:=h.lt
 have hnb:=hn
 unfold I64 at hnb
 have Hnf:=zH (show ∀ b∈fp,b ∉ [g] from fun b hb hm=>hfp b hb (by simpa using hm))
 clear hn
 rcases hgs:gensB n gs
 ·obtain ⟨k,hk⟩:∃ k:Nat,min (max n 1) 7 = (k:Int):=⟨(min (max n 1) 7).toNat,by omega⟩
  have hk1:1<=k:=by omega
  have hk7:k<=7:=by omega
  have Hk:=zH hk
  have Hgs:=zH hgs
  have HcD:=zH (fun (W:World) (D:Src W g fc l)=>Zdg g fc l k W D hl ⟨hk1,by omega⟩)
  clear hgs
  go_enter Tryz.func148,Tryz.ntmps148
  go_wp2_with (first
   | (go_at_call 139;(with_reducible refine (Zcn n vg gs fp w hg).mono ?_);rintro e w1 ⟨he,t1⟩;rw [Hgs.out] at he;subst he;have t1:=t1.only [])
   | (go_at_call 147;(with_reducible refine (HcD.out w1 (h.keep t1)).mono ?_);rintro e w2 ⟨v2,p2,f2,rfl,r2,F2,l2,D2,K2⟩)
   | fail)
  go_ret
  exact ⟨v2,p2,f2,rfl,r2,F2.mono t1.size,by omega,D2,(t1.weaken [g]).trans K2⟩
 ·obtain ⟨⟨n1,n20⟩,hgl,hpn⟩:=Zgg.1 hgs
  obtain ⟨m,rfl⟩:=Int.eq_ofNat_of_zero_le (show 0<=n by omega)
  have hpn':∀ g∈gs,PM.PN m g:=by simpa using hpn
  obtain ⟨A,C,ob,fps,rfl,hfe,hS⟩:=id hg.open_
  have hb:=hS.bound
  have Hgs:=zH hgs
  have Hpn:=zH hpn'
  have Hfe:=zH hfe
  clear hgs hpn hpn' hfe
  go_enter Tryz.func148,Tryz.ntmps148
  go_wp2_with (first
   | (go_at_call 139;(with_reducible refine (Zcn (m:Int) (.slice A gs.length C) gs fp w hg).mono ?_);rintro e w1 ⟨he,t1⟩;rw [Hgs.out] at he;subst he;have t1:=t1.only [])
   | (go_at_call 74;(with_reducible refine (Zbn m w1 (by omega)).mono ?_);rintro e w2 ⟨v2,f2,rfl,r2,F2,t2⟩)
   | (go_at_call 83;(with_reducible refine (Zae g fc l 8 w2 ((h.keep t1).keep t2) hl (by omega)).mono ?_);rintro e w3 ⟨k,rfl,k0,k8,D3,K3⟩)
   | fail)
  have k2:Only [] w w2:=t1.trans t2
  have K3':Only [g] w w3:=(k2.weaken [g]).trans K3
  have hF2:Fresh w.heap.size w2 f2:=F2.mono t1.size
  have hd2:∀ b∈f2,b ∉ [g]:=fun b hb hm=>by have:=hF2.ge b hb;simp at hm;omega
  have r3:=Rp.only r2 K3 hd2
  have F3:=hF2.only K3 hd2
  have hPm:=PM.PN.id m
  have k8':k<=8:=by omega
  clear t1 t2 k2 K3 hF2 hd2 r2 F2
  go_loopw [7,8] (fun o x wr=>∃ (k:Int) (p:List Int) (f:List Nat),0<=k/\k<=8/\x = .int .i64 k/\Rd wr o p f/\PM.PN m p/\Fresh w.heap.size wr f/\Src wr g fc l/\Only [g] w wr)
   (fun _ x _=>(intOf x).toNat)
  case atStart=>exact ⟨k,_,f2,k0,k8',rfl,r3,hPm,F3,D3,K3'⟩
  case round=>
   obtain ⟨W2,hnew⟩:∃ W,W = wr:=⟨_,rfl⟩
   subst hnew
   clear r3 F3 D3 K3' hPm k8' k0 k8
   obtain ⟨k,p,f,k0,k8,rfl,hr,hp,hF,hD,hO⟩:=hrel
   have Hp:=zH hp
   have hdf:∀ b∈f,b ∉ [g]:=fun b hb hm=>by have:=hF.ge b hb;simp at hm;omega
   have Hdf:=zH hdf
   have hpl:p.length<=60:=by rw [hp.1];omega
   clear hp hdf
   by_cases hgo:0 < k/\0 < gs.length
   ·obtain ⟨h1,h2⟩:=hgo
    have h2I:(0:Int) < (gs.length:Int):=by omega
    have hw:IntKind.i64.wrap (k - 1) = k - 1:=by rw [IntKind.wrap_i64];omega
    go_wp2_with (first
     | (go_at_call 83;(with_reducible refine (Zae g fc l (gs.length:Int) W2 hD hl (by omega)).mono ?_);rintro e w4 ⟨r,rfl,r0,r1,D4,K4⟩;obtain ⟨q,rfl⟩:=Int.eq_ofNat_of_zero_le r0;have hql:q < gs.length:=(by omega);have hqI:(q:Int) < (gs.length:Int):=(by omega);obtain ⟨b,off,u,rfl,hob,hc0,hu0⟩:=hS.atRow q hql;have K4':=hO.trans K4;have hnb:b ∉ [g]:=Hnf.out b (by rw [Hfe.out,hob];simp);have cc:=K4'.cell hnb hc0;have hu4:=Rp.only hu0 K4' (fun b hb=>Hnf.out b (by rw [Hfe.out];exact List.mem_append_right _ (List.mem_flatten.2 ⟨_,List.getElem_mem _,hb⟩)));have hpm:=Hpn.out gs[q] (List.getElem_mem hql);have hr4:=Rp.only hr K4 Hdf.out;have F4:=hF.only K4 Hdf.out)
     | (go_at_call 79;(with_reducible refine (Zbg m _ u p gs[q] _ _ w4 hr4 hu4 Hp.out hpm (by omega)).mono ?_);rintro e w5 ⟨v5,f5,rfl,r5,F5,t5⟩)
     | fail)
    go_roundw
    case rel=>exact ⟨k - 1,_,f5,by omega,by omega,rfl,r5,Hp.out.comp hpm,F5.mono (by have:=K4'.size;omega),D4.keep t5,K4'.keepThen t5⟩
    case measure=>simp [intOf];omega
   ·have hend:¬ (0 < k)\/¬ ((0:Int) < (gs.length:Int)):=by
     by_cases h1:0 < k
     ·exact Or.inr (by omega)
     ·exact Or.inl h1
    clear hgo
    rcases hend with h1 | h1
    ·go_wp2_with (first
      | (go_at_call 84;(with_reducible refine (Zbf g fc l 3 W2 hD hl (by omega)).mono ?_);rintro e w4 ⟨b4,rfl,D4,K4⟩)
      | (go_at_call 147;(with_reducible refine (Zdg g fc l m w4 D4 hl ⟨by omega,by omega⟩).mono ?_);rintro e w5 ⟨v5,p5,f5,rfl,r5,F5,l5,D5,K5⟩)
      | fail)
     ·go_ret
      exact ⟨v5,p5,f5,rfl,r5,F5.mono (by have:=(hO.trans K4).size;omega),by omega,D5,(hO.trans K4).trans K5⟩
     ·go_ret
      exact ⟨u7,p,f,rfl,Rp.only hr K4 Hdf.out,hF.only K4 Hdf.out,hpl,D4,hO.trans K4⟩
    ·by_cases hk:0 < k
     ·go_wp2_with (first
       | (go_at_call 84;(with_reducible refine (Zbf g fc l 3 W2 hD hl (by omega)).mono ?_);rintro e w4 ⟨b4,rfl,D4,K4⟩)
       | (go_at_call 147;(with_reducible refine (Zdg g fc l m w4 D4 hl ⟨by omega,by omega⟩).mono ?_);rintro e w5 ⟨v5,p5,f5,rfl,r5,F5,l5,D5,K5⟩)
       | fail)
      ·go_ret
       exact ⟨v5,p5,f5,rfl,r5,F5.mono (by have:=(hO.trans K4).size;omega),by omega,D5,(hO.trans K4).trans K5⟩
      ·go_ret
       exact ⟨u7,p,f,rfl,Rp.only hr K4 Hdf.out,hF.only K4 Hdf.out,hpl,D4,hO.trans K4⟩
     ·go_wp2_with (first
       | (go_at_call 84;(with_reducible refine (Zbf g fc l 3 W2 hD hl (by omega)).mono ?_);rintro e w4 ⟨b4,rfl,D4,K4⟩)
       | (go_at_call 147;(with_reducible refine (Zdg g fc l m w4 D4 hl ⟨by omega,by omega⟩).mono ?_);rintro e w5 ⟨v5,p5,f5,rfl,r5,F5,l5,D5,K5⟩)
       | fail)
      ·go_ret
       exact ⟨v5,p5,f5,rfl,r5,F5.mono (by have:=(hO.trans K4).size;omega),by omega,D5,(hO.trans K4).trans K5⟩
      ·go_ret
       exact ⟨u7,p,f,rfl,Rp.only hr K4 Hdf.out,hF.only K4 Hdf.out,hpl,D4,hO.trans K4⟩
structure Down (x:Puzzle) (t:Table) (i:Nat) (n:Nat) (k:Nat) (j:Nat):Prop where
 hk:k < (ltrs x.moves.length).length
 l:descL x t (t.patterns.getD i []) n = (ltrs x.moves.length)[k]
 hj:j < t.patterns.length
 nx:t.patterns.getD j [] = nxt x (t.patterns.getD i []) (ltrs x.moves.length)[k]
 ds:t.distances.getD j 0 = n
 no:∀ m (hm:m < k),∀ i',i' < t.patterns.length->t.patterns.getD i' [] = nxt x (t.patterns.getD i []) ((ltrs x.moves.length)[m]'(Nat.lt_trans hm hk))->t.distances.getD i' 0 ≠ n/\¬ t.distances.getD i' 0 < (n:Int) + 1
section
variable {x:Puzzle} {t:Table}
theorem Built.down (h:Built x t) {i:Nat} (hi:i < t.patterns.length) {n:Nat} (hd:t.distances.getD i 0 = (n:Int) + 1):∃ k j,Down x t i n k j:=by
 have hg:=ent_nil.1 (h.good i hi)
 have hda:atD t i - 1 = (n:Int):=by rw [atD_nat,hd];omega
 have hne:descL x t (t.patterns.getD i []) (atD t i - 1) ≠ 0:=hg.2.2.2.2 (by rw [atD_nat,hd];omega)
 rw [hda] at hne
 rcases @Zre x t (t.patterns.getD i []) n with ⟨-,h1⟩ | ⟨k,hk,h1,h2⟩
 ·exact absurd h1 hne
 ·obtain ⟨-,hlead⟩:=Zqz hne
  obtain ⟨a1,a2⟩:=Zhf.1 hlead
  rw [h2] at a1 a2
  have hlt:=(idxL_lt (l:=t.patterns) (p:=nxt x (t.patterns.getD i []) (ltrs x.moves.length)[k])).2
  obtain ⟨j,hj⟩:∃ j:Nat,nextI x t (t.patterns.getD i []) (ltrs x.moves.length)[k] = j:=⟨_,(Int.toNat_of_nonneg a1).symm⟩
  have hjl:j < t.patterns.length:=by unfold nextI at hj;omega
  have hn:=Ztb a1
  unfold nextI at hj
  rw [hj,Int.toNat_natCast] at hn
  refine ⟨k,j,hk,h2,hjl,hn,?_,?_⟩
  ·unfold nextI at a2;rw [hj,atD_nat] at a2;exact a2
  ·intro m hm i' hi' e
   have hml:(ltrs x.moves.length)[m]'(Nat.lt_trans hm hk)∈ltrs x.moves.length:=List.getElem_mem _
   have hne2:t.distances.getD i' 0 ≠ n:=by
    intro e2
    have hl:leads x t (t.patterns.getD i []) n ((ltrs x.moves.length)[m]'(Nat.lt_trans hm hk)) = true:=by
     rw [Zhf]
     unfold nextI
     rw [<- e,h.idx hi',atD_nat]
     exact ⟨by omega,e2⟩
    have hno:∀ q∈(ltrs x.moves.length).take k,leads x t (t.patterns.getD i []) n q = false:=by
     have hf:dK x t (t.patterns.getD i []) n = k:=h1
     unfold dK idxF at hf
     cases hq:(ltrs x.moves.length).findIdx? (leads x t (t.patterns.getD i []) n) with
     | none=>rw [hq] at hf;simp at hf
     | some k'=>
      rw [hq] at hf
      have hf2:(k':Int) = k:=hf
      have:k' = k:=by omega
      subst this
      obtain ⟨_,_,hall⟩:=List.findIdx?_eq_some_iff_getElem.1 hq
      intro q hqm
      rw [List.mem_take_iff_getElem] at hqm
      obtain ⟨m',hm',rfl⟩:=hqm
      simpa using hall m' (by omega)
    have:=hno _ (List.mem_take_iff_getElem.2 ⟨m,by omega,rfl⟩)
    rw [hl] at this;cases this
   refine ⟨hne2,fun hlt2=>hne2 ?_⟩
   obtain ⟨i2,b1,b2,b3,b4⟩:=h.step hi hml
   have:i2 = i':=by
    have e3:=b2.trans e.symm
    rw [Zag b1,Zag hi'] at e3
    have hnd:t.patterns.Nodup:=h.bi.nd
    exact Zfm hnd b1 hi' e3
   subst this
   omega
end
open Go.Maps (Keyed)
theorem Tryz.zeroInt64 (w:World):(zeroValue 2).run Tryz.prog w = .ok (.int .i64 0) w:=by kernel_rfl
def Mq (w:World) (M k:Nat) (g:ByteArray->Option Int):Prop:=
 ∃ D:DataW Unit,w.ownsMap Tryz.prog 9 (plainElem Tryz.prog 2) M k D/\∀ s:ByteArray,s.size<=maxLen ->
  Go.Maps.has D (.string s.data.toList) = (g s).isSome/\∀ n,g s = some n->D.atKey (.string s.data.toList) (.lit (.int .i64 0)) = .lit (.int .i64 n)
theorem Mq.lt {w:World} {M k:Nat} {g:ByteArray->Option Int} (h:Mq w M k g):M < w.heap.size:=by
 obtain ⟨D,h1,-⟩:=h;exact h1.lt
theorem Mq.frame {w w':World} {M k:Nat} {g:ByteArray->Option Int} (h:Mq w M k g) (hf:w'.heap[M]? = w.heap[M]?):Mq w' M k g:=by
 obtain ⟨D,⟨es,c,h1,h2⟩,h3⟩:=h
 exact ⟨D,⟨es,c,by rw [hf];exact h1,h2⟩,h3⟩
theorem Mq.only {w w':World} {fp:List Nat} {M k:Nat} {g:ByteArray->Option Int} (h:Mq w M k g) (ho:Only fp w w') (hn:M ∉ fp):Mq w' M k g:=h.frame (ho.block M h.lt hn)
theorem Mq.keep {w w':World} {M k:Nat} {g:ByteArray->Option Int} (h:Mq w M k g) (ho:Only [] w w'):Mq w' M k g:=h.only ho (by simp)
theorem Mq.made (w:World) {M:Nat} (hM:M = w.heap.size):Mq (w.alloc (.map #[] 0)) M 0 (fun _=>none):=by
 subst hM
 exact ⟨.map [],World.ownsMap_made _ _ _ _,fun s _=>⟨rfl,by simp⟩⟩
theorem Mq.congr {w:World} {M k:Nat} {g g':ByteArray->Option Int} (h:Mq w M k g) (hg:∀ s,g s = g' s):Mq w M k g':=by
 have:g = g':=funext hg
 rw [<- this];exact h
section
variable {w:World} {M k:Nat} {g:ByteArray->Option Int}
theorem Mq.run_at (h:Mq w M k g) {s:ByteArray} (hs:s.size<=maxLen):(Instr.lookup 180 (.map (some M)) (.string s) false).run Tryz.prog w = .ok (.int .i64 ((g s).getD 0)) w:=by
 obtain ⟨D,hown,hg⟩:=h
 obtain ⟨h1,h2⟩:=hg s hs
 obtain ⟨c,hrun,hc1,-⟩:=hown.lookup_int Tryz.lawStr Tryz.underlying180 Tryz.underlying2 (Tryz.zeroInt64 w) (Go.WideMaps.keyOf_string_mk Tryz.underlying9 hs)
 have hcv:c = (g s).getD 0:=by
  cases hgs:g s with
  | none=>
   rw [hgs] at h1
   rw [Go.Maps.atKey_of_not_has h1] at hc1
   injection hc1 with hc1;injection hc1 with _ hc1;simp [hc1]
  | some n=>
   rw [h2 n hgs] at hc1
   injection hc1 with hc1;injection hc1 with _ hc1;simp [hc1]
 rw [hrun,hcv]
theorem Mq.run_at_yes (h:Mq w M k g) {s:ByteArray} (hs:s.size<=maxLen) {n:Int} (hg:g s = some n):(Instr.lookup 180 (.map (some M)) (.string s) false).run Tryz.prog w = .ok (.int .i64 n) w:=by
 rw [h.run_at hs,hg];rfl
theorem Mq.run_put (h:Mq w M k g) {s:ByteArray} (hs:s.size<=maxLen) {n:Int} (hn:I64 n) (hk:k < maxLen) :
  ∃ w',(Instr.mapUpdate 180 (.map (some M)) (.string s) (.int .i64 n)).run Tryz.prog w = .ok () w'/\Mq w' M (k + 1) (fun s'=>if s' = s then some n else g s')/\Only [M] w w':=by
 obtain ⟨D,hown,hg⟩:=h
 have hwf:(Lit.int .i64 n).wf = true:=WalkArith.wf_i64 hn
 obtain ⟨w',hrun,r1,r2⟩:=hown.store Tryz.lawStr Tryz.underlying180 hk (Go.WideMaps.keyOf_string_mk Tryz.underlying9 hs) (plainElem_int Tryz.underlying2 hwf)
 have hmap:=hown.isMap
 refine ⟨w',hrun,⟨_,r1,fun s' hs'=>?_⟩,?_⟩
 ·by_cases he:s' = s
  ·subst he
   have hkl:WideAt.IsKeyLit (Lit.string s'.data.toList):=trivial
   exact ⟨by rw [Go.Maps.has_put_same hmap hkl];simp,fun m' hm'=>by
    rw [Go.Maps.atKey_put_same hmap hkl];simp at hm';rw [hm']⟩
  ·have hne:(Lit.string s'.data.toList) ≠ .string s.data.toList:=by
    intro e;injection e with e
    apply he
    have:s'.data = s.data:=Array.toList_inj.1 e
    cases s';cases s;simp at this;rw [this]
   obtain ⟨h1,h2⟩:=hg s' hs'
   exact ⟨by rw [Go.Maps.has_put_other hne,h1];simp [he],fun m' hm'=>by
    rw [Go.Maps.atKey_put_other hne];simp [he] at hm';exact h2 m' hm'⟩
 ·exact zO.grown r2.grown (by intro j hj _;injection hj with hj;subst hj;simp)
end
structure KM where
 g:ByteArray->Option Int
instance:Rp KM where
 size:=1
 rep w cs x fp:=∃ M k,cs = [.map (some M)]/\fp = [M]/\Mq w M k x.g
 len h:=by obtain ⟨_,_,rfl,_⟩:=h;rfl
 frame h hf:=by
  obtain ⟨M,k,h1,h2,h3⟩:=h
  subst h2
  exact ⟨M,k,h1,rfl,h3.frame (hf M (by simp))⟩
 lt h:=by
  obtain ⟨M,k,h1,h2,h3⟩:=h
  subst h2
  intro b hb
  simp at hb;subst hb;exact h3.lt
section
variable {P:Program} {ops:Array Oper} {Q:Exit->Act->World->Prop} {md:Region.Mode} {I:Array Bool->Act->World->Prop}
theorem Zhd {listed:Array Bool} {i:Nat} (h:i∈Region.ready md ops listed):i < ops.size/\listed.getD i true = false:=by
 unfold Region.ready at h
 rw [List.mem_filter] at h
 obtain ⟨h1,h2⟩:=h
 rw [Bool.and_eq_true] at h2
 exact ⟨by simpa using h1,by simpa using h2.1⟩
theorem Zrl {l:List Bool} {i:Nat} (hi:i < l.length) (h:l[i] = false):(l.set i true).countP (· == false) + 1 = l.countP (· == false):=by
 induction l generalizing i with
 | nil=>simp at hi
 | cons b l ih=>
  cases i with
  | zero=>simp at h;subst h;simp
  | succ i=>
   simp at h hi
   rw [List.set_cons_succ,List.countP_cons,List.countP_cons,<- ih hi h]
   omega
theorem Znt (hstep:∀ listed a w i,listed.size = ops.size->I listed a w->i∈Region.ready md ops listed->wpOp P ops Q i (fun a' w'=>I (listed.setIfInBounds i true) a' w') a w)
  (hend:∀ listed a w,listed.size = ops.size->I listed a w->Region.ready md ops listed = []->Q .normal a w) :
  ∀ (fuel:Nat) (listed:Array Bool) (a:Act) (w:World),listed.size = ops.size->listed.toList.countP (· == false)<=fuel->I listed a w->wpAny P md ops Q fuel listed a w
 | 0,listed,a,w,hs,hc,h=>by
  have hr:Region.ready md ops listed = []:=by
   rw [List.eq_nil_iff_forall_not_mem]
   intro i hi
   obtain ⟨h1,h2⟩:=Zhd hi
   have h3:listed.toList.countP (· == false) = 0:=by omega
   rw [List.countP_eq_zero] at h3
   have hil:i < listed.size:=by omega
   have h4:listed[i] = false:=by simpa [Array.getD,hil] using h2
   have:=h3 listed[i] (by simp)
   simp [h4] at this
  exact ⟨hr,hend _ _ _ hs h hr⟩
 | fuel + 1,listed,a,w,hs,hc,h=>by
  refine ⟨fun hr=>hend _ _ _ hs h hr,fun i hi=>?_⟩
  refine wpOp_mono (fun a' w' h'=>?_) (hstep listed a w i hs h hi)
  obtain ⟨h1,h2⟩:=Zhd hi
  have hil:i < listed.size:=by omega
  have h4:listed[i] = false:=by simpa [Array.getD,hil] using h2
  refine Znt hstep hend fuel _ a' w' (by simpa using hs) ?_ h'
  have h5:=Zrl (l:=listed.toList) (i:=i) (by simpa using hil) (by simpa using h4)
  have h6:(listed.setIfInBounds i true).toList = listed.toList.set i true:=by simp
  rw [h6];omega
theorem Zod {id:Nat} {a:Act} {w:World} (hm:P.follows .mixedOrders = true)
  (h0:I (Array.replicate ops.size false) a { w with drawn:=w.drawn + 1 })
  (hstep:∀ listed a w i,listed.size = ops.size->I listed a w->i∈Region.ready .any ops listed->wpOp P ops Q i (fun a' w'=>I (listed.setIfInBounds i true) a' w') a w)
  (hend:∀ listed a w,listed.size = ops.size->I listed a w->Region.ready .any ops listed = []->Q .normal a w):(Code.region id ops true).wp P Q a w:=by
 refine wp_region_any hm (Znt hstep hend ops.size _ a _ (by simp) ?_ h0)
 have:=List.countP_le_length (p:=(· == false)) (l:=(Array.replicate ops.size false).toList)
 simpa using this
theorem Zrk {i:Nat} {o:Oper} {K:Act->World->Prop} {a:Act} {w:World} (ho:ops[i]? = some o) (hg:o.guard = none) (h:∀ K':Act->World->Prop,(∀ a w,K a w->K' a w)->Oper.wp P o a w K' Q):wpOp P ops Q i K a w:=
 wpOp_step ho (fun K' hK=>by rw [if_pos (by simp [Region.wanted,hg])];exact h K' hK)
theorem Zrv {listed:Array Bool} (h:Region.ready md ops listed = []) (hs:listed.size = ops.size) (hd:((List.range ops.size).all fun i=>((ops.toList[i]?).map fun o=>o.after.toList.all fun e=>decide (e.on < i)).getD true) = true):∀ i,i < ops.size->listed.getD i false = true:=by
 intro i
 induction i using Nat.strongRecOn with
 | ind i ih=>
  intro hi
  rcases hq:listed.getD i false
  ·exfalso
   have hm:i∈Region.ready md ops listed:=by
    unfold Region.ready
    rw [List.mem_filter,Bool.and_eq_true]
    refine ⟨by simpa using hi,?_,?_⟩
    ·rw [Array.getD_eq_getD_getElem?] at hq ⊢
     rw [Array.getElem?_eq_getElem (by omega)] at hq ⊢
     simpa using hq
    ·rw [Array.getElem?_eq_getElem hi]
     simp only [Option.map_some,Option.getD_some]
     rw [Array.all_eq_true]
     intro j hj
     rcases hb:Region.binds md ((ops[i]).after[j])
     ·rfl
     ·have hlt:((ops[i]).after[j]).on < i:=by
       rw [List.all_eq_true] at hd
       have h1:=hd i (by simpa using hi)
       rw [Array.getElem?_toList,Array.getElem?_eq_getElem hi] at h1
       simp only [Option.map_some,Option.getD_some,List.all_eq_true] at h1
       exact of_decide_eq_true (h1 _ (by simp))
      simpa using ih _ hlt (by omega)
   rw [h] at hm;cases hm
  ·rfl
theorem Zub (n i:Nat):(Array.replicate n false).getD i false = false:=by
 rw [Array.getD_eq_getD_getElem?]
 by_cases h:i < n
 ·rw [Array.getElem?_eq_getElem (by simpa using h)];simp
 ·rw [Array.getElem?_eq_none (by simpa using h)];rfl
theorem Zud {listed:Array Bool} {i k:Nat} (hk:k < listed.size):(listed.setIfInBounds k true).getD i false = true ↔ i = k\/listed.getD i false = true:=by
 simp only [Array.getD_eq_getD_getElem?]
 by_cases h:i = k
 ·subst h;simp [hk]
 ·have:¬ k = i:=fun e=>h e.symm
  simp [h,this]
end
theorem Zsu {x:Puzzle} (hv:validPz x = true) {wh:Bool} {L:List (List Int)} {D:List Int} (h:bFrom x 3001 0 ([PM.pts x.points.toNat],[0]) = if wh = true then some (L,D) else none):expl x = if wh = true then some ⟨PM.pts x.points.toNat,L,D⟩ else none:=by
 unfold expl bTab
 rw [Zek (by rw [hv,Zns hv];rfl),h]
 cases wh <;> rfl
def SrF (B:Nat) (w:World) (x:Puzzle) (t:Table) (v:Value):Prop:=∃ A1 A2 A3 C1 C2 C3 so ob fps fd fz,v = .agg #[.slice A1 t.patterns.length C1,.slice A2 t.distances.length C2,.slice A3 (List.length so) C3,.bool true]/\SrR w A1 A2 A3 C1 C2 C3 t.patterns t.distances so ob fps fd fz/\Srt x.points.toNat t.patterns so/\∀ g∈(ob ++ fps.flatten) ++ (fd ++ fz),B<=g
theorem SrF.only {B:Nat} {w w':World} {x:Puzzle} {t:Table} {v:Value} {fp:List Nat} (h:SrF B w x t v) (ho:Only fp w w') (hd:∀ g∈fp,g < B):SrF B w' x t v:=by
 obtain ⟨A1,A2,A3,C1,C2,C3,so,ob,fps,fd,fz,h1,h2,h3,h4⟩:=h
 exact ⟨A1,A2,A3,C1,C2,C3,so,ob,fps,fd,fz,h1,h2.only ho (fun g hg hm=>by have:=h4 g hg;have:=hd g hm;omega),h3,h4⟩
theorem SrF.keep {B:Nat} {w w':World} {x:Puzzle} {t:Table} {v:Value} (h:SrF B w x t v) (ho:Only [] w w'):SrF B w' x t v:=h.only ho (by simp)
theorem SrF.mono {B B':Nat} {w:World} {x:Puzzle} {t:Table} {v:Value} (h:SrF B w x t v) (hB:B'<=B):SrF B' w x t v:=by
 obtain ⟨A1,A2,A3,C1,C2,C3,so,ob,fps,fd,fz,h1,h2,h3,h4⟩:=h
 exact ⟨A1,A2,A3,C1,C2,C3,so,ob,fps,fd,fz,h1,h2,h3,fun g hg=>Nat.le_trans hB (h4 g hg)⟩
def SS1 (W wx:World) (x:Puzzle) (s4:Value):Prop:=
 ∃ g A1 A2 A3 C1 C2 C3 wh L D so ob fps fd fz,s4 = .pointer (some ⟨g,0,none⟩)/\Blk wx g [.slice A1 (List.length L) C1,.slice A2 (List.length D) C2,.slice A3 (List.length so) C3,.bool wh]/\SrR wx A1 A2 A3 C1 C2 C3 L D so ob fps fd fz /\
  (expl x = if wh = true then some ⟨PM.pts x.points.toNat,L,D⟩ else none)/\Srt x.points.toNat L so/\(∀ g'∈(ob ++ fps.flatten) ++ (fd ++ fz),W.heap.size<=g')/\Only [] W wx/\W.heap.size<=g
section
variable {W w5:World} {x:Puzzle} {g:Nat} {A1 A2 A3:Option Addr} {C1 C2 C3:Nat} {wh:Bool} {L:List (List Int)} {D:List Int} {so:List Nat} {ob:List Nat} {fps:List (List Nat)} {fd fz:List Nat} {cs:List Value} {e:TypeId}
theorem SS1.of (hz:Blk w5 g cs) (hcs:cs.length = 4) (hK:Only [] W w5) (hr:SrR w5 A1 A2 A3 C1 C2 C3 L D so ob fps fd fz) (he:expl x = if wh = true then some ⟨PM.pts x.points.toNat,L,D⟩ else none) (hs:Srt x.points.toNat L so)
  (hb:∀ g'∈(ob ++ fps.flatten) ++ (fd ++ fz),W.heap.size<=g') (hg:∀ g'∈(ob ++ fps.flatten) ++ (fd ++ fz),g' ≠ g) (hW:W.heap.size<=g) :
  SS1 W ((((w5.setCell ⟨g,0,none⟩ (.slice A1 L.length C1)).setCell ⟨g,1,none⟩ (.slice A2 D.length C2)).setCell ⟨g,2,none⟩ (.slice A3 so.length C3)).setCell ⟨g,3,none⟩ (.bool wh)) x (.pointer (some ⟨g,0,none⟩)):=by
 have ho:Only [g] w5 ((((w5.setCell ⟨g,0,none⟩ (.slice A1 L.length C1)).setCell ⟨g,1,none⟩ (.slice A2 D.length C2)).setCell ⟨g,2,none⟩ (.slice A3 so.length C3)).setCell ⟨g,3,none⟩ (.bool wh)):=(((zO.setCell (by simp) _).setCell (by simp) _).setCell (by simp) _).setCell (by simp) _
 have hbk:=(((hz.set 0 (.slice A1 L.length C1)).set 1 (.slice A2 D.length C2)).set 2 (.slice A3 so.length C3)).set 3 (.bool wh)
 refine ⟨g,A1,A2,A3,C1,C2,C3,wh,L,D,so,ob,fps,fd,fz,rfl,?_,hr.only ho (fun b hm hq=>hg b hm (by simpa using hq)),he,hs,hb,hK.then_ ho (by intro b hm hl;simp at hm;omega),hW⟩
 obtain ⟨u0,u1,u2,u3,rfl⟩:∃ u0 u1 u2 u3,cs = [u0,u1,u2,u3]:=by
  match cs,hcs with
  | [u0,u1,u2,u3],_=>exact ⟨u0,u1,u2,u3,rfl⟩
 simpa only [List.set] using hbk
theorem SS1.of2 (hK:Only [] W w5) (hr:SrR w5 A1 A2 A3 C1 C2 C3 L D so ob fps fd fz) (he:expl x = if wh = true then some ⟨PM.pts x.points.toNat,L,D⟩ else none) (hs:Srt x.points.toNat L so)
  (hb:∀ g'∈(ob ++ fps.flatten) ++ (fd ++ fz),W.heap.size<=g') (hg:g = w5.heap.size) :
  SS1 W (w5.alloc (.cells #[.slice A1 L.length C1,.slice A2 D.length C2,.slice A3 so.length C3,.bool wh] e)) x (.pointer (some ⟨g,0,none⟩)):=by
 subst hg
 have ho:Only [] w5 (w5.alloc (.cells #[.slice A1 L.length C1,.slice A2 D.length C2,.slice A3 so.length C3,.bool wh] e)):=zO.alloc _
 exact ⟨_,A1,A2,A3,C1,C2,C3,wh,L,D,so,ob,fps,fd,fz,rfl,Blk.new w5 [.slice A1 L.length C1,.slice A2 D.length C2,.slice A3 so.length C3,.bool wh] e,hr.keep ho,he,hs,hb,hK.trans ho,hK.size⟩
end
set_option maxHeartbeats 4000000 in
theorem Zfg (cs:List Value) (x:Puzzle) (fp:List Nat) (w:World) (h:Rp.rep w cs x fp) :
  Calls Tryz.prog 106 #[.agg cs.toArray] w fun e w'=>((expl x = none/\∃ A1 n1 C1 A2 n2 C2 A3 n3 C3 wh, e = .returned (.tuple #[.agg #[.slice A1 n1 C1,.slice A2 n2 C2,.slice A3 n3 C3,.bool wh],.bool false]))\/(∃ t,expl x = some t/\∃ v,e = .returned (.tuple #[v,.bool true])/\SrF w.heap.size w' x t v))/\Only [] w w':=by
 have h0:=h
 obtain ⟨v2,rfl,p0,p1,h2⟩:=h
 obtain ⟨A2,C2,_,_,rfl,-,-⟩:=h2.open_
 clear h2 p0 p1
 have X0:Blk ((w.alloc (.cells #[.int .i64 x.points,.string x.names,.slice A2 x.moves.length C2] 26)).alloc (.cells #[.slice none 0 0,.slice none 0 0,.slice none 0 0,.bool false] 78)) w.heap.size [.int .i64 x.points,.string x.names,.slice A2 x.moves.length C2]:=(Blk.new w [.int .i64 x.points,.string x.names,.slice A2 x.moves.length C2] 26).keep (zO.alloc _)
 have Y0:Blk ((w.alloc (.cells #[.int .i64 x.points,.string x.names,.slice A2 x.moves.length C2] 26)).alloc (.cells #[.slice none 0 0,.slice none 0 0,.slice none 0 0,.bool false] 78)) (w.heap.size + 1) [.slice none 0 0,.slice none 0 0,.slice none 0 0,.bool false]:=Blk.new_at (by simp)
 rcases hq:validPz x
 ·have Hn:=zH (Zsl hq)
  have Hq:=zH hq
  clear hq
  go_enter Tryz.func106,Tryz.ntmps106
  go_wp2_with (first
   | (go_at_call 131;(with_reducible refine (Zan [.int .i64 x.points,.string x.names,.slice A2 x.moves.length C2] x _ _ (zK h0 zA)).mono ?_);rintro e w1 ⟨he,t1⟩;rw [Hq.out] at he;subst he;have Y1:=Y0.keep t1;obtain ⟨g0,g1,g2,g3⟩:=Y1.c4;obtain ⟨p0,p1,p2,p3⟩:=Y1.f4)
   | fail)
  have K1:Only [] w w1:=zA
  have Yf:=(((Y1.set 0 (.slice none 0 0)).set 1 (.slice none 0 0)).set 2 (.slice none 0 0)).set 3 (.bool false)
  have kf:Only [] w ((((w1.setCell ⟨w.heap.size + 1,0,none⟩ (.slice none 0 0)).setCell ⟨w.heap.size + 1,1,none⟩ (.slice none 0 0)).setCell ⟨w.heap.size + 1,2,none⟩ (.slice none 0 0)).setCell ⟨w.heap.size + 1,3,none⟩ (.bool false)):=K1.then_ (((((Only.refl [w.heap.size + 1] w1).setCell (by simp) _).setCell (by simp) _).setCell (by simp) _).setCell (by simp) _) (by simp)
  obtain ⟨wf,hwf⟩:∃ wf,wf = ((((w1.setCell ⟨w.heap.size + 1,0,none⟩ (.slice none 0 0)).setCell ⟨w.heap.size + 1,1,none⟩ (.slice none 0 0)).setCell ⟨w.heap.size + 1,2,none⟩ (.slice none 0 0)).setCell ⟨w.heap.size + 1,3,none⟩ (.bool false)):=⟨_,rfl⟩
  rw [<- hwf] at Yf kf ⊢
  simp only [List.set] at Yf
  clear hwf g0 g1 g2 g3 p0 p1 p2 p3
  obtain ⟨r0,r1,r2,r3⟩:=Yf.c4
  exact bodyPost_ret (v:=.tuple #[.agg #[.slice none 0 0,.slice none 0 0,.slice none 0 0,.bool false],.bool false]) (by simp [results,Tryz.results106,go_sem,r0,r1,r2,r3]) rfl ⟨.inl ⟨Hn.out,_,_,_,_,_,_,_,_,_,_,rfl⟩,kf⟩
 ·have hf:=Zad hq
  obtain ⟨hp1,hp20,-,-⟩:=hf
  have Hq:=zH hq
  have hpt:=Zev (Zns hq)
  have Hp:=zH hpt
  have hpl:(PM.pts x.points.toNat).length<=1000:=by rw [PM.pts_len];omega
  have Hpl:=zH hpl
  clear hq hpt hpl
  go_enter Tryz.func106,Tryz.ntmps106
  go_upto_region 3 with (first
   | (go_at_call 131;(with_reducible refine (Zan [.int .i64 x.points,.string x.names,.slice A2 x.moves.length C2] x _ _ (zK h0 zA)).mono ?_);rintro e w1 ⟨he,t1⟩;rw [Hq.out] at he;subst he)
   | fail)
  have X1:=X0.keep t1
  have Y1:=Y0.keep t1
  have K1:Only [] w w1:=zA
  have hs1:w.heap.size + 2<=w1.heap.size:=by have:=t1.size;simp at this;omega
  obtain ⟨g0,g1,g2⟩:=X1.c3
  have ka:=(Only.refl [] w1).alloc (.cells #[.slice none 0 0,.slice none 0 0,.slice none 0 0,.bool false] 78)
  have ga0:=ka.cell (by simp) g0
  have ga1:=ka.cell (by simp) g1
  have ga2:=ka.cell (by simp) g2
  clear X0 Y0 t1
  have hc4:([.slice none 0 0,.slice none 0 0,.slice none 0 0,.bool false]:List Value).length = 4:=rfl
  go_cut [4] (fun s4 wx=>SS1 w1 wx x s4)
  case first=>
   go_region_law (first
    | (go_simp;go_at_call 74;(with_reducible refine (Zgv x.points _ (by omega) (by omega)).mono ?_);rintro e w5 ⟨v5,f5,rfl,r5,F5,t5⟩;have hz5:=t5.size;(try simp at hz5);have X5:=X1.keep ((by with_reducible repeat (first | exact Only.refl _ _ | assumption | refine Only.drew ?_ | refine Only.alloc ?_ _ | refine Only.trans ?_ (by assumption))):Only [] w1 w5);obtain ⟨q0,q1,q2⟩:=X5.c3;have kb:=(Only.refl [] w5).alloc (.cells #[.slice none 0 0,.slice none 0 0,.slice none 0 0,.bool false] 78);have qa0:=kb.cell (by simp) q0;have qa1:=kb.cell (by simp) q1;have qa2:=kb.cell (by simp) q2)
    | (go_simp;go_at_call 163;(with_reducible refine (Zgw [.int .i64 x.points,.string x.names,.slice A2 x.moves.length C2] x _ _ (PM.pts x.points.toNat) _ _ (zK h0 zA) (zK r5 zA) Hq.out Hp.out Hpl.out).mono ?_);rintro e w2 ⟨B1,B2,B3,D1,D2,D3,n3,wh,L,D,fL,fD,rfl,o1,o2,o3,t2,o4,o5,o6,o7,so,ob,fps,fd,fz,o8,o9,o10,o11⟩;have O3:=zH (Zsu Hq.out o3);have O10:=zH o10;have O11:=zH o11;subst o8;clear o3 o10 o11 o1 o2 o4 o5 o6 o7;have hz2:=t2.size;(try simp at hz2);first
    | (have Z:=((Blk.new w1 [.slice none 0 0,.slice none 0 0,.slice none 0 0,.bool false] 78).keep t5).keep t2;obtain ⟨g0,g1,g2,g3⟩:=Z.c4;obtain ⟨p0,p1,p2,p3⟩:=Z.f4)
    | (have Z:=(((Blk.new w1 [.slice none 0 0,.slice none 0 0,.slice none 0 0,.bool false] 78).keep ((Only.refl [] _).drew)).keep t5).keep t2;obtain ⟨g0,g1,g2,g3⟩:=Z.c4;obtain ⟨p0,p1,p2,p3⟩:=Z.f4)
    | (have Z:=((Blk.new w5 [.slice none 0 0,.slice none 0 0,.slice none 0 0,.bool false] 78)).keep t2;obtain ⟨g0,g1,g2,g3⟩:=Z.c4;obtain ⟨p0,p1,p2,p3⟩:=Z.f4)
    | (have Z:=((Blk.new w5 [.slice none 0 0,.slice none 0 0,.slice none 0 0,.bool false] 78).keep ((Only.refl [] _).drew)).keep t2;obtain ⟨g0,g1,g2,g3⟩:=Z.c4;obtain ⟨p0,p1,p2,p3⟩:=Z.f4)
    | (have Z:=Blk.new w2 [.slice none 0 0,.slice none 0 0,.slice none 0 0,.bool false] 78;obtain ⟨g0,g1,g2,g3⟩:=Z.c4;obtain ⟨p0,p1,p2,p3⟩:=Z.f4))
    | fail)
   all_goals go_wp2_with fail
   all_goals go_meet
   all_goals have KK5:Only [] w1 w2:=(by with_reducible repeat (first | exact Only.refl _ _ | assumption | refine Only.drew ?_ | refine Only.alloc ?_ _ | refine Only.trans ?_ (by assumption)))
   all_goals have hK2:w1.heap.size<=w5.heap.size:=(by omega)
   all_goals have hbb:∀ g'∈(ob ++ fps.flatten) ++ (fd ++ fz),w1.heap.size<=g':=(fun g' hg'=>by have:=O11.out g' hg';first | omega | (simp at this;omega))
   all_goals have h10:=O10.out
   all_goals rw [PM.pts_len] at h10
   all_goals first
    | with_reducible exact SS1.of2 KK5 o9 O3.out h10 hbb rfl
    | with_reducible exact SS1.of Z hc4 KK5 o9 O3.out h10 hbb (fun g' hg' e'=>by have:=O11.out g' hg';first | omega | (simp at this;omega)) (by omega)
  case rest=>
   have q7:=hcut
   clear hcut
   obtain ⟨b,B1,B2,B3,D1,D2,D3,wh,L,D,so,ob,fps,fd,fz,rfl,B4,o9',o3,o10,o11,K3',hbw⟩:=q7
   have O3:=zH o3
   have O10:=zH o10
   have K3:=K1.trans K3'
   have Y1:=Y1.keep K3'
   have hne:b ≠ w.heap.size + 1:=by omega
   obtain ⟨c0,c1,c2,c3⟩:=B4.c4
   clear o3 o10 g0 g1 g2 ga0 ga1 ga2 ka
   obtain ⟨g0,g1,g2,g3⟩:=Y1.c4
   obtain ⟨p0,p1,p2,p3⟩:=Y1.f4
   have Yf:=(((Y1.set 0 (.slice B1 L.length D1)).set 1 (.slice B2 D.length D2)).set 2 (.slice B3 so.length D3)).set 3 (.bool wh)
   simp only [List.set] at Yf
   obtain ⟨r0,r1,r2,r3⟩:=Yf.c4
   have hno:∀ g∈(ob ++ fps.flatten) ++ (fd ++ fz),g ∉ [w.heap.size + 1]:=fun g hg hm=>by have:=o11 g hg;simp at hm;omega
   have hpost:∀ wf,Only [w.heap.size + 1] wc wf->(((expl x = none/\∃ A1 n1 C1 A2 n2 C2 A3 n3 C3 wh',(Ending.returned (.tuple #[.agg #[.slice B1 L.length D1,.slice B2 D.length D2,.slice B3 so.length D3,.bool wh],.bool wh]):Ending) = .returned (.tuple #[.agg #[.slice A1 n1 C1,.slice A2 n2 C2,.slice A3 n3 C3,.bool wh'],.bool false]))\/(∃ t,expl x = some t/\∃ v,(Ending.returned (.tuple #[.agg #[.slice B1 L.length D1,.slice B2 D.length D2,.slice B3 so.length D3,.bool wh],.bool wh]):Ending) = .returned (.tuple #[v,.bool true])/\SrF w.heap.size wf x t v))/\Only [] w wf):=fun wf ho=>by
    refine ⟨?_,K3.then_ ho (by simp)⟩
    have h3:=O3.out
    have h10:=O10.out
    cases wh with
    | false=>exact .inl ⟨by simpa using h3,_,_,_,_,_,_,_,_,_,_,rfl⟩
    | true=>exact .inr ⟨⟨PM.pts x.points.toNat,L,D⟩,by simpa using h3,_,rfl,B1,B2,B3,D1,D2,D3,so,ob,fps,fd,fz,rfl,o9'.only ho hno,h10,fun g hg=>Nat.le_trans K1.size (o11 g hg)⟩
   have Hpost:=zH hpost
   clear hpost
   go_wp2
   go_region
   all_goals go_wp2
   all_goals exact bodyPost_ret (v:=.tuple #[.agg #[.slice B1 L.length D1,.slice B2 D.length D2,.slice B3 so.length D3,.bool wh],.bool wh]) (by simp [results,Tryz.results106,go_sem,r0,r1,r2,r3]) rfl (Hpost.out _ (by with_reducible repeat (first | exact Only.refl _ _ | refine Only.drew ?_ | refine Only.setCell ?_ (by simp) _)))
end Go.Proofs.YthleokaeobdamaaGreat
