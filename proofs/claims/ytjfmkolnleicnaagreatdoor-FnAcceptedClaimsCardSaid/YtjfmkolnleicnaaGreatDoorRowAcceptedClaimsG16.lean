/- The program's search of all states (laws 20, 38). -/
import Derived.Test.YtjfmkolnleicnaaGreatDoorRowAcceptedClaimsG11
import Derived.Test.YtjfmkolnleicnaaGreatDoorRowAcceptedClaimsG15
import Derived.Test.YtjfmkolnleicnaaGreatDoorRowAcceptedClaimsG10
import Derived.Deep.DeepCutAuto
import Derived.Deep.RegionLaw
import Derived.Test.YtjfmkolnleicnaaGreatDoorRowAcceptedClaimsG4
import Derived.Test.YtjfmkolnleicnaaGreatDoorRowAcceptedClaimsG3
import Derived.Test.YtjfmkolnleicnaaGreatDoorRowAcceptedClaimsG9
namespace Go.Proofs.YtjfmkolnleicnaaGreatDoor
open Go.RowKit
set_option maxRecDepth 10000
theorem Zqq (x:Puzzle):inR (if validPz x = true then (cardG x:Int) else 0) 1 3000 = (expl x).isSome:=by
 rcases hv:validPz x
 ·rw [Zog hv];rfl
 ·have h1:=Ztu hv
  have h2:=Zrk hv
  rw [if_pos rfl]
  rcases he:expl x with _ | t
  ·have:¬ cardG x<=3000:=fun hc=>by obtain ⟨t,ht⟩:=h2.2 hc;rw [he] at ht;cases ht
   have h3:¬ (inR (cardG x:Int) 1 3000 = true):=fun h=>by have:=inR_iff.1 h;omega
   simpa using h3
  ·have hc:=h2.1 ⟨t,he⟩
   exact inR_iff.2 ⟨by omega,by omega⟩
def BlkT (w:World) (g:Nat) (cs:List Value) (t:TypeId):Prop:=w.heap[g]? = some (.cells cs.toArray t (0,0))
theorem BlkT.only {w w':World} {g:Nat} {cs:List Value} {t:TypeId} {fp:List Nat} (h:BlkT w g cs t) (ho:Only fp w w') (hg:g ∉ fp):BlkT w' g cs t:=
 (ho.block g (Array.getElem?_eq_some_iff.1 h).1 hg).trans h
theorem BlkT.new (w:World) (cs:List Value) (t:TypeId):BlkT (w.alloc (.cells cs.toArray t)) w.heap.size cs t:=heap_alloc_new w _
theorem Acc.ofT {α:Type} [Rp α] {w:World} {B:Nat} {e:TypeId} {cs:List Value} {x:α} {fp:List Nat} {g:Nat} (hb:BlkT w g cs e) (h:Rp.rep w cs x fp) (hB:B<=g) (hn:g ∉ fp):Acc B e w (.slice (some ⟨g,0,none⟩) 1 1) [x] [fp]:=by
 refine ⟨⟨[cs],⟨by simp [Rp.len h],.inr ⟨g,1,cs.toArray,rfl,hB,hb,Nat.le_refl _,by unfold maxLen;omega,by simp [Rp.len h],by simpa using List.take_of_length_le (Nat.le_of_eq (Rp.len h))⟩⟩,rfl,fun k h1 h2 h3=>?_⟩,rfl,?_⟩
 ·have:k = 0:=by simpa using h1
  subst this
  exact h
 ·intro g' hg hm
  simp only [Value.ownBlock,Option.some.injEq] at hg
  subst hg
  exact hn (by simpa using hm)
def EX0 (x:Puzzle) (v2 vst:Value) (W wx:World) (s5:Value):Prop:=
 ∃ g M gs gd gp gy,s5 = .pointer (some ⟨g,0,none⟩)/\Blk wx g [.int .i64 x.points,.string x.names,v2,.slice (some ⟨gs,0,none⟩) 1 1,.slice (some ⟨gd,0,none⟩) 1 1,.map (some M),.slice (some ⟨gp,0,none⟩) 1 1,.slice (some ⟨gy,0,none⟩) 1 1,.slice none 0 0] /\
  BlkT wx gs [vst] 27/\BlkT wx gd [.int .i64 0] 2/\BlkT wx gp [.int .i64 0] 2/\BlkT wx gy [.int .i64 0] 2/\Mq wx M 1 (firstG [PM.pts x.points.toNat])/\[g,M,gs,gd,gp,gy].Nodup/\(∀ b∈[g,M,gs,gd,gp,gy],W.heap.size<=b)/\Only [] W wx
def eAl:List Nat:=[2,3,4,9,10,12]
def eSl:Nat->Option Nat
 | 0=>some 21 | 1=>some 22 | 2=>some 23 | 3=>some 24 | 4=>some 25 | 5=>some 26 | 6=>some 27 | 7=>none | 8=>some 28 | 9=>some 29 | 10=>some 30 | 11=>some 31 | 12=>some 32 | 13=>some 5 | _=>none
def eJs:Nat->List Nat
 | 2=>[2] | 3=>[3] | 4=>[4] | 7=>[4] | 8=>[4] | 9=>[9] | 10=>[10] | 11=>[2,3,4,9,10] | 12=>[2,3,4,9,10,12] | 13=>[12] | _=>[]
def eCells (x:Puzzle) (v2:Value) (f:Nat->Nat):List Value:=[.int .i64 x.points,.string x.names,v2,.slice (some ⟨f 2,0,none⟩) 1 1,.slice (some ⟨f 3,0,none⟩) 1 1,.map (some (f 4)),.slice (some ⟨f 9,0,none⟩) 1 1,.slice (some ⟨f 10,0,none⟩) 1 1,.slice none 0 0]
def eAgg (x:Puzzle) (v2:Value) (f:Nat->Nat):Value:=.agg (eCells x v2 f).toArray
def eF (x:Puzzle) (v2 vst:Value) (f:Nat->Nat) (a:Act) (w:World):Nat->Prop
 | 0=>At a 21 (.agg #[.int .i64 x.points,.string x.names,v2])
 | 1=>At a 22 vst
 | 2=>At a 23 (.slice (some ⟨f 2,0,none⟩) 1 1)/\BlkT w (f 2) [vst] 27
 | 3=>At a 24 (.slice (some ⟨f 3,0,none⟩) 1 1)/\BlkT w (f 3) [.int .i64 0] 2
 | 4=>At a 25 (.map (some (f 4)))
 | 5=>At a 26 vst
 | 6=>At a 27 (.string (kB (PM.pts x.points.toNat)))
 | 7=>Mq w (f 4) 1 (firstG [PM.pts x.points.toNat])
 | 8=>At a 28 (.map (some (f 4)))
 | 9=>At a 29 (.slice (some ⟨f 9,0,none⟩) 1 1)/\BlkT w (f 9) [.int .i64 0] 2
 | 10=>At a 30 (.slice (some ⟨f 10,0,none⟩) 1 1)/\BlkT w (f 10) [.int .i64 0] 2
 | 11=>At a 31 (eAgg x v2 f)
 | 12=>At a 32 (.pointer (some ⟨f 12,0,none⟩))/\Blk w (f 12) (eCells x v2 f)
 | 13=>At a 5 (.pointer (some ⟨f 12,0,none⟩))
 | _=>True
structure EI (x:Puzzle) (v2 vst:Value) (W:World) (a0:Act) (ls:Array Bool) (a:Act) (w:World) (f:Nat->Nat):Prop where
 on:Only [] W w
 fr:RI a0 [5,21,22,23,24,25,26,27,28,29,30,31,32] a
 rng:∀ i∈eAl,ls.getD i false = true->W.heap.size<=f i/\f i < w.heap.size
 inj:∀ i∈eAl,∀ j∈eAl,i ≠ j->ls.getD i false = true->ls.getD j false = true->f i ≠ f j
 ft:∀ i,ls.getD i false = true->eF x v2 vst f a w i
 m0:ls.getD 4 false = true->ls.getD 7 false = false->Mq w (f 4) 0 (fun _=>none)
 clo:∀ i,ls.getD i false = true->∀ j∈eJs i,ls.getD j false = true
theorem eF_move {x:Puzzle} {v2 vst:Value} {f f':Nat->Nat} {a:Act} {w w':World} {i:Nat} {t:Option Nat} {v:Value} {fp:List Nat} (h:eF x v2 vst f a w i) (hf:∀ j∈eJs i,f' j = f j) (ht:∀ u,t = some u->eSl i ≠ some u) (ho:Only fp w w') (hd:∀ j∈eJs i,j∈eAl->f j ∉ fp\/(i ≠ 7/\j = 4)):eF x v2 vst f' (a.put t v) w' i:=by
 have hA:∀ u z,At a u z->eSl i = some u->At (a.put t v) u z:=fun u z h1 h2=>by
  cases t with
  | none=>exact h1
  | some t=>exact h1.ne (fun e=>ht t rfl (by rw [e];exact h2))
 match i,h,hf,hd,hA with
 | 0,h,_,_,hA=>exact hA _ _ h rfl
 | 1,h,_,_,hA=>exact hA _ _ h rfl
 | 2,h,hf,hd,hA=>exact ⟨by rw [hf 2 (by decide)];exact hA _ _ h.1 rfl,by rw [hf 2 (by decide)];exact h.2.only ho ((hd 2 (by decide) (by decide)).resolve_right (by simp))⟩
 | 3,h,hf,hd,hA=>exact ⟨by rw [hf 3 (by decide)];exact hA _ _ h.1 rfl,by rw [hf 3 (by decide)];exact h.2.only ho ((hd 3 (by decide) (by decide)).resolve_right (by simp))⟩
 | 4,h,hf,_,hA=>show At _ _ _;rw [hf 4 (by decide)];exact hA _ _ h rfl
 | 5,h,_,_,hA=>exact hA _ _ h rfl
 | 6,h,_,_,hA=>exact hA _ _ h rfl
 | 7,h,hf,hd,hA=>show Mq _ _ _ _;rw [hf 4 (by decide)];exact h.only ho ((hd 4 (by decide) (by decide)).resolve_right (by simp))
 | 8,h,hf,_,hA=>show At _ _ _;rw [hf 4 (by decide)];exact hA _ _ h rfl
 | 9,h,hf,hd,hA=>exact ⟨by rw [hf 9 (by decide)];exact hA _ _ h.1 rfl,by rw [hf 9 (by decide)];exact h.2.only ho ((hd 9 (by decide) (by decide)).resolve_right (by simp))⟩
 | 10,h,hf,hd,hA=>exact ⟨by rw [hf 10 (by decide)];exact hA _ _ h.1 rfl,by rw [hf 10 (by decide)];exact h.2.only ho ((hd 10 (by decide) (by decide)).resolve_right (by simp))⟩
 | 11,h,hf,_,hA=>show At _ _ _;unfold eAgg eCells;rw [hf 2 (by decide),hf 3 (by decide),hf 4 (by decide),hf 9 (by decide),hf 10 (by decide)];exact hA _ _ h rfl
 | 12,h,hf,hd,hA=>exact ⟨by rw [hf 12 (by decide)];exact hA _ _ h.1 rfl,by unfold eCells;rw [hf 2 (by decide),hf 3 (by decide),hf 4 (by decide),hf 9 (by decide),hf 10 (by decide),hf 12 (by decide)];exact h.2.only ho ((hd 12 (by decide) (by decide)).resolve_right (by simp))⟩
 | 13,h,hf,_,hA=>show At _ _ _;rw [hf 12 (by decide)];exact hA _ _ h rfl
 | _ + 14,_,_,_,_=>trivial
theorem EI.upd {x:Puzzle} {v2 vst:Value} {W:World} {a0:Act} {ls:Array Bool} {a:Act} {w w':World} {f f':Nat->Nat} {k:Nat} {t:Option Nat} {v:Value} {fp:List Nat} (h:EI x v2 vst W a0 ls a w f) (hk:k < 14) (hs:ls.size = 14) (hu:ls.getD k false = false) (ht:t = eSl k)
  (ho:Only fp w w') (hfp:fp = []\/(k = 7/\fp = [f 4]/\ls.getD 4 false = true)) (hf:∀ i,i ≠ k->f' i = f i) (hal:k∈eAl->f' k = w.heap.size/\w.heap.size < w'.heap.size)
  (hdep:∀ j∈eJs k,j ≠ k->ls.getD j false = true) (hnew:eF x v2 vst f' (a.put t v) w' k) (hm:k = 4->Mq w' (f' 4) 0 (fun _=>none)):EI x v2 vst W a0 (ls.setIfInBounds k true) (a.put t v) w' f':=by
 have hg:∀ i,(ls.setIfInBounds k true).getD i false = true ↔ i = k\/ls.getD i false = true:=fun i=>Zvc (by omega)
 have hne:∀ j,ls.getD j false = true->j ≠ k:=fun j hj e=>by rw [e,hu] at hj;cases hj
 have hsz:=ho.size
 have hno:∀ j∈eAl,ls.getD j false = true->j ≠ 4->f j ∉ fp:=fun j hj hl h4 hm=>by
  rcases hfp with e | ⟨-,e,e4⟩
  ·rw [e] at hm;cases hm
  ·rw [e] at hm;exact h.inj j hj 4 (by decide) h4 hl e4 (by simpa using hm)
 refine ⟨?_,?_,fun i hi hl=>?_,fun i hi j hj hij hl hl'=>?_,fun i hl=>?_,fun h4 h7=>?_,fun i hl j hj=>?_⟩
 ·refine h.on.then_ ho (fun b hb hlt=>?_)
  rcases hfp with e | ⟨-,e,e4⟩
  ·rw [e] at hb;cases hb
  ·rw [e] at hb
   have:=(h.rng 4 (by decide) e4).1
   simp at hb;omega
 ·cases t with
  | none=>exact h.fr
  | some t=>
   refine h.fr.put ?_
   match k,hk,ht with
   | 0,_,e | 1,_,e | 2,_,e | 3,_,e | 4,_,e | 5,_,e | 6,_,e | 8,_,e | 9,_,e | 10,_,e | 11,_,e | 12,_,e | 13,_,e=>injection e with e;subst e;decide
   | 7,_,e=>cases e
 ·rcases (hg i).1 hl with rfl | hl
  ·have:=hal hi;have:=h.on.size;omega
  ·rw [hf i (hne i hl)]
   have:=h.rng i hi hl;omega
 ·rcases (hg i).1 hl with e | q
  ·rcases (hg j).1 hl' with e' | q'
   ·exact absurd (e.trans e'.symm) hij
   ·have r:=h.rng j hj q'
    rw [e,(hal (by rw [<- e];exact hi)).1,hf j (hne j q')];omega
  ·rcases (hg j).1 hl' with e' | q'
   ·have r:=h.rng i hi q
    rw [e',(hal (by rw [<- e'];exact hj)).1,hf i (hne i q)];omega
   ·rw [hf i (hne i q),hf j (hne j q')];exact h.inj i hi j hj hij q q'
 ·rcases (hg i).1 hl with rfl | hl
  ·exact hnew
  ·have hik:=hne i hl
   refine eF_move (h.ft i hl) (fun j hj=>hf j (hne j (h.clo i hl j hj))) (fun u hu' e=>?_) ho (fun j hj hja=>?_)
   ·rw [ht] at hu'
    have e2:eSl i = eSl k:=e.trans hu'.symm
    have hi14:i < 14:=by
     rcases Nat.lt_or_ge i 14 with h1 | h1
     ·exact h1
     ·rw [Array.getD_eq_getD_getElem?,Array.getElem?_eq_none (by omega)] at hl;cases hl
    have:∀ i,i < 14->∀ k,k < 14->eSl k = eSl i->eSl k ≠ none->i = k:=by decide
    exact hik (this i hi14 k hk e2.symm (by rw [hu'];simp))
   ·by_cases h4:j = 4
    ·subst h4
     rcases hfp with e | ⟨e7,-,-⟩
     ·left;rw [e];simp
     ·right;exact ⟨by omega,rfl⟩
    ·exact .inl (hno j hja (h.clo i hl j hj) h4)
 ·have h7n:k ≠ 7:=fun e=>by
   have:=(hg 7).2 (.inl e.symm)
   rw [h7] at this;cases this
  have hfe:fp = []:=by
   rcases hfp with e | ⟨e,-⟩
   ·exact e
   ·exact absurd e h7n
  rcases (hg 4).1 h4 with e | h4
  ·exact hm e.symm
  ·rw [hf 4 (hne 4 h4)]
   have h7':ls.getD 7 false = false:=by
    rcases hq:ls.getD 7 false
    ·rfl
    ·have:=(hg 7).2 (.inr hq);rw [h7] at this;cases this
   exact (h.m0 h4 h7').only ho (by rw [hfe];simp)
 ·rcases (hg i).1 hl with rfl | hl
  ·by_cases hji:j = i
   ·exact (hg j).2 (.inl hji)
   ·exact (hg j).2 (.inr (hdep j hj hji))
  ·exact (hg j).2 (.inr (h.clo i hl j hj))
set_option maxHeartbeats 4000000 in
theorem Zrl (cs:List Value) (x:Puzzle) (fp:List Nat) (w:World) (h:Rp.rep w cs x fp) (he:expl x = none) :
  Calls Tryz.prog 105 #[.agg cs.toArray] w fun e w'=>e = .returned (.tuple #[.pointer none,.bool false])/\Only [] w w':=by
 have h0:=h
 obtain ⟨v2,rfl,p0,p1,h2⟩:=h
 clear p0 p1 h2
 have hin:=Zqq x
 rw [he] at hin
 have Hin:=zH hin
 clear he hin
 obtain ⟨c,hc⟩:∃ c,c = (if validPz x = true then (cardG x:Int) else 0):=⟨_,rfl⟩
 rw [<- hc] at Hin
 have Hc:=zH hc
 clear hc
 go_enter Tryz.func105,Tryz.ntmps105
 go_wp2_with (first
  | (go_at_call 140;(with_reducible refine (Zfb [.int .i64 x.points,.string x.names,v2] x _ _ (zK h0 zA)).mono ?_);rintro e w1 ⟨he,t1⟩;rw [<- Hc.out] at he;subst he)
  | (go_at_call 120;(with_reducible refine (Zay c 1 3000 _).mono ?_);rintro e w1 ⟨he,rfl⟩;rw [Hin.out] at he;subst he)
  | fail)
 exact bodyPost_ret (v:=.tuple #[.pointer none,.bool false]) (by simp [results,Tryz.results105,go_sem]) rfl ⟨rfl,zA⟩
def xeF (g M:Nat) (us ud up uy un ur:Value):List (List Nat):=[[g],[M],us.ownBlock.toList,ud.ownBlock.toList,up.ownBlock.toList,uy.ownBlock.toList,un.ownBlock.toList,ur.ownBlock.toList]
theorem ro_set {cs:List (List Nat)} {i b n:Nat} {c c':List Nat} (h:b < n/\∀ d∈cs,b ∉ d) (hi:cs[i]? = some c) (hn:∀ b∈c',b∈c\/n<=b):∀ d∈cs.set i c',b ∉ d:=by
 intro d hd hb
 rcases List.mem_or_eq_of_mem_set hd with h1 | rfl
 ·exact h.2 d h1 hb
 ·rcases hn b hb with h2 | h2
  ·exact h.2 c (List.mem_of_getElem? hi) h2
  ·omega
theorem Zdu (v:Value):v.ownBlock.toList.Nodup:=by cases v.ownBlock <;> simp
structure XE (x:Puzzle) (v2:Value) (w:World) (g M:Nat) (LM LS:List (List Int)) (D P Y:List Int) (N:List (List Int)) (R:List Int) (wr:World) (us ud up uy un ur:Value) (fs fn:List (List Nat)) (ex:List Nat) (W:World):Prop where
 blk:Blk wr g [.int .i64 x.points,.string x.names,v2,us,ud,.map (some M),up,uy,un]
 st:Acc w.heap.size 27 wr us LS fs
 dp:AccI w.heap.size 2 wr ud D
 pa:AccI w.heap.size 2 wr up P
 by_:AccI w.heap.size 2 wr uy Y
 nx:Acc w.heap.size 27 wr un N fn
 rw_:AccI w.heap.size 2 wr ur R
 mp:Mq wr M LM.length (firstG LM)
 fam:Fam w.heap.size wr (xeF g M us ud up uy un ur)
 ro:∀ b∈fs.flatten ++ fn.flatten ++ ex,b < wr.heap.size/\∀ c∈xeF g M us ud up uy un ur,b ∉ c
 kp:∀ b∈ex,wr.heap[b]? = W.heap[b]?
 on:Only [] w wr
section
variable {x:Puzzle} {v2:Value} {w:World} {g M:Nat} {LM LS:List (List Int)} {D P Y:List Int} {N:List (List Int)} {R:List Int} {wa wb wr w':World} {us ud up uy un ur:Value} {fs fn:List (List Nat)} {ex:List Nat} {W:World}
theorem XE.keep (h:XE x v2 w g M LM LS D P Y N R wr us ud up uy un ur fs fn ex W) (ho:Only [] wr w'):XE x v2 w g M LM LS D P Y N R w' us ud up uy un ur fs fn ex W:=
 ⟨h.blk.keep ho,h.st.keep ho,h.dp.keep ho,h.pa.keep ho,h.by_.keep ho,h.nx.keep ho,h.rw_.keep ho,h.mp.keep ho,h.fam.keep ho.size,fun b hb=>⟨Nat.lt_of_lt_of_le (h.ro b hb).1 ho.size,(h.ro b hb).2⟩,fun b hb=>(ho.block b (h.ro b (List.mem_append_right _ hb)).1 (by simp)).trans (h.kp b hb),h.on.trans ho⟩
theorem XE.push_us {us':Value} {y:List Int} {f:List Nat} (h:XE x v2 w g M LM LS D P Y N R wa us ud up uy un ur fs fn ex W) (hA:Acc w.heap.size 27 wb us' (LS ++ [y]) (fs ++ [f])) (oA:Only us.ownBlock.toList wa wb) (nA:us'.ownBlock = us.ownBlock\/us'.ownBlock = some wa.heap.size) (hf:∀ b∈f,b < wa.heap.size/\∀ c∈xeF g M us ud up uy un ur,b ∉ c):XE x v2 w g M LM (LS ++ [y]) D P Y N R (wb.setCell ⟨g,3,none⟩ us') us' ud up uy un ur (fs ++ [f]) fn ex W:=by
 have hB:=h.on.size
 have hsz:=oA.size
 have hd:∀ (j:Nat) (c:List Nat),j ≠ 2->(xeF g M us ud up uy un ur)[j]? = some c->∀ b∈c,b ∉ us.ownBlock.toList:=fun j c hj hc=>h.fam.disj j 2 hj hc rfl
 have hn:∀ b∈us'.ownBlock.toList,b∈us.ownBlock.toList\/(wa.heap.size<=b/\b < wb.heap.size):=fun b hb=>by
  have hb':us'.ownBlock = some b:=by simpa using hb
  have hl:=(hA.ownlt b hb').2
  rcases nA with e | e
  ·left;rw [<- e];exact hb
  ·right;rw [e] at hb';injection hb' with hb';omega
 have hro:∀ b∈fs.flatten ++ fn.flatten ++ ex,b ∉ us.ownBlock.toList:=fun b hb=>(h.ro b hb).2 _ (List.mem_of_getElem? (i:=2) rfl)
 have f1:Fam w.heap.size wb ((xeF g M us ud up uy un ur).set 2 us'.ownBlock.toList):=h.fam.set hsz hB 2 rfl (Zdu _) hn
 have hro2:∀ b∈(fs ++ [f]).flatten ++ fn.flatten ++ ex,b < wb.heap.size/\∀ c∈(xeF g M us ud up uy un ur).set 2 us'.ownBlock.toList,b ∉ c:=fun b hb=>by
  have hb2:b < wa.heap.size/\∀ c∈xeF g M us ud up uy un ur,b ∉ c:=by
   rw [List.flatten_append] at hb
   simp only [List.flatten_cons,List.flatten_nil,List.append_nil,List.mem_append] at hb
   rcases hb with ((hb | hb) | hb) | hb
   ·exact h.ro b (List.mem_append_left _ (List.mem_append_left _ hb))
   ·exact hf b hb
   ·exact h.ro b (List.mem_append_left _ (List.mem_append_right _ hb))
   ·exact h.ro b (List.mem_append_right _ hb)
  exact ⟨by omega,ro_set (i:=2) hb2 rfl (fun q hq=>(hn q hq).imp id (fun hh=>hh.1))⟩
 have hkp:∀ b∈ex,wb.heap[b]? = W.heap[b]?:=fun b hb=>(oA.block b (h.ro b (List.mem_append_right _ hb)).1 (hro b (List.mem_append_right _ hb))).trans (h.kp b hb)
 have hon:Only [] w wb:=h.on.then_ oA (fun b hb hl=>by have:=h.fam.ge 2 rfl hb;omega)
 have hs:Only [g] wb (wb.setCell ⟨g,3,none⟩ us'):=zO.setCell (by simp) _
 have hg0:∀ (j:Nat) (c:List Nat),j ≠ 0->((xeF g M us ud up uy un ur).set 2 us'.ownBlock.toList)[j]? = some c->∀ b∈c,b ∉ [g]:=fun j c hj hc=>f1.disj j 0 hj hc rfl
 have hb9:=(h.blk.only oA (fun hm=>hd 0 _ (by decide) rfl g (by simp) hm)).set 3 us'
 simp only [List.set] at hb9
 refine ⟨hb9,hA.only hs (fun b hb hm=>(hro2 b (by first | exact List.mem_append_left _ (List.mem_append_left _ hb) | exact List.mem_append_left _ (List.mem_append_right _ hb))).2 [g] (List.mem_of_getElem? (i:=0) rfl) hm) (fun q hq hm=>hg0 2 _ (by decide) rfl q (by simp [hq]) hm),(h.dp.only oA (fun q hq hm=>hd 3 _ (by decide) rfl q (by simp [hq]) hm)).only hs (fun q hq hm=>hg0 3 _ (by decide) rfl q (by simp [hq]) hm),(h.pa.only oA (fun q hq hm=>hd 4 _ (by decide) rfl q (by simp [hq]) hm)).only hs (fun q hq hm=>hg0 4 _ (by decide) rfl q (by simp [hq]) hm),(h.by_.only oA (fun q hq hm=>hd 5 _ (by decide) rfl q (by simp [hq]) hm)).only hs (fun q hq hm=>hg0 5 _ (by decide) rfl q (by simp [hq]) hm),(h.nx.only oA (fun b hb hm=>hro b (by first | exact List.mem_append_left _ (List.mem_append_left _ hb) | exact List.mem_append_left _ (List.mem_append_right _ hb)) hm) (fun q hq hm=>hd 6 _ (by decide) rfl q (by simp [hq]) hm)).only hs (fun b hb hm=>(hro2 b (by first | exact List.mem_append_left _ (List.mem_append_left _ hb) | exact List.mem_append_left _ (List.mem_append_right _ hb))).2 [g] (List.mem_of_getElem? (i:=0) rfl) hm) (fun q hq hm=>hg0 6 _ (by decide) rfl q (by simp [hq]) hm),(h.rw_.only oA (fun q hq hm=>hd 7 _ (by decide) rfl q (by simp [hq]) hm)).only hs (fun q hq hm=>hg0 7 _ (by decide) rfl q (by simp [hq]) hm),(h.mp.only oA (fun hm=>hd 1 _ (by decide) rfl M (by simp) hm)).only hs (fun hm=>hg0 1 _ (by decide) rfl M (by simp) hm),f1.keep hs.size,fun b hb=>⟨Nat.lt_of_lt_of_le (hro2 b hb).1 hs.size,(hro2 b hb).2⟩,fun b hb=>(hs.block b (hro2 b (List.mem_append_right _ hb)).1 (fun hm=>(hro2 b (List.mem_append_right _ hb)).2 [g] (List.mem_of_getElem? (i:=0) rfl) hm)).trans (hkp b hb),hon.then_ hs (fun b hb hl=>by have:=h.fam.ge 0 rfl (b:=g) (by simp);simp at hb;omega)⟩
theorem XE.push_ud {ud':Value} {n:Int} (h:XE x v2 w g M LM LS D P Y N R wa us ud up uy un ur fs fn ex W) (hA:AccI w.heap.size 2 wb ud' (D ++ [n])) (oA:Only ud.ownBlock.toList wa wb) (nA:ud'.ownBlock = ud.ownBlock\/ud'.ownBlock = some wa.heap.size):XE x v2 w g M LM LS (D ++ [n]) P Y N R (wb.setCell ⟨g,4,none⟩ ud') us ud' up uy un ur fs fn ex W:=by
 have hB:=h.on.size
 have hsz:=oA.size
 have hd:∀ (j:Nat) (c:List Nat),j ≠ 3->(xeF g M us ud up uy un ur)[j]? = some c->∀ b∈c,b ∉ ud.ownBlock.toList:=fun j c hj hc=>h.fam.disj j 3 hj hc rfl
 have hn:∀ b∈ud'.ownBlock.toList,b∈ud.ownBlock.toList\/(wa.heap.size<=b/\b < wb.heap.size):=fun b hb=>by
  have hb':ud'.ownBlock = some b:=by simpa using hb
  have hl:=(hA.ownlt b hb').2
  rcases nA with e | e
  ·left;rw [<- e];exact hb
  ·right;rw [e] at hb';injection hb' with hb';omega
 have hro:∀ b∈fs.flatten ++ fn.flatten ++ ex,b ∉ ud.ownBlock.toList:=fun b hb=>(h.ro b hb).2 _ (List.mem_of_getElem? (i:=3) rfl)
 have f1:Fam w.heap.size wb ((xeF g M us ud up uy un ur).set 3 ud'.ownBlock.toList):=h.fam.set hsz hB 3 rfl (Zdu _) hn
 have hro2:∀ b∈fs.flatten ++ fn.flatten ++ ex,b < wb.heap.size/\∀ c∈(xeF g M us ud up uy un ur).set 3 ud'.ownBlock.toList,b ∉ c:=fun b hb=>by
  have h2:=(h.ro b hb).1
  exact ⟨by omega,ro_set (i:=3) (h.ro b hb) rfl (fun q hq=>(hn q hq).imp id (fun hh=>hh.1))⟩
 have hkp:∀ b∈ex,wb.heap[b]? = W.heap[b]?:=fun b hb=>(oA.block b (h.ro b (List.mem_append_right _ hb)).1 (hro b (List.mem_append_right _ hb))).trans (h.kp b hb)
 have hon:Only [] w wb:=h.on.then_ oA (fun b hb hl=>by have:=h.fam.ge 3 rfl hb;omega)
 have hs:Only [g] wb (wb.setCell ⟨g,4,none⟩ ud'):=zO.setCell (by simp) _
 have hg0:∀ (j:Nat) (c:List Nat),j ≠ 0->((xeF g M us ud up uy un ur).set 3 ud'.ownBlock.toList)[j]? = some c->∀ b∈c,b ∉ [g]:=fun j c hj hc=>f1.disj j 0 hj hc rfl
 have hb9:=(h.blk.only oA (fun hm=>hd 0 _ (by decide) rfl g (by simp) hm)).set 4 ud'
 simp only [List.set] at hb9
 refine ⟨hb9,(h.st.only oA (fun b hb hm=>hro b (by first | exact List.mem_append_left _ (List.mem_append_left _ hb) | exact List.mem_append_left _ (List.mem_append_right _ hb)) hm) (fun q hq hm=>hd 2 _ (by decide) rfl q (by simp [hq]) hm)).only hs (fun b hb hm=>(hro2 b (by first | exact List.mem_append_left _ (List.mem_append_left _ hb) | exact List.mem_append_left _ (List.mem_append_right _ hb))).2 [g] (List.mem_of_getElem? (i:=0) rfl) hm) (fun q hq hm=>hg0 2 _ (by decide) rfl q (by simp [hq]) hm),hA.only hs (fun q hq hm=>hg0 3 _ (by decide) rfl q (by simp [hq]) hm),(h.pa.only oA (fun q hq hm=>hd 4 _ (by decide) rfl q (by simp [hq]) hm)).only hs (fun q hq hm=>hg0 4 _ (by decide) rfl q (by simp [hq]) hm),(h.by_.only oA (fun q hq hm=>hd 5 _ (by decide) rfl q (by simp [hq]) hm)).only hs (fun q hq hm=>hg0 5 _ (by decide) rfl q (by simp [hq]) hm),(h.nx.only oA (fun b hb hm=>hro b (by first | exact List.mem_append_left _ (List.mem_append_left _ hb) | exact List.mem_append_left _ (List.mem_append_right _ hb)) hm) (fun q hq hm=>hd 6 _ (by decide) rfl q (by simp [hq]) hm)).only hs (fun b hb hm=>(hro2 b (by first | exact List.mem_append_left _ (List.mem_append_left _ hb) | exact List.mem_append_left _ (List.mem_append_right _ hb))).2 [g] (List.mem_of_getElem? (i:=0) rfl) hm) (fun q hq hm=>hg0 6 _ (by decide) rfl q (by simp [hq]) hm),(h.rw_.only oA (fun q hq hm=>hd 7 _ (by decide) rfl q (by simp [hq]) hm)).only hs (fun q hq hm=>hg0 7 _ (by decide) rfl q (by simp [hq]) hm),(h.mp.only oA (fun hm=>hd 1 _ (by decide) rfl M (by simp) hm)).only hs (fun hm=>hg0 1 _ (by decide) rfl M (by simp) hm),f1.keep hs.size,fun b hb=>⟨Nat.lt_of_lt_of_le (hro2 b hb).1 hs.size,(hro2 b hb).2⟩,fun b hb=>(hs.block b (hro2 b (List.mem_append_right _ hb)).1 (fun hm=>(hro2 b (List.mem_append_right _ hb)).2 [g] (List.mem_of_getElem? (i:=0) rfl) hm)).trans (hkp b hb),hon.then_ hs (fun b hb hl=>by have:=h.fam.ge 0 rfl (b:=g) (by simp);simp at hb;omega)⟩
theorem XE.push_up {up':Value} {n:Int} (h:XE x v2 w g M LM LS D P Y N R wa us ud up uy un ur fs fn ex W) (hA:AccI w.heap.size 2 wb up' (P ++ [n])) (oA:Only up.ownBlock.toList wa wb) (nA:up'.ownBlock = up.ownBlock\/up'.ownBlock = some wa.heap.size):XE x v2 w g M LM LS D (P ++ [n]) Y N R (wb.setCell ⟨g,6,none⟩ up') us ud up' uy un ur fs fn ex W:=by
 have hB:=h.on.size
 have hsz:=oA.size
 have hd:∀ (j:Nat) (c:List Nat),j ≠ 4->(xeF g M us ud up uy un ur)[j]? = some c->∀ b∈c,b ∉ up.ownBlock.toList:=fun j c hj hc=>h.fam.disj j 4 hj hc rfl
 have hn:∀ b∈up'.ownBlock.toList,b∈up.ownBlock.toList\/(wa.heap.size<=b/\b < wb.heap.size):=fun b hb=>by
  have hb':up'.ownBlock = some b:=by simpa using hb
  have hl:=(hA.ownlt b hb').2
  rcases nA with e | e
  ·left;rw [<- e];exact hb
  ·right;rw [e] at hb';injection hb' with hb';omega
 have hro:∀ b∈fs.flatten ++ fn.flatten ++ ex,b ∉ up.ownBlock.toList:=fun b hb=>(h.ro b hb).2 _ (List.mem_of_getElem? (i:=4) rfl)
 have f1:Fam w.heap.size wb ((xeF g M us ud up uy un ur).set 4 up'.ownBlock.toList):=h.fam.set hsz hB 4 rfl (Zdu _) hn
 have hro2:∀ b∈fs.flatten ++ fn.flatten ++ ex,b < wb.heap.size/\∀ c∈(xeF g M us ud up uy un ur).set 4 up'.ownBlock.toList,b ∉ c:=fun b hb=>by
  have h2:=(h.ro b hb).1
  exact ⟨by omega,ro_set (i:=4) (h.ro b hb) rfl (fun q hq=>(hn q hq).imp id (fun hh=>hh.1))⟩
 have hkp:∀ b∈ex,wb.heap[b]? = W.heap[b]?:=fun b hb=>(oA.block b (h.ro b (List.mem_append_right _ hb)).1 (hro b (List.mem_append_right _ hb))).trans (h.kp b hb)
 have hon:Only [] w wb:=h.on.then_ oA (fun b hb hl=>by have:=h.fam.ge 4 rfl hb;omega)
 have hs:Only [g] wb (wb.setCell ⟨g,6,none⟩ up'):=zO.setCell (by simp) _
 have hg0:∀ (j:Nat) (c:List Nat),j ≠ 0->((xeF g M us ud up uy un ur).set 4 up'.ownBlock.toList)[j]? = some c->∀ b∈c,b ∉ [g]:=fun j c hj hc=>f1.disj j 0 hj hc rfl
 have hb9:=(h.blk.only oA (fun hm=>hd 0 _ (by decide) rfl g (by simp) hm)).set 6 up'
 simp only [List.set] at hb9
 refine ⟨hb9,(h.st.only oA (fun b hb hm=>hro b (by first | exact List.mem_append_left _ (List.mem_append_left _ hb) | exact List.mem_append_left _ (List.mem_append_right _ hb)) hm) (fun q hq hm=>hd 2 _ (by decide) rfl q (by simp [hq]) hm)).only hs (fun b hb hm=>(hro2 b (by first | exact List.mem_append_left _ (List.mem_append_left _ hb) | exact List.mem_append_left _ (List.mem_append_right _ hb))).2 [g] (List.mem_of_getElem? (i:=0) rfl) hm) (fun q hq hm=>hg0 2 _ (by decide) rfl q (by simp [hq]) hm),(h.dp.only oA (fun q hq hm=>hd 3 _ (by decide) rfl q (by simp [hq]) hm)).only hs (fun q hq hm=>hg0 3 _ (by decide) rfl q (by simp [hq]) hm),hA.only hs (fun q hq hm=>hg0 4 _ (by decide) rfl q (by simp [hq]) hm),(h.by_.only oA (fun q hq hm=>hd 5 _ (by decide) rfl q (by simp [hq]) hm)).only hs (fun q hq hm=>hg0 5 _ (by decide) rfl q (by simp [hq]) hm),(h.nx.only oA (fun b hb hm=>hro b (by first | exact List.mem_append_left _ (List.mem_append_left _ hb) | exact List.mem_append_left _ (List.mem_append_right _ hb)) hm) (fun q hq hm=>hd 6 _ (by decide) rfl q (by simp [hq]) hm)).only hs (fun b hb hm=>(hro2 b (by first | exact List.mem_append_left _ (List.mem_append_left _ hb) | exact List.mem_append_left _ (List.mem_append_right _ hb))).2 [g] (List.mem_of_getElem? (i:=0) rfl) hm) (fun q hq hm=>hg0 6 _ (by decide) rfl q (by simp [hq]) hm),(h.rw_.only oA (fun q hq hm=>hd 7 _ (by decide) rfl q (by simp [hq]) hm)).only hs (fun q hq hm=>hg0 7 _ (by decide) rfl q (by simp [hq]) hm),(h.mp.only oA (fun hm=>hd 1 _ (by decide) rfl M (by simp) hm)).only hs (fun hm=>hg0 1 _ (by decide) rfl M (by simp) hm),f1.keep hs.size,fun b hb=>⟨Nat.lt_of_lt_of_le (hro2 b hb).1 hs.size,(hro2 b hb).2⟩,fun b hb=>(hs.block b (hro2 b (List.mem_append_right _ hb)).1 (fun hm=>(hro2 b (List.mem_append_right _ hb)).2 [g] (List.mem_of_getElem? (i:=0) rfl) hm)).trans (hkp b hb),hon.then_ hs (fun b hb hl=>by have:=h.fam.ge 0 rfl (b:=g) (by simp);simp at hb;omega)⟩
theorem XE.push_uy {uy':Value} {n:Int} (h:XE x v2 w g M LM LS D P Y N R wa us ud up uy un ur fs fn ex W) (hA:AccI w.heap.size 2 wb uy' (Y ++ [n])) (oA:Only uy.ownBlock.toList wa wb) (nA:uy'.ownBlock = uy.ownBlock\/uy'.ownBlock = some wa.heap.size):XE x v2 w g M LM LS D P (Y ++ [n]) N R (wb.setCell ⟨g,7,none⟩ uy') us ud up uy' un ur fs fn ex W:=by
 have hB:=h.on.size
 have hsz:=oA.size
 have hd:∀ (j:Nat) (c:List Nat),j ≠ 5->(xeF g M us ud up uy un ur)[j]? = some c->∀ b∈c,b ∉ uy.ownBlock.toList:=fun j c hj hc=>h.fam.disj j 5 hj hc rfl
 have hn:∀ b∈uy'.ownBlock.toList,b∈uy.ownBlock.toList\/(wa.heap.size<=b/\b < wb.heap.size):=fun b hb=>by
  have hb':uy'.ownBlock = some b:=by simpa using hb
  have hl:=(hA.ownlt b hb').2
  rcases nA with e | e
  ·left;rw [<- e];exact hb
  ·right;rw [e] at hb';injection hb' with hb';omega
 have hro:∀ b∈fs.flatten ++ fn.flatten ++ ex,b ∉ uy.ownBlock.toList:=fun b hb=>(h.ro b hb).2 _ (List.mem_of_getElem? (i:=5) rfl)
 have f1:Fam w.heap.size wb ((xeF g M us ud up uy un ur).set 5 uy'.ownBlock.toList):=h.fam.set hsz hB 5 rfl (Zdu _) hn
 have hro2:∀ b∈fs.flatten ++ fn.flatten ++ ex,b < wb.heap.size/\∀ c∈(xeF g M us ud up uy un ur).set 5 uy'.ownBlock.toList,b ∉ c:=fun b hb=>by
  have h2:=(h.ro b hb).1
  exact ⟨by omega,ro_set (i:=5) (h.ro b hb) rfl (fun q hq=>(hn q hq).imp id (fun hh=>hh.1))⟩
 have hkp:∀ b∈ex,wb.heap[b]? = W.heap[b]?:=fun b hb=>(oA.block b (h.ro b (List.mem_append_right _ hb)).1 (hro b (List.mem_append_right _ hb))).trans (h.kp b hb)
 have hon:Only [] w wb:=h.on.then_ oA (fun b hb hl=>by have:=h.fam.ge 5 rfl hb;omega)
 have hs:Only [g] wb (wb.setCell ⟨g,7,none⟩ uy'):=zO.setCell (by simp) _
 have hg0:∀ (j:Nat) (c:List Nat),j ≠ 0->((xeF g M us ud up uy un ur).set 5 uy'.ownBlock.toList)[j]? = some c->∀ b∈c,b ∉ [g]:=fun j c hj hc=>f1.disj j 0 hj hc rfl
 have hb9:=(h.blk.only oA (fun hm=>hd 0 _ (by decide) rfl g (by simp) hm)).set 7 uy'
 simp only [List.set] at hb9
 refine ⟨hb9,(h.st.only oA (fun b hb hm=>hro b (by first | exact List.mem_append_left _ (List.mem_append_left _ hb) | exact List.mem_append_left _ (List.mem_append_right _ hb)) hm) (fun q hq hm=>hd 2 _ (by decide) rfl q (by simp [hq]) hm)).only hs (fun b hb hm=>(hro2 b (by first | exact List.mem_append_left _ (List.mem_append_left _ hb) | exact List.mem_append_left _ (List.mem_append_right _ hb))).2 [g] (List.mem_of_getElem? (i:=0) rfl) hm) (fun q hq hm=>hg0 2 _ (by decide) rfl q (by simp [hq]) hm),(h.dp.only oA (fun q hq hm=>hd 3 _ (by decide) rfl q (by simp [hq]) hm)).only hs (fun q hq hm=>hg0 3 _ (by decide) rfl q (by simp [hq]) hm),(h.pa.only oA (fun q hq hm=>hd 4 _ (by decide) rfl q (by simp [hq]) hm)).only hs (fun q hq hm=>hg0 4 _ (by decide) rfl q (by simp [hq]) hm),hA.only hs (fun q hq hm=>hg0 5 _ (by decide) rfl q (by simp [hq]) hm),(h.nx.only oA (fun b hb hm=>hro b (by first | exact List.mem_append_left _ (List.mem_append_left _ hb) | exact List.mem_append_left _ (List.mem_append_right _ hb)) hm) (fun q hq hm=>hd 6 _ (by decide) rfl q (by simp [hq]) hm)).only hs (fun b hb hm=>(hro2 b (by first | exact List.mem_append_left _ (List.mem_append_left _ hb) | exact List.mem_append_left _ (List.mem_append_right _ hb))).2 [g] (List.mem_of_getElem? (i:=0) rfl) hm) (fun q hq hm=>hg0 6 _ (by decide) rfl q (by simp [hq]) hm),(h.rw_.only oA (fun q hq hm=>hd 7 _ (by decide) rfl q (by simp [hq]) hm)).only hs (fun q hq hm=>hg0 7 _ (by decide) rfl q (by simp [hq]) hm),(h.mp.only oA (fun hm=>hd 1 _ (by decide) rfl M (by simp) hm)).only hs (fun hm=>hg0 1 _ (by decide) rfl M (by simp) hm),f1.keep hs.size,fun b hb=>⟨Nat.lt_of_lt_of_le (hro2 b hb).1 hs.size,(hro2 b hb).2⟩,fun b hb=>(hs.block b (hro2 b (List.mem_append_right _ hb)).1 (fun hm=>(hro2 b (List.mem_append_right _ hb)).2 [g] (List.mem_of_getElem? (i:=0) rfl) hm)).trans (hkp b hb),hon.then_ hs (fun b hb hl=>by have:=h.fam.ge 0 rfl (b:=g) (by simp);simp at hb;omega)⟩
theorem XE.push_un {un':Value} (h:XE x v2 w g M LM LS D P Y N R wa us ud up uy un ur fs fn ex W) (hA:Acc w.heap.size 27 wb un' (N ++ [R]) (fn ++ [ur.ownBlock.toList])) (oA:Only un.ownBlock.toList wa wb) (nA:un'.ownBlock = un.ownBlock\/un'.ownBlock = some wa.heap.size):XE x v2 w g M LM LS D P Y (N ++ [R]) [] (wb.setCell ⟨g,8,none⟩ un') us ud up uy un' (.slice none 0 0) fs (fn ++ [ur.ownBlock.toList]) ex W:=by
 have hB:=h.on.size
 have hsz:=oA.size
 have hd:∀ (j:Nat) (c:List Nat),j ≠ 6->(xeF g M us ud up uy un ur)[j]? = some c->∀ b∈c,b ∉ un.ownBlock.toList:=fun j c hj hc=>h.fam.disj j 6 hj hc rfl
 have hn:∀ b∈un'.ownBlock.toList,b∈un.ownBlock.toList\/(wa.heap.size<=b/\b < wb.heap.size):=fun b hb=>by
  have hb':un'.ownBlock = some b:=by simpa using hb
  have hl:=(hA.ownlt b hb').2
  rcases nA with e | e
  ·left;rw [<- e];exact hb
  ·right;rw [e] at hb';injection hb' with hb';omega
 have hro:∀ b∈fs.flatten ++ fn.flatten ++ ex,b ∉ un.ownBlock.toList:=fun b hb=>(h.ro b hb).2 _ (List.mem_of_getElem? (i:=6) rfl)
 have f1:Fam w.heap.size wb ((xeF g M us ud up uy un ur).set 6 un'.ownBlock.toList):=h.fam.set hsz hB 6 rfl (Zdu _) hn
 have f2:Fam w.heap.size wb (((xeF g M us ud up uy un ur).set 6 un'.ownBlock.toList).set 7 []):=f1.set (Nat.le_refl _) (by omega) 7 rfl (by simp) (by simp)
 have hur:∀ b∈ur.ownBlock.toList,b < wb.heap.size/\∀ c∈((xeF g M us ud up uy un ur).set 6 un'.ownBlock.toList).set 7 [],b ∉ c:=fun b hb=>by
  refine ⟨f1.lt 7 rfl hb,fun c hc hm=>?_⟩
  obtain ⟨j,hj⟩:=List.getElem?_of_mem hc
  by_cases h7:j = 7
  ·subst h7
   have:c = []:=by simpa [xeF] using hj.symm
   subst this;cases hm
  ·rw [List.getElem?_set_ne (by omega)] at hj
   exact f1.disj 7 j (by omega) rfl hj b hb hm
 have hro2:∀ b∈fs.flatten ++ (fn ++ [ur.ownBlock.toList]).flatten ++ ex,b < wb.heap.size/\∀ c∈((xeF g M us ud up uy un ur).set 6 un'.ownBlock.toList).set 7 [],b ∉ c:=fun b hb=>by
  rw [List.flatten_append] at hb
  simp only [List.flatten_cons,List.flatten_nil,List.append_nil,List.mem_append] at hb
  have hold:b∈fs.flatten ++ fn.flatten ++ ex->b < wb.heap.size/\∀ c∈((xeF g M us ud up uy un ur).set 6 un'.ownBlock.toList).set 7 [],b ∉ c:=fun hb=>by
   have h1:=ro_set (i:=6) (c':=un'.ownBlock.toList) (h.ro b hb) rfl (fun q hq=>(hn q hq).imp id (fun hh=>hh.1))
   have h2:=(h.ro b hb).1
   refine ⟨by omega,fun c hc hm=>?_⟩
   rcases List.mem_or_eq_of_mem_set hc with h3 | rfl
   ·exact h1 c h3 hm
   ·cases hm
  rcases hb with (hb | hb | hb) | hb
  ·exact hold (List.mem_append_left _ (List.mem_append_left _ hb))
  ·exact hold (List.mem_append_left _ (List.mem_append_right _ hb))
  ·exact hur b hb
  ·exact hold (List.mem_append_right _ hb)
 have hkp:∀ b∈ex,wb.heap[b]? = W.heap[b]?:=fun b hb=>(oA.block b (h.ro b (List.mem_append_right _ hb)).1 (hro b (List.mem_append_right _ hb))).trans (h.kp b hb)
 have hon:Only [] w wb:=h.on.then_ oA (fun b hb hl=>by have:=h.fam.ge 6 rfl hb;omega)
 have hs:Only [g] wb (wb.setCell ⟨g,8,none⟩ un'):=zO.setCell (by simp) _
 have hg0:∀ (j:Nat) (c:List Nat),j ≠ 0->(((xeF g M us ud up uy un ur).set 6 un'.ownBlock.toList).set 7 [])[j]? = some c->∀ b∈c,b ∉ [g]:=fun j c hj hc=>f2.disj j 0 hj hc rfl
 have hb9:=(h.blk.only oA (fun hm=>hd 0 _ (by decide) rfl g (by simp) hm)).set 8 un'
 simp only [List.set] at hb9
 refine ⟨hb9,(h.st.only oA (fun b hb hm=>hro b (by first | exact List.mem_append_left _ (List.mem_append_left _ hb) | exact List.mem_append_left _ (List.mem_append_right _ hb)) hm) (fun q hq hm=>hd 2 _ (by decide) rfl q (by simp [hq]) hm)).only hs (fun b hb hm=>(hro2 b (by first | exact List.mem_append_left _ (List.mem_append_left _ hb) | exact List.mem_append_left _ (List.mem_append_right _ hb))).2 [g] (List.mem_of_getElem? (i:=0) rfl) hm) (fun q hq hm=>hg0 2 _ (by decide) rfl q (by simp [hq]) hm),(h.dp.only oA (fun q hq hm=>hd 3 _ (by decide) rfl q (by simp [hq]) hm)).only hs (fun q hq hm=>hg0 3 _ (by decide) rfl q (by simp [hq]) hm),(h.pa.only oA (fun q hq hm=>hd 4 _ (by decide) rfl q (by simp [hq]) hm)).only hs (fun q hq hm=>hg0 4 _ (by decide) rfl q (by simp [hq]) hm),(h.by_.only oA (fun q hq hm=>hd 5 _ (by decide) rfl q (by simp [hq]) hm)).only hs (fun q hq hm=>hg0 5 _ (by decide) rfl q (by simp [hq]) hm),hA.only hs (fun b hb hm=>(hro2 b (by first | exact List.mem_append_left _ (List.mem_append_left _ hb) | exact List.mem_append_left _ (List.mem_append_right _ hb))).2 [g] (List.mem_of_getElem? (i:=0) rfl) hm) (fun q hq hm=>hg0 6 _ (by decide) rfl q (by simp [hq]) hm),AccI.nil _ _ _,(h.mp.only oA (fun hm=>hd 1 _ (by decide) rfl M (by simp) hm)).only hs (fun hm=>hg0 1 _ (by decide) rfl M (by simp) hm),f2.keep hs.size,fun b hb=>⟨Nat.lt_of_lt_of_le (hro2 b hb).1 hs.size,(hro2 b hb).2⟩,fun b hb=>(hs.block b (hro2 b (List.mem_append_right _ hb)).1 (fun hm=>(hro2 b (List.mem_append_right _ hb)).2 [g] (List.mem_of_getElem? (i:=0) rfl) hm)).trans (hkp b hb),hon.then_ hs (fun b hb hl=>by have:=h.fam.ge 0 rfl (b:=g) (by simp);simp at hb;omega)⟩
theorem XE.push_ur {ur':Value} {n:Int} (h:XE x v2 w g M LM LS D P Y N R wa us ud up uy un ur fs fn ex W) (hA:AccI w.heap.size 2 wb ur' (R ++ [n])) (oA:Only ur.ownBlock.toList wa wb) (nA:ur'.ownBlock = ur.ownBlock\/ur'.ownBlock = some wa.heap.size):XE x v2 w g M LM LS D P Y N (R ++ [n]) wb us ud up uy un ur' fs fn ex W:=by
 have hB:=h.on.size
 have hsz:=oA.size
 have hd:∀ (j:Nat) (c:List Nat),j ≠ 7->(xeF g M us ud up uy un ur)[j]? = some c->∀ b∈c,b ∉ ur.ownBlock.toList:=fun j c hj hc=>h.fam.disj j 7 hj hc rfl
 have hn:∀ b∈ur'.ownBlock.toList,b∈ur.ownBlock.toList\/(wa.heap.size<=b/\b < wb.heap.size):=fun b hb=>by
  have hb':ur'.ownBlock = some b:=by simpa using hb
  have hl:=(hA.ownlt b hb').2
  rcases nA with e | e
  ·left;rw [<- e];exact hb
  ·right;rw [e] at hb';injection hb' with hb';omega
 have hro:∀ b∈fs.flatten ++ fn.flatten ++ ex,b ∉ ur.ownBlock.toList:=fun b hb=>(h.ro b hb).2 _ (List.mem_of_getElem? (i:=7) rfl)
 have f1:Fam w.heap.size wb ((xeF g M us ud up uy un ur).set 7 ur'.ownBlock.toList):=h.fam.set hsz hB 7 rfl (Zdu _) hn
 have hro2:∀ b∈fs.flatten ++ fn.flatten ++ ex,b < wb.heap.size/\∀ c∈(xeF g M us ud up uy un ur).set 7 ur'.ownBlock.toList,b ∉ c:=fun b hb=>by
  have h2:=(h.ro b hb).1
  exact ⟨by omega,ro_set (i:=7) (h.ro b hb) rfl (fun q hq=>(hn q hq).imp id (fun hh=>hh.1))⟩
 have hkp:∀ b∈ex,wb.heap[b]? = W.heap[b]?:=fun b hb=>(oA.block b (h.ro b (List.mem_append_right _ hb)).1 (hro b (List.mem_append_right _ hb))).trans (h.kp b hb)
 have hon:Only [] w wb:=h.on.then_ oA (fun b hb hl=>by have:=h.fam.ge 7 rfl hb;omega)
 exact ⟨(h.blk.only oA (fun hm=>hd 0 _ (by decide) rfl g (by simp) hm)),(h.st.only oA (fun b hb hm=>hro b (by first | exact List.mem_append_left _ (List.mem_append_left _ hb) | exact List.mem_append_left _ (List.mem_append_right _ hb)) hm) (fun q hq hm=>hd 2 _ (by decide) rfl q (by simp [hq]) hm)),(h.dp.only oA (fun q hq hm=>hd 3 _ (by decide) rfl q (by simp [hq]) hm)),(h.pa.only oA (fun q hq hm=>hd 4 _ (by decide) rfl q (by simp [hq]) hm)),(h.by_.only oA (fun q hq hm=>hd 5 _ (by decide) rfl q (by simp [hq]) hm)),(h.nx.only oA (fun b hb hm=>hro b (by first | exact List.mem_append_left _ (List.mem_append_left _ hb) | exact List.mem_append_left _ (List.mem_append_right _ hb)) hm) (fun q hq hm=>hd 6 _ (by decide) rfl q (by simp [hq]) hm)),hA,(h.mp.only oA (fun hm=>hd 1 _ (by decide) rfl M (by simp) hm)),f1,hro2,hkp,hon⟩
theorem XE.put {LM':List (List Int)} (h:XE x v2 w g M LM LS D P Y N R wa us ud up uy un ur fs fn ex W) (ho:Only [M] wa wb) (hm:Mq wb M LM'.length (firstG LM')):XE x v2 w g M LM' LS D P Y N R wb us ud up uy un ur fs fn ex W:=by
 have hsz:=ho.size
 have hd:∀ (j:Nat) (c:List Nat),j ≠ 1->(xeF g M us ud up uy un ur)[j]? = some c->∀ b∈c,b ∉ [M]:=fun j c hj hc=>h.fam.disj j 1 hj hc rfl
 have hro:∀ b∈fs.flatten ++ fn.flatten ++ ex,b ∉ [M]:=fun b hb=>(h.ro b hb).2 _ (List.mem_of_getElem? (i:=1) rfl)
 exact ⟨(h.blk.only ho (fun hm=>hd 0 _ (by decide) rfl g (by simp) hm)),(h.st.only ho (fun b hb hm=>hro b (by first | exact List.mem_append_left _ (List.mem_append_left _ hb) | exact List.mem_append_left _ (List.mem_append_right _ hb)) hm) (fun q hq hm=>hd 2 _ (by decide) rfl q (by simp [hq]) hm)),(h.dp.only ho (fun q hq hm=>hd 3 _ (by decide) rfl q (by simp [hq]) hm)),(h.pa.only ho (fun q hq hm=>hd 4 _ (by decide) rfl q (by simp [hq]) hm)),(h.by_.only ho (fun q hq hm=>hd 5 _ (by decide) rfl q (by simp [hq]) hm)),(h.nx.only ho (fun b hb hm=>hro b (by first | exact List.mem_append_left _ (List.mem_append_left _ hb) | exact List.mem_append_left _ (List.mem_append_right _ hb)) hm) (fun q hq hm=>hd 6 _ (by decide) rfl q (by simp [hq]) hm)),(h.rw_.only ho (fun q hq hm=>hd 7 _ (by decide) rfl q (by simp [hq]) hm)),hm,h.fam.keep hsz,fun b hb=>⟨Nat.lt_of_lt_of_le (h.ro b hb).1 hsz,(h.ro b hb).2⟩,fun b hb=>(ho.block b (h.ro b (List.mem_append_right _ hb)).1 (hro b (List.mem_append_right _ hb))).trans (h.kp b hb),h.on.then_ ho (fun b hb hl=>by have:=h.fam.ge 1 rfl (b:=M) (by simp);simp at hb;omega)⟩
theorem XE.hold (h:XE x v2 w g M LM LS D P Y N R wr us ud up uy un ur fs fn ex W) (ho:Only [] wr w') {f:List Nat} (hf:∀ b∈f,wr.heap.size<=b/\b < w'.heap.size):XE x v2 w g M LM LS D P Y N R w' us ud up uy un ur fs fn (ex ++ f) w':=by
 have h1:=h.keep ho
 refine ⟨h1.blk,h1.st,h1.dp,h1.pa,h1.by_,h1.nx,h1.rw_,h1.mp,h1.fam,fun b hb=>?_,fun _ _=>rfl,h1.on⟩
 rw [<- List.append_assoc] at hb
 rcases List.mem_append.1 hb with hb | hb
 ·exact h1.ro b hb
 ·refine ⟨(hf b hb).2,fun c hc hm=>?_⟩
  obtain ⟨j,hj⟩:=List.getElem?_of_mem hc
  have:=h.fam.lt j hj hm
  have:=(hf b hb).1
  omega
theorem XE.drop {f:List Nat} {W':World} (h:XE x v2 w g M LM LS D P Y N R wr us ud up uy un ur fs fn (ex ++ f) W') (hW:∀ b∈ex,W'.heap[b]? = W.heap[b]?):XE x v2 w g M LM LS D P Y N R wr us ud up uy un ur fs fn ex W:=
 ⟨h.blk,h.st,h.dp,h.pa,h.by_,h.nx,h.rw_,h.mp,h.fam,fun b hb=>h.ro b (by rw [<- List.append_assoc];exact List.mem_append_left _ hb),fun b hb=>(h.kp b (List.mem_append_left _ hb)).trans (hW b hb),h.on⟩
theorem XE.held (h:XE x v2 w g M LM LS D P Y N R wr us ud up uy un ur fs fn ex W) {α:Type} [Rp α] {cs:List Value} {y:α} {fp:List Nat} (hr:Rp.rep W cs y fp) (hf:∀ b∈fp,b∈ex):Rp.rep wr cs y fp:=Rp.frame hr fun b hb=>h.kp b (hf b hb)
theorem XE.blkA {v:Value} {i:Nat} (h:XE x v2 w g M LM LS D P Y N R wa us ud up uy un ur fs fn ex W) (hi:(xeF g M us ud up uy un ur)[i]? = some v.ownBlock.toList) (h0:0 ≠ i) (oA:Only v.ownBlock.toList wa wb):Blk wb g [.int .i64 x.points,.string x.names,v2,us,ud,.map (some M),up,uy,un]:=
 h.blk.only oA (fun hm=>h.fam.disj 0 i h0 rfl hi g (by simp) hm)
theorem XE.exA {v:Value} {i b:Nat} (h:XE x v2 w g M LM LS D P Y N R wa us ud up uy un ur fs fn ex W) (hi:(xeF g M us ud up uy un ur)[i]? = some v.ownBlock.toList) (hb:b∈ex):v.ownBlock ≠ some b:=fun e=>
 (h.ro b (List.mem_append_right _ hb)).2 _ (List.mem_of_getElem? hi) (by rw [e];simp)
end
set_option maxHeartbeats 2000000 in
theorem Zok (cs:List Value) (x:Puzzle) (fp:List Nat) (v:Value) (s:List Int) (f2:List Nat) (w:World) (h:Rp.rep w cs x fp) (h2:Rd w v s f2)
  (hv:validPz x = true) (hs:PM.PN x.points.toNat s) :
  Calls Tryz.prog 142 #[.agg cs.toArray,v] w fun e w'=>∃ v fp',e = .returned v/\Rd w' v ((ltrs x.moves.length).map (nxt x s)) fp'/\Fresh w.heap.size w' fp'/\Only [] w w':=by
 obtain ⟨v2,rfl,p0,p1,hm⟩:=h
 obtain ⟨AG,CG,ob,fps,rfl,-,-⟩:=hm.open_
 obtain ⟨g1,g2,g3,g4⟩:=Zae hv
 obtain ⟨iL,hi,hz0,hz1,hz2⟩:=info_parts Tryz.info22
 have X0:=Blk.new w [.int .i64 x.points,.string x.names,.slice AG x.moves.length CG] 26
 simp only [List.toArray] at X0
 have x0:=X0.cell 2 rfl
 have hmv:∀ g∈x.moves,PM.IsP g/\g.length<=1000:=fun g hg=>by have:=g4 g hg;have:=(Zce.1 this.2);exact ⟨this.2,by omega⟩
 have hpm:=Zas hv
 have Hpm:=zH hpm
 have Hs:=zH hs
 have hml:x.moves.length<=1000:=by omega
 have hpt:x.points.toNat<=1000:=by omega
 clear p0 p1 hv g4 hpm hs
 go_enter Tryz.func142,Tryz.ntmps142
 go_wp2_with (first
  | (go_at_call 141;(with_reducible refine (Zgq x.moves.length _ (by omega)).mono ?_);rintro e w1 ⟨u1,f1,rfl,r1,F1,t1⟩;obtain ⟨a1,c1,rfl,I1⟩:=r1.ints)
  | fail)
 have K1:Only [] w w1:=zA
 have X1:=X0.keep t1
 obtain ⟨ls,hls⟩:∃ ls,ls = ltrs x.moves.length:=⟨_,rfl⟩
 rw [<- hls] at I1 ⊢
 have Hls:=zH hls
 have hll:ls.length<=1000:=by rw [hls,Zel];omega
 clear hls r1 F1 x0
 go_loopw [5,13] (fun o i wr=>∃ (j:Nat) (fs:List (List Nat)),j<=ls.length/\i = .int .i64 j/\Acc w1.heap.size 27 wr o ((ls.take j).map (nxt x s)) fs/\Fresh w1.heap.size wr fs.flatten/\Only [] w1 wr)
  (fun _ i _=>ls.length - (intOf i).toNat)
 case atStart=>exact ⟨0,[],Nat.zero_le _,rfl,Acc.nil _ _ _,Fresh.nil _ _,Only.refl _ _⟩
 case round=>
  obtain ⟨W2,hnew⟩:∃ W,W = wr:=⟨_,rfl⟩
  subst hnew
  obtain ⟨j,fs,hj,rfl,hA,hF,hK⟩:=hrel
  by_cases hlt:j < ls.length
  ·obtain ⟨b,off,rfl,-,hc0⟩:=I1.at_ j hlt
   have hc:=hK.cell (by simp) hc0
   have hlj:ls[j]∈ltrs x.moves.length:=by rw [<- Hls.out];exact List.getElem_mem hlt
   have Hlj:=zH hlj
   have Hmp:=zH (mv_pn Hpm.out hlj)
   have x0:=(X1.keep hK).cell 2 rfl
   have hh2:=zK hm (K1.trans hK)
   have hs2:=zK h2 (K1.trans hK)
   have Hsn:=zH (show (ls.take (j + 1)).map (nxt x s) = (ls.take j).map (nxt x s) ++ [nxt x s ls[j]] by rw [Zab ls j hlt,List.map_append];rfl)
   have hB2:w1.heap.size<=W2.heap.size:=hK.size
   have hal:((ls.take j).map (nxt x s)).length + 1<=1073741824:=by simp;omega
   clear hlj hc0
   go_wp2_with (first
    | (go_at_call 125;(with_reducible refine (Zgr (.slice AG x.moves.length CG) x.moves ls[j] _ _ (zK hh2 zA) hmv Hlj.out hml).mono ?_);rintro e w5 ⟨u5,f5,rfl,r5,F5,t5⟩)
    | (go_at_call 88;(with_reducible refine (Zbm x.points.toNat _ _ s (mv x.moves ls[j]) _ _ _ (zK hs2 zA) (zK r5 zA) Hs.out Hmp.out hpt).mono ?_);rintro e w6 ⟨u6,f6,rfl,r6,F6,t6⟩;obtain ⟨a6,c6,rfl,I6⟩:=r6.ints;clear I6;have r6':=zK r6 ((Only.refl [] w6).alloc (.cells #[.slice a6 (PM.comp s (mv x.moves ls[j])).length c6] 27));have F6':=(F6.mono (B':=W2.heap.size) t5.size).keep ((Only.refl [] w6).alloc (.cells #[.slice a6 (PM.comp s (mv x.moves ls[j])).length c6] 27));have k6:Only [] W2 w6:=t5.trans t6;have kz:=(hK.trans k6).alloc (.cells #[.slice a6 (PM.comp s (mv x.moves ls[j])).length c6] 27))
    | (at_builtin;refine Zak rfl _ _ 24 rfl w1.heap.size 27 iL _ 24 Tryz.underlying24 hi hz0 hz1 hz2 rfl (by decide) (by decide) W2 _ ((ls.take j).map (nxt x s)) fs rfl hA hF (k6.alloc _) hB2 w6.heap.size 1 [.slice a6 (PM.comp s (mv x.moves ls[j])).length c6] (PM.comp s (mv x.moves ls[j])) f6 rfl (lit_src w6 [.slice a6 (PM.comp s (mv x.moves ls[j])).length c6] _ rfl) (by intro u hu;simp at hu;subst hu;rfl) r6' F6' hal w1 kz (Nat.le_refl _) ?_;intro v9 w9 hA9 hF9 hK9 hW9)
    | fail)
   go_roundw
   case rel=>exact ⟨j + 1,_,by omega,by go_num,by rw [Hsn.out];exact hA9,hF9,hK9⟩
   case measure=>simp [intOf];omega
  ·obtain rfl:j = ls.length:=by omega
   rw [List.take_length] at hA
   have HA:=zH hA
   clear hA
   go_wp2
   go_ret
   exact ⟨_,_,rfl,by rw [<- Hls.out];exact HA.out.rd (by decide),(HA.out.fresh hF).mono K1.size,K1.trans hK⟩
theorem Zuh {x:Puzzle} {t:Table} (he:expl x = some t):bFrom x 3001 0 ([PM.pts x.points.toNat],[0]) = some (t.patterns,t.distances):=by
 obtain ⟨hb,-⟩:=Zaj he
 obtain ⟨-,-,-,h4,-⟩:=Zhw he
 rwa [Zdg (by rw [hb.v,Zfd hb.v];rfl)] at h4
theorem Zts {s s':Met16} {d:Int} {y:List Int} (h:bMeet s d y = some s'):s.1 <+: s'.1/\s.2 <+: s'.2:=by
 unfold bMeet at h
 split at h
 ·injection h with h;subst h;exact ⟨List.prefix_rfl,List.prefix_rfl⟩
 ·split at h
  ·cases h
  ·injection h with h;subst h;exact ⟨List.prefix_append _ _,List.prefix_append _ _⟩
theorem Zir {x:Puzzle} {q:List Int} {d:Int}:∀ {ls:List Int} {s s':Met16},bLets x q d ls s = some s'->s.1 <+: s'.1/\s.2 <+: s'.2
 | [],s,s',h=>by unfold bLets at h;injection h with h;subst h;exact ⟨List.prefix_rfl,List.prefix_rfl⟩
 | l :: ls,s,s',h=>by
  unfold bLets at h
  rw [Option.bind_eq_some_iff] at h
  obtain ⟨s1,e1,e2⟩:=h
  have a:=Zts e1
  have b:=Zir e2
  exact ⟨a.1.trans b.1,a.2.trans b.2⟩
theorem Zjg {x:Puzzle}:∀ {n k:Nat} {s s':Met16},bFrom x n k s = some s'->s.1 <+: s'.1/\s.2 <+: s'.2
 | 0,k,s,s',h=>by unfold bFrom at h;injection h with h;subst h;exact ⟨List.prefix_rfl,List.prefix_rfl⟩
 | n + 1,k,s,s',h=>by
  unfold bFrom at h
  split at h
  ·rw [Option.bind_eq_some_iff] at h
   obtain ⟨s1,e1,e2⟩:=h
   have a:=Zir e1
   have b:=Zjg e2
   exact ⟨a.1.trans b.1,a.2.trans b.2⟩
  ·injection h with h;subst h;exact ⟨List.prefix_rfl,List.prefix_rfl⟩
theorem Zqn {x:Puzzle} {q:List Int} {d:Int} {ls:List Int} {n k:Nat} {s s':Met16} (h:some s' = (bLets x q d ls s).bind (bFrom x n k)):s.1 <+: s'.1/\s.2 <+: s'.2:=by
 have h:=h.symm
 rw [Option.bind_eq_some_iff] at h
 obtain ⟨s1,e1,e2⟩:=h
 have a:=Zir e1
 have b:=Zjg e2
 exact ⟨a.1.trans b.1,a.2.trans b.2⟩
theorem Zhy {α:Type} {L T:List α} {i:Nat} {z:α} (h:L <+: T) (hi:i < L.length):T.getD i z = L.getD i z:=by
 obtain ⟨r,rfl⟩:=h
 rw [List.getD_eq_getElem?_getD,List.getD_eq_getElem?_getD,List.getElem?_append_left hi]
theorem idxL_at {L:List (List Int)} (hn:L.Nodup) {i:Nat} (hi:i < L.length):idxL L (L.getD i []) = i:=by
 refine Zdv (j:=i) hi (fun q hq=>?_) ?_
 ·rw [List.mem_take_iff_getElem] at hq
  obtain ⟨k,hk,rfl⟩:=hq
  refine decide_eq_false fun e=>?_
  rw [Zah hi] at e
  have:=Zes hn (by omega) hi e
  omega
 ·exact decide_eq_true (Zah hi).symm
theorem Zsy {L:List (List Int)} {s:List Int} (h:firstG L (kB s) = none) (z:ByteArray):(if z = kB s then some (L.length:Int) else firstG L z) = firstG (L ++ [s]) z:=by
 rw [Zgs]
 by_cases e:z = kB s
 ·subst e;rw [h]
 ·rw [if_neg e]
  cases firstG L z with
  | some i=>rfl
  | none=>simp [e]
def rowT (x:Puzzle) (t:Table) (p:List Int):List Int:=(ltrs x.moves.length).map fun l=>idxL t.patterns (nxt x p l)
section
variable {x:Puzzle} {t:Table} {L:List (List Int)} {s:List Int}
theorem Zhl (he:expl x = some t) {p:List Int} (hp:p∈t.patterns):Byt p:=by
 obtain ⟨hb,-⟩:=Zaj he
 obtain ⟨i,hi,rfl⟩:=List.getElem_of_mem hp
 have:=Zkg he hi
 rw [Zah hi] at this
 exact Zjy this (by have:=Zae hb.v;omega)
theorem pre_in (he:expl x = some t) (hp:L <+: t.patterns) (hs:s∈L):∃ i:Nat,i < L.length/\idxL t.patterns s = i/\firstG L (kB s) = some (i:Int):=by
 obtain ⟨hb,-⟩:=Zaj he
 have hnd:t.patterns.Nodup:=hb.bi.nd
 have hndL:L.Nodup:=List.Sublist.nodup hp.sublist hnd
 obtain ⟨i,hi,rfl⟩:=List.getElem_of_mem hs
 have hiT:i < t.patterns.length:=Nat.lt_of_lt_of_le hi hp.length_le
 have e:t.patterns.getD i [] = L[i]:=by rw [Zhy hp hi,Zah hi]
 have e2:L.getD i [] = L[i]:=Zah hi
 refine ⟨i,hi,by rw [<- e];exact hb.idx hiT,?_⟩
 rw [Zfp (fun p hp'=>Zhl he (hp.subset hp')) (Zhl he (hp.subset hs)),<- e2,idxL_at hndL hi,if_pos (by omega)]
theorem pre_out (he:expl x = some t) (hp:L <+: t.patterns) (hs:s ∉ L) (hby:Byt s):firstG L (kB s) = none:=by
 rw [Zfp (fun p hp'=>Zhl he (hp.subset hp')) hby,if_neg]
 intro h
 exact hs (Zqv h).1
theorem pre_new (he:expl x = some t) (hp:L ++ [s] <+: t.patterns):idxL t.patterns s = L.length:=by
 obtain ⟨hb,-⟩:=Zaj he
 have hl:L.length < t.patterns.length:=by have:=hp.length_le;simp at this;omega
 have e:t.patterns.getD L.length [] = s:=by
  rw [Zhy hp (by simp),List.getD_eq_getElem?_getD];simp
 rw [<- e];exact hb.idx hl
theorem expl_pn (he:expl x = some t) {i:Nat} (hi:i < t.patterns.length):PM.PN x.points.toNat (t.patterns.getD i []):=by
 obtain ⟨hb,-⟩:=Zaj he
 exact PM.Grp.pn (Zas hb.v) ((Zhu he).1 (hb.mem_of hi))
theorem Zvd (he:expl x = some t) {i:Nat} (hi:i < t.patterns.length) {l:Int} (hl:l∈ltrs x.moves.length):nxt x (t.patterns.getD i []) l∈t.patterns:=by
 obtain ⟨hb,-⟩:=Zaj he
 obtain ⟨i',a,b,-,-⟩:=hb.step hi hl
 rw [<- b];exact hb.mem_of a
end
end Go.Proofs.YtjfmkolnleicnaaGreatDoor
