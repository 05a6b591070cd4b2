/- Maps from strings to int64 that a call makes. (Printed by mkmapi.py out of XMap.) -/
import Derived.Test.YtclhblofchfglaaGreatRowCompareSolversG10
import Derived.Test.YtclhblofchfglaaGreatRowCompareSolversG4
import Derived.Test.YtclhblofchfglaaGreatRowCompareSolversG5
import Derived.Test.YtclhblofchfglaaGreatRowCompareSolversG2
import Derived.Orders
import Derived.RegionTactic
import Derived.Deep.RegionHeld
import Derived.Test.YtclhblofchfglaaGreatRowCompareSolversG11
import Derived.Test.YtclhblofchfglaaGreatRowCompareSolversG9
import Derived.Deep.DeepCutAuto
import Derived.Deep.RegionLaw
namespace Go.Proofs.YtclhblofchfglaaGreat
open Go.RowKit
set_option maxRecDepth 10000
open Go.Maps (Keyed)
theorem Tryz.zeroInt64 (w:World):(zeroValue 2).run Tryz.prog w = .ok (.int .i64 0) w:=by kernel_rfl
def Mq (w:World) (M k:Nat) (g:ByteArray->Option Int):Prop:=
 ∃ D:DataW Unit,w.ownsMap Tryz.prog 9 (plainElem Tryz.prog 2) M k D/\∀ s:ByteArray,s.size<=maxLen ->
  Go.Maps.has D (.string s.data.toList) = (g s).isSome/\∀ n,g s = some n->D.atKey (.string s.data.toList) (.lit (.int .i64 0)) = .lit (.int .i64 n)
theorem Mq.lt {w:World} {M k:Nat} {g:ByteArray->Option Int} (h:Mq w M k g):M < w.heap.size:=by
 obtain ⟨D,h1,-⟩:=h;exact h1.lt
theorem Mq.frame {w w':World} {M k:Nat} {g:ByteArray->Option Int} (h:Mq w M k g) (hf:w'.heap[M]? = w.heap[M]?):Mq w' M k g:=by
 obtain ⟨D,⟨es,c,h1,h2⟩,h3⟩:=h
 exact ⟨D,⟨es,c,by rw [hf];exact h1,h2⟩,h3⟩
theorem Mq.only {w w':World} {fp:List Nat} {M k:Nat} {g:ByteArray->Option Int} (h:Mq w M k g) (ho:Only fp w w') (hn:M ∉ fp):Mq w' M k g:=h.frame (ho.block M h.lt hn)
theorem Mq.keep {w w':World} {M k:Nat} {g:ByteArray->Option Int} (h:Mq w M k g) (ho:Only [] w w'):Mq w' M k g:=h.only ho (by simp)
theorem Mq.made (w:World) {M:Nat} (hM:M = w.heap.size):Mq (w.alloc (.map #[] 0)) M 0 (fun _=>none):=by
 subst hM
 exact ⟨.map [],World.ownsMap_made _ _ _ _,fun s _=>⟨rfl,by simp⟩⟩
theorem Mq.congr {w:World} {M k:Nat} {g g':ByteArray->Option Int} (h:Mq w M k g) (hg:∀ s,g s = g' s):Mq w M k g':=by
 have:g = g':=funext hg
 rw [<- this];exact h
section
variable {w:World} {M k:Nat} {g:ByteArray->Option Int}
theorem Mq.run_ok (h:Mq w M k g) {s:ByteArray} (hs:s.size<=maxLen):(Instr.lookup 138 (.map (some M)) (.string s) true).run Tryz.prog w = .ok (.tuple #[.int .i64 ((g s).getD 0),.bool (g s).isSome]) w:=by
 obtain ⟨D,hown,hg⟩:=h
 obtain ⟨h1,h2⟩:=hg s hs
 obtain ⟨v,ps,hrun,hv⟩:=hown.look_ok Tryz.lawStr Tryz.underlying138 (Tryz.zeroInt64 w) (plainElem_int Tryz.underlying2 (by decide)) (Go.WideMaps.keyOf_string_mk Tryz.underlying9 hs)
 obtain ⟨c,rfl,hc,-⟩:=plainElem_int_inv Tryz.underlying2 hv
 have hc1:D.atKey (.string s.data.toList) (.lit (.int .i64 0)) = .lit (.int .i64 c):=congrArg Prod.fst hc
 have hcv:c = (g s).getD 0:=by
  cases hgs:g s with
  | none=>
   rw [hgs] at h1
   rw [Go.Maps.atKey_of_not_has h1] at hc1
   injection hc1 with hc1;injection hc1 with _ hc1;simp [hc1]
  | some n=>
   rw [h2 n hgs] at hc1
   injection hc1 with hc1;injection hc1 with _ hc1;simp [hc1]
 rw [hrun,hcv,h1]
theorem Mq.run_no (h:Mq w M k g) {s:ByteArray} (hs:s.size<=maxLen) (hg:g s = none):(Instr.lookup 138 (.map (some M)) (.string s) true).run Tryz.prog w = .ok (.tuple #[.int .i64 0,.bool false]) w:=by
 rw [h.run_ok hs,hg];rfl
theorem Mq.run_yes (h:Mq w M k g) {s:ByteArray} (hs:s.size<=maxLen) {n:Int} (hg:g s = some n):(Instr.lookup 138 (.map (some M)) (.string s) true).run Tryz.prog w = .ok (.tuple #[.int .i64 n,.bool true]) w:=by
 rw [h.run_ok hs,hg];rfl
theorem Mq.run_put (h:Mq w M k g) {s:ByteArray} (hs:s.size<=maxLen) {n:Int} (hn:I64 n) (hk:k < maxLen) :
  ∃ w',(Instr.mapUpdate 138 (.map (some M)) (.string s) (.int .i64 n)).run Tryz.prog w = .ok () w'/\Mq w' M (k + 1) (fun s'=>if s' = s then some n else g s')/\Only [M] w w':=by
 obtain ⟨D,hown,hg⟩:=h
 have hwf:(Lit.int .i64 n).wf = true:=WalkArith.wf_i64 hn
 obtain ⟨w',hrun,r1,r2⟩:=hown.store Tryz.lawStr Tryz.underlying138 hk (Go.WideMaps.keyOf_string_mk Tryz.underlying9 hs) (plainElem_int Tryz.underlying2 hwf)
 have hmap:=hown.isMap
 refine ⟨w',hrun,⟨_,r1,fun s' hs'=>?_⟩,?_⟩
 ·by_cases he:s' = s
  ·subst he
   have hkl:WideAt.IsKeyLit (Lit.string s'.data.toList):=trivial
   exact ⟨by rw [Go.Maps.has_put_same hmap hkl];simp,fun m' hm'=>by
    rw [Go.Maps.atKey_put_same hmap hkl];simp at hm';rw [hm']⟩
  ·have hne:(Lit.string s'.data.toList) ≠ .string s.data.toList:=by
    intro e;injection e with e
    apply he
    have:s'.data = s.data:=Array.toList_inj.1 e
    cases s';cases s;simp at this;rw [this]
   obtain ⟨h1,h2⟩:=hg s' hs'
   exact ⟨by rw [Go.Maps.has_put_other hne,h1];simp [he],fun m' hm'=>by
    rw [Go.Maps.atKey_put_other hne];simp [he] at hm';exact h2 m' hm'⟩
 ·exact zO.grown r2.grown (by intro j hj _;injection hj with hj;subst hj;simp)
end
def firstG (l:List (List Int)) (s:ByteArray):Option Int:=(l.findIdx? fun p=>kB p = s).map fun i:Nat=>(i:Int)
theorem Zry (s:ByteArray):firstG [] s = none:=rfl
theorem Zjc (l:List (List Int)) (p:List Int) (s:ByteArray):firstG (l ++ [p]) s = match firstG l s with | some i=>some i | none=>if s = kB p then some (l.length:Int) else none:=by
 unfold firstG
 rw [List.findIdx?_append]
 cases h:l.findIdx? (fun p=>decide (kB p = s)) with
 | some i=>simp
 | none=>
  by_cases hp:kB p = s
  ·simp [hp]
  ·have:¬ s = kB p:=fun e=>hp e.symm
   simp [hp,this]
def Byt (l:List Int):Prop:=∀ x∈l,0<=x/\x < 256
theorem Zlp {l:List (List Int)} (h:∀ p∈l,Byt p) {q:List Int} (hq:Byt q):firstG l (kB q) = if 0<=idxL l q then some (idxL l q) else none:=by
 have hfun:l.findIdx? (fun p=>decide (kB p = kB q)) = l.findIdx? (fun p=>decide (p = q)):=by
  induction l with
  | nil=>rfl
  | cons p l ih=>
   rw [List.findIdx?_cons,List.findIdx?_cons,ih (fun r hr=>h r (by simp [hr]))]
   have:decide (kB p = kB q) = decide (p = q):=by
    rw [decide_eq_decide];exact kB_eq (h p (by simp)) hq
   rw [this]
 unfold firstG idxL idxF
 rw [hfun]
 cases l.findIdx? (fun p=>decide (p = q)) with
 | some i=>simp
 | none=>simp
theorem Zuj {n:Int} {k:Nat} {l:List Int} (h:patB n k l = true) (hn:n<=256):Byt l:=fun x hx=>by
 have:=(Zaq.1 h).2.1 x hx;omega
structure Fam (B:Nat) (w:World) (cs:List (List Nat)):Prop where
 nd:cs.flatten.Nodup
 rng:∀ c∈cs,∀ b∈c,B<=b/\b < w.heap.size
theorem Fam.keep {B:Nat} {w w':World} {cs:List (List Nat)} (h:Fam B w cs) (hs:w.heap.size<=w'.heap.size):Fam B w' cs:=⟨h.nd,fun c hc b hb=>by have:=h.rng c hc b hb;omega⟩
theorem Fam.ge {B:Nat} {w:World} {cs:List (List Nat)} (h:Fam B w cs) (i:Nat) {c:List Nat} (hi:cs[i]? = some c) {b:Nat} (hb:b∈c):B<=b:=(h.rng c (List.mem_of_getElem? hi) b hb).1
theorem Fam.lt {B:Nat} {w:World} {cs:List (List Nat)} (h:Fam B w cs) (i:Nat) {c:List Nat} (hi:cs[i]? = some c) {b:Nat} (hb:b∈c):b < w.heap.size:=(h.rng c (List.mem_of_getElem? hi) b hb).2
theorem Zih:∀ {cs:List (List Nat)},cs.flatten.Nodup->∀ {i j:Nat} {c d:List Nat},i < j->cs[i]? = some c->cs[j]? = some d->∀ b∈c,b ∉ d
 | [],_,i,j,c,d,_,hi,_=>by simp at hi
 | a :: cs,hn,0,j,c,d,hij,hi,hj=>by
  rw [List.flatten_cons,List.nodup_append] at hn
  simp at hi;subst hi
  intro b hb hm
  obtain ⟨k,rfl⟩:∃ k,j = k + 1:=⟨j - 1,by omega⟩
  rw [List.getElem?_cons_succ] at hj
  exact hn.2.2 b hb b (List.mem_flatten.2 ⟨d,List.mem_of_getElem? hj,hm⟩) rfl
 | a :: cs,hn,i + 1,j,c,d,hij,hi,hj=>by
  rw [List.flatten_cons,List.nodup_append] at hn
  obtain ⟨k,rfl⟩:∃ k,j = k + 1:=⟨j - 1,by omega⟩
  rw [List.getElem?_cons_succ] at hi hj
  exact Zih hn.2.1 (by omega) hi hj
theorem Fam.disj {B:Nat} {w:World} {cs:List (List Nat)} (h:Fam B w cs) (i j:Nat) (hij:i ≠ j) {c d:List Nat} (hi:cs[i]? = some c) (hj:cs[j]? = some d):∀ b∈c,b ∉ d:=by
 intro b hb hm
 rcases Nat.lt_or_gt_of_ne hij with h1 | h1
 ·exact Zih h.nd h1 hi hj b hb hm
 ·exact Zih h.nd h1 hj hi b hm hb
theorem Zpr:∀ {cs:List (List Nat)} {i:Nat} {c:List Nat},cs.flatten.Nodup->c.Nodup->(∀ b∈c,b ∉ (cs.set i []).flatten)->i < cs.length->(cs.set i c).flatten.Nodup
 | [],i,c,_,_,_,hi=>by simp at hi
 | a :: cs,0,c,hn,hc,hd,_=>by
  rw [List.flatten_cons,List.nodup_append] at hn
  rw [List.set_cons_zero,List.flatten_cons,List.nodup_append]
  refine ⟨hc,hn.2.1,fun x hx y hy e=>?_⟩
  subst e
  exact hd x hx (by rw [List.set_cons_zero,List.flatten_cons];exact List.mem_append_right _ hy)
 | a :: cs,i + 1,c,hn,hc,hd,hi=>by
  rw [List.flatten_cons,List.nodup_append] at hn
  rw [List.set_cons_succ,List.flatten_cons,List.nodup_append]
  have hd':∀ b∈c,b ∉ (cs.set i []).flatten:=fun b hb hm=>hd b hb (by rw [List.set_cons_succ,List.flatten_cons];exact List.mem_append_right _ hm)
  refine ⟨hn.1,Zpr hn.2.1 hc hd' (by simpa using hi),fun x hx y hy e=>?_⟩
  subst e
  obtain ⟨d,hdm,hxd⟩:=List.mem_flatten.1 hy
  rcases List.mem_or_eq_of_mem_set hdm with h1 | rfl
  ·exact hn.2.2 x hx x (List.mem_flatten.2 ⟨d,h1,hxd⟩) rfl
  ·exact hd x hxd (by rw [List.set_cons_succ,List.flatten_cons];exact List.mem_append_left _ hx)
theorem Fam.set {B:Nat} {w w':World} {cs:List (List Nat)} (h:Fam B w cs) (hs:w.heap.size<=w'.heap.size) (hB:B<=w.heap.size) (i:Nat) {c:List Nat} (hi:cs[i]? = some c) {c':List Nat} (hn:c'.Nodup) (hc:∀ b∈c',b∈c\/(w.heap.size<=b/\b < w'.heap.size)):Fam B w' (cs.set i c'):=by
 have hil:i < cs.length:=(List.getElem?_eq_some_iff.1 hi).1
 refine ⟨Zpr h.nd hn (fun b hb hm=>?_) hil,fun d hd b hb=>?_⟩
 ·obtain ⟨d,hdm,hbd⟩:=List.mem_flatten.1 hm
  obtain ⟨j,hj⟩:=List.getElem?_of_mem hdm
  have hjl:j < cs.length:=by have:=(List.getElem?_eq_some_iff.1 hj).1;simpa using this
  by_cases hij:i = j
  ·subst hij
   rw [List.getElem?_set_self hil] at hj
   injection hj with hj;subst hj;cases hbd
  ·rw [List.getElem?_set_ne hij] at hj
   rcases hc b hb with h1 | h1
   ·exact h.disj i j hij hi hj b h1 hbd
   ·have:=h.lt j hj hbd;omega
 ·rcases List.mem_or_eq_of_mem_set hd with h1 | rfl
  ·have:=h.rng d h1 b hb;omega
  ·rcases hc b hb with h1 | h1
   ·have:=h.rng c (List.mem_of_getElem? hi) b h1;omega
   ·omega
section
variable {P:Program} {ops:Array Oper} {Q:Exit->Act->World->Prop} {md:Region.Mode} {I:Array Bool->Act->World->Prop}
theorem Zkd {listed:Array Bool} {i:Nat} (h:i∈Region.ready md ops listed):i < ops.size/\listed.getD i true = false:=by
 unfold Region.ready at h
 rw [List.mem_filter] at h
 obtain ⟨h1,h2⟩:=h
 rw [Bool.and_eq_true] at h2
 exact ⟨by simpa using h1,by simpa using h2.1⟩
theorem Zrs {l:List Bool} {i:Nat} (hi:i < l.length) (h:l[i] = false):(l.set i true).countP (· == false) + 1 = l.countP (· == false):=by
 induction l generalizing i with
 | nil=>simp at hi
 | cons b l ih=>
  cases i with
  | zero=>simp at h;subst h;simp
  | succ i=>
   simp at h hi
   rw [List.set_cons_succ,List.countP_cons,List.countP_cons,<- ih hi h]
   omega
theorem Zne (hstep:∀ listed a w i,listed.size = ops.size->I listed a w->i∈Region.ready md ops listed->wpOp P ops Q i (fun a' w'=>I (listed.setIfInBounds i true) a' w') a w)
  (hend:∀ listed a w,listed.size = ops.size->I listed a w->Region.ready md ops listed = []->Q .normal a w) :
  ∀ (fuel:Nat) (listed:Array Bool) (a:Act) (w:World),listed.size = ops.size->listed.toList.countP (· == false)<=fuel->I listed a w->wpAny P md ops Q fuel listed a w
 | 0,listed,a,w,hs,hc,h=>by
  have hr:Region.ready md ops listed = []:=by
   rw [List.eq_nil_iff_forall_not_mem]
   intro i hi
   obtain ⟨h1,h2⟩:=Zkd hi
   have h3:listed.toList.countP (· == false) = 0:=by omega
   rw [List.countP_eq_zero] at h3
   have hil:i < listed.size:=by omega
   have h4:listed[i] = false:=by simpa [Array.getD,hil] using h2
   have:=h3 listed[i] (by simp)
   simp [h4] at this
  exact ⟨hr,hend _ _ _ hs h hr⟩
 | fuel + 1,listed,a,w,hs,hc,h=>by
  refine ⟨fun hr=>hend _ _ _ hs h hr,fun i hi=>?_⟩
  refine wpOp_mono (fun a' w' h'=>?_) (hstep listed a w i hs h hi)
  obtain ⟨h1,h2⟩:=Zkd hi
  have hil:i < listed.size:=by omega
  have h4:listed[i] = false:=by simpa [Array.getD,hil] using h2
  refine Zne hstep hend fuel _ a' w' (by simpa using hs) ?_ h'
  have h5:=Zrs (l:=listed.toList) (i:=i) (by simpa using hil) (by simpa using h4)
  have h6:(listed.setIfInBounds i true).toList = listed.toList.set i true:=by simp
  rw [h6];omega
theorem Znx {id:Nat} {a:Act} {w:World} (hm:P.follows .mixedOrders = true)
  (h0:I (Array.replicate ops.size false) a { w with drawn:=w.drawn + 1 })
  (hstep:∀ listed a w i,listed.size = ops.size->I listed a w->i∈Region.ready .any ops listed->wpOp P ops Q i (fun a' w'=>I (listed.setIfInBounds i true) a' w') a w)
  (hend:∀ listed a w,listed.size = ops.size->I listed a w->Region.ready .any ops listed = []->Q .normal a w):(Code.region id ops true).wp P Q a w:=by
 refine wp_region_any hm (Zne hstep hend ops.size _ a _ (by simp) ?_ h0)
 have:=List.countP_le_length (p:=(· == false)) (l:=(Array.replicate ops.size false).toList)
 simpa using this
theorem Zmk {J:Act->Array Bool->Act->World->Prop} {id:Nat} {a:Act} {w:World} (hm:P.follows .mixedOrders = true)
  (h0:J a (Array.replicate ops.size false) a w.drew)
  (hstep:∀ listed a' w' i,listed.size = ops.size->J a listed a' w'->i∈Region.ready .any ops listed->wpOp P ops Q i (fun a'' w''=>J a (listed.setIfInBounds i true) a'' w'') a' w')
  (hend:∀ listed a' w',listed.size = ops.size->J a listed a' w'->Region.ready .any ops listed = []->Q .normal a' w'):(Code.region id ops true).wp P Q a w:=Znx (I:=J a) hm h0 hstep hend
theorem Zar {i:Nat} {o:Oper} {K:Act->World->Prop} {a:Act} {w:World} (ho:ops[i]? = some o) (hg:o.guard = none) (h:∀ K':Act->World->Prop,(∀ a w,K a w->K' a w)->Oper.wp P o a w K' Q):wpOp P ops Q i K a w:=
 wpOp_step ho (fun K' hK=>by rw [if_pos (by simp [Region.wanted,hg])];exact h K' hK)
theorem Zaz {i k:Nat} {o:Oper} {listed:Array Bool} (h:i∈Region.ready md ops listed) (ho:ops[i]? = some o) (hk:o.after.toList.any (fun e=>(e.on == k) && Region.binds md e) = true):listed.getD k false = true:=by
 unfold Region.ready at h
 rw [List.mem_filter,Bool.and_eq_true] at h
 have h2:=h.2.2
 rw [ho] at h2
 simp only [Option.map_some,Option.getD_some] at h2
 rw [List.any_eq_true] at hk
 obtain ⟨e,he,h3⟩:=hk
 obtain ⟨j,hj,rfl⟩:=List.getElem_of_mem he
 rw [Array.all_eq_true] at h2
 have h4:=h2 j (by simpa using hj)
 simp only [Array.getElem_toList] at h3
 rw [Bool.and_eq_true] at h3
 rw [h3.2] at h4
 have h5:(o.after[j]'(by simpa using hj)).on = k:=by simpa using h3.1
 rw [<- h5]
 simpa using h4
theorem un_getD {listed:Array Bool} {i:Nat} (h:listed.getD i true = false):listed.getD i false = false:=by
 rw [Array.getD_eq_getD_getElem?] at h ⊢
 cases hq:listed[i]? with
 | none=>rfl
 | some b=>rw [hq] at h;exact h
theorem Zsb {listed:Array Bool} (h:Region.ready md ops listed = []) (hs:listed.size = ops.size) (hd:((List.range ops.size).all fun i=>((ops.toList[i]?).map fun o=>o.after.toList.all fun e=>decide (e.on < i)).getD true) = true):∀ i,i < ops.size->listed.getD i false = true:=by
 intro i
 induction i using Nat.strongRecOn with
 | ind i ih=>
  intro hi
  rcases hq:listed.getD i false
  ·exfalso
   have hm:i∈Region.ready md ops listed:=by
    unfold Region.ready
    rw [List.mem_filter,Bool.and_eq_true]
    refine ⟨by simpa using hi,?_,?_⟩
    ·rw [Array.getD_eq_getD_getElem?] at hq ⊢
     rw [Array.getElem?_eq_getElem (by omega)] at hq ⊢
     simpa using hq
    ·rw [Array.getElem?_eq_getElem hi]
     simp only [Option.map_some,Option.getD_some]
     rw [Array.all_eq_true]
     intro j hj
     rcases hb:Region.binds md ((ops[i]).after[j])
     ·rfl
     ·have hlt:((ops[i]).after[j]).on < i:=by
       rw [List.all_eq_true] at hd
       have h1:=hd i (by simpa using hi)
       rw [Array.getElem?_toList,Array.getElem?_eq_getElem hi] at h1
       simp only [Option.map_some,Option.getD_some,List.all_eq_true] at h1
       exact of_decide_eq_true (h1 _ (by simp))
      simpa using ih _ hlt (by omega)
   rw [h] at hm;cases hm
  ·rfl
theorem Zfv (n i:Nat):(Array.replicate n false).getD i false = false:=by
 rw [Array.getD_eq_getD_getElem?]
 by_cases h:i < n
 ·rw [Array.getElem?_eq_getElem (by simpa using h)];simp
 ·rw [Array.getElem?_eq_none (by simpa using h)];rfl
theorem Zun {listed:Array Bool} {i k:Nat} (hk:k < listed.size):(listed.setIfInBounds k true).getD i false = true ↔ i = k\/listed.getD i false = true:=by
 simp only [Array.getD_eq_getD_getElem?]
 by_cases h:i = k
 ·subst h;simp [hk]
 ·have:¬ k = i:=fun e=>h e.symm
  simp [h,this]
end
def At (a:Act) (t:Nat) (v:Value):Prop:=a.tmps[t]? = some v
theorem At.same {a:Act} {t:Nat} {v:Value} (h:t < a.tmps.size):At (a.put (some t) v) t v:=by
 unfold At Act.put;simp [h]
theorem At.ne {a:Act} {t t':Nat} {v u:Value} (h:At a t v) (hn:t' ≠ t):At (a.put (some t') u) t v:=by
 unfold At Act.put at *;simp [hn,h]
structure RI (a0:Act) (S:List Nat) (a:Act):Prop where
 sz:a.tmps.size = a0.tmps.size
 df:a.defers = a0.defers
 sm:∀ t,t ∉ S->a.tmps[t]? = a0.tmps[t]?
theorem RI.refl (a0:Act) (S:List Nat):RI a0 S a0:=⟨rfl,rfl,fun _ _=>rfl⟩
theorem RI.put {a0 a:Act} {S:List Nat} {t:Nat} {v:Value} (h:RI a0 S a) (ht:t∈S):RI a0 S (a.put (some t) v):=by
 refine ⟨by unfold Act.put;simp [h.sz],by unfold Act.put;exact h.df,fun t' ht'=>?_⟩
 have hne:¬ t = t':=fun e=>ht' (by rw [<- e];exact ht)
 rw [<- h.sm t' ht']
 unfold Act.put;simp [hne]
theorem RI.at {a0 a:Act} {S:List Nat} {t:Nat} {v:Value} (h:RI a0 S a) (ht:t ∉ S) (h0:At a0 t v):At a t v:=(h.sm t ht).trans h0
def putL (a:Act) (L:List (Nat × Value)):Act:=L.foldl (fun a p=>a.put (some p.1) p.2) a
theorem putL_sz:∀ (L:List (Nat × Value)) (a:Act),(putL a L).tmps.size = a.tmps.size/\(putL a L).defers = a.defers
 | [],_=>⟨rfl,rfl⟩
 | p :: L,a=>by
  have:=putL_sz L (a.put (some p.1) p.2)
  unfold putL at *
  rw [List.foldl_cons]
  refine ⟨this.1.trans ?_,this.2.trans ?_⟩
  ·unfold Act.put;simp
  ·unfold Act.put;rfl
theorem putL_no:∀ (L:List (Nat × Value)) (a:Act) (t:Nat),t ∉ L.map (·.1)->(putL a L).tmps[t]? = a.tmps[t]?
 | [],_,_,_=>rfl
 | p :: L,a,t,h=>by
  simp only [List.map_cons,List.mem_cons,not_or] at h
  have:=putL_no L (a.put (some p.1) p.2) t h.2
  unfold putL at *
  rw [List.foldl_cons,this]
  have hne:¬ p.1 = t:=fun e=>h.1 e.symm
  unfold Act.put;simp [hne]
theorem Zpg:∀ (L:List (Nat × Value)) (a:Act) (p:Nat × Value),p∈L->(L.map (·.1)).Nodup->p.1 < a.tmps.size->(putL a L).tmps[p.1]? = some p.2
 | q :: L,a,p,h,hn,hs=>by
  simp only [List.map_cons,List.nodup_cons] at hn
  rcases List.mem_cons.1 h with rfl | h
  ·have:=putL_no L (a.put (some p.1) p.2) p.1 hn.1
   unfold putL at *
   rw [List.foldl_cons,this]
   unfold Act.put;simp [hs]
  ·have:=Zpg L (a.put (some q.1) q.2) p h hn.2 (by unfold Act.put;simpa using hs)
   unfold putL at *
   rw [List.foldl_cons];exact this
theorem RI.eq {a0 a:Act} (L:List (Nat × Value)) (h:RI a0 (L.map (·.1)) a) (hn:(L.map (·.1)).Nodup) (hs:∀ p∈L,p.1 < a0.tmps.size) (hv:∀ p∈L,At a p.1 p.2):a = putL a0 L:=by
 have h1:a.tmps = (putL a0 L).tmps:=by
  apply Array.ext (by rw [(putL_sz L a0).1,h.sz])
  intro t h1 h2
  have:a.tmps[t]? = (putL a0 L).tmps[t]?:=by
   by_cases ht:t∈L.map (·.1)
   ·obtain ⟨p,hp,rfl⟩:=List.mem_map.1 ht
    rw [Zpg L a0 p hp hn (hs p hp)]
    exact hv p hp
   ·rw [putL_no L a0 t ht];exact h.sm t ht
  rw [Array.getElem?_eq_getElem h1,Array.getElem?_eq_getElem h2] at this
  injection this
 have h2:a.defers = (putL a0 L).defers:=by rw [(putL_sz L a0).2,h.df]
 cases a
 cases hq:putL a0 L
 rw [hq] at h1 h2
 simp only at h1 h2
 rw [h1,h2]
theorem Zqu (x:Puzzle):inR (if validPz x = true then (cardG x:Int) else 0) 1 3000 = (expl x).isSome:=by
 rcases hv:validPz x
 ·rw [Zng hv];rfl
 ·have h1:=Zso hv
  have h2:=Zkb hv
  rw [if_pos rfl]
  rcases he:expl x with _ | t
  ·have:¬ cardG x<=3000:=fun hc=>by obtain ⟨t,ht⟩:=h2.2 hc;rw [he] at ht;cases ht
   have h3:¬ (inR (cardG x:Int) 1 3000 = true):=fun h=>by have:=inR_iff.1 h;omega
   simpa using h3
  ·have hc:=h2.1 ⟨t,he⟩
   exact inR_iff.2 ⟨by omega,by omega⟩
def BlkT (w:World) (g:Nat) (cs:List Value) (t:TypeId):Prop:=w.heap[g]? = some (.cells cs.toArray t (0,0))
theorem BlkT.only {w w':World} {g:Nat} {cs:List Value} {t:TypeId} {fp:List Nat} (h:BlkT w g cs t) (ho:Only fp w w') (hg:g ∉ fp):BlkT w' g cs t:=
 (ho.block g (Array.getElem?_eq_some_iff.1 h).1 hg).trans h
theorem BlkT.new (w:World) (cs:List Value) (t:TypeId):BlkT (w.alloc (.cells cs.toArray t)) w.heap.size cs t:=heap_alloc_new w _
theorem Acc.ofT {α:Type} [Rp α] {w:World} {B:Nat} {e:TypeId} {cs:List Value} {x:α} {fp:List Nat} {g:Nat} (hb:BlkT w g cs e) (h:Rp.rep w cs x fp) (hB:B<=g) (hn:g ∉ fp):Acc B e w (.slice (some ⟨g,0,none⟩) 1 1) [x] [fp]:=by
 refine ⟨⟨[cs],⟨by simp [Rp.len h],.inr ⟨g,1,cs.toArray,rfl,hB,hb,Nat.le_refl _,by unfold maxLen;omega,by simp [Rp.len h],by simpa using List.take_of_length_le (Nat.le_of_eq (Rp.len h))⟩⟩,rfl,fun k h1 h2 h3=>?_⟩,rfl,?_⟩
 ·have:k = 0:=by simpa using h1
  subst this
  exact h
 ·intro g' hg hm
  simp only [Value.ownBlock,Option.some.injEq] at hg
  subst hg
  exact hn (by simpa using hm)
def EX0 (x:Puzzle) (v2 vst:Value) (W wx:World) (s5:Value):Prop:=
 ∃ g M gs gd gp gy,s5 = .pointer (some ⟨g,0,none⟩)/\Blk wx g [.int .i64 x.points,.string x.names,v2,.slice (some ⟨gs,0,none⟩) 1 1,.slice (some ⟨gd,0,none⟩) 1 1,.map (some M),.slice (some ⟨gp,0,none⟩) 1 1,.slice (some ⟨gy,0,none⟩) 1 1,.slice none 0 0] /\
  BlkT wx gs [vst] 25/\BlkT wx gd [.int .i64 0] 2/\BlkT wx gp [.int .i64 0] 2/\BlkT wx gy [.int .i64 0] 2/\Mq wx M 1 (firstG [PM.pts x.points.toNat])/\[g,M,gs,gd,gp,gy].Nodup/\(∀ b∈[g,M,gs,gd,gp,gy],W.heap.size<=b)/\Only [] W wx
def eAl:List Nat:=[2,3,4,9,10,12]
def eSl:Nat->Option Nat
 | 0=>some 21 | 1=>some 22 | 2=>some 23 | 3=>some 24 | 4=>some 25 | 5=>some 26 | 6=>some 27 | 7=>none | 8=>some 28 | 9=>some 29 | 10=>some 30 | 11=>some 31 | 12=>some 32 | 13=>some 5 | _=>none
def eJs:Nat->List Nat
 | 2=>[2] | 3=>[3] | 4=>[4] | 7=>[4] | 8=>[4] | 9=>[9] | 10=>[10] | 11=>[2,3,4,9,10] | 12=>[2,3,4,9,10,12] | 13=>[12] | _=>[]
def eCells (x:Puzzle) (v2:Value) (f:Nat->Nat):List Value:=[.int .i64 x.points,.string x.names,v2,.slice (some ⟨f 2,0,none⟩) 1 1,.slice (some ⟨f 3,0,none⟩) 1 1,.map (some (f 4)),.slice (some ⟨f 9,0,none⟩) 1 1,.slice (some ⟨f 10,0,none⟩) 1 1,.slice none 0 0]
def eAgg (x:Puzzle) (v2:Value) (f:Nat->Nat):Value:=.agg (eCells x v2 f).toArray
def eF (x:Puzzle) (v2 vst:Value) (f:Nat->Nat) (a:Act) (w:World):Nat->Prop
 | 0=>At a 21 (.agg #[.int .i64 x.points,.string x.names,v2])
 | 1=>At a 22 vst
 | 2=>At a 23 (.slice (some ⟨f 2,0,none⟩) 1 1)/\BlkT w (f 2) [vst] 25
 | 3=>At a 24 (.slice (some ⟨f 3,0,none⟩) 1 1)/\BlkT w (f 3) [.int .i64 0] 2
 | 4=>At a 25 (.map (some (f 4)))
 | 5=>At a 26 vst
 | 6=>At a 27 (.string (kB (PM.pts x.points.toNat)))
 | 7=>Mq w (f 4) 1 (firstG [PM.pts x.points.toNat])
 | 8=>At a 28 (.map (some (f 4)))
 | 9=>At a 29 (.slice (some ⟨f 9,0,none⟩) 1 1)/\BlkT w (f 9) [.int .i64 0] 2
 | 10=>At a 30 (.slice (some ⟨f 10,0,none⟩) 1 1)/\BlkT w (f 10) [.int .i64 0] 2
 | 11=>At a 31 (eAgg x v2 f)
 | 12=>At a 32 (.pointer (some ⟨f 12,0,none⟩))/\Blk w (f 12) (eCells x v2 f)
 | 13=>At a 5 (.pointer (some ⟨f 12,0,none⟩))
 | _=>True
structure EI (x:Puzzle) (v2 vst:Value) (W:World) (a0:Act) (ls:Array Bool) (a:Act) (w:World) (f:Nat->Nat):Prop where
 on:Only [] W w
 fr:RI a0 [5,21,22,23,24,25,26,27,28,29,30,31,32] a
 rng:∀ i∈eAl,ls.getD i false = true->W.heap.size<=f i/\f i < w.heap.size
 inj:∀ i∈eAl,∀ j∈eAl,i ≠ j->ls.getD i false = true->ls.getD j false = true->f i ≠ f j
 ft:∀ i,ls.getD i false = true->eF x v2 vst f a w i
 m0:ls.getD 4 false = true->ls.getD 7 false = false->Mq w (f 4) 0 (fun _=>none)
 clo:∀ i,ls.getD i false = true->∀ j∈eJs i,ls.getD j false = true
theorem eF_move {x:Puzzle} {v2 vst:Value} {f f':Nat->Nat} {a:Act} {w w':World} {i:Nat} {t:Option Nat} {v:Value} {fp:List Nat} (h:eF x v2 vst f a w i) (hf:∀ j∈eJs i,f' j = f j) (ht:∀ u,t = some u->eSl i ≠ some u) (ho:Only fp w w') (hd:∀ j∈eJs i,j∈eAl->f j ∉ fp\/(i ≠ 7/\j = 4)):eF x v2 vst f' (a.put t v) w' i:=by
 have hA:∀ u z,At a u z->eSl i = some u->At (a.put t v) u z:=fun u z h1 h2=>by
  cases t with
  | none=>exact h1
  | some t=>exact h1.ne (fun e=>ht t rfl (by rw [e];exact h2))
 match i,h,hf,hd,hA with
 | 0,h,_,_,hA=>exact hA _ _ h rfl
 | 1,h,_,_,hA=>exact hA _ _ h rfl
 | 2,h,hf,hd,hA=>exact ⟨by rw [hf 2 (by decide)];exact hA _ _ h.1 rfl,by rw [hf 2 (by decide)];exact h.2.only ho ((hd 2 (by decide) (by decide)).resolve_right (by simp))⟩
 | 3,h,hf,hd,hA=>exact ⟨by rw [hf 3 (by decide)];exact hA _ _ h.1 rfl,by rw [hf 3 (by decide)];exact h.2.only ho ((hd 3 (by decide) (by decide)).resolve_right (by simp))⟩
 | 4,h,hf,_,hA=>show At _ _ _;rw [hf 4 (by decide)];exact hA _ _ h rfl
 | 5,h,_,_,hA=>exact hA _ _ h rfl
 | 6,h,_,_,hA=>exact hA _ _ h rfl
 | 7,h,hf,hd,hA=>show Mq _ _ _ _;rw [hf 4 (by decide)];exact h.only ho ((hd 4 (by decide) (by decide)).resolve_right (by simp))
 | 8,h,hf,_,hA=>show At _ _ _;rw [hf 4 (by decide)];exact hA _ _ h rfl
 | 9,h,hf,hd,hA=>exact ⟨by rw [hf 9 (by decide)];exact hA _ _ h.1 rfl,by rw [hf 9 (by decide)];exact h.2.only ho ((hd 9 (by decide) (by decide)).resolve_right (by simp))⟩
 | 10,h,hf,hd,hA=>exact ⟨by rw [hf 10 (by decide)];exact hA _ _ h.1 rfl,by rw [hf 10 (by decide)];exact h.2.only ho ((hd 10 (by decide) (by decide)).resolve_right (by simp))⟩
 | 11,h,hf,_,hA=>show At _ _ _;unfold eAgg eCells;rw [hf 2 (by decide),hf 3 (by decide),hf 4 (by decide),hf 9 (by decide),hf 10 (by decide)];exact hA _ _ h rfl
 | 12,h,hf,hd,hA=>exact ⟨by rw [hf 12 (by decide)];exact hA _ _ h.1 rfl,by unfold eCells;rw [hf 2 (by decide),hf 3 (by decide),hf 4 (by decide),hf 9 (by decide),hf 10 (by decide),hf 12 (by decide)];exact h.2.only ho ((hd 12 (by decide) (by decide)).resolve_right (by simp))⟩
 | 13,h,hf,_,hA=>show At _ _ _;rw [hf 12 (by decide)];exact hA _ _ h rfl
 | _ + 14,_,_,_,_=>trivial
theorem EI.upd {x:Puzzle} {v2 vst:Value} {W:World} {a0:Act} {ls:Array Bool} {a:Act} {w w':World} {f f':Nat->Nat} {k:Nat} {t:Option Nat} {v:Value} {fp:List Nat} (h:EI x v2 vst W a0 ls a w f) (hk:k < 14) (hs:ls.size = 14) (hu:ls.getD k false = false) (ht:t = eSl k)
  (ho:Only fp w w') (hfp:fp = []\/(k = 7/\fp = [f 4]/\ls.getD 4 false = true)) (hf:∀ i,i ≠ k->f' i = f i) (hal:k∈eAl->f' k = w.heap.size/\w.heap.size < w'.heap.size)
  (hdep:∀ j∈eJs k,j ≠ k->ls.getD j false = true) (hnew:eF x v2 vst f' (a.put t v) w' k) (hm:k = 4->Mq w' (f' 4) 0 (fun _=>none)):EI x v2 vst W a0 (ls.setIfInBounds k true) (a.put t v) w' f':=by
 have hg:∀ i,(ls.setIfInBounds k true).getD i false = true ↔ i = k\/ls.getD i false = true:=fun i=>Zun (by omega)
 have hne:∀ j,ls.getD j false = true->j ≠ k:=fun j hj e=>by rw [e,hu] at hj;cases hj
 have hsz:=ho.size
 have hno:∀ j∈eAl,ls.getD j false = true->j ≠ 4->f j ∉ fp:=fun j hj hl h4 hm=>by
  rcases hfp with e | ⟨-,e,e4⟩
  ·rw [e] at hm;cases hm
  ·rw [e] at hm;exact h.inj j hj 4 (by decide) h4 hl e4 (by simpa using hm)
 refine ⟨?_,?_,fun i hi hl=>?_,fun i hi j hj hij hl hl'=>?_,fun i hl=>?_,fun h4 h7=>?_,fun i hl j hj=>?_⟩
 ·refine h.on.then_ ho (fun b hb hlt=>?_)
  rcases hfp with e | ⟨-,e,e4⟩
  ·rw [e] at hb;cases hb
  ·rw [e] at hb
   have:=(h.rng 4 (by decide) e4).1
   simp at hb;omega
 ·cases t with
  | none=>exact h.fr
  | some t=>
   refine h.fr.put ?_
   match k,hk,ht with
   | 0,_,e | 1,_,e | 2,_,e | 3,_,e | 4,_,e | 5,_,e | 6,_,e | 8,_,e | 9,_,e | 10,_,e | 11,_,e | 12,_,e | 13,_,e=>injection e with e;subst e;decide
   | 7,_,e=>cases e
 ·rcases (hg i).1 hl with rfl | hl
  ·have:=hal hi;have:=h.on.size;omega
  ·rw [hf i (hne i hl)]
   have:=h.rng i hi hl;omega
 ·rcases (hg i).1 hl with e | q
  ·rcases (hg j).1 hl' with e' | q'
   ·exact absurd (e.trans e'.symm) hij
   ·have r:=h.rng j hj q'
    rw [e,(hal (by rw [<- e];exact hi)).1,hf j (hne j q')];omega
  ·rcases (hg j).1 hl' with e' | q'
   ·have r:=h.rng i hi q
    rw [e',(hal (by rw [<- e'];exact hj)).1,hf i (hne i q)];omega
   ·rw [hf i (hne i q),hf j (hne j q')];exact h.inj i hi j hj hij q q'
 ·rcases (hg i).1 hl with rfl | hl
  ·exact hnew
  ·have hik:=hne i hl
   refine eF_move (h.ft i hl) (fun j hj=>hf j (hne j (h.clo i hl j hj))) (fun u hu' e=>?_) ho (fun j hj hja=>?_)
   ·rw [ht] at hu'
    have e2:eSl i = eSl k:=e.trans hu'.symm
    have hi14:i < 14:=by
     rcases Nat.lt_or_ge i 14 with h1 | h1
     ·exact h1
     ·rw [Array.getD_eq_getD_getElem?,Array.getElem?_eq_none (by omega)] at hl;cases hl
    have:∀ i,i < 14->∀ k,k < 14->eSl k = eSl i->eSl k ≠ none->i = k:=by decide
    exact hik (this i hi14 k hk e2.symm (by rw [hu'];simp))
   ·by_cases h4:j = 4
    ·subst h4
     rcases hfp with e | ⟨e7,-,-⟩
     ·left;rw [e];simp
     ·right;exact ⟨by omega,rfl⟩
    ·exact .inl (hno j hja (h.clo i hl j hj) h4)
 ·have h7n:k ≠ 7:=fun e=>by
   have:=(hg 7).2 (.inl e.symm)
   rw [h7] at this;cases this
  have hfe:fp = []:=by
   rcases hfp with e | ⟨e,-⟩
   ·exact e
   ·exact absurd e h7n
  rcases (hg 4).1 h4 with e | h4
  ·exact hm e.symm
  ·rw [hf 4 (hne 4 h4)]
   have h7':ls.getD 7 false = false:=by
    rcases hq:ls.getD 7 false
    ·rfl
    ·have:=(hg 7).2 (.inr hq);rw [h7] at this;cases this
   exact (h.m0 h4 h7').only ho (by rw [hfe];simp)
 ·rcases (hg i).1 hl with rfl | hl
  ·by_cases hji:j = i
   ·exact (hg j).2 (.inl hji)
   ·exact (hg j).2 (.inr (hdep j hj hji))
  ·exact (hg j).2 (.inr (h.clo i hl j hj))
set_option maxHeartbeats 4000000 in
theorem Zig (cs:List Value) (x:Puzzle) (fp:List Nat) (w:World) (h:Rp.rep w cs x fp) (he:expl x = none) :
  Calls Tryz.prog 112 #[.agg cs.toArray] w fun e w'=>e = .returned (.tuple #[.pointer none,.bool false])/\Only [] w w':=by
 have h0:=h
 obtain ⟨v2,rfl,p0,p1,h2⟩:=h
 clear p0 p1 h2
 have hin:=Zqu x
 rw [he] at hin
 have Hin:=zH hin
 clear he hin
 obtain ⟨c,hc⟩:∃ c,c = (if validPz x = true then (cardG x:Int) else 0):=⟨_,rfl⟩
 rw [<- hc] at Hin
 have Hc:=zH hc
 clear hc
 go_enter Tryz.func112,Tryz.ntmps112
 go_wp2_with (first
  | (go_at_call 158;(with_reducible refine (Zer [.int .i64 x.points,.string x.names,v2] x _ _ (zK h0 zA)).mono ?_);rintro e w1 ⟨he,t1⟩;rw [<- Hc.out] at he;subst he)
  | (go_at_call 96;(with_reducible refine (Zam c 1 3000 _).mono ?_);rintro e w1 ⟨he,rfl⟩;rw [Hin.out] at he;subst he)
  | fail)
 exact bodyPost_ret (v:=.tuple #[.pointer none,.bool false]) (by simp [results,Tryz.results112,go_sem]) rfl ⟨rfl,zA⟩
def xeF (g M:Nat) (us ud up uy un ur:Value):List (List Nat):=[[g],[M],us.ownBlock.toList,ud.ownBlock.toList,up.ownBlock.toList,uy.ownBlock.toList,un.ownBlock.toList,ur.ownBlock.toList]
theorem ro_set {cs:List (List Nat)} {i b n:Nat} {c c':List Nat} (h:b < n/\∀ d∈cs,b ∉ d) (hi:cs[i]? = some c) (hn:∀ b∈c',b∈c\/n<=b):∀ d∈cs.set i c',b ∉ d:=by
 intro d hd hb
 rcases List.mem_or_eq_of_mem_set hd with h1 | rfl
 ·exact h.2 d h1 hb
 ·rcases hn b hb with h2 | h2
  ·exact h.2 c (List.mem_of_getElem? hi) h2
  ·omega
theorem Zde (v:Value):v.ownBlock.toList.Nodup:=by cases v.ownBlock <;> simp
structure XE (x:Puzzle) (v2:Value) (w:World) (g M:Nat) (LM LS:List (List Int)) (D P Y:List Int) (N:List (List Int)) (R:List Int) (wr:World) (us ud up uy un ur:Value) (fs fn:List (List Nat)) (ex:List Nat) (W:World):Prop where
 blk:Blk wr g [.int .i64 x.points,.string x.names,v2,us,ud,.map (some M),up,uy,un]
 st:Acc w.heap.size 25 wr us LS fs
 dp:AccI w.heap.size 2 wr ud D
 pa:AccI w.heap.size 2 wr up P
 by_:AccI w.heap.size 2 wr uy Y
 nx:Acc w.heap.size 25 wr un N fn
 rw_:AccI w.heap.size 2 wr ur R
 mp:Mq wr M LM.length (firstG LM)
 fam:Fam w.heap.size wr (xeF g M us ud up uy un ur)
 ro:∀ b∈fs.flatten ++ fn.flatten ++ ex,b < wr.heap.size/\∀ c∈xeF g M us ud up uy un ur,b ∉ c
 kp:∀ b∈ex,wr.heap[b]? = W.heap[b]?
 on:Only [] w wr
section
variable {x:Puzzle} {v2:Value} {w:World} {g M:Nat} {LM LS:List (List Int)} {D P Y:List Int} {N:List (List Int)} {R:List Int} {wa wb wr w':World} {us ud up uy un ur:Value} {fs fn:List (List Nat)} {ex:List Nat} {W:World}
theorem XE.keep (h:XE x v2 w g M LM LS D P Y N R wr us ud up uy un ur fs fn ex W) (ho:Only [] wr w'):XE x v2 w g M LM LS D P Y N R w' us ud up uy un ur fs fn ex W:=
 ⟨h.blk.keep ho,h.st.keep ho,h.dp.keep ho,h.pa.keep ho,h.by_.keep ho,h.nx.keep ho,h.rw_.keep ho,h.mp.keep ho,h.fam.keep ho.size,fun b hb=>⟨Nat.lt_of_lt_of_le (h.ro b hb).1 ho.size,(h.ro b hb).2⟩,fun b hb=>(ho.block b (h.ro b (List.mem_append_right _ hb)).1 (by simp)).trans (h.kp b hb),h.on.trans ho⟩
theorem XE.push_us {us':Value} {y:List Int} {f:List Nat} (h:XE x v2 w g M LM LS D P Y N R wa us ud up uy un ur fs fn ex W) (hA:Acc w.heap.size 25 wb us' (LS ++ [y]) (fs ++ [f])) (oA:Only us.ownBlock.toList wa wb) (nA:us'.ownBlock = us.ownBlock\/us'.ownBlock = some wa.heap.size) (hf:∀ b∈f,b < wa.heap.size/\∀ c∈xeF g M us ud up uy un ur,b ∉ c):XE x v2 w g M LM (LS ++ [y]) D P Y N R (wb.setCell ⟨g,3,none⟩ us') us' ud up uy un ur (fs ++ [f]) fn ex W:=by
 have hB:=h.on.size
 have hsz:=oA.size
 have hd:∀ (j:Nat) (c:List Nat),j ≠ 2->(xeF g M us ud up uy un ur)[j]? = some c->∀ b∈c,b ∉ us.ownBlock.toList:=fun j c hj hc=>h.fam.disj j 2 hj hc rfl
 have hn:∀ b∈us'.ownBlock.toList,b∈us.ownBlock.toList\/(wa.heap.size<=b/\b < wb.heap.size):=fun b hb=>by
  have hb':us'.ownBlock = some b:=by simpa using hb
  have hl:=(hA.ownlt b hb').2
  rcases nA with e | e
  ·left;rw [<- e];exact hb
  ·right;rw [e] at hb';injection hb' with hb';omega
 have hro:∀ b∈fs.flatten ++ fn.flatten ++ ex,b ∉ us.ownBlock.toList:=fun b hb=>(h.ro b hb).2 _ (List.mem_of_getElem? (i:=2) rfl)
 have f1:Fam w.heap.size wb ((xeF g M us ud up uy un ur).set 2 us'.ownBlock.toList):=h.fam.set hsz hB 2 rfl (Zde _) hn
 have hro2:∀ b∈(fs ++ [f]).flatten ++ fn.flatten ++ ex,b < wb.heap.size/\∀ c∈(xeF g M us ud up uy un ur).set 2 us'.ownBlock.toList,b ∉ c:=fun b hb=>by
  have hb2:b < wa.heap.size/\∀ c∈xeF g M us ud up uy un ur,b ∉ c:=by
   rw [List.flatten_append] at hb
   simp only [List.flatten_cons,List.flatten_nil,List.append_nil,List.mem_append] at hb
   rcases hb with ((hb | hb) | hb) | hb
   ·exact h.ro b (List.mem_append_left _ (List.mem_append_left _ hb))
   ·exact hf b hb
   ·exact h.ro b (List.mem_append_left _ (List.mem_append_right _ hb))
   ·exact h.ro b (List.mem_append_right _ hb)
  exact ⟨by omega,ro_set (i:=2) hb2 rfl (fun q hq=>(hn q hq).imp id (fun hh=>hh.1))⟩
 have hkp:∀ b∈ex,wb.heap[b]? = W.heap[b]?:=fun b hb=>(oA.block b (h.ro b (List.mem_append_right _ hb)).1 (hro b (List.mem_append_right _ hb))).trans (h.kp b hb)
 have hon:Only [] w wb:=h.on.then_ oA (fun b hb hl=>by have:=h.fam.ge 2 rfl hb;omega)
 have hs:Only [g] wb (wb.setCell ⟨g,3,none⟩ us'):=zO.setCell (by simp) _
 have hg0:∀ (j:Nat) (c:List Nat),j ≠ 0->((xeF g M us ud up uy un ur).set 2 us'.ownBlock.toList)[j]? = some c->∀ b∈c,b ∉ [g]:=fun j c hj hc=>f1.disj j 0 hj hc rfl
 have hb9:=(h.blk.only oA (fun hm=>hd 0 _ (by decide) rfl g (by simp) hm)).set 3 us'
 simp only [List.set] at hb9
 refine ⟨hb9,hA.only hs (fun b hb hm=>(hro2 b (by first | exact List.mem_append_left _ (List.mem_append_left _ hb) | exact List.mem_append_left _ (List.mem_append_right _ hb))).2 [g] (List.mem_of_getElem? (i:=0) rfl) hm) (fun q hq hm=>hg0 2 _ (by decide) rfl q (by simp [hq]) hm),(h.dp.only oA (fun q hq hm=>hd 3 _ (by decide) rfl q (by simp [hq]) hm)).only hs (fun q hq hm=>hg0 3 _ (by decide) rfl q (by simp [hq]) hm),(h.pa.only oA (fun q hq hm=>hd 4 _ (by decide) rfl q (by simp [hq]) hm)).only hs (fun q hq hm=>hg0 4 _ (by decide) rfl q (by simp [hq]) hm),(h.by_.only oA (fun q hq hm=>hd 5 _ (by decide) rfl q (by simp [hq]) hm)).only hs (fun q hq hm=>hg0 5 _ (by decide) rfl q (by simp [hq]) hm),(h.nx.only oA (fun b hb hm=>hro b (by first | exact List.mem_append_left _ (List.mem_append_left _ hb) | exact List.mem_append_left _ (List.mem_append_right _ hb)) hm) (fun q hq hm=>hd 6 _ (by decide) rfl q (by simp [hq]) hm)).only hs (fun b hb hm=>(hro2 b (by first | exact List.mem_append_left _ (List.mem_append_left _ hb) | exact List.mem_append_left _ (List.mem_append_right _ hb))).2 [g] (List.mem_of_getElem? (i:=0) rfl) hm) (fun q hq hm=>hg0 6 _ (by decide) rfl q (by simp [hq]) hm),(h.rw_.only oA (fun q hq hm=>hd 7 _ (by decide) rfl q (by simp [hq]) hm)).only hs (fun q hq hm=>hg0 7 _ (by decide) rfl q (by simp [hq]) hm),(h.mp.only oA (fun hm=>hd 1 _ (by decide) rfl M (by simp) hm)).only hs (fun hm=>hg0 1 _ (by decide) rfl M (by simp) hm),f1.keep hs.size,fun b hb=>⟨Nat.lt_of_lt_of_le (hro2 b hb).1 hs.size,(hro2 b hb).2⟩,fun b hb=>(hs.block b (hro2 b (List.mem_append_right _ hb)).1 (fun hm=>(hro2 b (List.mem_append_right _ hb)).2 [g] (List.mem_of_getElem? (i:=0) rfl) hm)).trans (hkp b hb),hon.then_ hs (fun b hb hl=>by have:=h.fam.ge 0 rfl (b:=g) (by simp);simp at hb;omega)⟩
theorem XE.push_ud {ud':Value} {n:Int} (h:XE x v2 w g M LM LS D P Y N R wa us ud up uy un ur fs fn ex W) (hA:AccI w.heap.size 2 wb ud' (D ++ [n])) (oA:Only ud.ownBlock.toList wa wb) (nA:ud'.ownBlock = ud.ownBlock\/ud'.ownBlock = some wa.heap.size):XE x v2 w g M LM LS (D ++ [n]) P Y N R (wb.setCell ⟨g,4,none⟩ ud') us ud' up uy un ur fs fn ex W:=by
 have hB:=h.on.size
 have hsz:=oA.size
 have hd:∀ (j:Nat) (c:List Nat),j ≠ 3->(xeF g M us ud up uy un ur)[j]? = some c->∀ b∈c,b ∉ ud.ownBlock.toList:=fun j c hj hc=>h.fam.disj j 3 hj hc rfl
 have hn:∀ b∈ud'.ownBlock.toList,b∈ud.ownBlock.toList\/(wa.heap.size<=b/\b < wb.heap.size):=fun b hb=>by
  have hb':ud'.ownBlock = some b:=by simpa using hb
  have hl:=(hA.ownlt b hb').2
  rcases nA with e | e
  ·left;rw [<- e];exact hb
  ·right;rw [e] at hb';injection hb' with hb';omega
 have hro:∀ b∈fs.flatten ++ fn.flatten ++ ex,b ∉ ud.ownBlock.toList:=fun b hb=>(h.ro b hb).2 _ (List.mem_of_getElem? (i:=3) rfl)
 have f1:Fam w.heap.size wb ((xeF g M us ud up uy un ur).set 3 ud'.ownBlock.toList):=h.fam.set hsz hB 3 rfl (Zde _) hn
 have hro2:∀ b∈fs.flatten ++ fn.flatten ++ ex,b < wb.heap.size/\∀ c∈(xeF g M us ud up uy un ur).set 3 ud'.ownBlock.toList,b ∉ c:=fun b hb=>by
  have h2:=(h.ro b hb).1
  exact ⟨by omega,ro_set (i:=3) (h.ro b hb) rfl (fun q hq=>(hn q hq).imp id (fun hh=>hh.1))⟩
 have hkp:∀ b∈ex,wb.heap[b]? = W.heap[b]?:=fun b hb=>(oA.block b (h.ro b (List.mem_append_right _ hb)).1 (hro b (List.mem_append_right _ hb))).trans (h.kp b hb)
 have hon:Only [] w wb:=h.on.then_ oA (fun b hb hl=>by have:=h.fam.ge 3 rfl hb;omega)
 have hs:Only [g] wb (wb.setCell ⟨g,4,none⟩ ud'):=zO.setCell (by simp) _
 have hg0:∀ (j:Nat) (c:List Nat),j ≠ 0->((xeF g M us ud up uy un ur).set 3 ud'.ownBlock.toList)[j]? = some c->∀ b∈c,b ∉ [g]:=fun j c hj hc=>f1.disj j 0 hj hc rfl
 have hb9:=(h.blk.only oA (fun hm=>hd 0 _ (by decide) rfl g (by simp) hm)).set 4 ud'
 simp only [List.set] at hb9
 refine ⟨hb9,(h.st.only oA (fun b hb hm=>hro b (by first | exact List.mem_append_left _ (List.mem_append_left _ hb) | exact List.mem_append_left _ (List.mem_append_right _ hb)) hm) (fun q hq hm=>hd 2 _ (by decide) rfl q (by simp [hq]) hm)).only hs (fun b hb hm=>(hro2 b (by first | exact List.mem_append_left _ (List.mem_append_left _ hb) | exact List.mem_append_left _ (List.mem_append_right _ hb))).2 [g] (List.mem_of_getElem? (i:=0) rfl) hm) (fun q hq hm=>hg0 2 _ (by decide) rfl q (by simp [hq]) hm),hA.only hs (fun q hq hm=>hg0 3 _ (by decide) rfl q (by simp [hq]) hm),(h.pa.only oA (fun q hq hm=>hd 4 _ (by decide) rfl q (by simp [hq]) hm)).only hs (fun q hq hm=>hg0 4 _ (by decide) rfl q (by simp [hq]) hm),(h.by_.only oA (fun q hq hm=>hd 5 _ (by decide) rfl q (by simp [hq]) hm)).only hs (fun q hq hm=>hg0 5 _ (by decide) rfl q (by simp [hq]) hm),(h.nx.only oA (fun b hb hm=>hro b (by first | exact List.mem_append_left _ (List.mem_append_left _ hb) | exact List.mem_append_left _ (List.mem_append_right _ hb)) hm) (fun q hq hm=>hd 6 _ (by decide) rfl q (by simp [hq]) hm)).only hs (fun b hb hm=>(hro2 b (by first | exact List.mem_append_left _ (List.mem_append_left _ hb) | exact List.mem_append_left _ (List.mem_append_right _ hb))).2 [g] (List.mem_of_getElem? (i:=0) rfl) hm) (fun q hq hm=>hg0 6 _ (by decide) rfl q (by simp [hq]) hm),(h.rw_.only oA (fun q hq hm=>hd 7 _ (by decide) rfl q (by simp [hq]) hm)).only hs (fun q hq hm=>hg0 7 _ (by decide) rfl q (by simp [hq]) hm),(h.mp.only oA (fun hm=>hd 1 _ (by decide) rfl M (by simp) hm)).only hs (fun hm=>hg0 1 _ (by decide) rfl M (by simp) hm),f1.keep hs.size,fun b hb=>⟨Nat.lt_of_lt_of_le (hro2 b hb).1 hs.size,(hro2 b hb).2⟩,fun b hb=>(hs.block b (hro2 b (List.mem_append_right _ hb)).1 (fun hm=>(hro2 b (List.mem_append_right _ hb)).2 [g] (List.mem_of_getElem? (i:=0) rfl) hm)).trans (hkp b hb),hon.then_ hs (fun b hb hl=>by have:=h.fam.ge 0 rfl (b:=g) (by simp);simp at hb;omega)⟩
theorem XE.push_up {up':Value} {n:Int} (h:XE x v2 w g M LM LS D P Y N R wa us ud up uy un ur fs fn ex W) (hA:AccI w.heap.size 2 wb up' (P ++ [n])) (oA:Only up.ownBlock.toList wa wb) (nA:up'.ownBlock = up.ownBlock\/up'.ownBlock = some wa.heap.size):XE x v2 w g M LM LS D (P ++ [n]) Y N R (wb.setCell ⟨g,6,none⟩ up') us ud up' uy un ur fs fn ex W:=by
 have hB:=h.on.size
 have hsz:=oA.size
 have hd:∀ (j:Nat) (c:List Nat),j ≠ 4->(xeF g M us ud up uy un ur)[j]? = some c->∀ b∈c,b ∉ up.ownBlock.toList:=fun j c hj hc=>h.fam.disj j 4 hj hc rfl
 have hn:∀ b∈up'.ownBlock.toList,b∈up.ownBlock.toList\/(wa.heap.size<=b/\b < wb.heap.size):=fun b hb=>by
  have hb':up'.ownBlock = some b:=by simpa using hb
  have hl:=(hA.ownlt b hb').2
  rcases nA with e | e
  ·left;rw [<- e];exact hb
  ·right;rw [e] at hb';injection hb' with hb';omega
 have hro:∀ b∈fs.flatten ++ fn.flatten ++ ex,b ∉ up.ownBlock.toList:=fun b hb=>(h.ro b hb).2 _ (List.mem_of_getElem? (i:=4) rfl)
 have f1:Fam w.heap.size wb ((xeF g M us ud up uy un ur).set 4 up'.ownBlock.toList):=h.fam.set hsz hB 4 rfl (Zde _) hn
 have hro2:∀ b∈fs.flatten ++ fn.flatten ++ ex,b < wb.heap.size/\∀ c∈(xeF g M us ud up uy un ur).set 4 up'.ownBlock.toList,b ∉ c:=fun b hb=>by
  have h2:=(h.ro b hb).1
  exact ⟨by omega,ro_set (i:=4) (h.ro b hb) rfl (fun q hq=>(hn q hq).imp id (fun hh=>hh.1))⟩
 have hkp:∀ b∈ex,wb.heap[b]? = W.heap[b]?:=fun b hb=>(oA.block b (h.ro b (List.mem_append_right _ hb)).1 (hro b (List.mem_append_right _ hb))).trans (h.kp b hb)
 have hon:Only [] w wb:=h.on.then_ oA (fun b hb hl=>by have:=h.fam.ge 4 rfl hb;omega)
 have hs:Only [g] wb (wb.setCell ⟨g,6,none⟩ up'):=zO.setCell (by simp) _
 have hg0:∀ (j:Nat) (c:List Nat),j ≠ 0->((xeF g M us ud up uy un ur).set 4 up'.ownBlock.toList)[j]? = some c->∀ b∈c,b ∉ [g]:=fun j c hj hc=>f1.disj j 0 hj hc rfl
 have hb9:=(h.blk.only oA (fun hm=>hd 0 _ (by decide) rfl g (by simp) hm)).set 6 up'
 simp only [List.set] at hb9
 refine ⟨hb9,(h.st.only oA (fun b hb hm=>hro b (by first | exact List.mem_append_left _ (List.mem_append_left _ hb) | exact List.mem_append_left _ (List.mem_append_right _ hb)) hm) (fun q hq hm=>hd 2 _ (by decide) rfl q (by simp [hq]) hm)).only hs (fun b hb hm=>(hro2 b (by first | exact List.mem_append_left _ (List.mem_append_left _ hb) | exact List.mem_append_left _ (List.mem_append_right _ hb))).2 [g] (List.mem_of_getElem? (i:=0) rfl) hm) (fun q hq hm=>hg0 2 _ (by decide) rfl q (by simp [hq]) hm),(h.dp.only oA (fun q hq hm=>hd 3 _ (by decide) rfl q (by simp [hq]) hm)).only hs (fun q hq hm=>hg0 3 _ (by decide) rfl q (by simp [hq]) hm),hA.only hs (fun q hq hm=>hg0 4 _ (by decide) rfl q (by simp [hq]) hm),(h.by_.only oA (fun q hq hm=>hd 5 _ (by decide) rfl q (by simp [hq]) hm)).only hs (fun q hq hm=>hg0 5 _ (by decide) rfl q (by simp [hq]) hm),(h.nx.only oA (fun b hb hm=>hro b (by first | exact List.mem_append_left _ (List.mem_append_left _ hb) | exact List.mem_append_left _ (List.mem_append_right _ hb)) hm) (fun q hq hm=>hd 6 _ (by decide) rfl q (by simp [hq]) hm)).only hs (fun b hb hm=>(hro2 b (by first | exact List.mem_append_left _ (List.mem_append_left _ hb) | exact List.mem_append_left _ (List.mem_append_right _ hb))).2 [g] (List.mem_of_getElem? (i:=0) rfl) hm) (fun q hq hm=>hg0 6 _ (by decide) rfl q (by simp [hq]) hm),(h.rw_.only oA (fun q hq hm=>hd 7 _ (by decide) rfl q (by simp [hq]) hm)).only hs (fun q hq hm=>hg0 7 _ (by decide) rfl q (by simp [hq]) hm),(h.mp.only oA (fun hm=>hd 1 _ (by decide) rfl M (by simp) hm)).only hs (fun hm=>hg0 1 _ (by decide) rfl M (by simp) hm),f1.keep hs.size,fun b hb=>⟨Nat.lt_of_lt_of_le (hro2 b hb).1 hs.size,(hro2 b hb).2⟩,fun b hb=>(hs.block b (hro2 b (List.mem_append_right _ hb)).1 (fun hm=>(hro2 b (List.mem_append_right _ hb)).2 [g] (List.mem_of_getElem? (i:=0) rfl) hm)).trans (hkp b hb),hon.then_ hs (fun b hb hl=>by have:=h.fam.ge 0 rfl (b:=g) (by simp);simp at hb;omega)⟩
theorem XE.push_uy {uy':Value} {n:Int} (h:XE x v2 w g M LM LS D P Y N R wa us ud up uy un ur fs fn ex W) (hA:AccI w.heap.size 2 wb uy' (Y ++ [n])) (oA:Only uy.ownBlock.toList wa wb) (nA:uy'.ownBlock = uy.ownBlock\/uy'.ownBlock = some wa.heap.size):XE x v2 w g M LM LS D P (Y ++ [n]) N R (wb.setCell ⟨g,7,none⟩ uy') us ud up uy' un ur fs fn ex W:=by
 have hB:=h.on.size
 have hsz:=oA.size
 have hd:∀ (j:Nat) (c:List Nat),j ≠ 5->(xeF g M us ud up uy un ur)[j]? = some c->∀ b∈c,b ∉ uy.ownBlock.toList:=fun j c hj hc=>h.fam.disj j 5 hj hc rfl
 have hn:∀ b∈uy'.ownBlock.toList,b∈uy.ownBlock.toList\/(wa.heap.size<=b/\b < wb.heap.size):=fun b hb=>by
  have hb':uy'.ownBlock = some b:=by simpa using hb
  have hl:=(hA.ownlt b hb').2
  rcases nA with e | e
  ·left;rw [<- e];exact hb
  ·right;rw [e] at hb';injection hb' with hb';omega
 have hro:∀ b∈fs.flatten ++ fn.flatten ++ ex,b ∉ uy.ownBlock.toList:=fun b hb=>(h.ro b hb).2 _ (List.mem_of_getElem? (i:=5) rfl)
 have f1:Fam w.heap.size wb ((xeF g M us ud up uy un ur).set 5 uy'.ownBlock.toList):=h.fam.set hsz hB 5 rfl (Zde _) hn
 have hro2:∀ b∈fs.flatten ++ fn.flatten ++ ex,b < wb.heap.size/\∀ c∈(xeF g M us ud up uy un ur).set 5 uy'.ownBlock.toList,b ∉ c:=fun b hb=>by
  have h2:=(h.ro b hb).1
  exact ⟨by omega,ro_set (i:=5) (h.ro b hb) rfl (fun q hq=>(hn q hq).imp id (fun hh=>hh.1))⟩
 have hkp:∀ b∈ex,wb.heap[b]? = W.heap[b]?:=fun b hb=>(oA.block b (h.ro b (List.mem_append_right _ hb)).1 (hro b (List.mem_append_right _ hb))).trans (h.kp b hb)
 have hon:Only [] w wb:=h.on.then_ oA (fun b hb hl=>by have:=h.fam.ge 5 rfl hb;omega)
 have hs:Only [g] wb (wb.setCell ⟨g,7,none⟩ uy'):=zO.setCell (by simp) _
 have hg0:∀ (j:Nat) (c:List Nat),j ≠ 0->((xeF g M us ud up uy un ur).set 5 uy'.ownBlock.toList)[j]? = some c->∀ b∈c,b ∉ [g]:=fun j c hj hc=>f1.disj j 0 hj hc rfl
 have hb9:=(h.blk.only oA (fun hm=>hd 0 _ (by decide) rfl g (by simp) hm)).set 7 uy'
 simp only [List.set] at hb9
 refine ⟨hb9,(h.st.only oA (fun b hb hm=>hro b (by first | exact List.mem_append_left _ (List.mem_append_left _ hb) | exact List.mem_append_left _ (List.mem_append_right _ hb)) hm) (fun q hq hm=>hd 2 _ (by decide) rfl q (by simp [hq]) hm)).only hs (fun b hb hm=>(hro2 b (by first | exact List.mem_append_left _ (List.mem_append_left _ hb) | exact List.mem_append_left _ (List.mem_append_right _ hb))).2 [g] (List.mem_of_getElem? (i:=0) rfl) hm) (fun q hq hm=>hg0 2 _ (by decide) rfl q (by simp [hq]) hm),(h.dp.only oA (fun q hq hm=>hd 3 _ (by decide) rfl q (by simp [hq]) hm)).only hs (fun q hq hm=>hg0 3 _ (by decide) rfl q (by simp [hq]) hm),(h.pa.only oA (fun q hq hm=>hd 4 _ (by decide) rfl q (by simp [hq]) hm)).only hs (fun q hq hm=>hg0 4 _ (by decide) rfl q (by simp [hq]) hm),hA.only hs (fun q hq hm=>hg0 5 _ (by decide) rfl q (by simp [hq]) hm),(h.nx.only oA (fun b hb hm=>hro b (by first | exact List.mem_append_left _ (List.mem_append_left _ hb) | exact List.mem_append_left _ (List.mem_append_right _ hb)) hm) (fun q hq hm=>hd 6 _ (by decide) rfl q (by simp [hq]) hm)).only hs (fun b hb hm=>(hro2 b (by first | exact List.mem_append_left _ (List.mem_append_left _ hb) | exact List.mem_append_left _ (List.mem_append_right _ hb))).2 [g] (List.mem_of_getElem? (i:=0) rfl) hm) (fun q hq hm=>hg0 6 _ (by decide) rfl q (by simp [hq]) hm),(h.rw_.only oA (fun q hq hm=>hd 7 _ (by decide) rfl q (by simp [hq]) hm)).only hs (fun q hq hm=>hg0 7 _ (by decide) rfl q (by simp [hq]) hm),(h.mp.only oA (fun hm=>hd 1 _ (by decide) rfl M (by simp) hm)).only hs (fun hm=>hg0 1 _ (by decide) rfl M (by simp) hm),f1.keep hs.size,fun b hb=>⟨Nat.lt_of_lt_of_le (hro2 b hb).1 hs.size,(hro2 b hb).2⟩,fun b hb=>(hs.block b (hro2 b (List.mem_append_right _ hb)).1 (fun hm=>(hro2 b (List.mem_append_right _ hb)).2 [g] (List.mem_of_getElem? (i:=0) rfl) hm)).trans (hkp b hb),hon.then_ hs (fun b hb hl=>by have:=h.fam.ge 0 rfl (b:=g) (by simp);simp at hb;omega)⟩
theorem XE.push_un {un':Value} (h:XE x v2 w g M LM LS D P Y N R wa us ud up uy un ur fs fn ex W) (hA:Acc w.heap.size 25 wb un' (N ++ [R]) (fn ++ [ur.ownBlock.toList])) (oA:Only un.ownBlock.toList wa wb) (nA:un'.ownBlock = un.ownBlock\/un'.ownBlock = some wa.heap.size):XE x v2 w g M LM LS D P Y (N ++ [R]) [] (wb.setCell ⟨g,8,none⟩ un') us ud up uy un' (.slice none 0 0) fs (fn ++ [ur.ownBlock.toList]) ex W:=by
 have hB:=h.on.size
 have hsz:=oA.size
 have hd:∀ (j:Nat) (c:List Nat),j ≠ 6->(xeF g M us ud up uy un ur)[j]? = some c->∀ b∈c,b ∉ un.ownBlock.toList:=fun j c hj hc=>h.fam.disj j 6 hj hc rfl
 have hn:∀ b∈un'.ownBlock.toList,b∈un.ownBlock.toList\/(wa.heap.size<=b/\b < wb.heap.size):=fun b hb=>by
  have hb':un'.ownBlock = some b:=by simpa using hb
  have hl:=(hA.ownlt b hb').2
  rcases nA with e | e
  ·left;rw [<- e];exact hb
  ·right;rw [e] at hb';injection hb' with hb';omega
 have hro:∀ b∈fs.flatten ++ fn.flatten ++ ex,b ∉ un.ownBlock.toList:=fun b hb=>(h.ro b hb).2 _ (List.mem_of_getElem? (i:=6) rfl)
 have f1:Fam w.heap.size wb ((xeF g M us ud up uy un ur).set 6 un'.ownBlock.toList):=h.fam.set hsz hB 6 rfl (Zde _) hn
 have f2:Fam w.heap.size wb (((xeF g M us ud up uy un ur).set 6 un'.ownBlock.toList).set 7 []):=f1.set (Nat.le_refl _) (by omega) 7 rfl (by simp) (by simp)
 have hur:∀ b∈ur.ownBlock.toList,b < wb.heap.size/\∀ c∈((xeF g M us ud up uy un ur).set 6 un'.ownBlock.toList).set 7 [],b ∉ c:=fun b hb=>by
  refine ⟨f1.lt 7 rfl hb,fun c hc hm=>?_⟩
  obtain ⟨j,hj⟩:=List.getElem?_of_mem hc
  by_cases h7:j = 7
  ·subst h7
   have:c = []:=by simpa [xeF] using hj.symm
   subst this;cases hm
  ·rw [List.getElem?_set_ne (by omega)] at hj
   exact f1.disj 7 j (by omega) rfl hj b hb hm
 have hro2:∀ b∈fs.flatten ++ (fn ++ [ur.ownBlock.toList]).flatten ++ ex,b < wb.heap.size/\∀ c∈((xeF g M us ud up uy un ur).set 6 un'.ownBlock.toList).set 7 [],b ∉ c:=fun b hb=>by
  rw [List.flatten_append] at hb
  simp only [List.flatten_cons,List.flatten_nil,List.append_nil,List.mem_append] at hb
  have hold:b∈fs.flatten ++ fn.flatten ++ ex->b < wb.heap.size/\∀ c∈((xeF g M us ud up uy un ur).set 6 un'.ownBlock.toList).set 7 [],b ∉ c:=fun hb=>by
   have h1:=ro_set (i:=6) (c':=un'.ownBlock.toList) (h.ro b hb) rfl (fun q hq=>(hn q hq).imp id (fun hh=>hh.1))
   have h2:=(h.ro b hb).1
   refine ⟨by omega,fun c hc hm=>?_⟩
   rcases List.mem_or_eq_of_mem_set hc with h3 | rfl
   ·exact h1 c h3 hm
   ·cases hm
  rcases hb with (hb | hb | hb) | hb
  ·exact hold (List.mem_append_left _ (List.mem_append_left _ hb))
  ·exact hold (List.mem_append_left _ (List.mem_append_right _ hb))
  ·exact hur b hb
  ·exact hold (List.mem_append_right _ hb)
 have hkp:∀ b∈ex,wb.heap[b]? = W.heap[b]?:=fun b hb=>(oA.block b (h.ro b (List.mem_append_right _ hb)).1 (hro b (List.mem_append_right _ hb))).trans (h.kp b hb)
 have hon:Only [] w wb:=h.on.then_ oA (fun b hb hl=>by have:=h.fam.ge 6 rfl hb;omega)
 have hs:Only [g] wb (wb.setCell ⟨g,8,none⟩ un'):=zO.setCell (by simp) _
 have hg0:∀ (j:Nat) (c:List Nat),j ≠ 0->(((xeF g M us ud up uy un ur).set 6 un'.ownBlock.toList).set 7 [])[j]? = some c->∀ b∈c,b ∉ [g]:=fun j c hj hc=>f2.disj j 0 hj hc rfl
 have hb9:=(h.blk.only oA (fun hm=>hd 0 _ (by decide) rfl g (by simp) hm)).set 8 un'
 simp only [List.set] at hb9
 refine ⟨hb9,(h.st.only oA (fun b hb hm=>hro b (by first | exact List.mem_append_left _ (List.mem_append_left _ hb) | exact List.mem_append_left _ (List.mem_append_right _ hb)) hm) (fun q hq hm=>hd 2 _ (by decide) rfl q (by simp [hq]) hm)).only hs (fun b hb hm=>(hro2 b (by first | exact List.mem_append_left _ (List.mem_append_left _ hb) | exact List.mem_append_left _ (List.mem_append_right _ hb))).2 [g] (List.mem_of_getElem? (i:=0) rfl) hm) (fun q hq hm=>hg0 2 _ (by decide) rfl q (by simp [hq]) hm),(h.dp.only oA (fun q hq hm=>hd 3 _ (by decide) rfl q (by simp [hq]) hm)).only hs (fun q hq hm=>hg0 3 _ (by decide) rfl q (by simp [hq]) hm),(h.pa.only oA (fun q hq hm=>hd 4 _ (by decide) rfl q (by simp [hq]) hm)).only hs (fun q hq hm=>hg0 4 _ (by decide) rfl q (by simp [hq]) hm),(h.by_.only oA (fun q hq hm=>hd 5 _ (by decide) rfl q (by simp [hq]) hm)).only hs (fun q hq hm=>hg0 5 _ (by decide) rfl q (by simp [hq]) hm),hA.only hs (fun b hb hm=>(hro2 b (by first | exact List.mem_append_left _ (List.mem_append_left _ hb) | exact List.mem_append_left _ (List.mem_append_right _ hb))).2 [g] (List.mem_of_getElem? (i:=0) rfl) hm) (fun q hq hm=>hg0 6 _ (by decide) rfl q (by simp [hq]) hm),AccI.nil _ _ _,(h.mp.only oA (fun hm=>hd 1 _ (by decide) rfl M (by simp) hm)).only hs (fun hm=>hg0 1 _ (by decide) rfl M (by simp) hm),f2.keep hs.size,fun b hb=>⟨Nat.lt_of_lt_of_le (hro2 b hb).1 hs.size,(hro2 b hb).2⟩,fun b hb=>(hs.block b (hro2 b (List.mem_append_right _ hb)).1 (fun hm=>(hro2 b (List.mem_append_right _ hb)).2 [g] (List.mem_of_getElem? (i:=0) rfl) hm)).trans (hkp b hb),hon.then_ hs (fun b hb hl=>by have:=h.fam.ge 0 rfl (b:=g) (by simp);simp at hb;omega)⟩
theorem XE.push_ur {ur':Value} {n:Int} (h:XE x v2 w g M LM LS D P Y N R wa us ud up uy un ur fs fn ex W) (hA:AccI w.heap.size 2 wb ur' (R ++ [n])) (oA:Only ur.ownBlock.toList wa wb) (nA:ur'.ownBlock = ur.ownBlock\/ur'.ownBlock = some wa.heap.size):XE x v2 w g M LM LS D P Y N (R ++ [n]) wb us ud up uy un ur' fs fn ex W:=by
 have hB:=h.on.size
 have hsz:=oA.size
 have hd:∀ (j:Nat) (c:List Nat),j ≠ 7->(xeF g M us ud up uy un ur)[j]? = some c->∀ b∈c,b ∉ ur.ownBlock.toList:=fun j c hj hc=>h.fam.disj j 7 hj hc rfl
 have hn:∀ b∈ur'.ownBlock.toList,b∈ur.ownBlock.toList\/(wa.heap.size<=b/\b < wb.heap.size):=fun b hb=>by
  have hb':ur'.ownBlock = some b:=by simpa using hb
  have hl:=(hA.ownlt b hb').2
  rcases nA with e | e
  ·left;rw [<- e];exact hb
  ·right;rw [e] at hb';injection hb' with hb';omega
 have hro:∀ b∈fs.flatten ++ fn.flatten ++ ex,b ∉ ur.ownBlock.toList:=fun b hb=>(h.ro b hb).2 _ (List.mem_of_getElem? (i:=7) rfl)
 have f1:Fam w.heap.size wb ((xeF g M us ud up uy un ur).set 7 ur'.ownBlock.toList):=h.fam.set hsz hB 7 rfl (Zde _) hn
 have hro2:∀ b∈fs.flatten ++ fn.flatten ++ ex,b < wb.heap.size/\∀ c∈(xeF g M us ud up uy un ur).set 7 ur'.ownBlock.toList,b ∉ c:=fun b hb=>by
  have h2:=(h.ro b hb).1
  exact ⟨by omega,ro_set (i:=7) (h.ro b hb) rfl (fun q hq=>(hn q hq).imp id (fun hh=>hh.1))⟩
 have hkp:∀ b∈ex,wb.heap[b]? = W.heap[b]?:=fun b hb=>(oA.block b (h.ro b (List.mem_append_right _ hb)).1 (hro b (List.mem_append_right _ hb))).trans (h.kp b hb)
 have hon:Only [] w wb:=h.on.then_ oA (fun b hb hl=>by have:=h.fam.ge 7 rfl hb;omega)
 exact ⟨(h.blk.only oA (fun hm=>hd 0 _ (by decide) rfl g (by simp) hm)),(h.st.only oA (fun b hb hm=>hro b (by first | exact List.mem_append_left _ (List.mem_append_left _ hb) | exact List.mem_append_left _ (List.mem_append_right _ hb)) hm) (fun q hq hm=>hd 2 _ (by decide) rfl q (by simp [hq]) hm)),(h.dp.only oA (fun q hq hm=>hd 3 _ (by decide) rfl q (by simp [hq]) hm)),(h.pa.only oA (fun q hq hm=>hd 4 _ (by decide) rfl q (by simp [hq]) hm)),(h.by_.only oA (fun q hq hm=>hd 5 _ (by decide) rfl q (by simp [hq]) hm)),(h.nx.only oA (fun b hb hm=>hro b (by first | exact List.mem_append_left _ (List.mem_append_left _ hb) | exact List.mem_append_left _ (List.mem_append_right _ hb)) hm) (fun q hq hm=>hd 6 _ (by decide) rfl q (by simp [hq]) hm)),hA,(h.mp.only oA (fun hm=>hd 1 _ (by decide) rfl M (by simp) hm)),f1,hro2,hkp,hon⟩
theorem XE.put {LM':List (List Int)} (h:XE x v2 w g M LM LS D P Y N R wa us ud up uy un ur fs fn ex W) (ho:Only [M] wa wb) (hm:Mq wb M LM'.length (firstG LM')):XE x v2 w g M LM' LS D P Y N R wb us ud up uy un ur fs fn ex W:=by
 have hsz:=ho.size
 have hd:∀ (j:Nat) (c:List Nat),j ≠ 1->(xeF g M us ud up uy un ur)[j]? = some c->∀ b∈c,b ∉ [M]:=fun j c hj hc=>h.fam.disj j 1 hj hc rfl
 have hro:∀ b∈fs.flatten ++ fn.flatten ++ ex,b ∉ [M]:=fun b hb=>(h.ro b hb).2 _ (List.mem_of_getElem? (i:=1) rfl)
 exact ⟨(h.blk.only ho (fun hm=>hd 0 _ (by decide) rfl g (by simp) hm)),(h.st.only ho (fun b hb hm=>hro b (by first | exact List.mem_append_left _ (List.mem_append_left _ hb) | exact List.mem_append_left _ (List.mem_append_right _ hb)) hm) (fun q hq hm=>hd 2 _ (by decide) rfl q (by simp [hq]) hm)),(h.dp.only ho (fun q hq hm=>hd 3 _ (by decide) rfl q (by simp [hq]) hm)),(h.pa.only ho (fun q hq hm=>hd 4 _ (by decide) rfl q (by simp [hq]) hm)),(h.by_.only ho (fun q hq hm=>hd 5 _ (by decide) rfl q (by simp [hq]) hm)),(h.nx.only ho (fun b hb hm=>hro b (by first | exact List.mem_append_left _ (List.mem_append_left _ hb) | exact List.mem_append_left _ (List.mem_append_right _ hb)) hm) (fun q hq hm=>hd 6 _ (by decide) rfl q (by simp [hq]) hm)),(h.rw_.only ho (fun q hq hm=>hd 7 _ (by decide) rfl q (by simp [hq]) hm)),hm,h.fam.keep hsz,fun b hb=>⟨Nat.lt_of_lt_of_le (h.ro b hb).1 hsz,(h.ro b hb).2⟩,fun b hb=>(ho.block b (h.ro b (List.mem_append_right _ hb)).1 (hro b (List.mem_append_right _ hb))).trans (h.kp b hb),h.on.then_ ho (fun b hb hl=>by have:=h.fam.ge 1 rfl (b:=M) (by simp);simp at hb;omega)⟩
theorem XE.hold (h:XE x v2 w g M LM LS D P Y N R wr us ud up uy un ur fs fn ex W) (ho:Only [] wr w') {f:List Nat} (hf:∀ b∈f,wr.heap.size<=b/\b < w'.heap.size):XE x v2 w g M LM LS D P Y N R w' us ud up uy un ur fs fn (ex ++ f) w':=by
 have h1:=h.keep ho
 refine ⟨h1.blk,h1.st,h1.dp,h1.pa,h1.by_,h1.nx,h1.rw_,h1.mp,h1.fam,fun b hb=>?_,fun _ _=>rfl,h1.on⟩
 rw [<- List.append_assoc] at hb
 rcases List.mem_append.1 hb with hb | hb
 ·exact h1.ro b hb
 ·refine ⟨(hf b hb).2,fun c hc hm=>?_⟩
  obtain ⟨j,hj⟩:=List.getElem?_of_mem hc
  have:=h.fam.lt j hj hm
  have:=(hf b hb).1
  omega
theorem XE.drop {f:List Nat} {W':World} (h:XE x v2 w g M LM LS D P Y N R wr us ud up uy un ur fs fn (ex ++ f) W') (hW:∀ b∈ex,W'.heap[b]? = W.heap[b]?):XE x v2 w g M LM LS D P Y N R wr us ud up uy un ur fs fn ex W:=
 ⟨h.blk,h.st,h.dp,h.pa,h.by_,h.nx,h.rw_,h.mp,h.fam,fun b hb=>h.ro b (by rw [<- List.append_assoc];exact List.mem_append_left _ hb),fun b hb=>(h.kp b (List.mem_append_left _ hb)).trans (hW b hb),h.on⟩
theorem XE.held (h:XE x v2 w g M LM LS D P Y N R wr us ud up uy un ur fs fn ex W) {α:Type} [Rp α] {cs:List Value} {y:α} {fp:List Nat} (hr:Rp.rep W cs y fp) (hf:∀ b∈fp,b∈ex):Rp.rep wr cs y fp:=Rp.frame hr fun b hb=>h.kp b (hf b hb)
theorem XE.blkA {v:Value} {i:Nat} (h:XE x v2 w g M LM LS D P Y N R wa us ud up uy un ur fs fn ex W) (hi:(xeF g M us ud up uy un ur)[i]? = some v.ownBlock.toList) (h0:0 ≠ i) (oA:Only v.ownBlock.toList wa wb):Blk wb g [.int .i64 x.points,.string x.names,v2,us,ud,.map (some M),up,uy,un]:=
 h.blk.only oA (fun hm=>h.fam.disj 0 i h0 rfl hi g (by simp) hm)
theorem XE.exA {v:Value} {i b:Nat} (h:XE x v2 w g M LM LS D P Y N R wa us ud up uy un ur fs fn ex W) (hi:(xeF g M us ud up uy un ur)[i]? = some v.ownBlock.toList) (hb:b∈ex):v.ownBlock ≠ some b:=fun e=>
 (h.ro b (List.mem_append_right _ hb)).2 _ (List.mem_of_getElem? hi) (by rw [e];simp)
end
set_option maxHeartbeats 2000000 in
theorem Zoj (cs:List Value) (x:Puzzle) (fp:List Nat) (v:Value) (s:List Int) (f2:List Nat) (w:World) (h:Rp.rep w cs x fp) (h2:Rd w v s f2)
  (hv:validPz x = true) (hs:PM.PN x.points.toNat s) :
  Calls Tryz.prog 161 #[.agg cs.toArray,v] w fun e w'=>∃ v fp',e = .returned v/\Rd w' v ((ltrs x.moves.length).map (nxt x s)) fp'/\Fresh w.heap.size w' fp'/\Only [] w w':=by
 obtain ⟨v2,rfl,p0,p1,hm⟩:=h
 obtain ⟨AG,CG,ob,fps,rfl,-,-⟩:=hm.open_
 obtain ⟨g1,g2,g3,g4⟩:=Zae hv
 obtain ⟨iL,hi,hz0,hz1,hz2⟩:=info_parts Tryz.info22
 have X0:=Blk.new w [.int .i64 x.points,.string x.names,.slice AG x.moves.length CG] 33
 simp only [List.toArray] at X0
 have x0:=X0.cell 2 rfl
 have hmv:∀ g∈x.moves,PM.IsP g/\g.length<=1000:=fun g hg=>by have:=g4 g hg;have:=(Zdm.1 this.2);exact ⟨this.2,by omega⟩
 have hpm:=Zag hv
 have Hpm:=zH hpm
 have Hs:=zH hs
 have hml:x.moves.length<=1000:=by omega
 have hpt:x.points.toNat<=1000:=by omega
 clear p0 p1 hv g4 hpm hs
 go_enter Tryz.func161,Tryz.ntmps161
 go_wp2_with (first
  | (go_at_call 118;(with_reducible refine (Zep x.moves.length _ (by omega)).mono ?_);rintro e w1 ⟨u1,f1,rfl,r1,F1,t1⟩;obtain ⟨a1,c1,rfl,I1⟩:=r1.ints)
  | fail)
 have K1:Only [] w w1:=zA
 have X1:=X0.keep t1
 obtain ⟨ls,hls⟩:∃ ls,ls = ltrs x.moves.length:=⟨_,rfl⟩
 rw [<- hls] at I1 ⊢
 have Hls:=zH hls
 have hll:ls.length<=1000:=by rw [hls,Zel];omega
 clear hls r1 F1 x0
 go_loopw [5,13] (fun o i wr=>∃ (j:Nat) (fs:List (List Nat)),j<=ls.length/\i = .int .i64 j/\Acc w1.heap.size 25 wr o ((ls.take j).map (nxt x s)) fs/\Fresh w1.heap.size wr fs.flatten/\Only [] w1 wr)
  (fun _ i _=>ls.length - (intOf i).toNat)
 case atStart=>exact ⟨0,[],Nat.zero_le _,rfl,Acc.nil _ _ _,Fresh.nil _ _,Only.refl _ _⟩
 case round=>
  obtain ⟨W2,hnew⟩:∃ W,W = wr:=⟨_,rfl⟩
  subst hnew
  obtain ⟨j,fs,hj,rfl,hA,hF,hK⟩:=hrel
  by_cases hlt:j < ls.length
  ·obtain ⟨b,off,rfl,-,hc0⟩:=I1.at_ j hlt
   have hc:=hK.cell (by simp) hc0
   have hlj:ls[j]∈ltrs x.moves.length:=by rw [<- Hls.out];exact List.getElem_mem hlt
   have Hlj:=zH hlj
   have Hmp:=zH (mv_pn Hpm.out hlj)
   have x0:=(X1.keep hK).cell 2 rfl
   have hh2:=zK hm (K1.trans hK)
   have hs2:=zK h2 (K1.trans hK)
   have Hsn:=zH (show (ls.take (j + 1)).map (nxt x s) = (ls.take j).map (nxt x s) ++ [nxt x s ls[j]] by rw [Zac ls j hlt,List.map_append];rfl)
   have hB2:w1.heap.size<=W2.heap.size:=hK.size
   have hal:((ls.take j).map (nxt x s)).length + 1<=1073741824:=by simp;omega
   clear hlj hc0
   go_wp2_with (first
    | (go_at_call 191;(with_reducible refine (Zrf (.slice AG x.moves.length CG) x.moves ls[j] _ _ (zK hh2 zA) hmv Hlj.out hml).mono ?_);rintro e w5 ⟨u5,f5,rfl,r5,F5,t5⟩)
    | (go_at_call 190;(with_reducible refine (Zbz x.points.toNat _ _ s (mv x.moves ls[j]) _ _ _ (zK hs2 zA) (zK r5 zA) Hs.out Hmp.out hpt).mono ?_);rintro e w6 ⟨u6,f6,rfl,r6,F6,t6⟩;obtain ⟨a6,c6,rfl,I6⟩:=r6.ints;clear I6;have r6':=zK r6 ((Only.refl [] w6).alloc (.cells #[.slice a6 (PM.comp s (mv x.moves ls[j])).length c6] 25));have F6':=(F6.mono (B':=W2.heap.size) t5.size).keep ((Only.refl [] w6).alloc (.cells #[.slice a6 (PM.comp s (mv x.moves ls[j])).length c6] 25));have k6:Only [] W2 w6:=t5.trans t6;have kz:=(hK.trans k6).alloc (.cells #[.slice a6 (PM.comp s (mv x.moves ls[j])).length c6] 25))
    | (at_builtin;refine Zbf rfl _ _ 22 rfl w1.heap.size 25 iL _ 24 Tryz.underlying22 hi hz0 hz1 hz2 rfl (by decide) (by decide) W2 _ ((ls.take j).map (nxt x s)) fs rfl hA hF (k6.alloc _) hB2 w6.heap.size 1 [.slice a6 (PM.comp s (mv x.moves ls[j])).length c6] (PM.comp s (mv x.moves ls[j])) f6 rfl (lit_src w6 [.slice a6 (PM.comp s (mv x.moves ls[j])).length c6] _ rfl) (by intro u hu;simp at hu;subst hu;rfl) r6' F6' hal w1 kz (Nat.le_refl _) ?_;intro v9 w9 hA9 hF9 hK9 hW9)
    | fail)
   go_roundw
   case rel=>exact ⟨j + 1,_,by omega,by go_num,by rw [Hsn.out];exact hA9,hF9,hK9⟩
   case measure=>simp [intOf];omega
  ·obtain rfl:j = ls.length:=by omega
   rw [List.take_length] at hA
   have HA:=zH hA
   clear hA
   go_wp2
   go_ret
   exact ⟨_,_,rfl,by rw [<- Hls.out];exact HA.out.rd (by decide),(HA.out.fresh hF).mono K1.size,K1.trans hK⟩
end Go.Proofs.YtclhblofchfglaaGreat
