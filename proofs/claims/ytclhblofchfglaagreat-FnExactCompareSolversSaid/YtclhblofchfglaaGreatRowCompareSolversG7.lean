/- The making of chains: the program's newChain, the reference's emptyChain and buildChain. -/
import Derived.Test.YtclhblofchfglaaGreatRowCompareSolversG6
import Derived.Test.YtclhblofchfglaaGreatRowCompareSolversG3
import Derived.Deep.RegionHeld3
import Derived.Deep.DeepCutAuto
import Derived.StillTailTactics
import Derived.Test.YtclhblofchfglaaGreatRowCompareSolversG4
import Derived.BigQuiet
import Derived.Deep.RegionLaw
import Derived.Test.YtclhblofchfglaaGreatRowCompareSolversG5
namespace Go.Proofs.YtclhblofchfglaaGreat
open Go.RowKit
set_option maxRecDepth 10000
structure RawV where
 v:Value
instance:Rp RawV where
 size:=1
 rep _ cs x fp:=cs = [x.v]/\fp = []
 len h:=by rw [h.1];rfl
 frame h _:=h
 lt h:=by rw [h.2];simp
theorem Acc.raw {B:Nat} {e:TypeId} {w:World} {v:Value} {l:List RawV} {fs:List (List Nat)} (h:Acc B e w v l fs) {k:Nat} (hk:k < l.length) :
  ∃ g c,v = .slice (some ⟨g,0,none⟩) l.length c/\w.cell? ⟨g,k,none⟩ = some l[k].v:=by
 obtain ⟨css,ho,hcl,hr⟩:=h.own
 have hfl:=h.fl
 have hcss:css.flatten = l.map RawV.v:=by
  have:css = l.map fun x=>[x.v]:=by
   apply List.ext_getElem (by simp [hcl])
   intro i h1 h2
   rw [(hr i h1 (by omega) (by omega)).1];simp
  rw [this]
  clear this hr hcl hfl ho h hk
  induction l with
  | nil=>rfl
  | cons x l ih=>simp [ih]
 rcases ho.2 with ⟨-,h0⟩ | ⟨g,cap,cur,hv,-⟩
 ·omega
 ·refine ⟨g,cap,hv,?_⟩
  have:=ho.cells (g:=g) (by rw [hv];rfl) k l[k].v (by rw [hcss];simp [hk])
  have hadd:(⟨g,0,none⟩:Addr).add k = ⟨g,k,none⟩:=by unfold Addr.add;split <;> simp_all
  rwa [hadd] at this
theorem Zob {P:Program} {α:Type} [Rp α] {ops:Array Oper} {rest:List Oper} {o:Oper} {a:Act} {w:World} {Q:Exit->Act->World->Prop} (hgd:o.guard = none) (s x:Operand) (t:TypeId)
  (ho:o.op = .call { callee:=.builtin .append,args:=#[s,x],argTypes:=#[t,t] })
  (B:Nat) (e:TypeId) (i:TypeInfo) (z:Value) (bytes:Nat) (ht:P.underlying t = some (.slice e)) (hi:P.info? e = some i) (hz:i.zero = some z)
  (hsize:i.size = Rp.size α) (hby:i.bytes = bytes) (hzs:z.cells.size = Rp.size α) (hsz:0 < Rp.size α) (hbb:bytes<=65536)
  (w0:World) (v:Value) (l:List α) (fs:List (List Nat)) (hs:a.eval s = v) (hA:Acc B e w0 v l fs) (hK0:Only [] w0 w) (hB:B<=w0.heap.size)
  (g c:Nat) (cs:List Value) (y:α) (fp:List Nat) (hx:a.eval x = .slice (some ⟨g,0,none⟩) 1 c) (hsrc:∀ j u,cs[j]? = some u->w.cell? ⟨g,j,none⟩ = some u) (hcs:∀ u∈cs,u.oneCell' = true)
  (hy:Rp.rep w cs y fp) (hap:∀ b∈fp,v.ownBlock ≠ some b) (hlen:l.length + 1<=1073741824)
  (h:∀ v' w',Acc B e w' v' (l ++ [y]) (fs ++ [fp])->Only v.ownBlock.toList w w'->(v'.ownBlock = v.ownBlock\/v'.ownBlock = some w.heap.size)->wpList P ops Q rest (a.put o.dst v') w'):wpList P ops Q (o :: rest) a w:=
 wpList_plain hgd fun _ hK=>Zft s x t ho B e i z bytes ht hi hz hsize hby hzs hsz hbb w0 v l fs hs hA hK0 hB g c cs y fp hx hsrc hcs hy hap hlen fun v' w' h1 h2 _ _ h5=>hK _ _ (h v' w' h1 h2 h5)
inductive Key
 | g | tv | gt | row (k:Nat) | emp (k:Nat) | idn (k:Nat)
deriving DecidableEq
structure Sep (B:Nat) (w:World) (S:Key->List Nat):Prop where
 le:B<=w.heap.size
 ge:∀ a,∀ x∈S a,B<=x
 sep:∀ a b,a ≠ b->∀ x∈S a,x ∉ S b
 lt:∀ a,∀ x∈S a,x < w.heap.size
def updS (S:Key->List Nat) (a:Key) (l:List Nat):Key->List Nat:=fun b=>if b = a then l else S b
theorem Zev (S:Key->List Nat) (a:Key) (l:List Nat):updS S a l a = l:=if_pos rfl
theorem Zaf (S:Key->List Nat) {a b:Key} (l:List Nat) (h:b ≠ a):updS S a l b = S b:=if_neg h
section
variable {B:Nat} {w w':World} {S:Key->List Nat}
theorem Sep.keep (h:Sep B w S) (hs:w.heap.size<=w'.heap.size):Sep B w' S:=⟨Nat.le_trans h.le hs,h.ge,h.sep,fun a x hx=>Nat.lt_of_lt_of_le (h.lt a x hx) hs⟩
theorem Sep.upd (h:Sep B w S) {a:Key} {l:List Nat} (hl:∀ x∈l,w.heap.size<=x/\x < w'.heap.size) (hs:w.heap.size<=w'.heap.size)  :Sep B w' (updS S a l):=by
 refine ⟨Nat.le_trans h.le hs,fun b x hx=>?_,fun b c hbc x hx hx'=>?_,fun b x hx=>?_⟩
 ·unfold updS at hx
  split at hx
  ·have:=(hl x hx).1;have:=h.le;omega
  ·exact h.ge b x hx
 ·unfold updS at hx hx'
  split at hx
  ·rename_i e1
   split at hx'
   ·rename_i e2;exact hbc (e1.trans e2.symm)
   ·have:=(hl x hx).1;have:=h.lt c x hx';omega
  ·split at hx'
   ·have:=(hl x hx').1;have:=h.lt b x hx;omega
   ·exact h.sep b c hbc x hx hx'
 ·unfold updS at hx
  split at hx
  ·exact (hl x hx).2
  ·exact Nat.lt_of_lt_of_le (h.lt b x hx) hs
end
def rowV (n b:Nat):Value:=.slice (some ⟨b,0,none⟩) n n
def rowsV (n:Nat) (rb:Nat->Nat) (j:Nat):List RawV:=(List.range j).map fun k=>⟨rowV n (rb k)⟩
theorem Znt (n:Nat) (rb:Nat->Nat) (j:Nat):(rowsV n rb j).length = j:=by simp [rowsV]
def updF {α:Type} (f:Nat->α) (k:Nat) (v:α):Nat->α:=fun j=>if j = k then v else f j
theorem Zdf {α:Type} (f:Nat->α) (k:Nat) (v:α):updF f k v k = v:=if_pos rfl
theorem Zcv {α:Type} (f:Nat->α) {j k:Nat} (v:α) (h:j ≠ k):updF f k v j = f j:=if_neg h
theorem Zsa (n:Nat) (rb:Nat->Nat) (j b:Nat):rowsV n (updF rb j b) (j + 1) = rowsV n rb j ++ [⟨rowV n b⟩]:=by
 unfold rowsV
 rw [List.range_succ,List.map_append]
 congr 1
 ·refine List.map_congr_left fun k hk=>?_
  rw [Zcv _ _ (by have:=List.mem_range.1 hk;omega)]
 ·simp [Zdf]
structure Em (e:TypeId) (B n j:Nat) (w:World) (S:Key->List Nat) (tv:Value) (rb:Nat->Nat) (iv:Nat->Value):Prop where
 sep:Sep B w S
 acc:∃ fs,Acc B e w tv (rowsV n rb j) fs/\fs.flatten = []
 tvS:tv.ownBlock.toList = S .tv
 cell:∀ k i,k < j->i < n->w.cell? ⟨rb k,i,none⟩ = some (if i = k then iv k else .slice none 0 0)
 own:∀ k,k < j->Own w [rb k]
 rS:∀ k,k < j->S (.row k) = [rb k]
 idn:∀ k,k < j->Rd w (iv k) (PM.pts n) (S (.idn k))
section
variable {e:TypeId} {B n j:Nat} {w w':World} {S:Key->List Nat} {tv:Value} {rb:Nat->Nat} {iv:Nat->Value}
theorem Sep.start {B:Nat} {w:World} (g gt:List Nat) (hB:B<=w.heap.size) (hg:∀ x∈g,x ∉ gt) (hgl:∀ x∈g,B<=x/\x < w.heap.size) (hgt:∀ x∈gt,B<=x/\x < w.heap.size):Sep B w (updS (updS (fun _=>[]) .g g) .gt gt):=by
 have hm:∀ a x,x∈updS (updS (fun _=>[]) .g g) .gt gt a->(a = .gt/\x∈gt)\/(a = .g/\x∈g):=by
  intro a x hx
  unfold updS at hx
  split at hx
  ·rename_i e;exact .inl ⟨e,hx⟩
  ·split at hx
   ·rename_i e;exact .inr ⟨e,hx⟩
   ·cases hx
 refine ⟨hB,fun a x hx=>?_,fun a b hab x hx hx'=>?_,fun a x hx=>?_⟩
 ·rcases hm a x hx with ⟨-,h⟩ | ⟨-,h⟩
  ·exact (hgt x h).1
  ·exact (hgl x h).1
 ·rcases hm a x hx with ⟨e,h⟩ | ⟨e,h⟩
  ·rcases hm b x hx' with ⟨e',h'⟩ | ⟨e',h'⟩
   ·exact hab (e.trans e'.symm)
   ·exact hg x h' h
  ·rcases hm b x hx' with ⟨e',h'⟩ | ⟨e',h'⟩
   ·exact hg x h h'
   ·exact hab (e.trans e'.symm)
 ·rcases hm a x hx with ⟨-,h⟩ | ⟨-,h⟩
  ·exact (hgt x h).2
  ·exact (hgl x h).2
theorem Em.start {S:Key->List Nat} {w:World} (e:TypeId) {B:Nat} (n:Nat) (hs:Sep B w S) (ht:S .tv = []) (rb:Nat->Nat) (iv:Nat->Value):Em e B n 0 w S (.slice none 0 0) rb iv:=
 ⟨hs,⟨[],Acc.nil _ _ _,rfl⟩,by rw [ht];rfl,by intro _ _ h;omega,by intro _ h;omega,by intro _ h;omega,by intro _ h;omega⟩
theorem Em.only (h:Em e B n j w S tv rb iv) {fp:List Nat} (ho:Only fp w w') (hd:∀ b∈fp,b ∉ S .tv/\(∀ k,b ∉ S (.row k))/\∀ k,b ∉ S (.idn k)):Em e B n j w' S tv rb iv:=by
 have hr:∀ k,k < j->rb k ∉ fp:=fun k hk hm=>(hd _ hm).2.1 k (by rw [h.rS k hk];simp)
 obtain ⟨fs,hA,hfs⟩:=h.acc
 refine ⟨h.sep.keep ho.size,⟨fs,hA.only ho (by rw [hfs];simp) (fun g hg hm=>(hd g hm).1 (by rw [<- h.tvS];simp [hg])),hfs⟩,h.tvS,fun k i hk hi=>ho.cell (hr k hk) (h.cell k i hk hi),fun k hk=>(h.own k hk).only ho (by simpa using hr k hk),h.rS,fun k hk=>Rp.only (h.idn k hk) ho fun b hb hm=>(hd b hm).2.2 k hb⟩
theorem Em.keep (h:Em e B n j w S tv rb iv) (ho:Only [] w w'):Em e B n j w' S tv rb iv:=h.only ho (by simp)
theorem Em.step (h:Em e B n j w S tv rb iv) (hj:j < n) {eI:TypeId} {w1 w2 w4 w5:World} (hown:w1.ownsRow w.heap.size eI 1 (.slice (some ⟨w.heap.size,0,none⟩) n n) n (List.replicate n (.slice none 0 0))) (h1:Only [] w w1)
  {v2:Value} {f2:List Nat} (r2:Rd w2 v2 (PM.pts n) f2) (F2:Fresh w1.heap.size w2 f2) (h2:Only [] w1 w2) (h4:Only [] (w2.setCell ⟨w.heap.size,j,none⟩ v2) w4)
  {tv':Value} {fs':List (List Nat)} (hA:Acc B e w5 tv' (rowsV n rb j ++ [⟨rowV n w.heap.size⟩]) fs') (hfs:fs'.flatten = []) (h5:Only tv.ownBlock.toList w4 w5) (hb:tv'.ownBlock = tv.ownBlock\/tv'.ownBlock = some w4.heap.size) :
  ∃ S',Em e B n (j + 1) w5 S' tv' (updF rb j w.heap.size) (updF iv j v2)/\S' .g = S .g/\S' .gt = S .gt/\∀ k,S' (.emp k) = S (.emp k):=by
 have hs0:w.heap.size < w1.heap.size:=(hown.lt w.heap.size rfl).2
 have hst:=Zat w2 w.heap.size j v2
 have hsz2:=h2.size
 have hsz3:=hst.size
 have hsz4:=h4.size
 have hsz5:=h5.size
 have htv:∀ b∈tv.ownBlock.toList,b∈S .tv/\b < w.heap.size:=fun b hb'=>by
  rw [h.tvS] at hb';exact ⟨hb',h.sep.lt _ b hb'⟩
 -- the old rows
 have hE3:Em e B n j (w2.setCell ⟨w.heap.size,j,none⟩ v2) S tv rb iv:=((h.keep h1).keep h2).only hst fun b hb'=>by
  have e:b = w.heap.size:=by simpa using hb'
  subst e
  exact ⟨fun hm=>Nat.lt_irrefl _ (h.sep.lt _ _ hm),fun k hm=>Nat.lt_irrefl _ (h.sep.lt _ _ hm),fun k hm=>Nat.lt_irrefl _ (h.sep.lt _ _ hm)⟩
 have hE4:=hE3.keep h4
 have hf2:∀ b∈f2,w1.heap.size<=b/\b < w2.heap.size:=fun b hb'=>⟨F2.ge b hb',F2.lt b hb'⟩
 -- the new row's cells
 have hown2:=Zbo hown h2
 obtain ⟨hown3,-⟩:=hown2.stored j v2
 have hown4:=Zbo hown3 h4
 have hown5:=Zbd hown4 h5 fun g hg hm=>by
  have:=(htv g hm).2
  simp [Value.ownBlock] at hg;omega
 have hr5:Rd w5 v2 (PM.pts n) f2:=by
  refine Rp.only (zK (Rp.only r2 hst fun b hb' hm=>?_) h4) h5 fun b hb' hm=>?_
  ·have e:b = w.heap.size:=by simpa using hm
   have:=(hf2 b hb').1;omega
  ·have:=(htv b hm).2;have:=(hf2 b hb').1;omega
 have hE5:∀ k i,k < j->i < n->w5.cell? ⟨rb k,i,none⟩ = some (if i = k then iv k else .slice none 0 0):=fun k i hk hi=>
  h5.cell (fun hm=>h.sep.sep .tv (.row k) (by simp) _ (htv _ hm).1 (by rw [h.rS k hk];simp)) (hE4.cell k i hk hi)
 have hO5:∀ k,k < j->Own w5 [rb k]:=fun k hk=>(hE4.own k hk).only h5 fun b hb' hm=>by
  have e:b = rb k:=by simpa using hb'
  subst e
  exact h.sep.sep .tv (.row k) (by simp) _ (htv _ hm).1 (by rw [h.rS k hk];simp)
 have hI5:∀ k,k < j->Rd w5 (iv k) (PM.pts n) (S (.idn k)):=fun k hk=>Rp.only (hE4.idn k hk) h5 fun b hb' hm=>h.sep.sep .tv (.idn k) (by simp) b (htv b hm).1 hb'
 -- the blocks
 have hS1:Sep B w1 (updS S (.row j) [w.heap.size]):=h.sep.upd (fun x hx=>by
  have e:x = w.heap.size:=by simpa using hx
  omega) h1.size
 have hS2:Sep B w2 (updS (updS S (.row j) [w.heap.size]) (.idn j) f2):=hS1.upd hf2 hsz2
 have hS4:Sep B w4 (updS (updS S (.row j) [w.heap.size]) (.idn j) f2):=hS2.keep (by omega)
 have key:∀ S':Key->List Nat,Sep B w5 S'->tv'.ownBlock.toList = S' .tv->(∀ k,S' (.row k) = updS S (.row j) [w.heap.size] (.row k))->(∀ k,S' (.idn k) = updS S (.idn j) f2 (.idn k))->Em e B n (j + 1) w5 S' tv' (updF rb j w.heap.size) (updF iv j v2):=by
  intro S' hs ht hr hi
  refine ⟨hs,⟨fs',by rw [Zsa];exact hA,hfs⟩,ht,fun k i hk hin=>?_,fun k hk=>?_,fun k hk=>?_,fun k hk=>?_⟩
  ·by_cases e:k = j
   ·subst e
    rw [Zdf,Zdf,hown5.cellAt i (by omega)]
    by_cases e2:i = k
    ·subst e2;simp [hin]
    ·rw [if_neg e2,List.getElem?_set_ne (by omega),List.getElem?_replicate,if_pos hin]
   ·rw [Zcv _ _ e,Zcv _ _ e];exact hE5 k i (by omega) hin
  ·by_cases e:k = j
   ·subst e
    rw [Zdf]
    exact (Zca hown5).own
   ·rw [Zcv _ _ e];exact hO5 k (by omega)
  ·rw [hr k]
   by_cases e:k = j
   ·subst e;rw [Zev,Zdf]
   ·rw [Zcv _ _ e,Zaf _ _ (by simpa using e)];exact h.rS k (by omega)
  ·rw [hi k]
   by_cases e:k = j
   ·subst e;rw [Zev,Zdf];exact hr5
   ·rw [Zcv _ _ e,Zaf _ _ (by simpa using e)];exact hI5 k (by omega)
 rcases hb with hb | hb
 ·refine ⟨updS (updS S (.row j) [w.heap.size]) (.idn j) f2,key _ (hS4.keep hsz5) ?_ (fun k=>?_) (fun k=>?_),?_,?_,fun k=>?_⟩
  ·rw [hb,h.tvS,Zaf _ _ (by simp),Zaf _ _ (by simp)]
  ·rw [Zaf _ _ (by simp)]
  ·unfold updS;split <;> rfl
  ·rw [Zaf _ _ (by simp),Zaf _ _ (by simp)]
  ·rw [Zaf _ _ (by simp),Zaf _ _ (by simp)]
  ·rw [Zaf _ _ (by simp),Zaf _ _ (by simp)]
 ·have hlt:=(hA.ownlt _ hb).2
  refine ⟨updS (updS (updS S (.row j) [w.heap.size]) (.idn j) f2) .tv [w4.heap.size],key _ (hS4.upd (fun x hx=>by
   have e:x = w4.heap.size:=by simpa using hx
   omega) hsz5) ?_ (fun k=>?_) (fun k=>?_),?_,?_,fun k=>?_⟩
  ·rw [hb,Zev];rfl
  ·rw [Zaf _ _ (by simp),Zaf _ _ (by simp)]
  ·rw [Zaf _ _ (by simp)];unfold updS;split <;> rfl
  ·rw [Zaf _ _ (by simp),Zaf _ _ (by simp),Zaf _ _ (by simp)]
  ·rw [Zaf _ _ (by simp),Zaf _ _ (by simp),Zaf _ _ (by simp)]
  ·rw [Zaf _ _ (by simp),Zaf _ _ (by simp),Zaf _ _ (by simp)]
theorem Em.ch (h:Em e B n n w S tv rb iv) (hn:0 < n) (hn20:n<=20) {g bg oG oT cG:Nat} {eG:TypeId} (gv:Nat->Value) (hg:S .g = [g]) (hgt:S .gt = [bg])
  (cn:w.cell? ⟨g,0,none⟩ = some (.int .i64 n)) (cg:w.cell? ⟨g,oG,none⟩ = some (.slice (some ⟨bg,0,none⟩) n cG)) (ct:w.cell? ⟨g,oT,none⟩ = some tv)
  (hgen:∀ k,k < n->w.cell? ⟨bg,k,none⟩ = some (gv k)) (hacc:∀ k,k < n->Acc B eG w (gv k) ([]:List (List Int)) []) (hgS:∀ k,k < n->(gv k).ownBlock.toList = S (.emp k)) (hob:Own w [bg]) :
  ∃ (L:Lay) (M F:List Nat),L.g = g/\L.oG = oG/\L.oT = oT/\(∀ b∈F,B<=b)/\Ch eG B w L gv n (PM.G0 n) (PM.T0 n) M F:=by
 obtain ⟨fs,hA,-⟩:=h.acc
 have hlen:=Znt n rb n
 obtain ⟨bt,cT,htv,-⟩:=hA.raw (k:=0) (by omega)
 rw [hlen] at htv
 have hbt:S .tv = [bt]:=by rw [<- h.tvS,htv];rfl
 have hrow:∀ k,k < n->w.cell? ⟨bt,k,none⟩ = some (.slice (some ⟨rb k,0,none⟩) n n):=fun k hk=>by
  obtain ⟨g',c',e1,e2⟩:=hA.raw (k:=k) (by omega)
  have e3:=htv.symm.trans e1
  injection e3 with e4 _ _
  injection e4 with e5
  injection e5 with e6 _ _
  rw [<- e6] at e2
  rw [e2];simp [rowsV,rowV]
 have hbgm:bg∈S .gt:=by rw [hgt];simp
 have hgm:g∈S .g:=by rw [hg];simp
 have hbtm:bt∈S .tv:=by rw [hbt];simp
 have hrm:∀ k,k < n->rb k∈S (.row k):=fun k hk=>by rw [h.rS k hk];simp
 have hem:∀ k b,k < n->(gv k).ownBlock = some b->b∈S (.emp k):=fun k b hk hb=>by rw [<- hgS k hk];simp [hb]
 have hM:∀ b,b∈bg :: ((List.range n).map rb ++ (List.range n).flatMap fun k=>S (.emp k))->b∈S .gt\/(∃ k,k < n/\b∈S (.row k))\/∃ k,b∈S (.emp k):=fun b hb=>by
  rcases List.mem_cons.1 hb with e | hb
  ·subst e;exact .inl hbgm
  ·rcases List.mem_append.1 hb with hb | hb
   ·obtain ⟨k,hk,e⟩:=List.mem_map.1 hb
    subst e;exact .inr (.inl ⟨k,List.mem_range.1 hk,hrm k (List.mem_range.1 hk)⟩)
   ·obtain ⟨k,-,hk⟩:=List.mem_flatMap.1 hb
    exact .inr (.inr ⟨k,hk⟩)
 have hF:∀ b,b∈g :: bt :: (List.range n).flatMap (fun k=>S (.idn k))->b∈S .g\/b∈S .tv\/∃ k,b∈S (.idn k):=fun b hb=>by
  rcases List.mem_cons.1 hb with e | hb
  ·subst e;exact .inl hgm
  ·rcases List.mem_cons.1 hb with e | hb
   ·subst e;exact .inr (.inl hbtm)
   ·obtain ⟨k,-,hk⟩:=List.mem_flatMap.1 hb
    exact .inr (.inr ⟨k,hk⟩)
 refine ⟨⟨g,bg,bt,cG,cT,oG,oT,rb⟩,bg :: ((List.range n).map rb ++ (List.range n).flatMap fun k=>S (.emp k)),g :: bt :: (List.range n).flatMap (fun k=>S (.idn k)),rfl,rfl,rfl,fun b hb=>(by rcases hF b hb with h1 | h1 | ⟨k,h1⟩ <;> exact h.sep.ge _ b h1),
  PM.Shape.zero n,hn,hn20,cn,cg,by rw [ct,htv],hrow,hgen,fun k m hk hm=>?_,fun k hk=>⟨[],by rw [PM.lv_G0];exact hacc k hk,by simp⟩,by simp,fun k hk=>?_,fun k b hk hb=>?_,by simp,by simp,fun b hb hb'=>?_,?_,fun b hb=>?_,fun b hb=>?_,fun b hb=>?_,fun i k hi hk e=>?_,fun k hk e=>?_,fun k b hk hb=>⟨fun e=>?_,fun i hi e=>?_⟩,fun i k b hi hk h1 h2=>?_⟩
 ·rw [PM.tr_T0 hk]
  have hc:=h.cell k m hk hm
  by_cases e:m = k
  ·subst e
   rw [if_pos rfl] at hc
   rw [if_pos rfl]
   exact ⟨_,_,hc,h.idn m hk,fun e=>absurd e (PM.pts_ne hn),fun b hb=>List.mem_cons_of_mem _ (List.mem_cons_of_mem _ (List.mem_flatMap.2 ⟨m,List.mem_range.2 hk,hb⟩))⟩
  ·rw [if_neg e] at hc
   rw [if_neg (by omega)]
   exact ⟨_,[],hc,nil_rd w,fun _=>rfl,by simp⟩
 ·exact List.mem_cons_of_mem _ (List.mem_append_left _ (List.mem_map.2 ⟨k,List.mem_range.2 hk,rfl⟩))
 ·exact List.mem_cons_of_mem _ (List.mem_append_right _ (List.mem_flatMap.2 ⟨k,List.mem_range.2 hk,hem k b hk hb⟩))
 ·rcases hM b hb with h1 | ⟨k,-,h1⟩ | ⟨k,h1⟩ <;> rcases hF b hb' with h2 | h2 | ⟨i,h2⟩ <;> exact h.sep.sep _ _ (by simp) b h1 h2
 ·intro b hb
  rcases List.mem_cons.1 hb with e | hb
  ·subst e;exact hob _ (by simp)
  ·obtain ⟨k,hk,e⟩:=List.mem_map.1 hb
   subst e;exact h.own k (List.mem_range.1 hk) _ (by simp)
 ·rcases hM b hb with h1 | ⟨k,-,h1⟩ | ⟨k,h1⟩ <;> exact h.sep.lt _ b h1
 ·rcases hF b hb with h1 | h1 | ⟨k,h1⟩ <;> exact h.sep.lt _ b h1
 ·rcases hM b hb with h1 | ⟨k,-,h1⟩ | ⟨k,h1⟩ <;> exact h.sep.ge _ b h1
 ·apply Classical.byContradiction
  intro hne
  exact h.sep.sep (.row i) (.row k) (by simpa using hne) _ (hrm i hi) (by have e':rb i = rb k:=e;rw [e'];exact hrm k hk)
 ·exact h.sep.sep (.row k) .gt (by simp) _ (hrm k hk) (by have e':rb k = bg:=e;rw [e'];exact hbgm)
 ·subst e;exact h.sep.sep (.emp k) .gt (by simp) _ (hem k _ hk hb) hbgm
 ·subst e;exact h.sep.sep (.emp k) (.row i) (by simp) _ (hem k _ hk hb) (hrm i hi)
 ·apply Classical.byContradiction
  intro hne
  exact h.sep.sep (.emp i) (.emp k) (by simpa using hne) _ (hem i b hi h1) (hem k b hk h2)
end
theorem Tryz.info222:(Tryz.prog.info? 22).map (fun i=>(i.zero,i.size,i.bytes)) = some (some (.slice none 0 0),1,24):=by kernel_rfl
def NC1 (eG:TypeId) (oG oT n:Nat) (w:World) (s:Value) (wx:World):Prop:=
 ∃ (L:Lay) (gv:Nat->Value) (M F:List Nat),s = .pointer (some ⟨L.g,0,none⟩)/\L.oG = oG/\L.oT = oT/\Ch eG w.heap.size wx L gv n (PM.G0 n) (PM.T0 n) M F/\Only [] w wx
def NR (eR:TypeId) (n:Nat) (w:World) (g bg:Nat) (j:Nat) (wr:World):Prop:=
 ∃ S tv rb iv,Em eR w.heap.size n j wr S tv rb iv/\S .g = [g]/\S .gt = [bg]/\(∀ k,S (.emp k) = [])/\Blk wr g [.int .i64 n,.slice (some ⟨bg,0,none⟩) n n,tv] /\
  wr.ownsRow bg eR 1 (.slice (some ⟨bg,0,none⟩) n n) n (List.replicate n (.slice none 0 0))/\Only [] w wr
theorem NR.fin {eR eG:TypeId} {n:Nat} {w:World} {g bg:Nat} {wr:World} (h:NR eR n w g bg n wr) (hn:0 < n) (hn20:n<=20):NC1 eG 1 2 n w (.pointer (some ⟨g,0,none⟩)) wr:=by
 obtain ⟨S,tv,rb,iv,hE,hg,hgt,hem,hB,hO,hK⟩:=h
 obtain ⟨L,M,F,e1,e2,e3,-,hC⟩:=hE.ch (eG:=eG) (oG:=1) (oT:=2) (cG:=n) hn hn20 (fun _=>.slice none 0 0) hg hgt (hB.cell 0 rfl) (hB.cell 1 rfl) (hB.cell 2 rfl)
  (fun k hk=>by rw [hO.cellAt k (by omega),List.getElem?_replicate,if_pos hk]) (fun k hk=>Acc.nil _ _ _) (fun k hk=>by rw [hem k];rfl) (Zca hO).own
 exact ⟨L,_,M,F,by rw [e1],e2,e3,hC,hK⟩
theorem NR.finF {eR eG:TypeId} {n:Nat} {w:World} {g bg:Nat} {wr:World} (h:NR eR n w g bg n wr) (hn:0 < n) (hn20:n<=20):∃ (L:Lay) (gv:Nat->Value) (M F:List Nat),Value.pointer (some ⟨g,0,none⟩) = .pointer (some ⟨L.g,0,none⟩)/\L.oG = 1/\L.oT = 2/\(∀ b∈F,w.heap.size<=b)/\Ch eG w.heap.size wr L gv n (PM.G0 n) (PM.T0 n) M F/\Only [] w wr:=by
 obtain ⟨S,tv,rb,iv,hE,hg,hgt,hem,hB,hO,hK⟩:=h
 obtain ⟨L,M,F,e1,e2,e3,hFB,hC⟩:=hE.ch (eG:=eG) (oG:=1) (oT:=2) (cG:=n) hn hn20 (fun _=>.slice none 0 0) hg hgt (hB.cell 0 rfl) (hB.cell 1 rfl) (hB.cell 2 rfl)
  (fun k hk=>by rw [hO.cellAt k (by omega),List.getElem?_replicate,if_pos hk]) (fun k hk=>Acc.nil _ _ _) (fun k hk=>by rw [hem k];rfl) (Zca hO).own
 exact ⟨L,_,M,F,by rw [e1],e2,e3,hFB,hC,hK⟩
theorem Blk.set {w:World} {g:Nat} {cs:List Value} (h:Blk w g cs) (i:Nat) (v:Value):Blk (w.setCell ⟨g,i,none⟩ v) g (cs.set i v):=by
 obtain ⟨t,h⟩:=h
 refine ⟨t,?_⟩
 simp [World.setCell,Array.getElem?_modify,h]
theorem Blk.frozen {w:World} {g:Nat} {cs:List Value} (h:Blk w g cs) (i:Nat):w.frozen? ⟨g,i,none⟩ = false:=by
 obtain ⟨t,h⟩:=h;simp [World.frozen?,h]
theorem NR.step {eR eI:TypeId} {n j:Nat} (hj:j < n) {w wr w1 w2 w4 w5:World} {g bg:Nat} {S:Key->List Nat} {tv:Value} {rb:Nat->Nat} {iv:Nat->Value}
  (hE:Em eR w.heap.size n j wr S tv rb iv) (hg:S .g = [g]) (hgt:S .gt = [bg]) (hem:∀ k,S (.emp k) = []) (hB:Blk wr g [.int .i64 n,.slice (some ⟨bg,0,none⟩) n n,tv])
  (hO:wr.ownsRow bg eR 1 (.slice (some ⟨bg,0,none⟩) n n) n (List.replicate n (.slice none 0 0))) (hK:Only [] w wr)
  (hown:w1.ownsRow wr.heap.size eI 1 (.slice (some ⟨wr.heap.size,0,none⟩) n n) n (List.replicate n (.slice none 0 0))) (h1:Only [] wr w1)
  {v2:Value} {f2:List Nat} (r2:Rd w2 v2 (PM.pts n) f2) (F2:Fresh w1.heap.size w2 f2) (h2:Only [] w1 w2) (h4:Only [] (w2.setCell ⟨wr.heap.size,j,none⟩ v2) w4)
  {tv':Value} {fs':List (List Nat)} (hA:Acc w.heap.size eR w5 tv' (rowsV n rb j ++ [⟨rowV n wr.heap.size⟩]) fs') (hfs:fs'.flatten = []) (h5:Only tv.ownBlock.toList w4 w5) (hb:tv'.ownBlock = tv.ownBlock\/tv'.ownBlock = some w4.heap.size) :
  NR eR n w g bg (j + 1) (w5.setCell ⟨g,2,none⟩ tv'):=by
 obtain ⟨S',hE',e1,e2,e3⟩:=hE.step hj hown h1 r2 F2 h2 h4 hA hfs h5 hb
 have hst:=Zat w5 g 2 tv'
 have hst2:=Zat w2 wr.heap.size j v2
 have hgS:g∈S .g:=by rw [hg];simp
 have hbS:bg∈S .gt:=by rw [hgt];simp
 have hgS':g∈S' .g:=by rw [e1];exact hgS
 have hglt:=hE.sep.lt _ _ hgS
 have hblt:=hE.sep.lt _ _ hbS
 have hgtv:g ∉ tv.ownBlock.toList:=by rw [hE.tvS];exact hE.sep.sep _ _ (by simp) _ hgS
 have hbtv:bg ∉ tv.ownBlock.toList:=by rw [hE.tvS];exact hE.sep.sep _ _ (by simp) _ hbS
 have hgb:g ≠ bg:=fun e=>hE.sep.sep .g .gt (by simp) _ hgS (e ▸ hbS)
 have hwr:w.heap.size<=wr.heap.size:=hK.size
 have hw2:wr.heap.size<=w2.heap.size:=Nat.le_trans h1.size h2.size
 have hw4:=h4.size
 have hw3:=hst2.size
 refine ⟨S',tv',_,_,hE'.only hst fun b hb'=>?_,by rw [e1,hg],by rw [e2,hgt],fun k=>by rw [e3,hem],?_,?_,?_⟩
 ·have e:b = g:=by simpa using hb'
  subst e
  exact ⟨hE'.sep.sep _ _ (by simp) _ hgS',fun k=>hE'.sep.sep _ _ (by simp) _ hgS',fun k=>hE'.sep.sep _ _ (by simp) _ hgS'⟩
 ·have:=(((((hB.keep h1).keep h2).only hst2 (by simp;omega)).keep h4).only h5 hgtv).set 2 tv'
  simpa using this
 ·refine Zbd (Zbd (Zbo (Zbd (Zbo (Zbo hO h1) h2) hst2 fun x hx=>?_) h4) h5 fun x hx=>?_) hst fun x hx=>?_
  ·have e:bg = x:=by simpa [Value.ownBlock] using hx
   subst e;simp;omega
  ·have e:bg = x:=by simpa [Value.ownBlock] using hx
   subst e;exact hbtv
  ·have e:bg = x:=by simpa [Value.ownBlock] using hx
   subst e;simpa using hgb.symm
 ·refine ((((hK.trans h1).trans h2).setCell (fun h=>by simp at h;omega) _).trans h4).then_ h5 (fun x hx hl=>?_) |>.setCell (fun h=>?_) _
  ·rw [hE.tvS] at hx
   have:=hE.sep.ge _ _ hx;omega
  ·have:=hE.sep.ge _ _ hgS
   have h':g < w.heap.size:=h
   omega
def CL (eG:TypeId) (L:Lay) (n:Nat) (gens:List (List Int)) (w:World) (j:Nat) (wr:World):Prop:=
 ∃ (gv:Nat->Value) (G:PM.Gens) (T:PM.Rows) (M F:List Nat),Ch eG w.heap.size wr L gv n G T M F/\PM.Chain n (gens.take j) G T/\PM.Ln n 0 G T/\Only [] w wr
theorem CL.step {eG:TypeId} {L:Lay} {n:Nat} {gens:List (List Int)} {w wr w1 w':World} {j:Nat} {gv:Nat->Value} {G:PM.Gens} {T:PM.Rows} {M F f:List Nat} (hC:Ch eG w.heap.size wr L gv n G T M F) (hc:PM.Chain n (gens.take j) G T) (hK:Only [] w wr)
  (t:Only [] wr w1) (hj:j < gens.length) (ha:AddP eG w.heap.size L n 0 gens[j] G T M F f gv w1 w'):CL eG L n gens w (j + 1) w':=by
 obtain ⟨gv',G',T',M',F',hC',hA,hL,hM⟩:=ha
 refine ⟨gv',G',T',M',F',hC',?_,hL,(hK.trans t).then_ hM.only fun x hx hl=>?_⟩
 ·rw [Zac gens j hj];exact hc.step hC'.shape hA
 ·have:=hC.ge x hx;omega
def CLF (eG:TypeId) (L:Lay) (n:Nat) (gens:List (List Int)) (fpg:List Nat) (w:World) (j:Nat) (wr:World):Prop:=
 ∃ (gv:Nat->Value) (G:PM.Gens) (T:PM.Rows) (M F:List Nat),(∀ b∈F,b∈fpg\/w.heap.size<=b)/\Ch eG w.heap.size wr L gv n G T M F/\PM.Chain n (gens.take j) G T/\PM.Ln n 0 G T/\Only [] w wr
theorem CLF.start {eG:TypeId} {L:Lay} {n:Nat} (gens:List (List Int)) (fpg:List Nat) {w wr:World} {gv:Nat->Value} {M F:List Nat} (hF:∀ b∈F,w.heap.size<=b) (hC:Ch eG w.heap.size wr L gv n (PM.G0 n) (PM.T0 n) M F) (hK:Only [] w wr):CLF eG L n gens fpg w 0 wr:=
 ⟨gv,_,_,M,F,fun b hb=>.inr (hF b hb),hC,by simpa using PM.Chain.zero n,PM.Ln.zero n,hK⟩
theorem CLF.step {eG:TypeId} {L:Lay} {n:Nat} {gens:List (List Int)} {fpg:List Nat} {w wr w1 w':World} {j:Nat} {gv:Nat->Value} {G:PM.Gens} {T:PM.Rows} {M F f:List Nat} (hF:∀ b∈F,b∈fpg\/w.heap.size<=b) (hf:∀ b∈f,b∈fpg\/w.heap.size<=b) (hC:Ch eG w.heap.size wr L gv n G T M F) (hc:PM.Chain n (gens.take j) G T) (hK:Only [] w wr)
  (t:Only [] wr w1) (hj:j < gens.length) (ha:AddP eG w.heap.size L n 0 gens[j] G T M F f gv w1 w'):CLF eG L n gens fpg w (j + 1) w':=by
 obtain ⟨gv',G',T',M',F',hC',hA,hL,hM⟩:=ha
 refine ⟨gv',G',T',M',F',fun b hb=>?_,hC',?_,hL,(hK.trans t).then_ hM.only fun x hx hl=>?_⟩
 ·rcases hM.f b hb with h1 | h1 | h1
  ·exact hF b h1
  ·exact hf b h1
  ·have:=(hK.trans t).size;exact .inr (by omega)
 ·rw [Zac gens j hj];exact hc.step hC'.shape hA
 ·have:=hC.ge x hx;omega
theorem madeNils' (n:Nat):(madeCells (Value.cells (.slice none 0 0)) n).toList = List.replicate n (.slice none 0 0):=madeNils n
theorem implAdd0 {n:Nat} {B:Nat} {L:Lay} {gv:Nat->Value} {G:PM.Gens} {T:PM.Rows} {M F:List Nat} {w:World} (hC:Ch 25 B w L gv n G T M F) (hoG:L.oG = 1) (hoT:L.oT = 2) (hI:PM.Inv n 0 G T) (hL:PM.Ln n 0 G T)
  {p:List Int} {vp:Value} {fp:List Nat} (hp:PM.PN n p) (hv:Rd w vp p fp) (hf:∀ b∈fp,b ∉ M) (hB:B<=w.heap.size) :
  Calls Tryz.prog 201 #[.pointer (some ⟨L.g,0,none⟩),.int .i64 0,vp] w fun en w'=>en = .returned (.tuple #[])/\AddP 25 B L n 0 p G T M F fp gv w w':=
 Zrk n n 0 (by omega) (by omega) B L gv G T M F w hC hoG hoT hI hL p vp fp (PM.May.zero G hp) hv hf hB
set_option maxHeartbeats 2000000 in
theorem Zlw (n:Nat) (hn:0 < n) (hn20:n<=20) (vg:Value) (gens:List (List Int)) (fpg:List Nat) (w:World) (hg:Rd w vg gens fpg) (hpn:∀ g∈gens,PM.PN n g) (hgl:gens.length<=1000) :
  Calls Tryz.prog 180 #[.int .i64 n,vg] w fun e w'=>∃ (L:Lay) (gv:Nat->Value) (G:PM.Gens) (T:PM.Rows) (M F:List Nat),e = .returned (.pointer (some ⟨L.g,0,none⟩))/\L.oG = 1/\L.oT = 2/\(∀ b∈F,b∈fpg\/w.heap.size<=b)/\Ch 25 w.heap.size w' L gv n G T M F/\PM.Chain n gens G T/\Only [] w w':=by
 obtain ⟨i2,hi2,hz20,hz21,hz22⟩:=info_parts Tryz.info222
 obtain ⟨i1,hi,hz0,hz1,hz2⟩:=info_parts Tryz.info22
 obtain ⟨ag,cg,obg,fpsg,rfl,hfpg,hSg⟩:=hg.open_
 have hgb:=hSg.bound
 have Hpn:=zH hpn
 have HSg:=zH hSg
 have Hfpg:=zH (Rp.lt hg)
 have Hfpe:=zH hfpg
 clear hpn hSg hg hfpg
 go_enter Tryz.func180,Tryz.ntmps180
 go_wp2_with (at_make;refine wpList_make_full _ rfl _ _ 204 rfl w.heap.size 22 i2 _ 1 Tryz.underlying204 hi2 hz20 hz21 _ _ _ _ n rfl rfl rfl rfl (by rw [hz22];omega) (by unfold maxLen;omega) (Nat.le_refl _) ?_;intro w1 hown hg)
 rw [madeNils',Nat.mul_one] at hown
 have hw1:w.heap.size < w1.heap.size:=(hown.lt w.heap.size rfl).2
 have h1:Only [] w w1:=zO.grown hg (by simp)
 have HN0:Hid (NR 22 n w w1.heap.size w.heap.size 0 (w1.alloc (.cells #[.int .i64 n,.slice (some ⟨w.heap.size,0,none⟩) n n,.slice none 0 0] 206))):=zH (by
  have hal:Only [] w1 (w1.alloc (.cells #[.int .i64 n,.slice (some ⟨w.heap.size,0,none⟩) n n,.slice none 0 0] 206)):=zO.alloc _
  have hsz:(w1.alloc (.cells #[.int .i64 n,.slice (some ⟨w.heap.size,0,none⟩) n n,.slice none 0 0] 206)).heap.size = w1.heap.size + 1:=by simp
  refine ⟨updS (updS (fun _=>[]) .g [w1.heap.size]) .gt [w.heap.size],.slice none 0 0,fun _=>0,fun _=>.slice none 0 0,Em.start _ n (Sep.start _ _ (by omega) (by simp;omega) (by simp;omega) (by simp;omega)) (by rw [Zaf _ _ (by simp),Zaf _ _ (by simp)]) _ _,by rw [Zaf _ _ (by simp),Zev],Zev _ _ _,fun k=>by rw [Zaf _ _ (by simp),Zaf _ _ (by simp)],Blk.new w1 _ _,Zbo hown hal,h1.trans hal⟩)
 clear hown hg
 go_wp2
 go_loopw [16] (fun i wr=>∃ j:Nat,j<=n/\i = .int .i64 j/\NR 22 n w w1.heap.size w.heap.size j wr)
  (fun i _=>n - (intOf i).toNat)
 case atStart=>exact ⟨0,Nat.zero_le _,rfl,HN0.out⟩
 case round=>
  obtain ⟨W2,hnew⟩:∃ W,W = wr:=⟨_,rfl⟩
  subst hnew
  obtain ⟨j,hj,rfl,hN⟩:=hrel
  by_cases hlt:j < n
  ·obtain ⟨S,tv,rb,iv,hE,eg,egt,hem,hB,hO,hK⟩:=hN
   have hgS:w1.heap.size∈S .g:=by rw [eg];simp
   have hglt:=hE.sep.lt _ _ hgS
   have hgtv:w1.heap.size ∉ tv.ownBlock.toList:=by rw [hE.tvS];exact hE.sep.sep _ _ (by simp) _ hgS
   obtain ⟨fs,hA,hfs⟩:=hE.acc
   have hrl:=Znt n rb j
   have hne:w1.heap.size ≠ W2.heap.size:=by omega
   have hBn:w.heap.size<=W2.heap.size:=hK.size
   have HE:=zH hE
   have HB:=zH hB
   have HO:=zH hO
   have HK:=zH hK
   have Heg:=zH eg
   have Hegt:=zH egt
   have Hem:=zH hem
   have HA:=zH hA
   have Hfs:=zH hfs
   have Hrl:=zH hrl
   have Hgtv:=zH hgtv
   have htvlt:∀ g,tv.ownBlock = some g->g ∉ [W2.heap.size]:=fun g hg hm=>by
    have h5:=(hA.ownlt g hg).2
    have h6:g = W2.heap.size:=by simpa using hm
    omega
   have Htvlt:=zH htvlt
   clear hE hB hO hK eg egt hem hA hfs hrl hgS hgtv htvlt
   go_wp2_with (first
    | (at_make;refine wpList_make_full _ rfl _ _ 22 rfl W2.heap.size 25 i1 _ 1 Tryz.underlying22 hi hz0 hz1 _ _ _ _ n rfl rfl rfl rfl (by rw [hz2];omega) (by unfold maxLen;omega) (Nat.le_refl _) ?_;intro w3 hown hg;rw [madeNils',Nat.mul_one] at hown;have h3:Only [] W2 w3:=zO.grown hg (by simp);have Hown:=zH hown;clear hown hg)
    | (go_at_call 159;(with_reducible refine (Zfl n w3 (by omega)).mono ?_);rintro en w4 ⟨v4,f4,rfl,r4,F4,t4⟩;obtain ⟨a4,c4,rfl,-⟩:=r4.ints;have hO4:=Zbo Hown.out t4;have c40:=(hO4.cellAt j (by omega));rw [List.getElem?_replicate,if_pos hlt] at c40;have z40:=hO4.frozenAt j;have HO4:=zH hO4;clear hO4;have c41:=((HB.out.keep h3).keep t4).cell 2 rfl)
    | (at_builtin;go_loud (refine Zob (α:=RawV) rfl _ _ 204 rfl w.heap.size 22 i2 _ 24 Tryz.underlying204 hi2 hz20 hz21 hz22 rfl (by decide) (by decide) (w4.setCell ⟨W2.heap.size,j,none⟩ _) tv (rowsV n rb j) fs rfl (((HA.out.keep h3).keep t4).only (Zat w4 _ j _) (by rw [Hfs.out];simp) Htvlt.out) (zO.alloc _) (Nat.le_trans hBn (Nat.le_trans (Nat.le_trans h3.size t4.size) (Zat w4 _ j _).size)) _ 1 [.slice (some ⟨W2.heap.size,0,none⟩) n n] ⟨rowV n W2.heap.size⟩ [] rfl (lit_src _ [.slice (some ⟨W2.heap.size,0,none⟩) n n] _ (by simp only [World.size_setCell])) (by intro u hu;simp at hu;subst hu;rfl) ⟨rfl,rfl⟩ (by simp) (by rw [Hrl.out];omega) ?_;intro v5 w5 hA5 hO5 hb5;obtain ⟨a5,n5,c5,rfl⟩:∃ a n c,v5 = Value.slice a n c:=(let ⟨a,c,hh⟩:=hA5.form;⟨a,_,c,hh⟩);have hB5:=((((HB.out.keep h3).keep t4).only (Zat w4 W2.heap.size j _) (by simpa using hne)).keep (zO.alloc _)).only hO5 Hgtv.out;have y5:=hB5.cell 2 rfl;have z5:=hB5.frozen 2;clear hB5))
    | fail)
   go_roundw
   case rel=>exact ⟨j + 1,by omega,by go_num,NR.step hlt HE.out Heg.out Hegt.out Hem.out HB.out HO.out HK.out Hown.out h3 r4 F4 t4 (zO.alloc _) hA5 (by rw [List.flatten_append,Hfs.out];rfl) hO5 hb5⟩
   case measure=>simp [intOf];omega
  ·obtain rfl:j = n:=by omega
   obtain ⟨⟨g',bg',bt',cG',cT',oG',oT',rb'⟩,gv0,M0,F0,es,eoG,eoT,hFB,hC,hK⟩:=hN.finF (eG:=25) hn hn20
   injection es with es;injection es with es;injection es with es _ _
   have es':w1.heap.size = g':=es
   subst es'
   have eoG':oG' = 1:=eoG
   subst eoG'
   have eoT':oT' = 2:=eoT
   subst eoT'
   have HL0:=zH (CLF.start gens fpg hFB hC hK)
   clear es eoG eoT hC hK hFB
   go_wp2
   go_loopw [39] (fun i wr=>∃ m:Nat,m<=gens.length/\i = .int .i64 m/\CLF 25 ⟨w1.heap.size,bg',bt',cG',cT',1,2,rb'⟩ j gens fpg w m wr)
    (fun i _=>gens.length - (intOf i).toNat)
   case atStart=>exact ⟨0,Nat.zero_le _,rfl,HL0.out⟩
   case round=>
    obtain ⟨W3,hnew⟩:∃ W,W = wr:=⟨_,rfl⟩
    subst hnew
    obtain ⟨m,hm,rfl,hCL⟩:=hrel
    have HCL:=zH hCL
    obtain ⟨gv3,G3,T3,M3,F3,hF3,hC3,hc3,hL3,hK3⟩:=hCL
    have HF3:=zH hF3
    clear hF3
    by_cases hltm:m < gens.length
    ·obtain ⟨b,off,u,rfl,hob,hcu0,hru0⟩:=HSg.out.atRow m hltm
     have hcu:=hK3.cell (by simp) hcu0
     have hru:=zK hru0 hK3
     have hgm:gens[m]∈gens:=List.getElem_mem _
     have hpm:=Hpn.out _ hgm
     have hfm:∀ b∈fpsg[m]'(by rw [HSg.out.nf];exact hltm),b ∉ M3:=fun b hb hM=>by
      have h5:=hC3.ge b hM
      have h6:=Hfpg.out b (by rw [Hfpe.out];exact List.mem_append_right _ (Zbb (by rw [HSg.out.nf];exact hltm) hb))
      omega
     have hfg:∀ b∈fpsg[m]'(by rw [HSg.out.nf];exact hltm),b∈fpg\/w.heap.size<=b:=fun b hb=>.inl (by rw [Hfpe.out];exact List.mem_append_right _ (Zbb (by rw [HSg.out.nf];exact hltm) hb))
     have Hfg:=zH hfg
     clear hfg
     have HC3:=zH hC3
     have Hc3:=zH hc3
     have HL3:=zH hL3
     have HK3:=zH hK3
     have Hru:=zH hru
     have Hpm:=zH hpm
     have Hfm:=zH hfm
     clear hcu0 hru0 hC3 hc3 hL3 hK3 hru hpm hfm hob hgm
     go_wp2_with (first
      | (go_at_call 201;(with_reducible refine (implAdd0 HC3.out rfl rfl Hc3.out.inv HL3.out Hpm.out Hru.out Hfm.out (HK3.out.size)).mono ?_);rintro en w5 ⟨rfl,ha5⟩)
      | fail)
     go_roundw
     case rel=>exact ⟨m + 1,by omega,by go_num,CLF.step HF3.out Hfg.out HC3.out Hc3.out HK3.out zO hltm ha5⟩
     case measure=>simp [intOf];omega
    ·obtain rfl:m = gens.length:=by omega
     rw [List.take_length] at hc3
     have Hc3:=zH hc3
     have HC3:=zH hC3
     have HK3:=zH hK3
     clear hC3 hc3 hL3 hK3
     go_wp2
     go_ret
     exact ⟨_,gv3,G3,T3,M3,F3,rfl,rfl,rfl,HF3.out,HC3.out,Hc3.out,HK3.out⟩
theorem Zjr (n:Nat) (hn:0 < n) (hn20:n<=20) (vg:Value) (gens:List (List Int)) (fpg:List Nat) (w:World) (hg:Rd w vg gens fpg) (hpn:∀ g∈gens,PM.PN n g) (hgl:gens.length<=1000) :
  Calls Tryz.prog 180 #[.int .i64 n,vg] w fun e w'=>∃ (L:Lay) (gv:Nat->Value) (G:PM.Gens) (T:PM.Rows) (M F:List Nat),e = .returned (.pointer (some ⟨L.g,0,none⟩))/\L.oG = 1/\L.oT = 2/\Ch 25 w.heap.size w' L gv n G T M F/\PM.Chain n gens G T/\Only [] w w':=by
 refine (Zlw n hn hn20 vg gens fpg w hg hpn hgl).mono ?_
 rintro e w' ⟨L,gv,G,T,M,F,h1,h2,h3,-,h4,h5,h6⟩
 exact ⟨L,gv,G,T,M,F,h1,h2,h3,h4,h5,h6⟩
theorem Blk.f2 {w : World} {b : Nat} {l : List Value} (h : Blk w b l) : w.frozen? ⟨b, 0, none⟩ = false /\ w.frozen? ⟨b, 1, none⟩ = false := ⟨h.frozen 0, h.frozen 1⟩
theorem Blk.f3 {w : World} {b : Nat} {l : List Value} (h : Blk w b l) : w.frozen? ⟨b, 0, none⟩ = false /\ w.frozen? ⟨b, 1, none⟩ = false /\ w.frozen? ⟨b, 2, none⟩ = false := ⟨h.frozen 0, h.frozen 1, h.frozen 2⟩
theorem Blk.f4 {w : World} {b : Nat} {l : List Value} (h : Blk w b l) : w.frozen? ⟨b, 0, none⟩ = false /\ w.frozen? ⟨b, 1, none⟩ = false /\ w.frozen? ⟨b, 2, none⟩ = false /\ w.frozen? ⟨b, 3, none⟩ = false := ⟨h.frozen 0, h.frozen 1, h.frozen 2, h.frozen 3⟩
theorem Blk.f5 {w : World} {b : Nat} {l : List Value} (h : Blk w b l) : w.frozen? ⟨b, 0, none⟩ = false /\ w.frozen? ⟨b, 1, none⟩ = false /\ w.frozen? ⟨b, 2, none⟩ = false /\ w.frozen? ⟨b, 3, none⟩ = false /\ w.frozen? ⟨b, 4, none⟩ = false := ⟨h.frozen 0, h.frozen 1, h.frozen 2, h.frozen 3, h.frozen 4⟩
theorem Blk.f6 {w : World} {b : Nat} {l : List Value} (h : Blk w b l) : w.frozen? ⟨b, 0, none⟩ = false /\ w.frozen? ⟨b, 1, none⟩ = false /\ w.frozen? ⟨b, 2, none⟩ = false /\ w.frozen? ⟨b, 3, none⟩ = false /\ w.frozen? ⟨b, 4, none⟩ = false /\ w.frozen? ⟨b, 5, none⟩ = false := ⟨h.frozen 0, h.frozen 1, h.frozen 2, h.frozen 3, h.frozen 4, h.frozen 5⟩
open Classical in
noncomputable def memB (n:Nat) (gens:List (List Int)) (p:List Int):Bool:=decide (PM.Grp n gens p)
def stateB (x:Puzzle) (s:List Int):Bool:=validPz x && genB x.points s
noncomputable def reachB (x:Puzzle) (s:List Int):Bool:=stateB x s && memB x.points.toNat x.moves s
theorem Zio {n:Int} {gens:List (List Int)}:gensB n gens = true ↔ (1<=n/\n<=20)/\gens.length<=8/\∀ g∈gens,PM.PN n.toNat g:=by
 unfold gensB
 rw [Bool.and_eq_true,Bool.and_eq_true,inR_iff,decide_eq_true_iff,List.all_eq_true]
 constructor
 ·rintro ⟨⟨h1,h2⟩,h3⟩
  refine ⟨h1,h2,fun g hg=>?_⟩
  have h:=h3 g hg
  unfold genB at h
  rw [Bool.and_eq_true,decide_eq_true_iff,Zdm] at h
  exact ⟨by omega,h.2.2⟩
 ·rintro ⟨h1,h2,h3⟩
  refine ⟨⟨h1,h2⟩,fun g hg=>?_⟩
  obtain ⟨h4,h5⟩:=h3 g hg
  unfold genB
  rw [Bool.and_eq_true,decide_eq_true_iff,Zdm]
  exact ⟨by omega,⟨by omega,by omega⟩,h5⟩
theorem Zfo {n:Int} {g:List Int} (h0:1<=n) (h1:n<=20):genB n g = true ↔ PM.PN n.toNat g:=by
 unfold genB
 rw [Bool.and_eq_true,decide_eq_true_iff,Zdm]
 constructor
 ·rintro ⟨h2,-,h3⟩;exact ⟨by omega,h3⟩
 ·rintro ⟨h2,h3⟩;exact ⟨by omega,⟨by omega,by omega⟩,h3⟩
theorem Zhy {x:Puzzle} (h:validPz x = true):gensB x.points x.moves = true:=by
 unfold validPz at h
 rw [Bool.and_eq_true] at h
 exact h.1
theorem Zgb {x:Puzzle} {s:List Int} (h:stateB x s = true):(1<=x.points/\x.points<=20)/\x.moves.length<=8/\(∀ g∈x.moves,PM.PN x.points.toNat g)/\PM.PN x.points.toNat s:=by
 unfold stateB at h
 rw [Bool.and_eq_true] at h
 obtain ⟨a,b,c⟩:=Zio.1 (Zhy h.1)
 exact ⟨a,b,c,(Zfo a.1 a.2).1 h.2⟩
theorem Zdx {x:Puzzle} {s:List Int} (h:reachB x s = true):stateB x s = true:=by
 unfold reachB at h
 rw [Bool.and_eq_true] at h;exact h.1
theorem Zie {x:Puzzle} {s:List Int} (h:stateB x s = true):validPz x = true:=by
 unfold stateB at h
 rw [Bool.and_eq_true] at h;exact h.1
set_option maxHeartbeats 1000000 in
theorem Zrh (n:Int) (v:Value) (s:List Int) (fp:List Nat) (w:World) (h:Rd w v s fp) :
  Calls Tryz.prog 82 #[.int .i64 n,v] w fun e w'=>e = .returned (.bool (genB n s))/\Drew w w':=by
 obtain ⟨a,cap,rfl,hI⟩:=h.ints
 have hb:=hI.bound
 by_cases c1:(s.length:Int) = n
 ·have d1:((s.length:Int) == n) = true:=by simp [c1]
  have hg:genB n s = permB s:=by simp [genB,c1]
  have Hg:=zH hg;clear hg c1
  go_enter Tryz.func82,Tryz.ntmps82
  go_wp2_with ((go_at_call 133;(with_reducible refine (Zez _ s fp _ h).mono ?_);rintro e w1 ⟨rfl,t1⟩))
  go_ret
  exact ⟨Zaa Hg.out.symm,t1⟩
 ·have d1:((s.length:Int) == n) = false:=by simp [c1]
  have hg:genB n s = false:=by simp [genB,c1]
  have Hg:=zH hg;clear hg c1
  go_enter Tryz.func82,Tryz.ntmps82
  go_wp2
  go_ret
  exact ⟨Zaa Hg.out.symm,Drew.refl _⟩
set_option maxHeartbeats 1000000 in
theorem Zax (cs:List Value) (x:Puzzle) (fp:List Nat) (v:Value) (s:List Int) (fs:List Nat) (w:World) (h:Rp.rep w cs x fp) (hs:Rd w v s fs) :
  Calls Tryz.prog 42 #[.agg cs.toArray,v] w fun e w'=>e = .returned (.bool (stateB x s))/\Only [] w w':=by
 have h0:=h
 obtain ⟨v2,rfl,p0,p1,h2⟩:=h
 obtain ⟨A2,C2,ob,fps,rfl,-,-⟩:=h2.open_
 rcases hq:validPz x
 all_goals have hf:stateB x s = (validPz x && genB x.points s):=rfl
 all_goals rw [hq] at hf
 all_goals have Hf:=zH hf
 all_goals clear hf
 all_goals go_enter Tryz.func42,Tryz.ntmps42
 all_goals go_wp2_with (first | (go_at_call 81;(with_reducible refine (Zaj [.int .i64 x.points,.string x.names,.slice A2 x.moves.length C2] x _ _ (zK h0 zA)).mono ?_);rintro e w1 ⟨rfl,t1⟩;have y1:=t1.cells_eq w.heap.size (by simp) (by simp)) | (go_at_call 82;(with_reducible refine (Zrh x.points _ s _ _ (zK hs zA)).mono ?_);rintro e w2 ⟨rfl,d2⟩;have t2:=d2.only []) | fail)
 all_goals go_ret
 all_goals exact ⟨Zaa Hf.out.symm,zA⟩
set_option maxHeartbeats 1000000 in
theorem Zbv (cs:List Value) (x:Puzzle) (fp:List Nat) (v:Value) (s:List Int) (fs:List Nat) (w:World) (h:Rp.rep w cs x fp) (hs:Rd w v s fs) :
  Calls Tryz.prog 86 #[.agg cs.toArray,v] w fun e w'=>e = .returned (.bool (genB x.points s))/\Only [] w w':=by
 have h0:=h
 obtain ⟨v2,rfl,p0,p1,h2⟩:=h
 obtain ⟨A2,C2,ob,fps,rfl,-,-⟩:=h2.open_
 by_cases c1:(s.length:Int) = x.points
 ·have d1:((s.length:Int) == x.points) = true:=by simp [c1]
  have hg:genB x.points s = permB s:=by simp [genB,c1]
  have Hg:=zH hg;clear hg c1
  go_enter Tryz.func86,Tryz.ntmps86
  go_wp2
  go_quiet (first
   | (go_at_call 47;exact Zbh (Zbu _ s fs _ (zK hs zA)))
   | (go_at_call 47;exact Zau (Zbu _ s fs _ (zK hs zA)))
   | (go_at_call 137;exact Zau (Zcz _ s fs _ (zK hs zA)))
   | (go_at_call 137;exact Zbh (Zcz _ s fs _ (zK hs zA))))
  go_wp2
  go_ret
  exact ⟨Zaa Hg.out.symm,zA⟩
 ·have d1:((s.length:Int) == x.points) = false:=by simp [c1]
  have hg:genB x.points s = false:=by simp [genB,c1]
  have Hg:=zH hg;clear hg c1
  go_enter Tryz.func86,Tryz.ntmps86
  go_wp2
  go_quiet (first
   | (go_at_call 47;exact Zbh (Zbu _ s fs _ (zK hs zA)))
   | (go_at_call 47;exact Zau (Zbu _ s fs _ (zK hs zA))))
  go_wp2
  go_ret
  exact ⟨Zaa Hg.out.symm,zA⟩
set_option maxHeartbeats 1000000 in
theorem Zdu (cs:List Value) (x:Puzzle) (fp:List Nat) (v:Value) (s:List Int) (fs:List Nat) (w:World) (h:Rp.rep w cs x fp) (hs:Rd w v s fs) :
  Calls Tryz.prog 45 #[.agg cs.toArray,v] w fun e w'=>e = .returned (.bool (stateB x s))/\Only [] w w':=by
 have h0:=h
 obtain ⟨v2,rfl,p0,p1,h2⟩:=h
 obtain ⟨A2,C2,ob,fps,rfl,-,-⟩:=h2.open_
 rcases hq:validPz x
 all_goals have hf:stateB x s = (validPz x && genB x.points s):=rfl
 all_goals rw [hq] at hf
 all_goals have Hf:=zH hf
 all_goals clear hf
 all_goals go_enter Tryz.func45,Tryz.ntmps45
 all_goals go_wp2_with (first | (go_at_call 85;(with_reducible refine (Zai [.int .i64 x.points,.string x.names,.slice A2 x.moves.length C2] x _ _ (zK h0 zA)).mono ?_);rintro e w1 ⟨rfl,t1⟩;have y1:=t1.cells_eq w.heap.size (by simp) (by simp)) | (go_at_call 86;(with_reducible refine (Zbv [.int .i64 x.points,.string x.names,.slice A2 x.moves.length C2] x _ _ s _ _ (zK h0 zA) (zK hs zA)).mono ?_);rintro e w2 ⟨rfl,t2⟩) | fail)
 all_goals go_ret
 all_goals exact ⟨Zaa Hf.out.symm,zA⟩
theorem Zlx (n:Int) (hn:1<=n) (hn20:n<=20) (vg:Value) (gens:List (List Int)) (fpg:List Nat) (w:World) (hg:Rd w vg gens fpg) (hpn:∀ g∈gens,PM.PN n.toNat g) (hgl:gens.length<=1000) :
  Calls Tryz.prog 180 #[.int .i64 n,vg] w fun e w'=>∃ (L:Lay) (gv:Nat->Value) (G:PM.Gens) (T:PM.Rows) (M F:List Nat),e = .returned (.pointer (some ⟨L.g,0,none⟩))/\L.oG = 1/\L.oT = 2/\Ch 25 w.heap.size w' L gv n.toNat G T M F/\PM.Chain n.toNat gens G T/\Only [] w w':=by
 obtain ⟨m,rfl⟩:=Int.eq_ofNat_of_zero_le (by omega:0<=n)
 exact Zjr m (by omega) (by omega) vg gens fpg w hg hpn hgl
structure Session where
 puzzle:Puzzle
 state:List Int
 history:List (List Int)
 future:List (List Int)
def evW (n:Nat) (gens:List (List Int)) (w:List Int):List Int:=w.foldl (fun p l=>PM.comp p (mv gens l)) (PM.pts n)
theorem Ztu (n:Nat) (gens:List (List Int)) (w:List Int) (l:Int):evW n gens (w ++ [l]) = PM.comp (evW n gens w) (mv gens l):=by simp [evW]
theorem evW_pn {n:Nat} {gens:List (List Int)} (h:∀ g∈gens,PM.PN n g):∀ (w:List Int),(∀ l∈w,l∈ltrs gens.length)->PM.PN n (evW n gens w):=by
 intro w
 have:∀ (w:List Int) (p:List Int),PM.PN n p->(∀ l∈w,l∈ltrs gens.length)->PM.PN n (w.foldl (fun p l=>PM.comp p (mv gens l)) p):=by
  intro w
  induction w with
  | nil=>intro p hp _;exact hp
  | cons l w ih=>intro p hp hl;exact ih _ (hp.comp (mv_pn h (hl l (by simp)))) fun x hx=>hl x (by simp [hx])
 exact this w _ (PM.PN.id n)
section
variable {α:Type} [Rp α] {w w':World} {a:Option Addr} {cap:Nat} {xs:List α} {ob:List Nat} {fps:List (List Nat)}
end
theorem Fresh.repl {B:Nat} {w w':World} {pre mid mid' post fpw:List Nat} (h:Fresh B w (pre ++ (mid ++ post))) (ho:Only fpw w w') (hf:∀ b∈fpw,b∈mid) (F':Fresh B w' mid') (hs:∀ b∈mid',b∈mid\/w.heap.size<=b):Fresh B w' (pre ++ (mid' ++ post)):=by
 obtain ⟨n1,n2,n3⟩:=List.nodup_append.1 h.nd
 obtain ⟨n4,n5,n6⟩:=List.nodup_append.1 n2
 have lpre:∀ b∈pre,b < w.heap.size:=fun b hb=>h.lt b (List.mem_append_left _ hb)
 have lpost:∀ b∈post,b < w.heap.size:=fun b hb=>h.lt b (List.mem_append_right _ (List.mem_append_right _ hb))
 have dpre:∀ b∈pre,b ∉ mid:=fun b hb hm=>n3 b hb b (List.mem_append_left _ hm) rfl
 have dpost:∀ b∈post,b ∉ mid:=fun b hb hm=>n6 b hm b hb rfl
 have dpre':∀ b∈pre,b ∉ mid':=fun b hb hm=>by
  rcases hs b hm with h1 | h1
  ·exact dpre b hb h1
  ·have:=lpre b hb;omega
 have dpost':∀ b∈post,b ∉ mid':=fun b hb hm=>by
  rcases hs b hm with h1 | h1
  ·exact dpost b hb h1
  ·have:=lpost b hb;omega
 refine ⟨List.nodup_append.2 ⟨n1,List.nodup_append.2 ⟨F'.nd,n5,fun a ha b hb e=>?_⟩,fun a ha b hb e=>?_⟩,fun b hb=>?_,?_⟩
 ·subst e;exact dpost' a hb ha
 ·subst e
  rcases List.mem_append.1 hb with hb | hb
  ·exact dpre' a ha hb
  ·exact n3 a ha a (List.mem_append_right _ hb) rfl
 ·rcases List.mem_append.1 hb with hb | hb
  ·exact h.ge b (List.mem_append_left _ hb)
  ·rcases List.mem_append.1 hb with hb | hb
   ·exact F'.ge b hb
   ·exact h.ge b (List.mem_append_right _ (List.mem_append_right _ hb))
 ·exact (h.left.own.only ho fun b hb hm=>dpre b hb (hf b hm)).append (F'.own.append (h.right.right.own.only ho fun b hb hm=>dpost b hb (hf b hm)))
def appW (x:Puzzle) (s l:List Int):List Int:=PM.comp s (evW x.points.toNat x.moves l)
section
theorem Acc.mono {α:Type} [Rp α] {B B':Nat} {e:TypeId} {w:World} {v:Value} {l:List α} {fs:List (List Nat)} (h:Acc B e w v l fs) (hB:B'<=B):Acc B' e w v l fs:=by
 obtain ⟨css,ho,hr⟩:=h.own
 refine ⟨⟨css,⟨ho.1,?_⟩,hr⟩,h.fl,h.apart⟩
 rcases ho.2 with h1 | ⟨g,cp,cur,h1,h2,h3⟩
 ·exact .inl h1
 ·exact .inr ⟨g,cp,cur,h1,Nat.le_trans hB h2,h3⟩
end
section
variable {B:Nat} {e:TypeId} {w:World} {v:Value} {l:List (List Int)} {fs:List (List Nat)}
end
section
variable {B:Nat} {w w':World} {a b c d m' fpw:List Nat}
theorem Fresh.at3 (h:Fresh B w (a ++ (b ++ (c ++ d)))) (ho:Only fpw w w') (hf:∀ x∈fpw,x∈c) (F':Fresh B w' m') (hs:∀ x∈m',x∈c\/w.heap.size<=x):Fresh B w' (a ++ (b ++ (m' ++ d))):=by
 have:=Fresh.repl (pre:=a ++ b) (mid:=c) (post:=d) (by simpa [List.append_assoc] using h) ho hf F' hs
 simpa [List.append_assoc] using this
theorem Fresh.at4 (h:Fresh B w (a ++ (b ++ (c ++ d)))) (ho:Only fpw w w') (hf:∀ x∈fpw,x∈d) (F':Fresh B w' m') (hs:∀ x∈m',x∈d\/w.heap.size<=x):Fresh B w' (a ++ (b ++ (c ++ m'))):=by
 have:=Fresh.repl (pre:=a ++ (b ++ c)) (mid:=d) (post:=[]) (by simpa [List.append_assoc] using h) ho hf F' hs
 simpa [List.append_assoc] using this
theorem Fresh.parts (h:Fresh B w (a ++ (b ++ (c ++ d)))):(∀ x∈a,x ∉ c/\x ∉ d)/\(∀ x∈b,x ∉ c/\x ∉ d)/\(∀ x∈c,x ∉ d):=by
 have n1:=List.nodup_append.1 h.nd
 have n2:=List.nodup_append.1 n1.2.1
 have n3:=List.nodup_append.1 n2.2.1
 refine ⟨fun x hx=>⟨fun hm=>n1.2.2 x hx x (by simp [hm]) rfl,fun hm=>n1.2.2 x hx x (by simp [hm]) rfl⟩,fun x hx=>⟨fun hm=>n2.2.2 x hx x (by simp [hm]) rfl,fun hm=>n2.2.2 x hx x (by simp [hm]) rfl⟩,fun x hx hm=>n3.2.2 x hx x hm rfl⟩
end
theorem Zhz {P:Program} {ops:Array Oper} {o:Oper} {a:Act} {w:World} {K:Act->World->Prop} {Q:Exit->Act->World->Prop} {E:Prop} (hgd:o.guard = none) (d s:Operand) (dT sT:TypeId)
  (ho:o.op = .call { callee:=.builtin .copy,args:=#[d,s],argTypes:=#[dT,sT] }) (elem:TypeId) (hu:P.underlying dT = some (.slice elem)) (hsz:(P.info? elem).map (·.size) = some 1)
  (dp sp:Option Addr) (dLen dCap sLen sCap:Nat) (hd:a.eval d = .slice dp dLen dCap) (hs:a.eval s = .slice sp sLen sCap)
  (g off:Nat) (cur:List Value) (t:TypeId) (hg:w.heap[g]? = some (.cells cur.toArray t (0,0))) (cs:List Value) (hn:cs.length = Nat.min sLen dLen)
  (hpos:0 < cs.length->dp = some ⟨g,off,none⟩/\∃ ad,sp = some ad/\∀ j v,cs[j]? = some v->w.cell? (ad.add j) = some v)
  (hfit:off + cs.length<=cur.length) (h1:∀ v∈cs,v.oneCell' = true)
  (h:∀ w',w'.heap[g]? = some (.cells (splice cur off cs).toArray t (0,0))->Only [g] w w'->K (a.put o.dst (goInt cs.length)) w') :
  if Region.wanted o (yielded ops a.tmps) = true then Oper.wp P o a w K Q else E:=by
 have hw:Region.wanted o (yielded ops a.tmps) = true:=by simp [Region.wanted,hgd]
 rw [if_pos hw]
 by_cases h0:cs.length = 0
 ·obtain rfl:cs = []:=List.eq_nil_of_length_eq_zero h0
  have hrun:=run_copy_none (P:=P) w dT sT o.type elem dp sp dLen dCap sLen sCap hu hsz (by simpa using hn.symm)
  unfold Oper.wp
  simp [execOp,ho,resolve,invoke,builtin,hd,hs,hrun,Result.andThen]
  exact h w (by simpa [splice] using hg) zO
 ·obtain ⟨rfl,ad,rfl,hsrc⟩:=hpos (by omega)
  have hrun:=run_copy_row (P:=P) w dT sT o.type elem g off dLen dCap ad sLen sCap cur.toArray t cs hu hsz hg hn hsrc (by simpa using hfit) h1
  unfold Oper.wp
  simp [execOp,ho,resolve,invoke,builtin,hd,hs,hrun,Result.andThen]
  refine h _ (by simpa [splice] using setRow_heap w g _ _ t _ hg) ⟨rfl,rfl,rfl,by simp [World.setRow],fun k _ hk=>setRow_other w g k _ (fun e=>hk (by simp [e]))⟩
theorem Zrj {α:Type} (l:List α) (off n:Nat) (cs:List α) (h:off + cs.length<=n) (hl:n<=l.length):(splice l off cs).take n = splice (l.take n) off cs:=by
 unfold splice
 apply List.ext_getElem?
 intro i
 by_cases h1:i < off
 ·rw [List.getElem?_take_of_lt (by omega),List.getElem?_append_left (by simp;omega),List.getElem?_append_left (by simp;omega),List.getElem?_take_of_lt h1,List.getElem?_take_of_lt h1,List.getElem?_take_of_lt (by omega)]
 ·have e1:(l.take off).length = off:=by simp;omega
  have e2:((l.take n).take off).length = off:=by simp;omega
  by_cases h2:i < n
  ·rw [List.getElem?_take_of_lt h2,List.getElem?_append_right (l₁:=l.take off) (by omega),List.getElem?_append_right (l₁:=(l.take n).take off) (by omega),e1,e2]
   by_cases h3:i - off < cs.length
   ·rw [List.getElem?_append_left h3,List.getElem?_append_left h3]
   ·rw [List.getElem?_append_right (l₁:=cs) (by omega),List.getElem?_append_right (l₁:=cs) (by omega),List.getElem?_drop,List.getElem?_drop,List.getElem?_take_of_lt (by omega)]
  ·rw [List.getElem?_eq_none (by simp;omega),List.getElem?_eq_none (by simp;omega)]
theorem Zlr {w w':World} {B:Nat} {e:TypeId} {g n c:Nat} {xs cur:List Value} (hO:w.ownsRow B e 1 (.slice (some ⟨g,0,none⟩) n c) n xs) (hg:w.heap[g]? = some (.cells cur.toArray e (0,0)))
  {off:Nat} {cs:List Value} (hf:off + cs.length<=n) (hg':w'.heap[g]? = some (.cells (splice cur off cs).toArray e (0,0))):w'.ownsRow B e 1 (.slice (some ⟨g,0,none⟩) n c) n (splice xs off cs):=by
 rcases hO.2 with ⟨h0,-⟩ | ⟨g2,c2,cur2,hv,hb,hg2,h1,h2,h3,h4⟩
 ·cases h0
 ·injection hv with hv _ hc;injection hv with hv;injection hv with hv _ _
  subst hv;subst hc
  rw [hg2] at hg;injection hg with hg;injection hg with hg _ _;subst hg
  have hcl:cur.length = c:=by simpa using h3
  have hx:=hO.1
  simp only [Nat.mul_one] at hx h4
  refine ⟨by rw [length_splice _ _ _ (by omega)];omega,.inr ⟨g,c,_,rfl,hb,hg',h1,h2,?_,?_⟩⟩
  ·simp only [List.size_toArray,Nat.mul_one]
   rw [length_splice _ _ _ (by omega),hcl]
  ·simp only [Nat.mul_one]
   rw [Zrj _ _ _ _ hf (by omega)]
   rw [<- h4]
theorem Zut {α:Type} (l:List α) (z x:α) (k:Nat) (hk:k<=l.length):(splice (l ++ [z]) (k + 1) (l.drop k)).set k x = l.take k ++ x :: l.drop k:=by
 have hl:(splice (l ++ [z]) (k + 1) (l.drop k)).length = l.length + 1:=by rw [length_splice _ _ _ (by simp;omega)];simp
 apply List.ext_getElem?
 intro i
 have e1:((l ++ [z]).take (k + 1)).length = k + 1:=by simp;omega
 have e2:(l.take k).length = k:=by simp;omega
 by_cases h1:i < k
 ·rw [List.getElem?_set_ne (by omega)]
  unfold splice
  rw [List.getElem?_append_left (by omega),List.getElem?_append_left (by omega),List.getElem?_take_of_lt (by omega),List.getElem?_take_of_lt h1,List.getElem?_append_left (by omega)]
 ·by_cases h2:i = k
  ·subst h2
   rw [List.getElem?_set_self (by omega),List.getElem?_append_right (by omega),e2,Nat.sub_self];rfl
  ·rw [List.getElem?_set_ne (by omega)]
   unfold splice
   rw [List.getElem?_append_right (l₁:=(l ++ [z]).take (k + 1)) (by omega),List.getElem?_append_right (l₁:=l.take k) (by omega),e1,e2,show i - k = (i - (k + 1)) + 1 by omega,List.getElem?_cons_succ]
   by_cases h3:i - (k + 1) < (l.drop k).length
   ·rw [List.getElem?_append_left h3]
   ·rw [List.getElem?_append_right (by omega),List.getElem?_drop,List.getElem?_eq_none (by simp at h3 ⊢;omega),List.getElem?_eq_none (by omega)]
structure SrO (B:Nat) (w:World) (v1 v2 v3:Value) (L:List (List Int)) (D si:List Int) (fs:List (List Nat)) (f:List Nat):Prop where
 acc:Acc B 25 w v1 L fs
 dep:w.ownsRow B 2 1 v2 D.length (D.map (Value.int .i64))
 srt:w.ownsRow B 3 1 v3 si.length (si.map (Value.int .i64))
 fr:Fresh B w (v1.ownBlock.toList ++ ((fs.flatten ++ f) ++ (v2.ownBlock.toList ++ v3.ownBlock.toList)))
section
variable {B:Nat} {w w':World} {v1 v2 v3 v1' v2' v3':Value} {L:List (List Int)} {D si D' si':List Int} {fs:List (List Nat)} {f fp:List Nat}
theorem SrO.only (h:SrO B w v1 v2 v3 L D si fs f) (ho:Only fp w w') (hd:∀ b∈v1.ownBlock.toList ++ ((fs.flatten ++ f) ++ (v2.ownBlock.toList ++ v3.ownBlock.toList)),b ∉ fp):SrO B w' v1 v2 v3 L D si fs f:=
 ⟨h.acc.only ho (fun b hb=>hd b (by simp [hb])) (fun g hg=>hd g (by simp [hg])),Zbd h.dep ho (fun g hg=>hd g (by simp [hg])),Zbd h.srt ho (fun g hg=>hd g (by simp [hg])),h.fr.only ho hd⟩
theorem SrO.keep (h:SrO B w v1 v2 v3 L D si fs f) (ho:Only [] w w'):SrO B w' v1 v2 v3 L D si fs f:=h.only ho (by simp)
theorem SrO.set3 (h:SrO B w v1 v2 v3 L D si fs f) (ho:Only v3.ownBlock.toList w w') (hO:w'.ownsRow B 3 1 v3' si'.length (si'.map (Value.int .i64))) (hb:∀ x∈v3'.ownBlock.toList,x∈v3.ownBlock.toList\/w.heap.size<=x):SrO B w' v1 v2 v3' L D si' fs f:=by
 obtain ⟨p1,p2,p3⟩:=h.fr.parts
 exact ⟨h.acc.only ho (fun b hb=>(p2 b (by simp [hb])).2) (fun g hg=>(p1 g (by simp [hg])).2),Zbd h.dep ho (fun g hg=>p3 g (by simp [hg])),hO,h.fr.at4 ho (fun _ hx=>hx) (Zca hO) hb⟩
theorem SrO.set2 (h:SrO B w v1 v2 v3 L D si fs f) (ho:Only v2.ownBlock.toList w w') (hO:w'.ownsRow B 2 1 v2' D'.length (D'.map (Value.int .i64))) (hb:∀ x∈v2'.ownBlock.toList,x∈v2.ownBlock.toList\/w.heap.size<=x):SrO B w' v1 v2' v3 L D' si fs f:=by
 obtain ⟨p1,p2,p3⟩:=h.fr.parts
 exact ⟨h.acc.only ho (fun b hb=>(p2 b (by simp [hb])).1) (fun g hg=>(p1 g (by simp [hg])).1),hO,Zbd h.srt ho (fun g hg hm=>p3 g hm (by simp [hg])),h.fr.at3 ho (fun _ hx=>hx) (Zca hO) hb⟩
theorem SrO.set1 {s:List Int} (h:SrO B w v1 v2 v3 L D si fs f) (ho:Only v1.ownBlock.toList w w') (hA:Acc B 25 w' v1' (L ++ [s]) (fs ++ [f])) (hb:∀ x∈v1'.ownBlock.toList,x∈v1.ownBlock.toList\/w.heap.size<=x):SrO B w' v1' v2 v3 (L ++ [s]) D si (fs ++ [f]) []:=by
 obtain ⟨n1,n2,n3⟩:=List.nodup_append.1 h.fr.nd
 refine ⟨hA,Zbd h.dep ho (fun g hg hm=>n3 g hm g (by simp [hg]) rfl),Zbd h.srt ho (fun g hg hm=>n3 g hm g (by simp [hg]) rfl),?_⟩
 obtain ⟨css,hown,-,-⟩:=hA.own
 have:=Fresh.repl (pre:=[]) (mid:=v1.ownBlock.toList) (mid':=v1'.ownBlock.toList) (post:=(fs.flatten ++ f) ++ (v2.ownBlock.toList ++ v3.ownBlock.toList)) h.fr ho (fun _ hx=>hx) (Zca hown) hb
 simpa using this
theorem SrO.lt (h:SrO B w v1 v2 v3 L D si fs f):∀ b∈v1.ownBlock.toList ++ ((fs.flatten ++ f) ++ (v2.ownBlock.toList ++ v3.ownBlock.toList)),B<=b/\b < w.heap.size:=fun b hb=>⟨h.fr.ge b hb,h.fr.lt b hb⟩
end
end Go.Proofs.YtclhblofchfglaaGreat
