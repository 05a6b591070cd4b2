/- The making of chains: the program's newChain, the reference's emptyChain and buildChain. -/
import Derived.Test.YthleokaeobdamaaGreatRowTableSolverG6
import Derived.Test.YthleokaeobdamaaGreatRowTableSolverG2
namespace Go.Proofs.YthleokaeobdamaaGreat
open Go.RowKit
set_option maxRecDepth 10000
structure RawV where
 v:Value
instance:Rp RawV where
 size:=1
 rep _ cs x fp:=cs = [x.v]/\fp = []
 len h:=by rw [h.1];rfl
 frame h _:=h
 lt h:=by rw [h.2];simp
theorem Acc.raw {B:Nat} {e:TypeId} {w:World} {v:Value} {l:List RawV} {fs:List (List Nat)} (h:Acc B e w v l fs) {k:Nat} (hk:k < l.length) :
  ∃ g c,v = .slice (some ⟨g,0,none⟩) l.length c/\w.cell? ⟨g,k,none⟩ = some l[k].v:=by
 obtain ⟨css,ho,hcl,hr⟩:=h.own
 have hfl:=h.fl
 have hcss:css.flatten = l.map RawV.v:=by
  have:css = l.map fun x=>[x.v]:=by
   apply List.ext_getElem (by simp [hcl])
   intro i h1 h2
   rw [(hr i h1 (by omega) (by omega)).1];simp
  rw [this]
  clear this hr hcl hfl ho h hk
  induction l with
  | nil=>rfl
  | cons x l ih=>simp [ih]
 rcases ho.2 with ⟨-,h0⟩ | ⟨g,cap,cur,hv,-⟩
 ·omega
 ·refine ⟨g,cap,hv,?_⟩
  have:=ho.cells (g:=g) (by rw [hv];rfl) k l[k].v (by rw [hcss];simp [hk])
  have hadd:(⟨g,0,none⟩:Addr).add k = ⟨g,k,none⟩:=by unfold Addr.add;split <;> simp_all
  rwa [hadd] at this
theorem Zer {P:Program} {α:Type} [Rp α] {ops:Array Oper} {rest:List Oper} {o:Oper} {a:Act} {w:World} {Q:Exit->Act->World->Prop} (hgd:o.guard = none) (s x:Operand) (t:TypeId)
  (ho:o.op = .call { callee:=.builtin .append,args:=#[s,x],argTypes:=#[t,t] })
  (B:Nat) (e:TypeId) (i:TypeInfo) (z:Value) (bytes:Nat) (ht:P.underlying t = some (.slice e)) (hi:P.info? e = some i) (hz:i.zero = some z)
  (hsize:i.size = Rp.size α) (hby:i.bytes = bytes) (hzs:z.cells.size = Rp.size α) (hsz:0 < Rp.size α) (hbb:bytes<=65536)
  (w0:World) (v:Value) (l:List α) (fs:List (List Nat)) (hs:a.eval s = v) (hA:Acc B e w0 v l fs) (hK0:Only [] w0 w) (hB:B<=w0.heap.size)
  (g c:Nat) (cs:List Value) (y:α) (fp:List Nat) (hx:a.eval x = .slice (some ⟨g,0,none⟩) 1 c) (hsrc:∀ j u,cs[j]? = some u->w.cell? ⟨g,j,none⟩ = some u) (hcs:∀ u∈cs,u.oneCell' = true)
  (hy:Rp.rep w cs y fp) (hap:∀ b∈fp,v.ownBlock ≠ some b) (hlen:l.length + 1<=1073741824)
  (h:∀ v' w',Acc B e w' v' (l ++ [y]) (fs ++ [fp])->Only v.ownBlock.toList w w'->(v'.ownBlock = v.ownBlock\/v'.ownBlock = some w.heap.size)->wpList P ops Q rest (a.put o.dst v') w'):wpList P ops Q (o :: rest) a w:=
 wpList_plain hgd fun _ hK=>Zei s x t ho B e i z bytes ht hi hz hsize hby hzs hsz hbb w0 v l fs hs hA hK0 hB g c cs y fp hx hsrc hcs hy hap hlen fun v' w' h1 h2 _ _ h5=>hK _ _ (h v' w' h1 h2 h5)
inductive Key
 | g | tv | gt | row (k:Nat) | emp (k:Nat) | idn (k:Nat)
deriving DecidableEq
structure Sep (B:Nat) (w:World) (S:Key->List Nat):Prop where
 le:B<=w.heap.size
 ge:∀ a,∀ x∈S a,B<=x
 sep:∀ a b,a ≠ b->∀ x∈S a,x ∉ S b
 lt:∀ a,∀ x∈S a,x < w.heap.size
def updS (S:Key->List Nat) (a:Key) (l:List Nat):Key->List Nat:=fun b=>if b = a then l else S b
theorem Zbv (S:Key->List Nat) (a:Key) (l:List Nat):updS S a l a = l:=if_pos rfl
theorem Zac (S:Key->List Nat) {a b:Key} (l:List Nat) (h:b ≠ a):updS S a l b = S b:=if_neg h
section
variable {B:Nat} {w w':World} {S:Key->List Nat}
theorem Sep.keep (h:Sep B w S) (hs:w.heap.size<=w'.heap.size):Sep B w' S:=⟨Nat.le_trans h.le hs,h.ge,h.sep,fun a x hx=>Nat.lt_of_lt_of_le (h.lt a x hx) hs⟩
theorem Sep.upd (h:Sep B w S) {a:Key} {l:List Nat} (hl:∀ x∈l,w.heap.size<=x/\x < w'.heap.size) (hs:w.heap.size<=w'.heap.size)  :Sep B w' (updS S a l):=by
 refine ⟨Nat.le_trans h.le hs,fun b x hx=>?_,fun b c hbc x hx hx'=>?_,fun b x hx=>?_⟩
 ·unfold updS at hx
  split at hx
  ·have:=(hl x hx).1;have:=h.le;omega
  ·exact h.ge b x hx
 ·unfold updS at hx hx'
  split at hx
  ·rename_i e1
   split at hx'
   ·rename_i e2;exact hbc (e1.trans e2.symm)
   ·have:=(hl x hx).1;have:=h.lt c x hx';omega
  ·split at hx'
   ·have:=(hl x hx').1;have:=h.lt b x hx;omega
   ·exact h.sep b c hbc x hx hx'
 ·unfold updS at hx
  split at hx
  ·exact (hl x hx).2
  ·exact Nat.lt_of_lt_of_le (h.lt b x hx) hs
end
def rowV (n b:Nat):Value:=.slice (some ⟨b,0,none⟩) n n
def rowsV (n:Nat) (rb:Nat->Nat) (j:Nat):List RawV:=(List.range j).map fun k=>⟨rowV n (rb k)⟩
theorem Zih (n:Nat) (rb:Nat->Nat) (j:Nat):(rowsV n rb j).length = j:=by simp [rowsV]
def updF {α:Type} (f:Nat->α) (k:Nat) (v:α):Nat->α:=fun j=>if j = k then v else f j
theorem Zce {α:Type} (f:Nat->α) (k:Nat) (v:α):updF f k v k = v:=if_pos rfl
theorem Zby {α:Type} (f:Nat->α) {j k:Nat} (v:α) (h:j ≠ k):updF f k v j = f j:=if_neg h
theorem Zrj (n:Nat) (rb:Nat->Nat) (j b:Nat):rowsV n (updF rb j b) (j + 1) = rowsV n rb j ++ [⟨rowV n b⟩]:=by
 unfold rowsV
 rw [List.range_succ,List.map_append]
 congr 1
 ·refine List.map_congr_left fun k hk=>?_
  rw [Zby _ _ (by have:=List.mem_range.1 hk;omega)]
 ·simp [Zce]
structure Em (e:TypeId) (B n j:Nat) (w:World) (S:Key->List Nat) (tv:Value) (rb:Nat->Nat) (iv:Nat->Value):Prop where
 sep:Sep B w S
 acc:∃ fs,Acc B e w tv (rowsV n rb j) fs/\fs.flatten = []
 tvS:tv.ownBlock.toList = S .tv
 cell:∀ k i,k < j->i < n->w.cell? ⟨rb k,i,none⟩ = some (if i = k then iv k else .slice none 0 0)
 own:∀ k,k < j->Own w [rb k]
 rS:∀ k,k < j->S (.row k) = [rb k]
 idn:∀ k,k < j->Rd w (iv k) (PM.pts n) (S (.idn k))
section
variable {e:TypeId} {B n j:Nat} {w w':World} {S:Key->List Nat} {tv:Value} {rb:Nat->Nat} {iv:Nat->Value}
theorem Sep.start {B:Nat} {w:World} (g gt:List Nat) (hB:B<=w.heap.size) (hg:∀ x∈g,x ∉ gt) (hgl:∀ x∈g,B<=x/\x < w.heap.size) (hgt:∀ x∈gt,B<=x/\x < w.heap.size):Sep B w (updS (updS (fun _=>[]) .g g) .gt gt):=by
 have hm:∀ a x,x∈updS (updS (fun _=>[]) .g g) .gt gt a->(a = .gt/\x∈gt)\/(a = .g/\x∈g):=by
  intro a x hx
  unfold updS at hx
  split at hx
  ·rename_i e;exact .inl ⟨e,hx⟩
  ·split at hx
   ·rename_i e;exact .inr ⟨e,hx⟩
   ·cases hx
 refine ⟨hB,fun a x hx=>?_,fun a b hab x hx hx'=>?_,fun a x hx=>?_⟩
 ·rcases hm a x hx with ⟨-,h⟩ | ⟨-,h⟩
  ·exact (hgt x h).1
  ·exact (hgl x h).1
 ·rcases hm a x hx with ⟨e,h⟩ | ⟨e,h⟩
  ·rcases hm b x hx' with ⟨e',h'⟩ | ⟨e',h'⟩
   ·exact hab (e.trans e'.symm)
   ·exact hg x h' h
  ·rcases hm b x hx' with ⟨e',h'⟩ | ⟨e',h'⟩
   ·exact hg x h h'
   ·exact hab (e.trans e'.symm)
 ·rcases hm a x hx with ⟨-,h⟩ | ⟨-,h⟩
  ·exact (hgt x h).2
  ·exact (hgl x h).2
theorem Em.start {S:Key->List Nat} {w:World} (e:TypeId) {B:Nat} (n:Nat) (hs:Sep B w S) (ht:S .tv = []) (rb:Nat->Nat) (iv:Nat->Value):Em e B n 0 w S (.slice none 0 0) rb iv:=
 ⟨hs,⟨[],Acc.nil _ _ _,rfl⟩,by rw [ht];rfl,by intro _ _ h;omega,by intro _ h;omega,by intro _ h;omega,by intro _ h;omega⟩
theorem Em.only (h:Em e B n j w S tv rb iv) {fp:List Nat} (ho:Only fp w w') (hd:∀ b∈fp,b ∉ S .tv/\(∀ k,b ∉ S (.row k))/\∀ k,b ∉ S (.idn k)):Em e B n j w' S tv rb iv:=by
 have hr:∀ k,k < j->rb k ∉ fp:=fun k hk hm=>(hd _ hm).2.1 k (by rw [h.rS k hk];simp)
 obtain ⟨fs,hA,hfs⟩:=h.acc
 refine ⟨h.sep.keep ho.size,⟨fs,hA.only ho (by rw [hfs];simp) (fun g hg hm=>(hd g hm).1 (by rw [<- h.tvS];simp [hg])),hfs⟩,h.tvS,fun k i hk hi=>ho.cell (hr k hk) (h.cell k i hk hi),fun k hk=>(h.own k hk).only ho (by simpa using hr k hk),h.rS,fun k hk=>Rp.only (h.idn k hk) ho fun b hb hm=>(hd b hm).2.2 k hb⟩
theorem Em.keep (h:Em e B n j w S tv rb iv) (ho:Only [] w w'):Em e B n j w' S tv rb iv:=h.only ho (by simp)
theorem Em.reS (h:Em e B n j w S tv rb iv) {S':Key->List Nat} (hs:Sep B w S') (h1:S' .tv = S .tv) (h2:∀ k,S' (.row k) = S (.row k)) (h3:∀ k,S' (.idn k) = S (.idn k)):Em e B n j w S' tv rb iv:=
 ⟨hs,h.acc,by rw [h1];exact h.tvS,h.cell,h.own,fun k hk=>by rw [h2];exact h.rS k hk,fun k hk=>by rw [h3];exact h.idn k hk⟩
theorem Em.step (h:Em e B n j w S tv rb iv) (hj:j < n) {eI:TypeId} {w1 w2 w4 w5:World} (hown:w1.ownsRow w.heap.size eI 1 (.slice (some ⟨w.heap.size,0,none⟩) n n) n (List.replicate n (.slice none 0 0))) (h1:Only [] w w1)
  {v2:Value} {f2:List Nat} (r2:Rd w2 v2 (PM.pts n) f2) (F2:Fresh w1.heap.size w2 f2) (h2:Only [] w1 w2) (h4:Only [] (w2.setCell ⟨w.heap.size,j,none⟩ v2) w4)
  {tv':Value} {fs':List (List Nat)} (hA:Acc B e w5 tv' (rowsV n rb j ++ [⟨rowV n w.heap.size⟩]) fs') (hfs:fs'.flatten = []) (h5:Only tv.ownBlock.toList w4 w5) (hb:tv'.ownBlock = tv.ownBlock\/tv'.ownBlock = some w4.heap.size) :
  ∃ S',Em e B n (j + 1) w5 S' tv' (updF rb j w.heap.size) (updF iv j v2)/\S' .g = S .g/\S' .gt = S .gt/\∀ k,S' (.emp k) = S (.emp k):=by
 have hs0:w.heap.size < w1.heap.size:=(hown.lt w.heap.size rfl).2
 have hst:=Zaf w2 w.heap.size j v2
 have hsz2:=h2.size
 have hsz3:=hst.size
 have hsz4:=h4.size
 have hsz5:=h5.size
 have htv:∀ b∈tv.ownBlock.toList,b∈S .tv/\b < w.heap.size:=fun b hb'=>by
  rw [h.tvS] at hb';exact ⟨hb',h.sep.lt _ b hb'⟩
 -- the old rows
 have hE3:Em e B n j (w2.setCell ⟨w.heap.size,j,none⟩ v2) S tv rb iv:=((h.keep h1).keep h2).only hst fun b hb'=>by
  have e:b = w.heap.size:=by simpa using hb'
  subst e
  exact ⟨fun hm=>Nat.lt_irrefl _ (h.sep.lt _ _ hm),fun k hm=>Nat.lt_irrefl _ (h.sep.lt _ _ hm),fun k hm=>Nat.lt_irrefl _ (h.sep.lt _ _ hm)⟩
 have hE4:=hE3.keep h4
 have hf2:∀ b∈f2,w1.heap.size<=b/\b < w2.heap.size:=fun b hb'=>⟨F2.ge b hb',F2.lt b hb'⟩
 -- the new row's cells
 have hown2:=Zbl hown h2
 obtain ⟨hown3,-⟩:=hown2.stored j v2
 have hown4:=Zbl hown3 h4
 have hown5:=Zbd hown4 h5 fun g hg hm=>by
  have:=(htv g hm).2
  simp [Value.ownBlock] at hg;omega
 have hr5:Rd w5 v2 (PM.pts n) f2:=by
  refine Rp.only (zK (Rp.only r2 hst fun b hb' hm=>?_) h4) h5 fun b hb' hm=>?_
  ·have e:b = w.heap.size:=by simpa using hm
   have:=(hf2 b hb').1;omega
  ·have:=(htv b hm).2;have:=(hf2 b hb').1;omega
 have hE5:∀ k i,k < j->i < n->w5.cell? ⟨rb k,i,none⟩ = some (if i = k then iv k else .slice none 0 0):=fun k i hk hi=>
  h5.cell (fun hm=>h.sep.sep .tv (.row k) (by simp) _ (htv _ hm).1 (by rw [h.rS k hk];simp)) (hE4.cell k i hk hi)
 have hO5:∀ k,k < j->Own w5 [rb k]:=fun k hk=>(hE4.own k hk).only h5 fun b hb' hm=>by
  have e:b = rb k:=by simpa using hb'
  subst e
  exact h.sep.sep .tv (.row k) (by simp) _ (htv _ hm).1 (by rw [h.rS k hk];simp)
 have hI5:∀ k,k < j->Rd w5 (iv k) (PM.pts n) (S (.idn k)):=fun k hk=>Rp.only (hE4.idn k hk) h5 fun b hb' hm=>h.sep.sep .tv (.idn k) (by simp) b (htv b hm).1 hb'
 -- the blocks
 have hS1:Sep B w1 (updS S (.row j) [w.heap.size]):=h.sep.upd (fun x hx=>by
  have e:x = w.heap.size:=by simpa using hx
  omega) h1.size
 have hS2:Sep B w2 (updS (updS S (.row j) [w.heap.size]) (.idn j) f2):=hS1.upd hf2 hsz2
 have hS4:Sep B w4 (updS (updS S (.row j) [w.heap.size]) (.idn j) f2):=hS2.keep (by omega)
 have key:∀ S':Key->List Nat,Sep B w5 S'->tv'.ownBlock.toList = S' .tv->(∀ k,S' (.row k) = updS S (.row j) [w.heap.size] (.row k))->(∀ k,S' (.idn k) = updS S (.idn j) f2 (.idn k))->Em e B n (j + 1) w5 S' tv' (updF rb j w.heap.size) (updF iv j v2):=by
  intro S' hs ht hr hi
  refine ⟨hs,⟨fs',by rw [Zrj];exact hA,hfs⟩,ht,fun k i hk hin=>?_,fun k hk=>?_,fun k hk=>?_,fun k hk=>?_⟩
  ·by_cases e:k = j
   ·subst e
    rw [Zce,Zce,hown5.cellAt i (by omega)]
    by_cases e2:i = k
    ·subst e2;simp [hin]
    ·rw [if_neg e2,List.getElem?_set_ne (by omega),List.getElem?_replicate,if_pos hin]
   ·rw [Zby _ _ e,Zby _ _ e];exact hE5 k i (by omega) hin
  ·by_cases e:k = j
   ·subst e
    rw [Zce]
    exact (Zcg hown5).own
   ·rw [Zby _ _ e];exact hO5 k (by omega)
  ·rw [hr k]
   by_cases e:k = j
   ·subst e;rw [Zbv,Zce]
   ·rw [Zby _ _ e,Zac _ _ (by simpa using e)];exact h.rS k (by omega)
  ·rw [hi k]
   by_cases e:k = j
   ·subst e;rw [Zbv,Zce];exact hr5
   ·rw [Zby _ _ e,Zac _ _ (by simpa using e)];exact hI5 k (by omega)
 rcases hb with hb | hb
 ·refine ⟨updS (updS S (.row j) [w.heap.size]) (.idn j) f2,key _ (hS4.keep hsz5) ?_ (fun k=>?_) (fun k=>?_),?_,?_,fun k=>?_⟩
  ·rw [hb,h.tvS,Zac _ _ (by simp),Zac _ _ (by simp)]
  ·rw [Zac _ _ (by simp)]
  ·unfold updS;split <;> rfl
  ·rw [Zac _ _ (by simp),Zac _ _ (by simp)]
  ·rw [Zac _ _ (by simp),Zac _ _ (by simp)]
  ·rw [Zac _ _ (by simp),Zac _ _ (by simp)]
 ·have hlt:=(hA.ownlt _ hb).2
  refine ⟨updS (updS (updS S (.row j) [w.heap.size]) (.idn j) f2) .tv [w4.heap.size],key _ (hS4.upd (fun x hx=>by
   have e:x = w4.heap.size:=by simpa using hx
   omega) hsz5) ?_ (fun k=>?_) (fun k=>?_),?_,?_,fun k=>?_⟩
  ·rw [hb,Zbv];rfl
  ·rw [Zac _ _ (by simp),Zac _ _ (by simp)]
  ·rw [Zac _ _ (by simp)];unfold updS;split <;> rfl
  ·rw [Zac _ _ (by simp),Zac _ _ (by simp),Zac _ _ (by simp)]
  ·rw [Zac _ _ (by simp),Zac _ _ (by simp),Zac _ _ (by simp)]
  ·rw [Zac _ _ (by simp),Zac _ _ (by simp),Zac _ _ (by simp)]
theorem Em.ch (h:Em e B n n w S tv rb iv) (hn:0 < n) (hn20:n<=20) {g bg oG oT cG:Nat} {eG:TypeId} (gv:Nat->Value) (hg:S .g = [g]) (hgt:S .gt = [bg])
  (cn:w.cell? ⟨g,0,none⟩ = some (.int .i64 n)) (cg:w.cell? ⟨g,oG,none⟩ = some (.slice (some ⟨bg,0,none⟩) n cG)) (ct:w.cell? ⟨g,oT,none⟩ = some tv)
  (hgen:∀ k,k < n->w.cell? ⟨bg,k,none⟩ = some (gv k)) (hacc:∀ k,k < n->Acc B eG w (gv k) ([]:List (List Int)) []) (hgS:∀ k,k < n->(gv k).ownBlock.toList = S (.emp k)) (hob:Own w [bg]) :
  ∃ (L:Lay) (M F:List Nat),L.g = g/\L.oG = oG/\L.oT = oT/\(∀ b∈F,B<=b)/\Ch eG B w L gv n (PM.G0 n) (PM.T0 n) M F:=by
 obtain ⟨fs,hA,-⟩:=h.acc
 have hlen:=Zih n rb n
 obtain ⟨bt,cT,htv,-⟩:=hA.raw (k:=0) (by omega)
 rw [hlen] at htv
 have hbt:S .tv = [bt]:=by rw [<- h.tvS,htv];rfl
 have hrow:∀ k,k < n->w.cell? ⟨bt,k,none⟩ = some (.slice (some ⟨rb k,0,none⟩) n n):=fun k hk=>by
  obtain ⟨g',c',e1,e2⟩:=hA.raw (k:=k) (by omega)
  have e3:=htv.symm.trans e1
  injection e3 with e4 _ _
  injection e4 with e5
  injection e5 with e6 _ _
  rw [<- e6] at e2
  rw [e2];simp [rowsV,rowV]
 have hbgm:bg∈S .gt:=by rw [hgt];simp
 have hgm:g∈S .g:=by rw [hg];simp
 have hbtm:bt∈S .tv:=by rw [hbt];simp
 have hrm:∀ k,k < n->rb k∈S (.row k):=fun k hk=>by rw [h.rS k hk];simp
 have hem:∀ k b,k < n->(gv k).ownBlock = some b->b∈S (.emp k):=fun k b hk hb=>by rw [<- hgS k hk];simp [hb]
 have hM:∀ b,b∈bg :: ((List.range n).map rb ++ (List.range n).flatMap fun k=>S (.emp k))->b∈S .gt\/(∃ k,k < n/\b∈S (.row k))\/∃ k,b∈S (.emp k):=fun b hb=>by
  rcases List.mem_cons.1 hb with e | hb
  ·subst e;exact .inl hbgm
  ·rcases List.mem_append.1 hb with hb | hb
   ·obtain ⟨k,hk,e⟩:=List.mem_map.1 hb
    subst e;exact .inr (.inl ⟨k,List.mem_range.1 hk,hrm k (List.mem_range.1 hk)⟩)
   ·obtain ⟨k,-,hk⟩:=List.mem_flatMap.1 hb
    exact .inr (.inr ⟨k,hk⟩)
 have hF:∀ b,b∈g :: bt :: (List.range n).flatMap (fun k=>S (.idn k))->b∈S .g\/b∈S .tv\/∃ k,b∈S (.idn k):=fun b hb=>by
  rcases List.mem_cons.1 hb with e | hb
  ·subst e;exact .inl hgm
  ·rcases List.mem_cons.1 hb with e | hb
   ·subst e;exact .inr (.inl hbtm)
   ·obtain ⟨k,-,hk⟩:=List.mem_flatMap.1 hb
    exact .inr (.inr ⟨k,hk⟩)
 refine ⟨⟨g,bg,bt,cG,cT,oG,oT,rb⟩,bg :: ((List.range n).map rb ++ (List.range n).flatMap fun k=>S (.emp k)),g :: bt :: (List.range n).flatMap (fun k=>S (.idn k)),rfl,rfl,rfl,fun b hb=>(by rcases hF b hb with h1 | h1 | ⟨k,h1⟩ <;> exact h.sep.ge _ b h1),
  PM.Shape.zero n,hn,hn20,cn,cg,by rw [ct,htv],hrow,hgen,fun k m hk hm=>?_,fun k hk=>⟨[],by rw [PM.lv_G0];exact hacc k hk,by simp⟩,by simp,fun k hk=>?_,fun k b hk hb=>?_,by simp,by simp,fun b hb hb'=>?_,?_,fun b hb=>?_,fun b hb=>?_,fun b hb=>?_,fun i k hi hk e=>?_,fun k hk e=>?_,fun k b hk hb=>⟨fun e=>?_,fun i hi e=>?_⟩,fun i k b hi hk h1 h2=>?_⟩
 ·rw [PM.tr_T0 hk]
  have hc:=h.cell k m hk hm
  by_cases e:m = k
  ·subst e
   rw [if_pos rfl] at hc
   rw [if_pos rfl]
   exact ⟨_,_,hc,h.idn m hk,fun e=>absurd e (PM.pts_ne hn),fun b hb=>List.mem_cons_of_mem _ (List.mem_cons_of_mem _ (List.mem_flatMap.2 ⟨m,List.mem_range.2 hk,hb⟩))⟩
  ·rw [if_neg e] at hc
   rw [if_neg (by omega)]
   exact ⟨_,[],hc,nil_rd w,fun _=>rfl,by simp⟩
 ·exact List.mem_cons_of_mem _ (List.mem_append_left _ (List.mem_map.2 ⟨k,List.mem_range.2 hk,rfl⟩))
 ·exact List.mem_cons_of_mem _ (List.mem_append_right _ (List.mem_flatMap.2 ⟨k,List.mem_range.2 hk,hem k b hk hb⟩))
 ·rcases hM b hb with h1 | ⟨k,-,h1⟩ | ⟨k,h1⟩ <;> rcases hF b hb' with h2 | h2 | ⟨i,h2⟩ <;> exact h.sep.sep _ _ (by simp) b h1 h2
 ·intro b hb
  rcases List.mem_cons.1 hb with e | hb
  ·subst e;exact hob _ (by simp)
  ·obtain ⟨k,hk,e⟩:=List.mem_map.1 hb
   subst e;exact h.own k (List.mem_range.1 hk) _ (by simp)
 ·rcases hM b hb with h1 | ⟨k,-,h1⟩ | ⟨k,h1⟩ <;> exact h.sep.lt _ b h1
 ·rcases hF b hb with h1 | h1 | ⟨k,h1⟩ <;> exact h.sep.lt _ b h1
 ·rcases hM b hb with h1 | ⟨k,-,h1⟩ | ⟨k,h1⟩ <;> exact h.sep.ge _ b h1
 ·apply Classical.byContradiction
  intro hne
  exact h.sep.sep (.row i) (.row k) (by simpa using hne) _ (hrm i hi) (by have e':rb i = rb k:=e;rw [e'];exact hrm k hk)
 ·exact h.sep.sep (.row k) .gt (by simp) _ (hrm k hk) (by have e':rb k = bg:=e;rw [e'];exact hbgm)
 ·subst e;exact h.sep.sep (.emp k) .gt (by simp) _ (hem k _ hk hb) hbgm
 ·subst e;exact h.sep.sep (.emp k) (.row i) (by simp) _ (hem k _ hk hb) (hrm i hi)
 ·apply Classical.byContradiction
  intro hne
  exact h.sep.sep (.emp i) (.emp k) (by simpa using hne) _ (hem i b hi h1) (hem k b hk h2)
end
theorem Tryz.info222:(Tryz.prog.info? 24).map (fun i=>(i.zero,i.size,i.bytes)) = some (some (.slice none 0 0),1,24):=by kernel_rfl
def NC1 (eG:TypeId) (oG oT n:Nat) (w:World) (s:Value) (wx:World):Prop:=
 ∃ (L:Lay) (gv:Nat->Value) (M F:List Nat),s = .pointer (some ⟨L.g,0,none⟩)/\L.oG = oG/\L.oT = oT/\Ch eG w.heap.size wx L gv n (PM.G0 n) (PM.T0 n) M F/\Only [] w wx
def NR (eR:TypeId) (n:Nat) (w:World) (g bg:Nat) (j:Nat) (wr:World):Prop:=
 ∃ S tv rb iv,Em eR w.heap.size n j wr S tv rb iv/\S .g = [g]/\S .gt = [bg]/\(∀ k,S (.emp k) = [])/\Blk wr g [.int .i64 n,.slice (some ⟨bg,0,none⟩) n n,tv] /\
  wr.ownsRow bg eR 1 (.slice (some ⟨bg,0,none⟩) n n) n (List.replicate n (.slice none 0 0))/\Only [] w wr
theorem NR.fin {eR eG:TypeId} {n:Nat} {w:World} {g bg:Nat} {wr:World} (h:NR eR n w g bg n wr) (hn:0 < n) (hn20:n<=20):NC1 eG 1 2 n w (.pointer (some ⟨g,0,none⟩)) wr:=by
 obtain ⟨S,tv,rb,iv,hE,hg,hgt,hem,hB,hO,hK⟩:=h
 obtain ⟨L,M,F,e1,e2,e3,-,hC⟩:=hE.ch (eG:=eG) (oG:=1) (oT:=2) (cG:=n) hn hn20 (fun _=>.slice none 0 0) hg hgt (hB.cell 0 rfl) (hB.cell 1 rfl) (hB.cell 2 rfl)
  (fun k hk=>by rw [hO.cellAt k (by omega),List.getElem?_replicate,if_pos hk]) (fun k hk=>Acc.nil _ _ _) (fun k hk=>by rw [hem k];rfl) (Zcg hO).own
 exact ⟨L,_,M,F,by rw [e1],e2,e3,hC,hK⟩
theorem NR.finF {eR eG:TypeId} {n:Nat} {w:World} {g bg:Nat} {wr:World} (h:NR eR n w g bg n wr) (hn:0 < n) (hn20:n<=20):∃ (L:Lay) (gv:Nat->Value) (M F:List Nat),Value.pointer (some ⟨g,0,none⟩) = .pointer (some ⟨L.g,0,none⟩)/\L.oG = 1/\L.oT = 2/\(∀ b∈F,w.heap.size<=b)/\Ch eG w.heap.size wr L gv n (PM.G0 n) (PM.T0 n) M F/\Only [] w wr:=by
 obtain ⟨S,tv,rb,iv,hE,hg,hgt,hem,hB,hO,hK⟩:=h
 obtain ⟨L,M,F,e1,e2,e3,hFB,hC⟩:=hE.ch (eG:=eG) (oG:=1) (oT:=2) (cG:=n) hn hn20 (fun _=>.slice none 0 0) hg hgt (hB.cell 0 rfl) (hB.cell 1 rfl) (hB.cell 2 rfl)
  (fun k hk=>by rw [hO.cellAt k (by omega),List.getElem?_replicate,if_pos hk]) (fun k hk=>Acc.nil _ _ _) (fun k hk=>by rw [hem k];rfl) (Zcg hO).own
 exact ⟨L,_,M,F,by rw [e1],e2,e3,hFB,hC,hK⟩
theorem Blk.set {w:World} {g:Nat} {cs:List Value} (h:Blk w g cs) (i:Nat) (v:Value):Blk (w.setCell ⟨g,i,none⟩ v) g (cs.set i v):=by
 obtain ⟨t,h⟩:=h
 refine ⟨t,?_⟩
 simp [World.setCell,Array.getElem?_modify,h]
theorem Blk.frozen {w:World} {g:Nat} {cs:List Value} (h:Blk w g cs) (i:Nat):w.frozen? ⟨g,i,none⟩ = false:=by
 obtain ⟨t,h⟩:=h;simp [World.frozen?,h]
theorem NR.step {eR eI:TypeId} {n j:Nat} (hj:j < n) {w wr w1 w2 w4 w5:World} {g bg:Nat} {S:Key->List Nat} {tv:Value} {rb:Nat->Nat} {iv:Nat->Value}
  (hE:Em eR w.heap.size n j wr S tv rb iv) (hg:S .g = [g]) (hgt:S .gt = [bg]) (hem:∀ k,S (.emp k) = []) (hB:Blk wr g [.int .i64 n,.slice (some ⟨bg,0,none⟩) n n,tv])
  (hO:wr.ownsRow bg eR 1 (.slice (some ⟨bg,0,none⟩) n n) n (List.replicate n (.slice none 0 0))) (hK:Only [] w wr)
  (hown:w1.ownsRow wr.heap.size eI 1 (.slice (some ⟨wr.heap.size,0,none⟩) n n) n (List.replicate n (.slice none 0 0))) (h1:Only [] wr w1)
  {v2:Value} {f2:List Nat} (r2:Rd w2 v2 (PM.pts n) f2) (F2:Fresh w1.heap.size w2 f2) (h2:Only [] w1 w2) (h4:Only [] (w2.setCell ⟨wr.heap.size,j,none⟩ v2) w4)
  {tv':Value} {fs':List (List Nat)} (hA:Acc w.heap.size eR w5 tv' (rowsV n rb j ++ [⟨rowV n wr.heap.size⟩]) fs') (hfs:fs'.flatten = []) (h5:Only tv.ownBlock.toList w4 w5) (hb:tv'.ownBlock = tv.ownBlock\/tv'.ownBlock = some w4.heap.size) :
  NR eR n w g bg (j + 1) (w5.setCell ⟨g,2,none⟩ tv'):=by
 obtain ⟨S',hE',e1,e2,e3⟩:=hE.step hj hown h1 r2 F2 h2 h4 hA hfs h5 hb
 have hst:=Zaf w5 g 2 tv'
 have hst2:=Zaf w2 wr.heap.size j v2
 have hgS:g∈S .g:=by rw [hg];simp
 have hbS:bg∈S .gt:=by rw [hgt];simp
 have hgS':g∈S' .g:=by rw [e1];exact hgS
 have hglt:=hE.sep.lt _ _ hgS
 have hblt:=hE.sep.lt _ _ hbS
 have hgtv:g ∉ tv.ownBlock.toList:=by rw [hE.tvS];exact hE.sep.sep _ _ (by simp) _ hgS
 have hbtv:bg ∉ tv.ownBlock.toList:=by rw [hE.tvS];exact hE.sep.sep _ _ (by simp) _ hbS
 have hgb:g ≠ bg:=fun e=>hE.sep.sep .g .gt (by simp) _ hgS (e ▸ hbS)
 have hwr:w.heap.size<=wr.heap.size:=hK.size
 have hw2:wr.heap.size<=w2.heap.size:=Nat.le_trans h1.size h2.size
 have hw4:=h4.size
 have hw3:=hst2.size
 refine ⟨S',tv',_,_,hE'.only hst fun b hb'=>?_,by rw [e1,hg],by rw [e2,hgt],fun k=>by rw [e3,hem],?_,?_,?_⟩
 ·have e:b = g:=by simpa using hb'
  subst e
  exact ⟨hE'.sep.sep _ _ (by simp) _ hgS',fun k=>hE'.sep.sep _ _ (by simp) _ hgS',fun k=>hE'.sep.sep _ _ (by simp) _ hgS'⟩
 ·have:=(((((hB.keep h1).keep h2).only hst2 (by simp;omega)).keep h4).only h5 hgtv).set 2 tv'
  simpa using this
 ·refine Zbd (Zbd (Zbl (Zbd (Zbl (Zbl hO h1) h2) hst2 fun x hx=>?_) h4) h5 fun x hx=>?_) hst fun x hx=>?_
  ·have e:bg = x:=by simpa [Value.ownBlock] using hx
   subst e;simp;omega
  ·have e:bg = x:=by simpa [Value.ownBlock] using hx
   subst e;exact hbtv
  ·have e:bg = x:=by simpa [Value.ownBlock] using hx
   subst e;simpa using hgb.symm
 ·refine ((((hK.trans h1).trans h2).setCell (fun h=>by simp at h;omega) _).trans h4).then_ h5 (fun x hx hl=>?_) |>.setCell (fun h=>?_) _
  ·rw [hE.tvS] at hx
   have:=hE.sep.ge _ _ hx;omega
  ·have:=hE.sep.ge _ _ hgS
   have h':g < w.heap.size:=h
   omega
def CL (eG:TypeId) (L:Lay) (n:Nat) (gens:List (List Int)) (w:World) (j:Nat) (wr:World):Prop:=
 ∃ (gv:Nat->Value) (G:PM.Gens) (T:PM.Rows) (M F:List Nat),Ch eG w.heap.size wr L gv n G T M F/\PM.Chain n (gens.take j) G T/\PM.Ln n 0 G T/\Only [] w wr
theorem CL.start {eG:TypeId} {L:Lay} {n:Nat} (gens:List (List Int)) {w wr:World} {gv:Nat->Value} {M F:List Nat} (hC:Ch eG w.heap.size wr L gv n (PM.G0 n) (PM.T0 n) M F) (hK:Only [] w wr):CL eG L n gens w 0 wr:=
 ⟨gv,_,_,M,F,hC,by simpa using PM.Chain.zero n,PM.Ln.zero n,hK⟩
theorem CL.step {eG:TypeId} {L:Lay} {n:Nat} {gens:List (List Int)} {w wr w1 w':World} {j:Nat} {gv:Nat->Value} {G:PM.Gens} {T:PM.Rows} {M F f:List Nat} (hC:Ch eG w.heap.size wr L gv n G T M F) (hc:PM.Chain n (gens.take j) G T) (hK:Only [] w wr)
  (t:Only [] wr w1) (hj:j < gens.length) (ha:AddP eG w.heap.size L n 0 gens[j] G T M F f gv w1 w'):CL eG L n gens w (j + 1) w':=by
 obtain ⟨gv',G',T',M',F',hC',hA,hL,hM⟩:=ha
 refine ⟨gv',G',T',M',F',hC',?_,hL,(hK.trans t).then_ hM.only fun x hx hl=>?_⟩
 ·rw [Zab gens j hj];exact hc.step hC'.shape hA
 ·have:=hC.ge x hx;omega
def CLF (eG:TypeId) (L:Lay) (n:Nat) (gens:List (List Int)) (fpg:List Nat) (w:World) (j:Nat) (wr:World):Prop:=
 ∃ (gv:Nat->Value) (G:PM.Gens) (T:PM.Rows) (M F:List Nat),(∀ b∈F,b∈fpg\/w.heap.size<=b)/\Ch eG w.heap.size wr L gv n G T M F/\PM.Chain n (gens.take j) G T/\PM.Ln n 0 G T/\Only [] w wr
theorem CLF.start {eG:TypeId} {L:Lay} {n:Nat} (gens:List (List Int)) (fpg:List Nat) {w wr:World} {gv:Nat->Value} {M F:List Nat} (hF:∀ b∈F,w.heap.size<=b) (hC:Ch eG w.heap.size wr L gv n (PM.G0 n) (PM.T0 n) M F) (hK:Only [] w wr):CLF eG L n gens fpg w 0 wr:=
 ⟨gv,_,_,M,F,fun b hb=>.inr (hF b hb),hC,by simpa using PM.Chain.zero n,PM.Ln.zero n,hK⟩
theorem CLF.step {eG:TypeId} {L:Lay} {n:Nat} {gens:List (List Int)} {fpg:List Nat} {w wr w1 w':World} {j:Nat} {gv:Nat->Value} {G:PM.Gens} {T:PM.Rows} {M F f:List Nat} (hF:∀ b∈F,b∈fpg\/w.heap.size<=b) (hf:∀ b∈f,b∈fpg\/w.heap.size<=b) (hC:Ch eG w.heap.size wr L gv n G T M F) (hc:PM.Chain n (gens.take j) G T) (hK:Only [] w wr)
  (t:Only [] wr w1) (hj:j < gens.length) (ha:AddP eG w.heap.size L n 0 gens[j] G T M F f gv w1 w'):CLF eG L n gens fpg w (j + 1) w':=by
 obtain ⟨gv',G',T',M',F',hC',hA,hL,hM⟩:=ha
 refine ⟨gv',G',T',M',F',fun b hb=>?_,hC',?_,hL,(hK.trans t).then_ hM.only fun x hx hl=>?_⟩
 ·rcases hM.f b hb with h1 | h1 | h1
  ·exact hF b h1
  ·exact hf b h1
  ·have:=(hK.trans t).size;exact .inr (by omega)
 ·rw [Zab gens j hj];exact hc.step hC'.shape hA
 ·have:=hC.ge x hx;omega
theorem madeNils' (n:Nat):(madeCells (Value.cells (.slice none 0 0)) n).toList = List.replicate n (.slice none 0 0):=madeNils n
theorem implAdd0 {n:Nat} {B:Nat} {L:Lay} {gv:Nat->Value} {G:PM.Gens} {T:PM.Rows} {M F:List Nat} {w:World} (hC:Ch 27 B w L gv n G T M F) (hoG:L.oG = 1) (hoT:L.oT = 2) (hI:PM.Inv n 0 G T) (hL:PM.Ln n 0 G T)
  {p:List Int} {vp:Value} {fp:List Nat} (hp:PM.PN n p) (hv:Rd w vp p fp) (hf:∀ b∈fp,b ∉ M) (hB:B<=w.heap.size) :
  Calls Tryz.prog 193 #[.pointer (some ⟨L.g,0,none⟩),.int .i64 0,vp] w fun en w'=>en = .returned (.tuple #[])/\AddP 27 B L n 0 p G T M F fp gv w w':=
 Zrd n n 0 (by omega) (by omega) B L gv G T M F w hC hoG hoT hI hL p vp fp (PM.May.zero G hp) hv hf hB
set_option maxHeartbeats 2000000 in
theorem Zlt (n:Nat) (hn:0 < n) (hn20:n<=20) (vg:Value) (gens:List (List Int)) (fpg:List Nat) (w:World) (hg:Rd w vg gens fpg) (hpn:∀ g∈gens,PM.PN n g) (hgl:gens.length<=1000) :
  Calls Tryz.prog 134 #[.int .i64 n,vg] w fun e w'=>∃ (L:Lay) (gv:Nat->Value) (G:PM.Gens) (T:PM.Rows) (M F:List Nat),e = .returned (.pointer (some ⟨L.g,0,none⟩))/\L.oG = 1/\L.oT = 2/\(∀ b∈F,b∈fpg\/w.heap.size<=b)/\Ch 27 w.heap.size w' L gv n G T M F/\PM.Chain n gens G T/\Only [] w w':=by
 obtain ⟨i2,hi2,hz20,hz21,hz22⟩:=info_parts Tryz.info222
 obtain ⟨i1,hi,hz0,hz1,hz2⟩:=info_parts Tryz.info22
 obtain ⟨ag,cg,obg,fpsg,rfl,hfpg,hSg⟩:=hg.open_
 have hgb:=hSg.bound
 have Hpn:=zH hpn
 have HSg:=zH hSg
 have Hfpg:=zH (Rp.lt hg)
 have Hfpe:=zH hfpg
 clear hpn hSg hg hfpg
 go_enter Tryz.func134,Tryz.ntmps134
 go_wp2_with (at_make;refine wpList_make_full _ rfl _ _ 196 rfl w.heap.size 24 i2 _ 1 Tryz.underlying196 hi2 hz20 hz21 _ _ _ _ n rfl rfl rfl rfl (by rw [hz22];omega) (by unfold maxLen;omega) (Nat.le_refl _) ?_;intro w1 hown hg)
 rw [madeNils',Nat.mul_one] at hown
 have hw1:w.heap.size < w1.heap.size:=(hown.lt w.heap.size rfl).2
 have h1:Only [] w w1:=zO.grown hg (by simp)
 have HN0:Hid (NR 24 n w w1.heap.size w.heap.size 0 (w1.alloc (.cells #[.int .i64 n,.slice (some ⟨w.heap.size,0,none⟩) n n,.slice none 0 0] 198))):=zH (by
  have hal:Only [] w1 (w1.alloc (.cells #[.int .i64 n,.slice (some ⟨w.heap.size,0,none⟩) n n,.slice none 0 0] 198)):=zO.alloc _
  have hsz:(w1.alloc (.cells #[.int .i64 n,.slice (some ⟨w.heap.size,0,none⟩) n n,.slice none 0 0] 198)).heap.size = w1.heap.size + 1:=by simp
  refine ⟨updS (updS (fun _=>[]) .g [w1.heap.size]) .gt [w.heap.size],.slice none 0 0,fun _=>0,fun _=>.slice none 0 0,Em.start _ n (Sep.start _ _ (by omega) (by simp;omega) (by simp;omega) (by simp;omega)) (by rw [Zac _ _ (by simp),Zac _ _ (by simp)]) _ _,by rw [Zac _ _ (by simp),Zbv],Zbv _ _ _,fun k=>by rw [Zac _ _ (by simp),Zac _ _ (by simp)],Blk.new w1 _ _,Zbl hown hal,h1.trans hal⟩)
 clear hown hg
 go_wp2
 go_loopw [16] (fun i wr=>∃ j:Nat,j<=n/\i = .int .i64 j/\NR 24 n w w1.heap.size w.heap.size j wr)
  (fun i _=>n - (intOf i).toNat)
 case atStart=>exact ⟨0,Nat.zero_le _,rfl,HN0.out⟩
 case round=>
  obtain ⟨W2,hnew⟩:∃ W,W = wr:=⟨_,rfl⟩
  subst hnew
  obtain ⟨j,hj,rfl,hN⟩:=hrel
  by_cases hlt:j < n
  ·obtain ⟨S,tv,rb,iv,hE,eg,egt,hem,hB,hO,hK⟩:=hN
   have hgS:w1.heap.size∈S .g:=by rw [eg];simp
   have hglt:=hE.sep.lt _ _ hgS
   have hgtv:w1.heap.size ∉ tv.ownBlock.toList:=by rw [hE.tvS];exact hE.sep.sep _ _ (by simp) _ hgS
   obtain ⟨fs,hA,hfs⟩:=hE.acc
   have hrl:=Zih n rb j
   have hne:w1.heap.size ≠ W2.heap.size:=by omega
   have hBn:w.heap.size<=W2.heap.size:=hK.size
   have HE:=zH hE
   have HB:=zH hB
   have HO:=zH hO
   have HK:=zH hK
   have Heg:=zH eg
   have Hegt:=zH egt
   have Hem:=zH hem
   have HA:=zH hA
   have Hfs:=zH hfs
   have Hrl:=zH hrl
   have Hgtv:=zH hgtv
   have htvlt:∀ g,tv.ownBlock = some g->g ∉ [W2.heap.size]:=fun g hg hm=>by
    have h5:=(hA.ownlt g hg).2
    have h6:g = W2.heap.size:=by simpa using hm
    omega
   have Htvlt:=zH htvlt
   clear hE hB hO hK eg egt hem hA hfs hrl hgS hgtv htvlt
   go_wp2_with (first
    | (at_make;refine wpList_make_full _ rfl _ _ 24 rfl W2.heap.size 27 i1 _ 1 Tryz.underlying24 hi hz0 hz1 _ _ _ _ n rfl rfl rfl rfl (by rw [hz2];omega) (by unfold maxLen;omega) (Nat.le_refl _) ?_;intro w3 hown hg;rw [madeNils',Nat.mul_one] at hown;have h3:Only [] W2 w3:=zO.grown hg (by simp);have Hown:=zH hown;clear hown hg)
    | (go_at_call 73;(with_reducible refine (Zjk n w3 (by omega)).mono ?_);rintro en w4 ⟨v4,f4,rfl,r4,F4,t4⟩;obtain ⟨a4,c4,rfl,-⟩:=r4.ints;have hO4:=Zbl Hown.out t4;have c40:=(hO4.cellAt j (by omega));rw [List.getElem?_replicate,if_pos hlt] at c40;have z40:=hO4.frozenAt j;have HO4:=zH hO4;clear hO4;have c41:=((HB.out.keep h3).keep t4).cell 2 rfl)
    | (at_builtin;go_loud (refine Zer (α:=RawV) rfl _ _ 196 rfl w.heap.size 24 i2 _ 24 Tryz.underlying196 hi2 hz20 hz21 hz22 rfl (by decide) (by decide) (w4.setCell ⟨W2.heap.size,j,none⟩ _) tv (rowsV n rb j) fs rfl (((HA.out.keep h3).keep t4).only (Zaf w4 _ j _) (by rw [Hfs.out];simp) Htvlt.out) (zO.alloc _) (Nat.le_trans hBn (Nat.le_trans (Nat.le_trans h3.size t4.size) (Zaf w4 _ j _).size)) _ 1 [.slice (some ⟨W2.heap.size,0,none⟩) n n] ⟨rowV n W2.heap.size⟩ [] rfl (lit_src _ [.slice (some ⟨W2.heap.size,0,none⟩) n n] _ (by simp only [World.size_setCell])) (by intro u hu;simp at hu;subst hu;rfl) ⟨rfl,rfl⟩ (by simp) (by rw [Hrl.out];omega) ?_;intro v5 w5 hA5 hO5 hb5;obtain ⟨a5,n5,c5,rfl⟩:∃ a n c,v5 = Value.slice a n c:=(let ⟨a,c,hh⟩:=hA5.form;⟨a,_,c,hh⟩);have hB5:=((((HB.out.keep h3).keep t4).only (Zaf w4 W2.heap.size j _) (by simpa using hne)).keep (zO.alloc _)).only hO5 Hgtv.out;have y5:=hB5.cell 2 rfl;have z5:=hB5.frozen 2;clear hB5))
    | fail)
   go_roundw
   case rel=>exact ⟨j + 1,by omega,by go_num,NR.step hlt HE.out Heg.out Hegt.out Hem.out HB.out HO.out HK.out Hown.out h3 r4 F4 t4 (zO.alloc _) hA5 (by rw [List.flatten_append,Hfs.out];rfl) hO5 hb5⟩
   case measure=>simp [intOf];omega
  ·obtain rfl:j = n:=by omega
   obtain ⟨⟨g',bg',bt',cG',cT',oG',oT',rb'⟩,gv0,M0,F0,es,eoG,eoT,hFB,hC,hK⟩:=hN.finF (eG:=27) hn hn20
   injection es with es;injection es with es;injection es with es _ _
   have es':w1.heap.size = g':=es
   subst es'
   have eoG':oG' = 1:=eoG
   subst eoG'
   have eoT':oT' = 2:=eoT
   subst eoT'
   have HL0:=zH (CLF.start gens fpg hFB hC hK)
   clear es eoG eoT hC hK hFB
   go_wp2
   go_loopw [39] (fun i wr=>∃ m:Nat,m<=gens.length/\i = .int .i64 m/\CLF 27 ⟨w1.heap.size,bg',bt',cG',cT',1,2,rb'⟩ j gens fpg w m wr)
    (fun i _=>gens.length - (intOf i).toNat)
   case atStart=>exact ⟨0,Nat.zero_le _,rfl,HL0.out⟩
   case round=>
    obtain ⟨W3,hnew⟩:∃ W,W = wr:=⟨_,rfl⟩
    subst hnew
    obtain ⟨m,hm,rfl,hCL⟩:=hrel
    have HCL:=zH hCL
    obtain ⟨gv3,G3,T3,M3,F3,hF3,hC3,hc3,hL3,hK3⟩:=hCL
    have HF3:=zH hF3
    clear hF3
    by_cases hltm:m < gens.length
    ·obtain ⟨b,off,u,rfl,hob,hcu0,hru0⟩:=HSg.out.atRow m hltm
     have hcu:=hK3.cell (by simp) hcu0
     have hru:=zK hru0 hK3
     have hgm:gens[m]∈gens:=List.getElem_mem _
     have hpm:=Hpn.out _ hgm
     have hfm:∀ b∈fpsg[m]'(by rw [HSg.out.nf];exact hltm),b ∉ M3:=fun b hb hM=>by
      have h5:=hC3.ge b hM
      have h6:=Hfpg.out b (by rw [Hfpe.out];exact List.mem_append_right _ (Zeb (by rw [HSg.out.nf];exact hltm) hb))
      omega
     have hfg:∀ b∈fpsg[m]'(by rw [HSg.out.nf];exact hltm),b∈fpg\/w.heap.size<=b:=fun b hb=>.inl (by rw [Hfpe.out];exact List.mem_append_right _ (Zeb (by rw [HSg.out.nf];exact hltm) hb))
     have Hfg:=zH hfg
     clear hfg
     have HC3:=zH hC3
     have Hc3:=zH hc3
     have HL3:=zH hL3
     have HK3:=zH hK3
     have Hru:=zH hru
     have Hpm:=zH hpm
     have Hfm:=zH hfm
     clear hcu0 hru0 hC3 hc3 hL3 hK3 hru hpm hfm hob hgm
     go_wp2_with (first
      | (go_at_call 193;(with_reducible refine (implAdd0 HC3.out rfl rfl Hc3.out.inv HL3.out Hpm.out Hru.out Hfm.out (HK3.out.size)).mono ?_);rintro en w5 ⟨rfl,ha5⟩)
      | fail)
     go_roundw
     case rel=>exact ⟨m + 1,by omega,by go_num,CLF.step HF3.out Hfg.out HC3.out Hc3.out HK3.out zO hltm ha5⟩
     case measure=>simp [intOf];omega
    ·obtain rfl:m = gens.length:=by omega
     rw [List.take_length] at hc3
     have Hc3:=zH hc3
     have HC3:=zH hC3
     have HK3:=zH hK3
     clear hC3 hc3 hL3 hK3
     go_wp2
     go_ret
     exact ⟨_,gv3,G3,T3,M3,F3,rfl,rfl,rfl,HF3.out,HC3.out,Hc3.out,HK3.out⟩
theorem Zkb (n:Nat) (hn:0 < n) (hn20:n<=20) (vg:Value) (gens:List (List Int)) (fpg:List Nat) (w:World) (hg:Rd w vg gens fpg) (hpn:∀ g∈gens,PM.PN n g) (hgl:gens.length<=1000) :
  Calls Tryz.prog 134 #[.int .i64 n,vg] w fun e w'=>∃ (L:Lay) (gv:Nat->Value) (G:PM.Gens) (T:PM.Rows) (M F:List Nat),e = .returned (.pointer (some ⟨L.g,0,none⟩))/\L.oG = 1/\L.oT = 2/\Ch 27 w.heap.size w' L gv n G T M F/\PM.Chain n gens G T/\Only [] w w':=by
 refine (Zlt n hn hn20 vg gens fpg w hg hpn hgl).mono ?_
 rintro e w' ⟨L,gv,G,T,M,F,h1,h2,h3,-,h4,h5,h6⟩
 exact ⟨L,gv,G,T,M,F,h1,h2,h3,h4,h5,h6⟩
theorem Blk.f2 {w : World} {b : Nat} {l : List Value} (h : Blk w b l) : w.frozen? ⟨b, 0, none⟩ = false /\ w.frozen? ⟨b, 1, none⟩ = false := ⟨h.frozen 0, h.frozen 1⟩
theorem Blk.f3 {w : World} {b : Nat} {l : List Value} (h : Blk w b l) : w.frozen? ⟨b, 0, none⟩ = false /\ w.frozen? ⟨b, 1, none⟩ = false /\ w.frozen? ⟨b, 2, none⟩ = false := ⟨h.frozen 0, h.frozen 1, h.frozen 2⟩
theorem Blk.f4 {w : World} {b : Nat} {l : List Value} (h : Blk w b l) : w.frozen? ⟨b, 0, none⟩ = false /\ w.frozen? ⟨b, 1, none⟩ = false /\ w.frozen? ⟨b, 2, none⟩ = false /\ w.frozen? ⟨b, 3, none⟩ = false := ⟨h.frozen 0, h.frozen 1, h.frozen 2, h.frozen 3⟩
theorem Blk.f5 {w : World} {b : Nat} {l : List Value} (h : Blk w b l) : w.frozen? ⟨b, 0, none⟩ = false /\ w.frozen? ⟨b, 1, none⟩ = false /\ w.frozen? ⟨b, 2, none⟩ = false /\ w.frozen? ⟨b, 3, none⟩ = false /\ w.frozen? ⟨b, 4, none⟩ = false := ⟨h.frozen 0, h.frozen 1, h.frozen 2, h.frozen 3, h.frozen 4⟩
theorem Blk.f6 {w : World} {b : Nat} {l : List Value} (h : Blk w b l) : w.frozen? ⟨b, 0, none⟩ = false /\ w.frozen? ⟨b, 1, none⟩ = false /\ w.frozen? ⟨b, 2, none⟩ = false /\ w.frozen? ⟨b, 3, none⟩ = false /\ w.frozen? ⟨b, 4, none⟩ = false /\ w.frozen? ⟨b, 5, none⟩ = false := ⟨h.frozen 0, h.frozen 1, h.frozen 2, h.frozen 3, h.frozen 4, h.frozen 5⟩
def empV (eb:Nat->Nat) (j:Nat):List RawV:=(List.range j).map fun k=>⟨.slice (some ⟨eb k,0,none⟩) 0 0⟩
theorem Zpd (eb:Nat->Nat) (j:Nat):(empV eb j).length = j:=by simp [empV]
theorem Zsi (eb:Nat->Nat) (j b:Nat):empV (updF eb j b) (j + 1) = empV eb j ++ [⟨.slice (some ⟨b,0,none⟩) 0 0⟩]:=by
 unfold empV
 rw [List.range_succ,List.map_append]
 congr 1
 ·refine List.map_congr_left fun k hk=>?_
  rw [Zby _ _ (by have:=List.mem_range.1 hk;omega)]
 ·simp [Zce]
structure SR (eR eG:TypeId) (n:Nat) (w:World) (g:Nat) (j1 j2:Nat) (wr:World) (S:Key->List Nat) (tv gt:Value) (rb:Nat->Nat) (iv:Nat->Value) (eb:Nat->Nat):Prop where
 em:Em eR w.heap.size n j1 wr S tv rb iv
 gS:S .g = [g]
 acc:∃ fs,Acc w.heap.size eR wr gt (empV eb j2) fs/\fs.flatten = []
 gtS:gt.ownBlock.toList = S .gt
 emp:∀ k,k < j2->S (.emp k) = [eb k]/\Acc w.heap.size eG wr (.slice (some ⟨eb k,0,none⟩) 0 0) ([]:List (List Int)) []
 blk:Blk wr g [.int .i64 n,tv,gt]
 keep:Only [] w wr
section
variable {eR eG eI:TypeId} {n:Nat} {w wr w1 w2 w4 w5 w8 w9:World} {g j j1 j2:Nat} {S:Key->List Nat} {tv gt:Value} {rb:Nat->Nat} {iv:Nat->Value} {eb:Nat->Nat}
theorem SR.row (h:SR eR eG n w g j j2 wr S tv gt rb iv eb) (hj:j < n)
  (hown:w1.ownsRow wr.heap.size eI 1 (.slice (some ⟨wr.heap.size,0,none⟩) n n) n (List.replicate n (.slice none 0 0))) (h1:Only [] wr w1)
  {v2:Value} {f2:List Nat} (r2:Rd w2 v2 (PM.pts n) f2) (F2:Fresh w1.heap.size w2 f2) (h2:Only [] w1 w2) (h4:Only [] (w2.setCell ⟨wr.heap.size,j,none⟩ v2) w4)
  {tv':Value} {fs':List (List Nat)} (hA:Acc w.heap.size eR w5 tv' (rowsV n rb j ++ [⟨rowV n wr.heap.size⟩]) fs') (hfs:fs'.flatten = []) (h5:Only tv.ownBlock.toList w4 w5) (hb:tv'.ownBlock = tv.ownBlock\/tv'.ownBlock = some w4.heap.size) :
  ∃ S' rb' iv',SR eR eG n w g (j + 1) j2 (w5.setCell ⟨g,1,none⟩ tv') S' tv' gt rb' iv' eb:=by
 obtain ⟨S',hE',e1,e2,e3⟩:=h.em.step hj hown h1 r2 F2 h2 h4 hA hfs h5 hb
 have hst:=Zaf w5 g 1 tv'
 have hst2:=Zaf w2 wr.heap.size j v2
 have hgS:g∈S .g:=by rw [h.gS];simp
 have hgS':g∈S' .g:=by rw [e1];exact hgS
 have hglt:=h.em.sep.lt _ _ hgS
 have hgtv:g ∉ tv.ownBlock.toList:=by rw [h.em.tvS];exact h.em.sep.sep _ _ (by simp) _ hgS
 have hwr:w.heap.size<=wr.heap.size:=h.keep.size
 have hw2:wr.heap.size<=w2.heap.size:=Nat.le_trans h1.size h2.size
 have key:∀ {β:Type} [Rp β] {e:TypeId} {v:Value} {l:List β} {fs:List (List Nat)},Acc w.heap.size e wr v l fs->fs.flatten = []->(∀ b∈v.ownBlock.toList,b ∉ S .g/\b ∉ S .tv/\b < wr.heap.size)->Acc w.heap.size e (w5.setCell ⟨g,1,none⟩ tv') v l fs:=by
  intro β _ e v l fs hA hfs hv
  refine ((((((hA.keep h1).keep h2).only hst2 (by rw [hfs];simp) fun x hx hm=>?_).keep h4).only h5 (by rw [hfs];simp) fun x hx hm=>?_).only hst (by rw [hfs];simp) fun x hx hm=>?_)
  ·have e:x = wr.heap.size:=by simpa using hm
   have:=(hv x (by simp [hx])).2.2;omega
  ·rw [h.em.tvS] at hm
   exact (hv x (by simp [hx])).2.1 hm
  ·have e:x = g:=by simpa using hm
   subst e
   exact (hv x (by simp [hx])).1 hgS
 obtain ⟨fs,hacc,hfs0⟩:=h.acc
 refine ⟨S',_,_,hE'.only hst fun b hb'=>?_,by rw [e1,h.gS],⟨fs,key hacc hfs0 fun b hb'=>?_,hfs0⟩,by rw [e2];exact h.gtS,fun k hk=>⟨by rw [e3];exact (h.emp k hk).1,key (h.emp k hk).2 rfl fun b hb'=>?_⟩,?_,?_⟩
 ·have e:b = g:=by simpa using hb'
  subst e
  exact ⟨hE'.sep.sep _ _ (by simp) _ hgS',fun k=>hE'.sep.sep _ _ (by simp) _ hgS',fun k=>hE'.sep.sep _ _ (by simp) _ hgS'⟩
 ·rw [h.gtS] at hb'
  exact ⟨h.em.sep.sep _ _ (by simp) _ hb',h.em.sep.sep _ _ (by simp) _ hb',h.em.sep.lt _ _ hb'⟩
 ·have hb2:b∈S (.emp k):=by rw [(h.emp k hk).1];simpa [Value.ownBlock,eq_comm] using hb'
  exact ⟨h.em.sep.sep _ _ (by simp) _ hb2,h.em.sep.sep _ _ (by simp) _ hb2,h.em.sep.lt _ _ hb2⟩
 ·have:=(((((h.blk.keep h1).keep h2).only hst2 (by simp;omega)).keep h4).only h5 hgtv).set 1 tv'
  simpa using this
 ·refine ((((h.keep.trans h1).trans h2).setCell (fun h=>by simp at h;omega) _).trans h4).then_ h5 (fun x hx hl=>?_) |>.setCell (fun h'=>?_) _
  ·rw [h.em.tvS] at hx
   have:=h.em.sep.ge _ _ hx;omega
  ·have:=h.em.sep.ge _ _ hgS
   have h'':g < w.heap.size:=h'
   omega
theorem SR.gen {e0:Nat} (he0:e0 = wr.heap.size) (h:SR eR eG n w g j1 j wr S tv gt rb iv eb) (h8:Only [] (wr.alloc (.cells #[] eG)) w8)
  {gt':Value} {fs':List (List Nat)} (hA:Acc w.heap.size eR w9 gt' (empV eb j ++ [⟨.slice (some ⟨e0,0,none⟩) 0 0⟩]) fs') (hfs:fs'.flatten = []) (h9:Only gt.ownBlock.toList w8 w9) (hb:gt'.ownBlock = gt.ownBlock\/gt'.ownBlock = some w8.heap.size) :
  ∃ S' eb',SR eR eG n w g j1 (j + 1) (w9.setCell ⟨g,2,none⟩ gt') S' tv gt' rb iv eb':=by
 subst he0
 have hst:=Zaf w9 g 2 gt'
 have h7:Only [] wr (wr.alloc (.cells #[] eG)):=zO.alloc _
 have h78:=h7.trans h8
 have hs7:(wr.alloc (.cells #[] eG)).heap.size = wr.heap.size + 1:=by simp
 have hs8:=h8.size
 have hs9:=h9.size
 have hgS:g∈S .g:=by rw [h.gS];simp
 have hglt:=h.em.sep.lt _ _ hgS
 have hwr:w.heap.size<=wr.heap.size:=h.keep.size
 have hggt:g ∉ gt.ownBlock.toList:=by rw [h.gtS];exact h.em.sep.sep _ _ (by simp) _ hgS
 -- the old rows
 have hE9:Em eR w.heap.size n j1 (w9.setCell ⟨g,2,none⟩ gt') S tv rb iv:=((h.em.keep h78).only h9 fun b hb'=>by
  rw [h.gtS] at hb'
  exact ⟨h.em.sep.sep _ _ (by simp) _ hb',fun k=>h.em.sep.sep _ _ (by simp) _ hb',fun k=>h.em.sep.sep _ _ (by simp) _ hb'⟩).only hst fun b hb'=>by
  have e:b = g:=by simpa using hb'
  subst e
  exact ⟨h.em.sep.sep _ _ (by simp) _ hgS,fun k=>h.em.sep.sep _ _ (by simp) _ hgS,fun k=>h.em.sep.sep _ _ (by simp) _ hgS⟩
 have hemp:∀ k b,k < j->b∈S (.emp k)->b ∉ gt.ownBlock.toList/\b ≠ g/\b < wr.heap.size:=fun k b hk hb'=>by
  refine ⟨by rw [h.gtS];exact h.em.sep.sep _ _ (by simp) _ hb',fun e=>h.em.sep.sep .g (.emp k) (by simp) _ hgS (e ▸ hb'),h.em.sep.lt _ _ hb'⟩
 have hS1:Sep w.heap.size w8 (updS S (.emp j) [wr.heap.size]):=h.em.sep.upd (fun x hx=>by
  have e:x = wr.heap.size:=by simpa using hx
  omega) (by omega)
 have hgt'S:∀ x,gt'.ownBlock = some x->x ≠ g:=fun x hx e=>by
  subst e
  rcases hb with hb | hb
  ·rw [hb] at hx;exact hggt (by simp [hx])
  ·rw [hb] at hx;injection hx with hx;omega
 have hblk:Blk (w9.setCell ⟨g,2,none⟩ gt') g [.int .i64 n,tv,gt']:=by
  have:=((h.blk.keep h78).only h9 hggt).set 2 gt'
  simpa using this
 have hkeep:Only [] w (w9.setCell ⟨g,2,none⟩ gt'):=by
  refine ((h.keep.trans h78).then_ h9 fun x hx hl=>?_).setCell (fun h'=>?_) _
  ·rw [h.gtS] at hx
   have:=h.em.sep.ge _ _ hx;omega
  ·have:=h.em.sep.ge _ _ hgS
   have h'':g < w.heap.size:=h'
   omega
 have hacc:Acc w.heap.size eR (w9.setCell ⟨g,2,none⟩ gt') gt' (empV (updF eb j wr.heap.size) (j + 1)) fs':=by
  rw [Zsi]
  exact hA.only hst (by rw [hfs];simp) fun x hx hm=>hgt'S x hx (by simpa using hm)
 have hnew:Acc w.heap.size eG (w9.setCell ⟨g,2,none⟩ gt') (.slice (some ⟨wr.heap.size,0,none⟩) 0 0) ([]:List (List Int)) []:=by
  refine (((Acc.made wr w.heap.size eG rfl hwr).keep h8).only h9 (by simp) fun x hx hm=>?_).only hst (by simp) fun x hx hm=>?_
  ·have e:wr.heap.size = x:=by simpa [Value.ownBlock] using hx
   rw [h.gtS] at hm
   have:=h.em.sep.lt _ _ hm;omega
  ·have e:wr.heap.size = x:=by simpa [Value.ownBlock] using hx
   have e2:x = g:=by simpa using hm
   omega
 have key:∀ S':Key->List Nat,Sep w.heap.size (w9.setCell ⟨g,2,none⟩ gt') S'->gt'.ownBlock.toList = S' .gt->S' .tv = S .tv->S' .g = S .g->(∀ k,S' (.row k) = S (.row k))->(∀ k,S' (.idn k) = S (.idn k))->(∀ k,S' (.emp k) = updS S (.emp j) [wr.heap.size] (.emp k)) ->
   SR eR eG n w g j1 (j + 1) (w9.setCell ⟨g,2,none⟩ gt') S' tv gt' rb iv (updF eb j wr.heap.size):=by
  intro S' hs hgt htv hg hr hi he
  refine ⟨hE9.reS hs htv hr hi,by rw [hg];exact h.gS,⟨fs',hacc,hfs⟩,hgt,fun k hk=>?_,hblk,hkeep⟩
  rw [he k]
  by_cases e:k = j
  ·subst e
   rw [Zbv,Zce]
   exact ⟨rfl,hnew⟩
  ·rw [Zac _ _ (by simpa using e),Zby _ _ e]
   obtain ⟨p1,p2⟩:=h.emp k (by omega)
   have hin:eb k∈S (.emp k):=by rw [p1];simp
   obtain ⟨q1,q2,q3⟩:=hemp k (eb k) (by omega) hin
   refine ⟨p1,((p2.keep h78).only h9 (by simp) fun x hx hm=>?_).only hst (by simp) fun x hx hm=>?_⟩
   ·have e:eb k = x:=by simpa [Value.ownBlock] using hx
    subst e;exact q1 hm
   ·have e:eb k = x:=by simpa [Value.ownBlock] using hx
    subst e;exact q2 (by simpa using hm)
 have hsz9:(w9.setCell ⟨g,2,none⟩ gt').heap.size = w9.heap.size:=by simp [World.setCell]
 rcases hb with hb | hb
 ·refine ⟨updS S (.emp j) [wr.heap.size],_,key _ (hS1.keep (by omega)) ?_ ?_ ?_ (fun k=>?_) (fun k=>?_) (fun k=>rfl)⟩
  ·rw [hb,h.gtS,Zac _ _ (by simp)]
  all_goals rw [Zac _ _ (by simp)]
 ·have hlt:=(hA.ownlt _ hb).2
  refine ⟨updS (updS S (.emp j) [wr.heap.size]) .gt [w8.heap.size],_,key _ (hS1.upd (fun x hx=>by
   have e:x = w8.heap.size:=by simpa using hx
   omega) (by omega)) ?_ ?_ ?_ (fun k=>?_) (fun k=>?_) (fun k=>?_)⟩
  ·rw [hb,Zbv];rfl
  ·rw [Zac _ _ (by simp),Zac _ _ (by simp)]
  ·rw [Zac _ _ (by simp),Zac _ _ (by simp)]
  ·rw [Zac _ _ (by simp),Zac _ _ (by simp)]
  ·rw [Zac _ _ (by simp),Zac _ _ (by simp)]
  ·rw [Zac _ _ (by simp)]
theorem SR.fin (h:SR eR eG n w g n n wr S tv gt rb iv eb) (hn:0 < n) (hn20:n<=20):NC1 eG 2 1 n w (.pointer (some ⟨g,0,none⟩)) wr:=by
 obtain ⟨fs,hA,hfs⟩:=h.acc
 have hlen:=Zpd eb n
 obtain ⟨bg,cG,hgt,-⟩:=hA.raw (k:=0) (by omega)
 rw [hlen] at hgt
 have hbg:S .gt = [bg]:=by rw [<- h.gtS,hgt];rfl
 obtain ⟨css,hown,-,-⟩:=hA.own
 have hob:=(Zcg hown).own
 rw [h.gtS,hbg] at hob
 obtain ⟨L,M,F,e1,e2,e3,-,hC⟩:=h.em.ch (eG:=eG) (oG:=2) (oT:=1) (cG:=cG) hn hn20 (fun k=>.slice (some ⟨eb k,0,none⟩) 0 0) h.gS hbg (h.blk.cell 0 rfl) (by rw [h.blk.cell 2 rfl,hgt]) (h.blk.cell 1 rfl)
  (fun k hk=>by
   obtain ⟨g',c',q1,q2⟩:=hA.raw (k:=k) (by omega)
   have q3:=hgt.symm.trans q1
   injection q3 with q4 _ _
   injection q4 with q5
   injection q5 with q6 _ _
   rw [<- q6] at q2
   rw [q2];simp [empV])
  (fun k hk=>(h.emp k hk).2) (fun k hk=>by rw [(h.emp k hk).1];rfl) hob
 exact ⟨L,_,M,F,by rw [e1],e2,e3,hC,h.keep⟩
end
set_option maxHeartbeats 2000000 in
theorem Zly (n:Nat) (hn:0 < n) (hn20:n<=20) (w:World) :
  Calls Tryz.prog 199 #[.int .i64 n] w fun e w'=>∃ v,e = .returned v/\NC1 27 2 1 n w v w':=by
 obtain ⟨i2,hi2,hz20,hz21,hz22⟩:=info_parts Tryz.info222
 obtain ⟨i1,hi,hz0,hz1,hz2⟩:=info_parts Tryz.info22
 have HN0:Hid (∃ S tv gt rb iv eb,SR 24 27 n w w.heap.size 0 0 (w.alloc (.cells #[.int .i64 n,.slice none 0 0,.slice none 0 0] 203)) S tv gt rb iv eb):=zH (by
  have hsz:(w.alloc (.cells #[.int .i64 n,.slice none 0 0,.slice none 0 0] 203)).heap.size = w.heap.size + 1:=by simp
  exact ⟨updS (updS (fun _=>[]) .g [w.heap.size]) .gt [],.slice none 0 0,.slice none 0 0,fun _=>0,fun _=>.slice none 0 0,fun _=>0,Em.start _ n (Sep.start _ _ (by omega) (by simp) (by simp) (by simp)) (by rw [Zac _ _ (by simp),Zac _ _ (by simp)]) _ _,by rw [Zac _ _ (by simp),Zbv],⟨[],Acc.nil _ _ _,rfl⟩,by rw [Zbv];rfl,by intro k hk;omega,Blk.new w _ _,zO.alloc _⟩)
 go_enter Tryz.func199,Tryz.ntmps199
 go_wp2
 go_loopw [4] (fun i wr=>∃ (j:Nat),j<=n/\i = .int .i64 j/\∃ S tv gt rb iv eb,SR 24 27 n w w.heap.size j j wr S tv gt rb iv eb)
  (fun i _=>n - (intOf i).toNat)
 case atStart=>exact ⟨0,Nat.zero_le _,rfl,HN0.out⟩
 case round=>
  obtain ⟨W2,hnew⟩:∃ W,W = wr:=⟨_,rfl⟩
  subst hnew
  obtain ⟨j,hj,rfl,S,tv,gt,rb,iv,eb,hN⟩:=hrel
  by_cases hlt:j < n
  ·have hE:=hN.em
   have hgS:w.heap.size∈S .g:=by rw [hN.gS];simp
   have hglt:=hE.sep.lt _ _ hgS
   have hgtv:w.heap.size ∉ tv.ownBlock.toList:=by rw [hE.tvS];exact hE.sep.sep _ _ (by simp) _ hgS
   have hggt:w.heap.size ∉ gt.ownBlock.toList:=by rw [hN.gtS];exact hE.sep.sep _ _ (by simp) _ hgS
   obtain ⟨fs,hA,hfs⟩:=hE.acc
   have hrl:=Zih n rb j
   have hel:=Zpd eb j
   have hne:w.heap.size ≠ W2.heap.size:=by omega
   have hBn:w.heap.size<=W2.heap.size:=hN.keep.size
   have htvlt:∀ g,tv.ownBlock = some g->g ∉ [W2.heap.size]:=fun g hg hm=>by
    have h5:=(hA.ownlt g hg).2
    have h6:g = W2.heap.size:=by simpa using hm
    omega
   have HN:=zH hN
   have HA:=zH hA
   have Hfs:=zH hfs
   have Hrl:=zH hrl
   have Hel:=zH hel
   have Hgtv:=zH hgtv
   have Hggt:=zH hggt
   have Htvlt:=zH htvlt
   clear hN hE hA hfs hrl hel hgS hgtv hggt htvlt
   go_wp2_with (first
    | (at_make;refine wpList_make_full _ rfl _ _ 24 rfl W2.heap.size 27 i1 _ 1 Tryz.underlying24 hi hz0 hz1 _ _ _ _ n rfl rfl rfl rfl (by rw [hz2];omega) (by unfold maxLen;omega) (Nat.le_refl _) ?_;intro w3 hown hg;rw [madeNils',Nat.mul_one] at hown;have h3:Only [] W2 w3:=zO.grown hg (by simp);have Hown:=zH hown;clear hown hg)
    | (go_at_call 74;(with_reducible refine (Zbn n w3 (by omega)).mono ?_);rintro en w4 ⟨v4,f4,rfl,r4,F4,t4⟩;obtain ⟨a4,c4,rfl,-⟩:=r4.ints;have hO4:=Zbl Hown.out t4;have c40:=(hO4.cellAt j (by omega));rw [List.getElem?_replicate,if_pos hlt] at c40;have z40:=hO4.frozenAt j;have HO4:=zH hO4;clear hO4;have c41:=((HN.out.blk.keep h3).keep t4).cell 1 rfl)
    | (at_builtin;go_loud (refine Zer (α:=RawV) rfl (.tmp 25) (.tmp 27) 196 rfl w.heap.size 24 i2 _ 24 Tryz.underlying196 hi2 hz20 hz21 hz22 rfl (by decide) (by decide) (w4.setCell ⟨W2.heap.size,j,none⟩ _) tv (rowsV n rb j) fs rfl (((HA.out.keep h3).keep t4).only (Zaf w4 _ j _) (by rw [Hfs.out];simp) Htvlt.out) (zO.alloc _) (Nat.le_trans hBn (Nat.le_trans (Nat.le_trans h3.size t4.size) (Zaf w4 _ j _).size)) _ 1 [.slice (some ⟨W2.heap.size,0,none⟩) n n] ⟨rowV n W2.heap.size⟩ [] rfl (lit_src _ [.slice (some ⟨W2.heap.size,0,none⟩) n n] _ (by simp only [World.size_setCell])) (by intro u hu;simp at hu;subst hu;rfl) ⟨rfl,rfl⟩ (by simp) (by rw [Hrl.out];omega) ?_;intro v5 w5 hA5 hO5 hb5;obtain ⟨a5,n5,c5,rfl⟩:∃ a n c,v5 = Value.slice a n c:=(let ⟨a,c,hh⟩:=hA5.form;⟨a,_,c,hh⟩);have hB5:=((((HN.out.blk.keep h3).keep t4).only (Zaf w4 W2.heap.size j _) (by simpa using hne)).keep (zO.alloc _)).only hO5 Hgtv.out;have y5:=hB5.cell 1 rfl;have z5:=hB5.frozen 1;clear hB5;obtain ⟨S6,rb6,iv6,hN6⟩:=HN.out.row hlt Hown.out h3 r4 F4 t4 (zO.alloc _) hA5 (by rw [List.flatten_append,Hfs.out];rfl) hO5 hb5;obtain ⟨fs6,hA6,hfs6⟩:=hN6.acc;have y6:=hN6.blk.cell 2 rfl;have hn6:w.heap.size<=(w5.setCell ⟨w.heap.size,1,none⟩ (.slice a5 n5 c5)).heap.size:=hN6.keep.size;have HN6:=zH hN6;have Hn6:=zH hn6;have HA6:=zH hA6;have Hfs6:=zH hfs6;clear hN6 hA6 hfs6 hn6))
    | (at_builtin;go_loud (refine Zer (α:=RawV) rfl (.tmp 35) (.tmp 37) 196 rfl w.heap.size 24 i2 _ 24 Tryz.underlying196 hi2 hz20 hz21 hz22 rfl (by decide) (by decide) (w5.setCell ⟨w.heap.size,1,none⟩ _) gt (empV eb j) fs6 rfl HA6.out ((zO.alloc _).alloc _) Hn6.out _ 1 [.slice (some ⟨w5.heap.size,0,none⟩) 0 0] ⟨.slice (some ⟨w5.heap.size,0,none⟩) 0 0⟩ [] rfl (lit_src _ [.slice (some ⟨w5.heap.size,0,none⟩) 0 0] _ (by simp [World.size_setCell])) (by intro u hu;simp at hu;subst hu;rfl) ⟨rfl,rfl⟩ (by simp) (by rw [Hel.out];omega) ?_;intro v9 w9 hA9 hO9 hb9;obtain ⟨a9,n9,c9,rfl⟩:∃ a n c,v9 = Value.slice a n c:=(let ⟨a,c,hh⟩:=hA9.form;⟨a,_,c,hh⟩);have hB9:=(HN6.out.blk.keep ((zO.alloc _).alloc _)).only hO9 Hggt.out;have y9:=hB9.cell 2 rfl;have z9:=hB9.frozen 2;clear hB9))
    | fail)
   go_roundw
   case rel=>exact ⟨j + 1,by omega,by go_num,(let ⟨S',eb',hh⟩:=SR.gen (by simp) HN6.out (zO.alloc _) hA9 (by rw [List.flatten_append,Hfs6.out];rfl) hO9 (hb9.imp id fun h=>h.trans (by simp));⟨S',_,_,_,_,eb',hh⟩)⟩
   case measure=>simp [intOf];omega
  ·obtain rfl:j = n:=by omega
   have HF:=zH (hN.fin hn hn20)
   clear hN
   go_wp2
   go_ret
   exact ⟨_,rfl,HF.out⟩
theorem specGen0 {n:Nat} {B:Nat} {L:Lay} {gv:Nat->Value} {G:PM.Gens} {T:PM.Rows} {M F:List Nat} {w:World} (hC:Ch 27 B w L gv n G T M F) (hoG:L.oG = 2) (hoT:L.oT = 1) (hI:PM.Inv n 0 G T) (hL:PM.Ln n 0 G T)
  {p:List Int} {vp:Value} {fp:List Nat} (hp:PM.PN n p) (hv:Rd w vp p fp) (hf:∀ b∈fp,b ∉ M) (hB:B<=w.heap.size) :
  Calls Tryz.prog 200 #[.pointer (some ⟨L.g,0,none⟩),.int .i64 0,vp] w fun en w'=>en = .returned (.tuple #[])/\AddP 27 B L n 0 p G T M F fp gv w w':=
 Zrg B L hoG hoT n n 0 (by omega) (by omega) gv G T M F w hC hI hL p vp fp (PM.May.zero G hp) hv hf hB
set_option maxHeartbeats 2000000 in
theorem Zma (n:Nat) (hn:0 < n) (hn20:n<=20) (vg:Value) (gens:List (List Int)) (fpg:List Nat) (w:World) (hg:Rd w vg gens fpg) (hpn:∀ g∈gens,PM.PN n g) (hgl:gens.length<=1000) :
  Calls Tryz.prog 142 #[.int .i64 n,vg] w fun e w'=>∃ (L:Lay) (gv:Nat->Value) (G:PM.Gens) (T:PM.Rows) (M F:List Nat),e = .returned (.pointer (some ⟨L.g,0,none⟩))/\L.oG = 2/\L.oT = 1/\Ch 27 w.heap.size w' L gv n G T M F/\PM.Chain n gens G T/\Only [] w w':=by
 obtain ⟨ag,cg,obg,fpsg,rfl,hfpg,hSg⟩:=hg.open_
 have hgb:=hSg.bound
 have Hpn:=zH hpn
 have HSg:=zH hSg
 clear hpn hSg hg hfpg
 go_enter Tryz.func142,Tryz.ntmps142
 go_wp2_with (first
  | (go_at_call 199;(with_reducible refine (Zly n hn hn20 w).mono ?_);rintro en w1 ⟨v1,rfl,hN1⟩;obtain ⟨⟨g',bg',bt',cG',cT',oG',oT',rb'⟩,gv0,M0,F0,es,eoG,eoT,hC,hK⟩:=hN1;subst es;have eoG':oG' = 2:=eoG;subst eoG';have eoT':oT' = 1:=eoT;subst eoT';have HL0:=zH (CL.start gens hC hK);clear eoG eoT hC hK)
  | fail)
 go_loopw [6] (fun i wr=>∃ m:Nat,m<=gens.length/\i = .int .i64 m/\CL 27 ⟨g',bg',bt',cG',cT',2,1,rb'⟩ n gens w m wr)
  (fun i _=>gens.length - (intOf i).toNat)
 case atStart=>exact ⟨0,Nat.zero_le _,rfl,HL0.out⟩
 case round=>
  obtain ⟨W3,hnew⟩:∃ W,W = wr:=⟨_,rfl⟩
  subst hnew
  obtain ⟨m,hm,rfl,hCL⟩:=hrel
  obtain ⟨gv3,G3,T3,M3,F3,hC3,hc3,hL3,hK3⟩:=hCL
  by_cases hltm:m < gens.length
  ·obtain ⟨b,off,u,rfl,hob,hcu0,hru0⟩:=HSg.out.atRow m hltm
   have hcu:=hK3.cell (by simp) hcu0
   have hru:=zK hru0 hK3
   have hgm:gens[m]∈gens:=List.getElem_mem _
   have hpm:=Hpn.out _ hgm
   have hlm:gens[m].length<=1073741824:=by rw [hpm.1];omega
   have HC3:=zH hC3
   have Hc3:=zH hc3
   have HL3:=zH hL3
   have HK3:=zH hK3
   have Hru:=zH hru
   have Hpm:=zH hpm
   have Hlm:=zH hlm
   clear hcu0 hru0 hC3 hc3 hL3 hK3 hru hpm hob hgm hlm
   go_wp2_with (first
    | (go_at_call 100;(with_reducible refine (Zbc _ _ _ _ Hru.out Hlm.out).mono ?_);rintro en w4 ⟨v4,f4,rfl,r4,F4,t4⟩)
    | (go_at_call 200;(with_reducible refine (specGen0 (HC3.out.keep t4) rfl rfl Hc3.out.inv HL3.out Hpm.out r4 (Zdf HC3.out.lM (Nat.le_refl _) F4) (Nat.le_trans HK3.out.size t4.size)).mono ?_);rintro en w5 ⟨rfl,ha5⟩)
    | fail)
   go_roundw
   case rel=>exact ⟨m + 1,by omega,by go_num,CL.step HC3.out Hc3.out HK3.out t4 hltm ha5⟩
   case measure=>simp [intOf];omega
  ·obtain rfl:m = gens.length:=by omega
   rw [List.take_length] at hc3
   have Hc3:=zH hc3
   have HC3:=zH hC3
   have HK3:=zH hK3
   clear hC3 hc3 hL3 hK3
   go_wp2
   go_ret
   exact ⟨_,gv3,G3,T3,M3,F3,rfl,rfl,rfl,HC3.out,Hc3.out,HK3.out⟩
open Classical in
noncomputable def memB (n:Nat) (gens:List (List Int)) (p:List Int):Bool:=decide (PM.Grp n gens p)
def stateB (x:Puzzle) (s:List Int):Bool:=validPz x && genB x.points s
noncomputable def reachB (x:Puzzle) (s:List Int):Bool:=stateB x s && memB x.points.toNat x.moves s
theorem Zgg {n:Int} {gens:List (List Int)}:gensB n gens = true ↔ (1<=n/\n<=20)/\gens.length<=8/\∀ g∈gens,PM.PN n.toNat g:=by
 unfold gensB
 rw [Bool.and_eq_true,Bool.and_eq_true,inR_iff,decide_eq_true_iff,List.all_eq_true]
 constructor
 ·rintro ⟨⟨h1,h2⟩,h3⟩
  refine ⟨h1,h2,fun g hg=>?_⟩
  have h:=h3 g hg
  unfold genB at h
  rw [Bool.and_eq_true,decide_eq_true_iff,Zch] at h
  exact ⟨by omega,h.2.2⟩
 ·rintro ⟨h1,h2,h3⟩
  refine ⟨⟨h1,h2⟩,fun g hg=>?_⟩
  obtain ⟨h4,h5⟩:=h3 g hg
  unfold genB
  rw [Bool.and_eq_true,decide_eq_true_iff,Zch]
  exact ⟨by omega,⟨by omega,by omega⟩,h5⟩
theorem Zfo {n:Int} {g:List Int} (h0:1<=n) (h1:n<=20):genB n g = true ↔ PM.PN n.toNat g:=by
 unfold genB
 rw [Bool.and_eq_true,decide_eq_true_iff,Zch]
 constructor
 ·rintro ⟨h2,-,h3⟩;exact ⟨by omega,h3⟩
 ·rintro ⟨h2,h3⟩;exact ⟨by omega,⟨by omega,by omega⟩,h3⟩
theorem Zhp {x:Puzzle} (h:validPz x = true):gensB x.points x.moves = true:=by
 unfold validPz at h
 rw [Bool.and_eq_true] at h
 exact h.1
theorem Zam {x:Puzzle} {s:List Int} (h:stateB x s = true):(1<=x.points/\x.points<=20)/\x.moves.length<=8/\(∀ g∈x.moves,PM.PN x.points.toNat g)/\PM.PN x.points.toNat s:=by
 unfold stateB at h
 rw [Bool.and_eq_true] at h
 obtain ⟨a,b,c⟩:=Zgg.1 (Zhp h.1)
 exact ⟨a,b,c,(Zfo a.1 a.2).1 h.2⟩
theorem Zax {x:Puzzle} {s:List Int} (h:reachB x s = true):stateB x s = true:=by
 unfold reachB at h
 rw [Bool.and_eq_true] at h;exact h.1
theorem Zif {x:Puzzle} {s:List Int} (h:stateB x s = true):validPz x = true:=by
 unfold stateB at h
 rw [Bool.and_eq_true] at h;exact h.1
set_option maxHeartbeats 1000000 in
theorem Zrf (n:Int) (v:Value) (s:List Int) (fp:List Nat) (w:World) (h:Rd w v s fp) :
  Calls Tryz.prog 132 #[.int .i64 n,v] w fun e w'=>e = .returned (.bool (genB n s))/\Drew w w':=by
 obtain ⟨a,cap,rfl,hI⟩:=h.ints
 have hb:=hI.bound
 by_cases c1:(s.length:Int) = n
 ·have d1:((s.length:Int) == n) = true:=by simp [c1]
  have hg:genB n s = permB s:=by simp [genB,c1]
  have Hg:=zH hg;clear hg c1
  go_enter Tryz.func132,Tryz.ntmps132
  go_wp2_with ((go_at_call 140;(with_reducible refine (Zbe _ s fp _ h).mono ?_);rintro e w1 ⟨rfl,t1⟩))
  go_ret
  exact ⟨Zaa Hg.out.symm,t1⟩
 ·have d1:((s.length:Int) == n) = false:=by simp [c1]
  have hg:genB n s = false:=by simp [genB,c1]
  have Hg:=zH hg;clear hg c1
  go_enter Tryz.func132,Tryz.ntmps132
  go_wp2
  go_ret
  exact ⟨Zaa Hg.out.symm,Drew.refl _⟩
set_option maxHeartbeats 1000000 in
theorem Zau (cs:List Value) (x:Puzzle) (fp:List Nat) (v:Value) (s:List Int) (fs:List Nat) (w:World) (h:Rp.rep w cs x fp) (hs:Rd w v s fs) :
  Calls Tryz.prog 69 #[.agg cs.toArray,v] w fun e w'=>e = .returned (.bool (stateB x s))/\Only [] w w':=by
 have h0:=h
 obtain ⟨v2,rfl,p0,p1,h2⟩:=h
 obtain ⟨A2,C2,ob,fps,rfl,-,-⟩:=h2.open_
 rcases hq:validPz x
 all_goals have hf:stateB x s = (validPz x && genB x.points s):=rfl
 all_goals rw [hq] at hf
 all_goals have Hf:=zH hf
 all_goals clear hf
 all_goals go_enter Tryz.func69,Tryz.ntmps69
 all_goals go_wp2_with (first | (go_at_call 131;(with_reducible refine (Zan [.int .i64 x.points,.string x.names,.slice A2 x.moves.length C2] x _ _ (zK h0 zA)).mono ?_);rintro e w1 ⟨rfl,t1⟩;have y1:=t1.cells_eq w.heap.size (by simp) (by simp)) | (go_at_call 132;(with_reducible refine (Zrf x.points _ s _ _ (zK hs zA)).mono ?_);rintro e w2 ⟨rfl,d2⟩;have t2:=d2.only []) | fail)
 all_goals go_ret
 all_goals exact ⟨Zaa Hf.out.symm,zA⟩
set_option maxHeartbeats 1000000 in
theorem Zir (cs:List Value) (x:Puzzle) (fp:List Nat) (v:Value) (s:List Int) (fs:List Nat) (w:World) (h:Rp.rep w cs x fp) (hs:Rd w v s fs) :
  Calls Tryz.prog 129 #[.agg cs.toArray,v] w fun e w'=>e = .returned (.bool (genB x.points s))/\Only [] w w':=by
 have h0:=h
 obtain ⟨v2,rfl,p0,p1,h2⟩:=h
 obtain ⟨A2,C2,ob,fps,rfl,-,-⟩:=h2.open_
 by_cases c1:(s.length:Int) = x.points
 ·have d1:((s.length:Int) == x.points) = true:=by simp [c1]
  have hg:genB x.points s = permB s:=by simp [genB,c1]
  have Hg:=zH hg;clear hg c1
  go_enter Tryz.func129,Tryz.ntmps129
  go_wp2
  go_quiet (first
   | (go_at_call 41;exact Zbk (Zco _ s fs _ (zK hs zA)))
   | (go_at_call 41;exact Zay (Zco _ s fs _ (zK hs zA)))
   | (go_at_call 190;exact Zay (Zdi _ s fs _ (zK hs zA)))
   | (go_at_call 190;exact Zbk (Zdi _ s fs _ (zK hs zA))))
  go_wp2
  go_ret
  exact ⟨Zaa Hg.out.symm,zA⟩
 ·have d1:((s.length:Int) == x.points) = false:=by simp [c1]
  have hg:genB x.points s = false:=by simp [genB,c1]
  have Hg:=zH hg;clear hg c1
  go_enter Tryz.func129,Tryz.ntmps129
  go_wp2
  go_quiet (first
   | (go_at_call 41;exact Zbk (Zco _ s fs _ (zK hs zA)))
   | (go_at_call 41;exact Zay (Zco _ s fs _ (zK hs zA))))
  go_wp2
  go_ret
  exact ⟨Zaa Hg.out.symm,zA⟩
set_option maxHeartbeats 1000000 in
theorem Zft (cs:List Value) (x:Puzzle) (fp:List Nat) (v:Value) (s:List Int) (fs:List Nat) (w:World) (h:Rp.rep w cs x fp) (hs:Rd w v s fs) :
  Calls Tryz.prog 66 #[.agg cs.toArray,v] w fun e w'=>e = .returned (.bool (stateB x s))/\Only [] w w':=by
 have h0:=h
 obtain ⟨v2,rfl,p0,p1,h2⟩:=h
 obtain ⟨A2,C2,ob,fps,rfl,-,-⟩:=h2.open_
 rcases hq:validPz x
 all_goals have hf:stateB x s = (validPz x && genB x.points s):=rfl
 all_goals rw [hq] at hf
 all_goals have Hf:=zH hf
 all_goals clear hf
 all_goals go_enter Tryz.func66,Tryz.ntmps66
 all_goals go_wp2_with (first | (go_at_call 128;(with_reducible refine (Zav [.int .i64 x.points,.string x.names,.slice A2 x.moves.length C2] x _ _ (zK h0 zA)).mono ?_);rintro e w1 ⟨rfl,t1⟩;have y1:=t1.cells_eq w.heap.size (by simp) (by simp)) | (go_at_call 129;(with_reducible refine (Zir [.int .i64 x.points,.string x.names,.slice A2 x.moves.length C2] x _ _ s _ _ (zK h0 zA) (zK hs zA)).mono ?_);rintro e w2 ⟨rfl,t2⟩) | fail)
 all_goals go_ret
 all_goals exact ⟨Zaa Hf.out.symm,zA⟩
theorem specSift0 {e:TypeId} {B:Nat} {L:Lay} {gv:Nat->Value} {n:Nat} {G:PM.Gens} {T:PM.Rows} {M F:List Nat} {w:World} (hC:Ch e B w L gv n G T M F) (hw:PM.WF n T) (hT:L.oT = 1)
  {vp:Value} {p:List Int} {fp:List Nat} (hp:Rd w vp p fp) (pp:PM.PN n p) :
  Calls Tryz.prog 198 #[.pointer (some ⟨L.g,0,none⟩),.int .i64 0,vp] w fun e w'=>∃ (v:Value) (lv:Nat),e = .returned (.tuple #[v,.int .i64 lv])/\PM.has T n n p = decide (lv = n)/\Only [] w w':=
 Zfp w hC hw hT 0 vp p fp (Nat.zero_le _) hp pp
set_option maxHeartbeats 1000000 in
theorem Zpt {e:TypeId} {B:Nat} {L:Lay} {gv:Nat->Value} {n:Nat} {G:PM.Gens} {T:PM.Rows} {M F:List Nat} (w:World) (hC:Ch e B w L gv n G T M F) (hw:PM.WF n T) (hT:L.oT = 1)
  (vp:Value) (p:List Int) (fp:List Nat) (hp:Rd w vp p fp) (pp:PM.PN n p) :
  Calls Tryz.prog 141 #[.pointer (some ⟨L.g,0,none⟩),vp] w fun e w'=>e = .returned (.bool (PM.has T n n p))/\Only [] w w':=by
 have cn0:=hC.cn
 obtain ⟨ap,cp,rfl,-⟩:=hp.ints
 rcases hh:PM.has T n n p
 ·have Hh:=zH hh
  clear hh
  go_enter Tryz.func141,Tryz.ntmps141
  go_wp2_with (first | (go_at_call 198;(with_reducible refine (specSift0 hC hw hT hp pp).mono ?_);rintro en w1 ⟨v1,lv1,rfl,he,t1⟩;rw [Hh.out] at he;have hlv:lv1 ≠ n:=of_decide_eq_false he.symm;clear he;have hlv2:((lv1:Int) == (n:Int)) = false:=(by rw [beq_eq_false_iff_ne];omega);have cn1:=t1.cell (by simp) cn0) | fail)
  go_ret
  exact ⟨rfl,t1⟩
 ·have Hh:=zH hh
  clear hh
  go_enter Tryz.func141,Tryz.ntmps141
  go_wp2_with (first | (go_at_call 198;(with_reducible refine (specSift0 hC hw hT hp pp).mono ?_);rintro en w1 ⟨v1,lv1,rfl,he,t1⟩;rw [Hh.out] at he;have hlv:n = lv1:=(of_decide_eq_true he.symm).symm;clear he;subst hlv;have cn1:=t1.cell (by simp) cn0) | fail)
  go_ret
  exact ⟨rfl,t1⟩
theorem Zqm {n:Nat} {gens:List (List Int)} {G:PM.Gens} {T:PM.Rows} (h:PM.Chain n gens G T) (hn:0 < n) (hp:∀ g∈gens,PM.PN n g) {p:List Int} (hpn:PM.PN n p):PM.has T n n p = memB n gens p:=by
 rw [Bool.eq_iff_iff,h.has_iff hn hp hpn]
 unfold memB
 simp
set_option maxHeartbeats 1000000 in
theorem Zjr (n:Nat) (vg vp:Value) (gens:List (List Int)) (p:List Int) (fg fp:List Nat) (w:World) (hg:Rd w vg gens fg) (hp:Rd w vp p fp) (hgs:gensB n gens = true) (hpn:PM.PN n p) :
  Calls Tryz.prog 77 #[.int .i64 n,vg,vp] w fun e w'=>e = .returned (.bool (memB n gens p))/\Only [] w w':=by
 obtain ⟨h1,h2,h3⟩:=Zgg.1 hgs
 have hn:0 < n:=by omega
 have hn20:n<=20:=by omega
 have h3':∀ g∈gens,PM.PN n g:=fun g hg=>by simpa using h3 g hg
 have hpm:permB p = true:=Zch.2 ⟨by have:=hpn.1;omega,hpn.2⟩
 have hlen:((p.length:Int) == (n:Int)) = true:=by rw [beq_iff_eq];have:=hpn.1;omega
 obtain ⟨ap,cp,rfl,hIp⟩:=hp.ints
 have hb:=hIp.bound
 have Hgs:=zH hgs
 have Hpn:=zH hpn
 have H3:=zH h3'
 have Hpm:=zH hpm
 clear h1 h3 h3' hgs hpn hpm
 go_enter Tryz.func77,Tryz.ntmps77
 go_wp2_with (first
  | (go_at_call 139;(with_reducible refine (Zcn n vg gens fg _ (zK hg zA)).mono ?_);rintro en w1 ⟨he,d1⟩;rw [Hgs.out] at he;subst he;have t1:=d1.only [])
  | (go_at_call 140;(with_reducible refine (Zbe _ p fp _ (zK hp zA)).mono ?_);rintro en w2 ⟨he,d2⟩;rw [Hpm.out] at he;subst he;have t2:=d2.only [])
  | (go_at_call 142;(with_reducible refine (Zma n hn hn20 vg gens fg _ (zK hg zA) H3.out (by omega)).mono ?_);rintro en w3 ⟨L,gv,G,T,M,F,rfl,hoG,hoT,hC,hCh,t3⟩;have HC:=zH hC;have HCh:=zH hCh;have HoT:=zH hoT;clear hC hCh hoT hoG)
  | (go_at_call 141;(with_reducible refine (Zpt _ HC.out HCh.out.inv.wf HoT.out _ p fp (zK hp zA) Hpn.out).mono ?_);rintro en w4 ⟨he,t4⟩;rw [Zqm HCh.out hn H3.out Hpn.out] at he;subst he)
  | fail)
 go_ret
 exact ⟨rfl,zA⟩
theorem Zmo (n:Int) (vg vp:Value) (gens:List (List Int)) (p:List Int) (fg fp:List Nat) (w:World) (hg:Rd w vg gens fg) (hp:Rd w vp p fp) (hgs:gensB n gens = true) (hpn:PM.PN n.toNat p) :
  Calls Tryz.prog 77 #[.int .i64 n,vg,vp] w fun e w'=>e = .returned (.bool (memB n.toNat gens p))/\Only [] w w':=by
 have h1:=(Zgg.1 hgs).1
 obtain ⟨m,rfl⟩:=Int.eq_ofNat_of_zero_le (by omega:0<=n)
 exact Zjr m vg vp gens p fg fp w hg hp hgs hpn
set_option maxHeartbeats 1000000 in
theorem Zcr (cs:List Value) (x:Puzzle) (fp:List Nat) (v:Value) (s:List Int) (fs:List Nat) (w:World) (h:Rp.rep w cs x fp) (hs:Rd w v s fs) :
  Calls Tryz.prog 31 #[.agg cs.toArray,v] w fun e w'=>e = .returned (.bool (reachB x s))/\Only [] w w':=by
 have h0:=h
 obtain ⟨v2,rfl,p0,p1,h2⟩:=h
 obtain ⟨A2,C2,ob,fps,rfl,-,-⟩:=h2.open_
 rcases hq:stateB x s
 ·have hf:reachB x s = false:=by unfold reachB;rw [hq];rfl
  have Hf:=zH hf
  clear hf
  go_enter Tryz.func31,Tryz.ntmps31
  go_wp2_with (first
   | (go_at_call 69;(with_reducible refine (Zau [.int .i64 x.points,.string x.names,.slice A2 x.moves.length C2] x _ _ s _ _ (zK h0 zA) (zK hs zA)).mono ?_);rintro e w1 ⟨rfl,t1⟩;have y1:=t1.cells_eq w.heap.size (by simp) (by simp)) | fail)
  go_ret
  exact ⟨Zaa Hf.out.symm,zA⟩
 ·have hf:reachB x s = memB x.points.toNat x.moves s:=by unfold reachB;rw [hq];rfl
  have Hf:=zH hf
  have hgs:=Zhp (Zif hq)
  have hpn:=(Zam hq).2.2.2
  have Hgs:=zH hgs
  have Hpn:=zH hpn
  clear hf hgs hpn
  go_enter Tryz.func31,Tryz.ntmps31
  go_wp2_with (first
   | (go_at_call 69;(with_reducible refine (Zau [.int .i64 x.points,.string x.names,.slice A2 x.moves.length C2] x _ _ s _ _ (zK h0 zA) (zK hs zA)).mono ?_);rintro e w1 ⟨rfl,t1⟩;have y1:=t1.cells_eq w.heap.size (by simp) (by simp))
   | (go_at_call 77;(with_reducible refine (Zmo x.points _ _ x.moves s _ _ _ (zK h2 zA) (zK hs zA) Hgs.out Hpn.out).mono ?_);rintro e w2 ⟨rfl,t2⟩) | fail)
  go_ret
  exact ⟨Zaa Hf.out.symm,zA⟩
theorem implHas0 {e:TypeId} {B:Nat} {L:Lay} {gv:Nat->Value} {n:Nat} {G:PM.Gens} {T:PM.Rows} {M F:List Nat} {w:World} (hC:Ch e B w L gv n G T M F) (hw:PM.WF n T) (hT:L.oT = 2)
  {vp:Value} {p:List Int} {fp:List Nat} (hp:Rd w vp p fp) (pp:PM.PN n p) :
  Calls Tryz.prog 135 #[.pointer (some ⟨L.g,0,none⟩),.int .i64 0,vp] w fun e w'=>e = .returned (.bool (PM.has T n n p))/\Only [] w w':=
 Zej w hC hw hT 0 vp p fp (Nat.zero_le _) hp pp
theorem Zmd (n:Int) (hn:1<=n) (hn20:n<=20) (vg:Value) (gens:List (List Int)) (fpg:List Nat) (w:World) (hg:Rd w vg gens fpg) (hpn:∀ g∈gens,PM.PN n.toNat g) (hgl:gens.length<=1000) :
  Calls Tryz.prog 134 #[.int .i64 n,vg] w fun e w'=>∃ (L:Lay) (gv:Nat->Value) (G:PM.Gens) (T:PM.Rows) (M F:List Nat),e = .returned (.pointer (some ⟨L.g,0,none⟩))/\L.oG = 1/\L.oT = 2/\Ch 27 w.heap.size w' L gv n.toNat G T M F/\PM.Chain n.toNat gens G T/\Only [] w w':=by
 obtain ⟨m,rfl⟩:=Int.eq_ofNat_of_zero_le (by omega:0<=n)
 exact Zkb m (by omega) (by omega) vg gens fpg w hg hpn hgl
set_option maxHeartbeats 1000000 in
theorem Zcs (cs:List Value) (x:Puzzle) (fp:List Nat) (v:Value) (s:List Int) (fs:List Nat) (w:World) (h:Rp.rep w cs x fp) (hs:Rd w v s fs) :
  Calls Tryz.prog 72 #[.agg cs.toArray,v] w fun e w'=>e = .returned (.bool (reachB x s))/\Only [] w w':=by
 have h0:=h
 obtain ⟨v2,rfl,p0,p1,h2⟩:=h
 obtain ⟨A2,C2,ob,fps,rfl,-,-⟩:=h2.open_
 rcases hq:stateB x s
 ·have hf:reachB x s = false:=by unfold reachB;rw [hq];rfl
  have Hf:=zH hf
  clear hf
  go_enter Tryz.func72,Tryz.ntmps72
  go_wp2_with (first
   | (go_at_call 66;(with_reducible refine (Zft [.int .i64 x.points,.string x.names,.slice A2 x.moves.length C2] x _ _ s _ _ (zK h0 zA) (zK hs zA)).mono ?_);rintro e w1 ⟨rfl,t1⟩;have y1:=t1.cells_eq w.heap.size (by simp) (by simp)) | fail)
  go_ret
  exact ⟨Zaa Hf.out.symm,zA⟩
 ·have hf:reachB x s = memB x.points.toNat x.moves s:=by unfold reachB;rw [hq];rfl
  have Hf:=zH hf
  obtain ⟨⟨n1,n20⟩,hml,hmp,hpn⟩:=Zam hq
  have Hmp:=zH hmp
  have Hpn:=zH hpn
  clear hf hmp hpn
  go_enter Tryz.func72,Tryz.ntmps72
  go_wp2_with (first
   | (go_at_call 66;(with_reducible refine (Zft [.int .i64 x.points,.string x.names,.slice A2 x.moves.length C2] x _ _ s _ _ (zK h0 zA) (zK hs zA)).mono ?_);rintro e w1 ⟨rfl,t1⟩;have y1:=t1.cells_eq w.heap.size (by simp) (by simp))
   | (go_at_call 134;(with_reducible refine (Zmd x.points n1 n20 _ x.moves _ _ (zK h2 zA) Hmp.out (by omega)).mono ?_);rintro en w3 ⟨L,gv,G,T,M,F,rfl,hoG,hoT,hC,hCh,t3⟩;have HC:=zH hC;have HCh:=zH hCh;have HoT:=zH hoT;clear hC hCh hoT hoG)
   | (go_at_call 135;(with_reducible refine (implHas0 HC.out HCh.out.inv.wf HoT.out (zK hs zA) Hpn.out).mono ?_);rintro en w4 ⟨he,t4⟩;rw [Zqm HCh.out (by omega) Hmp.out Hpn.out] at he;subst he) | fail)
  go_ret
  exact ⟨Zaa Hf.out.symm,zA⟩
end Go.Proofs.YthleokaeobdamaaGreat
