/- Maps from strings to truth values that a call makes. -/
import Derived.Test.YthleokaeobdamaaGreatRowTableSolverG9
import Derived.Test.YthleokaeobdamaaGreatRowTableSolverG8
import Derived.Test.YthleokaeobdamaaGreatRowTableSolverG3
import Derived.Deep.RegionLaw
import Derived.Test.YthleokaeobdamaaGreatRowTableSolverG7
import Derived.Test.YthleokaeobdamaaGreatRowTableSolverG4
import Derived.Test.YthleokaeobdamaaGreatRowTableSolverG6
import Derived.Shelf.SortM.Plain
import Derived.Sort.OwnSortedInts
import Derived.Test.YthleokaeobdamaaGreatRowTableSolverG5
import Derived.Test.YthleokaeobdamaaGreatRowTableSolverG1
import Derived.Test.YthleokaeobdamaaGreatRowTableSolverG2
namespace Go.Proofs.YthleokaeobdamaaGreat
open Go.RowKit
set_option maxRecDepth 10000
open Go.Maps (Keyed)
theorem Tryz.zeroBool (w:World):(zeroValue 4).run Tryz.prog w = .ok (.bool false) w:=by kernel_rfl
theorem Zii {P:Program} {e:TypeId} {H:Type} (he:P.underlying e = some .bool) {v:Value} {z:DataW H × List MemPlace} (h:plainElem P e v = some z):∃ a,v = .bool a/\z = (.lit (.bool a),[]):=by
 unfold plainElem at h
 rw [he] at h
 cases v <;> simp at h
 obtain rfl:=h
 exact ⟨_,rfl,rfl⟩
def MpB (w:World) (M k:Nat) (g:ByteArray->Bool):Prop:=
 ∃ D:DataW Unit,w.ownsMap Tryz.prog 9 (plainElem Tryz.prog 4) M k D/\∀ s:ByteArray,s.size<=maxLen ->
  D.atKey (.string s.data.toList) (.lit (.bool false)) = .lit (.bool (g s))
theorem MpB.lt {w:World} {M k:Nat} {g:ByteArray->Bool} (h:MpB w M k g):M < w.heap.size:=by
 obtain ⟨D,h1,-⟩:=h;exact h1.lt
theorem MpB.frame {w w':World} {M k:Nat} {g:ByteArray->Bool} (h:MpB w M k g) (hf:w'.heap[M]? = w.heap[M]?):MpB w' M k g:=by
 obtain ⟨D,⟨es,c,h1,h2⟩,h3⟩:=h
 exact ⟨D,⟨es,c,by rw [hf];exact h1,h2⟩,h3⟩
theorem MpB.only {w w':World} {fp:List Nat} {M k:Nat} {g:ByteArray->Bool} (h:MpB w M k g) (ho:Only fp w w') (hn:M ∉ fp):MpB w' M k g:=h.frame (ho.block M h.lt hn)
theorem MpB.keep {w w':World} {M k:Nat} {g:ByteArray->Bool} (h:MpB w M k g) (ho:Only [] w w'):MpB w' M k g:=h.only ho (by simp)
theorem MpB.made (w:World) {M:Nat} (hM:M = w.heap.size):MpB (w.alloc (.map #[] 0)) M 0 (fun _=>false):=by
 subst hM
 exact ⟨.map [],World.ownsMap_made _ _ _ _,fun s _=>rfl⟩
theorem MpB.congr {w:World} {M k:Nat} {g g':ByteArray->Bool} (h:MpB w M k g) (hg:∀ s,g s = g' s):MpB w M k g':=by
 have:g = g':=funext hg
 rw [<- this];exact h
section
variable {w:World} {M k:Nat} {g:ByteArray->Bool}
theorem MpB.run_at (h:MpB w M k g) {s:ByteArray} (hs:s.size<=maxLen):(Instr.lookup 219 (.map (some M)) (.string s) false).run Tryz.prog w = .ok (.bool (g s)) w:=by
 obtain ⟨D,hown,hg⟩:=h
 obtain ⟨v,ps,hrun,hv⟩:=hown.lookup Tryz.lawStr Tryz.underlying219 (Tryz.zeroBool w) (plainElem_bool Tryz.underlying4 false) (Go.WideMaps.keyOf_string_mk Tryz.underlying9 hs)
 obtain ⟨c,rfl,hc⟩:=Zii Tryz.underlying4 hv
 have hc1:=congrArg Prod.fst hc
 simp only at hc1
 rw [hg s hs] at hc1
 injection hc1 with hc1;injection hc1 with hc1
 rw [hrun,hc1]
theorem MpB.run_put (h:MpB w M k g) {s:ByteArray} (hs:s.size<=maxLen) (b:Bool) (hk:k < maxLen) :
  ∃ w',(Instr.mapUpdate 219 (.map (some M)) (.string s) (.bool b)).run Tryz.prog w = .ok () w'/\MpB w' M (k + 1) (fun s'=>if s' = s then b else g s')/\Only [M] w w':=by
 obtain ⟨D,hown,hg⟩:=h
 obtain ⟨w',hrun,r1,r2⟩:=hown.store Tryz.lawStr Tryz.underlying219 hk (Go.WideMaps.keyOf_string_mk Tryz.underlying9 hs) (plainElem_bool Tryz.underlying4 b)
 have hmap:=hown.isMap
 refine ⟨w',hrun,⟨_,r1,fun s' hs'=>?_⟩,?_⟩
 ·by_cases he:s' = s
  ·subst he
   have hkl:WideAt.IsKeyLit (Lit.string s'.data.toList):=trivial
   rw [Go.Maps.atKey_put_same hmap hkl];simp
  ·have hne:(Lit.string s'.data.toList) ≠ .string s.data.toList:=by
    intro e;injection e with e
    apply he
    have:s'.data = s.data:=Array.toList_inj.1 e
    cases s';cases s;simp at this;rw [this]
   rw [Go.Maps.atKey_put_other hne];simp [he];exact hg s' hs'
 ·exact zO.grown r2.grown (by intro j hj _;injection hj with hj;subst hj;simp)
end
theorem Acc.one {α:Type} [Rp α] {w:World} (B:Nat) (e:TypeId) {cs:List Value} {x:α} {fp:List Nat} (h:Rp.rep w cs x fp) {g:Nat} (hg:g = w.heap.size) (hB:B<=g):Acc B e (w.alloc (.cells cs.toArray e)) (.slice (some ⟨g,0,none⟩) 1 1) [x] [fp]:=by
 subst hg
 have hk:Only [] w (w.alloc (.cells cs.toArray e)):=zO.alloc _
 refine ⟨⟨[cs],⟨by simp [Rp.len h],.inr ⟨w.heap.size,1,cs.toArray,rfl,hB,heap_alloc_new w _,Nat.le_refl _,by unfold maxLen;omega,by simp [Rp.len h],by simpa using List.take_of_length_le (Nat.le_of_eq (Rp.len h))⟩⟩,rfl,fun k h1 h2 h3=>?_⟩,rfl,?_⟩
 ·have:k = 0:=by simpa using h1
  subst this
  exact zK h hk
 ·intro g hg hm
  simp only [Value.ownBlock,Option.some.injEq] at hg
  subst hg
  have:=Rp.lt h _ (by simpa using hm)
  omega
section
variable {P:Program} {α:Type} [Rp α] {ops:Array Oper} {rest:List Oper} {o:Oper} {a:Act} {w:World} {Q:Exit->Act->World->Prop}
theorem Zck (hgd:o.guard = none) (s x:Operand) (t:TypeId)
  (ho:o.op = .call { callee:=.builtin .append,args:=#[s,x],argTypes:=#[t,t] })
  (B:Nat) (e:TypeId) (i:TypeInfo) (z:Value) (bytes:Nat) (ht:P.underlying t = some (.slice e)) (hi:P.info? e = some i) (hz:i.zero = some z)
  (hsize:i.size = Rp.size α) (hby:i.bytes = bytes) (hzs:z.cells.size = Rp.size α) (hsz:0 < Rp.size α) (hbb:bytes<=65536)
  (w0:World) (v:Value) (l:List α) (fs:List (List Nat)) (hs:a.eval s = v) (hA:Acc B e w0 v l fs) (hK0:Only [] w0 w) (hB:B<=w0.heap.size)
  (g c:Nat) (cs:List Value) (y:α) (fp:List Nat) (hx:a.eval x = .slice (some ⟨g,0,none⟩) 1 c) (hsrc:∀ j u,cs[j]? = some u->w.cell? ⟨g,j,none⟩ = some u) (hcs:∀ u∈cs,u.oneCell' = true)
  (hy:Rp.rep w cs y fp) (hap:∀ b∈fp,v.ownBlock ≠ some b) (hlen:l.length + 1<=1073741824)
  (h:∀ v' w',Acc B e w' v' (l ++ [y]) (fs ++ [fp])->Only v.ownBlock.toList w w'->(∀ wz,Only [] wz w->wz.heap.size<=B->Only [] wz w') ->
   (Fresh B w0 fs.flatten->Fresh w0.heap.size w fp->Fresh B w' (fs ++ [fp]).flatten)->(v'.ownBlock = v.ownBlock\/v'.ownBlock = some w.heap.size)->wpList P ops Q rest (a.put o.dst v') w'):wpList P ops Q (o :: rest) a w:=
 wpList_plain hgd fun _ hK=>Zei s x t ho B e i z bytes ht hi hz hsize hby hzs hsz hbb w0 v l fs hs hA hK0 hB g c cs y fp hx hsrc hcs hy hap hlen fun v' w' h1 h2 h3 h4 h5=>hK _ _ (h v' w' h1 h2 h3 h4 h5)
end
theorem Zrs {n:Int} {m:Nat} {p q:List Int} (hn:n<=256) (hp:patB n m p = true) (hq:patB n m q = true):kB p = kB q ↔ p = q:=
 kB_eq (fun x hx=>by have:=(Zaz.1 hp).2.1 x hx;omega) (fun x hx=>by have:=(Zaz.1 hq).2.1 x hx;omega)
def metB (L:List (List Int)) (s:ByteArray):Bool:=L.any fun q=>decide (kB q = s)
theorem Znf (L:List (List Int)) (q:List Int) (s:ByteArray):(if s = kB q then true else metB L s) = metB (L ++ [q]) s:=by
 unfold metB
 rw [List.any_append]
 by_cases h:s = kB q
 ·subst h;simp
 ·have h':¬ kB q = s:=fun e=>h e.symm
  simp [h,h']
theorem Zuc {n:Int} {m:Nat} {L:List (List Int)} {q:List Int} (hn:n<=256) (hL:∀ p∈L,patB n m p = true) (hq:patB n m q = true):metB L (kB q) = decide (q∈L):=by
 unfold metB
 rw [Bool.eq_iff_iff,List.any_eq_true]
 simp only [decide_eq_true_eq]
 constructor
 ·rintro ⟨p,h1,h2⟩
  rw [(Zrs hn (hL p h1) hq).1 h2] at h1
  exact h1
 ·intro h;exact ⟨q,h,rfl⟩
structure PBf (x:Puzzle) (m:Nat) (w:World) (m1:Nat) (W:World) (M:Nat) (L:List (List Int)) (D:List Int) (wr:World) (v1 v2:Value) (fs fd:List (List Nat)):Prop where
 acc:Acc w.heap.size 27 wr v1 L fs
 dep:Acc w.heap.size 2 wr v2 D fd
 fr:Fresh w.heap.size wr fs.flatten
 mp:MpB wr M L.length (metB L)
 dl:D.length = L.length
 ll:L.length<=3000
 pat:∀ q∈L,patB x.points m q = true
 rng:∀ d∈D,0<=d/\d<=D.length
 a2:∀ g,v2.ownBlock = some g->v1.ownBlock ≠ some g/\g ∉ fs.flatten/\g ≠ M
 a1:v1.ownBlock ≠ some M/\M ∉ fs.flatten
 zone:∀ g,(g = M\/v1.ownBlock = some g\/v2.ownBlock = some g)->(w.heap.size<=g/\g < m1)\/W.heap.size<=g
 keep:∀ g,(g < w.heap.size\/(m1<=g/\g < W.heap.size))->wr.heap[g]? = W.heap[g]?
 on:Only [] w wr
 sz:W.heap.size<=wr.heap.size
 mw:w.heap.size<=m1/\m1<=W.heap.size
section
variable {x:Puzzle} {m:Nat} {w:World} {m1:Nat} {W:World} {M:Nat} {L:List (List Int)} {D:List Int} {wr:World} {v1 v2:Value} {fs fd:List (List Nat)}
theorem PBf.only {wr':World} (h:PBf x m w m1 W M L D wr v1 v2 fs fd) (ho:Only [] wr wr'):PBf x m w m1 W M L D wr' v1 v2 fs fd:=
 ⟨h.acc.keep ho,h.dep.keep ho,h.fr.keep ho,h.mp.keep ho,h.dl,h.ll,h.pat,h.rng,h.a2,h.a1,h.zone,fun g hg=>by
  have hz:=h.sz;have hw:=h.mw
  rw [ho.block g (by omega) (by simp)];exact h.keep g hg,h.on.trans ho,Nat.le_trans h.sz ho.size,h.mw⟩
theorem PBf.start {W5:World} (h:PBf x m w m1 W M L D wr v1 v2 fs fd) (ho:Only [] wr W5):PBf x m w wr.heap.size W5 M L D W5 v1 v2 fs fd:=by
 have hw:=h.mw;have hz:=h.sz
 refine ⟨h.acc.keep ho,h.dep.keep ho,h.fr.keep ho,h.mp.keep ho,h.dl,h.ll,h.pat,h.rng,h.a2,h.a1,fun g hg=>.inl ?_,fun g _=>rfl,h.on.trans ho,Nat.le_refl _,by omega,ho.size⟩
 have h1:=h.zone g hg
 refine ⟨by omega,?_⟩
 rcases hg with rfl | hg | hg
 ·exact h.mp.lt
 ·exact (h.acc.ownlt g hg).2
 ·exact (h.dep.ownlt g hg).2
theorem PBf.fd0 (h:PBf x m w m1 W M L D wr v1 v2 fs fd):fd.flatten = []:=by
 obtain ⟨css,ho,hcl,hr⟩:=h.dep.own
 have hl:=h.dep.fl
 have:fd = List.replicate fd.length []:=by
  apply List.ext_getElem (by simp)
  intro k h1 h2
  have:=(hr k (by omega) (by omega) h1).2.2
  simpa using this
 rw [this];exact flatten_nil _
theorem PBf.step {wp wa wb wc wd:World} {v1' v2':Value} {s:List Int} {d:Int} {f:List Nat}
  (h:PBf x m w m1 W M L D wr v1 v2 fs fd) (hL:L.length < 3000) (hp:patB x.points m s = true) (hd:0<=d/\d<=D.length + 1)
  (hm:MpB wp M (L.length + 1) (metB (L ++ [s]))) (ho:Only [M] wr wp)
  (ka:Only [] wp wa) (hA:Acc w.heap.size 27 wb v1' (L ++ [s]) (fs ++ [f])) (oA:Only v1.ownBlock.toList wa wb) (nA:v1'.ownBlock = v1.ownBlock\/v1'.ownBlock = some wa.heap.size) (hF:Fresh w.heap.size wb (fs ++ [f]).flatten) (hfM:M ∉ f) (hf2:∀ g∈f,wr.heap.size<=g\/v2.ownBlock ≠ some g)
  (kc:Only [] wb wc) (hD:Acc w.heap.size 2 wd v2' (D ++ [d]) (fd ++ [[]])) (oD:Only v2.ownBlock.toList wc wd) (nD:v2'.ownBlock = v2.ownBlock\/v2'.ownBlock = some wc.heap.size) :
  PBf x m w m1 W M (L ++ [s]) (D ++ [d]) wd v1' v2' (fs ++ [f]) (fd ++ [[]]):=by
 have s1:=ho.size;have s2:=ka.size;have s3:=oA.size;have s4:=kc.size;have s5:=oD.size
 have hz:=h.sz;have hw:=h.mw
 have hMl:=h.mp.lt
 have l1:=h.acc.ownlt
 have l2:=h.dep.ownlt
 have hfl:=h.fr.lt
 have hff:(fs ++ [f]).flatten = fs.flatten ++ f:=by simp
 have hfs:∀ g,v2.ownBlock = some g->g ∉ (fs ++ [f]).flatten:=fun g hg hm=>by
  rw [hff] at hm
  rcases List.mem_append.1 hm with hm | hm
  ·exact (h.a2 g hg).2.1 hm
  ·have:=l2 g hg
   rcases hf2 g hm with h3 | h3
   ·omega
   ·exact h3 hg
 have hv12:∀ g,v2.ownBlock = some g->v1'.ownBlock ≠ some g:=fun g hg he=>by
  rcases nA with h3 | h3
  ·exact (h.a2 g hg).1 (by rw [<- h3];exact he)
  ·rw [h3] at he;injection he with he;have:=l2 g hg;omega
 have hmM:∀ g,v1.ownBlock = some g->g ≠ M:=fun g hg e=>h.a1.1 (by rw [hg,e])
 have hM1:v1'.ownBlock ≠ some M:=fun he=>by
  rcases nA with h3 | h3
  ·exact h.a1.1 (by rw [<- h3];exact he)
  ·rw [h3] at he;injection he with he;omega
 have hM1':M ∉ v1.ownBlock.toList:=by simpa using h.a1.1
 have hM2':M ∉ v2.ownBlock.toList:=by simp;intro he;exact (h.a2 M he).2.2 rfl
 have hN:∀ g,v1'.ownBlock = some g->v1.ownBlock = some g\/W.heap.size<=g:=fun g hg=>by
  rcases nA with h3 | h3
  ·exact .inl (by rw [<- h3];exact hg)
  ·rw [h3] at hg;injection hg with hg;right;omega
 have hN2:∀ g,v2'.ownBlock = some g->v2.ownBlock = some g\/wb.heap.size<=g:=fun g hg=>by
  rcases nD with h3 | h3
  ·exact .inl (by rw [<- h3];exact hg)
  ·rw [h3] at hg;injection hg with hg;right;omega
 have hko:Only (M :: (v1.ownBlock.toList ++ v2.ownBlock.toList)) wr wd:=
  ((((ho.mono (by simp)).keepThen ka).then_ oA (by intro b hb _;simp at hb ⊢;simp [hb])).keepThen kc).then_ oD (by intro b hb _;simp at hb ⊢;simp [hb])
 refine ⟨hA.only (kc.weaken _ |>.trans oD) (fun b hb hm=>hfs b (by simpa using hm) hb) (fun g hg hm=>hv12 g (by simpa using hm) hg),hD,
  hF.only (kc.weaken _ |>.trans oD) (fun b hb hm=>hfs b (by simpa using hm) hb),
  by simpa using ((((hm.keep ka).only oA hM1').keep kc).only oD hM2'),by simp [h.dl],by simp;omega,?_,?_,?_,⟨hM1,?_⟩,?_,fun g hg=>?_,?_,by omega,h.mw⟩
 ·intro q hq
  rcases List.mem_append.1 hq with hq | hq
  ·exact h.pat q hq
  ·simp at hq;subst hq;exact hp
 ·intro q hq
  rw [List.length_append,List.length_singleton]
  rcases List.mem_append.1 hq with hq | hq
  ·have:=h.rng q hq;omega
  ·simp at hq;subst hq;omega
 ·intro g hg
  rcases hN2 g hg with h3 | h3
  ·exact ⟨hv12 g h3,hfs g h3,(h.a2 g h3).2.2⟩
  ·refine ⟨fun he=>?_,fun hm=>?_,by omega⟩
   ·have:=(hA.ownlt g he).2;omega
   ·have:=hF.lt g hm;omega
 ·rw [hff];intro hm
  rcases List.mem_append.1 hm with hm | hm
  ·exact h.a1.2 hm
  ·exact hfM hm
 ·rintro g (rfl | hg | hg)
  ·exact h.zone _ (.inl rfl)
  ·rcases hN g hg with h3 | h3
   ·exact h.zone g (.inr (.inl h3))
   ·exact .inr h3
  ·rcases hN2 g hg with h3 | h3
   ·exact h.zone g (.inr (.inr h3))
   ·right;omega
 ·rw [hko.block g (by omega) (fun hm=>?_)]
  ·exact h.keep g hg
  ·simp only [List.mem_cons,List.mem_append,Option.mem_toList] at hm
   have:=h.zone g (by rcases hm with hm | hm | hm;exact .inl hm;exact .inr (.inl hm);exact .inr (.inr hm))
   omega
 ·refine h.on.then_ hko (fun g hm hg=>?_)
  simp only [List.mem_cons,List.mem_append,Option.mem_toList] at hm
  have:=h.zone g (by rcases hm with hm | hm | hm;exact .inl hm;exact .inr (.inl hm);exact .inr (.inr hm))
  omega
theorem PBf.out (h:PBf x m w m1 W M L D wr v1 v2 fs fd):Rd wr v1 L (v1.ownBlock.toList ++ fs.flatten)/\Rd wr v2 D v2.ownBlock.toList/\Fresh w.heap.size wr ((v1.ownBlock.toList ++ fs.flatten) ++ v2.ownBlock.toList):=by
 have h0:=h.fd0
 have h2:=h.dep.rd (by decide)
 rw [h0,List.append_nil] at h2
 have hf1:=h.acc.fresh h.fr
 have hf2:=h.dep.fresh (by rw [h0];exact Fresh.nil _ _)
 rw [h0,List.append_nil] at hf2
 refine ⟨h.acc.rd (by decide),h2,List.nodup_append.2 ⟨hf1.nd,hf2.nd,fun a ha b hb e=>?_⟩,fun b hb=>?_,hf1.own.append hf2.own⟩
 ·subst e
  have hb':v2.ownBlock = some a:=by simpa using hb
  rcases List.mem_append.1 ha with ha | ha
  ·exact (h.a2 a hb').1 (by simpa using ha)
  ·exact (h.a2 a hb').2.1 ha
 ·rcases List.mem_append.1 hb with hb | hb
  ·exact hf1.ge b hb
  ·exact hf2.ge b hb
theorem PBf.old (h:PBf x m w m1 W M L D wr v1 v2 fs fd) {β:Type} [Rp β] {cs:List Value} {y:β} {fp:List Nat} (hr:Rp.rep W cs y fp) (hf:∀ g∈fp,g < w.heap.size\/(m1<=g/\g < W.heap.size)):Rp.rep wr cs y fp:=
 Rp.frame hr fun g hg=>h.keep g (hf g hg)
end
theorem Ziy {P:Program} {α:Type} [Rp α] {ops:Array Oper} {o:Oper} {a:Act} {w:World} {Q:Exit->Act->World->Prop} {K:Act->World->Prop} {E:Prop} (hgd:o.guard = none) (s x:Operand) (t:TypeId)
  (ho:o.op = .call { callee:=.builtin .append,args:=#[s,x],argTypes:=#[t,t] })
  (B:Nat) (e:TypeId) (i:TypeInfo) (z:Value) (bytes:Nat) (ht:P.underlying t = some (.slice e)) (hi:P.info? e = some i) (hz:i.zero = some z)
  (hsize:i.size = Rp.size α) (hby:i.bytes = bytes) (hzs:z.cells.size = Rp.size α) (hsz:0 < Rp.size α) (hbb:bytes<=65536)
  (w0:World) (v:Value) (l:List α) (fs:List (List Nat)) (hs:a.eval s = v) (hA:Acc B e w0 v l fs) (hK0:Only [] w0 w) (hB:B<=w0.heap.size)
  (g c:Nat) (cs:List Value) (y:α) (fp:List Nat) (hx:a.eval x = .slice (some ⟨g,0,none⟩) 1 c) (hsrc:∀ j u,cs[j]? = some u->w.cell? ⟨g,j,none⟩ = some u) (hcs:∀ u∈cs,u.oneCell' = true)
  (hy:Rp.rep w cs y fp) (hap:∀ b∈fp,v.ownBlock ≠ some b) (hlen:l.length + 1<=1073741824)
  (h:∀ v' w',Acc B e w' v' (l ++ [y]) (fs ++ [fp])->Only v.ownBlock.toList w w'->(v'.ownBlock = v.ownBlock\/v'.ownBlock = some w.heap.size)->K (a.put o.dst v') w'):if Region.wanted o (yielded ops a.tmps) = true then Oper.wp P o a w K Q else E:=by
 rw [if_pos (by simp [Region.wanted,hgd])]
 exact Zei s x t ho B e i z bytes ht hi hz hsize hby hzs hsz hbb w0 v l fs hs hA hK0 hB g c cs y fp hx hsrc hcs hy hap hlen fun v' w' h1 h2 _ _ h5=>h v' w' h1 h2 h5
theorem Acc.flat0 {B:Nat} {e:TypeId} {w:World} {v:Value} {l:List Int} {fs:List (List Nat)} (h:Acc B e w v l fs):fs.flatten = []:=by
 obtain ⟨css,ho,hcl,hr⟩:=h.own
 have hl:=h.fl
 have:fs = List.replicate fs.length []:=by
  apply List.ext_getElem (by simp)
  intro k h1 h2
  have:=(hr k (by omega) (by omega) h1).2.2
  simpa using this
 rw [this];exact flatten_nil _
def AccI (B:Nat) (e:TypeId) (w:World) (v:Value) (l:List Int):Prop:=∃ fs,Acc B e w v l fs
section
variable {w w':World} {B:Nat} {e:TypeId} {v:Value} {l:List Int}
theorem AccI.only {fp:List Nat} (h:AccI B e w v l) (ho:Only fp w w') (hv:∀ g,v.ownBlock = some g->g ∉ fp):AccI B e w' v l:=by
 obtain ⟨fs,h⟩:=h
 exact ⟨fs,h.only ho (by rw [h.flat0];simp) hv⟩
theorem AccI.keep (h:AccI B e w v l) (ho:Only [] w w'):AccI B e w' v l:=h.only ho (by simp)
theorem AccI.form (h:AccI B e w v l):∃ a c,v = .slice a l.length c:=by
 obtain ⟨fs,h⟩:=h;exact h.form
theorem AccI.rd (h:AccI B e w v l):Rd w v l v.ownBlock.toList:=by
 obtain ⟨fs,h⟩:=h
 have:=h.rd (by decide)
 rwa [h.flat0,List.append_nil] at this
theorem AccI.fresh (h:AccI B e w v l):Fresh B w v.ownBlock.toList:=by
 obtain ⟨fs,h⟩:=h
 have:=h.fresh (by rw [h.flat0];exact Fresh.nil _ _)
 rwa [h.flat0,List.append_nil] at this
theorem AccI.ownlt (h:AccI B e w v l):∀ g,v.ownBlock = some g->B<=g/\g < w.heap.size:=by
 obtain ⟨fs,h⟩:=h;exact h.ownlt
theorem AccI.nil (w:World) (B:Nat) (e:TypeId):AccI B e w (.slice none 0 0) []:=⟨[],Acc.nil w B e⟩
theorem AccI.made (w:World) (B:Nat) (e:TypeId) {g:Nat} (hg:g = w.heap.size) (hB:B<=g):AccI B e (w.alloc (.cells #[] e)) (.slice (some ⟨g,0,none⟩) 0 0) []:=⟨[],Acc.made w B e hg hB⟩
theorem AccI.one {n:Int} (hn:I64 n) (w:World) (B:Nat) (e:TypeId) {g:Nat} (hg:g = w.heap.size) (hB:B<=g):AccI B e (w.alloc (.cells #[.int .i64 n] e)) (.slice (some ⟨g,0,none⟩) 1 1) [n]:=
 ⟨[[]],Acc.one (cs:=[.int .i64 n]) B e (int_rd w hn) hg hB⟩
end
section
variable {P:Program} {ops:Array Oper} {rest:List Oper} {o:Oper} {a:Act} {w:World} {Q:Exit->Act->World->Prop} {K:Act->World->Prop}
theorem Zbi (hgd:o.guard = none) (s x:Operand) (t:TypeId)
  (ho:o.op = .call { callee:=.builtin .append,args:=#[s,x],argTypes:=#[t,t] })
  (B:Nat) (e:TypeId) (i:TypeInfo) (z:Value) (ht:P.underlying t = some (.slice e)) (hi:P.info? e = some i) (hz:i.zero = some z)
  (hsize:i.size = 1) (hby:i.bytes = 8) (hzs:z.cells.size = 1)
  (w0:World) (v:Value) (l:List Int) (hs:a.eval s = v) (hA:AccI B e w0 v l) (hK0:Only [] w0 w) (hB:B<=w0.heap.size)
  (g c:Nat) (n:Int) (hx:a.eval x = .slice (some ⟨g,0,none⟩) 1 c) (hsrc:w.cell? ⟨g,0,none⟩ = some (.int .i64 n)) (hn:I64 n) (hlen:l.length + 1<=1073741824)
  (h:∀ v' w',AccI B e w' v' (l ++ [n])->Only v.ownBlock.toList w w'->(∀ wz,Only [] wz w->wz.heap.size<=B->Only [] wz w')->(v'.ownBlock = v.ownBlock\/v'.ownBlock = some w.heap.size)->wpList P ops Q rest (a.put o.dst v') w'):wpList P ops Q (o :: rest) a w:=by
 obtain ⟨fs,hA⟩:=hA
 refine Zck (α:=Int) hgd s x t ho B e i z 8 ht hi hz hsize hby hzs (by decide) (by decide) w0 v l fs hs hA hK0 hB g c [.int .i64 n] n [] hx ?_ (by intro u hu;simp at hu;subst hu;rfl) (int_rd w hn) (by simp) hlen fun v' w' h1 h2 h3 _ h5=>h v' w' ⟨_,h1⟩ h2 h3 h5
 intro j u hu
 cases j with
 | zero=>simp at hu;subst hu;exact hsrc
 | succ j=>simp at hu
theorem Zey {E:Prop} (hgd:o.guard = none) (s x:Operand) (t:TypeId)
  (ho:o.op = .call { callee:=.builtin .append,args:=#[s,x],argTypes:=#[t,t] })
  (B:Nat) (e:TypeId) (i:TypeInfo) (z:Value) (ht:P.underlying t = some (.slice e)) (hi:P.info? e = some i) (hz:i.zero = some z)
  (hsize:i.size = 1) (hby:i.bytes = 8) (hzs:z.cells.size = 1)
  (w0:World) (v:Value) (l:List Int) (hs:a.eval s = v) (hA:AccI B e w0 v l) (hK0:Only [] w0 w) (hB:B<=w0.heap.size)
  (g c:Nat) (n:Int) (hx:a.eval x = .slice (some ⟨g,0,none⟩) 1 c) (hsrc:w.cell? ⟨g,0,none⟩ = some (.int .i64 n)) (hn:I64 n) (hlen:l.length + 1<=1073741824)
  (h:∀ v' w',AccI B e w' v' (l ++ [n])->Only v.ownBlock.toList w w'->(v'.ownBlock = v.ownBlock\/v'.ownBlock = some w.heap.size)->K (a.put o.dst v') w'):if Region.wanted o (yielded ops a.tmps) = true then Oper.wp P o a w K Q else E:=by
 obtain ⟨fs,hA⟩:=hA
 refine Ziy (α:=Int) hgd s x t ho B e i z 8 ht hi hz hsize hby hzs (by decide) (by decide) w0 v l fs hs hA hK0 hB g c [.int .i64 n] n [] hx ?_ (by intro u hu;simp at hu;subst hu;rfl) (int_rd w hn) (by simp) hlen fun v' w' h1 h2 h5=>h v' w' ⟨_,h1⟩ h2 h5
 intro j u hu
 cases j with
 | zero=>simp at hu;subst hu;exact hsrc
 | succ j=>simp at hu
end
theorem lit1 (w:World) (u:Value) (e:TypeId) {g:Nat} (hg:g = w.heap.size):(w.alloc (.cells #[u] e)).cell? ⟨g,0,none⟩ = some u:=lit_src w [u] e hg 0 u rfl
theorem Zga {v' v:Value} {w:World} {b:Nat} (hN:v'.ownBlock = v.ownBlock\/v'.ownBlock = some w.heap.size) (h1:v.ownBlock ≠ some b) (h2:b < w.heap.size):v'.ownBlock ≠ some b:=by
 rcases hN with e | e
 ·rw [e];exact h1
 ·rw [e];intro h;injection h with h;omega
structure AccG (w W:World) (G:List Nat) (e:TypeId) (wr:World) (o:Value) (l:List Int):Prop where
 acc:AccI w.heap.size e wr o l
 on:Only [] w wr
 kp:∀ b∈G,wr.heap[b]? = W.heap[b]?
 ga:∀ b∈G,o.ownBlock ≠ some b
 gl:∀ b∈G,b < wr.heap.size
section
variable {w W wr w' wa wb:World} {G:List Nat} {e:TypeId} {o o':Value} {l:List Int} {n:Int}
theorem AccG.keep (h:AccG w W G e wr o l) (ho:Only [] wr w'):AccG w W G e w' o l:=
 ⟨h.acc.keep ho,h.on.trans ho,fun b hb=>(ho.block b (h.gl b hb) (by simp)).trans (h.kp b hb),h.ga,fun b hb=>Nat.lt_of_lt_of_le (h.gl b hb) ho.size⟩
theorem AccG.push (h:AccG w W G e wa o l) (hA:AccI w.heap.size e wb o' (l ++ [n])) (oA:Only o.ownBlock.toList wa wb) (hP:∀ wz,Only [] wz wa->wz.heap.size<=w.heap.size->Only [] wz wb) (nA:o'.ownBlock = o.ownBlock\/o'.ownBlock = some wa.heap.size):AccG w W G e wb o' (l ++ [n]):=
 ⟨hA,hP w h.on (Nat.le_refl _),fun b hb=>(oA.block b (h.gl b hb) (fun hm=>h.ga b hb (by simpa using hm))).trans (h.kp b hb),fun b hb=>Zga nA (h.ga b hb) (h.gl b hb),fun b hb=>Nat.lt_of_lt_of_le (h.gl b hb) oA.size⟩
end
theorem Zfv (l:List Int):(l.map fun x=>[Value.int .i64 x]).flatten = l.map (Value.int .i64):=by
 induction l with
 | nil=>rfl
 | cons x l ih=>simp only [List.map_cons,List.flatten_cons,ih,List.cons_append,List.nil_append]
theorem AccI.row {B:Nat} {e:TypeId} {w:World} {v:Value} {l:List Int} (h:AccI B e w v l):w.ownsRow B e 1 v l.length (l.map (Value.int .i64))/\∀ x∈l,I64 x:=by
 obtain ⟨fs,h⟩:=h
 obtain ⟨css,ho,hcl,hr⟩:=h.own
 have hfl:=h.fl
 have hc:css = l.map fun x=>[Value.int .i64 x]:=by
  apply List.ext_getElem (by simp [hcl])
  intro k h1 h2
  have hk:k < l.length:=by omega
  have:=(hr k h1 hk (by omega)).1
  rw [this];simp
 refine ⟨?_,fun x hx=>?_⟩
 ·rw [hc,Zfv] at ho;exact ho
 ·obtain ⟨k,hk,rfl⟩:=List.getElem_of_mem hx
  exact (hr k (by omega) hk (by omega)).2.1
theorem AccI.ofRow {B:Nat} {e:TypeId} {w:World} {v:Value} {l:List Int} (h:w.ownsRow B e 1 v l.length (l.map (Value.int .i64))) (hI:∀ x∈l,I64 x):AccI B e w v l:=by
 have hf:∀ n:Nat,(List.replicate n ([]:List Nat)).flatten = []:=fun n=>by induction n with | zero=>rfl | succ n ih=>simp [List.replicate_succ,ih]
 refine ⟨List.replicate l.length [],⟨l.map fun x=>[Value.int .i64 x],?_,by simp,fun k h1 h2 h3=>?_⟩,by simp,fun g _=>by rw [hf];simp⟩
 ·rw [Zfv];exact h
 ·exact ⟨by simp,hI _ (List.getElem_mem h2),by simp⟩
theorem AccI.put {B:Nat} {e:TypeId} {w:World} {v:Value} {l:List Int} (h:AccI B e w v l) {i:Nat} (hi:i < l.length) {x:Int} (hx:I64 x) :
  ∃ g c,v = .slice (some ⟨g,0,none⟩) l.length c/\w.cell? ⟨g,i,none⟩ = some (.int .i64 l[i])/\w.frozen? ⟨g,i,none⟩ = false/\B<=g/\AccI B e (w.setCell ⟨g,i,none⟩ (.int .i64 x)) v (l.set i x):=by
 obtain ⟨hO,hw⟩:=h.row
 obtain ⟨g,cap,rfl,hb,hlt⟩:=hO.form (by omega)
 obtain ⟨hO2,-⟩:=hO.stored i (.int .i64 x)
 refine ⟨g,cap,rfl,?_,hO.frozenAt i,hb,AccI.ofRow ?_ ?_⟩
 ·rw [hO.cellAt i (by omega)];simp [hi]
 ·rw [List.length_set,List.map_set];exact hO2
 ·intro y hy
  rcases List.mem_or_eq_of_mem_set hy with h1 | rfl
  ·exact hw y h1
  ·exact hx
def below (v:Int):List Int->Nat
 | []=>0
 | x :: l=>if x < v then below v l + 1 else 0
theorem Zqw (v:Value) (l:List Int) (fp:List Nat) (w:World) (h:Rd w v l fp) (hl:l.length<=1073741824) :
  Calls Tryz.prog 100 #[v] w fun e w'=>∃ v,e = .returned v/\AccI w.heap.size 2 w' v l/\Only [] w w':=by
 obtain ⟨a,cap,rfl,hI⟩:=h.ints
 obtain ⟨i0,hi,hz0,hz1,hz2⟩:=info_parts Tryz.info2
 obtain ⟨q1,q2⟩:=Zdl (hI.keep ((Only.refl _ w).alloc (.cells #[] 2)))
 go_enter Tryz.func100,Tryz.ntmps100
 go_wp2_with (at_builtin;refine Zbx _ rfl _ _ 27 rfl w.heap.size 2 i0 _ 1 8 Tryz.underlying27 hi hz0 hz1 hz2 rfl (by omega) (.slice (some ⟨w.heap.size,0,none⟩) 0 0) 0 [] rfl (World.ownsRow_made w #[] 0 (Nat.le_refl _) (by unfold maxLen;omega) rfl) a l.length cap (l.map (Value.int .i64)) rfl (by simp) q1 q2 (Zef l) (by unfold maxLen;omega) (by omega) (by simp) ?_;intro v1 w1 hO hg hb)
 rw [Nat.zero_add,List.nil_append] at hO
 have hK:Only [] w w1:=(zO.alloc _).grown hg (by simp [Value.ownBlock])
 have hA:AccI w.heap.size 2 w1 v1 l:=AccI.ofRow hO hI.wf
 have HA:=zH hA
 clear hO hg hb q1 q2 hA
 go_wp2
 go_ret
 exact ⟨_,rfl,HA.out,hK⟩
def Met16.ok (m:Nat) (s:Met16):Prop:=s.1.length = s.2.length/\s.1.length<=3000/\∀ q∈s.1,q.length = m
theorem Ztr {m:Nat} {s s':Met16} {d:Int} {y:List Int} (h:bMeet s d y = some s') (hs:s.ok m) (hy:y.length = m):s'.ok m:=by
 obtain ⟨a,b,-⟩:=Znm h hs.1 hs.2.1
 refine ⟨a,b,fun q hq=>?_⟩
 unfold bMeet at h
 split at h
 ·injection h with h;subst h;exact hs.2.2 q hq
 ·split at h
  ·cases h
  ·injection h with h;subst h
   rcases List.mem_append.1 hq with hq | hq
   ·exact hs.2.2 q hq
   ·simp at hq;subst hq;exact hy
theorem Zpm {x:Puzzle} {m:Nat} {q:List Int} {d:Int} (hq:q.length = m):∀ {ls:List Int} {s s':Met16},bLets x q d ls s = some s'->s.ok m->s'.ok m
 | [],s,s',h,hs=>by unfold bLets at h;injection h with h;subst h;exact hs
 | l :: ls,s,s',h,hs=>by
  unfold bLets at h
  rw [Option.bind_eq_some_iff] at h
  obtain ⟨s1,e1,e2⟩:=h
  exact Zpm hq e2 (Ztr e1 hs (by unfold nxt;rw [PM.Zak];exact hq))
theorem Zpx {x:Puzzle} {m:Nat}:∀ {n k:Nat} {s s':Met16},bFrom x n k s = some s'->s.ok m->s'.ok m
 | 0,_,s,s',h,hs=>by unfold bFrom at h;injection h with h;subst h;exact hs
 | n + 1,k,s,s',h,hs=>by
  unfold bFrom at h
  split at h
  ·rename_i hk
   rw [Option.bind_eq_some_iff] at h
   obtain ⟨s1,e1,e2⟩:=h
   refine Zpx e2 (Zpm ?_ e1 hs)
   rw [List.getD_eq_getElem?_getD,List.getElem?_eq_getElem hk]
   exact hs.2.2 _ (List.getElem_mem hk)
  ·injection h with h;subst h;exact hs
theorem Zhn {x:Puzzle} {tr:List Int} {t:Table} (h:bTab x tr = some t):validPz x = true/\trackB x.points tr = true/\t.tracked = tr/\bfs16 x tr = some (t.patterns,t.distances)/\Met16.ok tr.length (t.patterns,t.distances):=by
 unfold bTab at h
 rcases hb:bfs16 x tr with _ | s
 ·rw [hb] at h;cases h
 ·rw [hb] at h
  injection h with h
  subst h
  rcases hq:validPz x && trackB x.points tr
  ·rw [Zhk hq] at hb;cases hb
  ·obtain ⟨q1,q2⟩:=(Bool.and_eq_true _ _).mp hq
   refine ⟨q1,q2,rfl,rfl,?_⟩
   rw [Zek hq] at hb
   exact Zpx hb ⟨rfl,by simp,by simp⟩
theorem Ztn {l:List (List Int)} {p:List Int} (h:0<=idxL l p):p∈l/\(idxL l p).toNat < l.length:=by
 rcases Zeg (fun q=>decide (q = p)) l with h1 | ⟨k,hk,h1,h2⟩
 ·unfold idxL at h;omega
 ·have:l[k] = p:=of_decide_eq_true h2
  unfold idxL
  rw [h1]
  exact ⟨by rw [<- this];exact List.getElem_mem hk,by simpa using hk⟩
def dK (x:Puzzle) (t:Table) (p:List Int) (d:Int):Int:=idxF (leads x t p d) (ltrs x.moves.length)
theorem Zre {x:Puzzle} {t:Table} {p:List Int} {d:Int}:(dK x t p d = -1/\descL x t p d = 0)\/∃ k:Nat,∃ h:k < (ltrs x.moves.length).length,dK x t p d = k/\descL x t p d = (ltrs x.moves.length)[k]:=by
 unfold dK descL idxF
 cases hf:(ltrs x.moves.length).findIdx? (leads x t p d) with
 | none=>
  left
  rw [List.findIdx?_eq_none_iff] at hf
  rw [List.find?_eq_none.2 (fun a ha=>by simp [hf a ha])]
  exact ⟨rfl,rfl⟩
 | some k=>
  right
  obtain ⟨hk,hp,hlt⟩:=List.findIdx?_eq_some_iff_getElem.1 hf
  refine ⟨k,hk,rfl,?_⟩
  rw [List.find?_eq_some_iff_getElem.2 ⟨hp,k,hk,rfl,fun i hi=>by simpa using hlt i hi⟩]
  rfl
theorem Zia {α:Type} (l:List α) (a z:α):(l ++ [a]).getD l.length z = a:=by
 simp [List.getD_eq_getElem?_getD]
theorem Zag {α:Type} {l:List α} {z:α} {k:Nat} (h:k < l.length):l.getD k z = l[k]:=by
 rw [List.getD_eq_getElem?_getD,List.getElem?_eq_getElem h];rfl
theorem Zfm {α:Type} {l:List α} (h:l.Nodup) {i j:Nat} (hi:i < l.length) (hj:j < l.length) (e:l[i] = l[j]):i = j:=by
 rcases Nat.lt_trichotomy i j with h1 | h1 | h1
 ·exact absurd e (List.pairwise_iff_getElem.1 h i j hi hj h1)
 ·exact h1
 ·exact absurd e.symm (List.pairwise_iff_getElem.1 h j i hj hi h1)
theorem Zps {n:Nat} {l:Int} (h:l∈ltrs n):-l∈ltrs n:=by
 rw [Zaw] at h ⊢;omega
theorem mv_opp {n:Nat} {gens:List (List Int)} (hg:∀ g∈gens,PM.PN n g) {l:Int} (h:l∈ltrs gens.length):mv gens (-l) = PM.inv (mv gens l):=by
 rcases Zca h with ⟨k,hk,rfl⟩ | ⟨k,hk,rfl⟩
 ·rw [mv_pos rfl hk,mv_neg (k:=k) rfl hk]
 ·rw [mv_neg rfl hk,mv_pos (k:=k) (by omega) hk,PM.inv_inv (hg _ (List.getElem_mem hk))]
theorem Zjl {x:Puzzle} {k:Nat} {q:List Int} {l:Int} (hv:validPz x = true) (hq:patB x.points k q = true) (h:l∈ltrs x.moves.length):nxt x (nxt x q l) (-l) = q:=by
 have hg:=Zbw hv
 have hm:=mv_pn hg h
 have hf:=Zad hv
 have hr:=(Zaz.1 hq).2.1
 unfold nxt
 rw [mv_opp hg h]
 show (q.map (PM.at_ (mv x.moves l))).map (PM.at_ (PM.inv (mv x.moves l))) = q
 rw [List.map_map]
 refine (List.map_congr_left fun z hz=>?_).trans (List.map_id q)
 have:=hr z hz
 exact PM.at_inv hm this.1 (by omega)
structure BI (x:Puzzle) (tr:List Int) (k:Nat) (done:List Int) (s:Met16):Prop where
 nd:s.1.Nodup
 dl:s.2.length = s.1.length
 p0:s.1.getD 0 [] = tr
 d0:s.2.getD 0 0 = 0
 ne:0 < s.1.length
 mono:∀ i j,i<=j->j < s.1.length->s.2.getD i 0<=s.2.getD j 0
 top:k < s.1.length->∀ i,i < s.1.length->s.2.getD i 0<=s.2.getD k 0 + 1
 par:∀ i,0 < i->i < s.1.length->∃ j l,j < i/\l∈ltrs x.moves.length/\nxt x (s.1.getD j []) l = s.1.getD i []/\s.2.getD i 0 = s.2.getD j 0 + 1
 clo:∀ j l,l∈ltrs x.moves.length->(j < k\/(j = k/\l∈done))->j < s.1.length->∃ i,i < s.1.length/\s.1.getD i [] = nxt x (s.1.getD j []) l/\s.2.getD i 0<=s.2.getD j 0 + 1
 kl:k<=s.1.length
 pat:∀ q∈s.1,patB x.points tr.length q = true
section
variable {x:Puzzle} {tr:List Int} {k:Nat} {done:List Int} {s s':Met16}
theorem BI.start (hp:patB x.points tr.length tr = true):BI x tr 0 [] ([tr],[0]):=by
 refine ⟨by simp,rfl,rfl,rfl,by simp,fun i j h1 h2=>?_,fun _ i hi=>?_,fun i h1 h2=>?_,fun j l h1 h2=>?_,by simp,by simpa using hp⟩
 ·have:j = 0:=by simpa using h2
  subst this
  have:i = 0:=by omega
  subst this;exact Int.le_refl _
 ·have:i = 0:=by simpa using hi
  subst this;simp
 ·have:i = 0:=by simpa using h2
  omega
 ·rcases h2 with h2 | ⟨-,h2⟩
  ·omega
  ·cases h2
theorem BI.meet (h:BI x tr k done s) (hv:validPz x = true) (hk:k < s.1.length) {l:Int} (hl:l∈ltrs x.moves.length) (hm:bMeet s (s.2.getD k 0 + 1) (nxt x (s.1.getD k []) l) = some s') :
  BI x tr k (l :: done) s'/\s'.1.getD k [] = s.1.getD k []/\s'.2.getD k 0 = s.2.getD k 0/\k < s'.1.length:=by
 have hkm:s.1.getD k []∈s.1:=by rw [Zag hk];exact List.getElem_mem hk
 have hpn:=nxt_pat hv (h.pat _ hkm) hl
 unfold bMeet at hm
 split at hm
 ·rename_i hmem
  injection hm with hm
  subst hm
  refine ⟨⟨h.nd,h.dl,h.p0,h.d0,h.ne,h.mono,h.top,h.par,fun j l' h1 h2 h3=>?_,h.kl,h.pat⟩,rfl,rfl,hk⟩
  rcases h2 with h2 | ⟨rfl,h2⟩
  ·exact h.clo j l' h1 (.inl h2) h3
  ·rcases List.mem_cons.1 h2 with rfl | h2
   ·obtain ⟨i,hi,e⟩:=List.getElem_of_mem hmem
    exact ⟨i,hi,by rw [Zag hi,e],h.top hk i hi⟩
   ·exact h.clo j l' h1 (.inr ⟨rfl,h2⟩) h3
 ·rename_i hmem
  split at hm
  ·cases hm
  ·injection hm with hm
   have hkd:k < s.2.length:=by rw [h.dl];exact hk
   have hle:∀ i,i < s.1.length->s.2.getD i 0<=s.2.getD k 0 + 1:=h.top hk
   have g1:∀ i,i < s.1.length->(s.1 ++ [nxt x (s.1.getD k []) l]).getD i [] = s.1.getD i []:=fun i hi=>Zdn hi
   have g2:∀ i,i < s.1.length->(s.2 ++ [s.2.getD k 0 + 1]).getD i 0 = s.2.getD i 0:=fun i hi=>Zdn (by rw [h.dl];exact hi)
   have e1:(s.1 ++ [nxt x (s.1.getD k []) l]).getD s.1.length [] = nxt x (s.1.getD k []) l:=Zia _ _ _
   have e2:(s.2 ++ [s.2.getD k 0 + 1]).getD s.1.length 0 = s.2.getD k 0 + 1:=by rw [<- h.dl];exact Zia _ _ _
   subst hm
   refine ⟨⟨?_,by simp [h.dl],by rw [g1 0 h.ne];exact h.p0,by rw [g2 0 h.ne];exact h.d0,by simp,fun i j h1 h2=>?_,fun _ i hi=>?_,fun i h1 h2=>?_,fun j l' h1 h2 h3=>?_,by simp;omega,fun q hq=>?_⟩,g1 k hk,g2 k hk,by simp;omega⟩
   ·rw [List.nodup_append]
    exact ⟨h.nd,by simp,fun a ha b hb e=>hmem (by rw [<- List.mem_singleton.1 hb,<- e];exact ha)⟩
   ·simp only [List.length_append,List.length_singleton] at h2
    by_cases hj:j < s.1.length
    ·show (s.2 ++ _).getD i 0<=(s.2 ++ _).getD j 0
     rw [g2 i (by omega),g2 j hj];exact h.mono i j h1 hj
    ·obtain rfl:j = s.1.length:=by omega
     show (s.2 ++ _).getD i 0<=(s.2 ++ _).getD _ 0
     rw [e2]
     by_cases hi:i < s.1.length
     ·rw [g2 i hi];exact hle i hi
     ·obtain rfl:i = s.1.length:=by omega
      rw [e2];exact Int.le_refl _
   ·simp only [List.length_append,List.length_singleton] at hi
    show (s.2 ++ _).getD i 0<=(s.2 ++ _).getD k 0 + 1
    rw [g2 k hk]
    by_cases hi2:i < s.1.length
    ·rw [g2 i hi2];exact hle i hi2
    ·obtain rfl:i = s.1.length:=by omega
     rw [e2];exact Int.le_refl _
   ·simp only [List.length_append,List.length_singleton] at h2
    by_cases hi:i < s.1.length
    ·obtain ⟨j,l',a1,a2,a3,a4⟩:=h.par i h1 hi
     refine ⟨j,l',a1,a2,?_,?_⟩
     ·show nxt x ((s.1 ++ _).getD j []) l' = (s.1 ++ _).getD i []
      rw [g1 j (by omega),g1 i hi];exact a3
     ·show (s.2 ++ _).getD i 0 = (s.2 ++ _).getD j 0 + 1
      rw [g2 j (by omega),g2 i hi];exact a4
    ·obtain rfl:i = s.1.length:=by omega
     refine ⟨k,l,hk,hl,?_,?_⟩
     ·show nxt x ((s.1 ++ _).getD k []) l = (s.1 ++ _).getD _ []
      rw [g1 k hk,e1]
     ·show (s.2 ++ _).getD _ 0 = (s.2 ++ _).getD k 0 + 1
      rw [g2 k hk,e2]
   ·simp only [List.length_append,List.length_singleton] at h3
    have hj:j < s.1.length:=by rcases h2 with h2 | ⟨rfl,-⟩ <;> omega
    have hold:(j < k\/(j = k/\l'∈done))->∃ i,i < (s.1 ++ [nxt x (s.1.getD k []) l]).length/\(s.1 ++ [nxt x (s.1.getD k []) l]).getD i [] = nxt x ((s.1 ++ [nxt x (s.1.getD k []) l]).getD j []) l'/\(s.2 ++ [s.2.getD k 0 + 1]).getD i 0<=(s.2 ++ [s.2.getD k 0 + 1]).getD j 0 + 1:=fun h4=>by
     obtain ⟨i,b1,b2,b3⟩:=h.clo j l' h1 h4 hj
     exact ⟨i,by simp;omega,by rw [g1 i b1,g1 j hj];exact b2,by rw [g2 i b1,g2 j hj];exact b3⟩
    rcases h2 with h2 | ⟨rfl,h2⟩
    ·exact hold (.inl h2)
    ·rcases List.mem_cons.1 h2 with rfl | h2
     ·exact ⟨s.1.length,by simp,by show (s.1 ++ _).getD _ [] = nxt x ((s.1 ++ _).getD j []) l';rw [e1,g1 j hk],by show (s.2 ++ _).getD _ 0<=(s.2 ++ _).getD j 0 + 1;rw [e2,g2 j hk];exact Int.le_refl _⟩
     ·exact hold (.inr ⟨rfl,h2⟩)
   ·rcases List.mem_append.1 hq with hq | hq
    ·exact h.pat q hq
    ·simp at hq;subst hq;exact hpn
theorem BI.lets (hv:validPz x = true):∀ {ls done:List Int} {s s':Met16},BI x tr k done s->k < s.1.length->(∀ l∈ls,l∈ltrs x.moves.length)->bLets x (s.1.getD k []) (s.2.getD k 0 + 1) ls s = some s' ->
  ∃ done',BI x tr k done' s'/\k < s'.1.length/\(∀ l∈ls,l∈done')/\∀ l∈done,l∈done'
 | [],done,s,s',h,hk,_,he=>by
  unfold bLets at he;injection he with he;subst he
  exact ⟨done,h,hk,by simp,fun _ h=>h⟩
 | l :: ls,done,s,s',h,hk,hl,he=>by
  unfold bLets at he
  rw [Option.bind_eq_some_iff] at he
  obtain ⟨s1,e1,e2⟩:=he
  obtain ⟨b1,b2,b3,b4⟩:=h.meet hv hk (hl l (by simp)) e1
  rw [<- b2,<- b3] at e2
  obtain ⟨done',c1,c2,c3,c4⟩:=BI.lets hv b1 b4 (fun l hl2=>hl l (by simp [hl2])) e2
  refine ⟨done',c1,c2,fun l' hl'=>?_,fun l' hl'=>c4 l' (by simp [hl'])⟩
  rcases List.mem_cons.1 hl' with rfl | hl'
  ·exact c4 _ (by simp)
  ·exact c3 l' hl'
theorem BI.next (h:BI x tr k done s) (hk:k < s.1.length) (ha:∀ l∈ltrs x.moves.length,l∈done):BI x tr (k + 1) [] s:=by
 refine ⟨h.nd,h.dl,h.p0,h.d0,h.ne,h.mono,fun h1 i hi=>?_,h.par,fun j l h1 h2 h3=>?_,hk,h.pat⟩
 ·have h2:=h.top hk i hi
  have h3:=h.mono k (k + 1) (by omega) h1
  omega
 ·rcases h2 with h2 | ⟨-,h2⟩
  ·by_cases hj:j < k
   ·exact h.clo j l h1 (.inl hj) h3
   ·obtain rfl:j = k:=by omega
    exact h.clo j l h1 (.inr ⟨rfl,ha l h1⟩) h3
  ·cases h2
theorem BI.from_ (hv:validPz x = true):∀ {n k:Nat} {s s':Met16},bFrom x n k s = some s'->BI x tr k [] s->s.1.length<=3000->3001<=n + k->BI x tr s'.1.length [] s'
 | 0,k,s,s',he,h,h1,h2=>by have:=h.kl;omega
 | n + 1,k,s,s',he,h,h1,h2=>by
  unfold bFrom at he
  split at he
  ·rename_i hk
   rw [Option.bind_eq_some_iff] at he
   obtain ⟨s1,e1,e2⟩:=he
   obtain ⟨done',c1,c2,c3,-⟩:=h.lets hv hk (fun l hl=>hl) e1
   have hlen:=Znh e1 h.dl.symm h1
   exact BI.from_ hv e2 (c1.next c2 c3) hlen.2.1 (by omega)
  ·injection he with he;subst he
   have:k = s.1.length:=by have:=h.kl;omega
   subst this;exact h
end
structure Built (x:Puzzle) (t:Table):Prop where
 v:validPz x = true
 tk:trackB x.points t.tracked = true
 bi:BI x t.tracked t.patterns.length [] (t.patterns,t.distances)
 ll:t.patterns.length<=3000
theorem Zkl {x:Puzzle} {tr:List Int} {t:Table} (h:bTab x tr = some t):Built x t/\t.tracked = tr:=by
 obtain ⟨h1,h2,h3,h4,h5,h6,h7⟩:=Zhn h
 subst h3
 refine ⟨⟨h1,h2,?_,h6⟩,rfl⟩
 rw [Zek (by rw [h1,h2];rfl)] at h4
 exact BI.from_ h1 h4 (BI.start (Zev h2)) (by simp) (by omega)
section
variable {x:Puzzle} {t:Table}
theorem Built.dep (h:Built x t):∀ i:Nat,i < t.patterns.length->0<=t.distances.getD i 0/\t.distances.getD i 0<=i/\(0 < i->0 < t.distances.getD i 0):=by
 intro i
 induction i using Nat.strongRecOn with
 | ind i ih=>
  intro hi
  by_cases h0:i = 0
  ·subst h0
   have:t.distances.getD 0 0 = 0:=h.bi.d0
   omega
  ·obtain ⟨j,l,a1,a2,a3,a4⟩:=h.bi.par i (by omega) hi
   have h1:=ih j a1 (Nat.lt_trans a1 hi)
   simp only at a4
   omega
theorem Built.step (h:Built x t) {j:Nat} (hj:j < t.patterns.length) {l:Int} (hl:l∈ltrs x.moves.length) :
  ∃ i:Nat,i < t.patterns.length/\t.patterns.getD i [] = nxt x (t.patterns.getD j []) l/\t.distances.getD i 0<=t.distances.getD j 0 + 1/\t.distances.getD j 0<=t.distances.getD i 0 + 1:=by
 obtain ⟨i,b1,b2,b3⟩:=h.bi.clo j l hl (.inl hj) hj
 obtain ⟨j',c1,c2,c3⟩:=h.bi.clo i (-l) (Zps hl) (.inl b1) b1
 simp only at b1 b2 b3 c1 c2 c3
 rw [b2,Zjl h.v (h.bi.pat _ (by rw [Zag hj];exact List.getElem_mem hj)) hl] at c2
 have:j' = j:=by
  rw [Zag c1,Zag hj] at c2
  have hnd:t.patterns.Nodup:=h.bi.nd
  exact Zfm hnd c1 hj c2
 subst this
 exact ⟨i,b1,b2,b3,c3⟩
theorem Built.idx (h:Built x t) {i:Nat} (hi:i < t.patterns.length):idxL t.patterns (t.patterns.getD i []) = i:=by
 refine Zel (j:=i) hi (fun q hq=>?_) ?_
 ·rw [List.mem_take_iff_getElem] at hq
  obtain ⟨k,hk,rfl⟩:=hq
  refine decide_eq_false fun e=>?_
  rw [Zag hi] at e
  have hnd:t.patterns.Nodup:=h.bi.nd
  have:=Zfm hnd (by omega) hi e
  omega
 ·exact decide_eq_true (Zag hi).symm
end
noncomputable def validT (x:Puzzle) (t:Table):Bool:=(bTab x t.tracked).isSome && eqV ((bTab x t.tracked).getD noTab) t
noncomputable def tabSet (x:Puzzle) (ts:List Table):Bool:=validPz x && (decide (ts.length<=4) && ts.all (validT x))
def lookT (t:Table) (s:List Int):Int:=t.distances.getD (idxL t.patterns (PM.comp t.tracked s)).toNat 0
def lbs (ts:List Table) (s:List Int):List Int:=ts.map fun t=>lookT t s
def lbMax (ts:List Table) (s:List Int):Int:=(lbs ts s).foldl max 0
noncomputable def lb (x:Puzzle) (ts:List Table) (s:List Int):Int:=if (tabSet x ts && reachB x s) = true then lbMax ts s else -1
theorem Zbp {x:Puzzle} {t:Table} (h:validT x t = true):Built x t:=by
 unfold validT at h
 rw [Bool.and_eq_true] at h
 obtain ⟨u,hu⟩:=Option.isSome_iff_exists.1 h.1
 have h2:=h.2
 rw [hu] at h2
 have e:u = t:=eqV_iff.1 h2
 subst e
 exact (Zkl hu).1
theorem Zbu {x:Puzzle} {ts:List Table}:tabSet x ts = true ↔ validPz x = true/\ts.length<=4/\∀ t∈ts,validT x t = true:=by
 unfold tabSet
 rw [Bool.and_eq_true,Bool.and_eq_true,decide_eq_true_iff,List.all_eq_true]
theorem Built.reach {x:Puzzle} {t:Table} (h:Built x t) {s:List Int} (hs:reachB x s = true):PM.comp t.tracked s∈t.patterns:=by
 have hg:=Zbw h.v
 have hf:=Zad h.v
 have htr:=Zbb.1 h.tk
 have hG:PM.Grp x.points.toNat x.moves s:=by
  unfold reachB memB at hs
  rw [Bool.and_eq_true] at hs
  exact @of_decide_eq_true _ (Classical.propDecidable _) hs.2
 have hr:∀ z∈t.tracked,0<=z/\z < x.points.toNat:=fun z hz=>by have:=htr.2.1 z hz;omega
 have h0:t.patterns.getD 0 [] = t.tracked:=h.bi.p0
 have hne:0 < t.patterns.length:=h.bi.ne
 have:=PM.grp_sub (n:=x.points.toNat) (G:=x.moves) hg (S:=fun p=>PM.PN x.points.toNat p/\PM.comp t.tracked p∈t.patterns) (fun p hp=>hp.1) ⟨PM.PN.id _,?_⟩ ?_ hG
 ·exact this.2
 ·have e:PM.comp t.tracked (PM.pts x.points.toNat) = t.tracked:=by
   unfold PM.comp
   refine (List.map_congr_left fun z hz=>?_).trans (List.map_id _)
   exact PM.at_pts (hr z hz).1 (hr z hz).2
  rw [e,<- h0,Zag hne]
  exact List.getElem_mem hne
 ·rintro p g ⟨hp,hm⟩ hgm
  refine ⟨hp.comp (hg g hgm),?_⟩
  obtain ⟨k,hk,rfl⟩:=List.getElem_of_mem hgm
  obtain ⟨j,hj,e⟩:=List.getElem_of_mem hm
  have hl:((k:Int) + 1)∈ltrs x.moves.length:=Zaw.2 ⟨by omega,by omega,by omega⟩
  obtain ⟨i,hi,e2,-⟩:=h.step hj hl
  have e3:PM.comp t.tracked (PM.comp p x.moves[k]) = nxt x (PM.comp t.tracked p) ((k:Int) + 1):=by
   unfold nxt
   rw [mv_pos rfl hk]
   unfold PM.comp
   rw [List.map_map]
   refine List.map_congr_left fun z hz=>?_
   have:=hr z hz
   exact PM.at_comp this.1 (by rw [hp.1];omega)
  rw [e3,<- e,<- Zag (z:=[]) hj,<- e2,Zag hi]
  exact List.getElem_mem hi
theorem Zgj {x:Puzzle} {t:Table} (h:validT x t = true) {s:List Int} (hs:reachB x s = true):∃ i:Nat,i < t.patterns.length/\i < t.distances.length/\idxL t.patterns (PM.comp t.tracked s) = i/\t.patterns.getD i [] = PM.comp t.tracked s/\lookT t s = t.distances.getD i 0:=by
 have hb:=Zbp h
 obtain ⟨i,hi,e⟩:=List.getElem_of_mem (hb.reach hs)
 have hx:=hb.idx hi
 have hdl:=hb.bi.dl
 simp only at hdl
 rw [Zag hi,e] at hx
 refine ⟨i,hi,by omega,hx,by rw [Zag hi,e],?_⟩
 unfold lookT
 rw [hx,Int.toNat_natCast]
theorem Zcd {x:Puzzle} {t:Table} (h:validT x t = true) {s:List Int} (hs:reachB x s = true):0<=lookT t s/\lookT t s<=3000:=by
 obtain ⟨i,hi,-,-,-,e⟩:=Zgj h hs
 have hb:=Zbp h
 have:=hb.dep i hi
 have:=hb.ll
 rw [e];omega
theorem Zbs {l:List Int} {m a:Int} (h:∀ y∈l,0<=y/\y<=m) (ha:0<=a/\a<=m):0<=l.foldl max a/\l.foldl max a<=m:=by
 induction l generalizing a with
 | nil=>exact ha
 | cons y l ih=>
  have:=h y (by simp)
  exact ih (fun z hz=>h z (by simp [hz])) (by omega)
theorem lb_rng (x:Puzzle) (ts:List Table) (s:List Int):-1<=lb x ts s/\lb x ts s<=3000:=by
 unfold lb
 split
 ·rename_i h
  rw [Bool.and_eq_true,Zbu] at h
  have:=Zbs (l:=lbs ts s) (m:=3000) (a:=0) (fun y hy=>by
   obtain ⟨t,ht,rfl⟩:=List.mem_map.1 hy
   exact Zcd (h.1.2.2 t ht) h.2) (by omega)
  unfold lbMax;omega
 ·omega
theorem Zfl {x:Puzzle} {ts:List Table} {s:List Int} (h:(tabSet x ts && reachB x s) = true):0<=lbMax ts s:=by
 rw [Bool.and_eq_true,Zbu] at h
 have:=Zbs (l:=lbs ts s) (m:=3000) (a:=0) (fun y hy=>by
  obtain ⟨t,ht,rfl⟩:=List.mem_map.1 hy
  exact Zcd (h.1.2.2 t ht) h.2) (by omega)
 unfold lbMax;omega
def Good (x:Puzzle) (t:Table):Prop:=∀ i,i < t.patterns.length->entF x t i = []
theorem one_nil {b:Bool} {f:Fault}:one b f = [] ↔ b = false:=by unfold one;cases b <;> simp
theorem Zqz {x:Puzzle} {t:Table} {p:List Int} {d:Int} (h:descL x t p d ≠ 0):descL x t p d∈ltrs x.moves.length/\leads x t p d (descL x t p d) = true:=by
 unfold descL at h ⊢
 cases hf:(ltrs x.moves.length).find? (leads x t p d) with
 | none=>rw [hf] at h;exact absurd rfl h
 | some l=>exact ⟨List.mem_of_find?_eq_some hf,List.find?_some hf⟩
theorem Ztl {x:Puzzle} {t:Table} {p:List Int} {d:Int} {l:Int} (hl:l∈ltrs x.moves.length) (h:leads x t p d l = true):descL x t p d ≠ 0:=by
 unfold descL
 cases hf:(ltrs x.moves.length).find? (leads x t p d) with
 | none=>have:=List.find?_eq_none.1 hf l hl;rw [h] at this;exact absurd rfl this
 | some l'=>exact (Zaw.1 (List.mem_of_find?_eq_some hf)).1
theorem Zhf {x:Puzzle} {t:Table} {p:List Int} {d l:Int}:leads x t p d l = true ↔ 0<=nextI x t p l/\atD t (nextI x t p l) = d:=by
 unfold leads atD
 rw [Bool.and_eq_true,decide_eq_true_iff,decide_eq_true_iff]
section
variable {x:Puzzle} {t t':Table}
theorem ent_nil {i:Nat}:entF x t i = [] ↔ (i = 0->atD t 0 = 0/\atP t 0 = t.tracked)/\(i:Int)<=idxL t.patterns (atP t i)/\(0 < i->atD t i ≠ 0) /\
  (∀ l∈ltrs x.moves.length,0<=nextI x t (atP t i) l/\-1<=atD t (nextI x t (atP t i) l) - atD t i/\atD t (nextI x t (atP t i) l) - atD t i<=1)/\(0 < atD t i->descL x t (atP t i) (atD t i - 1) ≠ 0):=by
 unfold entF
 rw [List.append_eq_nil_iff,List.append_eq_nil_iff,List.append_eq_nil_iff,List.append_eq_nil_iff,one_nil,one_nil,one_nil,one_nil,List.flatMap_eq_nil_iff]
 have hl:∀ l,letF x t i l = [] ↔ 0<=nextI x t (atP t i) l/\-1<=atD t (nextI x t (atP t i) l) - atD t i/\atD t (nextI x t (atP t i) l) - atD t i<=1:=fun l=>by
  unfold letF
  split
  ·rename_i h;simp;omega
  ·rename_i h
   split
   ·rename_i h2;rw [inR_iff] at h2;simp;omega
   ·rename_i h2;rw [inR_iff] at h2;simp;omega
 constructor
 ·rintro ⟨a,b,c,d,e⟩
  refine ⟨fun h0=>?_,?_,fun h0=>?_,fun l h=>(hl l).1 (d l h),fun h0 h1=>?_⟩
  ·subst h0
   simp only [decide_true,Bool.true_and,Bool.or_eq_false_iff,decide_eq_false_iff_not] at a
   exact ⟨Decidable.of_not_not a.1,Decidable.of_not_not a.2⟩
  ·have:=of_decide_eq_false b;omega
  ·intro h1;simp [h0,h1] at c
  ·simp [h0,h1] at e
 ·rintro ⟨a,b,c,d,e⟩
  refine ⟨?_,decide_eq_false (by omega),?_,fun l h=>(hl l).2 (d l h),?_⟩
  ·by_cases h0:i = 0
   ·subst h0;obtain ⟨a1,a2⟩:=a rfl
    simp [a1,a2]
   ·simp [h0]
  ·by_cases h0:0 < i
   ·simp [h0,c h0]
   ·simp [h0]
  ·by_cases h0:0 < atD t i
   ·simp [e h0]
   ·simp [h0]
theorem atD_nat (i:Nat):atD t i = t.distances.getD i 0:=by unfold atD;rw [Int.toNat_natCast]
theorem Built.good (h:Built x t):Good x t:=by
 intro i hi
 have hstep:∀ l∈ltrs x.moves.length,∃ i':Nat,i' < t.patterns.length/\t.patterns.getD i' [] = nxt x (atP t i) l/\nextI x t (atP t i) l = i'/\atD t i'<=atD t i + 1/\atD t i<=atD t i' + 1:=fun l hl=>by
  obtain ⟨i',a1,a2,a3,a4⟩:=h.step hi hl
  refine ⟨i',a1,a2,?_,by rw [atD_nat,atD_nat];exact a3,by rw [atD_nat,atD_nat];exact a4⟩
  show idxL t.patterns (nxt x (t.patterns.getD i []) l) = i'
  rw [<- a2];exact h.idx a1
 refine ent_nil.2 ⟨fun h0=>?_,?_,fun h0=>?_,fun l hl=>?_,fun h0=>?_⟩
 ·have a:=h.bi.d0;have b:=h.bi.p0
  simp only at a b
  exact ⟨a,b⟩
 ·rw [show atP t i = t.patterns.getD i [] from rfl,h.idx hi];exact Int.le_refl _
 ·have:=(h.dep i hi).2.2 h0
  rw [atD_nat];omega
 ·obtain ⟨i',a1,a2,a3,a4,a5⟩:=hstep l hl
  rw [a3];omega
 ·have hi0:0 < i:=by
   rcases Nat.eq_zero_or_pos i with h1 | h1
   ·subst h1
    have:=h.bi.d0
    simp only at this
    rw [atD_nat,this] at h0;omega
   ·exact h1
  obtain ⟨j,l,a1,a2,a3,a4⟩:=h.bi.par i hi0 hi
  simp only at a3 a4
  have hj:j < t.patterns.length:=by omega
  have hjm:t.patterns.getD j []∈t.patterns:=by rw [Zag hj];exact List.getElem_mem hj
  have hb:nxt x (atP t i) (-l) = t.patterns.getD j []:=by
   rw [show atP t i = t.patterns.getD i [] from rfl,<- a3]
   exact Zjl h.v (h.bi.pat _ hjm) a2
  refine Ztl (Zps a2) (Zhf.2 ?_)
  have hn:nextI x t (atP t i) (-l) = j:=by
   show idxL t.patterns (nxt x (atP t i) (-l)) = j
   rw [hb];exact h.idx hj
  rw [hn,atD_nat,atD_nat]
  omega
end
section
variable {x:Puzzle} {t:Table}
theorem Ztb {l:List (List Int)} {p:List Int} (h:0<=idxL l p):l.getD (idxL l p).toNat [] = p:=by
 rcases Zeg (fun q=>decide (q = p)) l with h1 | ⟨k,hk,h1,h2⟩
 ·unfold idxL at h;omega
 ·unfold idxL
  rw [h1,Int.toNat_natCast,Zag hk]
  exact of_decide_eq_true h2
end
theorem pts_inc (n:Nat):Inc (n:Int) (PM.pts n):=by
 refine ⟨fun z hz=>PM.mem_pts.1 hz,?_⟩
 unfold PM.pts
 rw [List.pairwise_map]
 exact List.Pairwise.imp (fun h=>by omega) (List.pairwise_lt_range (n:=n))
theorem Zns {x:Puzzle} (hv:validPz x = true):trackB x.points (PM.pts x.points.toNat) = true:=by
 have:=Zad hv
 rw [Zbb]
 refine ⟨by rw [PM.pts_len];omega,?_⟩
 have h:=pts_inc x.points.toNat
 rwa [show ((x.points.toNat:Nat):Int) = x.points by omega] at h
def expl (x:Puzzle):Option Table:=bTab x (PM.pts x.points.toNat)
theorem grp_nxt {x:Puzzle} (hv:validPz x = true) {s:List Int} (hs:PM.Grp x.points.toNat x.moves s) {l:Int} (hl:l∈ltrs x.moves.length):PM.Grp x.points.toNat x.moves (nxt x s l):=by
 have h3:=Zbw hv
 refine PM.Grp.comp h3 hs ?_
 rcases Zca hl with ⟨k,hk,rfl⟩ | ⟨k,hk,rfl⟩
 ·rw [mv_pos rfl hk];exact PM.Grp.gen h3 (List.getElem_mem hk)
 ·rw [mv_neg (k:=k) rfl hk];exact PM.Grp.gen_inv h3 (List.getElem_mem hk)
theorem BI.grp {x:Puzzle} {k:Nat} {done:List Int} {s:Met16} (hv:validPz x = true) (h:BI x (PM.pts x.points.toNat) k done s):∀ i,i < s.1.length->PM.Grp x.points.toNat x.moves (s.1.getD i []):=by
 intro i
 induction i using Nat.strongRecOn with
 | ind i ih=>
  intro hi
  by_cases h0:i = 0
  ·subst h0;rw [h.p0];exact .id
  ·obtain ⟨j,l,a1,a2,a3,-⟩:=h.par i (by omega) hi
   rw [<- a3]
   exact grp_nxt hv (ih j a1 (Nat.lt_trans a1 hi)) a2
theorem Zsl {x:Puzzle} (h:validPz x = false):expl x = none:=by
 unfold expl bTab
 rw [Zhk (by rw [h];rfl)];rfl
section
variable {x:Puzzle} {t:Table}
theorem Zdb (h:expl x = some t):Built x t/\t.tracked = PM.pts x.points.toNat:=Zkl h
theorem Ztk (h:expl x = some t) {q:List Int}:q∈t.patterns ↔ PM.Grp x.points.toNat x.moves q:=by
 obtain ⟨hb,ht⟩:=Zdb h
 have hi:=hb.bi
 rw [ht] at hi
 constructor
 ·intro hq
  obtain ⟨i,hil,rfl⟩:=List.getElem_of_mem hq
  have:=hi.grp hb.v i hil
  rwa [Zag hil] at this
 ·intro hg
  have hpn:=PM.Grp.pn (Zbw hb.v) hg
  have hf:=Zad hb.v
  have hr:reachB x q = true:=by
   unfold reachB stateB memB
   rw [Bool.and_eq_true,Bool.and_eq_true]
   exact ⟨⟨hb.v,(Zfo hf.1 hf.2.1).2 hpn⟩,@decide_eq_true _ (Classical.propDecidable _) hg⟩
  have:=hb.reach hr
  rwa [ht,PM.id_comp hpn] at this
theorem Zhc (h:expl x = some t) {q:List Int}:q∈t.patterns ↔ reachB x q = true:=by
 obtain ⟨hb,-⟩:=Zdb h
 have hf:=Zad hb.v
 rw [Ztk h]
 unfold reachB stateB memB
 rw [Bool.and_eq_true,Bool.and_eq_true]
 constructor
 ·intro hg
  exact ⟨⟨hb.v,(Zfo hf.1 hf.2.1).2 (PM.Grp.pn (Zbw hb.v) hg)⟩,@decide_eq_true _ (Classical.propDecidable _) hg⟩
 ·rintro ⟨-,hg⟩
  exact @of_decide_eq_true _ (Classical.propDecidable _) hg
end
noncomputable def distX (x:Puzzle) (s:List Int):Int:=match expl x with
 | some t=>if reachB x s = true then atD t (idxL t.patterns s) else -1
 | none=>-1
theorem Zhj {x:Puzzle} {s:List Int} (h:expl x = none):distX x s = -1:=by unfold distX;rw [h]
theorem Zke {x:Puzzle} {s:List Int} (h:reachB x s = false):distX x s = -1:=by
 unfold distX
 rw [h]
 cases expl x <;> rfl
theorem Zig {x:Puzzle} {t:Table} {s:List Int} (h:expl x = some t) (hs:reachB x s = true):∃ i:Nat,i < t.patterns.length/\t.patterns.getD i [] = s/\idxL t.patterns s = i/\distX x s = t.distances.getD i 0/\0<=t.distances.getD i 0/\t.distances.getD i 0<=3000:=by
 obtain ⟨hb,-⟩:=Zdb h
 obtain ⟨i,hi,e⟩:=List.getElem_of_mem ((Zhc h).2 hs)
 have e2:t.patterns.getD i [] = s:=by rw [Zag hi,e]
 have hx:=hb.idx hi
 rw [e2] at hx
 have hd:=hb.dep i hi
 have:=hb.ll
 refine ⟨i,hi,e2,hx,?_,hd.1,by omega⟩
 unfold distX
 rw [h]
 show (if reachB x s = true then atD t (idxL t.patterns s) else -1) = _
 rw [if_pos hs,hx]
 unfold atD
 rw [Int.toNat_natCast]
theorem Zpb (x:Puzzle) (s:List Int):distX x s = -1\/(0<=distX x s/\distX x s<=3000/\reachB x s = true/\∃ t,expl x = some t):=by
 rcases he:expl x with _ | t
 ·exact .inl (Zhj he)
 ·rcases hr:reachB x s
  ·exact .inl (Zke hr)
  ·obtain ⟨i,-,-,-,h1,h2,h3⟩:=Zig he hr
   exact .inr ⟨by omega,by omega,rfl,t,rfl⟩
theorem AccI.low2 {B B':Nat} {e:TypeId} {w:World} {v:Value} {l:List Int} (h:AccI B e w v l) (hB:B'<=B):AccI B' e w v l:=by
 obtain ⟨h1,h2⟩:=h.row
 refine AccI.ofRow ⟨h1.1,?_⟩ h2
 rcases h1.2 with h3 | ⟨g,cap,cur,h3,h4,h5⟩
 ·exact .inl h3
 ·exact .inr ⟨g,cap,cur,h3,Nat.le_trans hB h4,h5⟩
theorem Zho {w w':World} {B:Nat} {e:TypeId} {size n:Nat} {v:Value} {xs:List Value} (h:w.ownsRow B e size v n xs) (ho:Only [] w w'):w'.ownsRow B e size v n xs:=by
 refine ⟨h.1,?_⟩
 rcases h.2 with ⟨rfl,h0⟩ | ⟨g,cp,cur,rfl,hb,hg,hrest⟩
 ·exact .inl ⟨rfl,h0⟩
 ·exact .inr ⟨g,cp,cur,rfl,hb,by rw [ho.block g (Array.getElem?_eq_some_iff.1 hg).1 (by simp)];exact hg,hrest⟩
section
variable {P:Program} (w:World)
theorem Zbo {ops:Array Oper} {o:Oper} {a:Act} {K:Act->World->Prop} {Q:Exit->Act->World->Prop} {E:Prop} (hgd:o.guard = none) (s x:Operand) (t:TypeId)
  (ho:o.op = .call { callee:=.builtin .append,args:=#[s,x],argTypes:=#[t,t] })
  (base:Nat) (e:TypeId) (i:TypeInfo) (z:Value) (size bytes:Nat) (ht:P.underlying t = some (.slice e)) (hi:P.info? e = some i) (hz:i.zero = some z)
  (hsize:i.size = size) (hby:i.bytes = bytes) (hzs:z.cells.size = size) (hsz:0 < size)
  (v:Value) (n:Nat) (xs:List Value) (hs:a.eval s = v) (hown:w.ownsRow base e size v n xs)
  (A:Option Addr) (m c:Nat) (news:List Value) (hx:a.eval x = .slice A m c) (hl:news.length = m * size) (hsrc:∀ ad,A = some ad->∀ j u,news[j]? = some u->w.cell? (ad.add j) = some u) (hA:A = none->m = 0) (h1:∀ u∈news,u.oneCell' = true)
  (h63:n + m<=maxLen) (hbytes:(n + m) * bytes<=140737488355328) (hbase:base<=w.heap.size)
  (h:∀ v' w',w'.ownsRow base e size v' (n + m) (xs ++ news)->w.grownBy w' v.ownBlock->(v'.ownBlock = v.ownBlock\/v'.ownBlock = some w.heap.size)->K (a.put o.dst v') w'):if Region.wanted o (yielded ops a.tmps) = true then Oper.wp P o a w K Q else E:=by
 have hw:Region.wanted o (yielded ops a.tmps) = true:=by simp [Region.wanted,hgd]
 rw [if_pos hw]
 exact wp_app w s x t ho base e i z size bytes ht hi hz hsize hby hzs hsz v n xs hs hown A m c news hx hl hsrc hA h1 h63 hbytes hbase h
end
set_option maxHeartbeats 4000000 in
theorem Zfe (g:Nat) (fc:List Nat) (l:List UInt8) (n:Nat) (w:World) (h:Src w g fc l) (hn:n<=1000) (hl:l.length<=4096) :
  Calls Tryz.prog 205 #[.pointer (some ⟨g,0,none⟩),.int .i64 n] w fun e w'=>∃ v p,e = .returned v/\AccI w.heap.size 2 w' v p/\PM.PN n p/\Src w' g fc l/\Only [g] w w':=by
 obtain ⟨i0,hi,hz0,hz1,hz2⟩:=info_parts Tryz.info2
 go_enter Tryz.func205,Tryz.ntmps205
 go_wp2
 go_loopw [5,6] (fun o i wr=>∃ (j:Nat) (p:List Int) (fp:List Nat),j<=n/\i = .int .i64 j/\(∃ b off c,o = .slice (some ⟨b,off,none⟩) p.length c/\IntsA wr (some ⟨b,off,none⟩) c p fp)/\AccI w.heap.size 2 wr o p/\PM.PN j p/\Fresh w.heap.size wr fp/\Src wr g fc l/\Only [g] w wr)
  (fun _ i _=>n - (intOf i).toNat)
 case atStart=>exact ⟨0,[],[],Nat.zero_le _,rfl,⟨w.heap.size,0,0,rfl,IntsA.nil _ _ (by simp [maxLen])⟩,AccI.made w w.heap.size _ rfl (Nat.le_refl _),⟨rfl,by simp [PM.IsP]⟩,Fresh.nil _ _,h.keep (zO.alloc _),zO.alloc _⟩
 case round=>
  obtain ⟨W2,hnew⟩:∃ W,W = wr:=⟨_,rfl⟩
  subst hnew
  obtain ⟨j,p,fp,hj,rfl,⟨b,off,c,rfl,I⟩,hA,hp,hF,hD,hK⟩:=hrel
  by_cases hlt:j < n
  ·have hwj:IntKind.i64.wrap ((j:Int) + 1) = (j:Int) + 1:=by rw [IntKind.wrap_i64];omega
   go_upto_region 6 with ((go_at_call 83;(with_reducible refine (Zae g fc l ((j:Int) + 1) _ hD hl (by omega)).mono ?_);rintro e w3 ⟨r,rfl,q1,q2,D3,K3⟩))
   obtain ⟨k,rfl⟩:=Int.eq_ofNat_of_zero_le q1
   have hpl:=hp.1
   have hcap:=I.len
   have hkp:k<=p.length:=by omega
   have hkc:k<=c:=by omega
   have hkp':(k:Int)<=(p.length:Int):=by omega
   have hkc':(k:Int)<=(c:Int):=by omega
   have hc0:(p.length:Int)<=(c:Int):=by omega
   have Hpl:=zH hpl
   have Hp:=zH hp
   clear hpl hp hA
   have K3':Only [g] w w3:=hK.trans K3
   have hg:=h.lt
   have I3:=I.only K3 (fun b hb hm=>by have:=hF.ge b hb;simp at hm;omega)
   have hk0:(0:Int)<=(k:Int):=by omega
   have hlk:(p.take k).length = k:=by rw [List.length_take];omega
   have HK:=zH hlk
   clear hlk
   have hTk:Rd w3 (.slice (some ⟨b,off,none⟩) k c) (p.take k) fp:=by
    have:=(I3.take k).rd
    rwa [HK.out] at this
   have hTl:(p.take k).length<=1073741824:=by have:=HK.out;omega
   have hj1000:j<=1000:=by omega
   have hpl1:p.length<=1000:=by have:=Hpl.out;omega
   have hend:∀ v6 w6,w6.ownsRow w3.heap.size 2 1 v6 (k + 1 + (p.length - k)) (((p.take k).map (Value.int .i64) ++ [.int .i64 (j:Int)]) ++ (p.drop k).map (Value.int .i64))->Only [] w3 w6 ->
     ∃ (p':List Int) (fp':List Nat),(∃ b off c,v6 = .slice (some ⟨b,off,none⟩) p'.length c/\IntsA w6 (some ⟨b,off,none⟩) c p' fp')/\AccI w.heap.size 2 w6 v6 p'/\PM.PN (j + 1) p'/\Fresh w.heap.size w6 fp'/\Src w6 g fc l/\Only [g] w w6:=fun v6 w6 hO ho=>by
    have hcells:((p.take k).map (Value.int .i64) ++ [Value.int .i64 (j:Int)]) ++ (p.drop k).map (Value.int .i64) = (p.take k ++ ((p.length:Int) :: p.drop k)).map (Value.int .i64):=by
     rw [Hpl.out];simp
    rw [hcells] at hO
    have hP:=ins_isP Hp.out.2 hkp
    have hlen:(p.take k ++ ((p.length:Int) :: p.drop k)).length = j + 1:=by
     rw [List.length_append,List.length_cons,HK.out,List.length_drop];have:=Hpl.out;omega
    have hwf:∀ x∈p.take k ++ ((p.length:Int) :: p.drop k),I64 x:=fun x hx=>by have:=hP.1 x hx;rw [hlen] at this;unfold I64;omega
    have hn6:k + 1 + (p.length - k) = (p.take k ++ ((p.length:Int) :: p.drop k)).length:=by rw [hlen];have:=Hpl.out;omega
    rw [hn6] at hO
    have hA6:=(AccI.ofRow hO hwf).low2 K3'.size
    obtain ⟨a6,c6,hv6,-,I6,F6⟩:=Zba hO hwf
    obtain ⟨b6,o6,ha6,-,-⟩:=I6.at_ 0 (by rw [hlen];omega)
    subst ha6
    exact ⟨_,_,⟨b6,o6,c6,hv6,I6⟩,hA6,⟨hlen,hP⟩,F6.mono K3'.size,D3.keep ho,K3'.keepThen ho⟩
   have HcC:Hid (∀ V:World,Only [] w3 V->Calls Tryz.prog 100 #[.slice (some ⟨b,off,none⟩) k c] V fun e w'=>∃ a4 q4,e = .returned (.slice a4 k q4)/\w'.ownsRow w3.heap.size 2 1 (.slice a4 k q4) k ((p.take k).map (Value.int .i64))/\Only [] V w'):=zH (fun V hV=>by
    refine (Zqw (.slice (some ⟨b,off,none⟩) k c) (p.take k) fp V (zK hTk hV) hTl).mono ?_
    rintro e w' ⟨v4,rfl,hA4,o4⟩
    have hO4:=(hA4.low2 hV.size).row.1
    rw [HK.out] at hO4
    obtain ⟨a4,q4,e4⟩:=hA4.form
    rw [HK.out] at e4
    subst e4
    exact ⟨a4,q4,rfl,hO4,o4⟩)
   by_cases hck:c = k
   ·subst hck
    have hd0:p.drop c = []:=List.drop_eq_nil_of_le (by omega)
    have Hd0:=zH hd0
    clear hd0
    go_region_law (first
     | (go_simp;go_at_call 100;(with_reducible refine (HcC.out _ zC).mono ?_);rintro en w4 ⟨a4,q4,rfl,hO4,o4⟩;have o4w:Only [] w3 w4:=Only.trans zC o4)
     | (refine Zbo _ rfl (.tmp 21) (.tmp 23) 27 rfl w3.heap.size 2 i0 _ 1 8 Tryz.underlying27 hi hz0 hz1 hz2 rfl (by omega) (.slice a4 c q4) c ((p.take c).map (Value.int .i64)) rfl (Zho hO4 zC) _ 1 1 [.int .i64 (j:Int)] rfl rfl (by first | exact Zci _ [.int .i64 (j:Int)] 2 rfl | exact (fun ad hh j1 u hu=>o4.cell (by simp) (Zci _ [.int .i64 (j:Int)] 2 rfl ad hh j1 u hu))) (by intro hh;cases hh) (by intro u hu;simp at hu;subst hu;rfl) (by unfold maxLen;omega) (by omega) (Only.size (fp:=[]) zC) ?_;intro v5 w5 hO5 hg5 hb5;have o5:Only [] w3 w5:=Only.grown zC hg5 (by intro z hz hzl;have:=(hO4.lt z hz).1;omega);have ID:=(I3.keep o5).drop hkp;have s5:=Zdl ID;have hdl:((p.drop c).map (Value.int .i64)).length = (p.length - c) * 1:=(by simp);have Hdl:=zH hdl;clear hdl)
     | (refine Zbo _ rfl (.tmp 24) (.tmp 27) 27 rfl w3.heap.size 2 i0 _ 1 8 Tryz.underlying27 hi hz0 hz1 hz2 rfl (by omega) v5 (c + 1) ((p.take c).map (Value.int .i64) ++ [.int .i64 (j:Int)]) rfl (Zho hO5 zC) (some ⟨b,off,none⟩) 0 0 [] rfl rfl (by intro ad hh j1 u hu;simp at hu) (by intro hh;cases hh) (by intro u hu;simp at hu) (by unfold maxLen;omega) (by omega) (Only.size (fp:=[]) zC) ?_;intro v6 w6 hO6 hg6 hb6;have o6:Only [] w3 w6:=Only.grown zC hg6 (by intro z hz hzl;have:=(hO5.lt z hz).1;omega))
     | fail)
    all_goals (
     have hfin:=hend v6 w6 (by have e:p.length - c = 0:=(by omega);rw [e,Hd0.out];simpa using hO6) o6
     obtain ⟨p',fp',e1,e2,e3,e4,e5,e6⟩:=hfin
     go_wp2_with fail
     exact ⟨⟨j + 1,p',fp',by omega,by go_num,e1,e2,e3,e4,e5,e6⟩,by simp [intOf];omega⟩)
   ·go_region_law (first
     | (go_simp;go_at_call 100;(with_reducible refine (HcC.out _ zC).mono ?_);rintro en w4 ⟨a4,q4,rfl,hO4,o4⟩;have o4w:Only [] w3 w4:=Only.trans zC o4)
     | (refine Zbo _ rfl (.tmp 21) (.tmp 23) 27 rfl w3.heap.size 2 i0 _ 1 8 Tryz.underlying27 hi hz0 hz1 hz2 rfl (by omega) (.slice a4 k q4) k ((p.take k).map (Value.int .i64)) rfl (Zho hO4 zC) _ 1 1 [.int .i64 (j:Int)] rfl rfl (by first | exact Zci _ [.int .i64 (j:Int)] 2 rfl | exact (fun ad hh j1 u hu=>o4.cell (by simp) (Zci _ [.int .i64 (j:Int)] 2 rfl ad hh j1 u hu))) (by intro hh;cases hh) (by intro u hu;simp at hu;subst hu;rfl) (by unfold maxLen;omega) (by omega) (Only.size (fp:=[]) zC) ?_;intro v5 w5 hO5 hg5 hb5;have o5:Only [] w3 w5:=Only.grown zC hg5 (by intro z hz hzl;have:=(hO4.lt z hz).1;omega);have ID:=(I3.keep o5).drop hkp;have s5:=Zdl ID;have hdl:((p.drop k).map (Value.int .i64)).length = (p.length - k) * 1:=(by simp);have Hdl:=zH hdl;clear hdl)
     | (refine Zbo _ rfl (.tmp 24) (.tmp 27) 27 rfl w3.heap.size 2 i0 _ 1 8 Tryz.underlying27 hi hz0 hz1 hz2 rfl (by omega) v5 (k + 1) ((p.take k).map (Value.int .i64) ++ [.int .i64 (j:Int)]) rfl (Zho hO5 zC) (some ⟨b,off + k,none⟩) (p.length - k) (c - k) ((p.drop k).map (Value.int .i64)) rfl Hdl.out s5.1 (by intro hh;cases hh) (Zef _) (by unfold maxLen;omega) (by omega) (Only.size (fp:=[]) zC) ?_;intro v6 w6 hO6 hg6 hb6;have o6:Only [] w3 w6:=Only.grown zC hg6 (by intro z hz hzl;have:=(hO5.lt z hz).1;omega))
     | fail)
    all_goals (
     have hfin:=hend v6 w6 hO6 o6
     obtain ⟨p',fp',e1,e2,e3,e4,e5,e6⟩:=hfin
     go_wp2_with fail
     exact ⟨⟨j + 1,p',fp',by omega,by go_num,e1,e2,e3,e4,e5,e6⟩,by simp [intOf];omega⟩)
  ·obtain rfl:j = n:=by omega
   go_wp2
   go_ret
   exact ⟨_,p,rfl,hA,hp,hD,hK⟩
def firstG (l:List (List Int)) (s:ByteArray):Option Int:=(l.findIdx? fun p=>kB p = s).map fun i:Nat=>(i:Int)
theorem Zrh (l:List (List Int)) (p:List Int) (s:ByteArray):firstG (l ++ [p]) s = match firstG l s with | some i=>some i | none=>if s = kB p then some (l.length:Int) else none:=by
 unfold firstG
 rw [List.findIdx?_append]
 cases h:l.findIdx? (fun p=>decide (kB p = s)) with
 | some i=>simp
 | none=>
  by_cases hp:kB p = s
  ·simp [hp]
  ·have:¬ s = kB p:=fun e=>hp e.symm
   simp [hp,this]
def Byt (l:List Int):Prop:=∀ x∈l,0<=x/\x < 256
theorem Zky {l:List (List Int)} (h:∀ p∈l,Byt p) {q:List Int} (hq:Byt q):firstG l (kB q) = if 0<=idxL l q then some (idxL l q) else none:=by
 have hfun:l.findIdx? (fun p=>decide (kB p = kB q)) = l.findIdx? (fun p=>decide (p = q)):=by
  induction l with
  | nil=>rfl
  | cons p l ih=>
   rw [List.findIdx?_cons,List.findIdx?_cons,ih (fun r hr=>h r (by simp [hr]))]
   have:decide (kB p = kB q) = decide (p = q):=by
    rw [decide_eq_decide];exact kB_eq (h p (by simp)) hq
   rw [this]
 unfold firstG idxL idxF
 rw [hfun]
 cases l.findIdx? (fun p=>decide (p = q)) with
 | some i=>simp
 | none=>simp
theorem Zpp {n:Int} {k:Nat} {l:List Int} (h:patB n k l = true) (hn:n<=256):Byt l:=fun x hx=>by
 have:=(Zaz.1 h).2.1 x hx;omega
theorem Zid {n:Nat} (hn:n<=8) {wl:List Int}:validW n wl = true ↔ wl.length<=200/\∀ a∈wl,a∈ltrs n:=by
 unfold validW
 rw [Bool.and_eq_true,decide_eq_true_iff,List.all_eq_true]
 have:∀ a,okLetter n a = true ↔ a∈ltrs n:=by
  intro a;rw [Zea,Zaw];omega
 simp only [this]
end Go.Proofs.YthleokaeobdamaaGreat
