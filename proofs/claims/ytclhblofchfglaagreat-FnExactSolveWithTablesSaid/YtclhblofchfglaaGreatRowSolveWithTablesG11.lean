/- The program's search of patterns: its state (law 16). -/
import Derived.Test.YtclhblofchfglaaGreatRowSolveWithTablesG9
import Derived.Test.YtclhblofchfglaaGreatRowSolveWithTablesG10
import Derived.Test.YtclhblofchfglaaGreatRowSolveWithTablesG4
import Derived.Deep.RegionHeld3
import Derived.Test.YtclhblofchfglaaGreatRowSolveWithTablesG3
import Derived.Deep.DeepCutAuto
namespace Go.Proofs.YtclhblofchfglaaGreat
open Go.RowKit
set_option maxRecDepth 10000
theorem Acc.one {α:Type} [Rp α] {w:World} (B:Nat) (e:TypeId) {cs:List Value} {x:α} {fp:List Nat} (h:Rp.rep w cs x fp) {g:Nat} (hg:g = w.heap.size) (hB:B<=g):Acc B e (w.alloc (.cells cs.toArray e)) (.slice (some ⟨g,0,none⟩) 1 1) [x] [fp]:=by
 subst hg
 have hk:Only [] w (w.alloc (.cells cs.toArray e)):=zO.alloc _
 refine ⟨⟨[cs],⟨by simp [Rp.len h],.inr ⟨w.heap.size,1,cs.toArray,rfl,hB,heap_alloc_new w _,Nat.le_refl _,by unfold maxLen;omega,by simp [Rp.len h],by simpa using List.take_of_length_le (Nat.le_of_eq (Rp.len h))⟩⟩,rfl,fun k h1 h2 h3=>?_⟩,rfl,?_⟩
 ·have:k = 0:=by simpa using h1
  subst this
  exact zK h hk
 ·intro g hg hm
  simp only [Value.ownBlock,Option.some.injEq] at hg
  subst hg
  have:=Rp.lt h _ (by simpa using hm)
  omega
section
variable {P:Program} {α:Type} [Rp α] {ops:Array Oper} {rest:List Oper} {o:Oper} {a:Act} {w:World} {Q:Exit->Act->World->Prop}
theorem Zbv (hgd:o.guard = none) (s x:Operand) (t:TypeId)
  (ho:o.op = .call { callee:=.builtin .append,args:=#[s,x],argTypes:=#[t,t] })
  (B:Nat) (e:TypeId) (i:TypeInfo) (z:Value) (bytes:Nat) (ht:P.underlying t = some (.slice e)) (hi:P.info? e = some i) (hz:i.zero = some z)
  (hsize:i.size = Rp.size α) (hby:i.bytes = bytes) (hzs:z.cells.size = Rp.size α) (hsz:0 < Rp.size α) (hbb:bytes<=65536)
  (w0:World) (v:Value) (l:List α) (fs:List (List Nat)) (hs:a.eval s = v) (hA:Acc B e w0 v l fs) (hK0:Only [] w0 w) (hB:B<=w0.heap.size)
  (g c:Nat) (cs:List Value) (y:α) (fp:List Nat) (hx:a.eval x = .slice (some ⟨g,0,none⟩) 1 c) (hsrc:∀ j u,cs[j]? = some u->w.cell? ⟨g,j,none⟩ = some u) (hcs:∀ u∈cs,u.oneCell' = true)
  (hy:Rp.rep w cs y fp) (hap:∀ b∈fp,v.ownBlock ≠ some b) (hlen:l.length + 1<=1073741824)
  (h:∀ v' w',Acc B e w' v' (l ++ [y]) (fs ++ [fp])->Only v.ownBlock.toList w w'->(∀ wz,Only [] wz w->wz.heap.size<=B->Only [] wz w') ->
   (Fresh B w0 fs.flatten->Fresh w0.heap.size w fp->Fresh B w' (fs ++ [fp]).flatten)->(v'.ownBlock = v.ownBlock\/v'.ownBlock = some w.heap.size)->wpList P ops Q rest (a.put o.dst v') w'):wpList P ops Q (o :: rest) a w:=
 wpList_plain hgd fun _ hK=>Zez s x t ho B e i z bytes ht hi hz hsize hby hzs hsz hbb w0 v l fs hs hA hK0 hB g c cs y fp hx hsrc hcs hy hap hlen fun v' w' h1 h2 h3 h4 h5=>hK _ _ (h v' w' h1 h2 h3 h4 h5)
end
theorem Zpn {n:Int} {m:Nat} {p q:List Int} (hn:n<=256) (hp:patB n m p = true) (hq:patB n m q = true):kB p = kB q ↔ p = q:=
 kB_eq (fun x hx=>by have:=(Zat.1 hp).2.1 x hx;omega) (fun x hx=>by have:=(Zat.1 hq).2.1 x hx;omega)
def metB (L:List (List Int)) (s:ByteArray):Bool:=L.any fun q=>decide (kB q = s)
theorem Zmk (L:List (List Int)) (q:List Int) (s:ByteArray):(if s = kB q then true else metB L s) = metB (L ++ [q]) s:=by
 unfold metB
 rw [List.any_append]
 by_cases h:s = kB q
 ·subst h;simp
 ·have h':¬ kB q = s:=fun e=>h e.symm
  simp [h,h']
theorem Zrb {n:Int} {m:Nat} {L:List (List Int)} {q:List Int} (hn:n<=256) (hL:∀ p∈L,patB n m p = true) (hq:patB n m q = true):metB L (kB q) = decide (q∈L):=by
 unfold metB
 rw [Bool.eq_iff_iff,List.any_eq_true]
 simp only [decide_eq_true_eq]
 constructor
 ·rintro ⟨p,h1,h2⟩
  rw [(Zpn hn (hL p h1) hq).1 h2] at h1
  exact h1
 ·intro h;exact ⟨q,h,rfl⟩
structure PBf (x:Puzzle) (m:Nat) (w:World) (m1:Nat) (W:World) (M:Nat) (L:List (List Int)) (D:List Int) (wr:World) (v1 v2:Value) (fs fd:List (List Nat)):Prop where
 acc:Acc w.heap.size 25 wr v1 L fs
 dep:Acc w.heap.size 2 wr v2 D fd
 fr:Fresh w.heap.size wr fs.flatten
 mp:MpB wr M L.length (metB L)
 dl:D.length = L.length
 ll:L.length<=3000
 pat:∀ q∈L,patB x.points m q = true
 rng:∀ d∈D,0<=d/\d<=D.length
 a2:∀ g,v2.ownBlock = some g->v1.ownBlock ≠ some g/\g ∉ fs.flatten/\g ≠ M
 a1:v1.ownBlock ≠ some M/\M ∉ fs.flatten
 zone:∀ g,(g = M\/v1.ownBlock = some g\/v2.ownBlock = some g)->(w.heap.size<=g/\g < m1)\/W.heap.size<=g
 keep:∀ g,(g < w.heap.size\/(m1<=g/\g < W.heap.size))->wr.heap[g]? = W.heap[g]?
 on:Only [] w wr
 sz:W.heap.size<=wr.heap.size
 mw:w.heap.size<=m1/\m1<=W.heap.size
section
variable {x:Puzzle} {m:Nat} {w:World} {m1:Nat} {W:World} {M:Nat} {L:List (List Int)} {D:List Int} {wr:World} {v1 v2:Value} {fs fd:List (List Nat)}
theorem PBf.only {wr':World} (h:PBf x m w m1 W M L D wr v1 v2 fs fd) (ho:Only [] wr wr'):PBf x m w m1 W M L D wr' v1 v2 fs fd:=
 ⟨h.acc.keep ho,h.dep.keep ho,h.fr.keep ho,h.mp.keep ho,h.dl,h.ll,h.pat,h.rng,h.a2,h.a1,h.zone,fun g hg=>by
  have hz:=h.sz;have hw:=h.mw
  rw [ho.block g (by omega) (by simp)];exact h.keep g hg,h.on.trans ho,Nat.le_trans h.sz ho.size,h.mw⟩
theorem PBf.start {W5:World} (h:PBf x m w m1 W M L D wr v1 v2 fs fd) (ho:Only [] wr W5):PBf x m w wr.heap.size W5 M L D W5 v1 v2 fs fd:=by
 have hw:=h.mw;have hz:=h.sz
 refine ⟨h.acc.keep ho,h.dep.keep ho,h.fr.keep ho,h.mp.keep ho,h.dl,h.ll,h.pat,h.rng,h.a2,h.a1,fun g hg=>.inl ?_,fun g _=>rfl,h.on.trans ho,Nat.le_refl _,by omega,ho.size⟩
 have h1:=h.zone g hg
 refine ⟨by omega,?_⟩
 rcases hg with rfl | hg | hg
 ·exact h.mp.lt
 ·exact (h.acc.ownlt g hg).2
 ·exact (h.dep.ownlt g hg).2
theorem PBf.fd0 (h:PBf x m w m1 W M L D wr v1 v2 fs fd):fd.flatten = []:=by
 obtain ⟨css,ho,hcl,hr⟩:=h.dep.own
 have hl:=h.dep.fl
 have:fd = List.replicate fd.length []:=by
  apply List.ext_getElem (by simp)
  intro k h1 h2
  have:=(hr k (by omega) (by omega) h1).2.2
  simpa using this
 rw [this];exact flatten_nil _
theorem PBf.step {wp wa wb wc wd:World} {v1' v2':Value} {s:List Int} {d:Int} {f:List Nat}
  (h:PBf x m w m1 W M L D wr v1 v2 fs fd) (hL:L.length < 3000) (hp:patB x.points m s = true) (hd:0<=d/\d<=D.length + 1)
  (hm:MpB wp M (L.length + 1) (metB (L ++ [s]))) (ho:Only [M] wr wp)
  (ka:Only [] wp wa) (hA:Acc w.heap.size 25 wb v1' (L ++ [s]) (fs ++ [f])) (oA:Only v1.ownBlock.toList wa wb) (nA:v1'.ownBlock = v1.ownBlock\/v1'.ownBlock = some wa.heap.size) (hF:Fresh w.heap.size wb (fs ++ [f]).flatten) (hfM:M ∉ f) (hf2:∀ g∈f,wr.heap.size<=g\/v2.ownBlock ≠ some g)
  (kc:Only [] wb wc) (hD:Acc w.heap.size 2 wd v2' (D ++ [d]) (fd ++ [[]])) (oD:Only v2.ownBlock.toList wc wd) (nD:v2'.ownBlock = v2.ownBlock\/v2'.ownBlock = some wc.heap.size) :
  PBf x m w m1 W M (L ++ [s]) (D ++ [d]) wd v1' v2' (fs ++ [f]) (fd ++ [[]]):=by
 have s1:=ho.size;have s2:=ka.size;have s3:=oA.size;have s4:=kc.size;have s5:=oD.size
 have hz:=h.sz;have hw:=h.mw
 have hMl:=h.mp.lt
 have l1:=h.acc.ownlt
 have l2:=h.dep.ownlt
 have hfl:=h.fr.lt
 have hff:(fs ++ [f]).flatten = fs.flatten ++ f:=by simp
 have hfs:∀ g,v2.ownBlock = some g->g ∉ (fs ++ [f]).flatten:=fun g hg hm=>by
  rw [hff] at hm
  rcases List.mem_append.1 hm with hm | hm
  ·exact (h.a2 g hg).2.1 hm
  ·have:=l2 g hg
   rcases hf2 g hm with h3 | h3
   ·omega
   ·exact h3 hg
 have hv12:∀ g,v2.ownBlock = some g->v1'.ownBlock ≠ some g:=fun g hg he=>by
  rcases nA with h3 | h3
  ·exact (h.a2 g hg).1 (by rw [<- h3];exact he)
  ·rw [h3] at he;injection he with he;have:=l2 g hg;omega
 have hmM:∀ g,v1.ownBlock = some g->g ≠ M:=fun g hg e=>h.a1.1 (by rw [hg,e])
 have hM1:v1'.ownBlock ≠ some M:=fun he=>by
  rcases nA with h3 | h3
  ·exact h.a1.1 (by rw [<- h3];exact he)
  ·rw [h3] at he;injection he with he;omega
 have hM1':M ∉ v1.ownBlock.toList:=by simpa using h.a1.1
 have hM2':M ∉ v2.ownBlock.toList:=by simp;intro he;exact (h.a2 M he).2.2 rfl
 have hN:∀ g,v1'.ownBlock = some g->v1.ownBlock = some g\/W.heap.size<=g:=fun g hg=>by
  rcases nA with h3 | h3
  ·exact .inl (by rw [<- h3];exact hg)
  ·rw [h3] at hg;injection hg with hg;right;omega
 have hN2:∀ g,v2'.ownBlock = some g->v2.ownBlock = some g\/wb.heap.size<=g:=fun g hg=>by
  rcases nD with h3 | h3
  ·exact .inl (by rw [<- h3];exact hg)
  ·rw [h3] at hg;injection hg with hg;right;omega
 have hko:Only (M :: (v1.ownBlock.toList ++ v2.ownBlock.toList)) wr wd:=
  ((((ho.mono (by simp)).keepThen ka).then_ oA (by intro b hb _;simp at hb ⊢;simp [hb])).keepThen kc).then_ oD (by intro b hb _;simp at hb ⊢;simp [hb])
 refine ⟨hA.only (kc.weaken _ |>.trans oD) (fun b hb hm=>hfs b (by simpa using hm) hb) (fun g hg hm=>hv12 g (by simpa using hm) hg),hD,
  hF.only (kc.weaken _ |>.trans oD) (fun b hb hm=>hfs b (by simpa using hm) hb),
  by simpa using ((((hm.keep ka).only oA hM1').keep kc).only oD hM2'),by simp [h.dl],by simp;omega,?_,?_,?_,⟨hM1,?_⟩,?_,fun g hg=>?_,?_,by omega,h.mw⟩
 ·intro q hq
  rcases List.mem_append.1 hq with hq | hq
  ·exact h.pat q hq
  ·simp at hq;subst hq;exact hp
 ·intro q hq
  rw [List.length_append,List.length_singleton]
  rcases List.mem_append.1 hq with hq | hq
  ·have:=h.rng q hq;omega
  ·simp at hq;subst hq;omega
 ·intro g hg
  rcases hN2 g hg with h3 | h3
  ·exact ⟨hv12 g h3,hfs g h3,(h.a2 g h3).2.2⟩
  ·refine ⟨fun he=>?_,fun hm=>?_,by omega⟩
   ·have:=(hA.ownlt g he).2;omega
   ·have:=hF.lt g hm;omega
 ·rw [hff];intro hm
  rcases List.mem_append.1 hm with hm | hm
  ·exact h.a1.2 hm
  ·exact hfM hm
 ·rintro g (rfl | hg | hg)
  ·exact h.zone _ (.inl rfl)
  ·rcases hN g hg with h3 | h3
   ·exact h.zone g (.inr (.inl h3))
   ·exact .inr h3
  ·rcases hN2 g hg with h3 | h3
   ·exact h.zone g (.inr (.inr h3))
   ·right;omega
 ·rw [hko.block g (by omega) (fun hm=>?_)]
  ·exact h.keep g hg
  ·simp only [List.mem_cons,List.mem_append,Option.mem_toList] at hm
   have:=h.zone g (by rcases hm with hm | hm | hm;exact .inl hm;exact .inr (.inl hm);exact .inr (.inr hm))
   omega
 ·refine h.on.then_ hko (fun g hm hg=>?_)
  simp only [List.mem_cons,List.mem_append,Option.mem_toList] at hm
  have:=h.zone g (by rcases hm with hm | hm | hm;exact .inl hm;exact .inr (.inl hm);exact .inr (.inr hm))
  omega
theorem PBf.out (h:PBf x m w m1 W M L D wr v1 v2 fs fd):Rd wr v1 L (v1.ownBlock.toList ++ fs.flatten)/\Rd wr v2 D v2.ownBlock.toList/\Fresh w.heap.size wr ((v1.ownBlock.toList ++ fs.flatten) ++ v2.ownBlock.toList):=by
 have h0:=h.fd0
 have h2:=h.dep.rd (by decide)
 rw [h0,List.append_nil] at h2
 have hf1:=h.acc.fresh h.fr
 have hf2:=h.dep.fresh (by rw [h0];exact Fresh.nil _ _)
 rw [h0,List.append_nil] at hf2
 refine ⟨h.acc.rd (by decide),h2,List.nodup_append.2 ⟨hf1.nd,hf2.nd,fun a ha b hb e=>?_⟩,fun b hb=>?_,hf1.own.append hf2.own⟩
 ·subst e
  have hb':v2.ownBlock = some a:=by simpa using hb
  rcases List.mem_append.1 ha with ha | ha
  ·exact (h.a2 a hb').1 (by simpa using ha)
  ·exact (h.a2 a hb').2.1 ha
 ·rcases List.mem_append.1 hb with hb | hb
  ·exact hf1.ge b hb
  ·exact hf2.ge b hb
theorem PBf.old (h:PBf x m w m1 W M L D wr v1 v2 fs fd) {β:Type} [Rp β] {cs:List Value} {y:β} {fp:List Nat} (hr:Rp.rep W cs y fp) (hf:∀ g∈fp,g < w.heap.size\/(m1<=g/\g < W.heap.size)):Rp.rep wr cs y fp:=
 Rp.frame hr fun g hg=>h.keep g (hf g hg)
end
set_option maxHeartbeats 8000000 in
theorem Zod (cs:List Value) (x:Puzzle) (fp:List Nat) (v:Value) (tr:List Int) (ft:List Nat) (w:World) (h:Rp.rep w cs x fp) (hv:Rd w v tr ft) (hx:validPz x = true) (hp:patB x.points tr.length tr = true) (htl:tr.length<=1000) :
  Calls Tryz.prog 179 #[.agg cs.toArray,v] w fun e w'=>∃ u1 u2 f1 f2,e = .returned (.tuple #[u1,u2,.bool (bFrom x 3001 0 ([tr],[0])).isSome]) /\
   Rd w' u1 ((bFrom x 3001 0 ([tr],[0])).getD ([],[])).1 f1/\Rd w' u2 ((bFrom x 3001 0 ([tr],[0])).getD ([],[])).2 f2/\Fresh w.heap.size w' (f1 ++ f2)/\Only [] w w':=by
 have h0:=h
 obtain ⟨v2,rfl,p0,p1,h2⟩:=h
 obtain ⟨A2,C2,_,_,rfl,-,-⟩:=h2.open_
 obtain ⟨a,cap,rfl,Iv⟩:=hv.ints
 obtain ⟨g1,g2,g3,g4⟩:=Zad hx
 clear Iv p0 p1
 have Hp:=zH hp
 have Hx:=zH hx
 clear hp hx
 have X0:Blk (w.alloc (.cells #[.int .i64 x.points,.string x.names,.slice A2 x.moves.length C2] 33)) w.heap.size [.int .i64 x.points,.string x.names,.slice A2 x.moves.length C2]:=Blk.new w _ _
 obtain ⟨R,hR⟩:∃ R,R = bFrom x 3001 0 ([tr],[0]):=⟨_,rfl⟩
 rw [<- hR]
 have HR:=zH hR
 clear hR
 have hmm:=@run_makeMap Tryz.prog
 go_enter Tryz.func179,Tryz.ntmps179
 have hkl:(kB tr).size<=maxLen:=by rw [kB_size];unfold maxLen;omega
 go_upto_region 3 with (first
  | (go_at_call 105;(with_reducible refine (Zdb _ tr _ _ (zK hv zA) (by omega)).mono ?_);rintro e w1 ⟨u1,f1,rfl,r1,F1,t1⟩;obtain ⟨a1,c1,rfl,I1⟩:=r1.ints;clear I1;have hz1:=t1.size;simp at hz1;have hM:=MpB.made ((w1.alloc (.cells #[.slice a1 tr.length c1] 25)).alloc (.cells #[.int .i64 0] 2)) (M:=w1.heap.size + 1 + 1) (by simp))
  | (go_at_call 160;(with_reducible refine (Zby _ tr _ _ (zK hv zA) htl).mono ?_);rintro e w2 ⟨rfl,t2⟩;obtain ⟨w3,hrun3,hM3,hO3⟩:=(hM.keep t2).run_put hkl true (by unfold maxLen;omega))
  | fail)
 have X3:Blk w3 w.heap.size [.int .i64 x.points,.string x.names,.slice A2 x.moves.length C2]:=(((((X0.keep t1).keep ((Only.refl [] _).alloc _)).keep ((Only.refl [] _).alloc _)).keep ((Only.refl [] _).alloc _)).keep t2).only hO3 (by simp;omega)
 have K2:Only [] w w2:=zA
 have K3:Only [] w w3:=K2.then_ hO3 (by intro b hb hl;simp at hb;omega)
 have hz2:=t2.size
 simp at hz2
 have hz3:=hO3.size
 have hf1:∀ g∈f1,w.heap.size < g/\g < w1.heap.size:=fun g hg=>⟨by have:=F1.ge g hg;simp at this;omega,F1.lt g hg⟩
 have kk:Only [] (w1.alloc (.cells #[.slice a1 tr.length c1] 25)) w2:=((((Only.refl [] _).alloc _).alloc _)).trans t2
 have kk2:Only [] ((w1.alloc (.cells #[.slice a1 tr.length c1] 25)).alloc (.cells #[.int .i64 0] 2)) w2:=((Only.refl [] _).alloc _).trans t2
 have P0:∀ W:World,W = w3->PBf x tr.length w w3.heap.size w3 (w1.heap.size + 1 + 1) [tr] [0] W (.slice (some ⟨w1.heap.size,0,none⟩) 1 1) (.slice (some ⟨w1.heap.size + 1,0,none⟩) 1 1) [f1] [[]]:=by
  rintro W rfl
  have hA1:=((Acc.one w.heap.size 25 (cs:=[.slice a1 tr.length c1]) r1 rfl (by omega)).keep kk)
  have hA2:=((Acc.one (α:=Int) (w:=w1.alloc (.cells #[.slice a1 tr.length c1] 25)) w.heap.size 2 (cs:=[.int .i64 0]) (x:=(0:Int)) (fp:=[]) (int_rd _ (by unfold I64;omega)) (g:=w1.heap.size + 1) (by simp) (by omega)).keep kk2)
  have hFr:Fresh w.heap.size w2 [f1].flatten:=by
   have:=(F1.mono (B':=w.heap.size) (by simp)).keep (((Only.refl [] w1).alloc (.cells #[.slice a1 tr.length c1] 25)).trans kk)
   simpa using this
  refine ⟨hA1.only hO3 (fun b hb hm=>?_) (fun g hg hm=>?_),hA2.only hO3 (fun b hb hm=>by simp at hb) (fun g hg hm=>?_),hFr.only hO3 (fun b hb hm=>?_),?_,rfl,by simp,by simpa using Hp.out,by simp,?_,⟨by simp [Value.ownBlock];omega,?_⟩,?_,fun _ _=>rfl,K3,Nat.le_refl _,by omega,Nat.le_refl _⟩
  ·have:=hf1 b (by simpa using hb);simp at hm;omega
  ·simp [Value.ownBlock] at hg;simp at hm;omega
  ·simp [Value.ownBlock] at hg;simp at hm;omega
  ·have:=hf1 b (by simpa using hb);simp at hm;omega
  ·exact hM3.congr fun s=>by rw [show (if s = kB tr then true else false) = (if s = kB tr then true else metB [] s) from rfl,Zmk,List.nil_append]
  ·intro g hg
   simp only [Value.ownBlock,Option.some.injEq] at hg
   subst hg
   refine ⟨by simp [Value.ownBlock],fun hm=>?_,by omega⟩
   have:=hf1 _ (by simpa using hm);omega
  ·intro hm
   have:=hf1 _ (by simpa using hm);omega
  ·rintro g (rfl | hg | hg)
   ·omega
   ·simp [Value.ownBlock] at hg;omega
   ·simp [Value.ownBlock] at hg;omega
 obtain ⟨b1,hb1⟩:∃ b1,b1 = w1.heap.size:=⟨_,rfl⟩
 rw [<- hb1] at P0 hM3 ⊢
 clear kk kk2 hz2 hz1 hf1 r1 F1 t1 t2 hM hO3 hM3 X0 hb1 K2 hrun3
 have hll:(ltrs x.moves.length).length<=1000:=by rw [Zet];omega
 have hmv:∀ g∈x.moves,PM.IsP g/\g.length<=1000:=fun g hg=>by have:=g4 g hg;have:=(Zcd.1 this.2);exact ⟨this.2,by omega⟩
 have x0:=X3.cell 2 rfl
 go_upto_region 5 with (first
  | (go_at_call 118;(with_reducible refine (Zii x.moves.length _ (by omega)).mono ?_);rintro e w4 ⟨u4,f4,rfl,r4,F4,t4⟩;obtain ⟨a4,c4,rfl,I4⟩:=r4.ints)
  | fail)
 have K4:Only [] w w4:=K3.trans t4
 have X4:=X3.keep t4
 obtain ⟨ls,hls⟩:∃ ls,ls = ltrs x.moves.length:=⟨_,rfl⟩
 rw [<- hls] at r4 I4 hll
 rw [<- hls]
 have Hls:=zH hls
 have hml:x.moves.length<=1000:=by omega
 obtain ⟨iL,hiL,hL0,hL1,hL2⟩:=info_parts Tryz.info22
 obtain ⟨iD,hiD,hD0,hD1,hD2⟩:=info_parts Tryz.info2
 clear hls x0
 go_loopw [10,31] (fun o i wr=>∃ (j:Nat) (fs:List (List Nat)),j<=ls.length/\i = .int .i64 j/\Acc w4.heap.size 25 wr o ((ls.take j).map (mv x.moves)) fs/\(∀ b∈fs.flatten,b < w.heap.size\/w4.heap.size<=b)/\Only [] w4 wr)
  (fun _ i _=>ls.length - (intOf i).toNat)
 case atStart=>exact ⟨0,[],Nat.zero_le _,rfl,Acc.nil _ _ _,by simp,Only.refl _ _⟩
 case round=>
  obtain ⟨W2,hnew⟩:∃ W,W = wr:=⟨_,rfl⟩
  subst hnew
  obtain ⟨j,fs,hj,rfl,hA,hF,hK⟩:=hrel
  by_cases hlt:j < ls.length
  ·obtain ⟨b,off,rfl,-,hc0⟩:=I4.at_ j hlt
   have hc:=hK.cell (by simp) hc0
   have hlj:ls[j]∈ltrs x.moves.length:=by rw [<- Hls.out];exact List.getElem_mem hlt
   have Hlj:=zH hlj
   have x0:=(X4.keep hK).cell 2 rfl
   have hh2:=zK h2 (K4.trans hK)
   have hsn:(ls.take (j + 1)).map (mv x.moves) = (ls.take j).map (mv x.moves) ++ [mv x.moves ls[j]]:=by rw [Zab ls j hlt,List.map_append];rfl
   have Hsn:=zH hsn
   have hzK:=hK.size
   have hzw:=K4.size
   clear hlj hsn hc0
   have hal:((ls.take j).map (mv x.moves)).length + 1<=1073741824:=by simp;omega
   go_wp2_with (first
    | (go_at_call 191;(with_reducible refine (Zfs (.slice A2 x.moves.length C2) x.moves ls[j] _ _ (zK hh2 zA) hmv Hlj.out hml).mono ?_);rintro e w5 ⟨u5,f5,rfl,r5,F5,t5⟩;obtain ⟨a5,c5,rfl,I5⟩:=r5.ints;clear I5;have hB5:w4.heap.size<=W2.heap.size:=hzK;have hf5:∀ b∈f5,b < w.heap.size\/W2.heap.size<=b:=(fun b hb=>(F5 b hb).imp (fun hm=>Rp.lt h2 b hm) id);have hr5:=zK r5 ((Only.refl [] w5).alloc (.cells #[.slice a5 (mv x.moves ls[j]).length c5] 25));have hapb:∀ b∈f5,u10.ownBlock ≠ some b:=(fun b hb he=>by have:=hA.ownlt b he;rcases hf5 b hb with h9 | h9 <;> omega))
    | (at_builtin;refine Zbv rfl _ _ 22 rfl w4.heap.size 25 iL _ 24 Tryz.underlying22 hiL hL0 hL1 hL2 rfl (by decide) (by decide) W2 _ ((ls.take j).map (mv x.moves)) fs rfl hA (t5.alloc _) hB5 w5.heap.size 1 [.slice a5 (mv x.moves ls[j]).length c5] (mv x.moves ls[j]) f5 rfl (lit_src w5 [.slice a5 (mv x.moves ls[j]).length c5] _ rfl) (by intro u hu;simp at hu;subst hu;rfl) hr5 hapb hal ?_;intro v9 w9 hA9 hO9 hP9 hQ9 hN9)
    | fail)
   go_roundw
   case rel=>exact ⟨j + 1,_,by omega,by go_num,by rw [Hsn.out];exact hA9,fun b hb=>by
    rw [List.flatten_append] at hb
    rcases List.mem_append.1 hb with hb | hb
    ·exact hF b hb
    ·exact (hf5 b (by simpa using hb)).imp id (fun h9=>by omega),hP9 w4 ((hK.trans t5).alloc _) (Nat.le_refl _)⟩
   case measure=>simp [intOf];omega
  ·obtain rfl:j = ls.length:=by omega
   rw [List.take_length] at hA
   obtain ⟨mvs,hmvs⟩:∃ mvs,mvs = ls.map (mv x.moves):=⟨_,rfl⟩
   rw [<- hmvs] at hA
   have Hmvs:=zH hmvs
   have hml2:mvs.length = ls.length:=by rw [hmvs,List.length_map]
   have hm1:mvs.length<=1000:=by omega
   have Hml2:=zH hml2
   have hMr:=hA.rd (by decide)
   have hMf:∀ g∈u10.ownBlock.toList ++ fs.flatten,g < w.heap.size\/(w3.heap.size<=g/\g < W2.heap.size):=fun g hg=>by
    have hz5:=t4.size
    rcases List.mem_append.1 hg with hg | hg
    ·have:=hA.ownlt g (by simpa using hg);omega
    ·have h8:=hA.lt g hg
     rcases hF g hg with h9 | h9
     ·exact .inl h9
     ·omega
   have P5:=(P0 w3 rfl).start (t4.trans hK)
   obtain ⟨a10,c10,rfl⟩:=hA.form
   obtain ⟨fm,hfm⟩:∃ fm,fm = (Value.slice a10 mvs.length c10).ownBlock.toList ++ fs.flatten:=⟨_,rfl⟩
   rw [<- hfm] at hMr hMf
   have K5:=K4.trans hK
   clear hfm hA hF hK P0 hmvs hml2 hj hlt
   obtain ⟨W,hW⟩:∃ W,W = W2:=⟨_,rfl⟩
   rw [<- hW] at hMr hMf P5 K5 ⊢
   clear hW
   go_upto_region 10 with fail
   go_loopw [7,8,13] (fun o7 o8 i wr=>∃ (k:Nat) (L:List (List Int)) (D:List Int) (fs fd:List (List Nat)),i = .int .i64 k/\k<=L.length/\PBf x tr.length w w3.heap.size W (b1 + 1 + 1) L D wr o7 o8 fs fd/\R = bFrom x (3001 - k) k (L,D))
    (fun _ _ i _=>3001 - (intOf i).toNat)
   case atStart=>exact ⟨0,[tr],[0],_,_,rfl,by simp,P5,HR.out⟩
   case round=>
    obtain ⟨W3,hnew⟩:∃ W,W = wr:=⟨_,rfl⟩
    subst hnew
    obtain ⟨k,L,D,fs,fd,rfl,hk,hF,hRk⟩:=hrel
    have HRk:=zH hRk
    have hL3:=hF.ll
    clear hRk
    obtain ⟨a7,c7,rfl⟩:=hF.acc.form
    by_cases hlt:k < L.length
    ·have hst:=HRk.out.trans (Zjq hlt hL3)
     rw [<- Hls.out] at hst
     have Hst:=zH hst
     clear hst
     obtain ⟨q,hq⟩:∃ q,q = L.getD k []:=⟨_,rfl⟩
     obtain ⟨d1,hd1⟩:∃ d,d = D.getD k 0 + 1:=⟨_,rfl⟩
     rw [<- hq,<- hd1] at Hst
     have Hq:=zH hq.symm
     have Hd:=zH hd1.symm
     clear hq hd1
     go_wp2
     go_loopw [7,8,51] (fun o7 o8 i wr=>∃ (i':Nat) (L:List (List Int)) (D:List Int) (fs fd:List (List Nat)),i = .int .i64 i'/\i'<=mvs.length/\PBf x tr.length w w3.heap.size W (b1 + 1 + 1) L D wr o7 o8 fs fd/\k < L.length/\L.getD k [] = q/\D.getD k 0 + 1 = d1/\R = (bLets x q d1 (ls.drop i') (L,D)).bind (bFrom x (3001 - (k + 1)) (k + 1)))
      (fun _ _ i _=>mvs.length - (intOf i).toNat)
     case atStart=>exact ⟨0,L,D,fs,fd,rfl,Nat.zero_le _,hF,hlt,Hq.out,Hd.out,by rw [List.drop_zero];exact Hst.out⟩
     case round=>
      clear hL3 hF HRk Hst Hq Hd hlt hk
      obtain ⟨W4,hnew⟩:∃ W,W = wr:=⟨_,rfl⟩
      subst hnew
      obtain ⟨i,L,D,fs,fd,rfl,hi,hF,hlt,hq,hd,hRi⟩:=hrel
      have Hq:=zH hq
      have Hd:=zH hd
      have HRi:=zH hRi
      have hL3:=hF.ll
      have HDl:=zH hF.dl
      clear hq hd hRi
      have hMo:Rd W4 (.slice a10 mvs.length c10) mvs fm:=hF.old hMr hMf
      obtain ⟨a7',c7',rfl⟩:=hF.acc.form
      obtain ⟨a8,c8,rfl⟩:=hF.dep.form
      by_cases hil:i < mvs.length
      ·have hq1:=hMo.open_
       obtain ⟨aq,cq,obq,fpq,hv1,-,hS1⟩:=hq1
       injection hv1 with e1 _ e2
       subst e1
       subst e2
       obtain ⟨bm,om,um,rfl,-,hcm,hum⟩:=hS1.atRow i hil
       have hq2:=(hF.acc.rd (by decide)).open_
       obtain ⟨aq,cq,obq,fpq,hv1,-,hS2⟩:=hq2
       injection hv1 with e1 _ e2
       subst e1
       subst e2
       obtain ⟨bl,ol,ul,rfl,-,hcl,hul⟩:=hS2.atRow k hlt
       have hil2:i < ls.length:=by have:=Hml2.out;omega
       have hmi:mvs[i] = mv x.moves ls[i]:=by simp [Hmvs.out]
       have hqk:L[k] = q:=by have:=Hq.out;rw [List.getD_eq_getElem?_getD,List.getElem?_eq_getElem hlt] at this;exact this
       have hla:ls[i]∈ltrs x.moves.length:=by rw [<- Hls.out];exact List.getElem_mem hil2
       have hpat:=hF.pat L[k] (List.getElem_mem hlt)
       rw [hqk] at hul hpat
       rw [hmi] at hum
       have hql:q.length<=1000:=by rw [(Zat.1 hpat).1];exact htl
       have hmp:=mv_pn (Zdh Hx.out) hla
       have hrq:∀ z∈q,0<=z/\z < (mv x.moves ls[i]).length:=fun z hz=>by have:=(Zat.1 hpat).2.1 z hz;rw [hmp.1];omega
       have hps:patB x.points tr.length (nxt x q ls[i]) = true:=nxt_pat Hx.out hpat hla
       obtain ⟨s,hs⟩:∃ s,s = nxt x q ls[i]:=⟨_,rfl⟩
       rw [<- hs] at hps
       have hsl:s.length<=1000:=by rw [(Zat.1 hps).1];exact htl
       have hkz:(kB s).size<=maxLen:=by rw [kB_size];unfold maxLen;omega
       have hmet:metB L (kB s) = decide (s∈L):=Zrb (by omega) hF.pat hps
       have hdr:ls.drop i = ls[i] :: ls.drop (i + 1):=List.drop_eq_getElem_cons hil2
       have Hdr:=zH hdr
       have Hs:=zH hs
       have Hps:=zH hps
       have Hrq:=zH hrq
       have hcs:PM.comp q (mv x.moves ls[i]) = s:=by rw [hs];rfl
       have Hcs:=zH hcs
       clear hs hps hdr hrq hcs hmi hqk hla hpat hmp
       by_cases hmem:s∈L
       ·have hmt:metB L (kB s) = true:=by rw [hmet];simp [hmem]
        have Hmet:=zH hmt
        have Hmem:=zH hmem
        clear hmt hmet hmem
        go_wp2_with (first
         | (go_at_call 186;(with_reducible refine (Zfm um ul (mv x.moves ls[i]) q _ _ _ (zK hum zA) (zK hul zA) Hrq.out hql).mono ?_);rintro e w5 ⟨u5,f5,rfl,r5,F5,t5⟩;rw [Hcs.out] at r5)
         | (go_at_call 160;(with_reducible refine (Zby u5 s _ _ (zK r5 zA) hsl).mono ?_);rintro e w6 ⟨rfl,t6⟩;have k6:Only [] W4 w6:=t5.trans t6;have hrun6:=(hF.mp.keep k6).run_at hkz;rw [Hmet.out] at hrun6)
         | fail)
        go_roundw
        case rel=>exact ⟨i + 1,L,D,fs,fd,by go_num,by omega,hF.only k6,hlt,Hq.out,Hd.out,by rw [HRi.out,Hdr.out,Zmb (by rw [<- Hs.out];exact Hmem.out)]⟩
        case measure=>simp [intOf];omega
       ·have hmt:metB L (kB s) = false:=by rw [hmet];simp [hmem]
        have Hmet:=zH hmt
        have Hmem:=zH hmem
        clear hmt hmet hmem
        by_cases hfull:L.length = 3000
        ·have Hfull:=zH hfull
         have hfb:((L.length:Int) == 3000) = true:=by simp [hfull]
         have hno:R = none:=by rw [HRi.out,Hdr.out,Zjr (by rw [<- Hs.out];exact Hmem.out) hfull];rfl
         have Hno:=zH hno
         clear hfull hno
         go_wp2_with (first
          | (go_at_call 186;(with_reducible refine (Zfm um ul (mv x.moves ls[i]) q _ _ _ (zK hum zA) (zK hul zA) Hrq.out hql).mono ?_);rintro e w5 ⟨u5,f5,rfl,r5,F5,t5⟩;rw [Hcs.out] at r5)
          | (go_at_call 160;(with_reducible refine (Zby u5 s _ _ (zK r5 zA) hsl).mono ?_);rintro e w6 ⟨rfl,t6⟩;have k6:Only [] W4 w6:=t5.trans t6;have hrun6:=(hF.mp.keep k6).run_at hkz;rw [Hmet.out] at hrun6)
          | fail)
         refine bodyPost_ret (v:=.tuple #[.slice none 0 0,.slice none 0 0,.bool false]) (by simp [results,Tryz.results179,go_sem]) rfl ⟨.slice none 0 0,.slice none 0 0,[],[],by rw [Hno.out];rfl,by rw [Hno.out];exact nil_rd _,by rw [Hno.out];exact nil_rd _,Fresh.nil _ _,hF.on.trans k6⟩
        ·have hfb:((L.length:Int) == 3000) = false:=by simp;omega
         have hL4:L.length < 3000:=by omega
         clear hfull
         have hkD:k < D.length:=by have:=HDl.out;omega
         have hq3:=(hF.dep.rd (by decide)).ints
         obtain ⟨aq,cq,hv1,hI8⟩:=hq3
         injection hv1 with e1 _ e2
         subst e1
         subst e2
         obtain ⟨b8,o8,rfl,-,hcd⟩:=hI8.at_ k hkD
         obtain ⟨dk,hdk0⟩:∃ dk,dk = D[k]'hkD:=⟨_,rfl⟩
         have hdk:=hF.rng (D[k]'hkD) (List.getElem_mem _)
         rw [<- hdk0] at hcd hdk
         have hdd:dk + 1 = d1:=by
          have:=Hd.out
          rw [List.getD_eq_getElem?_getD,List.getElem?_eq_getElem hkD] at this
          rw [hdk0];exact this
         have Hdd:=zH hdd
         have hdk1:0<=dk:=hdk.1
         have hdk2:dk<=3000:=by have:=hdk.2;have:=HDl.out;omega
         have hdk3:=hdk.2
         have Hdk3:=zH hdk3
         have hw1:IntKind.i64.wrap (dk + 1) = dk + 1:=by rw [IntKind.wrap_i64];omega
         have ha2:=hF.a2 b8 rfl
         have hb8M:b8 ∉ [b1 + 1 + 1]:=by simpa using ha2.2.2
         have hb8l:b8 ∉ (Value.slice (some ⟨bl,ol,none⟩) L.length c7').ownBlock.toList:=by have:=ha2.1;simpa using this
         have hM7:b1 + 1 + 1 ∉ (Value.slice (some ⟨bl,ol,none⟩) L.length c7').ownBlock.toList:=by have:=hF.a1.1;simpa using this
         clear hdk hdk0 hdd hdk3
         have hll1:L.length + 1<=1073741824:=by omega
         have hld1:D.length + 1<=1073741824:=by have:=HDl.out;omega
         have hBW:w.heap.size<=W4.heap.size:=hF.on.size
         have hMl:=hF.mp.lt
         have hI1:I64 (dk + 1):=by unfold I64;omega
         have HI1:=zH hI1
         clear hI1
         go_wp2_with (first
          | (go_at_call 186;(with_reducible refine (Zfm um ul (mv x.moves ls[i]) q _ _ _ (zK hum zA) (zK hul zA) Hrq.out hql).mono ?_);rintro e w5 ⟨u5,f5,rfl,r5,F5,t5⟩;rw [Hcs.out] at r5;obtain ⟨a5,c5,rfl,I5⟩:=r5.ints;clear I5)
          | (go_at_call 160;(with_reducible refine (Zby (.slice a5 s.length c5) s _ _ (zK r5 zA) hsl).mono ?_);rintro e w6 ⟨rfl,t6⟩;have k6:Only [] W4 w6:=t5.trans t6;have hrun6:=(hF.mp.keep k6).run_at hkz;rw [Hmet.out] at hrun6;obtain ⟨w7,hrun7,hM7,hO7⟩:=(hF.mp.keep k6).run_put hkz true (by unfold maxLen;omega);have hcd7:=hO7.cell hb8M (k6.cell (by simp) hcd);have acc7:=(hF.acc.keep k6).only hO7 (fun b hb hm=>hF.a1.2 (by simp at hm;rwa [<- hm])) (fun g hg hm=>hF.a1.1 (by simp at hm;rw [<- hm];exact hg));have dep7:=(hF.dep.keep k6).only hO7 (fun b hb hm=>by rw [hF.fd0] at hb;cases hb) (fun g hg hm=>(hF.a2 g hg).2.2 (by simpa using hm));have hf5M:∀ b∈f5,b ∉ [b1 + 1 + 1]:=(fun b hb hm=>by have:=F5.ge b hb;simp at hm;omega);have r7:=Rp.only (zK r5 t6) hO7 hf5M;have hs7:=hO7.size;have hs6:=k6.size;have r8:=zK r7 ((Only.refl [] w7).alloc (.cells #[.slice a5 s.length c5] 25));have hap8:∀ b∈f5,(Value.slice (some ⟨bl,ol,none⟩) L.length c7').ownBlock ≠ some b:=(fun b hb he=>by have:=F5.ge b hb;have:=(hF.acc.ownlt b he).2;omega);have hB7:w.heap.size<=w7.heap.size:=(by omega))
          | (at_builtin;refine Zbv rfl _ _ 22 rfl w.heap.size 25 iL _ 24 Tryz.underlying22 hiL hL0 hL1 hL2 rfl (by decide) (by decide) w7 (.slice (some ⟨bl,ol,none⟩) L.length c7') L fs rfl acc7 ((Only.refl [] w7).alloc _) hB7 w7.heap.size 1 [.slice a5 s.length c5] s f5 rfl (lit_src w7 [.slice a5 s.length c5] _ rfl) (by intro u hu;simp at hu;subst hu;rfl) r8 hap8 hll1 ?_;intro v9 w9 hA9 hO9 hP9 hQ9 hN9;have hcd9:=hO9.cell hb8l (((Only.refl [] w7).alloc _).cell (by simp) hcd7);have dep9:=(dep7.keep ((Only.refl [] w7).alloc _)).only hO9 (fun b hb hm=>by rw [hF.fd0] at hb;cases hb) (fun g hg hm=>(hF.a2 g hg).1 (by simpa using hm));have hs9:=hO9.size;have hB9:w.heap.size<=w9.heap.size:=(by simp at hs9;omega))
          | (at_builtin;refine Zbv rfl _ _ 25 rfl w.heap.size 2 iD _ 8 Tryz.underlying25 hiD hD0 hD1 hD2 rfl (by decide) (by decide) w9 (.slice (some ⟨b8,o8,none⟩) D.length c8) D fd rfl dep9 ((Only.refl [] w9).alloc _) hB9 w9.heap.size 1 [.int .i64 (dk + 1)] (dk + 1) [] rfl (lit_src w9 [.int .i64 (dk + 1)] _ rfl) (by intro u hu;simp at hu;subst hu;rfl) (int_rd _ HI1.out) (by simp) hld1 ?_;intro v10 w10 hA10 hO10 hP10 hQ10 hN10)
          | fail)
         have hFF:Fresh w.heap.size w9 (fs ++ [f5]).flatten:=by
          have g1:=(Fresh.append (hF.fr.keep t5) F5 hBW (fun b hb=>hF.fr.lt b hb)).keep t6
          have g2:=g1.only hO7 (fun b hb hm=>by
           rcases List.mem_append.1 hb with hb | hb
           ·exact hF.a1.2 (by simp at hm;rwa [<- hm])
           ·exact hf5M b hb hm)
          have g3:=(g2.keep ((Only.refl [] w7).alloc (.cells #[.slice a5 s.length c5] 25))).only hO9 (fun b hb hm=>by
           rcases List.mem_append.1 hb with hb | hb
           ·exact hF.acc.apart b (by simpa using hm) hb
           ·exact hap8 b hb (by simpa using hm))
          simpa using g3
         have hStep:=PBf.step (d:=d1) hF hL4 Hps.out (by have:=Hdd.out;have:=Hdk3.out;omega) (hM7.congr fun z=>Zmk L s z) ((Only.weaken k6 _).trans hO7) ((Only.refl [] w7).alloc _) hA9 hO9 hN9 hFF (fun hm=>hf5M _ hm (by simp)) (fun g hg=>.inl (F5.ge g hg)) ((Only.refl [] w9).alloc _) (by rw [<- Hdd.out];exact hA10) hO10 hN10
         go_roundw
         case rel=>exact ⟨i + 1,L ++ [s],D ++ [d1],_,_,by go_num,by omega,hStep,by simp;omega,by rw [Zde hlt];exact Hq.out,by rw [Zde hkD];exact Hd.out,by rw [HRi.out,Hdr.out,Zma (by rw [<- Hs.out];exact Hmem.out) (by omega),<- Hs.out]⟩
         case measure=>simp [intOf];omega
      ·obtain rfl:i = mvs.length:=by omega
       have hend:R = bFrom x (3001 - (k + 1)) (k + 1) (L,D):=by rw [HRi.out,Hml2.out,List.drop_length];rfl
       have Hend:=zH hend
       clear hend
       go_wp2
       exact ⟨⟨k + 1,L,D,fs,fd,by go_num,by omega,hF,Hend.out⟩,by simp [intOf];omega⟩
    ·obtain rfl:k = L.length:=by omega
     have hend:R = some (L,D):=by rw [HRk.out,Zlt hlt hL3]
     have Hend:=zH hend
     clear hend
     obtain ⟨o1,o2,o3⟩:=hF.out
     go_wp2
     refine bodyPost_ret (v:=.tuple #[.slice a7 L.length c7,u8,.bool true]) (by simp [results,Tryz.results179,go_sem]) rfl ⟨_,_,_,_,by rw [Hend.out];rfl,by rw [Hend.out];exact o1,by rw [Hend.out];exact o2,o3,hF.on⟩
def bTabsK (x:Puzzle):List (List Int)->Option (List Table)
 | []=>some []
 | tr :: trs=>(bTab x tr).bind fun t=>(bTabsK x trs).map (t :: ·)
def bTabs (x:Puzzle) (trs:List (List Int)):Option (List Table):=if inR trs.length 1 4 = true then bTabsK x trs else none
theorem Zfz (x:Puzzle) (tr:List Int):∀ (trs:List (List Int)),bTabsK x (trs ++ [tr]) = (bTabsK x trs).bind fun ts=>(bTab x tr).map fun t=>ts ++ [t]
 | []=>by simp [bTabsK];cases bTab x tr <;> rfl
 | a :: trs=>by
  simp only [List.cons_append,bTabsK,Zfz x tr trs]
  cases bTab x a with
  | none=>rfl
  | some t=>cases bTabsK x trs with
   | none=>rfl
   | some ts=>cases bTab x tr <;> rfl
theorem Zie {x:Puzzle} {trs:List (List Int)} {tr:List Int} (hm:tr∈trs) (h:bTab x tr = none):bTabsK x trs = none:=by
 induction trs with
 | nil=>cases hm
 | cons a trs ih=>
  rcases List.mem_cons.1 hm with rfl | hm
  ·simp [bTabsK,h]
  ·simp only [bTabsK,ih hm]
   cases bTab x a <;> rfl
def BT1 (W wx:World) (s8 s9:Value) (t:Option Table):Prop:=
 ∃ g A1 A2 A3 C1 C2 C3 f,s8 = .pointer (some ⟨g,0,none⟩)/\s9 = .bool t.isSome/\Blk wx g [.slice A1 (t.getD noTab).tracked.length C1,.slice A2 (t.getD noTab).patterns.length C2,.slice A3 (t.getD noTab).distances.length C3] /\
  Rp.rep wx [.slice A1 (t.getD noTab).tracked.length C1,.slice A2 (t.getD noTab).patterns.length C2,.slice A3 (t.getD noTab).distances.length C3] (t.getD noTab) f/\Fresh W.heap.size wx f/\Only [] W wx
theorem BT1.of {W w5:World} {t:Option Table} {g:Nat} {A1 A2 A3:Option Addr} {n1 n2 n3 C1 C2 C3:Nat} {f:List Nat} {cs:List Value} (hz:Blk w5 g cs) (hcs:cs.length = 3) (hK:Only [] W w5) (e1:n1 = (t.getD noTab).tracked.length) (e2:n2 = (t.getD noTab).patterns.length) (e3:n3 = (t.getD noTab).distances.length)
  (hr:Rp.rep w5 [.slice A1 n1 C1,.slice A2 n2 C2,.slice A3 n3 C3] (t.getD noTab) f) (hF:Fresh W.heap.size w5 f) (hg:g ∉ f) (hW:W.heap.size<=g) :
  BT1 W (((w5.setCell ⟨g,0,none⟩ (.slice A1 n1 C1)).setCell ⟨g,1,none⟩ (.slice A2 n2 C2)).setCell ⟨g,2,none⟩ (.slice A3 n3 C3)) (.pointer (some ⟨g,0,none⟩)) (.bool t.isSome) t:=by
 subst e1;subst e2;subst e3
 have ho:Only [g] w5 (((w5.setCell ⟨g,0,none⟩ (.slice A1 (t.getD noTab).tracked.length C1)).setCell ⟨g,1,none⟩ (.slice A2 (t.getD noTab).patterns.length C2)).setCell ⟨g,2,none⟩ (.slice A3 (t.getD noTab).distances.length C3)):=((zO.setCell (by simp) _).setCell (by simp) _).setCell (by simp) _
 have hb:=((hz.set 0 (.slice A1 (t.getD noTab).tracked.length C1)).set 1 (.slice A2 (t.getD noTab).patterns.length C2)).set 2 (.slice A3 (t.getD noTab).distances.length C3)
 have hnf:∀ b∈f,b ∉ [g]:=fun b hm1 hm=>by simp at hm;subst hm;exact hg hm1
 refine ⟨g,A1,A2,A3,C1,C2,C3,f,rfl,rfl,?_,Rp.only hr ho hnf,hF.only ho hnf,hK.then_ ho (by intro b hm hl;simp at hm;omega)⟩
 obtain ⟨u0,u1,u2,rfl⟩:∃ u0 u1 u2,cs = [u0,u1,u2]:=by
  match cs,hcs with
  | [u0,u1,u2],_=>exact ⟨u0,u1,u2,rfl⟩
 simpa only [List.set] using hb
theorem BT1.of2 {W w5:World} {t:Option Table} {g:Nat} {A1 A2 A3:Option Addr} {n1 n2 n3 C1 C2 C3:Nat} {f:List Nat} {e:TypeId} (hK:Only [] W w5) (e1:n1 = (t.getD noTab).tracked.length) (e2:n2 = (t.getD noTab).patterns.length) (e3:n3 = (t.getD noTab).distances.length)
  (hr:Rp.rep w5 [.slice A1 n1 C1,.slice A2 n2 C2,.slice A3 n3 C3] (t.getD noTab) f) (hF:Fresh W.heap.size w5 f) (hg:g = w5.heap.size) :
  BT1 W (w5.alloc (.cells #[.slice A1 n1 C1,.slice A2 n2 C2,.slice A3 n3 C3] e)) (.pointer (some ⟨g,0,none⟩)) (.bool t.isSome) t:=by
 subst e1;subst e2;subst e3;subst hg
 have ho:Only [] w5 (w5.alloc (.cells #[.slice A1 (t.getD noTab).tracked.length C1,.slice A2 (t.getD noTab).patterns.length C2,.slice A3 (t.getD noTab).distances.length C3] e)):=zO.alloc _
 exact ⟨_,A1,A2,A3,C1,C2,C3,f,rfl,rfl,Blk.new w5 [.slice A1 (t.getD noTab).tracked.length C1,.slice A2 (t.getD noTab).patterns.length C2,.slice A3 (t.getD noTab).distances.length C3] e,zK hr ho,hF.keep ho,hK.trans ho⟩
theorem Tryz.infoTab:(Tryz.prog.info? 82).map (fun i=>(i.zero,i.size,i.bytes)) = some (some (.agg #[.slice none 0 0,.slice none 0 0,.slice none 0 0]),3,72):=by kernel_rfl
set_option maxHeartbeats 4000000 in
theorem Zbi (cs:List Value) (x:Puzzle) (fp:List Nat) (v:Value) (trs:List (List Int)) (ft:List Nat) (w:World) (h:Rp.rep w cs x fp) (hv:Rd w v trs ft) (hsm:∀ y∈trs,y.length<=2097152) :
  Calls Tryz.prog 49 #[.agg cs.toArray,v] w fun e w'=>∃ u fp',e = .returned (.tuple #[u,.bool (bTabs x trs).isSome])/\Rd w' u ((bTabs x trs).getD []) fp'/\Fresh w.heap.size w' fp'/\Only [] w w':=by
 have h0:=h
 obtain ⟨v2,rfl,p0,p1,h2⟩:=h
 obtain ⟨A2,C2,_,_,rfl,-,-⟩:=h2.open_
 obtain ⟨a,cap,ob,fps,rfl,-,hS⟩:=hv.open_
 have hb:=hS.bound
 obtain ⟨i0,hi,hz0,hz1,hz2⟩:=info_parts Tryz.infoTab
 clear p0 p1
 rcases hq:inR trs.length 1 4
 ·have Hn:=zH (by unfold bTabs;rw [hq];rfl:bTabs x trs = none)
  have Hq:=zH hq
  clear hq
  go_enter Tryz.func49,Tryz.ntmps49
  go_wp2_with (first
   | (go_at_call 88;(with_reducible refine (Zah trs.length 1 4 _).mono ?_);rintro e w1 ⟨he,h1⟩;subst h1;rw [Hq.out] at he;subst he)
   | fail)
  refine bodyPost_ret (v:=.tuple #[.slice (some ⟨w.heap.size + 1,0,none⟩) 0 0,.bool false]) (by simp [results,Tryz.results49,go_sem]) rfl ⟨.slice (some ⟨w.heap.size + 1,0,none⟩) 0 0,[],by rw [Hn.out];rfl,?_,Fresh.nil _ _,zA⟩
  rw [Hn.out]
  exact ⟨some ⟨w.heap.size + 1,0,none⟩,0,[],[],rfl,rfl,SeqA.nil _ _ (by simp [maxLen])⟩
 ·have Hn:=zH (by unfold bTabs;rw [if_pos hq]:bTabs x trs = bTabsK x trs)
  obtain ⟨q1,q2⟩:=inR_iff.1 hq
  have Hq:=zH hq
  have Hsm:=zH hsm
  clear hq hsm
  go_enter Tryz.func49,Tryz.ntmps49
  go_wp2_with (first
   | (go_at_call 88;(with_reducible refine (Zah trs.length 1 4 _).mono ?_);rintro e w1 ⟨he,h1⟩;subst h1;rw [Hq.out] at he;subst he)
   | fail)
  have X1:=Blk.new w [.int .i64 x.points,.string x.names,.slice A2 x.moves.length C2] 33
  have hA0:Acc (w.heap.size + 1) 82 ((w.alloc (.cells #[.int .i64 x.points,.string x.names,.slice A2 x.moves.length C2] 33)).alloc (.cells #[] 82)) (.slice (some ⟨w.heap.size + 1,0,none⟩) 0 0) ([]:List Table) []:=Acc.made _ _ _ (by simp) (by omega)
  have K1:Only [] w (w.alloc (.cells #[.int .i64 x.points,.string x.names,.slice A2 x.moves.length C2] 33)):=zO.alloc _
  have s1:(w.alloc (.cells #[.int .i64 x.points,.string x.names,.slice A2 x.moves.length C2] 33)).heap.size = w.heap.size + 1:=by simp
  simp only [List.toArray] at X1
  obtain ⟨w1,hw1⟩:∃ w1,w1 = (w.alloc (.cells #[.int .i64 x.points,.string x.names,.slice A2 x.moves.length C2] 33)):=⟨_,rfl⟩
  rw [<- hw1] at X1 hA0 K1 s1 ⊢
  have hs1:=Nat.le_of_eq s1
  have hs2:=Nat.le_of_eq s1.symm
  clear hw1 s1
  go_loopw [6,7] (fun o i wr=>∃ (j:Nat) (ts:List Table) (fs:List (List Nat)),j<=trs.length/\i = .int .i64 j/\bTabsK x (trs.take j) = some ts/\ts.length = j/\Acc (w.heap.size + 1) 82 wr o ts fs/\Fresh (w.heap.size + 1) wr fs.flatten/\Only [] w1 wr)
   (fun _ i _=>trs.length - (intOf i).toNat)
  case atStart=>exact ⟨0,[],[],Nat.zero_le _,rfl,rfl,rfl,hA0,Fresh.nil _ _,zO.alloc _⟩
  case round=>
   obtain ⟨W2,hnew⟩:∃ W,W = wr:=⟨_,rfl⟩
   subst hnew
   obtain ⟨j,ts,fs,hj,rfl,hts,htl,hA,hF,hK⟩:=hrel
   have Hts:=zH hts
   have htl4:ts.length<=4:=by omega
   have Htl:=zH htl
   clear hts htl
   by_cases hlt:j < trs.length
   ·obtain ⟨b,off,u,rfl,-,hc0,hu0⟩:=hS.atRow j hlt
    have hc:=(K1.trans hK).cell (by simp) hc0
    have hu:=zK hu0 (K1.trans hK)
    have X2:=X1.keep hK
    obtain ⟨x0,x1,x2⟩:=X2.c3
    have KK:=K1.trans hK
    have Hc:=zH (fun (W:World) (hh:Only [] W2 W)=>Zce [.int .i64 x.points,.string x.names,.slice A2 x.moves.length C2] x _ u trs[j] _ W (zK h0 (KK.trans hh)) (zK hu hh) (Hsm.out _ (List.getElem_mem hlt)))
    have ka:=(Only.refl [] W2).alloc (.cells #[.slice none 0 0,.slice none 0 0,.slice none 0 0] 82)
    have hca:=ka.cell (by simp) hc
    have xa0:=ka.cell (by simp) x0
    have xa1:=ka.cell (by simp) x1
    have xa2:=ka.cell (by simp) x2
    clear hc0 hu0
    go_upto_region 7 with fail
    have hzW:=KK.size
    have hc3:([.slice none 0 0,.slice none 0 0,.slice none 0 0]:List Value).length = 3:=rfl
    go_cut [8,9] (fun s8 s9 wx=>BT1 W2 wx s8 s9 (bTab x trs[j]))
    case first=>
     go_region_law (first
      | (go_simp;go_at_call 89;(with_reducible refine (Hc.out _ zA).mono ?_);rintro e w4 ⟨cs4,f4,he4,r4,F4,t4⟩;have rr:=id r4;obtain ⟨u1,u2,u3,e1,e2,e3,rfl,-,s1,s2,s3⟩:=r4;simp only [List.cons_append,List.nil_append] at rr;have hq1:=s1.open_;have hq2:=s2.open_;have hq3:=s3.open_;obtain ⟨a1,k1,_,_,rfl,-,-⟩:=hq1;obtain ⟨a2,k2,_,_,rfl,-,-⟩:=hq2;obtain ⟨a3,k3,_,_,rfl,-,-⟩:=hq3;subst he4;have hz4:=t4.size;simp at hz4;first
       | (have Z:=(Blk.new W2 [.slice none 0 0,.slice none 0 0,.slice none 0 0] 82).keep t4;have hgf:W2.heap.size ∉ f4:=(fun hm=>by have:=F4.ge _ hm;simp at this;omega);have FF:=F4.mono (B':=W2.heap.size) (by simp);obtain ⟨g0,g1,g2⟩:=Z.c3;obtain ⟨p0,p1,p2⟩:=Z.f3)
       | (have Z:=((Blk.new W2 [.slice none 0 0,.slice none 0 0,.slice none 0 0] 82).keep ((Only.refl [] _).drew)).keep t4;have hgf:W2.heap.size ∉ f4:=(fun hm=>by have:=F4.ge _ hm;simp at this;omega);have FF:=F4.mono (B':=W2.heap.size) (by simp);obtain ⟨g0,g1,g2⟩:=Z.c3;obtain ⟨p0,p1,p2⟩:=Z.f3)
       | (have Z:=Blk.new w4 [.slice none 0 0,.slice none 0 0,.slice none 0 0] 82;have hgf:w4.heap.size ∉ f4:=(fun hm=>by have:=F4.lt _ hm;omega);have FF:=F4.mono (B':=W2.heap.size) (by simp);have rra:=zK rr ((Only.refl [] w4).alloc (.cells #[.slice none 0 0,.slice none 0 0,.slice none 0 0] 82));have FFa:=FF.keep ((Only.refl [] w4).alloc (.cells #[.slice none 0 0,.slice none 0 0,.slice none 0 0] 82));obtain ⟨g0,g1,g2⟩:=Z.c3;obtain ⟨p0,p1,p2⟩:=Z.f3))
      | fail)
     all_goals go_wp2_with fail
     all_goals go_meet
     all_goals have KK5:Only [] W2 w4:=(by with_reducible repeat (first | exact Only.refl _ _ | assumption | refine Only.drew ?_ | refine Only.alloc ?_ _ | refine Only.trans ?_ (by assumption)))
     all_goals first
      | with_reducible exact BT1.of2 KK5 rfl rfl rfl rr FF rfl
      | with_reducible exact BT1.of Z hc3 (KK5.alloc _) rfl rfl rfl rra FFa hgf (by omega)
      | with_reducible exact BT1.of Z hc3 KK5 rfl rfl rfl rr FF hgf (by omega)
    case rest=>
     have q7:=hcut
     clear hcut
     obtain ⟨g,B1,B2,B3,D1,D2,D3,f,rfl,rfl,z,r,F,k⟩:=q7
     rcases hbt:bTab x trs[j] with _ | t
     ·have Hno:=zH (Zie (List.getElem_mem hlt) hbt)
      rw [hbt] at z r
      simp only [Option.getD,Option.isSome] at z r ⊢
      clear hbt
      go_wp2
      refine bodyPost_ret (v:=.tuple #[.slice (some ⟨wc.heap.size,0,none⟩) 0 0,.bool false]) (by simp [results,Tryz.results49,go_sem]) rfl ⟨.slice (some ⟨wc.heap.size,0,none⟩) 0 0,[],by rw [Hn.out,Hno.out];rfl,by rw [Hn.out,Hno.out];exact ⟨some ⟨wc.heap.size,0,none⟩,0,[],[],rfl,rfl,SeqA.nil _ _ (by simp [maxLen])⟩,Fresh.nil _ _,(KK.trans k).alloc _⟩
     ·have hsn:bTabsK x (trs.take (j + 1)) = some (ts ++ [t]):=by rw [Zab trs j hlt,Zfz,Hts.out,hbt];rfl
      have Hsn:=zH hsn
      rw [hbt] at z r
      simp only [Option.getD,Option.isSome] at z r ⊢
      obtain ⟨d0,d1,d2⟩:=z.c3
      clear hbt hsn
      have hF3:=F.keep ((Only.refl [] wc).alloc (.cells #[.slice B1 t.tracked.length D1,.slice B2 t.patterns.length D2,.slice B3 t.distances.length D3] 82))
      have hr3:=zK r ((Only.refl [] wc).alloc (.cells #[.slice B1 t.tracked.length D1,.slice B2 t.patterns.length D2,.slice B3 t.distances.length D3] 82))
      have kz:=(hK.trans k).alloc (.cells #[.slice B1 t.tracked.length D1,.slice B2 t.patterns.length D2,.slice B3 t.distances.length D3] 82)
      have hwB:w.heap.size + 1<=W2.heap.size:=Nat.le_trans hs2 hK.size
      go_wp2_with (at_builtin;refine Zar rfl _ _ 28 rfl (w.heap.size + 1) 82 i0 _ 72 Tryz.underlying28 hi hz0 hz1 hz2 rfl (by decide) (by decide) W2 _ ts fs rfl hA hF (k.alloc _) hwB wc.heap.size 1 [.slice B1 t.tracked.length D1,.slice B2 t.patterns.length D2,.slice B3 t.distances.length D3] t f rfl (lit_src wc [.slice B1 t.tracked.length D1,.slice B2 t.patterns.length D2,.slice B3 t.distances.length D3] _ rfl) (by intro u hu;simp at hu;rcases hu with rfl | rfl | rfl <;> rfl) hr3 hF3 (by omega) w1 kz hs1 ?_;intro v9 w9 hA9 hF9 hK9 hW9)
      go_roundw
      case rel=>exact ⟨j + 1,ts ++ [t],fs ++ [f],by omega,by go_num,Hsn.out,by simp [Htl.out],hA9,hF9,hK9⟩
      case measure=>simp [intOf];omega
   ·obtain rfl:j = trs.length:=by omega
    rw [List.take_length] at Hts
    have HA:=zH hA
    clear hA
    go_wp2
    refine bodyPost_ret (v:=.tuple #[u6,.bool true]) (by simp [results,Tryz.results49,go_sem]) rfl ⟨u6,_,by rw [Hn.out,Hts.out];rfl,?_,((HA.out.fresh hF).mono (by omega)),K1.trans hK⟩
    rw [Hn.out,Hts.out]
    exact HA.out.rd (by decide)
set_option maxHeartbeats 1000000 in
theorem Zdp (cs:List Value) (x:Puzzle) (fp:List Nat) (v:Value) (l:List Int) (f2:List Nat) (w:World) (h:Rp.rep w cs x fp) (h2:Rd w v l f2) :
  Calls Tryz.prog 178 #[.agg cs.toArray,v] w fun e w'=>e = .returned (.bool (validPz x && trackB x.points l))/\Only [] w w':=by
 have h0:=h
 obtain ⟨v2,rfl,p0,p1,hm⟩:=h
 rcases hq:validPz x
 ·go_enter Tryz.func178,Tryz.ntmps178
  go_wp2_with ((go_at_call 85;(with_reducible refine (Zao [.int .i64 x.points,.string x.names,v2] x _ _ (zK h0 zA)).mono ?_);rintro e w1 ⟨he,t1⟩;rw [hq] at he;subst he))
  go_ret
  exact ⟨rfl,zA⟩
 obtain ⟨g1,g2,g3,g4⟩:=Zad hq
 have hB:=Blk.new_at (w:=w) (cs:=[.int .i64 x.points,.string x.names,v2]) (t:=33) rfl
 go_enter Tryz.func178,Tryz.ntmps178
 go_wp2_with (first | (go_at_call 85;(with_reducible refine (Zao [.int .i64 x.points,.string x.names,v2] x _ _ (zK h0 zA)).mono ?_);rintro e w1 ⟨he,t1⟩;rw [hq] at he;subst he;have y0:=(hB.keep t1).cell 0 rfl) | (go_at_call 114;(with_reducible refine (Zoc x.points v l _ _ (zK h2 zA) (by omega) (by omega)).mono ?_);rintro e w2 ⟨rfl,m2,rfl⟩))
 go_ret
 exact ⟨rfl,zA⟩
set_option maxHeartbeats 2000000 in
theorem Zel (cs:List Value) (x:Puzzle) (fp:List Nat) (v:Value) (tr:List Int) (ft:List Nat) (w:World) (h:Rp.rep w cs x fp) (hv:Rd w v tr ft) :
  Calls Tryz.prog 146 #[.agg cs.toArray,v] w fun e w'=>∃ u1 u2 f1 f2,e = .returned (.tuple #[u1,u2,.bool (bfs16 x tr).isSome]) /\
   Rd w' u1 ((bfs16 x tr).getD ([],[])).1 f1/\Rd w' u2 ((bfs16 x tr).getD ([],[])).2 f2/\Fresh w.heap.size w' (f1 ++ f2)/\Only [] w w':=by
 have h0:=h
 obtain ⟨v2,rfl,p0,p1,hm⟩:=h
 have X0:=Blk.new w [.int .i64 x.points,.string x.names,v2] 33
 simp only [List.toArray] at X0
 rcases hq:validPz x && trackB x.points tr
 ·have Hn:=zH (Zil hq)
  have Hq:=zH hq
  clear hq
  go_enter Tryz.func146,Tryz.ntmps146
  go_wp2_with (first
   | (go_at_call 178;(with_reducible refine (Zdp [.int .i64 x.points,.string x.names,v2] x _ _ tr _ _ (zK h0 zA) (zK hv zA)).mono ?_);rintro e w1 ⟨he,t1⟩;rw [Hq.out] at he;subst he)
   | fail)
  refine bodyPost_ret (v:=.tuple #[.slice none 0 0,.slice none 0 0,.bool false]) (by simp [results,Tryz.results146,go_sem]) rfl ⟨.slice none 0 0,.slice none 0 0,[],[],by rw [Hn.out];rfl,by rw [Hn.out];exact nil_rd _,by rw [Hn.out];exact nil_rd _,Fresh.nil _ _,zA⟩
 ·have Hn:=zH (Zfh hq)
  obtain ⟨q1,q2⟩:=(Bool.and_eq_true _ _).mp hq
  have Hq:=zH hq
  have Hv:=zH q1
  have Hp:=zH (Zgk q2)
  have htl:tr.length<=1000:=by
   have h3:=(Zaz.1 q2).2.len
   have:=(Zad q1).2.1
   omega
  clear hq q1 q2
  go_enter Tryz.func146,Tryz.ntmps146
  go_wp2_with (first
   | (go_at_call 178;(with_reducible refine (Zdp [.int .i64 x.points,.string x.names,v2] x _ _ tr _ _ (zK h0 zA) (zK hv zA)).mono ?_);rintro e w1 ⟨he,t1⟩;rw [Hq.out] at he;subst he;have X1:=X0.keep t1;obtain ⟨g0,g1,g2⟩:=X1.c3)
   | (go_at_call 179;(with_reducible refine (Zod [.int .i64 x.points,.string x.names,v2] x _ _ tr _ _ (zK h0 zA) (zK hv zA) Hv.out Hp.out htl).mono ?_);rintro e w2 ⟨u1,u2,f1,f2,rfl,r1,r2,F2,t2⟩)
   | fail)
  have K2:Only [] w w2:=zA
  have hsz:=t1.size
  simp at hsz
  refine bodyPost_ret (v:=.tuple #[u1,u2,.bool (bFrom x 3001 0 ([tr],[0])).isSome]) (by simp [results,Tryz.results146,go_sem]) rfl ⟨u1,u2,f1,f2,by rw [Hn.out],by rw [Hn.out];exact r1,by rw [Hn.out];exact r2,F2.mono (by omega),K2⟩
set_option maxHeartbeats 4000000 in
theorem Zcj (cs:List Value) (x:Puzzle) (fp:List Nat) (v:Value) (tr:List Int) (ft:List Nat) (w:World) (h:Rp.rep w cs x fp) (hv:Rd w v tr ft) (htl:tr.length<=2097152) :
  Calls Tryz.prog 98 #[.agg cs.toArray,v] w fun e w'=>∃ cs' fp',e = .returned (.tuple #[.agg (List.toArray cs'),.bool (bTab x tr).isSome])/\Rp.rep w' cs' ((bTab x tr).getD noTab) fp'/\Fresh w.heap.size w' fp'/\Only [] w w':=by
 have h0:=h
 obtain ⟨v2,rfl,p0,p1,h2⟩:=h
 obtain ⟨A2,C2,_,_,rfl,-,-⟩:=h2.open_
 obtain ⟨a,cap,rfl,Iv⟩:=hv.ints
 clear Iv h2 p0 p1
 have X0:Blk ((w.alloc (.cells #[.int .i64 x.points,.string x.names,.slice A2 x.moves.length C2] 33)).alloc (.cells #[.slice none 0 0,.slice none 0 0,.slice none 0 0] 82)) w.heap.size [.int .i64 x.points,.string x.names,.slice A2 x.moves.length C2]:=(Blk.new w [.int .i64 x.points,.string x.names,.slice A2 x.moves.length C2] 33).keep (zO.alloc _)
 have Y0:Blk ((w.alloc (.cells #[.int .i64 x.points,.string x.names,.slice A2 x.moves.length C2] 33)).alloc (.cells #[.slice none 0 0,.slice none 0 0,.slice none 0 0] 82)) (w.heap.size + 1) [.slice none 0 0,.slice none 0 0,.slice none 0 0]:=Blk.new_at (by simp)
 obtain ⟨x0,x1,x2⟩:=X0.c3
 rcases hq:bfs16 x tr with _ | s
 ·have Hq:=zH hq
  have hb:bTab x tr = none:=by unfold bTab;rw [hq];rfl
  have Hb:=zH hb
  clear hq hb
  go_enter Tryz.func98,Tryz.ntmps98
  go_wp2_with (first
   | (go_at_call 146;(with_reducible refine (Zel [.int .i64 x.points,.string x.names,.slice A2 x.moves.length C2] x _ _ tr _ _ (zK h0 zA) (zK hv zA)).mono ?_);rintro e w2 ⟨u1,u2,f1,f2,he,r1,r2,F2,t2⟩;rw [Hq.out] at he;subst he;have Y1:=Y0.keep t2;obtain ⟨g0,g1,g2⟩:=Y1.c3;obtain ⟨p0,p1,p2⟩:=Y1.f3)
   | fail)
  have K2:Only [] w w2:=zA
  have Yf:=((Y1.set 0 (.slice none 0 0)).set 1 (.slice none 0 0)).set 2 (.slice none 0 0)
  have kf:=K2.then_ ((((Only.refl [w.heap.size + 1] w2).setCell (p:=⟨w.heap.size + 1,0,none⟩) (by simp) (.slice none 0 0)).setCell (p:=⟨w.heap.size + 1,1,none⟩) (by simp) (.slice none 0 0)).setCell (p:=⟨w.heap.size + 1,2,none⟩) (by simp) (.slice none 0 0)) (by simp)
  obtain ⟨wf,hwf⟩:∃ wf,wf = (((w2.setCell ⟨w.heap.size + 1,0,none⟩ (.slice none 0 0)).setCell ⟨w.heap.size + 1,1,none⟩ (.slice none 0 0)).setCell ⟨w.heap.size + 1,2,none⟩ (.slice none 0 0)):=⟨_,rfl⟩
  rw [<- hwf] at Yf kf ⊢
  simp only [List.set] at Yf
  clear hwf g0 g1 g2 p0 p1 p2
  obtain ⟨r0,r1,r2⟩:=Yf.c3
  refine bodyPost_ret (v:=.tuple #[.agg #[.slice none 0 0,.slice none 0 0,.slice none 0 0],.bool false]) (by simp [results,Tryz.results98,go_sem,r0,r1,r2]) rfl ⟨[.slice none 0 0,.slice none 0 0,.slice none 0 0],[],by rw [Hb.out];rfl,?_,Fresh.nil _ _,kf⟩
  rw [Hb.out]
  exact ⟨_,_,_,[],[],[],rfl,rfl,nil_rd _,nil_rd _,nil_rd _⟩
 ·have Hq:=zH hq
  have hb:bTab x tr = some ⟨tr,s.1,s.2⟩:=by unfold bTab;rw [hq];rfl
  have Hb:=zH hb
  clear hq hb
  go_enter Tryz.func98,Tryz.ntmps98
  go_wp2_with (first
   | (go_at_call 146;(with_reducible refine (Zel [.int .i64 x.points,.string x.names,.slice A2 x.moves.length C2] x _ _ tr _ _ (zK h0 zA) (zK hv zA)).mono ?_);rintro e w2 ⟨u1,u2,f1,f2,he,r1,r2,F2,t2⟩;rw [Hq.out] at he r1 r2;subst he;simp only [Option.getD] at r1 r2;obtain ⟨a1,c1,ob,fps,rfl,e1,S1⟩:=r1.open_;obtain ⟨a2,c2,rfl,I2⟩:=r2.ints;have Y1:=Y0.keep t2)
   | (go_at_call 105;(with_reducible refine (Zdb _ tr _ _ (zK hv zA) (by omega)).mono ?_);rintro e w3 ⟨u3,f3,rfl,r3,F3,t3⟩;obtain ⟨a3,c3,rfl,I3⟩:=r3.ints;have Y2:=Y1.keep t3;obtain ⟨g0,g1,g2⟩:=Y2.c3;obtain ⟨p0,p1,p2⟩:=Y2.f3)
   | fail)
  have K2:Only [] w w2:=zA
  have K3:=K2.trans t3
  have hsz:=t2.size
  simp at hsz
  have F:=(F2.keep t3).append F3 t2.size (fun g hg=>F2.lt g hg)
  have hFg:∀ g∈(f1 ++ f2) ++ f3,g ∉ [w.heap.size + 1]:=fun g hg hm=>by have:=F.ge g hg;simp at this hm;omega
  have Yf:=((Y2.set 0 (.slice a3 tr.length c3)).set 1 (.slice a1 s.1.length c1)).set 2 (.slice a2 s.2.length c2)
  have kf:Only [w.heap.size + 1] w3 (((w3.setCell ⟨w.heap.size + 1,0,none⟩ (.slice a3 tr.length c3)).setCell ⟨w.heap.size + 1,1,none⟩ (.slice a1 s.1.length c1)).setCell ⟨w.heap.size + 1,2,none⟩ (.slice a2 s.2.length c2)):=((zO.setCell (by simp) _).setCell (by simp) _).setCell (by simp) _
  obtain ⟨wf,hwf⟩:∃ wf,wf = (((w3.setCell ⟨w.heap.size + 1,0,none⟩ (.slice a3 tr.length c3)).setCell ⟨w.heap.size + 1,1,none⟩ (.slice a1 s.1.length c1)).setCell ⟨w.heap.size + 1,2,none⟩ (.slice a2 s.2.length c2)):=⟨_,rfl⟩
  rw [<- hwf] at Yf kf ⊢
  simp only [List.set] at Yf
  clear hwf g0 g1 g2 p0 p1 p2
  obtain ⟨z0,z1,z2⟩:=Yf.c3
  have hP:((f1 ++ f2) ++ f3).Perm (f3 ++ (f1 ++ f2)):=List.perm_append_comm
  have hFf:=((F.mono (B':=w.heap.size) (by simp;omega)).only kf hFg)
  refine bodyPost_ret (v:=.tuple #[.agg #[.slice a3 tr.length c3,.slice a1 s.1.length c1,.slice a2 s.2.length c2],.bool true]) (by simp [results,Tryz.results98,go_sem,z0,z1,z2]) rfl ⟨[.slice a3 tr.length c3,.slice a1 s.1.length c1,.slice a2 s.2.length c2],f3 ++ (f1 ++ f2),by rw [Hb.out];rfl,?_,⟨hP.nodup hFf.nd,fun b hb=>hFf.ge b (hP.mem_iff.2 hb),hFf.own.sub fun b hb=>hP.mem_iff.2 hb⟩,K3.then_ kf (by simp)⟩
  rw [Hb.out]
  exact ⟨_,_,_,f3,f1,f2,rfl,rfl,Rp.only r3 kf (fun g hg=>hFg g (by simp [hg])),Rp.only (zK r1 t3) kf (fun g hg=>hFg g (by simp [hg])),Rp.only (zK r2 t3) kf (fun g hg=>hFg g (by simp [hg]))⟩
set_option maxHeartbeats 4000000 in
theorem Zbh (cs:List Value) (x:Puzzle) (fp:List Nat) (v:Value) (trs:List (List Int)) (ft:List Nat) (w:World) (h:Rp.rep w cs x fp) (hv:Rd w v trs ft) (hsm:∀ y∈trs,y.length<=2097152) :
  Calls Tryz.prog 53 #[.agg cs.toArray,v] w fun e w'=>∃ u fp',e = .returned (.tuple #[u,.bool (bTabs x trs).isSome])/\Rd w' u ((bTabs x trs).getD []) fp'/\Fresh w.heap.size w' fp'/\Only [] w w':=by
 have h0:=h
 obtain ⟨v2,rfl,p0,p1,h2⟩:=h
 obtain ⟨A2,C2,_,_,rfl,-,-⟩:=h2.open_
 obtain ⟨a,cap,ob,fps,rfl,-,hS⟩:=hv.open_
 have hb:=hS.bound
 obtain ⟨i0,hi,hz0,hz1,hz2⟩:=info_parts Tryz.infoTab
 clear p0 p1
 rcases hq:inR trs.length 1 4
 ·have Hn:=zH (by unfold bTabs;rw [hq];rfl:bTabs x trs = none)
  have Hq:=zH hq
  clear hq
  go_enter Tryz.func53,Tryz.ntmps53
  go_wp2_with (first
   | (go_at_call 97;(with_reducible refine (Zgu _ trs _ _ (zK hv zA)).mono ?_);rintro e w ⟨rfl,rfl⟩)
   | (go_at_call 96;(with_reducible refine (Zaj trs.length 1 4 _).mono ?_);rintro e w1 ⟨he,h1⟩;subst h1;rw [Hq.out] at he;subst he)
   | fail)
  refine bodyPost_ret (v:=.tuple #[.slice none 0 0,.bool false]) (by simp [results,Tryz.results53,go_sem]) rfl ⟨.slice none 0 0,[],by rw [Hn.out];rfl,?_,Fresh.nil _ _,zA⟩
  rw [Hn.out]
  exact nil_rd _
 ·have Hn:=zH (by unfold bTabs;rw [if_pos hq]:bTabs x trs = bTabsK x trs)
  obtain ⟨q1,q2⟩:=inR_iff.1 hq
  have Hq:=zH hq
  have Hsm:=zH hsm
  clear hq hsm
  go_enter Tryz.func53,Tryz.ntmps53
  go_wp2_with (first
   | (go_at_call 97;(with_reducible refine (Zgu _ trs _ _ (zK hv zA)).mono ?_);rintro e w ⟨rfl,rfl⟩)
   | (go_at_call 96;(with_reducible refine (Zaj trs.length 1 4 _).mono ?_);rintro e w1 ⟨he,h1⟩;subst h1;rw [Hq.out] at he;subst he)
   | fail)
  have X1:=Blk.new w [.int .i64 x.points,.string x.names,.slice A2 x.moves.length C2] 33
  have K1:Only [] w (w.alloc (.cells #[.int .i64 x.points,.string x.names,.slice A2 x.moves.length C2] 33)):=zO.alloc _
  have s1:(w.alloc (.cells #[.int .i64 x.points,.string x.names,.slice A2 x.moves.length C2] 33)).heap.size = w.heap.size + 1:=by simp
  simp only [List.toArray] at X1
  obtain ⟨w1,hw1⟩:∃ w1,w1 = (w.alloc (.cells #[.int .i64 x.points,.string x.names,.slice A2 x.moves.length C2] 33)):=⟨_,rfl⟩
  rw [<- hw1] at X1 K1 s1 ⊢
  have hs1:=Nat.le_of_eq s1
  have hs2:=Nat.le_of_eq s1.symm
  clear hw1 s1
  go_loopw [6,17] (fun o i wr=>∃ (j:Nat) (ts:List Table) (fs:List (List Nat)),j<=trs.length/\i = .int .i64 j/\bTabsK x (trs.take j) = some ts/\ts.length = j/\Acc (w.heap.size + 1) 82 wr o ts fs/\Fresh (w.heap.size + 1) wr fs.flatten/\Only [] w1 wr)
   (fun _ i _=>trs.length - (intOf i).toNat)
  case atStart=>exact ⟨0,[],[],Nat.zero_le _,rfl,rfl,rfl,Acc.nil _ _ _,Fresh.nil _ _,Only.refl _ _⟩
  case round=>
   obtain ⟨W2,hnew⟩:∃ W,W = wr:=⟨_,rfl⟩
   subst hnew
   obtain ⟨j,ts,fs,hj,rfl,hts,htl,hA,hF,hK⟩:=hrel
   have Hts:=zH hts
   have htl4:ts.length<=4:=by omega
   have Htl:=zH htl
   clear hts htl
   by_cases hlt:j < trs.length
   ·obtain ⟨b,off,u,rfl,-,hc0,hu0⟩:=hS.atRow j hlt
    have hc:=(K1.trans hK).cell (by simp) hc0
    have hu:=zK hu0 (K1.trans hK)
    have X2:=X1.keep hK
    obtain ⟨x0,x1,x2⟩:=X2.c3
    have KK:=K1.trans hK
    have Hc:=zH (fun (W:World) (hh:Only [] W2 W)=>Zcj [.int .i64 x.points,.string x.names,.slice A2 x.moves.length C2] x _ u trs[j] _ W (zK h0 (KK.trans hh)) (zK hu hh) (Hsm.out _ (List.getElem_mem hlt)))
    have ka:=(Only.refl [] W2).alloc (.cells #[.slice none 0 0,.slice none 0 0,.slice none 0 0] 82)
    have hca:=ka.cell (by simp) hc
    have xa0:=ka.cell (by simp) x0
    have xa1:=ka.cell (by simp) x1
    have xa2:=ka.cell (by simp) x2
    clear hc0 hu0
    go_upto_region 7 with fail
    have hzW:=KK.size
    have hc3:([.slice none 0 0,.slice none 0 0,.slice none 0 0]:List Value).length = 3:=rfl
    go_cut [9,10] (fun s8 s9 wx=>BT1 W2 wx s8 s9 (bTab x trs[j]))
    case first=>
     go_wp2_with (first
      | (go_at_call 98;(with_reducible refine (Hc.out _ zA).mono ?_);rintro e w4 ⟨cs4,f4,he4,r4,F4,t4⟩;have rr:=id r4;obtain ⟨u1,u2,u3,e1,e2,e3,rfl,-,s1,s2,s3⟩:=r4;simp only [List.cons_append,List.nil_append] at rr;have hq1:=s1.open_;have hq2:=s2.open_;have hq3:=s3.open_;obtain ⟨a1,k1,_,_,rfl,-,-⟩:=hq1;obtain ⟨a2,k2,_,_,rfl,-,-⟩:=hq2;obtain ⟨a3,k3,_,_,rfl,-,-⟩:=hq3;subst he4;have Z:=Blk.new w4 [.slice none 0 0,.slice none 0 0,.slice none 0 0] 82;obtain ⟨g0,g1,g2⟩:=Z.c3;obtain ⟨p0,p1,p2⟩:=Z.f3)
      | fail)
     go_meet
     have KK5:Only [] W2 w4:=(by with_reducible repeat (first | exact Only.refl _ _ | assumption | refine Only.drew ?_ | refine Only.alloc ?_ _ | refine Only.trans ?_ (by assumption)))
     with_reducible exact BT1.of2 KK5 rfl rfl rfl rr F4 rfl
    case rest=>
     have q7:=hcut
     clear hcut
     obtain ⟨g,B1,B2,B3,D1,D2,D3,f,rfl,rfl,z,r,F,k⟩:=q7
     rcases hbt:bTab x trs[j] with _ | t
     ·have Hno:=zH (Zie (List.getElem_mem hlt) hbt)
      rw [hbt] at z r
      simp only [Option.getD,Option.isSome] at z r ⊢
      clear hbt
      go_wp2
      refine bodyPost_ret (v:=.tuple #[.slice none 0 0,.bool false]) (by simp [results,Tryz.results53,go_sem]) rfl ⟨.slice none 0 0,[],by rw [Hn.out,Hno.out];rfl,by rw [Hn.out,Hno.out];exact nil_rd _,Fresh.nil _ _,KK.trans k⟩
     ·have hsn:bTabsK x (trs.take (j + 1)) = some (ts ++ [t]):=by rw [Zab trs j hlt,Zfz,Hts.out,hbt];rfl
      have Hsn:=zH hsn
      rw [hbt] at z r
      simp only [Option.getD,Option.isSome] at z r ⊢
      obtain ⟨d0,d1,d2⟩:=z.c3
      clear hbt hsn
      have hF3:=F.keep ((Only.refl [] wc).alloc (.cells #[.slice B1 t.tracked.length D1,.slice B2 t.patterns.length D2,.slice B3 t.distances.length D3] 82))
      have hr3:=zK r ((Only.refl [] wc).alloc (.cells #[.slice B1 t.tracked.length D1,.slice B2 t.patterns.length D2,.slice B3 t.distances.length D3] 82))
      have kz:=(hK.trans k).alloc (.cells #[.slice B1 t.tracked.length D1,.slice B2 t.patterns.length D2,.slice B3 t.distances.length D3] 82)
      have hwB:w.heap.size + 1<=W2.heap.size:=Nat.le_trans hs2 hK.size
      go_wp2_with (at_builtin;refine Zar rfl _ _ 28 rfl (w.heap.size + 1) 82 i0 _ 72 Tryz.underlying28 hi hz0 hz1 hz2 rfl (by decide) (by decide) W2 _ ts fs rfl hA hF (k.alloc _) hwB wc.heap.size 1 [.slice B1 t.tracked.length D1,.slice B2 t.patterns.length D2,.slice B3 t.distances.length D3] t f rfl (lit_src wc [.slice B1 t.tracked.length D1,.slice B2 t.patterns.length D2,.slice B3 t.distances.length D3] _ rfl) (by intro u hu;simp at hu;rcases hu with rfl | rfl | rfl <;> rfl) hr3 hF3 (by omega) w1 kz hs1 ?_;intro v9 w9 hA9 hF9 hK9 hW9)
      go_roundw
      case rel=>exact ⟨j + 1,ts ++ [t],fs ++ [f],by omega,by go_num,Hsn.out,by simp [Htl.out],hA9,hF9,hK9⟩
      case measure=>simp [intOf];omega
   ·obtain rfl:j = trs.length:=by omega
    rw [List.take_length] at Hts
    have HA:=zH hA
    clear hA
    go_wp2
    refine bodyPost_ret (v:=.tuple #[u6,.bool true]) (by simp [results,Tryz.results53,go_sem]) rfl ⟨u6,_,by rw [Hn.out,Hts.out];rfl,?_,((HA.out.fresh hF).mono (by omega)),K1.trans hK⟩
    rw [Hn.out,Hts.out]
    exact HA.out.rd (by decide)
end Go.Proofs.YtclhblofchfglaaGreat
