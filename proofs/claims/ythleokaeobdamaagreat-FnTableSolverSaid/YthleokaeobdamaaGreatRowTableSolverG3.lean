/- Plain facts on permutations: composition, inverse, the group that a list generates. -/
import Derived.Test.YthleokaeobdamaaGreatRowTableSolverG1
import Derived.Test.YthleokaeobdamaaGreatRowTableSolverG2
import Derived.Laws.CopyOwn
namespace PM
def at_ (p:List Int) (x:Int):Int:=p.getD x.toNat 0
def comp (p q:List Int):List Int:=p.map (at_ q)
def inv (p:List Int):List Int:=(pts p.length).map fun y=>(p.idxOf y:Int)
def PN (n:Nat) (p:List Int):Prop:=p.length = n/\IsP p
theorem at_nat (p:List Int) (k:Nat) (h:k < p.length):at_ p (k:Int) = p[k]:=by
 simp [at_,h]
theorem at_mem {p:List Int} {x:Int} (h0:0<=x) (h:x < p.length):at_ p x∈p:=by
 have hx:x.toNat < p.length:=by omega
 have:at_ p x = p[x.toNat]:=by simp [at_,hx]
 rw [this];exact List.getElem_mem _
theorem Zak (p q:List Int):(comp p q).length = p.length:=by simp [comp]
theorem inv_len (p:List Int):(inv p).length = p.length:=by simp [inv,pts_len]
theorem at_comp {p q:List Int} {x:Int} (h0:0<=x) (h:x < p.length):at_ (comp p q) x = at_ q (at_ p x):=by
 have hx:x.toNat < p.length:=by omega
 simp [at_,comp,hx]
theorem at_pts {n:Nat} {x:Int} (h0:0<=x) (h:x < n):at_ (pts n) x = x:=by
 have hx:x.toNat < (pts n).length:=by rw [pts_len];omega
 have:at_ (pts n) x = (pts n)[x.toNat]:=by simp [at_,hx]
 rw [this,pts_get];omega
theorem ext_at {p q:List Int} (hl:p.length = q.length) (h:∀ x:Int,0<=x->x < p.length->at_ p x = at_ q x):p = q:=by
 apply List.ext_getElem hl
 intro k h1 h2
 have:=h k (by omega) (by omega)
 rwa [at_nat p k h1,at_nat q k h2] at this
theorem PN.rng {n:Nat} {p:List Int} (h:PN n p) {x:Int} (h0:0<=x) (h1:x < n):0<=at_ p x/\at_ p x < n:=by
 have:=h.2.1 _ (at_mem h0 (by rw [h.1];exact h1))
 rw [h.1] at this;exact this
theorem Zfx {p:List Int} (h:p.Nodup) {i j:Nat} (hi:i < p.length) (hj:j < p.length) (e:p[i] = p[j]):i = j:=by
 have hp:=List.pairwise_iff_getElem.1 h
 rcases Nat.lt_trichotomy i j with hl | hl | hl
 ·exact absurd e (hp i j hi hj hl)
 ·exact hl
 ·exact absurd e.symm (hp j i hj hi hl)
theorem PN.inj {n:Nat} {p:List Int} (h:PN n p) {x y:Int} (hx0:0<=x) (hx:x < n) (hy0:0<=y) (hy:y < n) (he:at_ p x = at_ p y):x = y:=by
 have h1:x.toNat < p.length:=by rw [h.1];omega
 have h2:y.toNat < p.length:=by rw [h.1];omega
 have e1:at_ p x = p[x.toNat]:=by simp [at_,h1]
 have e2:at_ p y = p[y.toNat]:=by simp [at_,h2]
 rw [e1,e2] at he
 have:=Zfx h.2.2 h1 h2 he
 omega
theorem PN.surj {n:Nat} {p:List Int} (h:PN n p) {y:Int} (hy0:0<=y) (hy:y < n):∃ x:Int,0<=x/\x < n/\at_ p x = y:=by
 have hm:y∈p:=h.2.all (mem_pts.2 ⟨hy0,by rw [h.1];exact hy⟩)
 obtain ⟨k,hk,hk2⟩:=List.getElem_of_mem hm
 refine ⟨k,by omega,by have:=h.1;omega,?_⟩
 rw [at_nat p k hk];exact hk2
theorem PN.mk' {n:Nat} {p:List Int} (hl:p.length = n) (hr:∀ x:Int,0<=x->x < n->0<=at_ p x/\at_ p x < n) (hi:∀ x y:Int,0<=x->x < n->0<=y->y < n->at_ p x = at_ p y->x = y):PN n p:=by
 refine ⟨hl,fun x hx=>?_,?_⟩
 ·obtain ⟨k,hk,rfl⟩:=List.getElem_of_mem hx
  have:=hr k (by omega) (by omega)
  rw [at_nat p k hk] at this;rw [hl];exact this
 ·rw [List.nodup_iff_pairwise_ne,List.pairwise_iff_getElem]
  intro i j hi' hj' hij he
  have:=hi i j (by omega) (by omega) (by omega) (by omega) (by rw [at_nat p i hi',at_nat p j hj'];exact he)
  omega
theorem PN.id (n:Nat):PN n (pts n):=PN.mk' (pts_len n) (fun x h0 h1=>by rw [at_pts h0 h1];exact ⟨h0,h1⟩) (fun x y a b c d e=>by rwa [at_pts a b,at_pts c d] at e)
theorem PN.comp {n:Nat} {p q:List Int} (hp:PN n p) (hq:PN n q):PN n (comp p q):=by
 refine PN.mk' (by rw [Zak,hp.1]) (fun x h0 h1=>?_) (fun x y a b c d e=>?_)
 ·rw [at_comp h0 (by rw [hp.1];exact h1)]
  have:=hp.rng h0 h1
  exact hq.rng this.1 this.2
 ·rw [at_comp a (by rw [hp.1];exact b),at_comp c (by rw [hp.1];exact d)] at e
  have h1:=hp.rng a b
  have h2:=hp.rng c d
  exact hp.inj a b c d (hq.inj h1.1 h1.2 h2.1 h2.2 e)
theorem at_inv {n:Nat} {p:List Int} (hp:PN n p) {x:Int} (h0:0<=x) (h1:x < n):at_ (inv p) (at_ p x) = x:=by
 have hr:=hp.rng h0 h1
 have hk:x.toNat < p.length:=by rw [hp.1];omega
 have e1:at_ p x = p[x.toNat]:=by simp [at_,hk]
 have e2:∀ y:Int,0<=y->y < n->at_ (inv p) y = (p.idxOf y:Int):=by
  intro y hy0 hy1
  have hy:y.toNat < (pts p.length).length:=by rw [pts_len,hp.1];omega
  have he:(pts p.length)[y.toNat] = y:=by rw [pts_get];omega
  unfold at_ inv
  rw [List.getD_eq_getElem?_getD,List.getElem?_map,List.getElem?_eq_getElem hy,he]
  rfl
 rw [e2 _ hr.1 hr.2,e1]
 have hm:p[x.toNat]∈p:=List.getElem_mem _
 have hi:=List.idxOf_lt_length_of_mem hm
 have hg:p[p.idxOf p[x.toNat]] = p[x.toNat]:=by simp
 have:=Zfx hp.2.2 hi hk hg
 rw [this];omega
theorem PN.inv {n:Nat} {p:List Int} (hp:PN n p):PN n (inv p):=by
 refine PN.mk' (by rw [inv_len,hp.1]) (fun x h0 h1=>?_) (fun x y a b c d e=>?_)
 ·obtain ⟨z,hz0,hz1,rfl⟩:=hp.surj h0 h1
  rw [at_inv hp hz0 hz1];exact ⟨hz0,hz1⟩
 ·obtain ⟨z,hz0,hz1,rfl⟩:=hp.surj a b
  obtain ⟨z',hz0',hz1',rfl⟩:=hp.surj c d
  rw [at_inv hp hz0 hz1,at_inv hp hz0' hz1'] at e
  rw [e]
theorem Zdk {n:Nat} {p:List Int} (hp:PN n p):comp p (inv p) = pts n:=by
 refine ext_at (by rw [Zak,pts_len,hp.1]) fun x h0 h1=>?_
 rw [Zak,hp.1] at h1
 rw [at_comp h0 (by rw [hp.1];exact h1),at_inv hp h0 h1,at_pts h0 h1]
theorem Zkd {n:Nat} {p:List Int} (hp:PN n p):comp (inv p) p = pts n:=by
 refine ext_at (by rw [Zak,pts_len,inv_len,hp.1]) fun x h0 h1=>?_
 rw [Zak,inv_len,hp.1] at h1
 obtain ⟨z,hz0,hz1,rfl⟩:=hp.surj h0 h1
 rw [at_comp h0 (by rw [inv_len,hp.1];exact h1),at_inv hp hz0 hz1,at_pts h0 h1]
theorem comp_id {n:Nat} {p:List Int} (hp:PN n p):comp p (pts n) = p:=by
 refine ext_at (by rw [Zak]) fun x h0 h1=>?_
 rw [Zak,hp.1] at h1
 have:=hp.rng h0 h1
 rw [at_comp h0 (by rw [hp.1];exact h1),at_pts this.1 this.2]
theorem id_comp {n:Nat} {p:List Int} (hp:PN n p):comp (pts n) p = p:=by
 refine ext_at (by rw [Zak,pts_len,hp.1]) fun x h0 h1=>?_
 rw [Zak,pts_len] at h1
 rw [at_comp h0 (by rw [pts_len];exact h1),at_pts h0 h1]
theorem Zat {n:Nat} {p q r:List Int} (hp:PN n p) (hq:PN n q):comp (comp p q) r = comp p (comp q r):=by
 refine ext_at (by simp [Zak]) fun x h0 h1=>?_
 rw [Zak,Zak,hp.1] at h1
 have:=hp.rng h0 h1
 rw [at_comp h0 (by rw [Zak,hp.1];exact h1),at_comp h0 (by rw [hp.1];exact h1),at_comp h0 (by rw [hp.1];exact h1),at_comp this.1 (by rw [hq.1];exact this.2)]
theorem Zis {n:Nat} {p q g:List Int} (hp:PN n p) (hq:PN n q) (hg:PN n g) (h:comp p g = comp q g):p = q:=by
 have h2:comp (comp p g) (inv g) = comp (comp q g) (inv g):=by rw [h]
 rwa [Zat hp hg,Zat hq hg,Zdk hg,comp_id hp,comp_id hq] at h2
inductive Grp (n:Nat) (G:List (List Int)):List Int->Prop
 | id:Grp n G (pts n)
 | mul {p g:List Int}:Grp n G p->g∈G->Grp n G (comp p g)
 | div {p g:List Int}:Grp n G p->g∈G->Grp n G (comp p (inv g))
section
variable {n:Nat} {G:List (List Int)} (hG:∀ g∈G,PN n g)
include hG
theorem Grp.pn {p:List Int} (h:Grp n G p):PN n p:=by
 induction h with
 | id=>exact PN.id n
 | mul _ hg ih=>exact ih.comp (hG _ hg)
 | div _ hg ih=>exact ih.comp (hG _ hg).inv
theorem Grp.comp {p q:List Int} (hp:Grp n G p) (hq:Grp n G q):Grp n G (comp p q):=by
 have pp:=hp.pn hG
 induction hq with
 | id=>rw [comp_id pp];exact hp
 | mul hq hg ih=>rw [<- Zat pp (Grp.pn hG hq)];exact ih.mul hg
 | div hq hg ih=>rw [<- Zat pp (Grp.pn hG hq)];exact ih.div hg
theorem Grp.gen {g:List Int} (h:g∈G):Grp n G g:=by
 have:=(Grp.id (n:=n) (G:=G)).mul h
 rwa [id_comp (hG g h)] at this
theorem Grp.gen_inv {g:List Int} (h:g∈G):Grp n G (PM.inv g):=by
 have:=(Grp.id (n:=n) (G:=G)).div h
 rwa [id_comp (hG g h).inv] at this
end
theorem inv_of {n:Nat} {p q:List Int} (hp:PN n p) (hq:PN n q) (h:comp p q = pts n):q = PM.inv p:=by
 have:comp (PM.inv p) (comp p q) = comp (PM.inv p) (pts n):=by rw [h]
 rwa [<- Zat hp.inv hp,Zkd hp,id_comp hq,comp_id hp.inv] at this
theorem inv_inv {n:Nat} {p:List Int} (hp:PN n p):PM.inv (PM.inv p) = p:=(inv_of hp.inv hp (Zkd hp)).symm
theorem Zjd {n:Nat} {p q:List Int} (hp:PN n p) (hq:PN n q):PM.inv (comp p q) = comp (PM.inv q) (PM.inv p):=by
 refine (inv_of (hp.comp hq) (hq.inv.comp hp.inv) ?_).symm
 rw [Zat hp hq,<- Zat hq hq.inv,Zdk hq,id_comp hp.inv,Zdk hp]
theorem inv_id (n:Nat):PM.inv (pts n) = pts n:=(inv_of (PN.id n) (PN.id n) (comp_id (PN.id n))).symm
theorem Grp.inv {n:Nat} {G:List (List Int)} (hG:∀ g∈G,PN n g) {p:List Int} (hp:Grp n G p):Grp n G (PM.inv p):=by
 induction hp with
 | id=>rw [inv_id];exact .id
 | mul hq hg ih=>rw [Zjd (Grp.pn hG hq) (hG _ hg)];exact Grp.comp hG (Grp.gen_inv hG hg) ih
 | div hq hg ih=>rw [Zjd (Grp.pn hG hq) (hG _ hg).inv,inv_inv (hG _ hg)];exact Grp.comp hG (Grp.gen hG hg) ih
theorem Grp.mono {n:Nat} {G G':List (List Int)} (hG':∀ g∈G',PN n g) (h:∀ g∈G,Grp n G' g) {p:List Int} (hp:Grp n G p):Grp n G' p:=by
 induction hp with
 | id=>exact .id
 | mul _ hg ih=>exact Grp.comp hG' ih (h _ hg)
 | div _ hg ih=>exact Grp.comp hG' ih (Grp.inv hG' (h _ hg))
def allL (A:List Int):Nat->List (List Int)
 | 0=>[[]]
 | k + 1=>(allL A k).flatMap fun l=>A.map fun x=>x :: l
theorem Zuf {A:List Int}:∀ (p:List Int),(∀ x∈p,x∈A)->p∈allL A p.length:=by
 intro p
 induction p with
 | nil=>intro _;simp [allL]
 | cons x p ih=>
  intro h
  have h1:=ih fun y hy=>h y (by simp [hy])
  simp only [allL,List.length_cons,List.mem_flatMap,List.mem_map]
  exact ⟨p,h1,x,h x (by simp),rfl⟩
theorem Zqe {α:Type} (L:List α) (S:α->Prop):∃ L':List α,L'.Nodup/\∀ x,x∈L' ↔ x∈L/\S x:=by
 classical
 induction L with
 | nil=>exact ⟨[],List.nodup_nil,by simp⟩
 | cons a L ih=>
  obtain ⟨L',h1,h2⟩:=ih
  by_cases h:a∈L'\/¬ S a
  ·refine ⟨L',h1,fun x=>?_⟩
   rw [h2 x]
   constructor
   ·rintro ⟨a1,a2⟩;exact ⟨by simp [a1],a2⟩
   ·rintro ⟨a1,a2⟩
    rcases List.mem_cons.1 a1 with rfl | a1
    ·rcases h with h | h
     ·exact (h2 x).1 h
     ·exact absurd a2 h
    ·exact ⟨a1,a2⟩
  ·have h':a ∉ L'/\S a:=⟨fun e=>h (.inl e),Classical.byContradiction fun e=>h (.inr e)⟩
   refine ⟨a :: L',List.nodup_cons.2 ⟨h'.1,h1⟩,fun x=>?_⟩
   simp only [List.mem_cons,h2 x]
   constructor
   ·rintro (rfl | ⟨a1,a2⟩)
    ·exact ⟨.inl rfl,h'.2⟩
    ·exact ⟨.inr a1,a2⟩
   ·rintro ⟨rfl | a1,a2⟩
    ·exact .inl rfl
    ·exact .inr ⟨a1,a2⟩
theorem Zro {n:Nat} {S:List Int->Prop} (hS:∀ p,S p->PN n p) {g:List Int} (hg:PN n g) (hc:∀ p,S p->S (comp p g)):∀ p,S p->S (comp p (PM.inv g)):=by
 intro p hp
 obtain ⟨L,h1,h2⟩:=Zqe (allL (pts n) n) S
 have hin:∀ q,S q->q∈L:=fun q hq=>(h2 q).2 ⟨by
  have h3:=hS q hq
  have h4:=Zuf (A:=pts n) q (fun x hx=>by have:=h3.2.1 x hx;rw [h3.1] at this;exact mem_pts.2 this)
  rwa [h3.1] at h4,hq⟩
 have hsub:L.map (fun q=>comp q g) ⊆ L:=by
  intro x hx
  obtain ⟨q,hq,rfl⟩:=List.mem_map.1 hx
  exact hin _ (hc q ((h2 q).1 hq).2)
 have hnd:(L.map fun q=>comp q g).Nodup:=by
  refine List.pairwise_map.2 ?_
  refine List.Pairwise.imp_of_mem (R:=fun a b=>a ≠ b) ?_ h1
  intro a b ha hb hab he
  exact hab (Zis (hS a ((h2 a).1 ha).2) (hS b ((h2 b).1 hb).2) hg he)
 have hall:=Zeq hnd hsub (by simp)
 obtain ⟨q,hq,hqe⟩:=List.mem_map.1 (hall (hin p hp))
 have hqS:=((h2 q).1 hq).2
 rw [<- hqe,Zat (hS q hqS) hg,Zdk hg,comp_id (hS q hqS)]
 exact hqS
theorem grp_sub {n:Nat} {G:List (List Int)} (hG:∀ g∈G,PN n g) {S:List Int->Prop} (hS:∀ p,S p->PN n p) (h1:S (pts n)) (hc:∀ p g,S p->g∈G->S (comp p g)) {p:List Int} (hp:Grp n G p):S p:=by
 induction hp with
 | id=>exact h1
 | mul _ hg ih=>exact hc _ _ ih hg
 | div _ hg ih=>exact Zro hS (hG _ hg) (fun q hq=>hc q _ hq hg) _ ih
end PM

namespace Go.Proofs.YthleokaeobdamaaGreat
open Go.RowKit
set_option maxRecDepth 10000
theorem Zdj (k:Nat):PM.pts (k + 1) = PM.pts k ++ [(k:Int)]:=by simp [PM.pts,List.range_succ]
set_option maxHeartbeats 1000000 in
theorem Zbn (m:Nat) (w:World) (hm:m<=1000) :
  Calls Tryz.prog 74 #[.int .i64 m] w fun e w'=>∃ v fp',e = .returned v/\Rd w' v (PM.pts m) fp'/\Fresh w.heap.size w' fp'/\Only [] w w':=by
 obtain ⟨i0,hi,hz0,hz1,hz2⟩:=info_parts Tryz.info2
 go_enter Tryz.func74,Tryz.ntmps74
 go_wp2
 go_loopw [3,4] (fun o i wr=>∃ (j:Nat) (fs:List (List Nat)),j<=m/\i = .int .i64 j/\Acc w.heap.size 2 wr o (PM.pts j) fs/\Fresh w.heap.size wr fs.flatten/\Only [] w wr)
  (fun _ i _=>m - (intOf i).toNat)
 case atStart=>exact ⟨0,[],Nat.zero_le _,rfl,Acc.made w w.heap.size _ rfl (Nat.le_refl _),Fresh.nil _ _,zO.alloc _⟩
 case round=>
  obtain ⟨j,fs,hj,rfl,hA,hF,hK⟩:=hrel
  by_cases hlt:j < m
  ·have hsz:=hK.size
   have hlj:(PM.pts j).length + 1<=1073741824:=by rw [PM.pts_len];omega
   have hI:I64 (j:Int):=by unfold I64;omega
   have HI:=zH hI;clear hI
   go_wp2_with ((at_builtin;refine Zah rfl _ _ 27 rfl w.heap.size 2 i0 _ 8 Tryz.underlying27 hi hz0 hz1 hz2 rfl (by decide) (by decide) wr _ (PM.pts j) fs rfl hA hF (zO.alloc _) hsz wr.heap.size 1 [.int .i64 (j:Int)] (j:Int) [] rfl (lit_src wr [.int .i64 (j:Int)] _ rfl) (by intro u hu;simp at hu;subst hu;rfl) (int_rd _ HI.out) (Fresh.nil _ _) hlj w (hK.alloc _) (Nat.le_refl _) ?_;intro v3 w3 hA3 hF3 hK3 _))
   go_roundw
   case rel=>exact ⟨j + 1,_,by omega,by go_num,by rw [Zdj];exact hA3,hF3,hK3⟩
   case measure=>simp [intOf];omega
  ·have hjl:j = m:=by omega
   rw [hjl] at hA
   have HA:=zH hA
   clear hjl hA
   go_wp2
   go_ret
   exact ⟨_,_,rfl,HA.out.rd (by decide),HA.out.fresh hF,hK⟩
set_option maxHeartbeats 1000000 in
theorem Zjk (m:Nat) (w:World) (hm:m<=1000) :
  Calls Tryz.prog 73 #[.int .i64 m] w fun e w'=>∃ v fp',e = .returned v/\Rd w' v (PM.pts m) fp'/\Fresh w.heap.size w' fp'/\Only [] w w':=by
 obtain ⟨i0,hi,hz0,hz1,hz2⟩:=info_parts Tryz.info2
 go_enter Tryz.func73,Tryz.ntmps73
 go_wp2_with (at_make;refine wpList_make_full _ rfl _ _ 27 rfl w.heap.size 2 i0 _ 1 Tryz.underlying27 hi hz0 hz1 _ _ _ _ m rfl rfl rfl rfl (by rw [hz2];omega) (by unfold maxLen;omega) (Nat.le_refl _) ?_;intro w1 hown hg)
 rw [madeInts,Nat.mul_one] at hown
 have hs1:=hg.size
 go_loopw [9] (fun i wr=>∃ j:Nat,j<=m/\i = .int .i64 j /\
   wr.ownsRow w.heap.size 2 1 (.slice (some ⟨w.heap.size,0,none⟩) m m) m ((PM.pts j).map (Value.int .i64) ++ List.replicate (m - j) (.int .i64 0))/\Only [] w wr)
  (fun i _=>m - (intOf i).toNat)
 case atStart=>exact ⟨0,Nat.zero_le _,rfl,by simpa [PM.pts] using hown,zO.grown hg (by simp)⟩
 case round=>
  obtain ⟨j,hj,rfl,hO,hK⟩:=hrel
  have hpl:((PM.pts j).map (Value.int .i64)).length = j:=by rw [List.length_map,PM.pts_len]
  by_cases hlt:j < m
  ·obtain ⟨hO2,hg2⟩:=hO.stored j (.int .i64 j)
   have hstep:((PM.pts j).map (Value.int .i64) ++ List.replicate (m - j) (Value.int .i64 0)).set j (.int .i64 j) = (PM.pts (j + 1)).map (Value.int .i64) ++ List.replicate (m - (j + 1)) (.int .i64 0):=by
    rw [show m - j = (m - (j + 1)) + 1 by omega,List.replicate_succ,List.set_append_right _ _ (by omega),hpl,Nat.sub_self,Zdj]
    simp
   rw [hstep] at hO2
   have hc2:wr.cell? ⟨w.heap.size,j,none⟩ = some (.int .i64 0):=by
    rw [hO.cellAt j (by omega),List.getElem?_append_right (by omega),List.getElem?_replicate,if_pos (by omega)]
   have hf2:=hO.frozenAt j
   have hK2:=hK.setCell (p:=⟨w.heap.size,j,none⟩) (by simp) (.int .i64 j)
   have HO:=zH hO2
   clear hO hO2 hg hg2 hown hstep hpl
   go_wp2
   go_roundw
   case rel=>exact ⟨j + 1,by omega,by go_num,HO.out,hK2⟩
   case measure=>simp [intOf];omega
  ·have hjl:j = m:=by omega
   rw [hjl] at hO
   simp only [Nat.sub_self,List.replicate_zero,List.append_nil] at hO
   have hw:∀ x∈PM.pts m,I64 x:=fun x hx=>by have:=PM.mem_pts.1 hx;unfold I64;omega
   have hO':wr.ownsRow w.heap.size 2 1 (.slice (some ⟨w.heap.size,0,none⟩) m m) (PM.pts m).length ((PM.pts m).map (Value.int .i64)):=by rw [PM.pts_len];exact hO
   obtain ⟨a',cap',hv,-,hI,hF⟩:=Zba hO' hw
   have HI:=zH hI
   have Hv:=zH hv
   clear hjl hO hO' hv hown hI hpl hw
   go_wp2
   go_ret
   refine ⟨_,_,rfl,?_,hF,hK⟩
   have hr:=HI.out.rd
   rw [<- Hv.out] at hr;exact hr
theorem Zgv (n:Int) (w:World) (h0:0<=n) (h1:n<=1000) :
  Calls Tryz.prog 74 #[.int .i64 n] w fun e w'=>∃ v fp',e = .returned v/\Rd w' v (PM.pts n.toNat) fp'/\Fresh w.heap.size w' fp'/\Only [] w w':=by
 obtain ⟨m,rfl⟩:=Int.eq_ofNat_of_zero_le h0
 exact Zbn m w (by omega)
def ltrs:Nat->List Int
 | 0=>[]
 | n + 1=>ltrs n ++ [((n + 1:Nat):Int),-((n + 1:Nat):Int)]
theorem Zfk (n:Nat):(ltrs n).length = 2 * n:=by
 induction n with
 | zero=>rfl
 | succ n ih=>simp [ltrs,ih];omega
theorem Zaw {n:Nat} {x:Int}:x∈ltrs n ↔ x ≠ 0/\-(n:Int)<=x/\x<=n:=by
 induction n with
 | zero=>simp [ltrs];omega
 | succ n ih=>simp [ltrs,ih];omega
def mv (gens:List (List Int)) (l:Int):List Int:=if 0 < l then gens.getD (l - 1).toNat [] else PM.inv (gens.getD (-l - 1).toNat [])
theorem mv_pos {gens:List (List Int)} {l:Int} {k:Nat} (h:l = (k:Int) + 1) (hk:k < gens.length):mv gens l = gens[k]:=by
 unfold mv
 rw [if_pos (by omega),show (l - 1).toNat = k by omega,List.getD_eq_getElem?_getD,List.getElem?_eq_getElem hk];rfl
theorem mv_neg {gens:List (List Int)} {l:Int} {k:Nat} (h:l = -((k:Int) + 1)) (hk:k < gens.length):mv gens l = PM.inv gens[k]:=by
 unfold mv
 rw [if_neg (by omega),show (-l - 1).toNat = k by omega,List.getD_eq_getElem?_getD,List.getElem?_eq_getElem hk];rfl
theorem Zca {n:Nat} {l:Int} (h:l∈ltrs n):(∃ k:Nat,k < n/\l = (k:Int) + 1)\/(∃ k:Nat,k < n/\l = -((k:Int) + 1)):=by
 rw [Zaw] at h
 rcases Int.lt_or_gt_of_ne h.1 with h0 | h0
 ·right;exact ⟨(-l - 1).toNat,by omega,by omega⟩
 ·left;exact ⟨(l - 1).toNat,by omega,by omega⟩
theorem mv_pn {n:Nat} {gens:List (List Int)} (h:∀ g∈gens,PM.PN n g) {l:Int} (hl:l∈ltrs gens.length):PM.PN n (mv gens l):=by
 rcases Zca hl with ⟨k,hk,e⟩ | ⟨k,hk,e⟩
 ·rw [mv_pos e hk];exact h _ (List.getElem_mem _)
 ·rw [mv_neg e hk];exact (h _ (List.getElem_mem _)).inv
theorem Zci (w:World) (cs:List Value) (e:TypeId) {g:Nat} (hg:g = w.heap.size):∀ ad,some (⟨g,0,none⟩:Addr) = some ad->∀ j u,cs[j]? = some u->(w.alloc (.cells cs.toArray e)).cell? (ad.add j) = some u:=by
 intro ad had j u hu
 injection had with had;subst had
 have hadd:(⟨g,0,none⟩:Addr).add j = ⟨g,j,none⟩:=by unfold Addr.add;split <;> simp_all
 rw [hadd];exact lit_src w cs e hg j u hu
theorem Zda (n:Int) (h0:-9223372036854775808<=n) (h1:n < 9223372036854775808):wrap64 n = n:=by unfold wrap64;omega
def Arr (B:Nat) (e:TypeId) (w:World) (g m:Nat) (l:List Int):Prop:=w.ownsRow B e 1 (.slice (some ⟨g,0,none⟩) m m) m (l.map (Value.int .i64))
section
variable {B:Nat} {e:TypeId} {w:World} {g m:Nat} {l:List Int}
theorem Arr.len (h:Arr B e w g m l):l.length = m:=by have:=h.1;simpa using this
theorem Arr.set (h:Arr B e w g m l) (i:Nat) (x:Int):Arr B e (w.setCell ⟨g,i,none⟩ (.int .i64 x)) g m (l.set i x):=by
 have:=(World.ownsRow.stored h i (.int .i64 x)).1
 unfold Arr
 rwa [List.map_set]
theorem Arr.cell (h:Arr B e w g m l) {i:Nat} (hi:i < l.length):w.cell? ⟨g,i,none⟩ = some (.int .i64 l[i]):=by
 rw [World.ownsRow.cellAt h i (by have:=h.len;omega)];simp [hi]
theorem Arr.frozen (h:Arr B e w g m l) (i:Nat):w.frozen? ⟨g,i,none⟩ = false:=World.ownsRow.frozenAt h i
theorem Arr.rd (h:Arr B e w g m l) (hw:∀ x∈l,I64 x):Rd w (.slice (some ⟨g,0,none⟩) m m) l [g]/\Fresh B w [g]:=by
 have h':w.ownsRow B e 1 (.slice (some ⟨g,0,none⟩) m m) m (l.map (Value.int .i64)):=h
 obtain ⟨a,cap,hv,-,hI,hF⟩:=Zba h' hw
 have hr:=hI.rd
 rw [<- hv] at hr
 exact ⟨hr,hF⟩
end
def invUp (p:List Int) (j:Nat):List Int:=(PM.pts p.length).map fun y=>if p.idxOf y < j then (p.idxOf y:Int) else 0
theorem Zkp (p:List Int):invUp p 0 = List.replicate p.length 0:=by
 unfold invUp
 apply List.ext_getElem (by simp [PM.pts_len])
 intro k h1 h2;simp
theorem Zgc (p:List Int) (j:Nat):(invUp p j).length = p.length:=by simp [invUp,PM.pts_len]
theorem Znq {p:List Int} (h:PM.IsP p):invUp p p.length = PM.inv p:=by
 unfold invUp PM.inv
 apply List.map_congr_left
 intro y hy
 have:=h.all hy
 rw [if_pos (List.idxOf_lt_length_of_mem this)]
theorem Zkv {p:List Int} (h:PM.IsP p) {j:Nat} (hj:j < p.length):(invUp p j).set p[j].toNat (j:Int) = invUp p (j + 1):=by
 have hp:=h.1 p[j] (List.getElem_mem hj)
 apply List.ext_getElem (by simp [Zgc])
 intro k h1 h2
 have hk:k < p.length:=by simpa [Zgc] using h2
 have hm:((k:Int))∈p:=h.all (PM.mem_pts.2 ⟨by omega,by omega⟩)
 have hi:=List.idxOf_lt_length_of_mem hm
 have hgi:p[p.idxOf (k:Int)] = (k:Int):=List.getElem_idxOf hi
 rw [List.getElem_set]
 simp only [invUp,List.getElem_map,PM.pts_get]
 by_cases hjk:p[j].toNat = k
 ·rw [if_pos hjk]
  have:p.idxOf (k:Int) = j:=PM.Zfx h.2 hi hj (by rw [hgi];omega)
  rw [this,if_pos (by omega)]
 ·rw [if_neg hjk]
  have:p.idxOf (k:Int) ≠ j:=by
   intro he
   apply hjk
   have:p[j] = (k:Int):=by rw [<- hgi];congr 1;exact he.symm
   omega
  by_cases hlt:p.idxOf (k:Int) < j
  ·rw [if_pos hlt,if_pos (by omega)]
  ·rw [if_neg hlt,if_neg (by omega)]
theorem madeArr {B:Nat} {e:TypeId} {w:World} {g m:Nat} (h:w.ownsRow B e 1 (.slice (some ⟨g,0,none⟩) m m) m (List.replicate m (.int .i64 0))):Arr B e w g m (List.replicate m 0):=by
 unfold Arr;rwa [List.map_replicate]
theorem inv_i64 {p:List Int} (hl:p.length<=1000):∀ x∈PM.inv p,I64 x:=by
 intro x hx
 unfold PM.inv at hx
 obtain ⟨y,-,rfl⟩:=List.mem_map.1 hx
 have:=List.idxOf_le_length (a:=y) (l:=p)
 unfold I64;omega
set_option maxHeartbeats 1000000 in
theorem Zjz (a:Option Addr) (cap:Nat) (p:List Int) (fp:List Nat) (w:World) (h:IntsA w a cap p fp) (hp:PM.IsP p) (hl:p.length<=1000) :
  Calls Tryz.prog 201 #[.slice a p.length cap] w fun e w'=>∃ v fp',e = .returned v/\Rd w' v (PM.inv p) fp'/\Fresh w.heap.size w' fp'/\Only [] w w':=by
 obtain ⟨i0,hi,hz0,hz1,hz2⟩:=info_parts Tryz.info2
 go_enter Tryz.func201,Tryz.ntmps201
 go_wp2_with (at_make;refine wpList_make_full _ rfl _ _ 27 rfl w.heap.size 2 i0 _ 1 Tryz.underlying27 hi hz0 hz1 _ _ _ _ p.length rfl rfl rfl rfl (by rw [hz2];omega) (by unfold maxLen;omega) (Nat.le_refl _) ?_;intro w1 hown hg)
 rw [madeInts,Nat.mul_one] at hown
 have hA:=madeArr hown
 clear hown
 go_loopw [4] (fun i wr=>∃ j:Nat,j<=p.length/\i = .int .i64 j/\Arr w.heap.size 2 wr w.heap.size p.length (invUp p j)/\Only [] w wr)
  (fun i _=>p.length - (intOf i).toNat)
 case atStart=>exact ⟨0,Nat.zero_le _,rfl,by rw [Zkp];exact hA,zO.grown hg (by simp)⟩
 case round=>
  obtain ⟨j,hj,rfl,hO,hK⟩:=hrel
  by_cases hlt:j < p.length
  ·obtain ⟨b,off,rfl,-,hc0⟩:=h.at_ j hlt
   have hc:=hK.cell (by simp) hc0
   have hr:=hp.1 p[j] (List.getElem_mem _)
   have hO2:=hO.set p[j].toNat j
   rw [Zkv hp hlt] at hO2
   have hc2:=hO.cell (i:=p[j].toNat) (by rw [Zgc];omega)
   have hf2:=hO.frozen p[j].toNat
   have hK2:=hK.setCell (p:=⟨w.heap.size,p[j].toNat,none⟩) (by simp) (.int .i64 j)
   obtain ⟨hr0,hr1⟩:=hr
   have HO:=zH hO2
   clear hO hO2 hA hc0
   go_wp2
   go_roundw
   case rel=>exact ⟨j + 1,by omega,by go_num,HO.out,hK2⟩
   case measure=>simp [intOf];omega
  ·have hjl:j = p.length:=by omega
   rw [hjl,Znq hp] at hO
   have HO:=zH (hO.rd (inv_i64 hl))
   clear hjl hO hA
   go_wp2
   go_ret
   exact ⟨_,_,rfl,HO.out.1,HO.out.2,hK⟩
set_option maxHeartbeats 1000000 in
theorem Zjp (a:Option Addr) (cap:Nat) (p:List Int) (fp:List Nat) (w:World) (h:IntsA w a cap p fp) (hp:PM.IsP p) (hl:p.length<=1000) :
  Calls Tryz.prog 195 #[.slice a p.length cap] w fun e w'=>∃ v fp',e = .returned v/\Rd w' v (PM.inv p) fp'/\Fresh w.heap.size w' fp'/\Only [] w w':=by
 obtain ⟨i0,hi,hz0,hz1,hz2⟩:=info_parts Tryz.info2
 go_enter Tryz.func195,Tryz.ntmps195
 go_wp2_with (at_make;refine wpList_make_full _ rfl _ _ 27 rfl w.heap.size 2 i0 _ 1 Tryz.underlying27 hi hz0 hz1 _ _ _ _ p.length rfl rfl rfl rfl (by rw [hz2];omega) (by unfold maxLen;omega) (Nat.le_refl _) ?_;intro w1 hown hg)
 rw [madeInts,Nat.mul_one] at hown
 have hA:=madeArr hown
 clear hown
 go_loopw [11] (fun i wr=>∃ j:Nat,j<=p.length/\i = .int .i64 j/\Arr w.heap.size 2 wr w.heap.size p.length (invUp p j)/\Only [] w wr)
  (fun i _=>p.length - (intOf i).toNat)
 case atStart=>exact ⟨0,Nat.zero_le _,rfl,by rw [Zkp];exact hA,zO.grown hg (by simp)⟩
 case round=>
  obtain ⟨j,hj,rfl,hO,hK⟩:=hrel
  by_cases hlt:j < p.length
  ·obtain ⟨b,off,rfl,-,hc0⟩:=h.at_ j hlt
   have hc:=hK.cell (by simp) hc0
   have hr:=hp.1 p[j] (List.getElem_mem _)
   have hO2:=hO.set p[j].toNat j
   rw [Zkv hp hlt] at hO2
   have hc2:=hO.cell (i:=p[j].toNat) (by rw [Zgc];omega)
   have hf2:=hO.frozen p[j].toNat
   have hK2:=hK.setCell (p:=⟨w.heap.size,p[j].toNat,none⟩) (by simp) (.int .i64 j)
   obtain ⟨hr0,hr1⟩:=hr
   have HO:=zH hO2
   clear hO hO2 hA hc0
   go_wp2
   go_roundw
   case rel=>exact ⟨j + 1,by omega,by go_num,HO.out,hK2⟩
   case measure=>simp [intOf];omega
  ·have hjl:j = p.length:=by omega
   rw [hjl,Znq hp] at hO
   have HO:=zH (hO.rd (inv_i64 hl))
   clear hjl hO hA
   go_wp2
   go_ret
   exact ⟨_,_,rfl,HO.out.1,HO.out.2,hK⟩
theorem Zle (v:Value) (p:List Int) (fp:List Nat) (w:World) (h:Rd w v p fp) (hp:PM.IsP p) (hl:p.length<=1000) :
  Calls Tryz.prog 195 #[v] w fun e w'=>∃ v fp',e = .returned v/\Rd w' v (PM.inv p) fp'/\Fresh w.heap.size w' fp'/\Only [] w w':=by
 obtain ⟨a,cap,rfl,hI⟩:=h.ints
 exact Zjp a cap p fp w hI hp hl
theorem Zge (v:Value) (p:List Int) (fp:List Nat) (w:World) (h:Rd w v p fp) (hp:PM.IsP p) (hl:p.length<=1000) :
  Calls Tryz.prog 201 #[v] w fun e w'=>∃ v fp',e = .returned v/\Rd w' v (PM.inv p) fp'/\Fresh w.heap.size w' fp'/\Only [] w w':=by
 obtain ⟨a,cap,rfl,hI⟩:=h.ints
 exact Zjz a cap p fp w hI hp hl
theorem Zmn (v:Value) (p:List Int) (fp:List Nat) (w:World) (h:Rd w v p fp) (hp:permB p = true) :
  Calls Tryz.prog 228 #[v] w fun e w'=>∃ v fp',e = .returned v/\Rd w' v (PM.inv p) fp'/\Fresh w.heap.size w' fp'/\Only [] w w':=by
 have hp':=Zch.1 hp
 go_enter Tryz.func228,Tryz.ntmps228
 go_wp2_with (first | (go_at_call 140;(with_reducible refine (Zbe v p _ _ h).mono ?_);rintro e w1 ⟨rfl,n1,rfl⟩) | (go_at_call 201;(with_reducible refine (Zge v p _ _ (zK h (Only.ofDrewN _ _ _)) hp'.2 (by omega)).mono ?_);rintro e w2 ⟨u,f2,rfl,r2,F2,t2⟩))
 go_ret
 exact ⟨_,_,rfl,r2,F2,zA⟩
set_option maxHeartbeats 1000000 in
theorem Zfs (v u:Value) (l ix:List Int) (f1 f2:List Nat) (w:World) (h:Rd w v l f1) (h':Rd w u ix f2) (hx:∀ x∈ix,0<=x/\x < l.length) (hl:ix.length<=1000) :
  Calls Tryz.prog 211 #[v,u] w fun e w'=>∃ v fp',e = .returned v/\Rd w' v (PM.comp ix l) fp'/\Fresh w.heap.size w' fp'/\Only [] w w':=by
 obtain ⟨a,cap,rfl,hI⟩:=h.ints
 obtain ⟨a',cap',rfl,hI'⟩:=h'.ints
 have hb:=hI.bound
 obtain ⟨i0,hi,hz0,hz1,hz2⟩:=info_parts Tryz.info2
 go_enter Tryz.func211,Tryz.ntmps211
 go_wp2_with (at_make;refine wpList_make_full _ rfl _ _ 27 rfl w.heap.size 2 i0 _ 1 Tryz.underlying27 hi hz0 hz1 _ _ _ _ ix.length rfl rfl rfl rfl (by rw [hz2];omega) (by unfold maxLen;omega) (Nat.le_refl _) ?_;intro w1 hown hg)
 rw [madeInts,Nat.mul_one] at hown
 have hA:=madeArr hown
 clear hown
 go_loopw [13] (fun i wr=>∃ j:Nat,j<=ix.length/\i = .int .i64 j/\Arr w.heap.size 2 wr w.heap.size ix.length ((PM.comp (ix.take j) l) ++ List.replicate (ix.length - j) 0)/\Only [] w wr)
  (fun i _=>ix.length - (intOf i).toNat)
 case atStart=>exact ⟨0,Nat.zero_le _,rfl,by simpa [PM.comp] using hA,zO.grown hg (by simp)⟩
 case round=>
  obtain ⟨j,hj,rfl,hO,hK⟩:=hrel
  have hcl:(PM.comp (ix.take j) l).length = j:=by rw [PM.Zak,List.length_take];omega
  by_cases hlt:j < ix.length
  ·obtain ⟨b,off,rfl,-,hc0⟩:=hI'.at_ j hlt
   obtain ⟨hr0,hr1⟩:=hx ix[j] (List.getElem_mem _)
   have hxl:ix[j].toNat < l.length:=by omega
   obtain ⟨b2,off2,rfl,-,hd0⟩:=hI.at_ ix[j].toNat hxl
   have hc:=hK.cell (by simp) hc0
   have hd:=hK.cell (by simp) hd0
   have hstep:(PM.comp (ix.take j) l ++ List.replicate (ix.length - j) 0).set j l[ix[j].toNat] = PM.comp (ix.take (j + 1)) l ++ List.replicate (ix.length - (j + 1)) 0:=by
    have e1:PM.at_ l ix[j] = l[ix[j].toNat]:=by
     have:=PM.at_nat l ix[j].toNat hxl
     rwa [show ((ix[j].toNat:Nat):Int) = ix[j] by omega] at this
    rw [show ix.length - j = (ix.length - (j + 1)) + 1 by omega,List.replicate_succ,List.set_append_right _ _ (by omega),hcl,Nat.sub_self,Zab ix j hlt]
    simp only [PM.comp,List.map_append,List.map_cons,List.map_nil,List.append_assoc,List.cons_append,List.nil_append,List.set_cons_zero,e1]
   have hO2:=hO.set j l[ix[j].toNat]
   rw [hstep] at hO2
   obtain ⟨z2,hc2⟩:∃ z,wr.cell? ⟨w.heap.size,j,none⟩ = some z:=⟨_,hO.cell (i:=j) (by simp [hcl];omega)⟩
   have hf2:=hO.frozen j
   have hK2:=hK.setCell (p:=⟨w.heap.size,j,none⟩) (by simp) (.int .i64 l[ix[j].toNat])
   have HO:=zH hO2
   clear hO hO2 hA hc0 hd0 hstep hcl
   go_wp2
   go_roundw
   case rel=>exact ⟨j + 1,by omega,by go_num,HO.out,hK2⟩
   case measure=>simp [intOf];omega
  ·have hjl:j = ix.length:=by omega
   rw [hjl] at hO
   simp only [Nat.sub_self,List.replicate_zero,List.append_nil,List.take_length] at hO
   have hw:∀ x∈PM.comp ix l,I64 x:=by
    intro x hxm
    obtain ⟨y,hy,rfl⟩:=List.mem_map.1 hxm
    have:=hx y hy
    exact hI.wf _ (PM.at_mem this.1 this.2)
   have HO:=zH (hO.rd hw)
   clear hjl hO hA hcl hw
   go_wp2
   go_ret
   exact ⟨_,_,rfl,HO.out.1,HO.out.2,hK⟩
set_option maxHeartbeats 1000000 in
theorem Zgl (v:Value) (gens:List (List Int)) (l:Int) (fp:List Nat) (w:World) (h:Rd w v gens fp) (hg:∀ g∈gens,PM.IsP g/\g.length<=1000) (hl:l∈ltrs gens.length) (hn:gens.length<=1000) :
  Calls Tryz.prog 217 #[v,.int .i64 l] w fun e w'=>∃ v fp',e = .returned v/\Rd w' v (mv gens l) fp'/\(∀ b∈fp',b∈fp\/w.heap.size<=b)/\Only [] w w':=by
 obtain ⟨a,cap,ob,fps,rfl,rfl,hs⟩:=h.open_
 have hb:=hs.bound
 rcases Zca hl with ⟨k,hk,rfl⟩ | ⟨k,hk,rfl⟩
 ·have hm:=mv_pos rfl hk
  have Hm:=zH hm;clear hm
  obtain ⟨b,off,u,rfl,hob,hc,hu⟩:=hs.atRow k hk
  have e1:wrap64 ((k:Int) + 1 - 1) = (k:Int):=Zda _ (by omega) (by omega) |>.trans (by omega)
  have e2:(0:Int) < (k:Int) + 1:=by omega
  go_enter Tryz.func217,Tryz.ntmps217
  go_wp2
  go_ret
  refine ⟨_,_,rfl,by rw [Hm.out];exact hu,fun b' hb'=>?_,zA⟩
  left
  exact List.mem_append_right _ (List.mem_flatten.2 ⟨_,List.getElem_mem _,hb'⟩)
 ·have hm:=mv_neg rfl hk
  have Hm:=zH hm;clear hm
  obtain ⟨b,off,u,rfl,hob,hc,hu⟩:=hs.atRow k hk
  have e1:wrap64 (wrap64 (-(-((k:Int) + 1))) - 1) = (k:Int):=by
   rw [Zda (-(-((k:Int) + 1))) (by omega) (by omega),Zda _ (by omega) (by omega)];omega
  have e2:¬ (0:Int) < -((k:Int) + 1):=by omega
  have hg2:=hg _ (List.getElem_mem hk)
  go_enter Tryz.func217,Tryz.ntmps217
  go_wp2_with ((go_at_call 195;(with_reducible refine (Zle u gens[k] _ _ hu hg2.1 hg2.2).mono ?_);rintro e w2 ⟨u2,f2,rfl,r2,F2,t2⟩))
  go_ret
  exact ⟨_,_,rfl,by rw [Hm.out];exact r2,fun b' hb'=>.inr (F2.ge b' hb'),zA⟩
set_option maxHeartbeats 1000000 in
theorem Zix (m:Nat) (w:World) (hm:m<=1000) :
  Calls Tryz.prog 169 #[.int .i64 m] w fun e w'=>∃ v fp',e = .returned v/\Rd w' v (ltrs m) fp'/\Fresh w.heap.size w' fp'/\Only [] w w':=by
 obtain ⟨i0,hi,hz0,hz1,hz2⟩:=info_parts Tryz.info2
 go_enter Tryz.func169,Tryz.ntmps169
 go_wp2
 go_loopw [3,6] (fun o i wr=>∃ j:Nat,j<=m/\i = .int .i64 j/\wr.ownsRow w.heap.size 2 1 o (ltrs j).length ((ltrs j).map (Value.int .i64))/\Only [] w wr)
  (fun _ i _=>m - (intOf i).toNat)
 case atStart=>exact ⟨0,Nat.zero_le _,rfl,World.ownsRow_nil w _ _ _,Only.refl _ _⟩
 case round=>
  obtain ⟨j,hj,rfl,hO,hK⟩:=hrel
  by_cases hlt:j < m
  ·have hsz:=hK.size
   have hlj:(ltrs j).length<=2000:=by rw [Zfk];omega
   go_wp2_with (at_builtin;refine Zbx _ rfl _ _ 27 rfl w.heap.size 2 i0 _ 1 8 Tryz.underlying27 hi hz0 hz1 hz2 rfl (by omega) _ (ltrs j).length _ rfl (hO.alloc _) (some ⟨wr.heap.size,0,none⟩) 2 2 [.int .i64 ((j:Int) + 1),.int .i64 (-((j:Int) + 1))] rfl rfl (Zci wr [.int .i64 ((j:Int) + 1),.int .i64 (-((j:Int) + 1))] _ rfl) (by simp) (by intro u hu;simp at hu;rcases hu with rfl | rfl <;> rfl) (by unfold maxLen;omega) (by omega) (by simp;omega) ?_;intro v1 w1 hO1 hg1 hb1)
   go_roundw
   case rel=>exact ⟨j + 1,by omega,by go_num,by simpa [ltrs] using hO1,(hK.alloc _).grown hg1 (by intro k hk hk2;have:=(hO.lt k hk).1;omega)⟩
   case measure=>simp [intOf];omega
  ·have hjl:j = m:=by omega
   rw [hjl] at hO
   have hw:∀ x∈ltrs m,I64 x:=fun x hx=>by have:=Zaw.1 hx;unfold I64;omega
   obtain ⟨a',cap',hv,-,hI,hF⟩:=Zba hO hw
   have HI:=zH hI
   have Hv:=zH hv
   clear hjl hO hv hI hw
   go_wp2
   go_ret
   refine ⟨_,_,rfl,?_,hF,hK⟩
   have hr:=HI.out.rd
   rw [<- Hv.out] at hr;exact hr
theorem Zad {x:Puzzle} (h:validPz x = true):1<=x.points/\x.points<=20/\x.moves.length<=8/\∀ y∈x.moves,(y.length:Int) = x.points/\permB y = true:=by
 unfold validPz at h
 rw [Bool.and_eq_true] at h
 have h1:=h.1
 unfold gensB at h1
 rw [Bool.and_eq_true,Bool.and_eq_true,inR_iff,decide_eq_true_iff,List.all_eq_true] at h1
 refine ⟨h1.1.1.1,h1.1.1.2,h1.1.2,fun y hy=>?_⟩
 have:=h1.2 y hy
 unfold genB at this
 simpa using this
theorem Zbw {x:Puzzle} (h:validPz x = true):∀ g∈x.moves,PM.PN x.points.toNat g:=by
 intro g hg
 obtain ⟨h1,h2,h3,h4⟩:=Zad h
 obtain ⟨h5,h6⟩:=h4 g hg
 exact ⟨by omega,(Zch.1 h6).2⟩
def idxL (l:List (List Int)) (p:List Int):Int:=idxF (fun q=>decide (q = p)) l
def nxt (x:Puzzle) (p:List Int) (l:Int):List Int:=PM.comp p (mv x.moves l)
def nextI (x:Puzzle) (t:Table) (p:List Int) (l:Int):Int:=idxL t.patterns (nxt x p l)
def leads (x:Puzzle) (t:Table) (p:List Int) (d:Int) (l:Int):Bool:=decide (0<=nextI x t p l) && decide (t.distances.getD (nextI x t p l).toNat 0 = d)
def descL (x:Puzzle) (t:Table) (p:List Int) (d:Int):Int:=((ltrs x.moves.length).find? (leads x t p d)).getD 0
structure Fault where
 kind:Int
 entry:Int
 letter:Int
instance:Rp Fault where
 size:=3
 rep _ cs x fp:=cs = [Value.int .i64 x.kind,Value.int .i64 x.entry,Value.int .i64 x.letter]/\(I64 x.kind/\I64 x.entry/\I64 x.letter)/\fp = []
 len h:=by rw [h.1];rfl
 frame h _:=h
 lt h:=by rw [h.2.2];simp
def atD (t:Table) (i:Int):Int:=t.distances.getD i.toNat 0
def atP (t:Table) (i:Nat):List Int:=t.patterns.getD i []
def one (b:Bool) (f:Fault):List Fault:=if b = true then [f] else []
def letF (x:Puzzle) (t:Table) (i:Nat) (l:Int):List Fault:=
 if nextI x t (atP t i) l < 0 then [⟨4,i,l⟩] else if inR (atD t (nextI x t (atP t i) l) - atD t i) (-1) 1 = true then [] else [⟨5,i,l⟩]
def entF (x:Puzzle) (t:Table) (i:Nat):List Fault:=
 one (decide (i = 0) && (decide (atD t i ≠ 0) || decide (atP t 0 ≠ t.tracked))) ⟨1,i,0⟩ ++
 (one (decide (idxL t.patterns (atP t i) < i)) ⟨2,i,0⟩ ++
 (one (decide (0 < i) && decide (atD t i = 0)) ⟨3,i,0⟩ ++
 ((ltrs x.moves.length).flatMap (letF x t i) ++
 one (decide (0 < atD t i) && decide (descL x t (atP t i) (atD t i - 1) = 0)) ⟨6,i,0⟩)))
theorem Zeg {α:Type} (pr:α->Bool) (l:List α):idxF pr l = -1\/∃ k:Nat,∃ h:k < l.length,idxF pr l = k/\pr l[k] = true:=by
 unfold idxF
 cases h:l.findIdx? pr with
 | none=>exact .inl rfl
 | some i=>
  right
  obtain ⟨hi,hp,-⟩:=List.findIdx?_eq_some_iff_getElem.1 h
  exact ⟨i,hi,rfl,hp⟩
theorem idxL_lt {l:List (List Int)} {p:List Int}:-1<=idxL l p/\idxL l p < l.length:=by
 rcases Zeg (fun q=>decide (q = p)) l with h | ⟨k,hk,h,-⟩
 ·unfold idxL;omega
 ·unfold idxL;omega
theorem nxt_pat {x:Puzzle} {k:Nat} {p:List Int} {l:Int} (hv:validPz x = true) (hp:patB x.points k p = true) (hl:l∈ltrs x.moves.length):patB x.points k (nxt x p l) = true:=by
 obtain ⟨h1,h2,h3,h4⟩:=Zad hv
 obtain ⟨h5,h6,h7⟩:=Zaz.1 hp
 have hm:=mv_pn (Zbw hv) hl
 refine Zaz.2 ⟨by unfold nxt;rw [PM.Zak];exact h5,fun y hy=>?_,?_⟩
 ·obtain ⟨z,hz,rfl⟩:=List.mem_map.1 hy
  have:=h6 z hz
  have:=hm.rng this.1 (by omega)
  omega
 ·unfold nxt PM.comp
  rw [List.nodup_iff_pairwise_ne,List.pairwise_map]
  refine (List.nodup_iff_pairwise_ne.1 h7).imp_of_mem fun {a b} ha hb hab he=>hab ?_
  have h8:=h6 a ha;have h9:=h6 b hb
  exact hm.inj h8.1 (by omega) h9.1 (by omega) he
abbrev Met16:=List (List Int) × List Int
def bMeet (s:Met16) (d:Int) (y:List Int):Option Met16:=if y∈s.1 then some s else if s.1.length = 3000 then none else some (s.1 ++ [y],s.2 ++ [d])
def bLets (x:Puzzle) (q:List Int) (d:Int):List Int->Met16->Option Met16
 | [],s=>some s
 | l :: ls,s=>(bMeet s d (nxt x q l)).bind (bLets x q d ls)
def bFrom (x:Puzzle):Nat->Nat->Met16->Option Met16
 | 0,_,s=>some s
 | n + 1,k,s=>if k < s.1.length then (bLets x (s.1.getD k []) (s.2.getD k 0 + 1) (ltrs x.moves.length) s).bind (bFrom x n (k + 1)) else some s
def bfs16 (x:Puzzle) (tr:List Int):Option Met16:=if (validPz x && trackB x.points tr) = true then bFrom x 3001 0 ([tr],[0]) else none
theorem Znm {s s':Met16} {d:Int} {y:List Int} (h:bMeet s d y = some s') (h1:s.1.length = s.2.length) (h2:s.1.length<=3000):s'.1.length = s'.2.length/\s'.1.length<=3000/\s.1.length<=s'.1.length:=by
 unfold bMeet at h
 split at h
 ·injection h with h;subst h;exact ⟨h1,h2,Nat.le_refl _⟩
 ·split at h
  ·cases h
  ·injection h with h;subst h;simp;omega
theorem Znh {x:Puzzle} {q:List Int} {d:Int}:∀ {ls:List Int} {s s':Met16},bLets x q d ls s = some s'->s.1.length = s.2.length->s.1.length<=3000->s'.1.length = s'.2.length/\s'.1.length<=3000/\s.1.length<=s'.1.length
 | [],s,s',h,h1,h2=>by unfold bLets at h;injection h with h;subst h;exact ⟨h1,h2,Nat.le_refl _⟩
 | l :: ls,s,s',h,h1,h2=>by
  unfold bLets at h
  rw [Option.bind_eq_some_iff] at h
  obtain ⟨s1,e1,e2⟩:=h
  obtain ⟨a,b,c⟩:=Znm e1 h1 h2
  obtain ⟨a',b',c'⟩:=Znh e2 a b
  exact ⟨a',b',Nat.le_trans c c'⟩
def prec:List Int->List Int->Bool
 | a :: xs,b :: ys=>if a = b then prec xs ys else decide (a < b)
 | _,_=>false
theorem Zpa:∀ (a:List Int),prec a a = false
 | []=>rfl
 | a :: xs=>by simp [prec,Zpa xs]
theorem Zlh:∀ {a b c:List Int},a.length = b.length->b.length = c.length->prec a b = true->prec b c = true->prec a c = true
 | [],_,_,_,_,h,_=>by cases h
 | _ :: _,[],_,h,_,_,_=>by cases h
 | _ :: _,_ :: _,[],_,h,_,_=>by cases h
 | a :: xs,b :: ys,c :: zs,h1,h2,h3,h4=>by
  unfold prec at h3 h4 ⊢
  by_cases e1:a = b
  ·by_cases e2:b = c
   ·rw [if_pos e1] at h3;rw [if_pos e2] at h4;rw [if_pos (e1.trans e2)]
    exact Zlh (by simpa using h1) (by simpa using h2) h3 h4
   ·rw [if_neg e2] at h4;subst e1;rw [if_neg e2];exact h4
  ·rw [if_neg e1] at h3
   have h3:=of_decide_eq_true h3
   by_cases e2:b = c
   ·subst e2;rw [if_neg e1];exact decide_eq_true h3
   ·rw [if_neg e2] at h4
    have h4:=of_decide_eq_true h4
    rw [if_neg (by omega)];exact decide_eq_true (by omega)
theorem Zpo:∀ {a b:List Int},a.length = b.length->a ≠ b->prec a b = false->prec b a = true
 | [],[],_,h,_=>absurd rfl h
 | [],_ :: _,h,_,_=>by cases h
 | _ :: _,[],h,_,_=>by cases h
 | a :: xs,b :: ys,h1,h2,h3=>by
  unfold prec at h3 ⊢
  by_cases e1:a = b
  ·subst e1
   rw [if_pos rfl] at h3 ⊢
   exact Zpo (by simpa using h1) (fun e=>h2 (by rw [e])) h3
  ·rw [if_neg e1] at h3
   rw [if_neg (fun e=>e1 e.symm)]
   have:=of_decide_eq_false h3
   exact decide_eq_true (by omega)
theorem Zhz:∀ {a b:List Int} {j:Nat},(∀ i,i < j->a[i]? = b[i]?)->j<=a.length->j<=b.length->prec a b = prec (a.drop j) (b.drop j)
 | _,_,0,_,_,_=>by simp
 | [],_,j + 1,_,h,_=>by simp at h
 | _ :: _,[],j + 1,_,_,h=>by simp at h
 | a :: xs,b :: ys,j + 1,h,h1,h2=>by
  have h0:=h 0 (by omega)
  simp only [List.getElem?_cons_zero,Option.some.injEq] at h0
  rw [List.drop_succ_cons,List.drop_succ_cons]
  rw [show prec (a :: xs) (b :: ys) = if a = b then prec xs ys else decide (a < b) from rfl,if_pos h0]
  exact Zhz (fun i hi=>by simpa using h (i + 1) (by omega)) (by simpa using h1) (by simpa using h2)
theorem prec_at {a b:List Int} {j:Nat} (h:∀ i,i < j->a[i]? = b[i]?) (h1:j < a.length) (h2:j < b.length) (hne:a[j] ≠ b[j]):prec a b = decide (a[j] < b[j]):=by
 rw [Zhz h (by omega) (by omega),List.drop_eq_getElem_cons h1,List.drop_eq_getElem_cons h2]
 rw [show ∀ (x y:Int) (xs ys:List Int),prec (x :: xs) (y :: ys) = if x = y then prec xs ys else decide (x < y) from fun _ _ _ _=>rfl,if_neg hne]
theorem Ztu {a b:List Int} (h:∀ i,i < a.length->a[i]? = b[i]?) (hl:a.length = b.length):prec a b = false:=by
 rw [Zhz h (Nat.le_refl _) (by omega),List.drop_length]
 rfl
structure Srt (m:Nat) (L:List (List Int)) (so:List Nat):Prop where
 len:so.length = L.length
 many:∀ x∈L,x.length = m
 in_:∀ i∈so,i < L.length
 all:∀ i,i < L.length->i∈so
 asc:∀ (i j:Nat) (hi:i < so.length) (hj:j < so.length),i < j->prec (L.getD so[i] []) (L.getD so[j] []) = true
theorem Srt.nil (m:Nat):Srt m [] []:=⟨rfl,by simp,by simp,by simp,by simp⟩
theorem Srt.mem {m:Nat} {L:List (List Int)} {so:List Nat} (h:Srt m L so) {i:Nat} (hi:i < so.length):L.getD so[i] []∈L:=by
 have:=h.in_ so[i] (List.getElem_mem hi)
 rw [List.getD_eq_getElem?_getD,List.getElem?_eq_getElem this]
 exact List.getElem_mem this
structure Slot (L:List (List Int)) (so:List Nat) (s:List Int) (k:Nat):Prop where
 le:k<=so.length
 lo:∀ (i:Nat) (hi:i < so.length),i < k->prec (L.getD so[i] []) s = true
 hi:∀ (i:Nat) (hi:i < so.length),k<=i->prec (L.getD so[i] []) s = false
theorem Srt.below {m:Nat} {L:List (List Int)} {so:List Nat} (h:Srt m L so) {s:List Int} (hs:s.length = m) {k:Nat} (hk:k < so.length) (hp:prec (L.getD so[k] []) s = true) {i:Nat} (hi:i < so.length) (hik:i<=k):prec (L.getD so[i] []) s = true:=by
 rcases Nat.lt_or_eq_of_le hik with hlt | rfl
 ·exact Zlh (by rw [h.many _ (h.mem hi),h.many _ (h.mem hk)]) (by rw [h.many _ (h.mem hk),hs]) (h.asc i k hi hk hlt) hp
 ·exact hp
theorem Srt.above {m:Nat} {L:List (List Int)} {so:List Nat} (h:Srt m L so) {s:List Int} (hs:s.length = m) {k:Nat} (hk:k < so.length) (hp:prec (L.getD so[k] []) s = false) {i:Nat} (hi:i < so.length) (hik:k<=i):prec (L.getD so[i] []) s = false:=by
 rcases hq:prec (L.getD so[i] []) s
 ·rfl
 ·rw [h.below hs hi hq hk hik] at hp;cases hp
theorem Srt.slot_mem {m:Nat} {L:List (List Int)} {so:List Nat} (h:Srt m L so) {s:List Int} {k:Nat} (hk:Slot L so s k):s∈L ↔ ∃ hk:k < so.length,L.getD so[k] [] = s:=by
 constructor
 ·intro hm
  obtain ⟨i,hi,he⟩:=List.mem_iff_getElem.1 hm
  obtain ⟨t,ht,hte⟩:=List.mem_iff_getElem.1 (h.all i hi)
  have hts:L.getD so[t] [] = s:=by rw [hte,List.getD_eq_getElem?_getD,List.getElem?_eq_getElem hi];exact he
  rcases Nat.lt_trichotomy t k with hlt | heq | hgt
  ·have:=hk.lo t ht hlt
   rw [hts,Zpa] at this;cases this
  ·subst heq;exact ⟨ht,hts⟩
  ·have h1:=h.asc k t (by omega) ht hgt
   have h2:=hk.hi k (by omega) (Nat.le_refl _)
   rw [hts] at h1;rw [h1] at h2;cases h2
 ·rintro ⟨hk,he⟩
  rw [<- he];exact h.mem hk
theorem Srt.add {m:Nat} {L:List (List Int)} {so:List Nat} (h:Srt m L so) {s:List Int} (hs:s.length = m) (hn:s ∉ L) {k:Nat} (hk:Slot L so s k):Srt m (L ++ [s]) (so.take k ++ L.length :: so.drop k):=by
 have hD:∀ (t:Nat) (ht:t < so.length),(L ++ [s]).getD so[t] [] = L.getD so[t] []:=fun t ht=>by
  have:=h.in_ so[t] (List.getElem_mem ht)
  simp only [List.getD_eq_getElem?_getD,List.getElem?_append_left this]
 have hS:(L ++ [s]).getD L.length [] = s:=by simp [List.getD_eq_getElem?_getD]
 have hle:=hk.le
 have hG:∀ (t:Nat) (ht:t < (so.take k ++ L.length :: so.drop k).length),(L ++ [s]).getD (so.take k ++ L.length :: so.drop k)[t] [] = if t < k then L.getD (so.getD t 0) [] else if t = k then s else L.getD (so.getD (t - 1) 0) []:=by
  intro t ht
  have htl:t < so.length + 1:=by simp at ht;omega
  by_cases h1:t < k
  ·rw [if_pos h1]
   rw [List.getElem_append_left (by simp;omega),List.getElem_take]
   rw [hD t (by omega)]
   simp [List.getD_eq_getElem?_getD,List.getElem?_eq_getElem (show t < so.length by omega)]
  ·rw [if_neg h1]
   have hkl:(so.take k).length = k:=by simp;omega
   rw [List.getElem_append_right (by rw [hkl];omega)]
   by_cases h2:t = k
   ·subst h2;rw [if_pos rfl];simp only [hkl,Nat.sub_self,List.getElem_cons_zero];exact hS
   ·rw [if_neg h2]
    have h3:t - (so.take k).length = (t - 1 - k) + 1:=by rw [hkl];omega
    simp only [h3,List.getElem_cons_succ,List.getElem_drop]
    have h4:k + (t - 1 - k) = t - 1:=by omega
    have h5:t - 1 < so.length:=by omega
    simp only [h4]
    rw [hD _ h5]
    simp [List.getD_eq_getElem?_getD,List.getElem?_eq_getElem h5]
 refine ⟨?_,?_,?_,?_,?_⟩
 ·have:=h.len;simp;omega
 ·intro x hx
  rcases List.mem_append.1 hx with hx | hx
  ·exact h.many x hx
  ·simp at hx;subst hx;exact hs
 ·intro i hi
  rw [List.length_append,List.length_singleton]
  rcases List.mem_append.1 hi with hi | hi
  ·have:=h.in_ i (List.mem_of_mem_take hi);omega
  ·rcases List.mem_cons.1 hi with rfl | hi
   ·omega
   ·have:=h.in_ i (List.mem_of_mem_drop hi);omega
 ·intro i hi
  rw [List.length_append,List.length_singleton] at hi
  by_cases he:i = L.length
  ·subst he;simp
  ·have:=h.all i (by omega)
   rw [<- List.take_append_drop k so] at this
   rcases List.mem_append.1 this with h1 | h1
   ·exact List.mem_append_left _ h1
   ·exact List.mem_append_right _ (List.mem_cons_of_mem _ h1)
 ·intro i j hi hj hij
  rw [hG i hi,hG j hj]
  have hjl:j < so.length + 1:=by simp at hj;omega
  have gd:∀ (t:Nat) (ht:t < so.length),so.getD t 0 = so[t]:=fun t ht=>by simp [List.getD_eq_getElem?_getD,List.getElem?_eq_getElem ht]
  by_cases j1:j < k
  ·rw [if_pos j1,if_pos (by omega),gd i (by omega),gd j (by omega)]
   exact h.asc i j (by omega) (by omega) hij
  ·rw [if_neg j1]
   by_cases j2:j = k
   ·subst j2
    rw [if_pos rfl,if_pos hij,gd i (by omega)]
    exact hk.lo i (by omega) hij
   ·rw [if_neg j2,gd (j - 1) (by omega)]
    by_cases i1:i < k
    ·rw [if_pos i1,gd i (by omega)]
     exact h.asc i (j - 1) (by omega) (by omega) (by omega)
    ·rw [if_neg i1]
     by_cases i2:i = k
     ·rw [if_pos i2]
      have hj1:j - 1 < so.length:=by omega
      have hne:L.getD so[j - 1] [] ≠ s:=fun e=>hn (e ▸ h.mem hj1)
      exact Zpo (by rw [h.many _ (h.mem hj1),hs]) hne (hk.hi (j - 1) hj1 (by omega))
     ·rw [if_neg i2,gd (i - 1) (by omega)]
      exact h.asc (i - 1) (j - 1) (by omega) (by omega) (by omega)
set_option maxHeartbeats 1000000 in
theorem Zkj (v u:Value) (l p:List Int) (f g:List Nat) (w:World) (h:Rd w v l f) (h':Rd w u p g) (hl:l.length = p.length) :
  Calls Tryz.prog 237 #[v,u] w fun e w'=>e = .returned (.bool (prec l p))/\Drew w w':=by
 obtain ⟨a,cap,rfl,IL⟩:=h.ints
 obtain ⟨a',cap',rfl,IP⟩:=h'.ints
 have hb:=IL.bound
 have hb':=IP.bound
 have Hl:=zH hl
 clear hl
 go_enter Tryz.func237,Tryz.ntmps237
 go_wp2
 go_loopw [5] (fun i wr=>∃ j:Nat,j<=l.length/\i = .int .i64 j/\(∀ i,i < j->l[i]? = p[i]?)/\Drew w wr)
  (fun i _=>l.length - (intOf i).toNat)
 case atStart=>exact ⟨0,Nat.zero_le _,rfl,by simp,Drew.refl _⟩
 case round=>
  obtain ⟨j,hj,rfl,hr,n,rfl⟩:=hrel
  have Hr:=zH hr
  clear hr
  by_cases hlt:j < l.length
  ·have hlt':j < p.length:=by have:=Hl.out;omega
   obtain ⟨b,off,rfl,-,hc⟩:=IL.at_ j hlt
   obtain ⟨b',off',rfl,-,hc'⟩:=IP.at_ j hlt'
   rcases hq:(l[j] != p[j])
   ·have heq:l[j] = p[j]:=by simpa using hq
    have Heq:=zH heq
    clear heq
    go_wp2
    go_quiet (fail)
    go_wp2
    go_roundw
    case rel=>exact ⟨j + 1,by omega,by go_num,fun i hi=>by
     rcases Nat.lt_or_eq_of_le (Nat.lt_succ_iff.1 hi) with h1 | rfl
     ·exact Hr.out i h1
     ·rw [List.getElem?_eq_getElem hlt,List.getElem?_eq_getElem hlt',Heq.out],⟨_,rfl⟩⟩
    case measure=>simp [intOf];omega
   ·have hne:l[j] ≠ p[j]:=by simpa using hq
    have Hne:=zH hne
    clear hne
    go_wp2
    go_quiet (fail)
    go_wp2
    go_quiet (fail)
    go_wp2
    go_ret
    exact ⟨Zaa (prec_at Hr.out hlt hlt' Hne.out).symm,(((Drew.refl _).drewN _).drewN _).drewN _⟩
  ·obtain rfl:j = l.length:=by omega
   go_wp2
   go_ret
   exact ⟨Zaa (Ztu Hr.out Hl.out).symm,⟨_,rfl⟩⟩
def soI (so:List Nat):List Int:=so.map fun i:Nat=>(i:Int)
theorem soI_len (so:List Nat):(soI so).length = so.length:=by simp [soI]
theorem soI_get (so:List Nat) {j:Nat} (h:j < so.length):(soI so)[j]'(by rw [soI_len];exact h) = (so[j]:Int):=by simp [soI]
structure SrR (w:World) (A1 A2 A3:Option Addr) (C1 C2 C3:Nat) (L:List (List Int)) (D:List Int) (so:List Nat) (ob:List Nat) (fps:List (List Nat)) (fd fs:List Nat):Prop where
 ls:SeqA w A1 C1 L ob fps
 dp:IntsA w A2 C2 D fd
 st:IntsA w A3 C3 (soI so) fs
theorem SrR.keep {w w':World} {A1 A2 A3:Option Addr} {C1 C2 C3:Nat} {L:List (List Int)} {D:List Int} {so:List Nat} {ob:List Nat} {fps:List (List Nat)} {fd fs:List Nat} (h:SrR w A1 A2 A3 C1 C2 C3 L D so ob fps fd fs) (ho:Only [] w w'):SrR w' A1 A2 A3 C1 C2 C3 L D so ob fps fd fs:=
 ⟨h.ls.frame fun b hb=>ho.block b (h.ls.lt_all b hb) (by simp),h.dp.keep ho,h.st.keep ho⟩
theorem SrR.only {w w':World} {A1 A2 A3:Option Addr} {C1 C2 C3:Nat} {L:List (List Int)} {D:List Int} {so:List Nat} {ob:List Nat} {fps:List (List Nat)} {fd fs fp:List Nat} (h:SrR w A1 A2 A3 C1 C2 C3 L D so ob fps fd fs) (ho:Only fp w w') (hd:∀ g∈(ob ++ fps.flatten) ++ (fd ++ fs),g ∉ fp):SrR w' A1 A2 A3 C1 C2 C3 L D so ob fps fd fs:=
 ⟨h.ls.frame fun b hb=>ho.block b (h.ls.lt_all b hb) (hd b (List.mem_append_left _ hb)),h.dp.only ho fun b hb=>hd b (List.mem_append_right _ (List.mem_append_left _ hb)),h.st.only ho fun b hb=>hd b (List.mem_append_right _ (List.mem_append_right _ hb))⟩
set_option maxHeartbeats 2000000 in
theorem Zgt (A1 A2 A3:Option Addr) (C1 C2 C3:Nat) (wh:Bool) (L:List (List Int)) (D:List Int) (so:List Nat) (ob:List Nat) (fps:List (List Nat)) (fd fs:List Nat) (m:Nat) (v:Value) (s:List Int) (f:List Nat) (w:World)
  (h:SrR w A1 A2 A3 C1 C2 C3 L D so ob fps fd fs) (hS:Srt m L so) (hv:Rd w v s f) (hs:s.length = m) (hL:L.length<=3000) :
  Calls Tryz.prog 219 #[.agg #[.slice A1 L.length C1,.slice A2 D.length C2,.slice A3 so.length C3,.bool wh],v] w fun e w'=>∃ k:Nat,e = .returned (.int .i64 k)/\Slot L so s k/\k<=3000/\Only [] w w':=by
 have hlen:so.length<=3000:=by rw [hS.len];exact hL
 have HS:=zH hS
 clear hS
 go_enter Tryz.func219,Tryz.ntmps219
 go_wp2
 go_loopw [5,6] (fun lo hi wr=>∃ a b:Nat,a<=b/\b<=so.length/\lo = .int .i64 a/\hi = .int .i64 b/\(∀ (i:Nat) (hi:i < so.length),i < a->prec (L.getD so[i] []) s = true)/\(∀ (i:Nat) (hi:i < so.length),b<=i->prec (L.getD so[i] []) s = false)/\Drew (w.alloc (.cells #[.slice A1 L.length C1,.slice A2 D.length C2,.slice A3 so.length C3,.bool wh] 78)) wr)
  (fun lo hi _=>(intOf hi - intOf lo).toNat)
 case atStart=>exact ⟨0,so.length,Nat.zero_le _,Nat.le_refl _,rfl,rfl,by simp,fun i hi h=>absurd hi (Nat.not_lt.2 h),Drew.refl _⟩
 case round=>
  obtain ⟨a,b,hab,hbl,rfl,rfl,hlo,hhi,n,rfl⟩:=hrel
  have Hlo:=zH hlo
  have Hhi:=zH hhi
  clear hlo hhi
  by_cases hlt:a < b
  ·obtain ⟨mid,hmid⟩:∃ mid,mid = (a + b) / 2:=⟨_,rfl⟩
   have hm1:a<=mid:=by omega
   have hm2:mid < b:=by omega
   have hq1:((a:Int) + (b:Int)) / 2 = (mid:Int):=by omega
   have hq2:((a:Int) + (b:Int)).tdiv 2 = (mid:Int):=by rw [Int.tdiv_eq_ediv_of_nonneg (by omega)];exact hq1
   clear hmid
   have hml:mid < so.length:=by omega
   obtain ⟨b3,off3,rfl,-,hc3⟩:=h.st.at_ mid (by rw [soI_len];exact hml)
   have hin:=HS.out.in_ so[mid] (List.getElem_mem hml)
   have hget:=soI_get so hml
   obtain ⟨i0,hi0⟩:∃ i0,i0 = so[mid]:=⟨_,rfl⟩
   rw [hget,<- hi0] at hc3
   rw [<- hi0] at hin
   obtain ⟨b1,off1,u,rfl,-,hc1,hu⟩:=h.ls.atRow i0 hin
   have hmany:=HS.out.many L[i0] (List.getElem_mem hin)
   have hlu:L[i0].length = s.length:=by rw [hmany,hs]
   have hD:L.getD so[mid] [] = L[i0]:=by rw [<- hi0,List.getD_eq_getElem?_getD,List.getElem?_eq_getElem hin];rfl
   have HD:=zH hD
   have HU:=zH hlu
   have K:Only [] w (w.alloc (.cells #[.slice (some ⟨b1,off1,none⟩) L.length C1,.slice A2 D.length C2,.slice (some ⟨b3,off3,none⟩) so.length C3,.bool wh] 78)):=zO.alloc _
   have hk3:=K.cell (by simp) hc3
   have hk1:=K.cell (by simp) hc1
   clear hget hi0 hmany hlu hD
   go_wp2
   go_quiet ((go_at_call 237;exact Zay (Zkj u v L[i0] s _ _ _ (zK hu (K.drewN _)) (zK hv (K.drewN _)) HU.out)))
   go_wp2
   ·have hp:prec L[i0] s = true:=by assumption
    go_roundw
    case rel=>exact ⟨mid + 1,b,by omega,hbl,by go_num,by go_num,fun i hi h1=>HS.out.below hs hml (by rw [HD.out];exact hp) hi (by omega),Hhi.out,by first | exact (Drew.refl _).drewN _ | exact ((Drew.refl _).drewN _).drewN _⟩
    case measure=>simp [intOf];omega
   ·have hp:prec L[i0] s = false:=by assumption
    go_roundw
    case rel=>exact ⟨a,mid,hm1,by omega,by go_num,by go_num,Hlo.out,fun i hi h1=>HS.out.above hs hml (by rw [HD.out];exact hp) hi h1,by first | exact (Drew.refl _).drewN _ | exact ((Drew.refl _).drewN _).drewN _⟩
    case measure=>simp [intOf];omega
  ·obtain rfl:a = b:=by omega
   go_wp2
   go_ret
   exact ⟨a,rfl,⟨hbl,Hlo.out,Hhi.out⟩,by omega,zA⟩
set_option maxHeartbeats 2000000 in
theorem Zeh (A1 A2 A3:Option Addr) (C1 C2 C3:Nat) (wh:Bool) (L:List (List Int)) (D:List Int) (so:List Nat) (ob:List Nat) (fps:List (List Nat)) (fd fs:List Nat) (m:Nat) (v:Value) (s:List Int) (f:List Nat) (w:World)
  (h:SrR w A1 A2 A3 C1 C2 C3 L D so ob fps fd fs) (hS:Srt m L so) (hv:Rd w v s f) (hs:s.length = m) (hL:L.length<=3000) :
  Calls Tryz.prog 166 #[.agg #[.slice A1 L.length C1,.slice A2 D.length C2,.slice A3 so.length C3,.bool wh],v] w fun e w'=>∃ r:Int,e = .returned (.int .i64 r)/\(0<=r ↔ s∈L)/\(r = -1\/∃ i:Nat,r = i/\i < L.length/\L.getD i [] = s)/\Only [] w w':=by
 have hlen:so.length<=3000:=by rw [hS.len];exact hL
 have HS:=zH hS
 clear hS
 have K:Only [] w (w.alloc (.cells #[.slice A1 L.length C1,.slice A2 D.length C2,.slice A3 so.length C3,.bool wh] 78)):=zO.alloc _
 have hB:=Blk.new w [.slice A1 L.length C1,.slice A2 D.length C2,.slice A3 so.length C3,.bool wh] 78
 go_enter Tryz.func166,Tryz.ntmps166
 go_wp2_with (first
  | (go_at_call 219;(with_reducible refine (Zgt A1 A2 A3 C1 C2 C3 wh L D so ob fps fd fs m _ s f _ (h.keep K) HS.out (zK hv K) hs hL).mono ?_);rintro e w1 ⟨k,rfl,hk,hk3,t1⟩;have y0:=(hB.keep t1).cell 0 rfl;have y2:=(hB.keep t1).cell 2 rfl)
  | fail)
 have KK:=K.trans t1
 have Hk:=zH hk
 clear hk
 by_cases hlt:k < so.length
 ·obtain ⟨b3,off3,rfl,-,hc3⟩:=h.st.at_ k (by rw [soI_len];exact hlt)
  have hin:=HS.out.in_ so[k] (List.getElem_mem hlt)
  have hget:=soI_get so hlt
  obtain ⟨i0,hi0⟩:∃ i0,i0 = so[k]:=⟨_,rfl⟩
  rw [hget,<- hi0] at hc3
  rw [<- hi0] at hin
  obtain ⟨b1,off1,u,rfl,-,hc1,hu⟩:=h.ls.atRow i0 hin
  have hD:L.getD so[k] [] = L[i0]:=by rw [<- hi0,List.getD_eq_getElem?_getD,List.getElem?_eq_getElem hin];rfl
  have HD:=zH hD
  have hk3':=KK.cell (by simp) hc3
  have hk1:=KK.cell (by simp) hc1
  clear hget hi0 hD hc3 hc1 hB
  go_quiet ((go_at_call 56;exact Zbk (Zar u v L[i0] s _ _ _ (zK hu (KK.drewN _)) (zK hv (KK.drewN _)))))
  go_wp2
  ·have hp:eqV L[i0] s = true:=by assumption
   go_ret
   exact ⟨i0,rfl,⟨fun _=>(HS.out.slot_mem Hk.out).2 ⟨hlt,HD.out.trans (eqV_iff.1 hp)⟩,fun _=>by omega⟩,.inr ⟨i0,rfl,hin,by rw [List.getD_eq_getElem?_getD,List.getElem?_eq_getElem hin];exact eqV_iff.1 hp⟩,zA⟩
  ·have hp:eqV L[i0] s = false:=by assumption
   go_ret
   exact ⟨-1,rfl,⟨fun h=>by omega,fun h=>by
    obtain ⟨_,he⟩:=(HS.out.slot_mem Hk.out).1 h
    exact absurd (HD.out.symm.trans he) (eqV_iff'.1 hp)⟩,.inl rfl,zA⟩
 ·have hge:so.length<=k:=by omega
  clear hB
  go_quiet (fail)
  go_wp2
  go_ret
  exact ⟨-1,rfl,⟨fun h=>by omega,fun h=>by
   obtain ⟨h1,_⟩:=(HS.out.slot_mem Hk.out).1 h
   exact absurd h1 hlt⟩,.inl rfl,zA⟩
theorem Zdy (A1 A2 A3:Option Addr) (C1 C2 C3:Nat) (wh:Bool) (L:List (List Int)) (D:List Int) (so:List Nat) (ob:List Nat) (fps:List (List Nat)) (fd fs:List Nat) (m:Nat) (v:Value) (s:List Int) (f:List Nat) (w:World)
  (h:SrR w A1 A2 A3 C1 C2 C3 L D so ob fps fd fs) (hS:Srt m L so) (hv:Rd w v s f) (hs:s.length = m) (hL:L.length<=3000) :
  Calls Tryz.prog 166 #[.agg #[.slice A1 L.length C1,.slice A2 D.length C2,.slice A3 so.length C3,.bool wh],v] w fun e w'=>∃ r:Int,e = .returned (.int .i64 r)/\(0<=r ↔ s∈L)/\Only [] w w':=by
 refine (Zeh A1 A2 A3 C1 C2 C3 wh L D so ob fps fd fs m v s f w h hS hv hs hL).mono ?_
 rintro e w' ⟨r,e1,h1,-,h2⟩
 exact ⟨r,e1,h1,h2⟩
section
variable {P:Program} {α:Type} [Rp α] {ops:Array Oper} {rest:List Oper} {o:Oper} {a:Act} {w:World} {Q:Exit->Act->World->Prop} {K:Act->World->Prop}
theorem Zei (s x:Operand) (t:TypeId)
  (ho:o.op = .call { callee:=.builtin .append,args:=#[s,x],argTypes:=#[t,t] })
  (B:Nat) (e:TypeId) (i:TypeInfo) (z:Value) (bytes:Nat) (ht:P.underlying t = some (.slice e)) (hi:P.info? e = some i) (hz:i.zero = some z)
  (hsize:i.size = Rp.size α) (hby:i.bytes = bytes) (hzs:z.cells.size = Rp.size α) (hsz:0 < Rp.size α) (hbb:bytes<=65536)
  (w0:World) (v:Value) (l:List α) (fs:List (List Nat)) (hs:a.eval s = v) (hA:Acc B e w0 v l fs) (hK0:Only [] w0 w) (hB:B<=w0.heap.size)
  (g c:Nat) (cs:List Value) (y:α) (fp:List Nat) (hx:a.eval x = .slice (some ⟨g,0,none⟩) 1 c) (hsrc:∀ j u,cs[j]? = some u->w.cell? ⟨g,j,none⟩ = some u) (hcs:∀ u∈cs,u.oneCell' = true)
  (hy:Rp.rep w cs y fp) (hap:∀ b∈fp,v.ownBlock ≠ some b) (hlen:l.length + 1<=1073741824)
  (h:∀ v' w',Acc B e w' v' (l ++ [y]) (fs ++ [fp])->Only v.ownBlock.toList w w'->(∀ wz,Only [] wz w->wz.heap.size<=B->Only [] wz w') ->
   (Fresh B w0 fs.flatten->Fresh w0.heap.size w fp->Fresh B w' (fs ++ [fp]).flatten)->(v'.ownBlock = v.ownBlock\/v'.ownBlock = some w.heap.size)->K (a.put o.dst v') w'):o.wp P a w K Q:=by
 obtain ⟨css,hown,hcl,hre⟩:=(hA.keep hK0).own
 have hcsl:cs.length = 1 * Rp.size α:=by rw [Nat.one_mul];exact Rp.len hy
 have hfl:=hA.fl
 have hbytes:(l.length + 1) * bytes<=140737488355328:=by
  have:=Nat.mul_le_mul hlen hbb;omega
 refine wp_app w s x t ho B e i z (Rp.size α) bytes ht hi hz hsize hby hzs hsz v l.length css.flatten hs hown (some ⟨g,0,none⟩) 1 c cs hx hcsl ?_ (by simp) hcs (by unfold maxLen;omega) hbytes (Nat.le_trans hB hK0.size) ?_
 ·intro ad had j u hu
  injection had with had;subst had
  have hadd:(⟨g,0,none⟩:Addr).add j = ⟨g,j,none⟩:=by unfold Addr.add;split <;> simp_all
  rw [hadd];exact hsrc j u hu
 intro v' w' hO hg hb
 have hW:Only v.ownBlock.toList w w':=zO.grown hg (by intro k hk _;simp [hk])
 have hlt:=(hA.keep hK0).lt
 have hap':∀ b∈fp,b ∉ v.ownBlock.toList:=fun b hb hm=>hap b hb (by simpa using hm)
 have hfs:∀ b∈fs.flatten,b ∉ v.ownBlock.toList:=fun b hb hm=>hA.apart b (by simpa using hm) hb
 refine h v' w' ⟨⟨css ++ [cs],?_,by simp [hcl],fun k h1 h2 h3=>?_⟩,by simp [hfl],?_⟩ hW ?_ ?_ hb
 ·rw [List.length_append,List.flatten_append];simpa using hO
 ·by_cases hk:k < l.length
  ·rw [List.getElem_append_left (by rw [hcl];exact hk),List.getElem_append_left hk,List.getElem_append_left (by rw [hfl];exact hk)]
   exact Rp.only (hre k (by omega) hk (by omega)) hW fun b hb=>hfs b (List.mem_flatten.2 ⟨_,List.getElem_mem _,hb⟩)
  ·have:k = l.length:=by simp at h2;omega
   subst this
   rw [List.getElem_append_right (by rw [hcl];omega),List.getElem_append_right (by omega),List.getElem_append_right (by rw [hfl];omega)]
   simpa [hcl,hfl] using Rp.only hy hW hap'
 ·intro g' hg' hm
  rw [List.flatten_append] at hm
  simp only [List.flatten_cons,List.flatten_nil,List.append_nil] at hm
  rcases hb with hb | hb
  ·rw [hb] at hg'
   rcases List.mem_append.1 hm with hm | hm
   ·exact hA.apart g' hg' hm
   ·exact hap g' hm hg'
  ·rw [hb] at hg';injection hg' with hg';subst hg'
   rcases List.mem_append.1 hm with hm | hm
   ·exact absurd (hlt _ hm) (by omega)
   ·exact absurd (Rp.lt hy _ hm) (by omega)
 ·intro wz hz hzB
  refine hz.then_ hW fun b hm hb=>?_
  have hm':v.ownBlock = some b:=by simpa using hm
  have:=(hA.ownlt b hm').1
  omega
 ·intro hF hFy
  rw [List.flatten_append]
  simp only [List.flatten_cons,List.flatten_nil,List.append_nil]
  have hF':=(hF.keep hK0)
  refine ((Fresh.append hF' hFy hB fun b hb=>hF.lt b hb)).only hW fun b hm=>?_
  rcases List.mem_append.1 hm with hm | hm
  ·exact hfs b hm
  ·exact hap' b hm
end
section
variable {α:Type} [Rp α] {w0 W wx wy:World} {B:Nat} {e:TypeId} {G:List Nat} {v:Value} {l:List α}
end
section
variable {P:Program} {α:Type} [Rp α] {ops:Array Oper} {rest:List Oper} {o:Oper} {a:Act} {w:World} {Q:Exit->Act->World->Prop} {K:Act->World->Prop}
end
end Go.Proofs.YthleokaeobdamaaGreat

namespace PM
abbrev Rows:=List (List (List Int))
def tr (T:Rows) (k:Nat) (y:Int):List Int:=if y < 0 then [] else (T.getD k []).getD y.toNat []
def Fix (k:Nat) (p:List Int):Prop:=∀ x:Int,0<=x->x < k->at_ p x = x
def has (T:Rows) (n:Nat):Nat->List Int->Bool
 | 0,_=>true
 | m + 1,p=>
  let t:=tr T (n - (m + 1)) (at_ p ((n - (m + 1):Nat):Int))
  if t = [] then false else has T n m (comp p (inv t))
def Ext (T T':Rows):Prop:=∀ k y,tr T k y ≠ []->tr T' k y = tr T k y
theorem Ext.refl (T:Rows):Ext T T:=fun _ _ _=>rfl
theorem Ext.trans {T T' T'':Rows} (h:Ext T T') (h':Ext T' T''):Ext T T'':=fun k y hn=>by
 have:=h k y hn
 rw [<- this];exact h' k y (by rw [this];exact hn)
theorem Zpr {T T':Rows} (h:Ext T T') (n:Nat):∀ (m:Nat) (p:List Int),has T n m p = true->has T' n m p = true:=by
 intro m
 induction m with
 | zero=>intro p _;rfl
 | succ m ih=>
  intro p hp
  simp only [has] at hp ⊢
  split at hp
  ·cases hp
  ·rename_i hn
   rw [h _ _ hn,if_neg hn]
   exact ih _ hp
theorem Zss {T T':Rows} {n m:Nat} (h:∀ k y,n - m<=k->tr T' k y = tr T k y):∀ p,has T n m p = has T' n m p:=by
 induction m with
 | zero=>intro p;rfl
 | succ m ih=>
  intro p
  simp only [has]
  rw [h _ _ (Nat.le_refl _),ih (fun k y hk=>h k y (by omega))]
structure WF (n:Nat) (T:Rows):Prop where
 pn:∀ (k:Nat) (y:Int),k < n->tr T k y ≠ []->PN n (tr T k y)
 fix:∀ (k:Nat) (y:Int),k < n->tr T k y ≠ []->Fix k (tr T k y)
 at_:∀ (k:Nat) (y:Int),k < n->tr T k y ≠ []->at_ (tr T k y) k = y
 one:∀ (k:Nat),k < n->tr T k k = pts n
theorem pts_ne {n:Nat} (h:0 < n):pts n ≠ []:=by
 intro e
 have:=pts_len n
 rw [e] at this;simp at this;omega
theorem PN.ne {n:Nat} {p:List Int} (h:PN n p) (hn:0 < n):p ≠ []:=by
 intro e
 have:=h.1
 rw [e] at this;simp at this;omega
abbrev Gens:=List (List (List Int))
def lv (G:Gens) (k:Nat):List (List Int):=G.getD k []
def res (T:Rows) (k:Nat) (p:List Int):List Int:=comp p (inv (tr T k (at_ p (k:Int))))
def Ok (T:Rows) (n k:Nat) (p:List Int):Prop:=tr T k (at_ p (k:Int)) ≠ []/\has T n (n - (k + 1)) (res T k p) = true
theorem Ok.has {T:Rows} {n k:Nat} {p:List Int} (hk:k < n):Ok T n k p ↔ has T n (n - k) p = true:=by
 have h1:n - k = (n - (k + 1)) + 1:=by omega
 have h2:n - (n - (k + 1) + 1) = k:=by omega
 rw [h1]
 simp only [PM.has,h2,Ok,res]
 constructor
 ·rintro ⟨a,b⟩;rw [if_neg a];exact b
 ·intro h
  split at h
  ·cases h
  ·rename_i hn;exact ⟨hn,h⟩
theorem Ok.mono {T T':Rows} (h:Ext T T') {n k:Nat} {p:List Int} (ho:Ok T n k p):Ok T' n k p:=by
 obtain ⟨a,b⟩:=ho
 have e:=h _ _ a
 refine ⟨by rw [e];exact a,?_⟩
 have:res T' k p = res T k p:=by simp only [res,e]
 rw [this];exact Zpr h n _ _ b
structure Inv (n k:Nat) (G:Gens) (T:Rows):Prop where
 wf:WF n T
 gpn:∀ j g,j < n->g∈lv G j->PN n g
 gfix:∀ j g,j < n->g∈lv G j->Fix j g
 row:∀ j y,j < n->tr T j y ≠ []->Grp n (lv G j) (tr T j y)
 up:∀ j g,j + 1 < n->g∈lv G (j + 1)->Grp n (lv G j) g
 cpl:∀ j y g,k<=j->j < n->tr T j y ≠ []->g∈lv G j->Ok T n j (comp (tr T j y) g)
theorem Fix.comp {n k:Nat} {p q:List Int} (hp:PN n p) (hk:k<=n) (h1:Fix k p) (h2:Fix k q):Fix k (comp p q):=by
 intro x h0 hx
 rw [at_comp h0 (by rw [hp.1];omega),h1 x h0 hx,h2 x h0 hx]
theorem Fix.inv {n k:Nat} {p:List Int} (hp:PN n p) (hk:k<=n) (h1:Fix k p):Fix k (inv p):=by
 intro x h0 hx
 have:=at_inv hp h0 (by omega)
 rwa [h1 x h0 hx] at this
theorem Fix.all {n:Nat} {p:List Int} (hp:PN n p) (h:Fix n p):p = pts n:=
 ext_at (by rw [hp.1,pts_len]) fun x h0 h1=>by rw [hp.1] at h1;rw [h x h0 h1,at_pts h0 h1]
theorem Fix.id (n k:Nat) (hk:k<=n):Fix k (pts n):=fun x h0 hx=>at_pts h0 (by omega)
theorem Fix.res {n k:Nat} {T:Rows} (hw:WF n T) (hk:k < n) {p:List Int} (hp:PN n p) (hf:Fix k p) (hn:tr T k (at_ p (k:Int)) ≠ []):PN n (res T k p)/\Fix (k + 1) (res T k p):=by
 have ht:=hw.pn k _ hk hn
 refine ⟨hp.comp ht.inv,?_⟩
 intro x h0 hx
 unfold PM.res
 rw [at_comp h0 (by rw [hp.1];omega)]
 by_cases hxk:x < k
 ·rw [hf x h0 hxk]
  exact Fix.inv ht (by omega) (hw.fix k _ hk hn) x h0 hxk
 ·have:x = k:=by omega
  subst this
  have h1:=hw.at_ k _ hk hn
  have h2:=at_inv ht (x:=(k:Int)) (by omega) (by omega)
  rwa [h1] at h2
theorem res_mul {n k:Nat} {T:Rows} (hw:WF n T) (hk:k < n) {p:List Int} (hp:PN n p) (hn:tr T k (at_ p (k:Int)) ≠ []):comp (res T k p) (tr T k (at_ p (k:Int))) = p:=by
 have ht:=hw.pn k _ hk hn
 unfold res
 rw [Zat hp ht.inv,Zkd ht,comp_id hp]
def Sk (T:Rows) (n k:Nat) (p:List Int):Prop:=PN n p/\Fix k p/\has T n (n - k) p = true
theorem Zna {n:Nat} {G:Gens} {T:Rows}:∀ (m k:Nat),n - k = m->k < n->Inv n k G T->∀ p,Sk T n k p ↔ Grp n (lv G k) p:=by
 intro m
 induction m with
 | zero=>intro k h1 h2;omega
 | succ m ih=>
  intro k hm hk hI
  have hG:∀ g∈lv G k,PN n g:=fun g hg=>hI.gpn k g hk hg
  -- the next level: what it knows is a group,within this level's
  have next:(∀ p q,Sk T n (k + 1) p->Sk T n (k + 1) q->Sk T n (k + 1) (comp p q))/\(∀ p,Sk T n (k + 1) p->Grp n (lv G k) p)/\Sk T n (k + 1) (pts n):=by
   by_cases hk1:k + 1 < n
   ·have hI1:Inv n (k + 1) G T:=⟨hI.wf,hI.gpn,hI.gfix,hI.row,hI.up,fun j y g h1 h2 h3 h4=>hI.cpl j y g (by omega) h2 h3 h4⟩
    have hh:=ih (k + 1) (by omega) hk1 hI1
    have hG1:∀ g∈lv G (k + 1),PN n g:=fun g hg=>hI.gpn (k + 1) g hk1 hg
    refine ⟨fun p q hp hq=>(hh _).2 (Grp.comp hG1 ((hh p).1 hp) ((hh q).1 hq)),fun p hp=>?_,(hh _).2 .id⟩
    exact Grp.mono hG (fun g hg=>hI.up k g hk1 hg) ((hh p).1 hp)
   ·have hk2:k + 1 = n:=by omega
    have hid:∀ p,Sk T n (k + 1) p->p = pts n:=fun p hp=>Fix.all hp.1 (by rw [<- hk2];exact hp.2.1)
    have h0:Sk T n (k + 1) (pts n):=⟨PN.id n,Fix.id n _ (by omega),by rw [hk2,Nat.sub_self];rfl⟩
    refine ⟨fun p q hp hq=>?_,fun p hp=>?_,h0⟩
    ·rw [hid p hp,hid q hq,comp_id (PN.id n)];exact h0
    ·rw [hid p hp];exact .id
  obtain ⟨nmul,nsub,nid⟩:=next
  -- one step down
  have down:∀ p,PN n p->Fix k p->(has T n (n - k) p = true ↔ tr T k (at_ p (k:Int)) ≠ []/\Sk T n (k + 1) (res T k p)):=by
   intro p hp hf
   rw [<- Ok.has hk]
   constructor
   ·rintro ⟨a,b⟩
    obtain ⟨c,d⟩:=Fix.res hI.wf hk hp hf a
    exact ⟨a,c,d,b⟩
   ·rintro ⟨a,b⟩;exact ⟨a,b.2.2⟩
  intro p
  constructor
  ·rintro ⟨hp,hf,hh⟩
   obtain ⟨hn,hs⟩:=(down p hp hf).1 hh
   rw [<- res_mul hI.wf hk hp hn]
   exact Grp.comp hG (nsub _ hs) (hI.row k _ hk hn)
  ·intro hp
   refine grp_sub hG (S:=Sk T n k) (fun p hp=>hp.1) ?_ ?_ hp
   ·refine ⟨PN.id n,Fix.id n k (by omega),?_⟩
    refine (down _ (PN.id n) (Fix.id n k (by omega))).2 ?_
    have e:at_ (pts n) (k:Int) = k:=at_pts (by omega) (by omega)
    have e2:tr T k (at_ (pts n) (k:Int)) = pts n:=by rw [e];exact hI.wf.one k hk
    refine ⟨by rw [e2];exact pts_ne (by omega),?_⟩
    unfold res
    rw [e2,Zdk (PN.id n)];exact nid
   ·rintro q g ⟨hq,hf,hh⟩ hg
    obtain ⟨hn,hs⟩:=(down q hq hf).1 hh
    have hgp:=hG g hg
    have ht:=hI.wf.pn k _ hk hn
    have hqg:=hq.comp hgp
    have hfg:Fix k (comp q g):=Fix.comp hq (by omega) hf (hI.gfix k g hk hg)
    refine ⟨hqg,hfg,(down _ hqg hfg).2 ?_⟩
    -- the product of the row's permutation with g
    obtain ⟨o1,o2⟩:=hI.cpl k _ g (Nat.le_refl _) hk hn hg
    have e1:at_ (comp q g) (k:Int) = at_ (comp (tr T k (at_ q (k:Int))) g) (k:Int):=by
     rw [at_comp (by omega) (by rw [hq.1];omega),at_comp (by omega) (by rw [ht.1];omega),hI.wf.at_ k _ hk hn]
    refine ⟨by rw [e1];exact o1,?_⟩
    have hft:Fix k (comp (tr T k (at_ q (k:Int))) g):=Fix.comp ht (by omega) (hI.wf.fix k _ hk hn) (hI.gfix k g hk hg)
    obtain ⟨c1,c2⟩:=Fix.res hI.wf hk (ht.comp hgp) hft o1
    have hu:Sk T n (k + 1) (res T k (comp (tr T k (at_ q (k:Int))) g)):=⟨c1,c2,o2⟩
    have key:res T k (comp q g) = comp (res T k q) (res T k (comp (tr T k (at_ q (k:Int))) g)):=by
     have h1:=res_mul hI.wf hk hq hn
     have ht':=hI.wf.pn k _ hk o1
     have hr:=(Fix.res hI.wf hk hq hf hn).1
     conv=>lhs;unfold res
     rw [e1]
     conv=>rhs;arg 2;unfold res
     rw [<- Zat hr (ht.comp hgp),<- Zat hr ht,h1]
    rw [key]
    exact nmul _ _ hs hu
end PM
