/- Plain facts on permutations as lists of numbers. -/
namespace PM
section
variable {α:Type} [DecidableEq α]
theorem Zah:∀ {l1 l2:List α},l1.Nodup->l1 ⊆ l2->l1.length<=l2.length:=by
 intro l1
 induction l1 with
 | nil=>intro l2 _ _;simp
 | cons a t ih=>
  intro l2 hn hs
  obtain ⟨ha,ht⟩:=List.nodup_cons.1 hn
  have ham:a∈l2:=hs (by simp)
  have h1:t ⊆ l2.erase a:=by
   intro x hx
   refine (List.mem_erase_of_ne ?_).2 (hs (by simp [hx]))
   intro e;subst e;exact ha hx
  have h2:=ih ht h1
  have h3:=List.length_erase_of_mem ham
  have h4:0 < l2.length:=List.length_pos_of_mem ham
  simp only [List.length_cons]
  omega
theorem Zey {l1 l2:List α} (hn:l1.Nodup) (hs:l1 ⊆ l2) (hl:l2.length<=l1.length):l2 ⊆ l1:=by
 intro x hx
 apply Classical.byContradiction
 intro hxn
 have h:=Zah (List.nodup_cons.2 ⟨hxn,hn⟩) (l2:=l2) (by
  intro y hy
  rcases List.mem_cons.1 hy with rfl | hy
  ·exact hx
  ·exact hs hy)
 simp at h
 omega
theorem Zpd:∀ {l1 l2:List α},l1.Nodup->l1 ⊆ l2->l2.length<=l1.length->l2.Nodup:=by
 intro l1
 induction l1 with
 | nil=>
  intro l2 _ _ hl
  have:l2 = []:=List.eq_nil_of_length_eq_zero (by simpa using hl)
  subst this;exact List.nodup_nil
 | cons a t ih=>
  intro l2 hn hs hl
  obtain ⟨ha,ht⟩:=List.nodup_cons.1 hn
  have ham:a∈l2:=hs (by simp)
  have h1:t ⊆ l2.erase a:=by
   intro x hx
   refine (List.mem_erase_of_ne ?_).2 (hs (by simp [hx]))
   intro e;subst e;exact ha hx
  have h3:=List.length_erase_of_mem ham
  have h4:0 < l2.length:=List.length_pos_of_mem ham
  simp only [List.length_cons] at hl
  have h5:=ih ht h1 (by omega)
  have h6:a ∉ l2.erase a:=by
   intro hm
   have:=Zah hn (l2:=l2.erase a) (by
    intro y hy
    rcases List.mem_cons.1 hy with rfl | hy
    ·exact hm
    ·exact h1 hy)
   simp at this
   omega
  exact (List.perm_cons_erase ham).nodup_iff.2 (List.nodup_cons.2 ⟨h6,h5⟩)
end
def pts (n:Nat):List Int:=(List.range n).map (fun k:Nat=>(k:Int))
theorem pts_len (n:Nat):(pts n).length = n:=by simp [pts]
theorem mem_pts {n:Nat} {x:Int}:x∈pts n ↔ 0<=x/\x < n:=by
 simp only [pts,List.mem_map,List.mem_range]
 constructor
 ·rintro ⟨k,hk,rfl⟩;omega
 ·intro ⟨h1,h2⟩;exact ⟨x.toNat,by omega,by omega⟩
theorem Zdi (n:Nat):(pts n).Nodup:=by
 exact List.Pairwise.map _ (fun a b (h:a ≠ b) hab=>h (by omega)) List.nodup_range
theorem pts_get (n k:Nat) (h:k < (pts n).length):(pts n)[k] = (k:Int):=by simp [pts]
def IsP (p:List Int):Prop:=(∀ x∈p,0<=x/\x < p.length)/\p.Nodup
instance (p:List Int):Decidable (IsP p):=by unfold IsP;exact inferInstance
theorem IsP.sub {p:List Int} (h:IsP p):p ⊆ pts p.length:=fun x hx=>mem_pts.2 (h.1 x hx)
theorem IsP.all {p:List Int} (h:IsP p):pts p.length ⊆ p:=Zey h.2 h.sub (by rw [pts_len];exact Nat.le_refl _)
theorem Zrq {p:List Int} (h1:∀ x∈p,0<=x/\x < p.length) (h2:pts p.length ⊆ p):IsP p:=
 ⟨h1,Zpd (Zdi _) h2 (by rw [pts_len];exact Nat.le_refl _)⟩
def mask:List Int->Nat
 | []=>0
 | x :: l=>2 ^ x.toNat ||| mask l
theorem Zqz (l:List Int) (x:Int):mask (l ++ [x]) = mask l ||| 2 ^ x.toNat:=by
 induction l with
 | nil=>simp [mask]
 | cons y l ih=>simp [mask,ih,Nat.or_assoc]
theorem Zqs (l:List Int) (h:∀ x∈l,0<=x) (k:Nat):(mask l).testBit k = decide ((k:Int)∈l):=by
 induction l with
 | nil=>simp [mask]
 | cons x l ih=>
  rw [mask,Nat.testBit_or,ih (fun y hy=>h y (by simp [hy])),Nat.testBit_two_pow]
  have hx:=h x (by simp)
  have:(x.toNat = k) ↔ ((k:Int) = x):=by omega
  simp [this]
theorem mask_lt (l:List Int) (n:Nat) (h:∀ x∈l,0<=x/\x < n):mask l < 2 ^ n:=by
 induction l with
 | nil=>simp [mask];exact Nat.pow_pos (by decide)
 | cons x l ih=>
  have hx:=h x (by simp)
  exact Nat.or_lt_two_pow (Nat.pow_lt_pow_right (by decide) (by omega)) (ih fun y hy=>h y (by simp [hy]))
theorem Zmv (p:List Int) (h:∀ x∈p,0<=x/\x < p.length):mask p = 2 ^ p.length - 1 ↔ IsP p:=by
 constructor
 ·intro hm
  refine Zrq h fun x hx=>?_
  obtain ⟨h0,h1⟩:=mem_pts.1 hx
  have hb:=Zqs p (fun y hy=>(h y hy).1) x.toNat
  rw [hm,Nat.testBit_two_pow_sub_one] at hb
  have:decide (x.toNat < p.length) = true:=decide_eq_true (by omega)
  rw [this] at hb
  have:=of_decide_eq_true hb.symm
  have e:(x.toNat:Int) = x:=by omega
  rwa [e] at this
 ·intro hp
  apply Nat.eq_of_testBit_eq
  intro k
  rw [Zqs p (fun y hy=>(h y hy).1),Nat.testBit_two_pow_sub_one]
  have:((k:Int)∈p) ↔ k < p.length:=by
   constructor
   ·intro hk;have:=h _ hk;omega
   ·intro hk;exact hp.all (mem_pts.2 (by omega))
  simp [this]
end PM

namespace PM
def at_ (p:List Int) (x:Int):Int:=p.getD x.toNat 0
def comp (p q:List Int):List Int:=p.map (at_ q)
def inv (p:List Int):List Int:=(pts p.length).map fun y=>(p.idxOf y:Int)
def PN (n:Nat) (p:List Int):Prop:=p.length = n/\IsP p
theorem at_nat (p:List Int) (k:Nat) (h:k < p.length):at_ p (k:Int) = p[k]:=by
 simp [at_,h]
theorem at_mem {p:List Int} {x:Int} (h0:0<=x) (h:x < p.length):at_ p x∈p:=by
 have hx:x.toNat < p.length:=by omega
 have:at_ p x = p[x.toNat]:=by simp [at_,hx]
 rw [this];exact List.getElem_mem _
theorem Zan (p q:List Int):(comp p q).length = p.length:=by simp [comp]
theorem inv_len (p:List Int):(inv p).length = p.length:=by simp [inv,pts_len]
theorem at_comp {p q:List Int} {x:Int} (h0:0<=x) (h:x < p.length):at_ (comp p q) x = at_ q (at_ p x):=by
 have hx:x.toNat < p.length:=by omega
 simp [at_,comp,hx]
theorem at_pts {n:Nat} {x:Int} (h0:0<=x) (h:x < n):at_ (pts n) x = x:=by
 have hx:x.toNat < (pts n).length:=by rw [pts_len];omega
 have:at_ (pts n) x = (pts n)[x.toNat]:=by simp [at_,hx]
 rw [this,pts_get];omega
theorem ext_at {p q:List Int} (hl:p.length = q.length) (h:∀ x:Int,0<=x->x < p.length->at_ p x = at_ q x):p = q:=by
 apply List.ext_getElem hl
 intro k h1 h2
 have:=h k (by omega) (by omega)
 rwa [at_nat p k h1,at_nat q k h2] at this
theorem PN.rng {n:Nat} {p:List Int} (h:PN n p) {x:Int} (h0:0<=x) (h1:x < n):0<=at_ p x/\at_ p x < n:=by
 have:=h.2.1 _ (at_mem h0 (by rw [h.1];exact h1))
 rw [h.1] at this;exact this
theorem Zgg {p:List Int} (h:p.Nodup) {i j:Nat} (hi:i < p.length) (hj:j < p.length) (e:p[i] = p[j]):i = j:=by
 have hp:=List.pairwise_iff_getElem.1 h
 rcases Nat.lt_trichotomy i j with hl | hl | hl
 ·exact absurd e (hp i j hi hj hl)
 ·exact hl
 ·exact absurd e.symm (hp j i hj hi hl)
theorem PN.inj {n:Nat} {p:List Int} (h:PN n p) {x y:Int} (hx0:0<=x) (hx:x < n) (hy0:0<=y) (hy:y < n) (he:at_ p x = at_ p y):x = y:=by
 have h1:x.toNat < p.length:=by rw [h.1];omega
 have h2:y.toNat < p.length:=by rw [h.1];omega
 have e1:at_ p x = p[x.toNat]:=by simp [at_,h1]
 have e2:at_ p y = p[y.toNat]:=by simp [at_,h2]
 rw [e1,e2] at he
 have:=Zgg h.2.2 h1 h2 he
 omega
theorem PN.surj {n:Nat} {p:List Int} (h:PN n p) {y:Int} (hy0:0<=y) (hy:y < n):∃ x:Int,0<=x/\x < n/\at_ p x = y:=by
 have hm:y∈p:=h.2.all (mem_pts.2 ⟨hy0,by rw [h.1];exact hy⟩)
 obtain ⟨k,hk,hk2⟩:=List.getElem_of_mem hm
 refine ⟨k,by omega,by have:=h.1;omega,?_⟩
 rw [at_nat p k hk];exact hk2
theorem PN.mk' {n:Nat} {p:List Int} (hl:p.length = n) (hr:∀ x:Int,0<=x->x < n->0<=at_ p x/\at_ p x < n) (hi:∀ x y:Int,0<=x->x < n->0<=y->y < n->at_ p x = at_ p y->x = y):PN n p:=by
 refine ⟨hl,fun x hx=>?_,?_⟩
 ·obtain ⟨k,hk,rfl⟩:=List.getElem_of_mem hx
  have:=hr k (by omega) (by omega)
  rw [at_nat p k hk] at this;rw [hl];exact this
 ·rw [List.nodup_iff_pairwise_ne,List.pairwise_iff_getElem]
  intro i j hi' hj' hij he
  have:=hi i j (by omega) (by omega) (by omega) (by omega) (by rw [at_nat p i hi',at_nat p j hj'];exact he)
  omega
theorem PN.id (n:Nat):PN n (pts n):=PN.mk' (pts_len n) (fun x h0 h1=>by rw [at_pts h0 h1];exact ⟨h0,h1⟩) (fun x y a b c d e=>by rwa [at_pts a b,at_pts c d] at e)
theorem PN.comp {n:Nat} {p q:List Int} (hp:PN n p) (hq:PN n q):PN n (comp p q):=by
 refine PN.mk' (by rw [Zan,hp.1]) (fun x h0 h1=>?_) (fun x y a b c d e=>?_)
 ·rw [at_comp h0 (by rw [hp.1];exact h1)]
  have:=hp.rng h0 h1
  exact hq.rng this.1 this.2
 ·rw [at_comp a (by rw [hp.1];exact b),at_comp c (by rw [hp.1];exact d)] at e
  have h1:=hp.rng a b
  have h2:=hp.rng c d
  exact hp.inj a b c d (hq.inj h1.1 h1.2 h2.1 h2.2 e)
theorem at_inv {n:Nat} {p:List Int} (hp:PN n p) {x:Int} (h0:0<=x) (h1:x < n):at_ (inv p) (at_ p x) = x:=by
 have hr:=hp.rng h0 h1
 have hk:x.toNat < p.length:=by rw [hp.1];omega
 have e1:at_ p x = p[x.toNat]:=by simp [at_,hk]
 have e2:∀ y:Int,0<=y->y < n->at_ (inv p) y = (p.idxOf y:Int):=by
  intro y hy0 hy1
  have hy:y.toNat < (pts p.length).length:=by rw [pts_len,hp.1];omega
  have he:(pts p.length)[y.toNat] = y:=by rw [pts_get];omega
  unfold at_ inv
  rw [List.getD_eq_getElem?_getD,List.getElem?_map,List.getElem?_eq_getElem hy,he]
  rfl
 rw [e2 _ hr.1 hr.2,e1]
 have hm:p[x.toNat]∈p:=List.getElem_mem _
 have hi:=List.idxOf_lt_length_of_mem hm
 have hg:p[p.idxOf p[x.toNat]] = p[x.toNat]:=by simp
 have:=Zgg hp.2.2 hi hk hg
 rw [this];omega
theorem PN.inv {n:Nat} {p:List Int} (hp:PN n p):PN n (inv p):=by
 refine PN.mk' (by rw [inv_len,hp.1]) (fun x h0 h1=>?_) (fun x y a b c d e=>?_)
 ·obtain ⟨z,hz0,hz1,rfl⟩:=hp.surj h0 h1
  rw [at_inv hp hz0 hz1];exact ⟨hz0,hz1⟩
 ·obtain ⟨z,hz0,hz1,rfl⟩:=hp.surj a b
  obtain ⟨z',hz0',hz1',rfl⟩:=hp.surj c d
  rw [at_inv hp hz0 hz1,at_inv hp hz0' hz1'] at e
  rw [e]
theorem Zem {n:Nat} {p:List Int} (hp:PN n p):comp p (inv p) = pts n:=by
 refine ext_at (by rw [Zan,pts_len,hp.1]) fun x h0 h1=>?_
 rw [Zan,hp.1] at h1
 rw [at_comp h0 (by rw [hp.1];exact h1),at_inv hp h0 h1,at_pts h0 h1]
theorem Zjp {n:Nat} {p:List Int} (hp:PN n p):comp (inv p) p = pts n:=by
 refine ext_at (by rw [Zan,pts_len,inv_len,hp.1]) fun x h0 h1=>?_
 rw [Zan,inv_len,hp.1] at h1
 obtain ⟨z,hz0,hz1,rfl⟩:=hp.surj h0 h1
 rw [at_comp h0 (by rw [inv_len,hp.1];exact h1),at_inv hp hz0 hz1,at_pts h0 h1]
theorem comp_id {n:Nat} {p:List Int} (hp:PN n p):comp p (pts n) = p:=by
 refine ext_at (by rw [Zan]) fun x h0 h1=>?_
 rw [Zan,hp.1] at h1
 have:=hp.rng h0 h1
 rw [at_comp h0 (by rw [hp.1];exact h1),at_pts this.1 this.2]
theorem id_comp {n:Nat} {p:List Int} (hp:PN n p):comp (pts n) p = p:=by
 refine ext_at (by rw [Zan,pts_len,hp.1]) fun x h0 h1=>?_
 rw [Zan,pts_len] at h1
 rw [at_comp h0 (by rw [pts_len];exact h1),at_pts h0 h1]
theorem Zav {n:Nat} {p q r:List Int} (hp:PN n p) (hq:PN n q):comp (comp p q) r = comp p (comp q r):=by
 refine ext_at (by simp [Zan]) fun x h0 h1=>?_
 rw [Zan,Zan,hp.1] at h1
 have:=hp.rng h0 h1
 rw [at_comp h0 (by rw [Zan,hp.1];exact h1),at_comp h0 (by rw [hp.1];exact h1),at_comp h0 (by rw [hp.1];exact h1),at_comp this.1 (by rw [hq.1];exact this.2)]
theorem Zfe {n:Nat} {p q g:List Int} (hp:PN n p) (hq:PN n q) (hg:PN n g) (h:comp p g = comp q g):p = q:=by
 have h2:comp (comp p g) (inv g) = comp (comp q g) (inv g):=by rw [h]
 rwa [Zav hp hg,Zav hq hg,Zem hg,comp_id hp,comp_id hq] at h2
inductive Grp (n:Nat) (G:List (List Int)):List Int->Prop
 | id:Grp n G (pts n)
 | mul {p g:List Int}:Grp n G p->g∈G->Grp n G (comp p g)
 | div {p g:List Int}:Grp n G p->g∈G->Grp n G (comp p (inv g))
section
variable {n:Nat} {G:List (List Int)} (hG:∀ g∈G,PN n g)
include hG
theorem Grp.pn {p:List Int} (h:Grp n G p):PN n p:=by
 induction h with
 | id=>exact PN.id n
 | mul _ hg ih=>exact ih.comp (hG _ hg)
 | div _ hg ih=>exact ih.comp (hG _ hg).inv
theorem Grp.comp {p q:List Int} (hp:Grp n G p) (hq:Grp n G q):Grp n G (comp p q):=by
 have pp:=hp.pn hG
 induction hq with
 | id=>rw [comp_id pp];exact hp
 | mul hq hg ih=>rw [<- Zav pp (Grp.pn hG hq)];exact ih.mul hg
 | div hq hg ih=>rw [<- Zav pp (Grp.pn hG hq)];exact ih.div hg
theorem Grp.gen {g:List Int} (h:g∈G):Grp n G g:=by
 have:=(Grp.id (n:=n) (G:=G)).mul h
 rwa [id_comp (hG g h)] at this
theorem Grp.gen_inv {g:List Int} (h:g∈G):Grp n G (PM.inv g):=by
 have:=(Grp.id (n:=n) (G:=G)).div h
 rwa [id_comp (hG g h).inv] at this
end
theorem inv_of {n:Nat} {p q:List Int} (hp:PN n p) (hq:PN n q) (h:comp p q = pts n):q = PM.inv p:=by
 have:comp (PM.inv p) (comp p q) = comp (PM.inv p) (pts n):=by rw [h]
 rwa [<- Zav hp.inv hp,Zjp hp,id_comp hq,comp_id hp.inv] at this
theorem inv_inv {n:Nat} {p:List Int} (hp:PN n p):PM.inv (PM.inv p) = p:=(inv_of hp.inv hp (Zjp hp)).symm
theorem Zjb {n:Nat} {p q:List Int} (hp:PN n p) (hq:PN n q):PM.inv (comp p q) = comp (PM.inv q) (PM.inv p):=by
 refine (inv_of (hp.comp hq) (hq.inv.comp hp.inv) ?_).symm
 rw [Zav hp hq,<- Zav hq hq.inv,Zem hq,id_comp hp.inv,Zem hp]
theorem inv_id (n:Nat):PM.inv (pts n) = pts n:=(inv_of (PN.id n) (PN.id n) (comp_id (PN.id n))).symm
theorem Grp.inv {n:Nat} {G:List (List Int)} (hG:∀ g∈G,PN n g) {p:List Int} (hp:Grp n G p):Grp n G (PM.inv p):=by
 induction hp with
 | id=>rw [inv_id];exact .id
 | mul hq hg ih=>rw [Zjb (Grp.pn hG hq) (hG _ hg)];exact Grp.comp hG (Grp.gen_inv hG hg) ih
 | div hq hg ih=>rw [Zjb (Grp.pn hG hq) (hG _ hg).inv,inv_inv (hG _ hg)];exact Grp.comp hG (Grp.gen hG hg) ih
theorem Grp.mono {n:Nat} {G G':List (List Int)} (hG':∀ g∈G',PN n g) (h:∀ g∈G,Grp n G' g) {p:List Int} (hp:Grp n G p):Grp n G' p:=by
 induction hp with
 | id=>exact .id
 | mul _ hg ih=>exact Grp.comp hG' ih (h _ hg)
 | div _ hg ih=>exact Grp.comp hG' ih (Grp.inv hG' (h _ hg))
def allL (A:List Int):Nat->List (List Int)
 | 0=>[[]]
 | k + 1=>(allL A k).flatMap fun l=>A.map fun x=>x :: l
theorem Zqo {A:List Int}:∀ (p:List Int),(∀ x∈p,x∈A)->p∈allL A p.length:=by
 intro p
 induction p with
 | nil=>intro _;simp [allL]
 | cons x p ih=>
  intro h
  have h1:=ih fun y hy=>h y (by simp [hy])
  simp only [allL,List.length_cons,List.mem_flatMap,List.mem_map]
  exact ⟨p,h1,x,h x (by simp),rfl⟩
theorem Zeb {α:Type} (L:List α) (S:α->Prop):∃ L':List α,L'.Nodup/\∀ x,x∈L' ↔ x∈L/\S x:=by
 classical
 induction L with
 | nil=>exact ⟨[],List.nodup_nil,by simp⟩
 | cons a L ih=>
  obtain ⟨L',h1,h2⟩:=ih
  by_cases h:a∈L'\/¬ S a
  ·refine ⟨L',h1,fun x=>?_⟩
   rw [h2 x]
   constructor
   ·rintro ⟨a1,a2⟩;exact ⟨by simp [a1],a2⟩
   ·rintro ⟨a1,a2⟩
    rcases List.mem_cons.1 a1 with rfl | a1
    ·rcases h with h | h
     ·exact (h2 x).1 h
     ·exact absurd a2 h
    ·exact ⟨a1,a2⟩
  ·have h':a ∉ L'/\S a:=⟨fun e=>h (.inl e),Classical.byContradiction fun e=>h (.inr e)⟩
   refine ⟨a :: L',List.nodup_cons.2 ⟨h'.1,h1⟩,fun x=>?_⟩
   simp only [List.mem_cons,h2 x]
   constructor
   ·rintro (rfl | ⟨a1,a2⟩)
    ·exact ⟨.inl rfl,h'.2⟩
    ·exact ⟨.inr a1,a2⟩
   ·rintro ⟨rfl | a1,a2⟩
    ·exact .inl rfl
    ·exact .inr ⟨a1,a2⟩
theorem Zru {n:Nat} {S:List Int->Prop} (hS:∀ p,S p->PN n p) {g:List Int} (hg:PN n g) (hc:∀ p,S p->S (comp p g)):∀ p,S p->S (comp p (PM.inv g)):=by
 intro p hp
 obtain ⟨L,h1,h2⟩:=Zeb (allL (pts n) n) S
 have hin:∀ q,S q->q∈L:=fun q hq=>(h2 q).2 ⟨by
  have h3:=hS q hq
  have h4:=Zqo (A:=pts n) q (fun x hx=>by have:=h3.2.1 x hx;rw [h3.1] at this;exact mem_pts.2 this)
  rwa [h3.1] at h4,hq⟩
 have hsub:L.map (fun q=>comp q g) ⊆ L:=by
  intro x hx
  obtain ⟨q,hq,rfl⟩:=List.mem_map.1 hx
  exact hin _ (hc q ((h2 q).1 hq).2)
 have hnd:(L.map fun q=>comp q g).Nodup:=by
  refine List.pairwise_map.2 ?_
  refine List.Pairwise.imp_of_mem (R:=fun a b=>a ≠ b) ?_ h1
  intro a b ha hb hab he
  exact hab (Zfe (hS a ((h2 a).1 ha).2) (hS b ((h2 b).1 hb).2) hg he)
 have hall:=Zey hnd hsub (by simp)
 obtain ⟨q,hq,hqe⟩:=List.mem_map.1 (hall (hin p hp))
 have hqS:=((h2 q).1 hq).2
 rw [<- hqe,Zav (hS q hqS) hg,Zem hg,comp_id (hS q hqS)]
 exact hqS
theorem grp_sub {n:Nat} {G:List (List Int)} (hG:∀ g∈G,PN n g) {S:List Int->Prop} (hS:∀ p,S p->PN n p) (h1:S (pts n)) (hc:∀ p g,S p->g∈G->S (comp p g)) {p:List Int} (hp:Grp n G p):S p:=by
 induction hp with
 | id=>exact h1
 | mul _ hg ih=>exact hc _ _ ih hg
 | div _ hg ih=>exact Zru hS (hG _ hg) (fun q hq=>hc q _ hq hg) _ ih
end PM

namespace PM
abbrev Rows:=List (List (List Int))
def tr (T:Rows) (k:Nat) (y:Int):List Int:=if y < 0 then [] else (T.getD k []).getD y.toNat []
def Fix (k:Nat) (p:List Int):Prop:=∀ x:Int,0<=x->x < k->at_ p x = x
def has (T:Rows) (n:Nat):Nat->List Int->Bool
 | 0,_=>true
 | m + 1,p=>
  let t:=tr T (n - (m + 1)) (at_ p ((n - (m + 1):Nat):Int))
  if t = [] then false else has T n m (comp p (inv t))
def Ext (T T':Rows):Prop:=∀ k y,tr T k y ≠ []->tr T' k y = tr T k y
theorem Ext.refl (T:Rows):Ext T T:=fun _ _ _=>rfl
theorem Ext.trans {T T' T'':Rows} (h:Ext T T') (h':Ext T' T''):Ext T T'':=fun k y hn=>by
 have:=h k y hn
 rw [<- this];exact h' k y (by rw [this];exact hn)
theorem Zpe {T T':Rows} (h:Ext T T') (n:Nat):∀ (m:Nat) (p:List Int),has T n m p = true->has T' n m p = true:=by
 intro m
 induction m with
 | zero=>intro p _;rfl
 | succ m ih=>
  intro p hp
  simp only [has] at hp ⊢
  split at hp
  ·cases hp
  ·rename_i hn
   rw [h _ _ hn,if_neg hn]
   exact ih _ hp
theorem Zst {T T':Rows} {n m:Nat} (h:∀ k y,n - m<=k->tr T' k y = tr T k y):∀ p,has T n m p = has T' n m p:=by
 induction m with
 | zero=>intro p;rfl
 | succ m ih=>
  intro p
  simp only [has]
  rw [h _ _ (Nat.le_refl _),ih (fun k y hk=>h k y (by omega))]
structure WF (n:Nat) (T:Rows):Prop where
 pn:∀ (k:Nat) (y:Int),k < n->tr T k y ≠ []->PN n (tr T k y)
 fix:∀ (k:Nat) (y:Int),k < n->tr T k y ≠ []->Fix k (tr T k y)
 at_:∀ (k:Nat) (y:Int),k < n->tr T k y ≠ []->at_ (tr T k y) k = y
 one:∀ (k:Nat),k < n->tr T k k = pts n
theorem pts_ne {n:Nat} (h:0 < n):pts n ≠ []:=by
 intro e
 have:=pts_len n
 rw [e] at this;simp at this;omega
theorem PN.ne {n:Nat} {p:List Int} (h:PN n p) (hn:0 < n):p ≠ []:=by
 intro e
 have:=h.1
 rw [e] at this;simp at this;omega
abbrev Gens:=List (List (List Int))
def lv (G:Gens) (k:Nat):List (List Int):=G.getD k []
def res (T:Rows) (k:Nat) (p:List Int):List Int:=comp p (inv (tr T k (at_ p (k:Int))))
def Ok (T:Rows) (n k:Nat) (p:List Int):Prop:=tr T k (at_ p (k:Int)) ≠ []/\has T n (n - (k + 1)) (res T k p) = true
theorem Ok.has {T:Rows} {n k:Nat} {p:List Int} (hk:k < n):Ok T n k p ↔ has T n (n - k) p = true:=by
 have h1:n - k = (n - (k + 1)) + 1:=by omega
 have h2:n - (n - (k + 1) + 1) = k:=by omega
 rw [h1]
 simp only [PM.has,h2,Ok,res]
 constructor
 ·rintro ⟨a,b⟩;rw [if_neg a];exact b
 ·intro h
  split at h
  ·cases h
  ·rename_i hn;exact ⟨hn,h⟩
theorem Ok.mono {T T':Rows} (h:Ext T T') {n k:Nat} {p:List Int} (ho:Ok T n k p):Ok T' n k p:=by
 obtain ⟨a,b⟩:=ho
 have e:=h _ _ a
 refine ⟨by rw [e];exact a,?_⟩
 have:res T' k p = res T k p:=by simp only [res,e]
 rw [this];exact Zpe h n _ _ b
structure Inv (n k:Nat) (G:Gens) (T:Rows):Prop where
 wf:WF n T
 gpn:∀ j g,j < n->g∈lv G j->PN n g
 gfix:∀ j g,j < n->g∈lv G j->Fix j g
 row:∀ j y,j < n->tr T j y ≠ []->Grp n (lv G j) (tr T j y)
 up:∀ j g,j + 1 < n->g∈lv G (j + 1)->Grp n (lv G j) g
 cpl:∀ j y g,k<=j->j < n->tr T j y ≠ []->g∈lv G j->Ok T n j (comp (tr T j y) g)
theorem Fix.comp {n k:Nat} {p q:List Int} (hp:PN n p) (hk:k<=n) (h1:Fix k p) (h2:Fix k q):Fix k (comp p q):=by
 intro x h0 hx
 rw [at_comp h0 (by rw [hp.1];omega),h1 x h0 hx,h2 x h0 hx]
theorem Fix.inv {n k:Nat} {p:List Int} (hp:PN n p) (hk:k<=n) (h1:Fix k p):Fix k (inv p):=by
 intro x h0 hx
 have:=at_inv hp h0 (by omega)
 rwa [h1 x h0 hx] at this
theorem Fix.all {n:Nat} {p:List Int} (hp:PN n p) (h:Fix n p):p = pts n:=
 ext_at (by rw [hp.1,pts_len]) fun x h0 h1=>by rw [hp.1] at h1;rw [h x h0 h1,at_pts h0 h1]
theorem Fix.mono {j k:Nat} {p:List Int} (h:Fix k p) (hj:j<=k):Fix j p:=fun x h0 hx=>h x h0 (by omega)
theorem Fix.id (n k:Nat) (hk:k<=n):Fix k (pts n):=fun x h0 hx=>at_pts h0 (by omega)
theorem Fix.res {n k:Nat} {T:Rows} (hw:WF n T) (hk:k < n) {p:List Int} (hp:PN n p) (hf:Fix k p) (hn:tr T k (at_ p (k:Int)) ≠ []):PN n (res T k p)/\Fix (k + 1) (res T k p):=by
 have ht:=hw.pn k _ hk hn
 refine ⟨hp.comp ht.inv,?_⟩
 intro x h0 hx
 unfold PM.res
 rw [at_comp h0 (by rw [hp.1];omega)]
 by_cases hxk:x < k
 ·rw [hf x h0 hxk]
  exact Fix.inv ht (by omega) (hw.fix k _ hk hn) x h0 hxk
 ·have:x = k:=by omega
  subst this
  have h1:=hw.at_ k _ hk hn
  have h2:=at_inv ht (x:=(k:Int)) (by omega) (by omega)
  rwa [h1] at h2
theorem res_mul {n k:Nat} {T:Rows} (hw:WF n T) (hk:k < n) {p:List Int} (hp:PN n p) (hn:tr T k (at_ p (k:Int)) ≠ []):comp (res T k p) (tr T k (at_ p (k:Int))) = p:=by
 have ht:=hw.pn k _ hk hn
 unfold res
 rw [Zav hp ht.inv,Zjp ht,comp_id hp]
def Sk (T:Rows) (n k:Nat) (p:List Int):Prop:=PN n p/\Fix k p/\has T n (n - k) p = true
theorem Znv {n:Nat} {G:Gens} {T:Rows}:∀ (m k:Nat),n - k = m->k < n->Inv n k G T->∀ p,Sk T n k p ↔ Grp n (lv G k) p:=by
 intro m
 induction m with
 | zero=>intro k h1 h2;omega
 | succ m ih=>
  intro k hm hk hI
  have hG:∀ g∈lv G k,PN n g:=fun g hg=>hI.gpn k g hk hg
  -- the next level: what it knows is a group,within this level's
  have next:(∀ p q,Sk T n (k + 1) p->Sk T n (k + 1) q->Sk T n (k + 1) (comp p q))/\(∀ p,Sk T n (k + 1) p->Grp n (lv G k) p)/\Sk T n (k + 1) (pts n):=by
   by_cases hk1:k + 1 < n
   ·have hI1:Inv n (k + 1) G T:=⟨hI.wf,hI.gpn,hI.gfix,hI.row,hI.up,fun j y g h1 h2 h3 h4=>hI.cpl j y g (by omega) h2 h3 h4⟩
    have hh:=ih (k + 1) (by omega) hk1 hI1
    have hG1:∀ g∈lv G (k + 1),PN n g:=fun g hg=>hI.gpn (k + 1) g hk1 hg
    refine ⟨fun p q hp hq=>(hh _).2 (Grp.comp hG1 ((hh p).1 hp) ((hh q).1 hq)),fun p hp=>?_,(hh _).2 .id⟩
    exact Grp.mono hG (fun g hg=>hI.up k g hk1 hg) ((hh p).1 hp)
   ·have hk2:k + 1 = n:=by omega
    have hid:∀ p,Sk T n (k + 1) p->p = pts n:=fun p hp=>Fix.all hp.1 (by rw [<- hk2];exact hp.2.1)
    have h0:Sk T n (k + 1) (pts n):=⟨PN.id n,Fix.id n _ (by omega),by rw [hk2,Nat.sub_self];rfl⟩
    refine ⟨fun p q hp hq=>?_,fun p hp=>?_,h0⟩
    ·rw [hid p hp,hid q hq,comp_id (PN.id n)];exact h0
    ·rw [hid p hp];exact .id
  obtain ⟨nmul,nsub,nid⟩:=next
  -- one step down
  have down:∀ p,PN n p->Fix k p->(has T n (n - k) p = true ↔ tr T k (at_ p (k:Int)) ≠ []/\Sk T n (k + 1) (res T k p)):=by
   intro p hp hf
   rw [<- Ok.has hk]
   constructor
   ·rintro ⟨a,b⟩
    obtain ⟨c,d⟩:=Fix.res hI.wf hk hp hf a
    exact ⟨a,c,d,b⟩
   ·rintro ⟨a,b⟩;exact ⟨a,b.2.2⟩
  intro p
  constructor
  ·rintro ⟨hp,hf,hh⟩
   obtain ⟨hn,hs⟩:=(down p hp hf).1 hh
   rw [<- res_mul hI.wf hk hp hn]
   exact Grp.comp hG (nsub _ hs) (hI.row k _ hk hn)
  ·intro hp
   refine grp_sub hG (S:=Sk T n k) (fun p hp=>hp.1) ?_ ?_ hp
   ·refine ⟨PN.id n,Fix.id n k (by omega),?_⟩
    refine (down _ (PN.id n) (Fix.id n k (by omega))).2 ?_
    have e:at_ (pts n) (k:Int) = k:=at_pts (by omega) (by omega)
    have e2:tr T k (at_ (pts n) (k:Int)) = pts n:=by rw [e];exact hI.wf.one k hk
    refine ⟨by rw [e2];exact pts_ne (by omega),?_⟩
    unfold res
    rw [e2,Zem (PN.id n)];exact nid
   ·rintro q g ⟨hq,hf,hh⟩ hg
    obtain ⟨hn,hs⟩:=(down q hq hf).1 hh
    have hgp:=hG g hg
    have ht:=hI.wf.pn k _ hk hn
    have hqg:=hq.comp hgp
    have hfg:Fix k (comp q g):=Fix.comp hq (by omega) hf (hI.gfix k g hk hg)
    refine ⟨hqg,hfg,(down _ hqg hfg).2 ?_⟩
    -- the product of the row's permutation with g
    obtain ⟨o1,o2⟩:=hI.cpl k _ g (Nat.le_refl _) hk hn hg
    have e1:at_ (comp q g) (k:Int) = at_ (comp (tr T k (at_ q (k:Int))) g) (k:Int):=by
     rw [at_comp (by omega) (by rw [hq.1];omega),at_comp (by omega) (by rw [ht.1];omega),hI.wf.at_ k _ hk hn]
    refine ⟨by rw [e1];exact o1,?_⟩
    have hft:Fix k (comp (tr T k (at_ q (k:Int))) g):=Fix.comp ht (by omega) (hI.wf.fix k _ hk hn) (hI.gfix k g hk hg)
    obtain ⟨c1,c2⟩:=Fix.res hI.wf hk (ht.comp hgp) hft o1
    have hu:Sk T n (k + 1) (res T k (comp (tr T k (at_ q (k:Int))) g)):=⟨c1,c2,o2⟩
    have key:res T k (comp q g) = comp (res T k q) (res T k (comp (tr T k (at_ q (k:Int))) g)):=by
     have h1:=res_mul hI.wf hk hq hn
     have ht':=hI.wf.pn k _ hk o1
     have hr:=(Fix.res hI.wf hk hq hf hn).1
     conv=>lhs;unfold res
     rw [e1]
     conv=>rhs;arg 2;unfold res
     rw [<- Zav hr (ht.comp hgp),<- Zav hr ht,h1]
    rw [key]
    exact nmul _ _ hs hu
end PM

namespace PM
def setT (T:Rows) (k m:Nat) (p:List Int):Rows:=T.set k ((T.getD k []).set m p)
structure Shape (n:Nat) (G:Gens) (T:Rows):Prop where
 lt:T.length = n
 lr:∀ k,k < n->(T.getD k []).length = n
 lg:G.length = n
theorem tr_setT {T:Rows} {k m:Nat} (hk:k < T.length) (hm:m < (T.getD k []).length) (p:List Int) (j:Nat) (y:Int) :
  tr (setT T k m p) j y = if j = k/\y = (m:Int) then p else tr T j y:=by
 unfold tr setT
 by_cases hy:y < 0
 ·rw [if_pos hy,if_pos hy,if_neg (by omega)]
 ·rw [if_neg hy,if_neg hy]
  by_cases hj:j = k
  ·subst hj
   have e1:(T.set j ((T.getD j []).set m p)).getD j [] = (T.getD j []).set m p:=by
    rw [List.getD_eq_getElem?_getD,List.getElem?_set_self hk];rfl
   rw [e1]
   by_cases hm2:y = (m:Int)
   ·rw [if_pos ⟨rfl,hm2⟩]
    have:y.toNat = m:=by omega
    rw [this,List.getD_eq_getElem?_getD,List.getElem?_set_self hm];rfl
   ·rw [if_neg (by simp [hm2])]
    rw [List.getD_eq_getElem?_getD,List.getElem?_set_ne (by omega),<- List.getD_eq_getElem?_getD]
  ·rw [if_neg (by simp [hj])]
   have e1:(T.set k ((T.getD k []).set m p)).getD j [] = T.getD j []:=by
    rw [List.getD_eq_getElem?_getD,List.getElem?_set_ne (by omega),<- List.getD_eq_getElem?_getD]
   rw [e1]
theorem lv_set {G:Gens} {k:Nat} (hk:k < G.length) (L:List (List Int)) (j:Nat):lv (G.set k L) j = if j = k then L else lv G j:=by
 unfold lv
 by_cases hj:j = k
 ·subst hj
  rw [if_pos rfl,List.getD_eq_getElem?_getD,List.getElem?_set_self hk];rfl
 ·rw [if_neg hj,List.getD_eq_getElem?_getD,List.getElem?_set_ne (by omega),<- List.getD_eq_getElem?_getD]
theorem Shape.setT {n:Nat} {G:Gens} {T:Rows} (h:Shape n G T) (k m:Nat) (p:List Int):Shape n G (setT T k m p):=by
 refine ⟨by simp [PM.setT,h.lt],fun j hj=>?_,h.lg⟩
 unfold PM.setT
 by_cases hjk:j = k
 ·subst hjk
  rw [List.getD_eq_getElem?_getD,List.getElem?_set_self (by rw [h.lt];exact hj)]
  simp only [Option.getD_some,List.length_set];exact h.lr j hj
 ·rw [List.getD_eq_getElem?_getD,List.getElem?_set_ne (by omega),<- List.getD_eq_getElem?_getD];exact h.lr j hj
theorem Shape.setG {n:Nat} {G:Gens} {T:Rows} (h:Shape n G T) (k:Nat) (L:List (List Int)):Shape n (G.set k L) T:=⟨h.lt,h.lr,by simp [h.lg]⟩
structure Base (n:Nat) (G:Gens) (T:Rows):Prop where
 wf:WF n T
 gpn:∀ j g,j < n->g∈lv G j->PN n g
 gfix:∀ j g,j < n->g∈lv G j->Fix j g
 row:∀ j y,j < n->tr T j y ≠ []->Grp n (lv G j) (tr T j y)
 up:∀ j g,j + 1 < n->g∈lv G (j + 1)->Grp n (lv G j) g
def Cpl (n k:Nat) (G:Gens) (T:Rows):Prop:=∀ j y g,k<=j->j < n->tr T j y ≠ []->g∈lv G j->Ok T n j (comp (tr T j y) g)
theorem inv_iff {n k:Nat} {G:Gens} {T:Rows}:Inv n k G T ↔ Base n G T/\Cpl n k G T:=
 ⟨fun h=>⟨⟨h.wf,h.gpn,h.gfix,h.row,h.up⟩,h.cpl⟩,fun ⟨h,c⟩=>⟨h.wf,h.gpn,h.gfix,h.row,h.up,c⟩⟩
structure Grew (n k:Nat) (G:Gens) (T:Rows) (G':Gens) (T':Rows):Prop where
 ext:Ext T T'
 low:∀ j,j < k->lv G' j = lv G j
 lowT:∀ j y,j < k->tr T' j y = tr T j y
 sup:∀ j g,g∈lv G j->g∈lv G' j
theorem Grew.refl (n k:Nat) (G:Gens) (T:Rows):Grew n k G T G T:=⟨Ext.refl T,fun _ _=>rfl,fun _ _ _=>rfl,fun _ _ h=>h⟩
theorem Grew.trans {n k:Nat} {G G' G'':Gens} {T T' T'':Rows} (h:Grew n k G T G' T') (h':Grew n k G' T' G'' T''):Grew n k G T G'' T'':=
 ⟨h.ext.trans h'.ext,fun j hj=>(h'.low j hj).trans (h.low j hj),fun j y hj=>(h'.lowT j y hj).trans (h.lowT j y hj),fun j g hg=>h'.sup j g (h.sup j g hg)⟩
theorem Grew.mono {n k k':Nat} {G G':Gens} {T T':Rows} (h:Grew n k G T G' T') (hk:k'<=k):Grew n k' G T G' T':=
 ⟨h.ext,fun j hj=>h.low j (by omega),fun j y hj=>h.lowT j y (by omega),h.sup⟩
structure Added (n k:Nat) (p:List Int) (G:Gens) (T:Rows) (G':Gens) (T':Rows):Prop where
 inv:Inv n k G' T'
 grew:Grew n k G T G' T'
 has:has T' n (n - k) p = true
 gen:∀ g∈lv G' k,g∈lv G k\/g = p
theorem Added.same {n k:Nat} {p:List Int} {G:Gens} {T:Rows} (h:Inv n k G T) (hh:PM.has T n (n - k) p = true):Added n k p G T G T:=
 ⟨h,Grew.refl _ _ _ _,hh,fun _ hg=>.inl hg⟩
structure May (n k:Nat) (p:List Int) (G:Gens):Prop where
 pn:PN n p
 fix:Fix k p
 grp:∀ j,j + 1 = k->Grp n (lv G j) p
theorem Ok.of_above {T T':Rows} {n j:Nat} (hj:j < n) (h:∀ i y,j<=i->tr T' i y = tr T i y) {p:List Int} (ho:Ok T n j p):Ok T' n j p:=by
 obtain ⟨a,b⟩:=ho
 have e:=h j (at_ p (j:Int)) (Nat.le_refl _)
 refine ⟨by rw [e];exact a,?_⟩
 have:res T' j p = res T j p:=by simp only [res,e]
 rw [this,<- Zst (T:=T) (fun i y hi=>h i y (by omega))];exact b
theorem Zuv {n k:Nat} {p:List Int} {G:Gens} {T:Rows} (hs:Shape n G T) (hk:k < n) (hI:Inv n k G T) (hp:May n k p G) :
  Base n (G.set k (lv G k ++ [p])) T/\Cpl n (k + 1) (G.set k (lv G k ++ [p])) T/\Grew n k G T (G.set k (lv G k ++ [p])) T:=by
 have hl:=fun j=>lv_set (k:=k) (G:=G) (by rw [hs.lg];exact hk) (lv G k ++ [p]) j
 have hsup:∀ j g,g∈lv G j->g∈lv (G.set k (lv G k ++ [p])) j:=by
  intro j g hg
  rw [hl j];split
  ·rename_i e;subst e;simp [hg]
  ·exact hg
 have hmem:∀ j g,g∈lv (G.set k (lv G k ++ [p])) j->g∈lv G j\/(j = k/\g = p):=by
  intro j g hg
  rw [hl j] at hg
  split at hg
  ·rename_i e;subst e
   rcases List.mem_append.1 hg with h | h
   ·exact .inl h
   ·exact .inr ⟨rfl,by simpa using h⟩
  ·exact .inl hg
 have hgpn:∀ j g,j < n->g∈lv (G.set k (lv G k ++ [p])) j->PN n g:=fun j g hj hg=>by
  rcases hmem j g hg with h | ⟨rfl,rfl⟩
  ·exact hI.gpn j g hj h
  ·exact hp.pn
 refine ⟨⟨hI.wf,hgpn,fun j g hj hg=>?_,fun j y hj hn=>?_,fun j g hj hg=>?_⟩,fun j y g h1 h2 h3 h4=>?_,⟨Ext.refl T,fun j hj=>?_,fun _ _ _=>rfl,hsup⟩⟩
 ·rcases hmem j g hg with h | ⟨rfl,rfl⟩
  ·exact hI.gfix j g hj h
  ·exact hp.fix
 ·exact Grp.mono (fun g hg=>hgpn j g hj hg) (fun g hg=>Grp.gen (fun g hg=>hgpn j g hj hg) (hsup j g hg)) (hI.row j y hj hn)
 ·have hG:∀ g∈lv (G.set k (lv G k ++ [p])) j,PN n g:=fun g hg=>hgpn j g (by omega) hg
  have hm:∀ q,Grp n (lv G j) q->Grp n (lv (G.set k (lv G k ++ [p])) j) q:=fun q hq=>Grp.mono hG (fun g hg=>Grp.gen hG (hsup j g hg)) hq
  rcases hmem (j + 1) g hg with h | ⟨h,rfl⟩
  ·exact hm _ (hI.up j g hj h)
  ·exact hm _ (hp.grp j h)
 ·rcases hmem j g h4 with h | ⟨rfl,rfl⟩
  ·exact hI.cpl j y g (by omega) h2 h3 h
  ·omega
 ·rw [hl j,if_neg (by omega)]
theorem Zua {n k:Nat} {G:Gens} {T:Rows} {q:List Int} {m:Nat} (hs:Shape n G T) (hk:k < n) (hB:Base n G T) (hC:Cpl n (k + 1) G T) (hq:PN n q) (hf:Fix k q) (hg:Grp n (lv G k) q)
  (hm:at_ q (k:Int) = (m:Int)) (hmn:m < n) (h0:tr T k (m:Int) = []) :
  Base n G (setT T k m q)/\Cpl n (k + 1) G (setT T k m q)/\Grew n k G T G (setT T k m q):=by
 have hl:=fun j y=>tr_setT (T:=T) (k:=k) (m:=m) (by rw [hs.lt];exact hk) (by rw [hs.lr k hk];exact hmn) q j y
 have hne:(m:Int) ≠ k:=by
  intro e
  rw [e,hB.wf.one k hk] at h0
  exact pts_ne (by omega) h0
 have hext:Ext T (setT T k m q):=by
  intro j y hn
  rw [hl j y];split
  ·rename_i e;obtain ⟨rfl,rfl⟩:=e;exact absurd h0 hn
  ·rfl
 have habove:∀ i y,k + 1<=i->tr (setT T k m q) i y = tr T i y:=fun i y hi=>by rw [hl i y,if_neg (by omega)]
 refine ⟨⟨⟨fun j y hj hn=>?_,fun j y hj hn=>?_,fun j y hj hn=>?_,fun j hj=>?_⟩,hB.gpn,hB.gfix,fun j y hj hn=>?_,hB.up⟩,fun j y g h1 h2 h3 h4=>?_,⟨hext,fun _ _=>rfl,fun j y hj=>?_,fun _ _ h=>h⟩⟩
 ·rw [hl j y] at hn ⊢;split at hn
  ·rename_i e;rw [if_pos e];exact hq
  ·rename_i e;rw [if_neg e];exact hB.wf.pn j y hj hn
 ·rw [hl j y] at hn ⊢;split at hn
  ·rename_i e;rw [if_pos e,e.1];exact hf
  ·rename_i e;rw [if_neg e];exact hB.wf.fix j y hj hn
 ·rw [hl j y] at hn ⊢;split at hn
  ·rename_i e;rw [if_pos e,e.1,e.2];exact hm
  ·rename_i e;rw [if_neg e];exact hB.wf.at_ j y hj hn
 ·rw [hl j j,if_neg (by rintro ⟨rfl,e⟩;exact hne e.symm)];exact hB.wf.one j hj
 ·rw [hl j y] at hn ⊢;split at hn
  ·rename_i e;rw [if_pos e,e.1];exact hg
  ·rename_i e;rw [if_neg e];exact hB.row j y hj hn
 ·rw [habove j y h1] at h3 ⊢
  exact Ok.of_above h2 (fun i y hi=>habove i y (by omega)) (hC j y g h1 h2 h3 h4)
 ·rw [hl j y,if_neg (by omega)]
theorem Zts {n k:Nat} {G:Gens} {T:Rows} {q:List Int} (hk:k < n) (hB:Base n G T) (hq:PN n q) (hf:Fix k q) (hg:Grp n (lv G k) q) (hn:tr T k (at_ q (k:Int)) ≠ []) :
  May n (k + 1) (res T k q) G:=by
 obtain ⟨a,b⟩:=Fix.res hB.wf hk hq hf hn
 refine ⟨a,b,fun j hj=>?_⟩
 have:j = k:=by omega
 subst this
 have hG:∀ g∈lv G j,PN n g:=fun g hg=>hB.gpn j g hk hg
 exact Grp.comp hG hg (Grp.inv hG (hB.row j _ hk hn))
theorem row_mul {n k:Nat} {G:Gens} {T:Rows} {y:Int} {g:List Int} (hk:k < n) (hB:Base n G T) (hn:tr T k y ≠ []) (hg:g∈lv G k) :
  PN n (comp (tr T k y) g)/\Fix k (comp (tr T k y) g)/\Grp n (lv G k) (comp (tr T k y) g)/\at_ (comp (tr T k y) g) (k:Int) = at_ g y:=by
 have ht:=hB.wf.pn k y hk hn
 have hgp:=hB.gpn k g hk hg
 refine ⟨ht.comp hgp,Fix.comp ht (by omega) (hB.wf.fix k y hk hn) (hB.gfix k g hk hg),(hB.row k y hk hn).mul hg,?_⟩
 rw [at_comp (by omega) (by rw [ht.1];omega),hB.wf.at_ k y hk hn]
theorem row_rng {n k:Nat} {G:Gens} {T:Rows} {y:Int} (hk:k < n) (hB:Base n G T) (hn:tr T k y ≠ []):0<=y/\y < n:=by
 have ht:=hB.wf.pn k y hk hn
 have:=ht.rng (x:=(k:Int)) (by omega) (by omega)
 rwa [hB.wf.at_ k y hk hn] at this
theorem Added.up {n k:Nat} {q:List Int} {G G':Gens} {T T':Rows} (h:Added n (k + 1) (res T k q) G T G' T') (hn:tr T k (at_ q (k:Int)) ≠ []) :
  Base n G' T'/\Cpl n (k + 1) G' T'/\Grew n (k + 1) G T G' T'/\Ok T' n k q:=by
 obtain ⟨a,b⟩:=inv_iff.1 h.inv
 refine ⟨a,b,h.grew,?_⟩
 have e:=h.grew.ext k _ hn
 refine ⟨by rw [e];exact hn,?_⟩
 have:res T' k q = res T k q:=by simp only [res,e]
 rw [this];exact h.has
theorem Added.level {n k:Nat} {p:List Int} {G':Gens} {T':Rows} {G:Gens} {T0:Rows} (hk:k < n) (hB:Base n G' T') (hC:Cpl n (k + 1) G' T') (hg:Grew n k G T0 G' T')
  (hall:∀ y g,tr T' k y ≠ []->g∈lv G' k->Ok T' n k (comp (tr T' k y) g)) (hp:p∈lv G' k) (hgen:∀ g∈lv G' k,g∈lv G k\/g = p):Added n k p G T0 G' T':=by
 refine ⟨inv_iff.2 ⟨hB,fun j y g h1 h2 h3 h4=>?_⟩,hg,?_,hgen⟩
 ·by_cases hj:j = k
  ·subst hj;exact hall y g h3 h4
  ·exact hC j y g (by omega) h2 h3 h4
 ·have h1:=hB.wf.one k hk
  have h2:=hall k p (by rw [h1];exact pts_ne (by omega)) hp
  rw [h1,id_comp (hB.gpn k p hk hp)] at h2
  exact (Ok.has hk).1 h2
def row0 (n k:Nat):List (List Int):=(List.replicate n []).set k (pts n)
def T0 (n:Nat):Rows:=(List.range n).map (row0 n)
def G0 (n:Nat):Gens:=List.replicate n []
theorem T0_row {n k:Nat} (hk:k < n):(T0 n).getD k [] = row0 n k:=by
 rw [List.getD_eq_getElem?_getD];simp [T0,hk]
theorem tr_T0 {n k:Nat} (hk:k < n) (y:Int):tr (T0 n) k y = if y = k then pts n else []:=by
 unfold tr
 rw [T0_row hk]
 by_cases hy:y < 0
 ·rw [if_pos hy,if_neg (by omega)]
 ·rw [if_neg hy]
  unfold row0
  by_cases e:y = k
  ·rw [if_pos e]
   have:y.toNat = k:=by omega
   rw [this,List.getD_eq_getElem?_getD,List.getElem?_set_self (by simp [hk])];rfl
  ·rw [if_neg e,List.getD_eq_getElem?_getD,List.getElem?_set_ne (by omega)]
   rw [List.getElem?_replicate];split <;> rfl
theorem lv_G0 (n k:Nat):lv (G0 n) k = []:=by
 unfold lv G0
 rw [List.getD_eq_getElem?_getD,List.getElem?_replicate];split <;> rfl
theorem Shape.zero (n:Nat):Shape n (G0 n) (T0 n):=⟨by simp [T0],fun k hk=>by rw [T0_row hk];simp [row0],by simp [G0]⟩
theorem Inv.zero (n:Nat):Inv n 0 (G0 n) (T0 n):=by
 have hy:∀ k y,k < n->tr (T0 n) k y ≠ []->y = k/\tr (T0 n) k y = pts n:=by
  intro k y hk h
  rw [tr_T0 hk y] at h ⊢
  split at h
  ·rename_i e;exact ⟨e,if_pos e⟩
  ·exact absurd rfl h
 refine ⟨⟨fun k y hk h=>?_,fun k y hk h=>?_,fun k y hk h=>?_,fun k hk=>?_⟩,fun j g hj hg=>?_,fun j g hj hg=>?_,fun j y hj h=>?_,fun j g hj hg=>?_,fun j y g _ hj h hg=>?_⟩
 ·rw [(hy k y hk h).2];exact PN.id n
 ·rw [(hy k y hk h).2];exact Fix.id n k (by omega)
 ·obtain ⟨rfl,e⟩:=hy k y hk h
  rw [e];exact at_pts (by omega) (by omega)
 ·rw [tr_T0 hk,if_pos rfl]
 ·rw [lv_G0] at hg;cases hg
 ·rw [lv_G0] at hg;cases hg
 ·rw [(hy j y hj h).2];exact .id
 ·rw [lv_G0] at hg;cases hg
 ·rw [lv_G0] at hg;cases hg
structure Chain (n:Nat) (gens:List (List Int)) (G:Gens) (T:Rows):Prop where
 shape:Shape n G T
 inv:Inv n 0 G T
 sub:∀ g∈lv G 0,g∈gens
 all:∀ g∈gens,has T n n g = true
theorem Chain.zero (n:Nat):Chain n [] (G0 n) (T0 n):=⟨Shape.zero n,Inv.zero n,fun g hg=>(by rw [lv_G0] at hg;cases hg),fun g hg=>(by cases hg)⟩
theorem Chain.step {n:Nat} {gens:List (List Int)} {G G':Gens} {T T':Rows} (h:Chain n gens G T) {p:List Int} (hs:Shape n G' T') (ha:Added n 0 p G T G' T'):Chain n (gens ++ [p]) G' T':=by
 refine ⟨hs,ha.inv,fun g hg=>?_,fun g hg=>?_⟩
 ·rcases ha.gen g hg with h1 | rfl
  ·exact List.mem_append_left _ (h.sub g h1)
  ·simp
 ·rcases List.mem_append.1 hg with h1 | h1
  ·exact Zpe ha.grew.ext n n g (h.all g h1)
  ·have:g = p:=by simpa using h1
   subst this;exact ha.has
theorem May.zero {n:Nat} {p:List Int} (G:Gens) (h:PN n p):May n 0 p G:=⟨h,fun x h0 hx=>by omega,fun j hj=>by omega⟩
section
variable {n:Nat} {gens:List (List Int)} {G:Gens} {T:Rows} (h:Chain n gens G T) (hn:0 < n) (hp:∀ g∈gens,PN n g)
include h hn hp
theorem Chain.grp (p:List Int):Grp n (lv G 0) p ↔ Grp n gens p:=by
 have hG:∀ g∈lv G 0,PN n g:=fun g hg=>h.inv.gpn 0 g hn hg
 constructor
 ·exact Grp.mono hp fun g hg=>Grp.gen hp (h.sub g hg)
 ·refine Grp.mono hG fun g hg=>?_
  exact (Znv n 0 rfl hn h.inv g).1 ⟨hp g hg,fun x h0 hx=>by omega,by simpa using h.all g hg⟩
theorem Chain.has_iff {p:List Int} (hpn:PN n p):has T n n p = true ↔ Grp n gens p:=by
 rw [<- h.grp hn hp,<- Znv n 0 rfl hn h.inv p]
 constructor
 ·intro hh;exact ⟨hpn,fun x h0 hx=>by omega,by simpa using hh⟩
 ·rintro ⟨_,_,hh⟩;simpa using hh
end
end PM

namespace PM
def cntR (n:Nat) (T:Rows) (k:Nat):Nat:=((pts n).filter fun y=>decide (tr T k y ≠ [])).length
theorem cntR_le (n:Nat) (T:Rows) (k:Nat):cntR n T k<=n:=by
 have:=List.length_filter_le (fun y=>decide (tr T k y ≠ [])) (pts n)
 rwa [pts_len] at this
theorem Zqx {α:Type} [DecidableEq α] {l:List α} {p q:α->Bool} {m:α} (hn:l.Nodup) (hm:m∈l) (hp:p m = false) (hq:q m = true) (ho:∀ x,x ≠ m->q x = p x) :
  (l.filter q).length = (l.filter p).length + 1:=by
 induction l with
 | nil=>cases hm
 | cons x l ih=>
  obtain ⟨h1,h2⟩:=List.nodup_cons.1 hn
  by_cases hx:x = m
  ·subst hx
   have:l.filter q = l.filter p:=List.filter_congr fun y hy=>ho y fun e=>h1 (e ▸ hy)
   simp [hp,hq,this]
  ·have hm':m∈l:=by
    rcases List.mem_cons.1 hm with e | e
    ·exact absurd e.symm hx
    ·exact e
   have:=ih h2 hm'
   simp only [List.filter_cons,ho x hx]
   split <;> simp [this]
theorem Ztv {n k m:Nat} {T:Rows} (hk:k < T.length) (hm:m < (T.getD k []).length) (hmn:m < n) {p:List Int} (hp:p ≠ []) (h0:tr T k (m:Int) = []):cntR n (setT T k m p) k = cntR n T k + 1:=by
 have hl:=fun y=>tr_setT hk hm p k y
 refine Zqx (m:=(m:Int)) (Zdi n) (mem_pts.2 (by omega)) (by simp [h0]) ?_ fun x hx=>?_
 ·rw [hl,if_pos ⟨rfl,rfl⟩];simpa using hp
 ·rw [hl,if_neg (by simpa using hx)]
structure QS (n k:Nat) (G:Gens) (T0 T:Rows) (qs:List Int) (cur:Int->List (List Int)):Prop where
 shape:Shape n G T
 base:Base n G T
 cpl:Cpl n (k + 1) G T
 grew:Grew n k G T0 G T
 rows:∀ j y,j ≠ k->tr T j y = tr T0 j y
 nd:qs.Nodup
 mem:∀ y∈qs,tr T k y ≠ []
 done:∀ y g,tr T k y ≠ []->(y ∉ qs->g∈lv G k)->(y∈qs->g∈cur y)->tr T k (at_ g y) ≠ []
theorem QS.len {n k:Nat} {G:Gens} {T0 T:Rows} {qs:List Int} {cur:Int->List (List Int)} (hk:k < n) (h:QS n k G T0 T qs cur):qs.length<=n:=by
 have:=Zah h.nd (l2:=pts n) (fun y hy=>mem_pts.2 (row_rng hk h.base (h.mem y hy)))
 rwa [pts_len] at this
def curA (L:List (List Int)) (y0:Int) (i:Nat):Int->List (List Int):=fun y=>if y = y0 then L.take i else []
def cur0:Int->List (List Int):=fun _=>[]
theorem QS.start {n k:Nat} {G:Gens} {T:Rows} (hs:Shape n G T) (hB:Base n G T) (hC:Cpl n (k + 1) G T) {qs:List Int} (hn:qs.Nodup) (hq:∀ y,y∈qs ↔ tr T k y ≠ []):QS n k G T T qs cur0:=
 ⟨hs,hB,hC,Grew.refl _ _ _ _,fun _ _ _=>rfl,hn,fun y hy=>(hq y).1 hy,fun y g hy _ h2=>absurd (h2 ((hq y).2 hy)) (by simp [cur0])⟩
theorem QS.first {n k:Nat} {G:Gens} {T0 T:Rows} {y0:Int} {qs:List Int} (h:QS n k G T0 T (y0 :: qs) cur0):QS n k G T0 T (y0 :: qs) (curA (lv G k) y0 0):=by
 refine ⟨h.shape,h.base,h.cpl,h.grew,h.rows,h.nd,h.mem,fun y g hy h1 h2=>h.done y g hy h1 fun hm=>?_⟩
 have:=h2 hm
 unfold curA at this;split at this
 ·simp at this
 ·cases this
theorem QS.skip {n k:Nat} {G:Gens} {T0 T:Rows} {y0:Int} {qs:List Int} {i:Nat} (hi:i < (lv G k).length) (h:QS n k G T0 T (y0 :: qs) (curA (lv G k) y0 i)) (ht:tr T k (at_ (lv G k)[i] y0) ≠ []) :
  QS n k G T0 T (y0 :: qs) (curA (lv G k) y0 (i + 1)):=by
 refine ⟨h.shape,h.base,h.cpl,h.grew,h.rows,h.nd,h.mem,fun y g hy h1 h2=>?_⟩
 by_cases hm:y∈y0 :: qs
 ·have h3:=h2 hm
  unfold curA at h3
  by_cases e:y = y0
  ·rw [if_pos e,List.take_succ_eq_append_getElem hi] at h3
   rcases List.mem_append.1 h3 with h4 | h4
   ·exact h.done y g hy h1 fun _=>by unfold curA;rw [if_pos e];exact h4
   ·have:g = (lv G k)[i]:=by simpa using h4
    subst this;subst e;exact ht
  ·rw [if_neg e] at h3;cases h3
 ·exact h.done y g hy h1 fun h'=>absurd h' hm
theorem QS.more {n k:Nat} {G:Gens} {T0 T:Rows} {y0:Int} {qs:List Int} {i:Nat} (hk:k < n) (hi:i < (lv G k).length) (h:QS n k G T0 T (y0 :: qs) (curA (lv G k) y0 i)) (ht:tr T k (at_ (lv G k)[i] y0) = []) :
  QS n k G T0 (setT T k (at_ (lv G k)[i] y0).toNat (comp (tr T k y0) (lv G k)[i])) (y0 :: (qs ++ [at_ (lv G k)[i] y0])) (curA (lv G k) y0 (i + 1)) /\
  cntR n (setT T k (at_ (lv G k)[i] y0).toNat (comp (tr T k y0) (lv G k)[i])) k = cntR n T k + 1:=by
 have hy0:=h.mem y0 (by simp)
 have hg:(lv G k)[i]∈lv G k:=List.getElem_mem hi
 obtain ⟨a1,a2,a3,a4⟩:=row_mul hk h.base hy0 hg
 have hr:=row_rng hk h.base hy0
 have hgp:=h.base.gpn k _ hk hg
 have hto:=hgp.rng hr.1 hr.2
 have em:(((at_ (lv G k)[i] y0).toNat:Nat):Int) = at_ (lv G k)[i] y0:=by omega
 have hmn:(at_ (lv G k)[i] y0).toNat < n:=by omega
 obtain ⟨b1,b2,b3⟩:=Zua (m:=(at_ (lv G k)[i] y0).toNat) h.shape hk h.base h.cpl a1 a2 a3 (by rw [a4,em]) hmn (by rw [em];exact ht)
 have hl:=fun j y=>tr_setT (T:=T) (k:=k) (m:=(at_ (lv G k)[i] y0).toNat) (by rw [h.shape.lt];exact hk) (by rw [h.shape.lr k hk];exact hmn) (comp (tr T k y0) (lv G k)[i]) j y
 refine ⟨⟨h.shape.setT _ _ _,b1,b2,h.grew.trans b3,fun j y hj=>?_,?_,fun y hy=>?_,fun y g hy h1 h2=>?_⟩,?_⟩
 ·rw [hl j y,if_neg (by simp [hj])];exact h.rows j y hj
 ·have e:y0 :: (qs ++ [at_ (lv G k)[i] y0]) = (y0 :: qs) ++ [at_ (lv G k)[i] y0]:=by simp
  rw [e]
  refine List.nodup_append.2 ⟨h.nd,by simp,fun a ha b hb e=>?_⟩
  have:b = at_ (lv G k)[i] y0:=by simpa using hb
  subst this;subst e
  exact h.mem _ ha ht
 ·rw [hl k y]
  split
  ·exact a1.ne (by omega)
  ·rename_i hne
   have:y∈y0 :: qs:=by
    have e:y0 :: (qs ++ [at_ (lv G k)[i] y0]) = (y0 :: qs) ++ [at_ (lv G k)[i] y0]:=by simp
    rw [e] at hy
    rcases List.mem_append.1 hy with h3 | h3
    ·exact h3
    ·have:y = at_ (lv G k)[i] y0:=by simpa using h3
     exact absurd ⟨rfl,by rw [em];exact this⟩ hne
   exact h.mem y this
 ·rw [hl k _]
  split
  ·exact a1.ne (by omega)
  ·rename_i hne
   rw [hl k y] at hy
   by_cases hyt:y = at_ (lv G k)[i] y0
   ·-- the new point: it is in the queue,and nothing of it has been treated
    have hin:y∈y0 :: (qs ++ [at_ (lv G k)[i] y0]):=by simp [hyt]
    have h3:=h2 hin
    unfold curA at h3
    by_cases e:y = y0
    ·exact absurd ht (by rw [<- hyt,e];exact hy0)
    ·rw [if_neg e] at h3;cases h3
   ·rw [if_neg (by rw [em];simp [hyt])] at hy
    have hmem:y∈y0 :: (qs ++ [at_ (lv G k)[i] y0]) ↔ y∈y0 :: qs:=by simp [hyt]
    refine h.done y g hy (fun hn=>h1 fun hm=>hn (hmem.1 hm)) fun hm=>?_
    have h3:=h2 (hmem.2 hm)
    unfold curA at h3 ⊢
    by_cases e:y = y0
    ·rw [if_pos e] at h3 ⊢
     rw [List.take_succ_eq_append_getElem hi] at h3
     rcases List.mem_append.1 h3 with h4 | h4
     ·exact h4
     ·have:g = (lv G k)[i]:=by simpa using h4
      subst this;subst e
      exact absurd ⟨rfl,em.symm⟩ hne
    ·rw [if_neg e] at h3;cases h3
 ·exact Ztv (by rw [h.shape.lt];exact hk) (by rw [h.shape.lr k hk];exact hmn) hmn (a1.ne (by omega)) (by rw [em];exact ht)
theorem QS.pop {n k:Nat} {G:Gens} {T0 T:Rows} {y0:Int} {qs:List Int} {i:Nat} (hi:(lv G k).length<=i) (h:QS n k G T0 T (y0 :: qs) (curA (lv G k) y0 i)):QS n k G T0 T qs cur0:=by
 obtain ⟨hn1,hn2⟩:=List.nodup_cons.1 h.nd
 refine ⟨h.shape,h.base,h.cpl,h.grew,h.rows,hn2,fun y hy=>h.mem y (by simp [hy]),fun y g hy h1 h2=>?_⟩
 by_cases hm:y∈qs
 ·exact absurd (h2 hm) (by simp [cur0])
 ·refine h.done y g hy (fun _=>h1 hm) fun h3=>?_
  have e:y = y0:=by
   rcases List.mem_cons.1 h3 with e | e
   ·exact e
   ·exact absurd e hm
  unfold curA;rw [if_pos e,List.take_of_length_le hi];exact h1 hm
theorem QS.closed {n k:Nat} {G:Gens} {T0 T:Rows} (h:QS n k G T0 T [] cur0):∀ y g,tr T k y ≠ []->g∈lv G k->tr T k (at_ g y) ≠ []:=
 fun y g hy hg=>h.done y g hy (fun _=>hg) fun h3=>by cases h3
structure PS (n k:Nat) (G1:Gens) (T1:Rows) (G:Gens) (T:Rows) (S:List Int->Prop):Prop where
 shape:Shape n G T
 base:Base n G T
 cpl:Cpl n (k + 1) G T
 grew:Grew n (k + 1) G1 T1 G T
 ok:∀ q,S q->Ok T n k q
theorem PS.lv {n k:Nat} {G1:Gens} {T1:Rows} {G:Gens} {T:Rows} {S:List Int->Prop} (h:PS n k G1 T1 G T S):PM.lv G k = PM.lv G1 k:=h.grew.low k (by omega)
theorem PS.tr {n k:Nat} {G1:Gens} {T1:Rows} {G:Gens} {T:Rows} {S:List Int->Prop} (h:PS n k G1 T1 G T S) (y:Int):PM.tr T k y = PM.tr T1 k y:=h.grew.lowT k y (by omega)
theorem PS.start {n k:Nat} {G:Gens} {T:Rows} (hs:Shape n G T) (hB:Base n G T) (hC:Cpl n (k + 1) G T):PS n k G T G T (fun _=>False):=
 ⟨hs,hB,hC,Grew.refl _ _ _ _,fun _ h=>h.elim⟩
theorem PS.weak {n k:Nat} {G1:Gens} {T1:Rows} {G:Gens} {T:Rows} {S S':List Int->Prop} (h:PS n k G1 T1 G T S) (hs:∀ q,S' q->S q):PS n k G1 T1 G T S':=
 ⟨h.shape,h.base,h.cpl,h.grew,fun q hq=>h.ok q (hs q hq)⟩
theorem PS.step {n k:Nat} {G1:Gens} {T1:Rows} {G G':Gens} {T T':Rows} {S:List Int->Prop} (h:PS n k G1 T1 G T S) {q:List Int} (hs:Shape n G' T') (hn:PM.tr T k (at_ q (k:Int)) ≠ []) (ha:Added n (k + 1) (res T k q) G T G' T') :
  PS n k G1 T1 G' T' (fun x=>S x\/x = q):=by
 obtain ⟨a,b,c,d⟩:=ha.up hn
 refine ⟨hs,a,b,h.grew.trans c,fun x hx=>?_⟩
 rcases hx with hx | rfl
 ·exact (h.ok x hx).mono c.ext
 ·exact d
def sumM (n:Nat) (T:Rows):Nat->Nat
 | 0=>0
 | m + 1=>cntR n T (n - (m + 1)) + sumM n T m
theorem sumM_le (n:Nat) (T:Rows):∀ m,sumM n T m<=m * n:=by
 intro m
 induction m with
 | zero=>simp [sumM]
 | succ m ih=>
  have:=cntR_le n T (n - (m + 1))
  simp only [sumM,Nat.succ_mul];omega
theorem Znq {n k:Nat} {T T':Rows} (h:Ext T T'):cntR n T k<=cntR n T' k:=by
 unfold cntR
 refine List.Sublist.length_le ?_
 have:(pts n).filter (fun y=>decide (tr T k y ≠ [])) = ((pts n).filter fun y=>decide (tr T' k y ≠ [])).filter fun y=>decide (tr T k y ≠ []):=by
  rw [List.filter_filter]
  refine List.filter_congr fun y _=>?_
  by_cases hy:tr T k y = []
  ·simp [hy]
  ·simp [h k y hy,hy]
 rw [this];exact List.filter_sublist
theorem Zmx {n:Nat} {T T':Rows} (h:Ext T T'):∀ m,sumM n T m<=sumM n T' m:=by
 intro m
 induction m with
 | zero=>simp [sumM]
 | succ m ih=>have:=Znq (n:=n) (k:=n - (m + 1)) h;simp only [sumM];omega
theorem tr_out {n k:Nat} {G:Gens} {T:Rows} (hs:Shape n G T) (hk:k < n) {y:Int} (hy:¬ (0<=y/\y < n)):tr T k y = []:=by
 unfold tr
 split
 ·rfl
 ·rw [List.getD_eq_getElem?_getD,List.getElem?_eq_none (by rw [hs.lr k hk];omega)];rfl
theorem Zsq {n k:Nat} {G G':Gens} {T T':Rows} (_hs:Shape n G T) (hs':Shape n G' T') (hk:k < n) (h:Ext T T') (hc:cntR n T' k<=cntR n T k):∀ y,tr T' k y = tr T k y:=by
 intro y
 by_cases hy:tr T k y = []
 ·rw [hy]
  apply Classical.byContradiction
  intro hn
  have hyr:0<=y/\y < n:=Classical.byContradiction fun hh=>hn (tr_out hs' hk hh)
  have hsub:((pts n).filter fun y=>decide (tr T' k y ≠ [])) ⊆ (pts n).filter fun y=>decide (tr T k y ≠ []):=by
   refine Zey (List.Nodup.sublist List.filter_sublist (Zdi n)) (fun z hz=>?_) hc
   rw [List.mem_filter] at hz ⊢
   have hz2:tr T k z ≠ []:=by simpa using hz.2
   exact ⟨hz.1,by rw [h k z hz2];simpa using hz2⟩
  have:=hsub (List.mem_filter.2 ⟨mem_pts.2 hyr,by simpa using hn⟩)
  rw [List.mem_filter] at this
  exact (by simpa using this.2:tr T k y ≠ []) hy
 ·exact h k y hy
theorem Zta {n:Nat} {G G':Gens} {T T':Rows} (hs:Shape n G T) (hs':Shape n G' T') (h:Ext T T'):∀ m,m<=n->sumM n T' m<=sumM n T m->∀ j y,n - m<=j->j < n->tr T' j y = tr T j y:=by
 intro m
 induction m with
 | zero=>intro _ _ j y h1 h2;omega
 | succ m ih=>
  intro hm hc j y h1 h2
  simp only [sumM] at hc
  have c1:=Znq (n:=n) (k:=n - (m + 1)) h
  have c2:=Zmx (n:=n) h m
  by_cases hj:j = n - (m + 1)
  ·subst hj;exact Zsq hs hs' h2 h (by omega) y
  ·exact ih (by omega) (by omega) j y (by omega) h2
theorem Zsz {T T':Rows} {n m:Nat} (hm:m<=n) (h:∀ j y,n - m<=j->j < n->tr T' j y = tr T j y):∀ p,has T n m p = has T' n m p:=by
 induction m with
 | zero=>intro p;rfl
 | succ m ih=>
  intro p
  simp only [has]
  rw [h _ _ (Nat.le_refl _) (by omega),ih (by omega) (fun j y h1 h2=>h j y (by omega) h2)]
theorem sumM_lt {n k:Nat} {G G':Gens} {T T':Rows} {p:List Int} (hs:Shape n G T) (hs':Shape n G' T') (h:Ext T T') (h0:has T n (n - k) p = false) (h1:has T' n (n - k) p = true):sumM n T (n - k) < sumM n T' (n - k):=by
 apply Classical.byContradiction
 intro hc
 have:=Zsz (Nat.sub_le n k) (Zta hs hs' h (n - k) (Nat.sub_le n k) (by omega)) p
 rw [h0,h1] at this;cases this
def Ln (n k:Nat) (G:Gens) (T:Rows):Prop:=∀ j,k<=j->j < n->(lv G j).length<=sumM n T (n - j)
theorem Ln.le {n k:Nat} {G:Gens} {T:Rows} (h:Ln n k G T) {j:Nat} (hj:k<=j) (hjn:j < n) (hn:n<=20):(lv G j).length<=400:=by
 have h1:=h j hj hjn
 have h2:=sumM_le n T (n - j)
 have h3:(n - j) * n<=20 * 20:=Nat.mul_le_mul (by omega) hn
 omega
theorem Ln.mono {n k k':Nat} {G:Gens} {T:Rows} (h:Ln n k G T) (hk:k<=k'):Ln n k' G T:=fun j h1 h2=>h j (by omega) h2
theorem Ln.ext {n k:Nat} {G G':Gens} {T T':Rows} (h:Ln n k G T) (hG:∀ j,k<=j->lv G' j = lv G j) (hT:Ext T T'):Ln n k G' T':=fun j h1 h2=>by
 rw [hG j h1];exact Nat.le_trans (h j h1 h2) (Zmx hT _)
theorem Ln.more {n k:Nat} {G G':Gens} {T T':Rows} {p:List Int} (hs:Shape n G T) (hs':Shape n G' T') (h:Ln n k G T) (h':Ln n (k + 1) G' T') (he:Ext T T') (h0:has T n (n - k) p = false) (h1:has T' n (n - k) p = true)
  (hl:(lv G' k).length = (lv G k).length + 1):Ln n k G' T':=fun j hj hjn=>by
 by_cases e:j = k
 ·subst e
  have:=sumM_lt hs hs' he h0 h1
  have:=h j (Nat.le_refl _) hjn
  omega
 ·exact h' j (by omega) hjn
theorem Ln.zero (n:Nat):Ln n 0 (G0 n) (T0 n):=fun j _ _=>by rw [lv_G0];simp
end PM

namespace PM
def mems (T:Rows) (n:Nat):Nat->List (List Int)
 | 0=>[pts n]
 | m + 1=>((pts n).filter fun y=>decide (tr T (n - (m + 1)) y ≠ [])).flatMap fun y=>(mems T n m).map fun q=>comp q (tr T (n - (m + 1)) y)
def ordM (T:Rows) (n:Nat):Nat->Nat
 | 0=>1
 | m + 1=>cntR n T (n - (m + 1)) * ordM T n m
theorem Zjj (T:Rows) (n:Nat):∀ m,(mems T n m).length = ordM T n m
 | 0=>rfl
 | m + 1=>by
  unfold mems ordM
  rw [List.length_flatMap]
  simp only [List.length_map]
  rw [List.map_const',List.sum_replicate_nat,Zjj T n m];rfl
theorem mems_at {n:Nat} {T:Rows} (hw:WF n T) {k:Nat} (hk:k < n) {q:List Int} (q1:PN n q) (q2:Fix (k + 1) q) {y:Int} (hy:tr T k y ≠ []):at_ (comp q (tr T k y)) (k:Int) = y:=by
 rw [at_comp (by omega) (by rw [q1.1];omega),q2 _ (by omega) (by omega)]
 exact hw.at_ _ _ hk hy
theorem mems_iff {n:Nat} {T:Rows} (hw:WF n T):∀ (m:Nat),m<=n->∀ p,p∈mems T n m ↔ Sk T n (n - m) p
 | 0,_,p=>by
  unfold mems Sk
  simp only [List.mem_singleton]
  constructor
  ·rintro rfl;exact ⟨PN.id n,Fix.id n _ (by omega),by simp [has]⟩
  ·rintro ⟨a,b,-⟩;exact Fix.all a (by simpa using b)
 | m + 1,hm,p=>by
  have ih:=mems_iff hw m (by omega)
  have hk:n - (m + 1) < n:=by omega
  have e1:n - (m + 1) + 1 = n - m:=by omega
  unfold mems
  rw [List.mem_flatMap]
  constructor
  ·rintro ⟨y,hy,hp⟩
   obtain ⟨q,hq,rfl⟩:=List.mem_map.1 hp
   rw [List.mem_filter,decide_eq_true_iff] at hy
   obtain ⟨hy1,hy2⟩:=hy
   obtain ⟨q1,q2,q3⟩:=(ih q).1 hq
   have ht:=hw.pn _ _ hk hy2
   have hat:=mems_at hw hk q1 (by rw [e1];exact q2) hy2
   refine ⟨q1.comp ht,Fix.comp q1 (by omega) (q2.mono (by omega)) (hw.fix _ _ hk hy2),?_⟩
   rw [<- Ok.has hk]
   refine ⟨by rw [hat];exact hy2,?_⟩
   have:res T (n - (m + 1)) (comp q (tr T (n - (m + 1)) y)) = q:=by
    unfold res;rw [hat,Zav q1 ht,Zem ht,comp_id q1]
   rw [this,e1];exact q3
  ·rintro ⟨a,b,c⟩
   rw [<- Ok.has hk] at c
   obtain ⟨c1,c2⟩:=c
   have hr:=Fix.res hw hk a b c1
   rw [e1] at c2 hr
   refine ⟨at_ p ((n - (m + 1):Nat):Int),?_,List.mem_map.2 ⟨res T (n - (m + 1)) p,(ih _).2 ⟨hr.1,hr.2,c2⟩,res_mul hw hk a c1⟩⟩
   rw [List.mem_filter,decide_eq_true_iff,mem_pts]
   exact ⟨a.rng (by omega) (by omega),c1⟩
theorem Zky {n:Nat} {T:Rows} (hw:WF n T):∀ (m:Nat),m<=n->(mems T n m).Nodup
 | 0,_=>by simp [mems]
 | m + 1,hm=>by
  have ih:=Zky hw m (by omega)
  have hi:=mems_iff hw m (by omega)
  have hk:n - (m + 1) < n:=by omega
  have e1:n - (m + 1) + 1 = n - m:=by omega
  unfold mems List.Nodup
  rw [List.pairwise_flatMap]
  constructor
  ·intro y hy
   rw [List.pairwise_map]
   rw [List.mem_filter,decide_eq_true_iff] at hy
   exact List.Pairwise.imp_of_mem (fun ha hb hab e=>hab (Zfe ((hi _).1 ha).1 ((hi _).1 hb).1 (hw.pn _ _ hk hy.2) e)) ih
  ·refine List.Pairwise.imp_of_mem ?_ (List.Pairwise.filter _ (Zdi n))
   intro y y' hy hy' hne p hp p' hp' e
   rw [List.mem_filter,decide_eq_true_iff] at hy hy'
   obtain ⟨q,hq,rfl⟩:=List.mem_map.1 hp
   obtain ⟨q',hq',rfl⟩:=List.mem_map.1 hp'
   obtain ⟨a1,a2,-⟩:=(hi q).1 hq
   obtain ⟨b1,b2,-⟩:=(hi q').1 hq'
   have h1:=mems_at hw hk a1 (by rw [e1];exact a2) hy.2
   have h2:=mems_at hw hk b1 (by rw [e1];exact b2) hy'.2
   rw [e] at h1
   exact hne (h1.symm.trans h2)
section
variable {n:Nat} {gens:List (List Int)} {G:Gens} {T:Rows} (h:Chain n gens G T) (hn:0 < n) (hp:∀ g∈gens,PN n g)
include h hn hp
theorem Chain.mems_iff {p:List Int}:p∈mems T n n ↔ Grp n gens p:=by
 rw [PM.mems_iff h.inv.wf n (Nat.le_refl _) p]
 constructor
 ·rintro ⟨a,-,c⟩
  exact (h.has_iff hn hp a).1 (by simpa using c)
 ·intro hg
  have a:=Grp.pn hp hg
  exact ⟨a,fun x h0 hx=>by omega,by simpa using (h.has_iff hn hp a).2 hg⟩
theorem Chain.order_le {L:List (List Int)} (hL:L.Nodup) (hm:∀ p∈L,Grp n gens p):L.length<=ordM T n n:=by
 rw [<- Zjj]
 exact Zah hL fun p hx=>(h.mems_iff hn hp).2 (hm p hx)
theorem Chain.order_ge {L:List (List Int)} (hm:∀ p,Grp n gens p->p∈L):ordM T n n<=L.length:=by
 rw [<- Zjj]
 exact Zah (Zky h.inv.wf n (Nat.le_refl _)) fun p hx=>hm p ((h.mems_iff hn hp).1 hx)
end
theorem Ztn {n k:Nat} {T:Rows} (hw:WF n T) (hk:k < n):cntR n T k<=n - k:=by
 have h1:((List.range (n - k)).map fun i:Nat=>((i + k:Nat):Int)).length = n - k:=by simp
 unfold cntR
 rw [<- h1]
 refine Zah (List.Pairwise.filter _ (Zdi n)) fun y hy=>?_
 rw [List.mem_filter,decide_eq_true_iff,mem_pts] at hy
 obtain ⟨⟨h0,h1⟩,h2⟩:=hy
 have hky:(k:Int)<=y:=by
  rcases Int.lt_or_le y k with hlt | hle
  ·exfalso
   have a:=hw.fix k y hk h2 y h0 hlt
   have b:=hw.at_ k y hk h2
   have:=(hw.pn k y hk h2).inj h0 h1 (by omega) (by omega) (a.trans b.symm)
   omega
  ·exact hle
 rw [List.mem_map]
 exact ⟨(y - k).toNat,by simp;omega,by omega⟩
theorem Zql {n k:Nat} {T:Rows} (hw:WF n T) (hk:k < n):1<=cntR n T k:=by
 unfold cntR
 refine List.length_pos_of_mem (a:=(k:Int)) ?_
 rw [List.mem_filter,decide_eq_true_iff,mem_pts]
 exact ⟨by omega,by rw [hw.one k hk];exact pts_ne (by omega)⟩
def fac:Nat->Nat
 | 0=>1
 | m + 1=>(m + 1) * fac m
theorem Zju {n:Nat} {T:Rows} (hw:WF n T):∀ m,m<=n->1<=ordM T n m/\ordM T n m<=fac m
 | 0,_=>by simp [ordM,fac]
 | m + 1,hm=>by
  obtain ⟨a,b⟩:=Zju hw m (by omega)
  have h1:=Zql hw (k:=n - (m + 1)) (by omega)
  have h2:=Ztn hw (k:=n - (m + 1)) (by omega)
  unfold ordM fac
  exact ⟨Nat.mul_le_mul h1 a,Nat.mul_le_mul (by omega) b⟩
theorem Zph:∀ {a b:Nat},a<=b->fac a<=fac b
 | a,0,h=>by
  have:a = 0:=by omega
  subst this;exact Nat.le_refl _
 | a,b + 1,h=>by
  by_cases e:a = b + 1
  ·subst e;exact Nat.le_refl _
  ·have h1:=Zph (a:=a) (b:=b) (by omega)
   have h2:fac (b + 1) = (b + 1) * fac b:=rfl
   rw [h2]
   exact Nat.le_trans h1 (Nat.le_mul_of_pos_left _ (by omega))
theorem ordM_le {n:Nat} {T:Rows} (hw:WF n T) (hn:n<=20) {m:Nat} (hm:m<=n):ordM T n m<=2432902008176640000:=
 Nat.le_trans (Zju hw m hm).2 (Nat.le_trans (Zph (by omega:m<=20)) (by decide))
end PM
