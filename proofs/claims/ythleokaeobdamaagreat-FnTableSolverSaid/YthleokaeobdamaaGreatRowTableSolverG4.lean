/- Plain facts on the making of stabilizer chains. -/
import Derived.Test.YthleokaeobdamaaGreatRowTableSolverG3
import Derived.Test.YthleokaeobdamaaGreatRowTableSolverG1
import Derived.Deep.RegionHeld3
import Derived.Deep.DeepCutAuto
import Derived.Deep.RegionLaw
import Derived.WalkSpells
namespace PM
def setT (T:Rows) (k m:Nat) (p:List Int):Rows:=T.set k ((T.getD k []).set m p)
structure Shape (n:Nat) (G:Gens) (T:Rows):Prop where
 lt:T.length = n
 lr:∀ k,k < n->(T.getD k []).length = n
 lg:G.length = n
theorem tr_setT {T:Rows} {k m:Nat} (hk:k < T.length) (hm:m < (T.getD k []).length) (p:List Int) (j:Nat) (y:Int) :
  tr (setT T k m p) j y = if j = k/\y = (m:Int) then p else tr T j y:=by
 unfold tr setT
 by_cases hy:y < 0
 ·rw [if_pos hy,if_pos hy,if_neg (by omega)]
 ·rw [if_neg hy,if_neg hy]
  by_cases hj:j = k
  ·subst hj
   have e1:(T.set j ((T.getD j []).set m p)).getD j [] = (T.getD j []).set m p:=by
    rw [List.getD_eq_getElem?_getD,List.getElem?_set_self hk];rfl
   rw [e1]
   by_cases hm2:y = (m:Int)
   ·rw [if_pos ⟨rfl,hm2⟩]
    have:y.toNat = m:=by omega
    rw [this,List.getD_eq_getElem?_getD,List.getElem?_set_self hm];rfl
   ·rw [if_neg (by simp [hm2])]
    rw [List.getD_eq_getElem?_getD,List.getElem?_set_ne (by omega),<- List.getD_eq_getElem?_getD]
  ·rw [if_neg (by simp [hj])]
   have e1:(T.set k ((T.getD k []).set m p)).getD j [] = T.getD j []:=by
    rw [List.getD_eq_getElem?_getD,List.getElem?_set_ne (by omega),<- List.getD_eq_getElem?_getD]
   rw [e1]
theorem lv_set {G:Gens} {k:Nat} (hk:k < G.length) (L:List (List Int)) (j:Nat):lv (G.set k L) j = if j = k then L else lv G j:=by
 unfold lv
 by_cases hj:j = k
 ·subst hj
  rw [if_pos rfl,List.getD_eq_getElem?_getD,List.getElem?_set_self hk];rfl
 ·rw [if_neg hj,List.getD_eq_getElem?_getD,List.getElem?_set_ne (by omega),<- List.getD_eq_getElem?_getD]
theorem Shape.setT {n:Nat} {G:Gens} {T:Rows} (h:Shape n G T) (k m:Nat) (p:List Int):Shape n G (setT T k m p):=by
 refine ⟨by simp [PM.setT,h.lt],fun j hj=>?_,h.lg⟩
 unfold PM.setT
 by_cases hjk:j = k
 ·subst hjk
  rw [List.getD_eq_getElem?_getD,List.getElem?_set_self (by rw [h.lt];exact hj)]
  simp only [Option.getD_some,List.length_set];exact h.lr j hj
 ·rw [List.getD_eq_getElem?_getD,List.getElem?_set_ne (by omega),<- List.getD_eq_getElem?_getD];exact h.lr j hj
theorem Shape.setG {n:Nat} {G:Gens} {T:Rows} (h:Shape n G T) (k:Nat) (L:List (List Int)):Shape n (G.set k L) T:=⟨h.lt,h.lr,by simp [h.lg]⟩
structure Base (n:Nat) (G:Gens) (T:Rows):Prop where
 wf:WF n T
 gpn:∀ j g,j < n->g∈lv G j->PN n g
 gfix:∀ j g,j < n->g∈lv G j->Fix j g
 row:∀ j y,j < n->tr T j y ≠ []->Grp n (lv G j) (tr T j y)
 up:∀ j g,j + 1 < n->g∈lv G (j + 1)->Grp n (lv G j) g
def Cpl (n k:Nat) (G:Gens) (T:Rows):Prop:=∀ j y g,k<=j->j < n->tr T j y ≠ []->g∈lv G j->Ok T n j (comp (tr T j y) g)
theorem inv_iff {n k:Nat} {G:Gens} {T:Rows}:Inv n k G T ↔ Base n G T/\Cpl n k G T:=
 ⟨fun h=>⟨⟨h.wf,h.gpn,h.gfix,h.row,h.up⟩,h.cpl⟩,fun ⟨h,c⟩=>⟨h.wf,h.gpn,h.gfix,h.row,h.up,c⟩⟩
structure Grew (n k:Nat) (G:Gens) (T:Rows) (G':Gens) (T':Rows):Prop where
 ext:Ext T T'
 low:∀ j,j < k->lv G' j = lv G j
 lowT:∀ j y,j < k->tr T' j y = tr T j y
 sup:∀ j g,g∈lv G j->g∈lv G' j
theorem Grew.refl (n k:Nat) (G:Gens) (T:Rows):Grew n k G T G T:=⟨Ext.refl T,fun _ _=>rfl,fun _ _ _=>rfl,fun _ _ h=>h⟩
theorem Grew.trans {n k:Nat} {G G' G'':Gens} {T T' T'':Rows} (h:Grew n k G T G' T') (h':Grew n k G' T' G'' T''):Grew n k G T G'' T'':=
 ⟨h.ext.trans h'.ext,fun j hj=>(h'.low j hj).trans (h.low j hj),fun j y hj=>(h'.lowT j y hj).trans (h.lowT j y hj),fun j g hg=>h'.sup j g (h.sup j g hg)⟩
theorem Grew.mono {n k k':Nat} {G G':Gens} {T T':Rows} (h:Grew n k G T G' T') (hk:k'<=k):Grew n k' G T G' T':=
 ⟨h.ext,fun j hj=>h.low j (by omega),fun j y hj=>h.lowT j y (by omega),h.sup⟩
structure Added (n k:Nat) (p:List Int) (G:Gens) (T:Rows) (G':Gens) (T':Rows):Prop where
 inv:Inv n k G' T'
 grew:Grew n k G T G' T'
 has:has T' n (n - k) p = true
 gen:∀ g∈lv G' k,g∈lv G k\/g = p
theorem Added.same {n k:Nat} {p:List Int} {G:Gens} {T:Rows} (h:Inv n k G T) (hh:PM.has T n (n - k) p = true):Added n k p G T G T:=
 ⟨h,Grew.refl _ _ _ _,hh,fun _ hg=>.inl hg⟩
structure May (n k:Nat) (p:List Int) (G:Gens):Prop where
 pn:PN n p
 fix:Fix k p
 grp:∀ j,j + 1 = k->Grp n (lv G j) p
theorem Ok.of_above {T T':Rows} {n j:Nat} (hj:j < n) (h:∀ i y,j<=i->tr T' i y = tr T i y) {p:List Int} (ho:Ok T n j p):Ok T' n j p:=by
 obtain ⟨a,b⟩:=ho
 have e:=h j (at_ p (j:Int)) (Nat.le_refl _)
 refine ⟨by rw [e];exact a,?_⟩
 have:res T' j p = res T j p:=by simp only [res,e]
 rw [this,<- Zss (T:=T) (fun i y hi=>h i y (by omega))];exact b
theorem Zjw {n k:Nat} {p:List Int} {G:Gens} {T:Rows} (hs:Shape n G T) (hk:k < n) (hI:Inv n k G T) (hp:May n k p G) :
  Base n (G.set k (lv G k ++ [p])) T/\Cpl n (k + 1) (G.set k (lv G k ++ [p])) T/\Grew n k G T (G.set k (lv G k ++ [p])) T:=by
 have hl:=fun j=>lv_set (k:=k) (G:=G) (by rw [hs.lg];exact hk) (lv G k ++ [p]) j
 have hsup:∀ j g,g∈lv G j->g∈lv (G.set k (lv G k ++ [p])) j:=by
  intro j g hg
  rw [hl j];split
  ·rename_i e;subst e;simp [hg]
  ·exact hg
 have hmem:∀ j g,g∈lv (G.set k (lv G k ++ [p])) j->g∈lv G j\/(j = k/\g = p):=by
  intro j g hg
  rw [hl j] at hg
  split at hg
  ·rename_i e;subst e
   rcases List.mem_append.1 hg with h | h
   ·exact .inl h
   ·exact .inr ⟨rfl,by simpa using h⟩
  ·exact .inl hg
 have hgpn:∀ j g,j < n->g∈lv (G.set k (lv G k ++ [p])) j->PN n g:=fun j g hj hg=>by
  rcases hmem j g hg with h | ⟨rfl,rfl⟩
  ·exact hI.gpn j g hj h
  ·exact hp.pn
 refine ⟨⟨hI.wf,hgpn,fun j g hj hg=>?_,fun j y hj hn=>?_,fun j g hj hg=>?_⟩,fun j y g h1 h2 h3 h4=>?_,⟨Ext.refl T,fun j hj=>?_,fun _ _ _=>rfl,hsup⟩⟩
 ·rcases hmem j g hg with h | ⟨rfl,rfl⟩
  ·exact hI.gfix j g hj h
  ·exact hp.fix
 ·exact Grp.mono (fun g hg=>hgpn j g hj hg) (fun g hg=>Grp.gen (fun g hg=>hgpn j g hj hg) (hsup j g hg)) (hI.row j y hj hn)
 ·have hG:∀ g∈lv (G.set k (lv G k ++ [p])) j,PN n g:=fun g hg=>hgpn j g (by omega) hg
  have hm:∀ q,Grp n (lv G j) q->Grp n (lv (G.set k (lv G k ++ [p])) j) q:=fun q hq=>Grp.mono hG (fun g hg=>Grp.gen hG (hsup j g hg)) hq
  rcases hmem (j + 1) g hg with h | ⟨h,rfl⟩
  ·exact hm _ (hI.up j g hj h)
  ·exact hm _ (hp.grp j h)
 ·rcases hmem j g h4 with h | ⟨rfl,rfl⟩
  ·exact hI.cpl j y g (by omega) h2 h3 h
  ·omega
 ·rw [hl j,if_neg (by omega)]
theorem Zjo {n k:Nat} {G:Gens} {T:Rows} {q:List Int} {m:Nat} (hs:Shape n G T) (hk:k < n) (hB:Base n G T) (hC:Cpl n (k + 1) G T) (hq:PN n q) (hf:Fix k q) (hg:Grp n (lv G k) q)
  (hm:at_ q (k:Int) = (m:Int)) (hmn:m < n) (h0:tr T k (m:Int) = []) :
  Base n G (setT T k m q)/\Cpl n (k + 1) G (setT T k m q)/\Grew n k G T G (setT T k m q):=by
 have hl:=fun j y=>tr_setT (T:=T) (k:=k) (m:=m) (by rw [hs.lt];exact hk) (by rw [hs.lr k hk];exact hmn) q j y
 have hne:(m:Int) ≠ k:=by
  intro e
  rw [e,hB.wf.one k hk] at h0
  exact pts_ne (by omega) h0
 have hext:Ext T (setT T k m q):=by
  intro j y hn
  rw [hl j y];split
  ·rename_i e;obtain ⟨rfl,rfl⟩:=e;exact absurd h0 hn
  ·rfl
 have habove:∀ i y,k + 1<=i->tr (setT T k m q) i y = tr T i y:=fun i y hi=>by rw [hl i y,if_neg (by omega)]
 refine ⟨⟨⟨fun j y hj hn=>?_,fun j y hj hn=>?_,fun j y hj hn=>?_,fun j hj=>?_⟩,hB.gpn,hB.gfix,fun j y hj hn=>?_,hB.up⟩,fun j y g h1 h2 h3 h4=>?_,⟨hext,fun _ _=>rfl,fun j y hj=>?_,fun _ _ h=>h⟩⟩
 ·rw [hl j y] at hn ⊢;split at hn
  ·rename_i e;rw [if_pos e];exact hq
  ·rename_i e;rw [if_neg e];exact hB.wf.pn j y hj hn
 ·rw [hl j y] at hn ⊢;split at hn
  ·rename_i e;rw [if_pos e,e.1];exact hf
  ·rename_i e;rw [if_neg e];exact hB.wf.fix j y hj hn
 ·rw [hl j y] at hn ⊢;split at hn
  ·rename_i e;rw [if_pos e,e.1,e.2];exact hm
  ·rename_i e;rw [if_neg e];exact hB.wf.at_ j y hj hn
 ·rw [hl j j,if_neg (by rintro ⟨rfl,e⟩;exact hne e.symm)];exact hB.wf.one j hj
 ·rw [hl j y] at hn ⊢;split at hn
  ·rename_i e;rw [if_pos e,e.1];exact hg
  ·rename_i e;rw [if_neg e];exact hB.row j y hj hn
 ·rw [habove j y h1] at h3 ⊢
  exact Ok.of_above h2 (fun i y hi=>habove i y (by omega)) (hC j y g h1 h2 h3 h4)
 ·rw [hl j y,if_neg (by omega)]
theorem Zqo {n k:Nat} {G:Gens} {T:Rows} {q:List Int} (hk:k < n) (hB:Base n G T) (hq:PN n q) (hf:Fix k q) (hg:Grp n (lv G k) q) (hn:tr T k (at_ q (k:Int)) ≠ []) :
  May n (k + 1) (res T k q) G:=by
 obtain ⟨a,b⟩:=Fix.res hB.wf hk hq hf hn
 refine ⟨a,b,fun j hj=>?_⟩
 have:j = k:=by omega
 subst this
 have hG:∀ g∈lv G j,PN n g:=fun g hg=>hB.gpn j g hk hg
 exact Grp.comp hG hg (Grp.inv hG (hB.row j _ hk hn))
theorem row_mul {n k:Nat} {G:Gens} {T:Rows} {y:Int} {g:List Int} (hk:k < n) (hB:Base n G T) (hn:tr T k y ≠ []) (hg:g∈lv G k) :
  PN n (comp (tr T k y) g)/\Fix k (comp (tr T k y) g)/\Grp n (lv G k) (comp (tr T k y) g)/\at_ (comp (tr T k y) g) (k:Int) = at_ g y:=by
 have ht:=hB.wf.pn k y hk hn
 have hgp:=hB.gpn k g hk hg
 refine ⟨ht.comp hgp,Fix.comp ht (by omega) (hB.wf.fix k y hk hn) (hB.gfix k g hk hg),(hB.row k y hk hn).mul hg,?_⟩
 rw [at_comp (by omega) (by rw [ht.1];omega),hB.wf.at_ k y hk hn]
theorem row_rng {n k:Nat} {G:Gens} {T:Rows} {y:Int} (hk:k < n) (hB:Base n G T) (hn:tr T k y ≠ []):0<=y/\y < n:=by
 have ht:=hB.wf.pn k y hk hn
 have:=ht.rng (x:=(k:Int)) (by omega) (by omega)
 rwa [hB.wf.at_ k y hk hn] at this
theorem Added.up {n k:Nat} {q:List Int} {G G':Gens} {T T':Rows} (h:Added n (k + 1) (res T k q) G T G' T') (hn:tr T k (at_ q (k:Int)) ≠ []) :
  Base n G' T'/\Cpl n (k + 1) G' T'/\Grew n (k + 1) G T G' T'/\Ok T' n k q:=by
 obtain ⟨a,b⟩:=inv_iff.1 h.inv
 refine ⟨a,b,h.grew,?_⟩
 have e:=h.grew.ext k _ hn
 refine ⟨by rw [e];exact hn,?_⟩
 have:res T' k q = res T k q:=by simp only [res,e]
 rw [this];exact h.has
theorem Added.level {n k:Nat} {p:List Int} {G':Gens} {T':Rows} {G:Gens} {T0:Rows} (hk:k < n) (hB:Base n G' T') (hC:Cpl n (k + 1) G' T') (hg:Grew n k G T0 G' T')
  (hall:∀ y g,tr T' k y ≠ []->g∈lv G' k->Ok T' n k (comp (tr T' k y) g)) (hp:p∈lv G' k) (hgen:∀ g∈lv G' k,g∈lv G k\/g = p):Added n k p G T0 G' T':=by
 refine ⟨inv_iff.2 ⟨hB,fun j y g h1 h2 h3 h4=>?_⟩,hg,?_,hgen⟩
 ·by_cases hj:j = k
  ·subst hj;exact hall y g h3 h4
  ·exact hC j y g (by omega) h2 h3 h4
 ·have h1:=hB.wf.one k hk
  have h2:=hall k p (by rw [h1];exact pts_ne (by omega)) hp
  rw [h1,id_comp (hB.gpn k p hk hp)] at h2
  exact (Ok.has hk).1 h2
def row0 (n k:Nat):List (List Int):=(List.replicate n []).set k (pts n)
def T0 (n:Nat):Rows:=(List.range n).map (row0 n)
def G0 (n:Nat):Gens:=List.replicate n []
theorem T0_row {n k:Nat} (hk:k < n):(T0 n).getD k [] = row0 n k:=by
 rw [List.getD_eq_getElem?_getD];simp [T0,hk]
theorem tr_T0 {n k:Nat} (hk:k < n) (y:Int):tr (T0 n) k y = if y = k then pts n else []:=by
 unfold tr
 rw [T0_row hk]
 by_cases hy:y < 0
 ·rw [if_pos hy,if_neg (by omega)]
 ·rw [if_neg hy]
  unfold row0
  by_cases e:y = k
  ·rw [if_pos e]
   have:y.toNat = k:=by omega
   rw [this,List.getD_eq_getElem?_getD,List.getElem?_set_self (by simp [hk])];rfl
  ·rw [if_neg e,List.getD_eq_getElem?_getD,List.getElem?_set_ne (by omega)]
   rw [List.getElem?_replicate];split <;> rfl
theorem lv_G0 (n k:Nat):lv (G0 n) k = []:=by
 unfold lv G0
 rw [List.getD_eq_getElem?_getD,List.getElem?_replicate];split <;> rfl
theorem Shape.zero (n:Nat):Shape n (G0 n) (T0 n):=⟨by simp [T0],fun k hk=>by rw [T0_row hk];simp [row0],by simp [G0]⟩
theorem Inv.zero (n:Nat):Inv n 0 (G0 n) (T0 n):=by
 have hy:∀ k y,k < n->tr (T0 n) k y ≠ []->y = k/\tr (T0 n) k y = pts n:=by
  intro k y hk h
  rw [tr_T0 hk y] at h ⊢
  split at h
  ·rename_i e;exact ⟨e,if_pos e⟩
  ·exact absurd rfl h
 refine ⟨⟨fun k y hk h=>?_,fun k y hk h=>?_,fun k y hk h=>?_,fun k hk=>?_⟩,fun j g hj hg=>?_,fun j g hj hg=>?_,fun j y hj h=>?_,fun j g hj hg=>?_,fun j y g _ hj h hg=>?_⟩
 ·rw [(hy k y hk h).2];exact PN.id n
 ·rw [(hy k y hk h).2];exact Fix.id n k (by omega)
 ·obtain ⟨rfl,e⟩:=hy k y hk h
  rw [e];exact at_pts (by omega) (by omega)
 ·rw [tr_T0 hk,if_pos rfl]
 ·rw [lv_G0] at hg;cases hg
 ·rw [lv_G0] at hg;cases hg
 ·rw [(hy j y hj h).2];exact .id
 ·rw [lv_G0] at hg;cases hg
 ·rw [lv_G0] at hg;cases hg
structure Chain (n:Nat) (gens:List (List Int)) (G:Gens) (T:Rows):Prop where
 shape:Shape n G T
 inv:Inv n 0 G T
 sub:∀ g∈lv G 0,g∈gens
 all:∀ g∈gens,has T n n g = true
theorem Chain.zero (n:Nat):Chain n [] (G0 n) (T0 n):=⟨Shape.zero n,Inv.zero n,fun g hg=>(by rw [lv_G0] at hg;cases hg),fun g hg=>(by cases hg)⟩
theorem Chain.step {n:Nat} {gens:List (List Int)} {G G':Gens} {T T':Rows} (h:Chain n gens G T) {p:List Int} (hs:Shape n G' T') (ha:Added n 0 p G T G' T'):Chain n (gens ++ [p]) G' T':=by
 refine ⟨hs,ha.inv,fun g hg=>?_,fun g hg=>?_⟩
 ·rcases ha.gen g hg with h1 | rfl
  ·exact List.mem_append_left _ (h.sub g h1)
  ·simp
 ·rcases List.mem_append.1 hg with h1 | h1
  ·exact Zpr ha.grew.ext n n g (h.all g h1)
  ·have:g = p:=by simpa using h1
   subst this;exact ha.has
theorem May.zero {n:Nat} {p:List Int} (G:Gens) (h:PN n p):May n 0 p G:=⟨h,fun x h0 hx=>by omega,fun j hj=>by omega⟩
section
variable {n:Nat} {gens:List (List Int)} {G:Gens} {T:Rows} (h:Chain n gens G T) (hn:0 < n) (hp:∀ g∈gens,PN n g)
include h hn hp
theorem Chain.grp (p:List Int):Grp n (lv G 0) p ↔ Grp n gens p:=by
 have hG:∀ g∈lv G 0,PN n g:=fun g hg=>h.inv.gpn 0 g hn hg
 constructor
 ·exact Grp.mono hp fun g hg=>Grp.gen hp (h.sub g hg)
 ·refine Grp.mono hG fun g hg=>?_
  exact (Zna n 0 rfl hn h.inv g).1 ⟨hp g hg,fun x h0 hx=>by omega,by simpa using h.all g hg⟩
theorem Chain.has_iff {p:List Int} (hpn:PN n p):has T n n p = true ↔ Grp n gens p:=by
 rw [<- h.grp hn hp,<- Zna n 0 rfl hn h.inv p]
 constructor
 ·intro hh;exact ⟨hpn,fun x h0 hx=>by omega,by simpa using hh⟩
 ·rintro ⟨_,_,hh⟩;simpa using hh
end
end PM

namespace Go.Proofs.YthleokaeobdamaaGreat
open Go.RowKit
set_option maxRecDepth 10000
structure Lay where
 g:Nat
 bg:Nat
 bt:Nat
 cG:Nat
 cT:Nat
 oG:Nat
 oT:Nat
 rb:Nat->Nat
structure Ch (e:TypeId) (B:Nat) (w:World) (L:Lay) (gv:Nat->Value) (n:Nat) (G:PM.Gens) (T:PM.Rows) (M F:List Nat):Prop where
 shape:PM.Shape n G T
 pos:0 < n
 le:n<=20
 cn:w.cell? ⟨L.g,0,none⟩ = some (.int .i64 n)
 cg:w.cell? ⟨L.g,L.oG,none⟩ = some (.slice (some ⟨L.bg,0,none⟩) n L.cG)
 ct:w.cell? ⟨L.g,L.oT,none⟩ = some (.slice (some ⟨L.bt,0,none⟩) n L.cT)
 row:∀ k,k < n->w.cell? ⟨L.bt,k,none⟩ = some (.slice (some ⟨L.rb k,0,none⟩) n n)
 gen:∀ k,k < n->w.cell? ⟨L.bg,k,none⟩ = some (gv k)
 elt:∀ k m:Nat,k < n->m < n->∃ v f,w.cell? ⟨L.rb k,m,none⟩ = some v/\Rd w v (PM.tr T k m) f/\(PM.tr T k m = []->v = .slice none 0 0)/\∀ b∈f,b∈F
 acc:∀ k,k < n->∃ fs,Acc B e w (gv k) (PM.lv G k) fs/\∀ b∈fs.flatten,b∈F
 mg:L.bg∈M
 mr:∀ k,k < n->L.rb k∈M
 ma:∀ k b,k < n->(gv k).ownBlock = some b->b∈M
 gF:L.g∈F
 btF:L.bt∈F
 mf:∀ b∈M,b ∉ F
 own:Own w (L.bg :: (List.range n).map L.rb)
 lM:∀ b∈M,b < w.heap.size
 lF:∀ b∈F,b < w.heap.size
 ge:∀ b∈M,B<=b
 rr:∀ j k,j < n->k < n->L.rb j = L.rb k->j = k
 rg:∀ k,k < n->L.rb k ≠ L.bg
 ag:∀ k b,k < n->(gv k).ownBlock = some b->b ≠ L.bg/\∀ j,j < n->b ≠ L.rb j
 aa:∀ j k b,j < n->k < n->(gv j).ownBlock = some b->(gv k).ownBlock = some b->j = k
section
variable {e:TypeId} {B:Nat} {w w':World} {L:Lay} {gv:Nat->Value} {n:Nat} {G:PM.Gens} {T:PM.Rows} {M F:List Nat}
theorem Ch.core (h:Ch e B w L gv n G T M F):∀ b∈L.bg :: (List.range n).map L.rb,b∈M:=by
 intro b hb
 rcases List.mem_cons.1 hb with rfl | hb
 ·exact h.mg
 ·obtain ⟨k,hk,rfl⟩:=List.mem_map.1 hb
  exact h.mr k (List.mem_range.1 hk)
theorem Ch.only (h:Ch e B w L gv n G T M F) {fp:List Nat} (ho:Only fp w w') (hM:∀ b∈fp,b ∉ M) (hF:∀ b∈fp,b ∉ F):Ch e B w' L gv n G T M F:=by
 have gM:∀ b∈M,b ∉ fp:=fun b hb hm=>hM b hm hb
 have gF:∀ b∈F,b ∉ fp:=fun b hb hm=>hF b hm hb
 refine ⟨h.shape,h.pos,h.le,ho.cell (gF _ h.gF) h.cn,ho.cell (gF _ h.gF) h.cg,ho.cell (gF _ h.gF) h.ct,fun k hk=>ho.cell (gF _ h.btF) (h.row k hk),fun k hk=>ho.cell (gM _ h.mg) (h.gen k hk),?_,?_,h.mg,h.mr,h.ma,h.gF,h.btF,h.mf,h.own.only ho (fun b hb=>gM b (h.core b hb)),fun b hb=>Nat.lt_of_lt_of_le (h.lM b hb) ho.size,fun b hb=>Nat.lt_of_lt_of_le (h.lF b hb) ho.size,h.ge,h.rr,h.rg,h.ag,h.aa⟩
 ·intro k m hk hm
  obtain ⟨v,f,a,b,c,d⟩:=h.elt k m hk hm
  exact ⟨v,f,ho.cell (gM _ (h.mr k hk)) a,Rp.only b ho fun x hx=>gF x (d x hx),c,d⟩
 ·intro k hk
  obtain ⟨fs,a,b⟩:=h.acc k hk
  exact ⟨fs,a.only ho (fun x hx=>gF x (b x hx)) (fun x hx=>gM x (h.ma k x hk hx)),b⟩
theorem Ch.keep (h:Ch e B w L gv n G T M F) (ho:Only [] w w'):Ch e B w' L gv n G T M F:=h.only ho (by simp) (by simp)
theorem Ch.frow (h:Ch e B w L gv n G T M F) {k:Nat} (hk:k < n) (i:Nat):w.frozen? ⟨L.rb k,i,none⟩ = false:=h.own.frozen (List.mem_cons_of_mem _ (List.mem_map.2 ⟨k,List.mem_range.2 hk,rfl⟩))
theorem Ch.at (h:Ch e B w L gv n G T M F) {k:Nat} (hk:k < n) {y:Int} (h0:0<=y) (hy:y < n) :
  ∃ v f,w.cell? ⟨L.rb k,y.toNat,none⟩ = some v/\Rd w v (PM.tr T k y) f/\(PM.tr T k y = []->v = .slice none 0 0)/\∀ b∈f,b∈F:=by
 have:=h.elt k y.toNat hk (by omega)
 rwa [show ((y.toNat:Nat):Int) = y by omega] at this
theorem Ch.at_nil (h:Ch e B w L gv n G T M F) {k:Nat} (hk:k < n) {y:Int} (h0:0<=y) (hy:y < n) (ht:PM.tr T k y = []):w.cell? ⟨L.rb k,y.toNat,none⟩ = some (.slice none 0 0):=by
 obtain ⟨v,f,a,b,c,d⟩:=h.at hk h0 hy
 rw [a,c ht]
theorem Ch.at_some (h:Ch e B w L gv n G T M F) {k:Nat} (hk:k < n) {y:Int} (h0:0<=y) (hy:y < n) (ht:PM.tr T k y ≠ []) :
  ∃ b off cap f,w.cell? ⟨L.rb k,y.toNat,none⟩ = some (.slice (some ⟨b,off,none⟩) (PM.tr T k y).length cap)/\Rd w (.slice (some ⟨b,off,none⟩) (PM.tr T k y).length cap) (PM.tr T k y) f/\∀ b∈f,b∈F:=by
 obtain ⟨v,f,a,b,c,d⟩:=h.at hk h0 hy
 obtain ⟨ad,cap,rfl,hI⟩:=b.ints
 have hl:0 < (PM.tr T k y).length:=List.length_pos_iff.2 ht
 obtain ⟨b',off,rfl,-,-⟩:=hI.at_ 0 hl
 exact ⟨b',off,cap,f,a,b,d⟩
theorem Zaf (w:World) (b i:Nat) (v:Value):Only [b] w (w.setCell ⟨b,i,none⟩ v):=(Only.refl [b] w).setCell (by simp) v
theorem Ch.setRow (h:Ch e B w L gv n G T M F) {k m:Nat} (hk:k < n) (hm:m < n) {v:Value} {p:List Int} {f:List Nat} (hv:Rd w v p f) (hp:p ≠ []) (hf:∀ b∈f,b ∉ M) :
  Ch e B (w.setCell ⟨L.rb k,m,none⟩ v) L gv n G (PM.setT T k m p) M (F ++ f):=by
 have ho:=Zaf w (L.rb k) m v
 have hrM:=h.mr k hk
 have gF:∀ b∈F,b ∉ [L.rb k]:=fun b hb hm=>by
  have e:b = L.rb k:=by simpa using hm
  subst e;exact h.mf _ hrM hb
 have gf:∀ b∈f,b ∉ [L.rb k]:=fun b hb hm=>by
  have e:b = L.rb k:=by simpa using hm
  subst e;exact hf _ hb hrM
 have hl:=fun j y=>PM.tr_setT (T:=T) (k:=k) (m:=m) (by rw [h.shape.lt];exact hk) (by rw [h.shape.lr k hk];exact hm) p j y
 refine ⟨h.shape.setT k m p,h.pos,h.le,ho.cell (gF _ h.gF) h.cn,ho.cell (gF _ h.gF) h.cg,ho.cell (gF _ h.gF) h.ct,fun j hj=>ho.cell (gF _ h.btF) (h.row j hj),fun j hj=>ho.cell (by simpa using (h.rg k hk).symm) (h.gen j hj),?_,?_,h.mg,h.mr,h.ma,List.mem_append_left _ h.gF,List.mem_append_left _ h.btF,?_,h.own.setCell _ _,fun b hb=>Nat.lt_of_lt_of_le (h.lM b hb) ho.size,?_,h.ge,h.rr,h.rg,h.ag,h.aa⟩
 ·intro j i hj hi
  rw [hl j i]
  obtain ⟨u,fu,a,b,c,d⟩:=h.elt j i hj hi
  by_cases hji:j = k/\(i:Int) = (m:Int)
  ·obtain ⟨rfl,e2⟩:=hji
   have e2':i = m:=by omega
   subst e2'
   rw [if_pos ⟨rfl,rfl⟩]
   exact ⟨v,f,World.cell?_setCell_same _ _ _ a,Rp.only hv ho gf,fun e=>absurd e hp,fun b hb=>List.mem_append_right _ hb⟩
  ·rw [if_neg hji]
   refine ⟨u,fu,?_,Rp.only b ho fun x hx=>gF x (d x hx),c,fun b hb=>List.mem_append_left _ (d b hb)⟩
   by_cases hjk:j = k
   ·subst hjk
    have:i ≠ m:=fun e=>hji ⟨rfl,by omega⟩
    rw [World.cell?_setCell_other _ _ _ _ (by intro e;injection e with _ e2 _;exact this e2.symm)];exact a
   ·rw [World.cell?_setCell_other _ _ _ _ (by
     intro e;injection e with e1 _ _;exact hjk (h.rr _ _ hj hk e1.symm))];exact a
 ·intro j hj
  obtain ⟨fs,a,b⟩:=h.acc j hj
  refine ⟨fs,a.only ho (fun x hx=>gF x (b x hx)) (fun x hx hm=>?_),fun x hx=>List.mem_append_left _ (b x hx)⟩
  have e:x = L.rb k:=by simpa using hm
  exact (h.ag j x hj hx).2 k hk e
 ·intro b hb hm
  rcases List.mem_append.1 hm with hm | hm
  ·exact h.mf b hb hm
  ·exact hf b hm hb
 ·intro b hb
  rcases List.mem_append.1 hb with hb | hb
  ·exact Nat.lt_of_lt_of_le (h.lF b hb) ho.size
  ·exact Nat.lt_of_lt_of_le (Rp.lt hv b hb) ho.size
def upd (gv:Nat->Value) (k:Nat) (v:Value):Nat->Value:=fun j=>if j = k then v else gv j
theorem Zcx (gv:Nat->Value) (k:Nat) (v:Value):upd gv k v k = v:=if_pos rfl
theorem Zcc (gv:Nat->Value) {j k:Nat} (v:Value) (h:j ≠ k):upd gv k v j = gv j:=if_neg h
theorem Ch.setGen (h:Ch e B w L gv n G T M F) {k:Nat} (hk:k < n) {w1:World} (ho:Only (gv k).ownBlock.toList w w1) {v':Value} {p:List Int} {fs:List (List Nat)}
  (hA:Acc B e w1 v' (PM.lv G k ++ [p]) fs) {f:List Nat} (hfs:∀ b∈fs.flatten,b∈F\/b∈f) (hf:∀ b∈f,b ∉ M/\b < w.heap.size) (hv:v'.ownBlock = (gv k).ownBlock\/v'.ownBlock = some w.heap.size) :
  Ch e B (w1.setCell ⟨L.bg,k,none⟩ v') L (upd gv k v') n (G.set k (PM.lv G k ++ [p])) T (v'.ownBlock.toList ++ M) (F ++ f):=by
 have ho2:=Zaf w1 L.bg k v'
 have hobM:∀ b∈(gv k).ownBlock.toList,b∈M:=fun b hb=>h.ma k b hk (by simpa using hb)
 have gF1:∀ b∈F,b ∉ (gv k).ownBlock.toList:=fun b hb hm=>h.mf b (hobM b hm) hb
 have gF2:∀ b∈F,b ∉ [L.bg]:=fun b hb hm=>by
  have e:b = L.bg:=by simpa using hm
  subst e;exact h.mf _ h.mg hb
 have hsz:w.heap.size<=w1.heap.size:=ho.size
 have hl:=fun j=>PM.lv_set (G:=G) (k:=k) (by rw [h.shape.lg];exact hk) (PM.lv G k ++ [p]) j
 have hvM:∀ b,v'.ownBlock = some b->b∈M/\(gv k).ownBlock = some b\/b = w.heap.size:=by
  intro b hb
  rcases hv with e | e
  ·rw [e] at hb;exact .inl ⟨h.ma k b hk hb,hb⟩
  ·rw [e] at hb;injection hb with hb;exact .inr hb.symm
 have hvne:∀ b,v'.ownBlock = some b->b ≠ L.bg/\∀ j,j < n->b ≠ L.rb j:=by
  intro b hb
  rcases hvM b hb with ⟨-,e⟩ | e
  ·exact h.ag k b hk e
  ·subst e
   refine ⟨fun e=>?_,fun j hj e=>?_⟩
   ·have:=h.lM _ h.mg;omega
   ·have:=h.lM _ (h.mr j hj);omega
 have hvo:∀ j b,j < n->j ≠ k->v'.ownBlock = some b->(gv j).ownBlock ≠ some b:=by
  intro j b hj hjk hb he
  rcases hvM b hb with ⟨-,e⟩ | e
  ·exact hjk (h.aa j k b hj hk he e)
  ·subst e;have:=h.lM _ (h.ma j _ hj he);omega
 have hel:∀ b,b∈M->b ∉ (gv k).ownBlock.toList->w1.heap[b]? = w.heap[b]?:=fun b hb hn=>ho.block b (h.lM b hb) hn
 have hbgk:L.bg ∉ (gv k).ownBlock.toList:=fun hm=>(h.ag k L.bg hk (by simpa using hm)).1 rfl
 have hrbk:∀ j,j < n->L.rb j ∉ (gv k).ownBlock.toList:=fun j hj hm=>(h.ag k _ hk (by simpa using hm)).2 j hj rfl
 refine ⟨h.shape.setG k _,h.pos,h.le,ho2.cell (gF2 _ h.gF) (ho.cell (gF1 _ h.gF) h.cn),ho2.cell (gF2 _ h.gF) (ho.cell (gF1 _ h.gF) h.cg),ho2.cell (gF2 _ h.gF) (ho.cell (gF1 _ h.gF) h.ct),
  fun j hj=>ho2.cell (gF2 _ h.btF) (ho.cell (gF1 _ h.btF) (h.row j hj)),?_,?_,?_,List.mem_append_right _ h.mg,fun j hj=>List.mem_append_right _ (h.mr j hj),?_,List.mem_append_left _ h.gF,List.mem_append_left _ h.btF,?_,?_,?_,?_,?_,h.rr,h.rg,?_,?_⟩
 ·intro j hj
  have hc:=ho.cell (p:=⟨L.bg,j,none⟩) hbgk (h.gen j hj)
  by_cases hjk:j = k
  ·subst hjk
   rw [Zcx];exact World.cell?_setCell_same _ _ _ hc
  ·rw [Zcc _ _ hjk,World.cell?_setCell_other _ _ _ _ (by intro e;injection e with _ e2 _;exact hjk e2.symm)];exact hc
 ·intro j i hj hi
  obtain ⟨u,fu,a,b,c,d⟩:=h.elt j i hj hi
  refine ⟨u,fu,ho2.cell (by simpa using h.rg j hj) (ho.cell (hrbk j hj) a),Rp.only (Rp.only b ho fun x hx=>gF1 x (d x hx)) ho2 fun x hx=>gF2 x (d x hx),c,fun x hx=>List.mem_append_left _ (d x hx)⟩
 ·intro j hj
  rw [hl j]
  by_cases hjk:j = k
  ·subst hjk
   rw [Zcx,if_pos rfl]
   refine ⟨fs,hA.only ho2 (fun x hx hm=>?_) (fun x hx hm=>?_),fun x hx=>?_⟩
   ·have e:x = L.bg:=by simpa using hm
    subst e
    rcases hfs _ hx with h1 | h1
    ·exact h.mf _ h.mg h1
    ·exact (hf _ h1).1 h.mg
   ·exact (hvne x hx).1 (by simpa using hm)
   ·rcases hfs x hx with h1 | h1
    ·exact List.mem_append_left _ h1
    ·exact List.mem_append_right _ h1
  ·rw [Zcc _ _ hjk,if_neg hjk]
   obtain ⟨fs',a,b⟩:=h.acc j hj
   refine ⟨fs',(a.only ho (fun x hx=>gF1 x (b x hx)) (fun x hx hm=>?_)).only ho2 (fun x hx=>gF2 x (b x hx)) (fun x hx hm=>?_),fun x hx=>List.mem_append_left _ (b x hx)⟩
   ·exact hjk (h.aa j k x hj hk hx (by simpa using hm))
   ·exact (h.ag j x hj hx).1 (by simpa using hm)
 ·intro j b hj hb
  by_cases hjk:j = k
  ·subst hjk
   rw [Zcx] at hb;exact List.mem_append_left _ (by simp [hb])
  ·rw [Zcc _ _ hjk] at hb;exact List.mem_append_right _ (h.ma j b hj hb)
 ·intro b hb hm
  have hbF:b∈F->False:=fun hF=>by
   rcases List.mem_append.1 hb with hb | hb
   ·rcases hvM b (by simpa using hb) with ⟨e,-⟩ | e
    ·exact h.mf b e hF
    ·have:=h.lF b hF;omega
   ·exact h.mf b hb hF
  rcases List.mem_append.1 hm with hm | hm
  ·exact hbF hm
  ·obtain ⟨h1,h2⟩:=hf b hm
   rcases List.mem_append.1 hb with hb | hb
   ·rcases hvM b (by simpa using hb) with ⟨e,-⟩ | e
    ·exact h1 e
    ·omega
   ·exact h1 hb
 ·refine Own.setCell (h.own.frame fun b hb=>ho.block b (h.lM b (h.core b hb)) fun hm=>?_) _ _
  have hm':(gv k).ownBlock = some b:=by simpa using hm
  rcases List.mem_cons.1 hb with e | hb
  ·exact (h.ag k b hk hm').1 e
  ·obtain ⟨j,hj,e⟩:=List.mem_map.1 hb
   exact (h.ag k b hk hm').2 j (List.mem_range.1 hj) e.symm
 ·intro b hb
  have hlt:b < w1.heap.size:=by
   rcases List.mem_append.1 hb with hb | hb
   ·exact (hA.ownlt b (by simpa using hb)).2
   ·exact Nat.lt_of_lt_of_le (h.lM b hb) ho.size
  exact Nat.lt_of_lt_of_le hlt ho2.size
 ·intro b hb
  have:b < w.heap.size:=by
   rcases List.mem_append.1 hb with hb | hb
   ·exact h.lF b hb
   ·exact (hf b hb).2
  exact Nat.lt_of_lt_of_le (Nat.lt_of_lt_of_le this ho.size) ho2.size
 ·intro b hb
  rcases List.mem_append.1 hb with hb | hb
  ·exact (hA.ownlt b (by simpa using hb)).1
  ·exact h.ge b hb
 ·intro j b hj hb
  by_cases hjk:j = k
  ·subst hjk;rw [Zcx] at hb;exact hvne b hb
  ·rw [Zcc _ _ hjk] at hb;exact h.ag j b hj hb
 ·intro i j b hi hj h1 h2
  by_cases hik:i = k
  ·by_cases hjk:j = k
   ·omega
   ·subst hik;rw [Zcx] at h1;rw [Zcc _ _ hjk] at h2
    exact absurd h2 (hvo j b hj hjk h1)
  ·rw [Zcc _ _ hik] at h1
   by_cases hjk:j = k
   ·subst hjk;rw [Zcx] at h2;exact absurd h1 (hvo i b hi hik h2)
   ·rw [Zcc _ _ hjk] at h2;exact h.aa i j b hi hj h1 h2
end
theorem PN_i64 {n:Nat} {p:List Int} (h:PM.PN n p) (hn:n<=1000):∀ x∈p,I64 x:=fun x hx=>by
 have:=h.2.1 x hx;rw [h.1] at this;unfold I64;omega
theorem IntsA.at_pm {w:World} {a:Option Addr} {cap:Nat} {l:List Int} {fp:List Nat} (h:IntsA w a cap l fp) {x:Int} (h0:0<=x) (h1:x < l.length) :
  ∃ b off,a = some ⟨b,off,none⟩/\fp = [b]/\w.cell? ⟨b,off + x.toNat,none⟩ = some (.int .i64 (PM.at_ l x)):=by
 obtain ⟨b,off,e1,e2,e3⟩:=h.at_ x.toNat (by omega)
 refine ⟨b,off,e1,e2,?_⟩
 rw [e3];simp [PM.at_,show x.toNat < l.length by omega]
theorem Zgz (p q:List Int) (j:Nat) (h:j < p.length):PM.comp (p.take (j + 1)) q = PM.comp (p.take j) q ++ [PM.at_ q p[j]]:=by
 unfold PM.comp;rw [Zab p j h,List.map_append];rfl
theorem Ztp {n:Nat} {p q:List Int} (hp:PM.PN n p) (hq:PM.PN n q) (hn:n<=1000):∀ x∈PM.comp p q,I64 x:=PN_i64 (hp.comp hq) hn
def invTo (p:List Int) (j:Nat):List Int:=(PM.pts p.length).map fun y=>if y∈p.take j then (p.idxOf y:Int) else 0
theorem Zdq (p:List Int) (j:Nat):(invTo p j).length = p.length:=by simp [invTo,PM.pts_len]
theorem Zib (p:List Int) (j k:Nat) (h:k < (invTo p j).length):(invTo p j)[k] = if (k:Int)∈p.take j then (p.idxOf (k:Int):Int) else 0:=by
 have h1:k < (PM.pts p.length).length:=by rw [Zdq] at h;rw [PM.pts_len];exact h
 have:(invTo p j)[k] = (fun y:Int=>if y∈p.take j then (p.idxOf y:Int) else 0) ((PM.pts p.length)[k]):=List.getElem_map ..
 rw [this,PM.pts_get]
theorem Zlm (p:List Int):invTo p 0 = List.replicate p.length 0:=by
 apply List.ext_getElem (by simp [Zdq])
 intro k h1 h2;rw [Zib];simp
theorem Znj {n:Nat} {p:List Int} (hp:PM.PN n p) {j:Nat} (hj:p.length<=j):invTo p j = PM.inv p:=by
 unfold invTo PM.inv
 rw [List.take_of_length_le hj]
 apply List.map_congr_left
 intro y hy
 rw [if_pos (hp.2.all hy)]
theorem Zln {n:Nat} {p:List Int} (hp:PM.PN n p) {j:Nat} (hj:j < p.length):invTo p (j + 1) = (invTo p j).set (p[j]).toNat (j:Int):=by
 have hx:=hp.2.1 p[j] (List.getElem_mem hj)
 apply List.ext_getElem (by simp [Zdq])
 intro k h1 h2
 rw [Zdq] at h1
 rw [List.getElem_set]
 rw [Zib,Zib]
 by_cases hk:(p[j]).toNat = k
 ·rw [if_pos hk]
  have e:(k:Int) = p[j]:=by omega
  have hm:p[j]∈p.take (j + 1):=by rw [Zab p j hj];exact List.mem_append_right _ (List.mem_singleton.2 rfl)
  rw [e,if_pos hm]
  have hi:p.idxOf p[j] < p.length:=List.idxOf_lt_length_of_mem (List.getElem_mem hj)
  have hg:p[p.idxOf p[j]] = p[j]:=by simp
  have:=PM.Zfx hp.2.2 hi hj hg
  rw [this]
 ·rw [if_neg hk,Zab p j hj]
  have:((k:Int)∈p.take j ++ [p[j]]) ↔ (k:Int)∈p.take j:=by
   rw [List.mem_append,List.mem_singleton]
   constructor
   ·rintro (h | h)
    ·exact h
    ·omega
   ·exact .inl
  simp only [this]
theorem Zpv (n:Nat):(List.replicate n (0:Int)).map (Value.int .i64) = List.replicate n (.int .i64 0):=by simp
set_option maxHeartbeats 1000000 in
theorem Zbm (n:Nat) (vp vq:Value) (p q:List Int) (fp fq:List Nat) (w:World) (hp:Rd w vp p fp) (hq:Rd w vq q fq) (pp:PM.PN n p) (pq:PM.PN n q) (hn:n<=1000) :
  Calls Tryz.prog 194 #[vp,vq] w fun e w'=>∃ v fp',e = .returned v/\Rd w' v (PM.comp p q) fp'/\Fresh w.heap.size w' fp'/\Only [] w w':=by
 obtain ⟨ap,cp,rfl,IP⟩:=hp.ints
 obtain ⟨aq,cq,rfl,IQ⟩:=hq.ints
 obtain ⟨i0,hi,hz0,hz1,hz2⟩:=info_parts Tryz.info2
 have hlp:=pp.1
 have hlq:=pq.1
 have hpn:p.length<=1000:=by omega
 have HPP:=zH pp;have HPQ:=zH pq
 have HLP:=zH hlp;have HLQ:=zH hlq
 clear hlp hlq pp pq
 go_enter Tryz.func194,Tryz.ntmps194
 go_wp2_with (at_make;refine wpList_make_full _ rfl _ _ 27 rfl w.heap.size 2 i0 _ 1 Tryz.underlying27 hi hz0 hz1 _ _ _ _ p.length rfl rfl rfl rfl (by rw [hz2];omega) (by unfold maxLen;omega) (Nat.le_refl _) ?_;intro w1 hown hg)
 rw [madeInts,Nat.mul_one] at hown
 have hs1:=hg.size
 go_loopw [13] (fun i wr=>∃ j:Nat,j<=p.length/\i = .int .i64 j /\
   wr.ownsRow w.heap.size 2 1 (.slice (some ⟨w.heap.size,0,none⟩) p.length p.length) p.length ((PM.comp (p.take j) q).map (Value.int .i64) ++ List.replicate (p.length - j) (.int .i64 0))/\Only [] w wr)
  (fun i _=>p.length - (intOf i).toNat)
 case atStart=>exact ⟨0,Nat.zero_le _,rfl,by simpa [PM.comp] using hown,zO.grown hg (by simp)⟩
 case round=>
  obtain ⟨j,hj,rfl,hO,hK⟩:=hrel
  have hpl:((PM.comp (p.take j) q).map (Value.int .i64)).length = j:=by rw [List.length_map,PM.Zak,List.length_take];omega
  by_cases hlt:j < p.length
  ·obtain ⟨bp,op,rfl,-,hcp0⟩:=IP.at_ j hlt
   have hcp:=hK.cell (by simp) hcp0
   have hr:=HPP.out.2.1 p[j] (List.getElem_mem hlt)
   have hx0:0<=p[j]:=hr.1
   have hx1:p[j] < (q.length:Int):=by have:=HLP.out;have:=HLQ.out;omega
   obtain ⟨bq,oq,rfl,-,hcq0⟩:=IQ.at_pm hx0 hx1
   have hcq:=hK.cell (by simp) hcq0
   obtain ⟨hO2,hg2⟩:=hO.stored j (.int .i64 (PM.at_ q p[j]))
   have hstep:((PM.comp (p.take j) q).map (Value.int .i64) ++ List.replicate (p.length - j) (Value.int .i64 0)).set j (.int .i64 (PM.at_ q p[j])) = (PM.comp (p.take (j + 1)) q).map (Value.int .i64) ++ List.replicate (p.length - (j + 1)) (.int .i64 0):=by
    rw [show p.length - j = (p.length - (j + 1)) + 1 by omega,List.replicate_succ,List.set_append_right _ _ (by omega),hpl,Nat.sub_self,Zgz p q j hlt]
    simp
   rw [hstep] at hO2
   have hc2:wr.cell? ⟨w.heap.size,j,none⟩ = some (.int .i64 0):=by
    rw [hO.cellAt j (by omega),List.getElem?_append_right (by omega),List.getElem?_replicate,if_pos (by omega)]
   have hf2:=hO.frozenAt j
   have hK2:=hK.setCell (p:=⟨w.heap.size,j,none⟩) (by simp) (.int .i64 (PM.at_ q p[j]))
   have HO:=zH hO2
   have hb1:=IP.bound
   have hb2:=IQ.bound
   clear hO hO2 hg hg2 hown hstep hpl hcp0 hcq0 hr
   go_wp2
   go_roundw
   case rel=>exact ⟨j + 1,by omega,by go_num,HO.out,hK2⟩
   case measure=>simp [intOf];omega
  ·have hjl:j = p.length:=by omega
   rw [hjl] at hO
   simp only [Nat.sub_self,List.replicate_zero,List.append_nil,List.take_length] at hO
   have hw:=Ztp HPP.out HPQ.out hn
   have hO':wr.ownsRow w.heap.size 2 1 (.slice (some ⟨w.heap.size,0,none⟩) p.length p.length) (PM.comp p q).length ((PM.comp p q).map (Value.int .i64)):=by rw [PM.Zak];exact hO
   obtain ⟨a',cap',hv,-,hI,hF⟩:=Zba hO' hw
   have HI:=zH hI
   have Hv:=zH hv
   clear hjl hO hO' hv hown hI hpl hw
   go_wp2
   go_ret
   refine ⟨_,_,rfl,?_,hF,hK⟩
   have hr:=HI.out.rd
   rw [<- Hv.out] at hr;exact hr
set_option maxHeartbeats 1000000 in
theorem Zbg (n:Nat) (vp vq:Value) (p q:List Int) (fp fq:List Nat) (w:World) (hp:Rd w vp p fp) (hq:Rd w vq q fq) (pp:PM.PN n p) (pq:PM.PN n q) (hn:n<=1000) :
  Calls Tryz.prog 79 #[vp,vq] w fun e w'=>∃ v fp',e = .returned v/\Rd w' v (PM.comp p q) fp'/\Fresh w.heap.size w' fp'/\Only [] w w':=by
 obtain ⟨ap,cp,rfl,IP⟩:=hp.ints
 obtain ⟨aq,cq,rfl,IQ⟩:=hq.ints
 obtain ⟨i0,hi,hz0,hz1,hz2⟩:=info_parts Tryz.info2
 have hlp:=pp.1
 have hlq:=pq.1
 have hpn:p.length<=1000:=by omega
 have HPP:=zH pp;have HPQ:=zH pq
 have HLP:=zH hlp;have HLQ:=zH hlq
 clear hlp hlq pp pq
 have hb1:=IP.bound
 have hb2:=IQ.bound
 go_enter Tryz.func79,Tryz.ntmps79
 go_wp2
 go_loopw [5,6] (fun o i wr=>∃ (j:Nat) (fs:List (List Nat)),j<=p.length/\i = .int .i64 j/\Acc w.heap.size 2 wr o (PM.comp (p.take j) q) fs/\Fresh w.heap.size wr fs.flatten/\Only [] w wr)
  (fun _ i _=>p.length - (intOf i).toNat)
 case atStart=>exact ⟨0,[],Nat.zero_le _,rfl,by simpa [PM.comp] using Acc.made w w.heap.size _ rfl (Nat.le_refl _),Fresh.nil _ _,zO.alloc _⟩
 case round=>
  obtain ⟨j,fs,hj,rfl,hA,hF,hK⟩:=hrel
  by_cases hlt:j < p.length
  ·have hsz:=hK.size
   obtain ⟨bp,op,rfl,-,hcp0⟩:=IP.at_ j hlt
   have hcp:=hK.cell (by simp) hcp0
   have hr:=HPP.out.2.1 p[j] (List.getElem_mem hlt)
   have hx0:0<=p[j]:=hr.1
   have hx1:p[j] < (q.length:Int):=by have:=HLP.out;have:=HLQ.out;omega
   obtain ⟨bq,oq,rfl,-,hcq0⟩:=IQ.at_pm hx0 hx1
   have hcq:=hK.cell (by simp) hcq0
   have hlj:(PM.comp (p.take j) q).length + 1<=1073741824:=by rw [PM.Zak,List.length_take];omega
   have hI:I64 (PM.at_ q p[j]):=PN_i64 HPQ.out hn _ (PM.at_mem hx0 hx1)
   have HI:=zH hI
   clear hI hcp0 hcq0 hr
   go_wp2_with ((at_builtin;refine Zah rfl _ _ 27 rfl w.heap.size 2 i0 _ 8 Tryz.underlying27 hi hz0 hz1 hz2 rfl (by decide) (by decide) wr _ (PM.comp (p.take j) q) fs rfl hA hF (zO.alloc _) hsz wr.heap.size 1 [.int .i64 (PM.at_ q p[j])] (PM.at_ q p[j]) [] rfl (lit_src wr [.int .i64 (PM.at_ q p[j])] _ rfl) (by intro u hu;simp at hu;subst hu;rfl) (int_rd _ HI.out) (Fresh.nil _ _) hlj w (hK.alloc _) (Nat.le_refl _) ?_;intro v3 w3 hA3 hF3 hK3 _))
   go_roundw
   case rel=>exact ⟨j + 1,_,by omega,by go_num,by rw [Zgz p q j hlt];exact hA3,hF3,hK3⟩
   case measure=>simp [intOf];omega
  ·have hjl:j = p.length:=by omega
   rw [hjl,List.take_length] at hA
   have HA:=zH hA
   clear hjl hA
   go_wp2
   go_ret
   exact ⟨_,_,rfl,HA.out.rd (by decide),HA.out.fresh hF,hK⟩
set_option maxHeartbeats 1000000 in
theorem Zlf (n:Nat) (vp:Value) (p:List Int) (fp:List Nat) (w:World) (hp:Rd w vp p fp) (pp:PM.PN n p) (hn:n<=1000) :
  Calls Tryz.prog 195 #[vp] w fun e w'=>∃ v fp',e = .returned v/\Rd w' v (PM.inv p) fp'/\Fresh w.heap.size w' fp'/\Only [] w w':=by
 obtain ⟨ap,cp,rfl,IP⟩:=hp.ints
 obtain ⟨i0,hi,hz0,hz1,hz2⟩:=info_parts Tryz.info2
 have hlp:=pp.1
 have hpn:p.length<=1000:=by omega
 have HPP:=zH pp
 clear hlp pp
 have hb1:=IP.bound
 go_enter Tryz.func195,Tryz.ntmps195
 go_wp2_with (at_make;refine wpList_make_full _ rfl _ _ 27 rfl w.heap.size 2 i0 _ 1 Tryz.underlying27 hi hz0 hz1 _ _ _ _ p.length rfl rfl rfl rfl (by rw [hz2];omega) (by unfold maxLen;omega) (Nat.le_refl _) ?_;intro w1 hown hg)
 rw [madeInts,Nat.mul_one] at hown
 have hs1:=hg.size
 go_loopw [11] (fun i wr=>∃ j:Nat,j<=p.length/\i = .int .i64 j /\
   wr.ownsRow w.heap.size 2 1 (.slice (some ⟨w.heap.size,0,none⟩) p.length p.length) p.length ((invTo p j).map (Value.int .i64))/\Only [] w wr)
  (fun i _=>p.length - (intOf i).toNat)
 case atStart=>exact ⟨0,Nat.zero_le _,rfl,by rw [Zlm,Zpv];exact hown,zO.grown hg (by simp)⟩
 case round=>
  obtain ⟨j,hj,rfl,hO,hK⟩:=hrel
  by_cases hlt:j < p.length
  ·obtain ⟨bp,op,rfl,-,hcp0⟩:=IP.at_ j hlt
   have hcp:=hK.cell (by simp) hcp0
   have hr:=HPP.out.2.1 p[j] (List.getElem_mem hlt)
   have hx0:0<=p[j]:=hr.1
   have hx1:p[j] < (p.length:Int):=hr.2
   obtain ⟨hO2,hg2⟩:=hO.stored (p[j]).toNat (.int .i64 j)
   have hstep:((invTo p j).map (Value.int .i64)).set (p[j]).toNat (.int .i64 (j:Int)) = (invTo p (j + 1)).map (Value.int .i64):=by
    rw [Zln HPP.out hlt,List.map_set]
   rw [hstep] at hO2
   have hc2:∃ u,wr.cell? ⟨w.heap.size,(p[j]).toNat,none⟩ = some (.int .i64 u):=by
    rw [hO.cellAt _ (by omega)]
    have:(p[j]).toNat < (invTo p j).length:=by rw [Zdq];omega
    exact ⟨(invTo p j)[(p[j]).toNat],by simp [this]⟩
   obtain ⟨u,hc2⟩:=hc2
   have hf2:=hO.frozenAt (p[j]).toNat
   have hK2:=hK.setCell (p:=⟨w.heap.size,(p[j]).toNat,none⟩) (by simp) (.int .i64 j)
   have HO:=zH hO2
   clear hO hO2 hg hg2 hown hstep hcp0 hr
   go_wp2
   go_roundw
   case rel=>exact ⟨j + 1,by omega,by go_num,HO.out,hK2⟩
   case measure=>simp [intOf];omega
  ·have hjl:p.length<=j:=by omega
   rw [Znj HPP.out hjl] at hO
   have hw:=PN_i64 HPP.out.inv hn
   have hO':wr.ownsRow w.heap.size 2 1 (.slice (some ⟨w.heap.size,0,none⟩) p.length p.length) (PM.inv p).length ((PM.inv p).map (Value.int .i64)):=by rw [PM.inv_len];exact hO
   obtain ⟨a',cap',hv,-,hI,hF⟩:=Zba hO' hw
   have HI:=zH hI
   have Hv:=zH hv
   clear hO hO' hv hown hI hw
   go_wp2
   go_ret
   refine ⟨_,_,rfl,?_,hF,hK⟩
   have hr:=HI.out.rd
   rw [<- Hv.out] at hr;exact hr
set_option maxHeartbeats 1000000 in
theorem Zki (n:Nat) (vp:Value) (p:List Int) (fp:List Nat) (w:World) (hp:Rd w vp p fp) (pp:PM.PN n p) (hn:n<=1000) :
  Calls Tryz.prog 201 #[vp] w fun e w'=>∃ v fp',e = .returned v/\Rd w' v (PM.inv p) fp'/\Fresh w.heap.size w' fp'/\Only [] w w':=by
 obtain ⟨ap,cp,rfl,IP⟩:=hp.ints
 obtain ⟨i0,hi,hz0,hz1,hz2⟩:=info_parts Tryz.info2
 have hlp:=pp.1
 have hpn:p.length<=1000:=by omega
 have HPP:=zH pp
 clear hlp pp
 have hb1:=IP.bound
 go_enter Tryz.func201,Tryz.ntmps201
 go_wp2_with (at_make;refine wpList_make_full _ rfl _ _ 27 rfl w.heap.size 2 i0 _ 1 Tryz.underlying27 hi hz0 hz1 _ _ _ _ p.length rfl rfl rfl rfl (by rw [hz2];omega) (by unfold maxLen;omega) (Nat.le_refl _) ?_;intro w1 hown hg)
 rw [madeInts,Nat.mul_one] at hown
 have hs1:=hg.size
 go_loopw [4] (fun i wr=>∃ j:Nat,j<=p.length/\i = .int .i64 j /\
   wr.ownsRow w.heap.size 2 1 (.slice (some ⟨w.heap.size,0,none⟩) p.length p.length) p.length ((invTo p j).map (Value.int .i64))/\Only [] w wr)
  (fun i _=>p.length - (intOf i).toNat)
 case atStart=>exact ⟨0,Nat.zero_le _,rfl,by rw [Zlm,Zpv];exact hown,zO.grown hg (by simp)⟩
 case round=>
  obtain ⟨j,hj,rfl,hO,hK⟩:=hrel
  by_cases hlt:j < p.length
  ·obtain ⟨bp,op,rfl,-,hcp0⟩:=IP.at_ j hlt
   have hcp:=hK.cell (by simp) hcp0
   have hr:=HPP.out.2.1 p[j] (List.getElem_mem hlt)
   have hx0:0<=p[j]:=hr.1
   have hx1:p[j] < (p.length:Int):=hr.2
   obtain ⟨hO2,hg2⟩:=hO.stored (p[j]).toNat (.int .i64 j)
   have hstep:((invTo p j).map (Value.int .i64)).set (p[j]).toNat (.int .i64 (j:Int)) = (invTo p (j + 1)).map (Value.int .i64):=by
    rw [Zln HPP.out hlt,List.map_set]
   rw [hstep] at hO2
   have hc2:∃ u,wr.cell? ⟨w.heap.size,(p[j]).toNat,none⟩ = some (.int .i64 u):=by
    rw [hO.cellAt _ (by omega)]
    have:(p[j]).toNat < (invTo p j).length:=by rw [Zdq];omega
    exact ⟨(invTo p j)[(p[j]).toNat],by simp [this]⟩
   obtain ⟨u,hc2⟩:=hc2
   have hf2:=hO.frozenAt (p[j]).toNat
   have hK2:=hK.setCell (p:=⟨w.heap.size,(p[j]).toNat,none⟩) (by simp) (.int .i64 j)
   have HO:=zH hO2
   clear hO hO2 hg hg2 hown hstep hcp0 hr
   go_wp2
   go_roundw
   case rel=>exact ⟨j + 1,by omega,by go_num,HO.out,hK2⟩
   case measure=>simp [intOf];omega
  ·have hjl:p.length<=j:=by omega
   rw [Znj HPP.out hjl] at hO
   have hw:=PN_i64 HPP.out.inv hn
   have hO':wr.ownsRow w.heap.size 2 1 (.slice (some ⟨w.heap.size,0,none⟩) p.length p.length) (PM.inv p).length ((PM.inv p).map (Value.int .i64)):=by rw [PM.inv_len];exact hO
   obtain ⟨a',cap',hv,-,hI,hF⟩:=Zba hO' hw
   have HI:=zH hI
   have Hv:=zH hv
   clear hO hO' hv hown hI hw
   go_wp2
   go_ret
   refine ⟨_,_,rfl,?_,hF,hK⟩
   have hr:=HI.out.rd
   rw [<- Hv.out] at hr;exact hr
theorem Zpk {T:PM.Rows} {n j:Nat} (hj:j < n) (q:List Int):PM.has T n (n - j) q = if PM.tr T j (PM.at_ q (j:Int)) = [] then false else PM.has T n (n - (j + 1)) (PM.comp q (PM.inv (PM.tr T j (PM.at_ q (j:Int))))):=by
 have h1:n - j = (n - (j + 1)) + 1:=by omega
 have h2:n - (n - (j + 1) + 1) = j:=by omega
 rw [h1];simp only [PM.has,h2]
theorem has_end {T:PM.Rows} {n j:Nat} (hj:n<=j) (q:List Int):PM.has T n (n - j) q = true:=by
 rw [show n - j = 0 by omega];rfl
theorem IntsA.at_pn {w:World} {a:Option Addr} {cap:Nat} {l:List Int} {fp:List Nat} (h:IntsA w a cap l fp) {j:Nat} (hj:j < l.length) :
  ∃ b off,a = some ⟨b,off,none⟩/\fp = [b]/\w.cell? ⟨b,off + j,none⟩ = some (.int .i64 (PM.at_ l (j:Int))):=by
 obtain ⟨b,off,e1,e2,e3⟩:=h.at_ j hj
 exact ⟨b,off,e1,e2,by rw [e3,PM.at_nat l j hj]⟩
set_option maxHeartbeats 1000000 in
theorem Zej {e:TypeId} {B:Nat} {L:Lay} {gv:Nat->Value} {n:Nat} {G:PM.Gens} {T:PM.Rows} {M F:List Nat} (w:World) (hC:Ch e B w L gv n G T M F) (hw:PM.WF n T) (hT:L.oT = 2)
  (k:Nat) (vp:Value) (p:List Int) (fp:List Nat) (hk:k<=n) (hp:Rd w vp p fp) (pp:PM.PN n p) :
  Calls Tryz.prog 135 #[.pointer (some ⟨L.g,0,none⟩),.int .i64 k,vp] w fun e w'=>e = .returned (.bool (PM.has T n (n - k) p))/\Only [] w w':=by
 have hn20:=hC.le
 have HW:=zH hw
 have HC:=zH hC
 have hcT:=hC.ct
 rw [hT] at hcT
 have HT:=zH hT
 have Hp:=zH hp
 have HPP:=zH pp
 clear hT hC hw hp pp
 go_enter Tryz.func135,Tryz.ntmps135
 go_wp2
 go_loopw [2,7] (fun s i wr=>∃ (j:Nat) (q:List Int) (f:List Nat),j<=n/\i = .int .i64 j/\Rd wr s q f/\PM.PN n q/\PM.has T n (n - k) p = PM.has T n (n - j) q/\Only [] w wr)
  (fun _ i _=>n - (intOf i).toNat)
 case atStart=>exact ⟨k,p,fp,hk,rfl,Hp.out,HPP.out,rfl,Only.refl _ _⟩
 case round=>
  obtain ⟨j,q,f,hj,rfl,hq,hqn,hh,hK⟩:=hrel
  have HH:=zH hh
  have HQN:=zH hqn
  have HK:=zH hK
  have c0:=hK.cell (by simp) HC.out.cn
  have c2:=hK.cell (by simp) hcT
  by_cases hlt:j < n
  ·have hjn:(j:Int) < (n:Int):=by omega
   have hj0:(0:Int)<=(j:Int):=by omega
   have hC':=HC.out.keep hK
   obtain ⟨aq,cq,rfl,IQ⟩:=hq.ints
   have hb:=IQ.bound
   have hlen:(j:Int) < (q.length:Int):=by have:=hqn.1;omega
   obtain ⟨bq,oq,rfl,-,hcq⟩:=IQ.at_pn (by omega:j < q.length)
   have hr:=hqn.rng (x:=(j:Int)) (by omega) (by omega)
   have hy0:=hr.1
   have hy1:=hr.2
   have c3:=hC'.row j hlt
   have hst:=Zpk (T:=T) hlt q
   have Hst:=zH hst
   clear hst hh hqn hK hr
   by_cases ht:PM.tr T j (PM.at_ q (j:Int)) = []
   ·have c4:=hC'.at_nil hlt hy0 hy1 ht
    have hnil:=fun W=>Lib.run_eql_slice_nil (P:=Tryz.prog) W 27 2 none 0 0 0 0 Tryz.underlying27
    have Ht:=zH ht
    clear ht hC'
    go_wp2
    go_quiet (fail)
    go_wp2
    go_ret
    exact ⟨Zaa (by rw [HH.out,Hst.out,if_pos Ht.out]),HK.out.drewN _⟩
   ·obtain ⟨b,off,cap,f4,c4,hR,-⟩:=hC'.at_some hlt hy0 hy1 ht
    have hnil:=fun W=>Lib.run_eql_slice_nil (P:=Tryz.prog) W 27 2 (some ⟨b,off,none⟩) (PM.tr T j (PM.at_ q (j:Int))).length cap 0 0 Tryz.underlying27
    have htn:=HW.out.pn j _ hlt ht
    have Htn:=zH htn
    have Ht:=zH ht
    clear ht hC' htn
    go_wp2
    go_quiet (fail)
    go_wp2_with (first
     | (go_at_call 195;(with_reducible refine (Zlf n _ _ _ _ (zK hR zA) Htn.out (by omega)).mono ?_);rintro e w1 ⟨v1,f1,rfl,r1,F1,t1⟩)
     | (go_at_call 194;(with_reducible refine (Zbm n _ _ _ _ _ _ _ (zK hq zA) r1 HQN.out Htn.out.inv (by omega)).mono ?_);rintro e w2 ⟨v2,f2,rfl,r2,F2,t2⟩))
    go_roundw
    case rel=>exact ⟨j + 1,_,f2,by omega,by go_num,r2,HQN.out.comp Htn.out.inv,by rw [HH.out,Hst.out,if_neg Ht.out],(HK.out.drewN _).trans (t1.trans t2)⟩
    case measure=>simp [intOf];omega
  ·have hjn:¬ (j:Int) < (n:Int):=by omega
   clear hh hqn
   go_wp2
   go_ret
   exact ⟨Zaa (by rw [HH.out,has_end (by omega)]),HK.out⟩
def orb (n:Nat) (T:PM.Rows) (k:Nat):List Int:=(PM.pts n).filter fun y=>decide (PM.tr T k y ≠ [])
def orbTo (j:Nat) (T:PM.Rows) (k:Nat):List Int:=(PM.pts j).filter fun y=>decide (PM.tr T k y ≠ [])
theorem Zlj (j:Nat) (T:PM.Rows) (k:Nat):orbTo (j + 1) T k = if PM.tr T k (j:Int) = [] then orbTo j T k else orbTo j T k ++ [(j:Int)]:=by
 unfold orbTo
 rw [Zdj,List.filter_append]
 by_cases h:PM.tr T k (j:Int) = []
 ·rw [if_pos h];simp [h]
 ·rw [if_neg h];simp [h]
theorem Zfy (j:Nat) (T:PM.Rows) (k:Nat):(orbTo j T k).length<=j:=by
 unfold orbTo
 have:=List.length_filter_le (fun y=>decide (PM.tr T k y ≠ [])) (PM.pts j)
 rwa [PM.pts_len] at this
theorem mem_orb {n:Nat} {T:PM.Rows} {k:Nat} {y:Int}:y∈orb n T k ↔ (0<=y/\y < n)/\PM.tr T k y ≠ []:=by
 unfold orb
 rw [List.mem_filter,PM.mem_pts];simp
theorem Zsm (n:Nat) (T:PM.Rows) (k:Nat):(orb n T k).Nodup:=List.Nodup.sublist List.filter_sublist (PM.Zfr n)
theorem orb_i64 {n:Nat} (hn:n<=1000) (T:PM.Rows) (k:Nat):∀ x∈orb n T k,I64 x:=fun x hx=>by
 have:=(mem_orb.1 hx).1;unfold I64;omega
set_option maxHeartbeats 1000000 in
theorem Zjf {e:TypeId} {B:Nat} {L:Lay} {gv:Nat->Value} {n:Nat} {G:PM.Gens} {T:PM.Rows} {M F:List Nat} (w:World) (hC:Ch e B w L gv n G T M F) (k:Nat) (hk:k < n) :
  Calls Tryz.prog 231 #[.slice (some ⟨L.rb k,0,none⟩) n n] w fun e w'=>∃ v fs,e = .returned v/\Acc w.heap.size 2 w' v (orb n T k) fs/\Fresh w.heap.size w' fs.flatten/\Only [] w w':=by
 obtain ⟨i0,hi,hz0,hz1,hz2⟩:=info_parts Tryz.info2
 have hn20:=hC.le
 have HC:=zH hC
 clear hC
 go_enter Tryz.func231,Tryz.ntmps231
 go_wp2
 go_loopw [3,8] (fun o i wr=>∃ (j:Nat) (fs:List (List Nat)),j<=n/\i = .int .i64 j/\Acc w.heap.size 2 wr o (orbTo j T k) fs/\Fresh w.heap.size wr fs.flatten/\Only [] w wr)
  (fun _ i _=>n - (intOf i).toNat)
 case atStart=>exact ⟨0,[],Nat.zero_le _,rfl,by simpa [orbTo,PM.pts] using Acc.nil w w.heap.size _,Fresh.nil _ _,Only.refl _ _⟩
 case round=>
  obtain ⟨j,fs,hj,rfl,hA,hF,hK⟩:=hrel
  by_cases hlt:j < n
  ·have hsz:=hK.size
   have hC':=HC.out.keep hK
   have hjl:=Zfy j T k
   have hlj:(orbTo j T k).length + 1<=1073741824:=by omega
   have hI:I64 (j:Int):=by unfold I64;omega
   have HI:=zH hI
   have hsu:=Zlj j T k
   have Hsu:=zH hsu
   clear hI hsu
   by_cases ht:PM.tr T k (j:Int) = []
   ·have c4:=hC'.at_nil hk (y:=(j:Int)) (by omega) (by omega) ht
    simp only [Int.toNat_natCast] at c4
    have hnil:=fun W=>run_neq_slice_nil_any (P:=Tryz.prog) W 27 2 none 0 0 0 0 Tryz.underlying27
    have Ht:=zH ht
    clear ht hC'
    go_wp2
    go_roundw
    case rel=>exact ⟨j + 1,fs,by omega,by go_num,by rw [Hsu.out,if_pos Ht.out];exact hA,hF,hK⟩
    case measure=>simp [intOf];omega
   ·obtain ⟨b,off,cap,f4,c4,-,-⟩:=hC'.at_some hk (y:=(j:Int)) (by omega) (by omega) ht
    simp only [Int.toNat_natCast] at c4
    have hnil:=fun W=>run_neq_slice_nil_any (P:=Tryz.prog) W 27 2 (some ⟨b,off,none⟩) (PM.tr T k (j:Int)).length cap 0 0 Tryz.underlying27
    have Ht:=zH ht
    clear ht hC'
    go_wp2_with ((at_builtin;refine Zah rfl _ _ 27 rfl w.heap.size 2 i0 _ 8 Tryz.underlying27 hi hz0 hz1 hz2 rfl (by decide) (by decide) wr _ (orbTo j T k) fs rfl hA hF (zO.alloc _) hsz wr.heap.size 1 [.int .i64 (j:Int)] (j:Int) [] rfl (lit_src wr [.int .i64 (j:Int)] _ rfl) (by intro u hu;simp at hu;subst hu;rfl) (int_rd _ HI.out) (Fresh.nil _ _) hlj w (hK.alloc _) (Nat.le_refl _) ?_;intro v3 w3 hA3 hF3 hK3 _))
    go_roundw
    case rel=>exact ⟨j + 1,_,by omega,by go_num,by rw [Hsu.out,if_neg Ht.out];exact hA3,hF3,hK3⟩
    case measure=>simp [intOf];omega
  ·have hjl:j = n:=by omega
   rw [hjl] at hA
   have HA:=zH hA
   clear hjl hA
   go_wp2
   go_ret
   exact ⟨_,fs,rfl,HA.out,hF,hK⟩
def Que (e:TypeId) (B:Nat) (w:World) (v:Value) (l:List Int):Prop:=
 (
  ∀ x∈l,I64 x)/\((v = .slice none 0 0/\l = []) \/
  ∃ g o cap cur,v = .slice (some ⟨g,o,none⟩) l.length cap/\B<=g/\w.heap[g]? = some (.cells cur e (0,0))/\l.length<=cap/\cap<=maxLen/\o + cap<=cur.size/\(cur.toList.drop o).take l.length = l.map (Value.int .i64))
section
variable {e:TypeId} {B:Nat} {w w':World} {v:Value} {l:List Int}
theorem Que.ofAcc {fs:List (List Nat)} (h:Acc B e w v l fs) (hi:∀ x∈l,I64 x):Que e B w v l:=by
 obtain ⟨css,ho,hcl,hr⟩:=h.own
 have hfl:=h.fl
 have hcss:css.flatten = l.map (Value.int .i64):=by
  have:css = l.map fun x=>[Value.int .i64 x]:=by
   apply List.ext_getElem (by simp [hcl])
   intro k h1 h2
   have:=hr k h1 (by omega) (by omega)
   rw [this.1];simp
  rw [this]
  clear this hr hcl hfl ho h hi
  induction l with
  | nil=>rfl
  | cons x l ih=>simp [ih]
 refine ⟨hi,?_⟩
 rcases ho.2 with ⟨rfl,h0⟩ | ⟨g,cap,cur,rfl,hb,hg,h1,h2,h3,h4⟩
 ·exact .inl ⟨rfl,List.eq_nil_of_length_eq_zero h0⟩
 ·refine .inr ⟨g,0,cap,cur,rfl,hb,hg,h1,h2,?_,?_⟩
  ·have:cur.size = cap * 1:=h3
   omega
  ·have h5:cur.toList.take (l.length * 1) = css.flatten:=h4
   rw [hcss,Nat.mul_one] at h5
   simpa using h5
theorem Que.lt (h:Que e B w v l):∀ g,v.ownBlock = some g->B<=g/\g < w.heap.size:=by
 intro g hg
 rcases h.2 with ⟨rfl,-⟩ | ⟨g',o,cap,cur,rfl,hb,hh,-⟩
 ·simp [Value.ownBlock] at hg
 ·simp [Value.ownBlock] at hg;subst hg
  exact ⟨hb,(Array.getElem?_eq_some_iff.1 hh).1⟩
theorem Que.only (h:Que e B w v l) {fp:List Nat} (ho:Only fp w w') (hn:∀ g,v.ownBlock = some g->g ∉ fp):Que e B w' v l:=by
 refine ⟨h.1,?_⟩
 rcases h.2 with hz | ⟨g,o,cap,cur,rfl,hb,hh,hrest⟩
 ·exact .inl hz
 ·exact .inr ⟨g,o,cap,cur,rfl,hb,(ho.block g (Array.getElem?_eq_some_iff.1 hh).1 (hn g rfl)).trans hh,hrest⟩
theorem Que.keep (h:Que e B w v l) (ho:Only [] w w'):Que e B w' v l:=h.only ho (by simp)
theorem Que.form (h:Que e B w v l):∃ a c,v = .slice a l.length c:=by
 rcases h.2 with ⟨rfl,rfl⟩ | ⟨g,o,cap,cur,rfl,-⟩
 ·exact ⟨none,0,rfl⟩
 ·exact ⟨_,_,rfl⟩
theorem Que.head {x:Int} (h:Que e B w v (x :: l)):∃ g o cap,v = .slice (some ⟨g,o,none⟩) (l.length + 1) cap/\l.length + 1<=cap/\cap<=maxLen/\w.cell? ⟨g,o,none⟩ = some (.int .i64 x):=by
 rcases h.2 with ⟨-,h0⟩ | ⟨g,o,cap,cur,rfl,hb,hh,h1,h2,h3,h4⟩
 ·cases h0
 ·refine ⟨g,o,cap,by simp,by simpa using h1,h2,?_⟩
  rw [cell_of_row w g o cur e (0,0) hh]
  have:=congrArg (fun L=>L[0]?) h4
  simp at this
  simpa using this
theorem Que.pop {P:Program} {t:TypeId} (ht:P.underlying t = some (.slice e)) (hz:∀ w,(sizeOf e).run P w = .ok 1 w) {x:Int} (h:Que e B w v (x :: l)):∃ v1,(∀ W,(Instr.slice t v (some (.int .i64 1)) none none).run P W = .ok v1 W)/\Que e B w v1 l/\v1.ownBlock = v.ownBlock:=by
 rcases h.2 with ⟨-,h0⟩ | ⟨g,o,cap,cur,rfl,hb,hh,h1,h2,h3,h4⟩
 ·cases h0
 ·have hi:∀ y∈l,I64 y:=fun y hy=>h.1 y (by simp [hy])
  simp only [List.length_cons] at h1 h4
  have he:P.elem t = e:=by simp [Program.elem,ht]
  have ht':P.underlying t = some (.slice (P.elem t)):=by rw [he];exact ht
  have hrun:∀ W,(Instr.slice t (.slice (some ⟨g,o,none⟩) (x :: l).length cap) (some (.int .i64 1)) none none).run P W = .ok (sliced (some ⟨g,o,none⟩) 1 (x :: l).length cap 1) W:=by
   intro W
   rw [run_slice_l (P:=P) (w:=W) t _ _ _ ht' .i64 1 (by omega) (by simp only [List.length_cons];omega),he,hz]
   rfl
  by_cases hc:cap = 1
  ·have hl:l.length = 0:=by omega
   have hl0:l = []:=List.eq_nil_of_length_eq_zero hl
   refine ⟨.slice (some ⟨g,o,none⟩) 0 0,fun W=>?_,⟨hi,.inr ⟨g,o,0,cur,by rw [hl],hb,hh,by omega,by unfold maxLen;omega,by omega,by rw [hl0];simp⟩⟩,rfl⟩
   rw [hrun W];subst hl0;subst hc;rfl
  ·refine ⟨.slice (some ⟨g,o + 1,none⟩) l.length (cap - 1),fun W=>?_,⟨hi,.inr ⟨g,o + 1,cap - 1,cur,rfl,hb,hh,by omega,by omega,by omega,?_⟩⟩,rfl⟩
   ·rw [hrun W]
    unfold sliced
    rw [if_neg hc]
    simp [Addr.add]
   ·have h5:=congrArg (List.drop 1) h4
    rw [List.drop_take,List.drop_drop] at h5
    simpa using h5
end
section
variable {P:Program} (w:World)
theorem Zji (t ty e:TypeId) (i:TypeInfo) (ht:P.underlying t = some (.slice e)) (hi:P.info? e = some i)
  (g o sLen sCap:Nat) (cur:Array Value) (hg:w.heap[g]? = some (.cells cur e (0,0)))
  (a:Addr) (m c:Nat) (news:List Value) (hl:news.length = m * i.size) (hnews:∀ j u,news[j]? = some u->w.cell? (a.add j) = some u) (h1:∀ u∈news,u.oneCell' = true)
  (hroom:sLen + m<=sCap) (hfit:o + sLen * i.size + news.length<=cur.size) :
  (Builtin.append_ #[t,t] ty #[.slice (some ⟨g,o,none⟩) sLen sCap,.slice (some a) m c]).run P w =
   .ok (.slice (some ⟨g,o,none⟩) (sLen + m) sCap) (w.setRow g (cur.toList.take (o + sLen * i.size) ++ news ++ cur.toList.drop (o + sLen * i.size + news.length)).toArray):=by
 have hf:=run_firstCells_some (P:=P) w i.size m a m c news hl hnews
 have hst:=run_storeCells_at P g (o + sLen * i.size) e news 0 cur w hg (by simpa using hfit) h1
 simp only [Nat.add_zero] at hst
 have hadd:(⟨g,o,none⟩:Addr).add (sLen * i.size) = ⟨g,o + sLen * i.size,none⟩:=by unfold Addr.add;split <;> simp_all
 simp [Builtin.append_,run_underlying ht,sizeOf,typeInfo,hi,Builtin.lenOf,hroom,hf,hadd,hst]
theorem Zrc (t ty e:TypeId) (i:TypeInfo) (z:Value) (ht:P.underlying t = some (.slice e)) (hi:P.info? e = some i) (hz:i.zero = some z)
  (hsize:i.size = 1) (hby:i.bytes = 8) (hzs:z.cells.size = 1) {B:Nat} (v:Value) (l:List Int) (hq:Que e B w v l)
  (ad:Addr) (c:Nat) (x:Int) (hx:I64 x) (hsrc:w.cell? ad = some (.int .i64 x)) (hlen:l.length + 1<=1073741824) (hB:B<=w.heap.size) :
  ∃ v' w',(Builtin.append_ #[t,t] ty #[v,.slice (some ad) 1 c]).run P w = .ok v' w'/\Que e B w' v' (l ++ [x])/\Only v.ownBlock.toList w w' /\
   (v'.ownBlock = v.ownBlock\/v'.ownBlock = some w.heap.size):=by
 have hi':∀ y∈l ++ [x],I64 y:=fun y hy=>by
  rcases List.mem_append.1 hy with hy | hy
  ·exact hq.1 y hy
  ·simp at hy;subst hy;exact hx
 have hnews:∀ j u,[Value.int .i64 x][j]? = some u->w.cell? (ad.add j) = some u:=by
  intro j u hu
  cases j with
  | zero=>simp at hu;subst hu;rw [show ad.add 0 = ad by unfold Addr.add;split <;> simp_all];exact hsrc
  | succ j=>simp at hu
 have h1:∀ u∈[Value.int .i64 x],u.oneCell' = true:=by intro u hu;simp at hu;subst hu;rfl
 have grown:∀ (old:Nat) (xs:List Value),xs = l.map (Value.int .i64)->∀ (row:List Nat),
   Que e B (w.drew.alloc (.cells (xs.toArray ++ [Value.int .i64 x].toArray ++ Builtin.zeroCells z.cells (grownCap w (l.length + 1) old e - (l.length + 1))) e))
    (.slice (some ⟨w.heap.size,0,none⟩) (l.length + 1) (grownCap w (l.length + 1) old e)) (l ++ [x]) /\
   Only row w (w.drew.alloc (.cells (xs.toArray ++ [Value.int .i64 x].toArray ++ Builtin.zeroCells z.cells (grownCap w (l.length + 1) old e - (l.length + 1))) e)):=by
  intro old xs hxs row
  have hge:=grownCap_ge w (l.length + 1) old e
  have hcm:grownCap w (l.length + 1) old e<=maxLen:=grownCap_le_maxLen w (l.length + 1) old e (by unfold maxLen;omega)
  refine ⟨⟨hi',.inr ⟨w.heap.size,0,_,_,by simp,hB,heap_alloc_new w.drew _,by simpa using hge,hcm,?_,?_⟩⟩,((Only.refl row w).drew).alloc _⟩
  ·subst hxs
   simp only [Array.size_append,List.size_toArray,size_zeroCells,hzs,List.length_map,List.length_cons,List.length_nil]
   omega
  ·subst hxs
   simp only [List.drop_zero,Array.toList_append,List.append_assoc]
   rw [<- List.append_assoc]
   have e1:l.map (Value.int .i64) ++ [Value.int .i64 x] = (l ++ [x]).map (Value.int .i64):=by simp
   rw [e1,show (l ++ [x]).length = ((l ++ [x]).map (Value.int .i64)).length by simp]
   exact List.take_left
 rcases hq.2 with ⟨rfl,rfl⟩ | ⟨g,o,cap,cur,rfl,hbg,hg,hnc,hcm,hcs,htake⟩
 ·have hr:=run_append_nil (P:=P) w t ty e i z ht hi hz ad 1 c [Value.int .i64 x] (by simp [hsize]) hnews (by omega) (by omega) (by rw [hby];omega)
  have hgr:=grown 0 [] rfl (Value.ownBlock (.slice none 0 0)).toList
  simp only [List.length_nil,Nat.zero_add,List.nil_append,Array.empty_append] at hgr ⊢
  exact ⟨_,_,hr,hgr.1,hgr.2,Or.inr rfl⟩
 ·by_cases hroom:l.length + 1<=cap
  ·have hr:=Zji (P:=P) w t ty e i ht hi g o l.length cap cur hg ad 1 c [Value.int .i64 x] (by simp [hsize]) hnews h1 hroom (by rw [hsize];simp;omega)
   refine ⟨_,_,hr,⟨hi',.inr ⟨g,o,cap,_,by simp,hbg,setRow_heap w g cur _ e _ hg,by simpa using hroom,hcm,?_,?_⟩⟩,⟨rfl,rfl,rfl,by simp,fun k _ hk=>setRow_other w g k _ (fun e=>hk (by simp [Value.ownBlock,e]))⟩,Or.inl rfl⟩
   ·simp only [List.size_toArray,List.length_append,List.length_take,List.length_drop,Array.length_toList]
    omega
   ·rw [hsize]
    simp only [Nat.mul_one,List.length_append,List.length_cons,List.length_nil]
    have e0:o<=cur.toList.length:=by simp;omega
    have e1:(cur.toList.take (o + l.length)).drop o = l.map (Value.int .i64):=by rw [List.drop_take];rw [<- htake];congr 1;omega
    have e2:((cur.toList.take (o + l.length) ++ [Value.int .i64 x] ++ cur.toList.drop (o + l.length + (0 + 1))).drop o) = l.map (Value.int .i64) ++ ([Value.int .i64 x] ++ cur.toList.drop (o + l.length + (0 + 1))):=by
     rw [List.append_assoc,List.drop_append_of_le_length (by simp;omega),e1]
    rw [e2,<- List.append_assoc]
    have e3:l.map (Value.int .i64) ++ [Value.int .i64 x] = (l ++ [x]).map (Value.int .i64):=by simp
    rw [e3,show l.length + (0 + 1) = ((l ++ [x]).map (Value.int .i64)).length by simp]
    exact List.take_left
  ·have holds:∀ j u,(l.map (Value.int .i64))[j]? = some u->w.cell? ((⟨g,o,none⟩:Addr).add j) = some u:=by
    intro j u hu
    have hadd:(⟨g,o,none⟩:Addr).add j = ⟨g,o + j,none⟩:=by unfold Addr.add;split <;> simp_all
    rw [hadd,cell_of_row w g (o + j) cur e (0,0) hg]
    rw [<- htake,List.getElem?_take] at hu
    split at hu
    ·rw [List.getElem?_drop] at hu;simpa using hu
    ·cases hu
   have hr:=run_append_grow (P:=P) w t ty e i z ht hi hz ⟨g,o,none⟩ l.length cap (l.map (Value.int .i64)) (by simp [hsize]) holds ad 1 c [Value.int .i64 x] (by simp [hsize]) hnews (by omega) (by omega) (growslice_fits (by omega) (by rw [hby];omega))
   have hgr:=grown cap (l.map (Value.int .i64)) rfl (Value.ownBlock (.slice (some ⟨g,o,none⟩) l.length cap)).toList
   exact ⟨_,_,hr,hgr.1,hgr.2,Or.inr rfl⟩
end
section
variable {P:Program} {ops:Array Oper} {rest:List Oper} {o:Oper} {a:Act} {w:World} {Q:Exit->Act->World->Prop}
theorem Zrn (hgd:o.guard = none) (s x:Operand) (t:TypeId)
  (ho:o.op = .call { callee:=.builtin .append,args:=#[s,x],argTypes:=#[t,t] })
  (e:TypeId) (i:TypeInfo) (z:Value) (ht:P.underlying t = some (.slice e)) (hi:P.info? e = some i) (hz:i.zero = some z)
  (hsize:i.size = 1) (hby:i.bytes = 8) (hzs:z.cells.size = 1) {B:Nat} (v:Value) (l:List Int) (hs:a.eval s = v) (hq:Que e B w v l)
  (ad:Addr) (c:Nat) (n:Int) (hx:a.eval x = .slice (some ad) 1 c) (hn:I64 n) (hsrc:w.cell? ad = some (.int .i64 n)) (hlen:l.length + 1<=1073741824) (hB:B<=w.heap.size)
  (h:∀ v' w',Que e B w' v' (l ++ [n])->Only v.ownBlock.toList w w'->(v'.ownBlock = v.ownBlock\/v'.ownBlock = some w.heap.size)->wpList P ops Q rest (a.put o.dst v') w'):wpList P ops Q (o :: rest) a w:=by
 refine wpList_plain hgd fun K hK=>?_
 obtain ⟨v',w',hr,h2,h3,h4⟩:=Zrc (P:=P) w t o.type e i z ht hi hz hsize hby hzs v l hq ad c n hn hsrc hlen hB
 unfold Oper.wp execOp
 simp only [ho,resolve,invoke,builtin,Sem.run_bind,Sem.run_pure,Result.andThen_ok,List.map_toArray,List.map_cons,List.map_nil,hs,hx,hr]
 exact hK _ _ (h v' w' h2 h3 h4)
end
end Go.Proofs.YthleokaeobdamaaGreat
