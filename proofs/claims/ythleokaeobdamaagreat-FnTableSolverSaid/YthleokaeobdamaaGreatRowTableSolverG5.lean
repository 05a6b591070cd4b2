/- Plain facts on the making of stabilizer chains: the queue of a row, the products of a row and its generators. -/
import Derived.Test.YthleokaeobdamaaGreatRowTableSolverG4
import Derived.Deep.AppendLies
import Derived.Test.YthleokaeobdamaaGreatRowTableSolverG2
namespace PM
def cntR (n:Nat) (T:Rows) (k:Nat):Nat:=((pts n).filter fun y=>decide (tr T k y ≠ [])).length
theorem cntR_le (n:Nat) (T:Rows) (k:Nat):cntR n T k<=n:=by
 have:=List.length_filter_le (fun y=>decide (tr T k y ≠ [])) (pts n)
 rwa [pts_len] at this
theorem Zqt {α:Type} [DecidableEq α] {l:List α} {p q:α->Bool} {m:α} (hn:l.Nodup) (hm:m∈l) (hp:p m = false) (hq:q m = true) (ho:∀ x,x ≠ m->q x = p x) :
  (l.filter q).length = (l.filter p).length + 1:=by
 induction l with
 | nil=>cases hm
 | cons x l ih=>
  obtain ⟨h1,h2⟩:=List.nodup_cons.1 hn
  by_cases hx:x = m
  ·subst hx
   have:l.filter q = l.filter p:=List.filter_congr fun y hy=>ho y fun e=>h1 (e ▸ hy)
   simp [hp,hq,this]
  ·have hm':m∈l:=by
    rcases List.mem_cons.1 hm with e | e
    ·exact absurd e.symm hx
    ·exact e
   have:=ih h2 hm'
   simp only [List.filter_cons,ho x hx]
   split <;> simp [this]
theorem Zqj {n k m:Nat} {T:Rows} (hk:k < T.length) (hm:m < (T.getD k []).length) (hmn:m < n) {p:List Int} (hp:p ≠ []) (h0:tr T k (m:Int) = []):cntR n (setT T k m p) k = cntR n T k + 1:=by
 have hl:=fun y=>tr_setT hk hm p k y
 refine Zqt (m:=(m:Int)) (Zfr n) (mem_pts.2 (by omega)) (by simp [h0]) ?_ fun x hx=>?_
 ·rw [hl,if_pos ⟨rfl,rfl⟩];simpa using hp
 ·rw [hl,if_neg (by simpa using hx)]
structure QS (n k:Nat) (G:Gens) (T0 T:Rows) (qs:List Int) (cur:Int->List (List Int)):Prop where
 shape:Shape n G T
 base:Base n G T
 cpl:Cpl n (k + 1) G T
 grew:Grew n k G T0 G T
 rows:∀ j y,j ≠ k->tr T j y = tr T0 j y
 nd:qs.Nodup
 mem:∀ y∈qs,tr T k y ≠ []
 done:∀ y g,tr T k y ≠ []->(y ∉ qs->g∈lv G k)->(y∈qs->g∈cur y)->tr T k (at_ g y) ≠ []
theorem QS.len {n k:Nat} {G:Gens} {T0 T:Rows} {qs:List Int} {cur:Int->List (List Int)} (hk:k < n) (h:QS n k G T0 T qs cur):qs.length<=n:=by
 have:=Zdh h.nd (l2:=pts n) (fun y hy=>mem_pts.2 (row_rng hk h.base (h.mem y hy)))
 rwa [pts_len] at this
def curA (L:List (List Int)) (y0:Int) (i:Nat):Int->List (List Int):=fun y=>if y = y0 then L.take i else []
def cur0:Int->List (List Int):=fun _=>[]
theorem QS.start {n k:Nat} {G:Gens} {T:Rows} (hs:Shape n G T) (hB:Base n G T) (hC:Cpl n (k + 1) G T) {qs:List Int} (hn:qs.Nodup) (hq:∀ y,y∈qs ↔ tr T k y ≠ []):QS n k G T T qs cur0:=
 ⟨hs,hB,hC,Grew.refl _ _ _ _,fun _ _ _=>rfl,hn,fun y hy=>(hq y).1 hy,fun y g hy _ h2=>absurd (h2 ((hq y).2 hy)) (by simp [cur0])⟩
theorem QS.first {n k:Nat} {G:Gens} {T0 T:Rows} {y0:Int} {qs:List Int} (h:QS n k G T0 T (y0 :: qs) cur0):QS n k G T0 T (y0 :: qs) (curA (lv G k) y0 0):=by
 refine ⟨h.shape,h.base,h.cpl,h.grew,h.rows,h.nd,h.mem,fun y g hy h1 h2=>h.done y g hy h1 fun hm=>?_⟩
 have:=h2 hm
 unfold curA at this;split at this
 ·simp at this
 ·cases this
theorem QS.skip {n k:Nat} {G:Gens} {T0 T:Rows} {y0:Int} {qs:List Int} {i:Nat} (hi:i < (lv G k).length) (h:QS n k G T0 T (y0 :: qs) (curA (lv G k) y0 i)) (ht:tr T k (at_ (lv G k)[i] y0) ≠ []) :
  QS n k G T0 T (y0 :: qs) (curA (lv G k) y0 (i + 1)):=by
 refine ⟨h.shape,h.base,h.cpl,h.grew,h.rows,h.nd,h.mem,fun y g hy h1 h2=>?_⟩
 by_cases hm:y∈y0 :: qs
 ·have h3:=h2 hm
  unfold curA at h3
  by_cases e:y = y0
  ·rw [if_pos e,List.take_succ_eq_append_getElem hi] at h3
   rcases List.mem_append.1 h3 with h4 | h4
   ·exact h.done y g hy h1 fun _=>by unfold curA;rw [if_pos e];exact h4
   ·have:g = (lv G k)[i]:=by simpa using h4
    subst this;subst e;exact ht
  ·rw [if_neg e] at h3;cases h3
 ·exact h.done y g hy h1 fun h'=>absurd h' hm
theorem QS.more {n k:Nat} {G:Gens} {T0 T:Rows} {y0:Int} {qs:List Int} {i:Nat} (hk:k < n) (hi:i < (lv G k).length) (h:QS n k G T0 T (y0 :: qs) (curA (lv G k) y0 i)) (ht:tr T k (at_ (lv G k)[i] y0) = []) :
  QS n k G T0 (setT T k (at_ (lv G k)[i] y0).toNat (comp (tr T k y0) (lv G k)[i])) (y0 :: (qs ++ [at_ (lv G k)[i] y0])) (curA (lv G k) y0 (i + 1)) /\
  cntR n (setT T k (at_ (lv G k)[i] y0).toNat (comp (tr T k y0) (lv G k)[i])) k = cntR n T k + 1:=by
 have hy0:=h.mem y0 (by simp)
 have hg:(lv G k)[i]∈lv G k:=List.getElem_mem hi
 obtain ⟨a1,a2,a3,a4⟩:=row_mul hk h.base hy0 hg
 have hr:=row_rng hk h.base hy0
 have hgp:=h.base.gpn k _ hk hg
 have hto:=hgp.rng hr.1 hr.2
 have em:(((at_ (lv G k)[i] y0).toNat:Nat):Int) = at_ (lv G k)[i] y0:=by omega
 have hmn:(at_ (lv G k)[i] y0).toNat < n:=by omega
 obtain ⟨b1,b2,b3⟩:=Zjo (m:=(at_ (lv G k)[i] y0).toNat) h.shape hk h.base h.cpl a1 a2 a3 (by rw [a4,em]) hmn (by rw [em];exact ht)
 have hl:=fun j y=>tr_setT (T:=T) (k:=k) (m:=(at_ (lv G k)[i] y0).toNat) (by rw [h.shape.lt];exact hk) (by rw [h.shape.lr k hk];exact hmn) (comp (tr T k y0) (lv G k)[i]) j y
 refine ⟨⟨h.shape.setT _ _ _,b1,b2,h.grew.trans b3,fun j y hj=>?_,?_,fun y hy=>?_,fun y g hy h1 h2=>?_⟩,?_⟩
 ·rw [hl j y,if_neg (by simp [hj])];exact h.rows j y hj
 ·have e:y0 :: (qs ++ [at_ (lv G k)[i] y0]) = (y0 :: qs) ++ [at_ (lv G k)[i] y0]:=by simp
  rw [e]
  refine List.nodup_append.2 ⟨h.nd,by simp,fun a ha b hb e=>?_⟩
  have:b = at_ (lv G k)[i] y0:=by simpa using hb
  subst this;subst e
  exact h.mem _ ha ht
 ·rw [hl k y]
  split
  ·exact a1.ne (by omega)
  ·rename_i hne
   have:y∈y0 :: qs:=by
    have e:y0 :: (qs ++ [at_ (lv G k)[i] y0]) = (y0 :: qs) ++ [at_ (lv G k)[i] y0]:=by simp
    rw [e] at hy
    rcases List.mem_append.1 hy with h3 | h3
    ·exact h3
    ·have:y = at_ (lv G k)[i] y0:=by simpa using h3
     exact absurd ⟨rfl,by rw [em];exact this⟩ hne
   exact h.mem y this
 ·rw [hl k _]
  split
  ·exact a1.ne (by omega)
  ·rename_i hne
   rw [hl k y] at hy
   by_cases hyt:y = at_ (lv G k)[i] y0
   ·-- the new point: it is in the queue,and nothing of it has been treated
    have hin:y∈y0 :: (qs ++ [at_ (lv G k)[i] y0]):=by simp [hyt]
    have h3:=h2 hin
    unfold curA at h3
    by_cases e:y = y0
    ·exact absurd ht (by rw [<- hyt,e];exact hy0)
    ·rw [if_neg e] at h3;cases h3
   ·rw [if_neg (by rw [em];simp [hyt])] at hy
    have hmem:y∈y0 :: (qs ++ [at_ (lv G k)[i] y0]) ↔ y∈y0 :: qs:=by simp [hyt]
    refine h.done y g hy (fun hn=>h1 fun hm=>hn (hmem.1 hm)) fun hm=>?_
    have h3:=h2 (hmem.2 hm)
    unfold curA at h3 ⊢
    by_cases e:y = y0
    ·rw [if_pos e] at h3 ⊢
     rw [List.take_succ_eq_append_getElem hi] at h3
     rcases List.mem_append.1 h3 with h4 | h4
     ·exact h4
     ·have:g = (lv G k)[i]:=by simpa using h4
      subst this;subst e
      exact absurd ⟨rfl,em.symm⟩ hne
    ·rw [if_neg e] at h3;cases h3
 ·exact Zqj (by rw [h.shape.lt];exact hk) (by rw [h.shape.lr k hk];exact hmn) hmn (a1.ne (by omega)) (by rw [em];exact ht)
theorem QS.pop {n k:Nat} {G:Gens} {T0 T:Rows} {y0:Int} {qs:List Int} {i:Nat} (hi:(lv G k).length<=i) (h:QS n k G T0 T (y0 :: qs) (curA (lv G k) y0 i)):QS n k G T0 T qs cur0:=by
 obtain ⟨hn1,hn2⟩:=List.nodup_cons.1 h.nd
 refine ⟨h.shape,h.base,h.cpl,h.grew,h.rows,hn2,fun y hy=>h.mem y (by simp [hy]),fun y g hy h1 h2=>?_⟩
 by_cases hm:y∈qs
 ·exact absurd (h2 hm) (by simp [cur0])
 ·refine h.done y g hy (fun _=>h1 hm) fun h3=>?_
  have e:y = y0:=by
   rcases List.mem_cons.1 h3 with e | e
   ·exact e
   ·exact absurd e hm
  unfold curA;rw [if_pos e,List.take_of_length_le hi];exact h1 hm
theorem QS.closed {n k:Nat} {G:Gens} {T0 T:Rows} (h:QS n k G T0 T [] cur0):∀ y g,tr T k y ≠ []->g∈lv G k->tr T k (at_ g y) ≠ []:=
 fun y g hy hg=>h.done y g hy (fun _=>hg) fun h3=>by cases h3
structure PS (n k:Nat) (G1:Gens) (T1:Rows) (G:Gens) (T:Rows) (S:List Int->Prop):Prop where
 shape:Shape n G T
 base:Base n G T
 cpl:Cpl n (k + 1) G T
 grew:Grew n (k + 1) G1 T1 G T
 ok:∀ q,S q->Ok T n k q
theorem PS.lv {n k:Nat} {G1:Gens} {T1:Rows} {G:Gens} {T:Rows} {S:List Int->Prop} (h:PS n k G1 T1 G T S):PM.lv G k = PM.lv G1 k:=h.grew.low k (by omega)
theorem PS.tr {n k:Nat} {G1:Gens} {T1:Rows} {G:Gens} {T:Rows} {S:List Int->Prop} (h:PS n k G1 T1 G T S) (y:Int):PM.tr T k y = PM.tr T1 k y:=h.grew.lowT k y (by omega)
theorem PS.start {n k:Nat} {G:Gens} {T:Rows} (hs:Shape n G T) (hB:Base n G T) (hC:Cpl n (k + 1) G T):PS n k G T G T (fun _=>False):=
 ⟨hs,hB,hC,Grew.refl _ _ _ _,fun _ h=>h.elim⟩
theorem PS.weak {n k:Nat} {G1:Gens} {T1:Rows} {G:Gens} {T:Rows} {S S':List Int->Prop} (h:PS n k G1 T1 G T S) (hs:∀ q,S' q->S q):PS n k G1 T1 G T S':=
 ⟨h.shape,h.base,h.cpl,h.grew,fun q hq=>h.ok q (hs q hq)⟩
theorem PS.step {n k:Nat} {G1:Gens} {T1:Rows} {G G':Gens} {T T':Rows} {S:List Int->Prop} (h:PS n k G1 T1 G T S) {q:List Int} (hs:Shape n G' T') (hn:PM.tr T k (at_ q (k:Int)) ≠ []) (ha:Added n (k + 1) (res T k q) G T G' T') :
  PS n k G1 T1 G' T' (fun x=>S x\/x = q):=by
 obtain ⟨a,b,c,d⟩:=ha.up hn
 refine ⟨hs,a,b,h.grew.trans c,fun x hx=>?_⟩
 rcases hx with hx | rfl
 ·exact (h.ok x hx).mono c.ext
 ·exact d
def sumM (n:Nat) (T:Rows):Nat->Nat
 | 0=>0
 | m + 1=>cntR n T (n - (m + 1)) + sumM n T m
theorem sumM_le (n:Nat) (T:Rows):∀ m,sumM n T m<=m * n:=by
 intro m
 induction m with
 | zero=>simp [sumM]
 | succ m ih=>
  have:=cntR_le n T (n - (m + 1))
  simp only [sumM,Nat.succ_mul];omega
theorem Zie {n k:Nat} {T T':Rows} (h:Ext T T'):cntR n T k<=cntR n T' k:=by
 unfold cntR
 refine List.Sublist.length_le ?_
 have:(pts n).filter (fun y=>decide (tr T k y ≠ [])) = ((pts n).filter fun y=>decide (tr T' k y ≠ [])).filter fun y=>decide (tr T k y ≠ []):=by
  rw [List.filter_filter]
  refine List.filter_congr fun y _=>?_
  by_cases hy:tr T k y = []
  ·simp [hy]
  ·simp [h k y hy,hy]
 rw [this];exact List.filter_sublist
theorem Znp {n:Nat} {T T':Rows} (h:Ext T T'):∀ m,sumM n T m<=sumM n T' m:=by
 intro m
 induction m with
 | zero=>simp [sumM]
 | succ m ih=>have:=Zie (n:=n) (k:=n - (m + 1)) h;simp only [sumM];omega
theorem tr_out {n k:Nat} {G:Gens} {T:Rows} (hs:Shape n G T) (hk:k < n) {y:Int} (hy:¬ (0<=y/\y < n)):tr T k y = []:=by
 unfold tr
 split
 ·rfl
 ·rw [List.getD_eq_getElem?_getD,List.getElem?_eq_none (by rw [hs.lr k hk];omega)];rfl
theorem Zsn {n k:Nat} {G G':Gens} {T T':Rows} (_hs:Shape n G T) (hs':Shape n G' T') (hk:k < n) (h:Ext T T') (hc:cntR n T' k<=cntR n T k):∀ y,tr T' k y = tr T k y:=by
 intro y
 by_cases hy:tr T k y = []
 ·rw [hy]
  apply Classical.byContradiction
  intro hn
  have hyr:0<=y/\y < n:=Classical.byContradiction fun hh=>hn (tr_out hs' hk hh)
  have hsub:((pts n).filter fun y=>decide (tr T' k y ≠ [])) ⊆ (pts n).filter fun y=>decide (tr T k y ≠ []):=by
   refine Zeq (List.Nodup.sublist List.filter_sublist (Zfr n)) (fun z hz=>?_) hc
   rw [List.mem_filter] at hz ⊢
   have hz2:tr T k z ≠ []:=by simpa using hz.2
   exact ⟨hz.1,by rw [h k z hz2];simpa using hz2⟩
  have:=hsub (List.mem_filter.2 ⟨mem_pts.2 hyr,by simpa using hn⟩)
  rw [List.mem_filter] at this
  exact (by simpa using this.2:tr T k y ≠ []) hy
 ·exact h k y hy
theorem Ztc {n:Nat} {G G':Gens} {T T':Rows} (hs:Shape n G T) (hs':Shape n G' T') (h:Ext T T'):∀ m,m<=n->sumM n T' m<=sumM n T m->∀ j y,n - m<=j->j < n->tr T' j y = tr T j y:=by
 intro m
 induction m with
 | zero=>intro _ _ j y h1 h2;omega
 | succ m ih=>
  intro hm hc j y h1 h2
  simp only [sumM] at hc
  have c1:=Zie (n:=n) (k:=n - (m + 1)) h
  have c2:=Znp (n:=n) h m
  by_cases hj:j = n - (m + 1)
  ·subst hj;exact Zsn hs hs' h2 h (by omega) y
  ·exact ih (by omega) (by omega) j y (by omega) h2
theorem Ztf {T T':Rows} {n m:Nat} (hm:m<=n) (h:∀ j y,n - m<=j->j < n->tr T' j y = tr T j y):∀ p,has T n m p = has T' n m p:=by
 induction m with
 | zero=>intro p;rfl
 | succ m ih=>
  intro p
  simp only [has]
  rw [h _ _ (Nat.le_refl _) (by omega),ih (by omega) (fun j y h1 h2=>h j y (by omega) h2)]
theorem sumM_lt {n k:Nat} {G G':Gens} {T T':Rows} {p:List Int} (hs:Shape n G T) (hs':Shape n G' T') (h:Ext T T') (h0:has T n (n - k) p = false) (h1:has T' n (n - k) p = true):sumM n T (n - k) < sumM n T' (n - k):=by
 apply Classical.byContradiction
 intro hc
 have:=Ztf (Nat.sub_le n k) (Ztc hs hs' h (n - k) (Nat.sub_le n k) (by omega)) p
 rw [h0,h1] at this;cases this
def Ln (n k:Nat) (G:Gens) (T:Rows):Prop:=∀ j,k<=j->j < n->(lv G j).length<=sumM n T (n - j)
theorem Ln.le {n k:Nat} {G:Gens} {T:Rows} (h:Ln n k G T) {j:Nat} (hj:k<=j) (hjn:j < n) (hn:n<=20):(lv G j).length<=400:=by
 have h1:=h j hj hjn
 have h2:=sumM_le n T (n - j)
 have h3:(n - j) * n<=20 * 20:=Nat.mul_le_mul (by omega) hn
 omega
theorem Ln.mono {n k k':Nat} {G:Gens} {T:Rows} (h:Ln n k G T) (hk:k<=k'):Ln n k' G T:=fun j h1 h2=>h j (by omega) h2
theorem Ln.ext {n k:Nat} {G G':Gens} {T T':Rows} (h:Ln n k G T) (hG:∀ j,k<=j->lv G' j = lv G j) (hT:Ext T T'):Ln n k G' T':=fun j h1 h2=>by
 rw [hG j h1];exact Nat.le_trans (h j h1 h2) (Znp hT _)
theorem Ln.more {n k:Nat} {G G':Gens} {T T':Rows} {p:List Int} (hs:Shape n G T) (hs':Shape n G' T') (h:Ln n k G T) (h':Ln n (k + 1) G' T') (he:Ext T T') (h0:has T n (n - k) p = false) (h1:has T' n (n - k) p = true)
  (hl:(lv G' k).length = (lv G k).length + 1):Ln n k G' T':=fun j hj hjn=>by
 by_cases e:j = k
 ·subst e
  have:=sumM_lt hs hs' he h0 h1
  have:=h j (Nat.le_refl _) hjn
  omega
 ·exact h' j (by omega) hjn
theorem Ln.zero (n:Nat):Ln n 0 (G0 n) (T0 n):=fun j _ _=>by rw [lv_G0];simp
end PM

namespace Go.Proofs.YthleokaeobdamaaGreat
open Go.RowKit
set_option maxRecDepth 10000
theorem Zja {P:Program} {α:Type} [Rp α] {ops:Array Oper} {o:Oper} {a:Act} {w:World} {Q:Exit->Act->World->Prop} {K:Act->World->Prop} {E:Prop} (hgd:o.guard = none) (s x:Operand) (t:TypeId)
  (ho:o.op = .call { callee:=.builtin .append,args:=#[s,x],argTypes:=#[t,t] })
  (B:Nat) (e:TypeId) (i:TypeInfo) (z:Value) (bytes:Nat) (ht:P.underlying t = some (.slice e)) (hi:P.info? e = some i) (hz:i.zero = some z)
  (hsize:i.size = Rp.size α) (hby:i.bytes = bytes) (hzs:z.cells.size = Rp.size α) (hsz:0 < Rp.size α) (hbb:bytes<=65536)
  (w0:World) (v:Value) (l:List α) (fs:List (List Nat)) (hs:a.eval s = v) (hA:Acc B e w0 v l fs) (hK0:Only [] w0 w) (hB:B<=w0.heap.size)
  (g c:Nat) (cs:List Value) (y:α) (fp:List Nat) (hx:a.eval x = .slice (some ⟨g,0,none⟩) 1 c) (hsrc:∀ j u,cs[j]? = some u->w.cell? ⟨g,j,none⟩ = some u) (hcs:∀ u∈cs,u.oneCell' = true)
  (hy:Rp.rep w cs y fp) (hap:∀ b∈fp,v.ownBlock ≠ some b) (hlen:l.length + 1<=1073741824)
  (h:∀ v' w',Acc B e w' v' (l ++ [y]) (fs ++ [fp])->Only v.ownBlock.toList w w'->(v'.ownBlock = v.ownBlock\/v'.ownBlock = some w.heap.size)->K (a.put o.dst v') w'):if Region.wanted o (yielded ops a.tmps) = true then Oper.wp P o a w K Q else E:=by
 rw [if_pos (by simp [Region.wanted,hgd])]
 exact Zei s x t ho B e i z bytes ht hi hz hsize hby hzs hsz hbb w0 v l fs hs hA hK0 hB g c cs y fp hx hsrc hcs hy hap hlen fun v' w' h1 h2 _ _ h5=>h v' w' h1 h2 h5
structure Mv (L:Lay) (k:Nat) (gv gv':Nat->Value) (M M' F F' f:List Nat) (w w':World):Prop where
 only:Only M w w'
 gvs:∀ j,j < k->gv' j = gv j
 rows:∀ j,j < k->w'.heap[L.rb j]? = w.heap[L.rb j]?
 m:∀ b∈M',b∈M\/w.heap.size<=b
 m':∀ b∈M,b∈M'
 f:∀ b∈F',b∈F\/b∈f\/w.heap.size<=b
 f':∀ b∈F,b∈F'
theorem Mv.refl (L:Lay) (k:Nat) (gv:Nat->Value) (M F f:List Nat) (w:World):Mv L k gv gv M M F F f w w:=
 ⟨Only.refl _ _,fun _ _=>rfl,fun _ _=>rfl,fun _ h=>.inl h,fun _ h=>h,fun _ h=>.inl h,fun _ h=>h⟩
theorem Mv.keep {L:Lay} {k:Nat} {gv gv':Nat->Value} {M M' F F' f:List Nat} {w w1 w':World} (h:Mv L k gv gv' M M' F F' f w w1) (ho:Only [] w1 w') (hr:∀ j,j < k->L.rb j < w.heap.size):Mv L k gv gv' M M' F F' f w w':=
 ⟨h.only.keepThen ho,h.gvs,fun j hj=>(ho.block _ (Nat.lt_of_lt_of_le (hr j hj) h.only.size) (by simp)).trans (h.rows j hj),h.m,h.m',h.f,h.f'⟩
theorem Mv.before {L:Lay} {k:Nat} {gv gv':Nat->Value} {M M' F F' f:List Nat} {w w1 w':World} (ho:Only [] w w1) (h:Mv L k gv gv' M M' F F' f w1 w') (hr:∀ j,j < k->L.rb j < w.heap.size):Mv L k gv gv' M M' F F' f w w':=
 ⟨(ho.weaken M).trans h.only,h.gvs,fun j hj=>(h.rows j hj).trans (ho.block _ (hr j hj) (by simp)),fun b hb=>(h.m b hb).imp id fun h1=>Nat.le_trans ho.size h1,h.m',fun b hb=>(h.f b hb).imp id fun h1=>h1.imp id fun h2=>Nat.le_trans ho.size h2,h.f'⟩
theorem Mv.trans {L:Lay} {k:Nat} {gv gv1 gv':Nat->Value} {M M1 M' F F1 F' f f1:List Nat} {w w1 w':World} (h:Mv L k gv gv1 M M1 F F1 f w w1) (h':Mv L k gv1 gv' M1 M' F1 F' f1 w1 w')
  (hf:∀ b∈f1,b∈F\/b∈f\/w.heap.size<=b):Mv L k gv gv' M M' F F' f w w':=by
 refine ⟨h.only.then_ h'.only fun x hx hl=>?_,fun j hj=>(h'.gvs j hj).trans (h.gvs j hj),fun j hj=>(h'.rows j hj).trans (h.rows j hj),fun b hb=>?_,fun b hb=>h'.m' b (h.m' b hb),fun b hb=>?_,fun b hb=>h'.f' b (h.f' b hb)⟩
 ·rcases h.m x hx with h1 | h1
  ·exact h1
  ·omega
 ·rcases h'.m b hb with h1 | h1
  ·exact h.m b h1
  ·exact .inr (Nat.le_trans h.only.size h1)
 ·rcases h'.f b hb with h1 | h1 | h1
  ·exact h.f b h1
  ·exact hf b h1
  ·exact .inr (.inr (Nat.le_trans h.only.size h1))
theorem Mv.mono {L:Lay} {k k':Nat} {gv gv':Nat->Value} {M M' F F' f f1:List Nat} {w w':World} (h:Mv L k gv gv' M M' F F' f w w') (hk:k'<=k) (hf:∀ b∈f,b∈F\/b∈f1\/w.heap.size<=b):Mv L k' gv gv' M M' F F' f1 w w':=
 ⟨h.only,fun j hj=>h.gvs j (by omega),fun j hj=>h.rows j (by omega),h.m,h.m',fun b hb=>by
  rcases h.f b hb with h1 | h1 | h1
  ·exact .inl h1
  ·exact hf b h1
  ·exact .inr (.inr h1),h.f'⟩
def AddP (e:TypeId) (B:Nat) (L:Lay) (n k:Nat) (p:List Int) (G:PM.Gens) (T:PM.Rows) (M F f:List Nat) (gv:Nat->Value) (w w':World):Prop:=
 ∃ gv' G' T' M' F',Ch e B w' L gv' n G' T' M' F'/\PM.Added n k p G T G' T'/\PM.Ln n k G' T'/\Mv L k gv gv' M M' F F' f w w'
section
variable {e:TypeId} {B:Nat} {w w':World} {L:Lay} {gv:Nat->Value} {n:Nat} {G:PM.Gens} {T:PM.Rows} {M F:List Nat}
theorem Ch.genAt (h:Ch e B w L gv n G T M F) {k:Nat} (hk:k < n) {j:Nat} (hj:j < (PM.lv G k).length) :
  ∃ g c u f,gv k = .slice (some ⟨g,0,none⟩) (PM.lv G k).length c/\w.cell? ⟨g,j,none⟩ = some u/\Rd w u (PM.lv G k)[j] f/\∀ b∈f,b∈F:=by
 obtain ⟨fs,hA,hF⟩:=h.acc k hk
 obtain ⟨css,ho,hcl,hr⟩:=hA.own
 have hfl:=hA.fl
 rcases ho.2 with ⟨-,h0⟩ | ⟨g,cap,cur,hv,hb,hg,h1,h2,h3,h4⟩
 ·omega
 ·have hcs:css[j] = [css.flatten[j]'(by rw [ho.1];show j < (PM.lv G k).length * 1;omega)]:=by
   have hone:∀ c∈css,c.length = 1:=by
    intro c hc
    obtain ⟨i,hi,rfl⟩:=List.getElem_of_mem hc
    exact Rp.len (hr i hi (by omega) (by omega))
   have key:∀ (cs:List (List Value)),(∀ c∈cs,c.length = 1)->∀ i (h1:i < cs.length) (h2:i < cs.flatten.length),cs[i] = [cs.flatten[i]]:=by
    intro cs
    induction cs with
    | nil=>intro _ i h1;cases h1
    | cons c cs ih=>
     intro hc i h1 h2
     have hc1:=hc c (by simp)
     match c,hc1 with
     | [v],_=>
      cases i with
      | zero=>simp
      | succ i=>simpa using ih (fun c hc'=>hc c (by simp [hc'])) i (by simpa using h1) (by simpa using h2)
   exact key css hone j (by omega) _
  refine ⟨g,cap,css.flatten[j]'(by rw [ho.1];show j < (PM.lv G k).length * 1;omega),fs[j],hv,?_,?_,fun b hb=>hF b (List.mem_flatten.2 ⟨_,List.getElem_mem _,hb⟩)⟩
  ·have:=ho.cells (g:=g) (by rw [hv];rfl) j (css.flatten[j]'(by rw [ho.1];show j < (PM.lv G k).length * 1;omega)) (List.getElem?_eq_getElem _)
   have hadd:(⟨g,0,none⟩:Addr).add j = ⟨g,j,none⟩:=by unfold Addr.add;split <;> simp_all
   rwa [hadd] at this
  ·have:=hr j (by omega) hj (by omega)
   rw [hcs] at this;exact this
open Classical in
noncomputable def fillW (w:World) (b n:Nat):Nat:=((PM.pts n).filter fun y=>decide (w.cell? ⟨b,y.toNat,none⟩ ≠ some (.slice none 0 0))).length
theorem Ch.fill (h:Ch e B w L gv n G T M F) {k:Nat} (hk:k < n):fillW w (L.rb k) n = PM.cntR n T k:=by
 unfold fillW PM.cntR
 congr 1
 refine List.filter_congr fun y hy=>?_
 obtain ⟨h0,h1⟩:=PM.mem_pts.1 hy
 by_cases ht:PM.tr T k y = []
 ·rw [h.at_nil hk h0 h1 ht];simp [ht]
 ·obtain ⟨b,off,cap,f,hc,-,-⟩:=h.at_some hk h0 h1 ht
  rw [hc];simp [ht]
def lenV:Value->Nat
 | .slice _ n _=>n
 | _=>0
theorem Que.lenV {v:Value} {l:List Int} {e:TypeId} {B:Nat} {w:World} (h:Que e B w v l):lenV v = l.length:=by
 obtain ⟨a,c,rfl⟩:=h.form
 rfl
end
def LQ (eG eI:TypeId) (B Bq:Nat) (L:Lay) (gv:Nat->Value) (n k:Nat) (G:PM.Gens) (T:PM.Rows) (M F:List Nat) (wb:World) (qs:List Int) (cur:Int->List (List Int)) (c0:Nat) (s:Value) (wr:World):Prop:=
 ∃ T' F',PM.QS n k G T T' qs cur/\Ch eG B wr L gv n G T' M F'/\Que eI Bq wr s qs/\(∀ g,s.ownBlock = some g->g ∉ F')/\(n - PM.cntR n T' k) + qs.length<=c0/\Only M wb wr/\(∀ b∈F',b∈F\/wb.heap.size<=b)/\(∀ b∈F,b∈F')/\(∀ j,j < k->wr.heap[L.rb j]? = wb.heap[L.rb j]?)
section
variable {eG eI:TypeId} {B Bq:Nat} {L:Lay} {gv:Nat->Value} {n k:Nat} {G:PM.Gens} {T:PM.Rows} {M F:List Nat} {wb wr:World} {y0:Int} {qs:List Int} {j c0:Nat} {s:Value}
theorem LQ.first {c1:Nat} (h:LQ eG eI B Bq L gv n k G T M F wb (y0 :: qs) PM.cur0 c1 s wr) (hk:k < n):LQ eG eI B Bq L gv n k G T M F wb (y0 :: qs) (PM.curA (PM.lv G k) y0 0) ((n - fillW wr (L.rb k) n) + lenV s) s wr:=by
 obtain ⟨T',F',hQ,hC,hq,hqF,hc,hO,hF1,hF2,hr⟩:=h
 exact ⟨T',F',hQ.first,hC,hq,hqF,by rw [hC.fill hk,hq.lenV];exact Nat.le_refl _,hO,hF1,hF2,hr⟩
theorem LQ.skip (_h:LQ eG eI B Bq L gv n k G T M F wb (y0 :: qs) (PM.curA (PM.lv G k) y0 j) c0 s wr) {T':PM.Rows} {F':List Nat} (hC:Ch eG B wr L gv n G T' M F') (hQ:PM.QS n k G T T' (y0 :: qs) (PM.curA (PM.lv G k) y0 j))
  (hq:Que eI Bq wr s (y0 :: qs)) (hqF:∀ g,s.ownBlock = some g->g ∉ F') (hc:(n - PM.cntR n T' k) + (y0 :: qs).length<=c0) (hO:Only M wb wr) (hF1:∀ b∈F',b∈F\/wb.heap.size<=b) (hF2:∀ b∈F,b∈F') (hr:∀ j,j < k->wr.heap[L.rb j]? = wb.heap[L.rb j]?)
  (hj:j < (PM.lv G k).length) (ht:PM.tr T' k (PM.at_ (PM.lv G k)[j] y0) ≠ []):LQ eG eI B Bq L gv n k G T M F wb (y0 :: qs) (PM.curA (PM.lv G k) y0 (j + 1)) c0 s wr:=
 ⟨T',F',hQ.skip hj ht,hC,hq,hqF,hc,hO,hF1,hF2,hr⟩
theorem LQ.more {T':PM.Rows} {F':List Nat} (hC:Ch eG B wr L gv n G T' M F') (hQ:PM.QS n k G T T' (y0 :: qs) (PM.curA (PM.lv G k) y0 j))
  (hq:Que eI Bq wr s (y0 :: qs)) (hqF:∀ g,s.ownBlock = some g->g ∉ F') (hc:(n - PM.cntR n T' k) + (y0 :: qs).length<=c0) (hO:Only M wb wr) (hF1:∀ b∈F',b∈F\/wb.heap.size<=b) (hF2:∀ b∈F,b∈F') (hr:∀ j,j < k->wr.heap[L.rb j]? = wb.heap[L.rb j]?)
  (hk:k < n) (hMb:∀ b∈M,b < wb.heap.size) (hBq:wb.heap.size<=Bq) (hj:j < (PM.lv G k).length) (ht:PM.tr T' k (PM.at_ (PM.lv G k)[j] y0) = [])
  {w4 w5:World} {v4 v5:Value} {f4:List Nat} {o:Obj} (r4:Rd w4 v4 (PM.comp (PM.tr T' k y0) (PM.lv G k)[j]) f4) (F4:Fresh wr.heap.size w4 f4) (t4:Only [] wr w4)
  (hq5:Que eI Bq w5 v5 ((y0 :: qs) ++ [PM.at_ (PM.lv G k)[j] y0])) (hO5:Only s.ownBlock.toList ((w4.setCell ⟨L.rb k,(PM.at_ (PM.lv G k)[j] y0).toNat,none⟩ v4).alloc o) w5)
  (hb5:v5.ownBlock = s.ownBlock\/v5.ownBlock = some ((w4.setCell ⟨L.rb k,(PM.at_ (PM.lv G k)[j] y0).toNat,none⟩ v4).alloc o).heap.size) :
  LQ eG eI B Bq L gv n k G T M F wb (y0 :: (qs ++ [PM.at_ (PM.lv G k)[j] y0])) (PM.curA (PM.lv G k) y0 (j + 1)) c0 v5 w5:=by
 obtain ⟨q1,q2⟩:=hQ.more hk hj ht
 have hy0:=hQ.mem y0 (by simp)
 have hg:(PM.lv G k)[j]∈PM.lv G k:=List.getElem_mem hj
 have hr0:=PM.row_rng hk hQ.base hy0
 have hto:=(hQ.base.gpn k _ hk hg).rng hr0.1 hr0.2
 have hne:PM.comp (PM.tr T' k y0) (PM.lv G k)[j] ≠ []:=(PM.row_mul hk hQ.base hy0 hg).1.ne (by omega)
 have hrM:=hC.mr k hk
 have hCr:=(hC.keep t4).setRow hk (m:=(PM.at_ (PM.lv G k)[j] y0).toNat) (by omega) r4 hne (fun b hb hm=>by have:=F4.ge b hb;have:=hC.lM b hm;omega)
 have hst:=Zaf w4 (L.rb k) (PM.at_ (PM.lv G k)[j] y0).toNat v4
 have hs4:wr.heap.size<=w4.heap.size:=t4.size
 have hs5:(w4.setCell ⟨L.rb k,(PM.at_ (PM.lv G k)[j] y0).toNat,none⟩ v4).heap.size = w4.heap.size:=by simp [World.setCell]
 have hsM:∀ b∈s.ownBlock.toList,b ∉ M:=fun b hb hm=>by
  have:=(hq.lt b (by simpa using hb)).1;have:=hMb b hm;omega
 have hsF:∀ b∈s.ownBlock.toList,b ∉ F' ++ f4:=fun b hb hm=>by
  rcases List.mem_append.1 hm with hm | hm
  ·exact hqF b (by simpa using hb) hm
  ·have:=(hq.lt b (by simpa using hb)).2;have:=F4.ge b hm;omega
 have hC5:=(hCr.keep ((Only.refl [] _).alloc o)).only hO5 hsM hsF
 have hOA:Only M wb ((w4.setCell ⟨L.rb k,(PM.at_ (PM.lv G k)[j] y0).toNat,none⟩ v4).alloc o):=(((hO.keepThen t4).setCell (fun _=>hrM) _).alloc o)
 have hO':Only M wb w5:=hOA.then_ hO5 (fun b hb hl=>by
  have:=(hq.lt b (by simpa using hb)).1;omega)
 refine ⟨_,F' ++ f4,q1,hC5,hq5,fun g hg' hm=>?_,?_,hO',fun b hb=>?_,fun b hb=>List.mem_append_left _ (hF2 b hb),fun i hi=>?_⟩
 ·rcases hb5 with e | e
  ·rw [e] at hg';exact hsF g (by simpa using hg') hm
  ·rw [e] at hg'
   have e2:g = ((w4.setCell ⟨L.rb k,(PM.at_ (PM.lv G k)[j] y0).toNat,none⟩ v4).alloc o).heap.size:=by simpa [eq_comm] using hg'
   have e3:((w4.setCell ⟨L.rb k,(PM.at_ (PM.lv G k)[j] y0).toNat,none⟩ v4).alloc o).heap.size = w4.heap.size + 1:=by simp [World.setCell]
   rcases List.mem_append.1 hm with hm | hm
   ·have:=hC.lF g hm;omega
   ·have:=F4.lt g hm;omega
 ·rw [q2]
  have:=PM.cntR_le n (PM.setT T' k (PM.at_ (PM.lv G k)[j] y0).toNat (PM.comp (PM.tr T' k y0) (PM.lv G k)[j])) k
  rw [q2] at this
  simp only [List.length_cons,List.length_append,List.length_nil] at hc ⊢
  omega
 ·rcases List.mem_append.1 hb with hb | hb
  ·exact hF1 b hb
  ·have:=F4.ge b hb;have:=hO.size;exact .inr (by omega)
 ·have hin:i < n:=by omega
  have hl:L.rb i < wr.heap.size:=hC.lM _ (hC.mr i hin)
  have e1:=t4.block _ hl (by simp)
  have e2:=hst.block (L.rb i) (by omega) (by
   intro hm
   have:L.rb i = L.rb k:=by simpa using hm
   have:=hC.rr i k hin hk this;omega)
  have e3:=((Only.refl [] (w4.setCell ⟨L.rb k,(PM.at_ (PM.lv G k)[j] y0).toNat,none⟩ v4)).alloc o).block (L.rb i) (by rw [hs5];omega) (by simp)
  have e4:=hO5.block (L.rb i) (by have:=((Only.refl [] (w4.setCell ⟨L.rb k,(PM.at_ (PM.lv G k)[j] y0).toNat,none⟩ v4)).alloc o).size;omega) (fun hm=>hsM _ hm (hC.mr i hin))
  exact e4.trans (e3.trans (e2.trans (e1.trans (hr i hi))))
theorem LQ.pop (h:LQ eG eI B Bq L gv n k G T M F wb (y0 :: qs) (PM.curA (PM.lv G k) y0 j) c0 s wr) (hk:k < n) (hj:(PM.lv G k).length<=j) {v1:Value} (hq1:Que eI Bq wr v1 qs) (hv:v1.ownBlock = s.ownBlock) :
  LQ eG eI B Bq L gv n k G T M F wb qs PM.cur0 (n + n) v1 wr/\(n - fillW wr (L.rb k) n) + lenV v1 < c0:=by
 obtain ⟨T',F',hQ,hC,hq,hqF,hc,hO,hF1,hF2,hr⟩:=h
 have hQ':=hQ.pop hj
 have hl:=hQ'.len hk
 refine ⟨⟨T',F',hQ',hC,hq1,fun g hg=>hqF g (by rw [<- hv];exact hg),by omega,hO,hF1,hF2,hr⟩,?_⟩
 rw [hC.fill hk,hq1.lenV]
 simp only [List.length_cons] at hc
 omega
end
def SP (T:PM.Rows) (k:Nat) (ys:List Int) (L:List (List Int)) (i j:Nat) (q:List Int):Prop:=
 (∃ y∈ys.take i,∃ g∈L,q = PM.comp (PM.tr T k y) g)\/(∃ y,ys[i]? = some y/\∃ g∈L.take j,q = PM.comp (PM.tr T k y) g)
theorem SP.zero {T:PM.Rows} {k:Nat} {ys:List Int} {L:List (List Int)} {q:List Int} (h:SP T k ys L 0 0 q):False:=by
 rcases h with ⟨y,hy,-⟩ | ⟨y,-,g,hg,-⟩
 ·simp at hy
 ·simp at hg
theorem SP.succ {T:PM.Rows} {k:Nat} {ys:List Int} {L:List (List Int)} {i j:Nat} {q:List Int} {y0:Int} (hi:ys[i]? = some y0) (hj:j < L.length) (h:SP T k ys L i (j + 1) q):SP T k ys L i j q\/q = PM.comp (PM.tr T k y0) L[j]:=by
 rcases h with h | ⟨y,hy,g,hg,rfl⟩
 ·exact .inl (.inl h)
 ·rw [List.take_succ_eq_append_getElem hj] at hg
  rw [hi] at hy;injection hy with hy;subst hy
  rcases List.mem_append.1 hg with hg | hg
  ·exact .inl (.inr ⟨_,hi,g,hg,rfl⟩)
  ·have:g = L[j]:=by simpa using hg
   subst this;exact .inr rfl
theorem SP.next {T:PM.Rows} {k:Nat} {ys:List Int} {L:List (List Int)} {i j:Nat} {q:List Int} (hj:L.length<=j) (h:SP T k ys L (i + 1) 0 q):SP T k ys L i j q:=by
 rcases h with ⟨y,hy,g,hg,rfl⟩ | ⟨y,-,g,hg,-⟩
 ·rw [List.mem_take_iff_getElem] at hy
  obtain ⟨m,hm,rfl⟩:=hy
  by_cases hmi:m < i
  ·exact .inl ⟨_,List.mem_take_iff_getElem.2 ⟨m,by omega,rfl⟩,g,hg,rfl⟩
  ·have:m = i:=by omega
   subst this
   exact .inr ⟨_,List.getElem?_eq_getElem (by omega),g,by rw [List.take_of_length_le hj];exact hg,rfl⟩
 ·simp at hg
theorem SP.all {T:PM.Rows} {k:Nat} {ys:List Int} {L:List (List Int)} {i j:Nat} (hi:ys.length<=i) {y:Int} (hy:y∈ys) {g:List Int} (hg:g∈L):SP T k ys L i j (PM.comp (PM.tr T k y) g):=
 .inl ⟨y,by rw [List.take_of_length_le hi];exact hy,g,hg,rfl⟩
def LP (e:TypeId) (B:Nat) (L:Lay) (gv1:Nat->Value) (n k:Nat) (G1:PM.Gens) (T1:PM.Rows) (M1 F1:List Nat) (W:World) (S:List Int->Prop) (wr:World):Prop:=
 ∃ gv' G' T' M' F',Ch e B wr L gv' n G' T' M' F'/\PM.PS n k G1 T1 G' T' S/\PM.Ln n (k + 1) G' T'/\Mv L (k + 1) gv1 gv' M1 M' F1 F' [] W wr
section
variable {e:TypeId} {B:Nat} {L:Lay} {gv gv1 gv':Nat->Value} {n k:Nat} {G G1 G':PM.Gens} {T T1 T':PM.Rows} {M M1 M' F F0 F1 F' f:List Nat} {w W2 W wr:World} {S:List Int->Prop}
theorem LP.start (hC:Ch e B W L gv1 n G1 T1 M1 F1) (hB:PM.Base n G1 T1) (hCp:PM.Cpl n (k + 1) G1 T1) (hL:PM.Ln n (k + 1) G1 T1):LP e B L gv1 n k G1 T1 M1 F1 W (fun _=>False) W:=
 ⟨gv1,G1,T1,M1,F1,hC,PM.PS.start hC.shape hB hCp,hL,Mv.refl _ _ _ _ _ _ _⟩
theorem LP.weak {S':List Int->Prop} (h:LP e B L gv1 n k G1 T1 M1 F1 W S wr) (hs:∀ q,S' q->S q):LP e B L gv1 n k G1 T1 M1 F1 W S' wr:=by
 obtain ⟨a,b,c,d,f,h1,h2,h3,h4⟩:=h
 exact ⟨a,b,c,d,f,h1,h2.weak hs,h3,h4⟩
theorem LP.keep {w':World} (hk:k < n) (h:LP e B L gv1 n k G1 T1 M1 F1 W S wr) (hr:∀ j,j < n->L.rb j < W.heap.size) (ho:Only [] wr w'):LP e B L gv1 n k G1 T1 M1 F1 W S w':=by
 obtain ⟨a,b,c,d,f,h1,h2,h3,h4⟩:=h
 exact ⟨a,b,c,d,f,h1.keep ho,h2,h3,h4.keep ho fun j hj=>hr j (by omega)⟩
theorem LP.step (hk:k < n) (hC:Ch e B wr L gv' n G' T' M' F') (hP:PM.PS n k G1 T1 G' T' S) (hM:Mv L (k + 1) gv1 gv' M1 M' F1 F' [] W wr) {q:List Int} (hn:PM.tr T' k (PM.at_ q (k:Int)) ≠ [])
  {w3 w4:World} (t:Only [] wr w3) {fp:List Nat} (hf:∀ b∈fp,wr.heap.size<=b) (ha:AddP e B L n (k + 1) (PM.res T' k q) G' T' M' F' fp gv' w3 w4):LP e B L gv1 n k G1 T1 M1 F1 W (fun x=>S x\/x = q) w4:=by
 obtain ⟨gv2,G2,T2,M2,F2,hC2,hA,hL,hMv⟩:=ha
 exact ⟨gv2,G2,T2,M2,F2,hC2,hP.step hC2.shape hn hA,hL,hM.trans (Mv.before t hMv fun j hj=>hC.lM _ (hC.mr j (by omega))) fun b hb=>.inr (.inr (Nat.le_trans hM.only.size (hf b hb)))⟩
theorem LP.may (hk:k < n) (hP:PM.PS n k G1 T1 G' T' S) (hcl:∀ y g,PM.tr T1 k y ≠ []->g∈PM.lv G1 k->PM.tr T1 k (PM.at_ g y) ≠ []) {y:Int} {g:List Int} (hy:PM.tr T1 k y ≠ []) (hg:g∈PM.lv G1 k) :
  PM.tr T' k (PM.at_ (PM.comp (PM.tr T1 k y) g) (k:Int)) ≠ []/\PM.May n (k + 1) (PM.res T' k (PM.comp (PM.tr T1 k y) g)) G' /\
  PM.res T' k (PM.comp (PM.tr T1 k y) g) = PM.comp (PM.comp (PM.tr T1 k y) g) (PM.inv (PM.tr T1 k (PM.at_ g y))):=by
 have hy':PM.tr T' k y ≠ []:=by rw [hP.tr];exact hy
 have hg':g∈PM.lv G' k:=by rw [hP.lv];exact hg
 obtain ⟨a1,a2,a3,a4⟩:=PM.row_mul hk hP.base hy' hg'
 rw [hP.tr] at a1 a2 a3 a4
 have hn:PM.tr T' k (PM.at_ (PM.comp (PM.tr T1 k y) g) (k:Int)) ≠ []:=by rw [a4,hP.tr];exact hcl y g hy hg
 refine ⟨hn,PM.Zqo hk hP.base a1 a2 a3 hn,?_⟩
 unfold PM.res
 rw [a4,hP.tr]
theorem LP.genAt (hC:Ch e B wr L gv' n G' T' M' F') (hP:PM.PS n k G1 T1 G' T' S) (hM:Mv L (k + 1) gv1 gv' M1 M' F1 F' [] W wr) (hk:k < n) {j:Nat} (hj:j < (PM.lv G1 k).length) :
  ∃ g c u f,gv1 k = .slice (some ⟨g,0,none⟩) (PM.lv G1 k).length c/\wr.cell? ⟨g,j,none⟩ = some u/\Rd wr u (PM.lv G1 k)[j] f/\∀ b∈f,b∈F':=by
 have e1:=hP.lv
 have e2:=hM.gvs k (Nat.lt_succ_self k)
 obtain ⟨g,c,u,f,a1,a2,a3,a4⟩:=hC.genAt hk (j:=j) (by rw [e1];exact hj)
 have e3:(PM.lv G' k)[j]'(by rw [e1];exact hj) = (PM.lv G1 k)[j]:=by simp only [e1]
 rw [e2,e1] at a1
 exact ⟨g,c,u,f,a1,a2,e3 ▸ a3,a4⟩
theorem LP.rowAt (hC:Ch e B wr L gv' n G' T' M' F') (hP:PM.PS n k G1 T1 G' T' S) (hk:k < n) {y:Int} (hy:PM.tr T1 k y ≠ []) :
  0<=y/\y < (n:Int)/\PM.PN n (PM.tr T1 k y)/\∃ b off cap f,wr.cell? ⟨L.rb k,y.toNat,none⟩ = some (.slice (some ⟨b,off,none⟩) (PM.tr T1 k y).length cap)/\Rd wr (.slice (some ⟨b,off,none⟩) (PM.tr T1 k y).length cap) (PM.tr T1 k y) f/\∀ b∈f,b∈F':=by
 have hy':PM.tr T' k y ≠ []:=by rw [hP.tr];exact hy
 obtain ⟨h0,h1⟩:=PM.row_rng hk hP.base hy'
 have h2:=hP.base.wf.pn k y hk hy'
 have h3:=hC.at_some hk h0 h1 hy'
 rw [hP.tr] at h2 h3
 exact ⟨h0,h1,h2,h3⟩
theorem LP.fin {p:List Int} (hk:k < n) (h:LP e B L gv1 n k G1 T1 M1 F1 W S wr) (hS:∀ y g,PM.tr T1 k y ≠ []->g∈PM.lv G1 k->S (PM.comp (PM.tr T1 k y) g))
  (h0:Mv L k gv gv1 M M1 F F0 f w W2) (hO:Only M1 W2 W) (hF1:∀ b∈F1,b∈F0\/W2.heap.size<=b) (hF2:∀ b∈F0,b∈F1) (hrw:∀ j,j < k->W.heap[L.rb j]? = W2.heap[L.rb j]?)
  (hs:PM.Shape n G T) (hL:PM.Ln n k G T) (hno:PM.has T n (n - k) p = false) (hg0:PM.Grew n k G T G1 T) (hg1:PM.Grew n k G1 T G1 T1)
  (hlv:PM.lv G1 k = PM.lv G k ++ [p]):AddP e B L n k p G T M F f gv w wr:=by
 obtain ⟨gv',G',T',M',F',hC,hP,hLn,hM⟩:=h
 have hgr:PM.Grew n k G T G' T':=(hg0.trans hg1).trans (hP.grew.mono (Nat.le_succ k))
 have hlv':PM.lv G' k = PM.lv G k ++ [p]:=by rw [hP.lv];exact hlv
 have hA:PM.Added n k p G T G' T':=by
  refine PM.Added.level hk hP.base hP.cpl hgr (fun y g hy hg=>?_) (by rw [hlv'];simp) (fun g hg=>?_)
  ·rw [hP.tr] at hy ⊢
   rw [hP.lv] at hg
   exact hP.ok _ (hS y g hy hg)
  ·rw [hlv'] at hg
   simpa using hg
 refine ⟨gv',G',T',M',F',hC,hA,PM.Ln.more hs hC.shape hL hLn hgr.ext hno hA.has (by rw [hlv'];simp),?_⟩
 have hmid:Mv L k gv1 gv1 M1 M1 F0 F1 [] W2 W:=⟨hO,fun _ _=>rfl,hrw,fun _ h=>.inl h,fun _ h=>h,fun b hb=>(hF1 b hb).imp id fun h=>.inr h,hF2⟩
 have hM':Mv L k gv1 gv' M1 M' F1 F' [] W wr:=hM.mono (Nat.le_succ k) (by simp)
 exact (h0.trans hmid (by simp)).trans hM' (by simp)
end
def A1 (e:TypeId) (B:Nat) (L:Lay) (gv:Nat->Value) (n k:Nat) (p:List Int) (G:PM.Gens) (T:PM.Rows) (M F f:List Nat) (w wx:World):Prop:=
 ∃ a9 c9 M1 F1,Ch e B wx L (upd gv k (.slice a9 ((PM.lv G k).length + 1) c9)) n (G.set k (PM.lv G k ++ [p])) T M1 F1/\Mv L k gv (upd gv k (.slice a9 ((PM.lv G k).length + 1) c9)) M M1 F F1 f w wx
theorem A1.of {e:TypeId} {B:Nat} {L:Lay} {gv:Nat->Value} {n k:Nat} {p:List Int} {G:PM.Gens} {T:PM.Rows} {M F f:List Nat} {w w1 w8 w9:World} (hC1:Ch e B w1 L gv n G T M F) (h1:Only [] w w1) (hk:k < n) (h8:Only [] w1 w8)
  (hO:Only (gv k).ownBlock.toList w8 w9) {a9:Option Addr} {n9 c9:Nat} {fs:List (List Nat)} (hA:Acc B e w9 (.slice a9 n9 c9) (PM.lv G k ++ [p]) fs) (hfs:∀ b∈fs.flatten,b∈F\/b∈f) (hf:∀ b∈f,b ∉ M/\b < w.heap.size)
  (hb:(Value.slice a9 n9 c9).ownBlock = (gv k).ownBlock\/(Value.slice a9 n9 c9).ownBlock = some w8.heap.size) (hr:∀ j,j < k->L.rb j < w.heap.size):A1 e B L gv n k p G T M F f w (w9.setCell ⟨L.bg,k,none⟩ (.slice a9 n9 c9)):=by
 have hn9:n9 = (PM.lv G k).length + 1:=by
  obtain ⟨a,c,hh⟩:=hA.form
  injection hh with _ h2 _
  rw [h2];simp
 subst hn9
 have hC8:=hC1.keep h8
 have hs8:w.heap.size<=w8.heap.size:=Nat.le_trans h1.size h8.size
 have hgen:=hC8.setGen hk hO hA (f:=f) hfs (fun b hb=>⟨(hf b hb).1,Nat.lt_of_lt_of_le (hf b hb).2 hs8⟩) hb
 have hW:Only M w (w9.setCell ⟨L.bg,k,none⟩ (.slice a9 ((PM.lv G k).length + 1) c9)):=
  ((((h1.trans h8).weaken M).trans (hO.mono fun b hb _=>hC1.ma k b hk (by simpa using hb))).setCell (fun _=>hC1.mg) _)
 refine ⟨a9,c9,_,_,hgen,hW,fun j hj=>Zcc _ _ (by omega),fun j hj=>?_,fun b hb'=>?_,fun b hb'=>List.mem_append_right _ hb',fun b hb'=>?_,fun b hb'=>List.mem_append_left _ hb'⟩
 ·have hjn:j < n:=by omega
  have e1:=(h1.trans h8).block (L.rb j) (hr j hj) (by simp)
  have e2:=hO.block (L.rb j) (Nat.lt_of_lt_of_le (hr j hj) hs8) (fun hm=>(hC1.ag k _ hk (by simpa using hm)).2 j hjn rfl)
  have e3:=(Zaf w9 L.bg k (.slice a9 ((PM.lv G k).length + 1) c9)).block (L.rb j) (Nat.lt_of_lt_of_le (Nat.lt_of_lt_of_le (hr j hj) hs8) hO.size) (by simpa using hC1.rg j hjn)
  exact e3.trans (e2.trans e1)
 ·rcases List.mem_append.1 hb' with h | h
  ·rcases hb with e | e
   ·rw [e] at h;exact .inl (hC1.ma k b hk (by simpa using h))
   ·rw [e] at h;exact .inr (by have:b = w8.heap.size:=(by simpa [eq_comm] using h);omega)
  ·exact .inl h
 ·rcases List.mem_append.1 hb' with h | h
  ·exact .inl h
  ·exact .inr (.inl h)
theorem Zdf {M f:List Nat} {s s1:Nat} {w:World} (h:∀ b∈M,b < s) (hs:s<=s1) (hf:Fresh s1 w f):∀ b∈f,b ∉ M:=fun b hb hm=>by
 have:=h b hm
 have:=hf.ge b hb
 omega
theorem Zse {k:Nat} (h:k<=1000):IntKind.i64.wrap ((k:Int) + 1) = ((k + 1:Nat):Int):=by
 have:IntKind.i64.wrap ((k:Int) + 1) = (k:Int) + 1:=by rw [IntKind.wrap_i64];omega
 rw [this];rfl
set_option maxHeartbeats 8000000 in
theorem Zrd:∀ (N n k:Nat),n - k = N->k<=n->∀ (B:Nat) (L:Lay) (gv:Nat->Value) (G:PM.Gens) (T:PM.Rows) (M F:List Nat) (w:World),Ch 27 B w L gv n G T M F->L.oG = 1->L.oT = 2->PM.Inv n k G T->PM.Ln n k G T ->
  ∀ (p:List Int) (vp:Value) (fp:List Nat),PM.May n k p G->Rd w vp p fp->(∀ b∈fp,b ∉ M)->B<=w.heap.size ->
  Calls Tryz.prog 193 #[.pointer (some ⟨L.g,0,none⟩),.int .i64 k,vp] w fun en w'=>en = .returned (.tuple #[])/\AddP 27 B L n k p G T M F fp gv w w':=by
 intro N
 induction N with
 | zero=>
  intro n k hN hk B L gv G T M F w hC hoG hoT hI hLn p vp fp hm hp hfM hB
  have e:PM.has T n (n - k) p = true:=has_end (by omega) p
  have He:=zH e
  go_enter Tryz.func193,Tryz.ntmps193
  go_wp2_with (go_at_call 135;(with_reducible refine (Zej w hC hI.wf hoT k vp p fp hk hp hm.pn).mono ?_);rintro en w1 ⟨he,t1⟩;rw [He.out] at he;subst he)
  first | go_end0 | refine bodyPost_ret (results_none rfl _ _ _) rfl ?_
  exact ⟨rfl,gv,G,T,M,F,hC.keep t1,PM.Added.same hI He.out,hLn,(Mv.refl L k gv M F fp w).keep t1 fun j hj=>hC.lM _ (hC.mr j (by omega))⟩
 | succ N ih=>
  intro n k hN hk B L gv G T M F w hC hoG hoT hI hLn p vp fp hm hp hfM hB
  have hkn:k < n:=by omega
  have hrlt:∀ j,j < k->L.rb j < w.heap.size:=fun j hj=>hC.lM _ (hC.mr j (by omega))
  rcases hh:PM.has T n (n - k) p
  rotate_left
  ·have He:=zH hh
   clear hh
   go_enter Tryz.func193,Tryz.ntmps193
   go_wp2_with (go_at_call 135;(with_reducible refine (Zej w hC hI.wf hoT k vp p fp hk hp hm.pn).mono ?_);rintro en w1 ⟨he,t1⟩;rw [He.out] at he;subst he)
   first | go_end0 | refine bodyPost_ret (results_none rfl _ _ _) rfl ?_
   exact ⟨rfl,gv,G,T,M,F,hC.keep t1,PM.Added.same hI He.out,hLn,(Mv.refl L k gv M F fp w).keep t1 hrlt⟩
  obtain ⟨ap,cp,rfl,hIp⟩:=hp.ints
  have hpb:=hIp.bound
  have He:=zH hh
  have IH:=zH ih
  have HC:=zH hC
  have HI:=zH hI
  have HLn:=zH hLn
  have Hm:=zH hm
  have Hp:=zH hp
  have HfM:=zH hfM
  have Hr:=zH hrlt
  have hn20:=hC.le
  have hk0:(0:Int)<=(k:Int):=by omega
  have hkn':(k:Int) < (n:Int):=by omega
  obtain ⟨i1,hi,hz0,hz1,hz2⟩:=info_parts Tryz.info22
  have hll:=hLn.le (Nat.le_refl _) hkn hn20
  have Hll:=zH hll
  clear hh ih hC hI hLn hm hp hfM hrlt hll
  go_enter Tryz.func193,Tryz.ntmps193
  go_wp2_with (go_at_call 135;(with_reducible refine (Zej w HC.out HI.out.wf hoT k _ p fp hk Hp.out Hm.out.pn).mono ?_);rintro en w1 ⟨he,t1⟩;rw [He.out] at he;subst he)
  have hC1:=HC.out.keep t1
  have cg:=hC1.cg
  have ct:=hC1.ct
  rw [hoG] at cg
  rw [hoT] at ct
  have cgk:=hC1.gen k hkn
  have hgF:=hC1.gF
  have hgM:L.g ∉ M:=fun hm=>hC1.mf _ hm hgF
  have hgb:L.g ≠ L.bg:=fun e=>hgM (e ▸ hC1.mg)
  obtain ⟨fs,hA,hfsF⟩:=hC1.acc k hkn
  obtain ⟨a0,c0,hgv⟩:=hA.form
  have HA:=zH hA
  have Hgv:=zH hgv
  have HC1:=zH hC1
  have hgo:L.g ∉ (gv k).ownBlock.toList:=fun hm=>hgM (hC1.ma k _ hkn (by simpa using hm))
  have HK1:=zH t1
  have hcore:∀ b∈L.bg :: (List.range n).map L.rb,b ∉ (gv k).ownBlock.toList:=by
   intro b hb hm
   obtain ⟨g1,g2⟩:=hC1.ag k b hkn (by simpa using hm)
   rcases List.mem_cons.1 hb with e | hb
   ·exact g1 e
   ·obtain ⟨j,hj,e⟩:=List.mem_map.1 hb
    exact g2 j (List.mem_range.1 hj) e.symm
  have HCO:Hid (∀ w8 w9,Only [] w1 w8->Only (gv k).ownBlock.toList w8 w9->(w9.cell? ⟨L.bg,k,none⟩ = some (gv k)/\w9.frozen? ⟨L.bg,k,none⟩ = false)/\w9.cell? ⟨L.g,1,none⟩ = some (.slice (some ⟨L.bg,0,none⟩) n L.cG)):=zH (fun w8 w9 h8 h9=>
   have ho:=(h8.weaken _).trans h9
   ⟨⟨ho.cell (hcore _ (by simp)) cgk,(hC1.own.only ho hcore).frozen (by simp)⟩,ho.cell hgo cg⟩)
  clear hC1 hA hgv hcore
  have cgd:w1.drew.cell? ⟨L.bg,k,none⟩ = some (gv k):=((Only.refl [] w1).drew).cell (by simp) cgk
  have cga:(w1.alloc (.cells #[.slice ap p.length cp] 27)).cell? ⟨L.bg,k,none⟩ = some (gv k):=((Only.refl [] w1).alloc _).cell (by simp) cgk
  have cgb:(w1.alloc (.cells #[.slice ap p.length cp] 27)).drew.cell? ⟨L.bg,k,none⟩ = some (gv k):=(((Only.refl [] w1).alloc _).drew).cell (by simp) cgk
  have cgdg:w1.drew.cell? ⟨L.g,1,none⟩ = some (.slice (some ⟨L.bg,0,none⟩) n L.cG):=((Only.refl [] w1).drew).cell (by simp) cg
  have cgag:(w1.alloc (.cells #[.slice ap p.length cp] 27)).cell? ⟨L.g,1,none⟩ = some (.slice (some ⟨L.bg,0,none⟩) n L.cG):=((Only.refl [] w1).alloc _).cell (by simp) cg
  have cgbg:(w1.alloc (.cells #[.slice ap p.length cp] 27)).drew.cell? ⟨L.g,1,none⟩ = some (.slice (some ⟨L.bg,0,none⟩) n L.cG):=(((Only.refl [] w1).alloc _).drew).cell (by simp) cg
  go_cut [] (fun wx=>A1 27 B L gv n k p G T M F fp w wx)
  case first=>
   go_region_law (first
    | (refine Zja rfl _ _ 24 rfl B 27 i1 _ 24 Tryz.underlying24 hi hz0 hz1 hz2 rfl (by decide) (by decide) w1 (gv k) (PM.lv G k) fs rfl HA.out (by with_reducible repeat (first | exact Only.refl _ _ | refine Only.drew ?_ | refine Only.alloc ?_ _)) (Nat.le_trans hB HK1.out.size) _ 1 [.slice ap p.length cp] p fp rfl (lit_src _ [.slice ap p.length cp] _ rfl) (by intro u hu;simp at hu;subst hu;rfl) (zK Hp.out zA) (fun b hb hv=>HfM.out b hb (HC1.out.ma k b hkn hv)) (by have:=Hll.out;omega) ?_;intro v9 w9 hA9 hO9 hb9;obtain ⟨a9,n9,c9,rfl⟩:∃ a n c,v9 = Value.slice a n c:=(let ⟨a,c,hh⟩:=hA9.form;⟨a,_,c,hh⟩);obtain ⟨⟨y9,z9⟩,x9⟩:=HCO.out _ _ (by with_reducible repeat (first | exact Only.refl _ _ | refine Only.drew ?_ | refine Only.alloc ?_ _)) hO9)
    | fail)
   all_goals go_wp2_with fail
   all_goals go_meet
   all_goals exact A1.of HC1.out HK1.out hkn (by with_reducible repeat (first | exact Only.refl _ _ | refine Only.drew ?_ | refine Only.alloc ?_ _)) hO9 hA9 (fun b hb=>by
    rw [List.flatten_append] at hb
    rcases List.mem_append.1 hb with hb | hb
    ·exact .inl (hfsF b hb)
    ·exact .inr (by simpa using hb)) (fun b hb=>⟨HfM.out b hb,Rp.lt Hp.out b hb⟩) hb9 Hr.out
  case rest=>
   obtain ⟨a9,c9,M1,F1,hC2,hMv⟩:=hcut
   obtain ⟨W2,hnew⟩:∃ W,W = wc:=⟨_,rfl⟩
   subst hnew
   clear cg ct cgk cgd cga cgb cgdg cgag cgbg hgo
   obtain ⟨s1,s2,s3⟩:=PM.Zjw HC1.out.shape hkn HI.out Hm.out
   have hl1:PM.lv (G.set k (PM.lv G k ++ [p])) k = PM.lv G k ++ [p]:=by rw [PM.lv_set (by rw [HC1.out.shape.lg];exact hkn),if_pos rfl]
   have hll1:∀ j,k + 1<=j->PM.lv (G.set k (PM.lv G k ++ [p])) j = PM.lv G j:=fun j hj=>by rw [PM.lv_set (by rw [HC1.out.shape.lg];exact hkn),if_neg (by omega)]
   have hgk:upd gv k (.slice a9 ((PM.lv G k).length + 1) c9) k = .slice a9 (PM.lv (G.set k (PM.lv G k ++ [p])) k).length c9:=by rw [Zcx,hl1];simp
   obtain ⟨G1,hG1⟩:∃ X,X = G.set k (PM.lv G k ++ [p]):=⟨_,rfl⟩
   obtain ⟨gv1,hgv1⟩:∃ X,X = upd gv k (.slice a9 ((PM.lv G k).length + 1) c9):=⟨_,rfl⟩
   rw [<- hgv1] at hgk hC2 hMv
   rw [<- hG1] at hC2 s1 s2 s3 hl1 hll1 hgk
   clear hG1 hgv1
   have HS1:=zH s1
   have HS2:=zH s2
   have HS3:=zH s3
   have Hl1:=zH hl1
   have Hll1:=zH hll1
   have HMv:=zH hMv
   have Hgk:=zH hgk
   have cg:=hC2.cg
   have ct:=hC2.ct
   rw [hoG] at cg
   rw [hoT] at ct
   have cgk:=hC2.gen k hkn
   rw [hgk] at cgk
   have crk:=hC2.row k hkn
   have HC2:=zH hC2
   have hlg:(PM.lv G1 k).length<=401:=by rw [hl1];simp;exact Hll.out
   have hMb:=HC2.out.lM
   have HMb:=zH hMb
   obtain ⟨i0,hi0,hz00,hz01,hz02⟩:=info_parts Tryz.info2
   clear s1 s2 s3 hl1 hll1 hMv hgk hC2 hMb
   go_wp2_with (go_at_call 231;(with_reducible refine (Zjf W2 HC2.out k hkn).mono ?_);rintro en w3 ⟨v3,fs3,rfl,A3,F3,t3⟩)
   have hsz3:=t3.size
   go_loopw [7] (fun s7 wr=>∃ qs,LQ 27 2 B W2.heap.size L gv1 n k G1 T M1 F1 W2 qs PM.cur0 (n + n) s7 wr)
    (fun s7 wr=>(n - fillW wr (L.rb k) n) + lenV s7)
   case atStart=>
    have hq3:=Que.ofAcc A3 (orb_i64 (by omega) T k)
    have hQ0:=PM.QS.start HC2.out.shape HS1.out HS2.out (Zsm n T k) (fun y=>⟨fun hy=>(mem_orb.1 hy).2,fun hy=>mem_orb.2 ⟨PM.row_rng hkn HS1.out hy,hy⟩⟩)
    refine ⟨orb n T k,T,F1,hQ0,HC2.out.keep t3,hq3,fun g hg hm=>?_,?_,(t3.weaken M1),fun b hb=>.inl hb,fun b hb=>hb,fun j hj=>t3.block _ (HC2.out.lM _ (HC2.out.mr j (by omega))) (by simp)⟩
    ·have:=(hq3.lt g hg).1;have:=HC2.out.lF g hm;omega
    ·have:=Zfy n T k
     have e:(orb n T k).length<=n:=this
     omega
   case round=>
    obtain ⟨W4,hnew⟩:∃ W,W = wr:=⟨_,rfl⟩
    subst hnew
    obtain ⟨qs,hLQ⟩:=hrel
    have HLQ:=zH hLQ
    obtain ⟨T',F',hQ,hC',hq,hqF,hc,hO,hF1',hF2',hrw⟩:=hLQ
    clear A3 F3 cg ct cgk crk
    have HCp:=zH hC'
    have HQ:=zH hQ
    have cg:=hC'.cg
    have ct:=hC'.ct
    rw [hoG] at cg
    rw [hoT] at ct
    have cgk:=hC'.gen k hkn
    rw [Hgk.out] at cgk
    have crk:=hC'.row k hkn
    rcases qs with _ | ⟨y0,qs⟩
    ·obtain ⟨a9,c9,hv9⟩:=hq.form
     simp only [List.length_nil] at hv9
     subst hv9
     have hst:=LP.start hC' hQ.base hQ.cpl (PM.Ln.ext (HLn.out.mono (Nat.le_succ k)) (G':=G1) Hll1.out hQ.grew.ext)
     have hcl:=hQ.closed
     have hgrw:=hQ.grew
     have HST:=zH hst
     have Hcl:=zH hcl
     have Hgrw:=zH hgrw
     have HO:=zH hO
     have HF1:=zH hF1'
     have HF2:=zH hF2'
     have Hrw:=zH hrw
     have IHk:∀ (gv2:Nat->Value) (G2:PM.Gens) (T2:PM.Rows) (M2 F2:List Nat) (Wx:World),Ch 27 B Wx L gv2 n G2 T2 M2 F2->PM.Inv n (k + 1) G2 T2->PM.Ln n (k + 1) G2 T2 ->
       ∀ (p:List Int) (vp:Value) (fp:List Nat),PM.May n (k + 1) p G2->Rd Wx vp p fp->(∀ b∈fp,b ∉ M2)->B<=Wx.heap.size ->
       Calls Tryz.prog 193 #[.pointer (some ⟨L.g,0,none⟩),.int .i64 (IntKind.i64.wrap ((k:Int) + 1)),vp] Wx fun en w'=>en = .returned (.tuple #[])/\AddP 27 B L n (k + 1) p G2 T2 M2 F2 fp gv2 Wx w':=
      fun gv2 G2 T2 M2 F2 Wx hC h3 h4 p vp fp h5 h6 h7 h8=>by rw [Zse (by omega:k<=1000)];exact IH.out n (k + 1) (by omega) (by omega) B L gv2 G2 T2 M2 F2 Wx hC hoG hoT h3 h4 p vp fp h5 h6 h7 h8
     have HIk:=zH IHk
     clear hst hcl hgrw hQ hC' hq hqF hF1' hF2' hrw hc hO IHk
     go_wp2_with (first | (go_at_call 231;(with_reducible refine (Zjf W4 HCp.out k hkn).mono ?_);rintro en w5 ⟨v5,fs5,rfl,A5,F5,t5⟩;have R5:=A5.rd (by decide);have G5:=A5.fresh F5;obtain ⟨a5,c5,rfl,I5⟩:=R5.ints) | fail)
     have hol:(orb n T' k).length<=n:=Zfy n T' k
     have hlt5:∀ j,j < n->L.rb j < w5.heap.size:=fun j hj=>Nat.lt_of_lt_of_le (HCp.out.lM _ (HCp.out.mr j hj)) t5.size
     have Hlt5:=zH hlt5
     have HG5:=zH G5
     have HM4:=zH HCp.out.lM
     have HS5:=zH ((LP.start (HCp.out.keep t5) HQ.out.base HQ.out.cpl (PM.Ln.ext (HLn.out.mono (Nat.le_succ k)) (G':=G1) Hll1.out Hgrw.out.ext)))
     clear cg ct cgk crk hlt5 A5 F5 R5 G5
     go_loopw [91] (fun i wr=>∃ j:Nat,j<=(orb n T' k).length/\i = .int .i64 j/\LP 27 B L gv1 n k G1 T' M1 F' w5 (SP T' k (orb n T' k) (PM.lv G1 k) j 0) wr)
      (fun i _=>(orb n T' k).length - (intOf i).toNat)
     case atStart=>exact ⟨0,Nat.zero_le _,rfl,HS5.out.weak fun q hq=>hq.zero⟩
     case round=>
      obtain ⟨W6,hnew⟩:∃ W,W = wr:=⟨_,rfl⟩
      subst hnew
      obtain ⟨j,hj,rfl,hLP⟩:=hrel
      have HLP:=zH hLP
      obtain ⟨gv2,G2,T2,M2,F2,hC2,hP2,hL2,hM2⟩:=hLP
      by_cases hlt:j < (orb n T' k).length
      ·obtain ⟨b5,o5,rfl,hfp5,hc5⟩:=I5.at_ j hlt
       have hc6:=hM2.only.cell (p:=⟨b5,o5 + j,none⟩) (fun hm=>by
        have:=HG5.out.ge b5 (by rw [hfp5];simp);have:=HM4.out b5 hm;omega) hc5
       obtain ⟨y0,hy0⟩:∃ y,y = (orb n T' k)[j]:=⟨_,rfl⟩
       rw [<- hy0] at hc6
       have hyo:y0∈orb n T' k:=by rw [hy0];exact List.getElem_mem _
       have hyt:=(mem_orb.1 hyo).2
       have hyi:(orb n T' k)[j]? = some y0:=by rw [hy0];exact List.getElem?_eq_getElem _
       obtain ⟨hy00,hy01⟩:=(mem_orb.1 hyo).1
       have Hyt:=zH hyt
       have Hyi:=zH hyi
       have cg:=hC2.cg
       rw [hoG] at cg
       have cgk:=hC2.gen k hkn
       have hg2:=hM2.gvs k (Nat.lt_succ_self k)
       rw [hg2,Hgk.out] at cgk
       have Hbd:=zH I5.bound
       clear hg2 hy0 hyo hyt hyi hfp5 hc5 hC2 hP2 hL2 hM2
       go_wp2
       clear cg cgk hc6
       go_loopw [103] (fun i wy=>∃ m:Nat,m<=(PM.lv G1 k).length/\i = .int .i64 m/\LP 27 B L gv1 n k G1 T' M1 F' w5 (SP T' k (orb n T' k) (PM.lv G1 k) j m) wy)
        (fun i _=>(PM.lv G1 k).length - (intOf i).toNat)
       case atStart=>exact ⟨0,Nat.zero_le _,rfl,HLP.out⟩
       case round=>
        obtain ⟨W7,hnew⟩:∃ W,W = wr:=⟨_,rfl⟩
        subst hnew
        obtain ⟨m,hm,rfl,hLP⟩:=hrel
        have HLPi:=zH hLP
        obtain ⟨gv3,G3,T3,M3,F3,hC3,hP3,hL3,hM3⟩:=hLP
        by_cases hltm:m < (PM.lv G1 k).length
        ·obtain ⟨gg,cc,u,fu,hgk',hcu,hru,hfu⟩:=LP.genAt hC3 hP3 hM3 hkn hltm
         have hinj:=Hgk.out.symm.trans hgk'
         injection hinj with e1 _ e3
         subst e1
         subst e3
         obtain ⟨au,cu,rfl,Iu⟩:=hru.ints
         obtain ⟨-,-,hpy,b1,o1,cap1,f1,hc1,R1,hf1⟩:=LP.rowAt hC3 hP3 hkn Hyt.out
         have hgm:(PM.lv G1 k)[m]∈PM.lv G1 k:=List.getElem_mem _
         have hgpn:=HQ.out.base.gpn k _ hkn hgm
         have hul:y0 < ((PM.lv G1 k)[m].length:Int):=by rw [hgpn.1];exact hy01
         obtain ⟨bu,ou,rfl,hfu2,hcg⟩:=Iu.at_pm hy00 hul
         have hbF:bu∈F3:=hfu bu (by rw [hfu2];simp)
         have hub:=Iu.bound
         have hat:=Hcl.out y0 _ Hyt.out hgm
         obtain ⟨hto0,hto1,hpt,b2,o2,cap2,f2,hc2,R2,hf2⟩:=LP.rowAt hC3 hP3 hkn hat
         obtain ⟨hno,hmay,hres⟩:=LP.may hkn hP3 Hcl.out Hyt.out hgm
         have Hno:=zH hno
         rw [hres] at hmay
         have Hmay:=zH hmay
         have Hres:=zH hres
         have HC3:=zH hC3
         have hK0:∀ w':World,Only [] W7 w'->(w'.cell? ⟨L.rb k,y0.toNat,none⟩ = some (.slice (some ⟨b1,o1,none⟩) (PM.tr T' k y0).length cap1)/\w'.cell? ⟨bu,ou + y0.toNat,none⟩ = some (.int .i64 (PM.at_ (PM.lv G1 k)[m] y0))/\w'.cell? ⟨L.rb k,(PM.at_ (PM.lv G1 k)[m] y0).toNat,none⟩ = some (.slice (some ⟨b2,o2,none⟩) (PM.tr T' k (PM.at_ (PM.lv G1 k)[m] y0)).length cap2)):=fun w' h0=>⟨h0.cell (by simp) hc1,h0.cell (by simp) hcg,h0.cell (by simp) hc2⟩
         have hK8:∀ (p:List Int) (f:List Nat) (wa w':World),Only [] W7 wa->AddP 27 B L n (k + 1) p G3 T3 M3 F3 f gv3 wa w'->(w'.cell? ⟨L.rb k,y0.toNat,none⟩ = some (.slice (some ⟨b1,o1,none⟩) (PM.tr T' k y0).length cap1)/\w'.cell? ⟨bu,ou + y0.toNat,none⟩ = some (.int .i64 (PM.at_ (PM.lv G1 k)[m] y0))/\w'.cell? ⟨L.rb k,(PM.at_ (PM.lv G1 k)[m] y0).toNat,none⟩ = some (.slice (some ⟨b2,o2,none⟩) (PM.tr T' k (PM.at_ (PM.lv G1 k)[m] y0)).length cap2)):=fun p f wa w' h0 ha=>by
          obtain ⟨_,_,_,_,_,_,_,_,hMv⟩:=ha
          have hr:=hMv.rows k (Nat.lt_succ_self k)
          exact ⟨(World.cell?_of_block hr).trans (h0.cell (by simp) hc1),hMv.only.cell (fun hm=>hC3.mf _ hm hbF) (h0.cell (by simp) hcg),(World.cell?_of_block hr).trans (h0.cell (by simp) hc2)⟩
         have HK0:=zH hK0
         have HK8:=zH hK8
         clear hK0 hK8
         have hB7:B<=W7.heap.size:=Nat.le_trans (hC3.ge _ hC3.mg) (Nat.le_of_lt (hC3.lM _ hC3.mg))
         have HP3:=zH hP3
         have HL3:=zH hL3
         have HM3:=zH hM3
         have Hpy:=zH hpy
         have Hpt:=zH hpt
         have Hgpn:=zH hgpn
         have Hru:=zH hru
         have HR1:=zH R1
         have HR2:=zH R2
         clear hno hmay hres hC3 hP3 hL3 hM3 hpy hpt hgpn hru R1 R2 hgm hat hgk'
         go_wp2
         go_region_held3 (fun w'=>w'.cell? ⟨L.rb k,y0.toNat,none⟩ = some (.slice (some ⟨b1,o1,none⟩) (PM.tr T' k y0).length cap1)/\w'.cell? ⟨bu,ou + y0.toNat,none⟩ = some (.int .i64 (PM.at_ (PM.lv G1 k)[m] y0))/\w'.cell? ⟨L.rb k,(PM.at_ (PM.lv G1 k)[m] y0).toNat,none⟩ = some (.slice (some ⟨b2,o2,none⟩) (PM.tr T' k (PM.at_ (PM.lv G1 k)[m] y0)).length cap2)) ((first | (refine HK8.out _ _ _ _ ?_ (by assumption);((with_reducible repeat (first | exact Only.refl _ _ | assumption | refine Only.drewN ?_ _ | refine Only.drew ?_ | refine Only.alloc ?_ _ | refine Only.trans ?_ (by assumption)));done)) | (refine HK0.out _ ?_;((with_reducible repeat (first | exact Only.refl _ _ | assumption | refine Only.drewN ?_ _ | refine Only.drew ?_ | refine Only.alloc ?_ _ | refine Only.trans ?_ (by assumption)));done)))) (first
          | (go_at_call 194;(with_reducible refine (Zbm n _ _ _ _ _ _ _ (zK HR1.out zA) (zK Hru.out zA) Hpy.out Hgpn.out (by omega)).mono ?_);rintro en w11 ⟨v11,f11,rfl,r11,F11,t11⟩)
          | (go_at_call 195;(with_reducible refine (Zlf n _ _ _ _ (zK HR2.out zA) Hpt.out (by omega)).mono ?_);rintro en w12 ⟨v12,f12,rfl,r12,F12,t12⟩)
          | (go_at_call 194;(with_reducible refine (Zbm n _ _ _ _ _ _ _ (zK r11 zA) (zK r12 zA) (Hpy.out.comp Hgpn.out) Hpt.out.inv (by omega)).mono ?_);rintro en w13 ⟨v13,f13,rfl,r13,F13,t13⟩)
          | (go_at_call 193;go_loud (with_reducible refine (HIk.out gv3 G3 T3 M3 F3 _ (HC3.out.keep zA) (PM.inv_iff.2 ⟨HP3.out.base,HP3.out.cpl⟩) HL3.out _ _ _ Hmay.out r13 (Zdf HC3.out.lM (Only.size (fp:=[]) zA) F13) (Nat.le_trans hB7 (Only.size (fp:=[]) zA))).mono ?_);rintro en w14 ⟨rfl,ha14⟩)
          | fail)
         all_goals (go_wp2_with fail;go_roundw;(case rel=>exact ⟨m + 1,by omega,by go_num,(LP.step hkn HC3.out HP3.out HM3.out Hno.out (w3:=w13) zA (fun b hb=>Nat.le_trans (Only.size (fp:=[]) zA) (F13.ge b hb)) (by rw [Hres.out];exact ha14)).weak fun q hq=>hq.succ Hyi.out hltm⟩);(case measure=>simp [intOf];omega))
        ·clear hC3 hP3 hL3 hM3
         go_wp2
         go_roundw
         case rel=>exact ⟨j + 1,by omega,by go_num,HLPi.out.weak fun q hq=>hq.next (by omega)⟩
         case measure=>simp [intOf];omega
      ·clear hC2 hP2 hL2 hM2
       go_wp2
       first | go_end0 | refine bodyPost_ret (results_none rfl _ _ _) rfl ?_
       exact ⟨rfl,LP.fin hkn HLP.out (fun y g hy hg=>SP.all (by omega) (mem_orb.2 ⟨PM.row_rng hkn HQ.out.base hy,hy⟩) hg) HMv.out (HO.out.keepThen t5) HF1.out HF2.out (fun i hi=>(t5.block _ (HCp.out.lM _ (HCp.out.mr i (by omega))) (by simp)).trans (Hrw.out i hi)) HC1.out.shape HLn.out He.out HS3.out Hgrw.out Hl1.out⟩
    ·obtain ⟨g9,o9,cap9,rfl,hcap,hcapm,hcq⟩:=hq.head
     clear hQ hC' hq hqF hF1' hF2' hrw hc hO
     go_wp2
     go_loopw [7,57] (fun s7 i wy=>∃ (j:Nat) (qs':List Int),j<=(PM.lv G1 k).length/\i = .int .i64 j/\LQ 27 2 B W2.heap.size L gv1 n k G1 T M1 F1 W2 (y0 :: qs') (PM.curA (PM.lv G1 k) y0 j) ((n - fillW W4 (L.rb k) n) + lenV (.slice (some ⟨g9,o9,none⟩) (qs.length + 1) cap9)) s7 wy)
      (fun _ i _=>(PM.lv G1 k).length - (intOf i).toNat)
     case atStart=>exact ⟨0,qs,Nat.zero_le _,rfl,HLQ.out.first hkn⟩
     case round=>
      obtain ⟨j,qs',hj,rfl,hLQi⟩:=hrel
      have HLQi:=zH hLQi
      obtain ⟨T'',F'',hQ,hC',hq,hqF,hc,hO,hF1',hF2',hrw⟩:=hLQi
      clear cg ct cgk crk hcq
      obtain ⟨gq,oq,capq,rfl,hcapq,hcapmq,hcq⟩:=hq.head
      have ct:=hC'.ct
      rw [hoT] at ct
      have HCi:=zH hC'
      have HQi:=zH hQ
      have Hq:=zH hq
      have HqF:=zH hqF
      have Hc:=zH hc
      have HO:=zH hO
      have HF1:=zH hF1'
      have HF2:=zH hF2'
      have Hrw:=zH hrw
      have hy0:=hQ.mem y0 (by simp)
      have hr0:=PM.row_rng hkn hQ.base hy0
      have hy00:=hr0.1
      have hy01:=hr0.2
      clear hc hO hF1' hF2' hrw hqF
      by_cases hlt:j < (PM.lv G1 k).length
      ·obtain ⟨gg,cc,u,fu,hgk',hcu,hru,hfu⟩:=hC'.genAt hkn hlt
       have hinj:=Hgk.out.symm.trans hgk'
       injection hinj with e1 _ e3
       subst e1
       subst e3
       obtain ⟨au,cu,rfl,Iu⟩:=hru.ints
       have hgpn:=hQ.base.gpn k _ hkn (List.getElem_mem hlt)
       have hul:y0 < ((PM.lv G1 k)[j].length:Int):=by rw [hgpn.1];exact hy01
       obtain ⟨bu,ou,rfl,-,hcg⟩:=Iu.at_pm hy00 hul
       have hto:=hgpn.rng hy00 hy01
       have hto0:=hto.1
       have hto1:=hto.2
       have hub:=Iu.bound
       have Hgpn:=zH hgpn
       have Hru:=zH hru
       have hI:I64 (PM.at_ (PM.lv G1 k)[j] y0):=by unfold I64;omega
       have HI2:=zH hI
       obtain ⟨b0,o0,cap0,f0,hc0,R0,hf0⟩:=hC'.at_some hkn hy00 hy01 hy0
       have hqlen:=hQ.len hkn
       have hqlen':(y0 :: qs').length + 1<=1073741824:=by omega
       have Hql:=zH hqlen'
       have Hy0:=zH hy0
       clear hgpn hru hI hto hgk' hqlen hqlen' hy0 hr0
       by_cases ht:PM.tr T'' k (PM.at_ (PM.lv G1 k)[j] y0) = []
       ·have hc4:=hC'.at_nil hkn hto0 hto1 ht
        have hnil:=fun W=>Lib.run_eql_slice_nil (P:=Tryz.prog) W 27 2 none 0 0 0 0 Tryz.underlying27
        have Ht:=zH ht
        clear ht hQ hC' hq
        go_wp2_with (first
         | (go_at_call 194;(with_reducible refine (Zbm n _ _ _ _ _ _ _ R0 Hru.out (HQi.out.base.wf.pn k _ hkn Hy0.out) Hgpn.out (by omega)).mono ?_);rintro en w4 ⟨v4,f4,rfl,r4,F4,t4⟩;obtain ⟨A4,C4,rfl,-⟩:=r4.ints;have c4':=t4.cell (by simp) hc4;have z4:=(HCi.out.keep t4).frow hkn (PM.at_ (PM.lv G1 k)[j] y0).toNat)
         | (at_builtin;go_loud (refine Zrn rfl _ _ 27 rfl 2 i0 _ Tryz.underlying27 hi0 hz00 hz01 hz02 rfl (B:=W2.heap.size) (.slice (some ⟨gq,oq,none⟩) (qs'.length + 1) capq) (y0 :: qs') rfl (((Hq.out.keep t4).only (Zaf w4 (L.rb k) _ _) (fun g hg hm=>by
           have h1:=(Hq.out.lt g hg).1
           have h2:=HMb.out _ (HC2.out.mr k hkn)
           have h3:g = L.rb k:=by simpa using hm
           omega)).keep ((Only.refl [] _).alloc _)) ⟨_,0,none⟩ 1 (PM.at_ (PM.lv G1 k)[j] y0) rfl HI2.out (lit_src _ [.int .i64 (PM.at_ (PM.lv G1 k)[j] y0)] _ (by simp only [World.size_setCell]) 0 _ rfl) Hql.out ((((HO.out.keepThen t4).setCell (fun _=>HC2.out.mr k hkn) _).alloc _)).size ?_;intro v5 w5 hq5 hO5 hb5;obtain ⟨a5,n5,c5,rfl⟩:∃ a n c,v5 = Value.slice a n c:=(let ⟨a,c,hh⟩:=hq5.form;⟨a,_,c,hh⟩)))
         | fail)
        go_roundw
        case rel=>exact ⟨j + 1,_,by omega,by go_num,LQ.more HCi.out HQi.out Hq.out HqF.out Hc.out HO.out HF1.out HF2.out Hrw.out hkn HMb.out (Nat.le_refl _) hlt Ht.out r4 F4 t4 hq5 hO5 hb5⟩
        case measure=>simp [intOf];omega
       ·obtain ⟨b1,o1,cap1,f1,hc1,-,-⟩:=hC'.at_some hkn hto0 hto1 ht
        have hnil:=fun W=>Lib.run_eql_slice_nil (P:=Tryz.prog) W 27 2 (some ⟨b1,o1,none⟩) (PM.tr T'' k (PM.at_ (PM.lv G1 k)[j] y0)).length cap1 0 0 Tryz.underlying27
        have Ht:=zH ht
        clear ht hQ hC' hq
        go_wp2
        go_roundw
        case rel=>exact ⟨j + 1,qs',by omega,by go_num,HLQi.out.skip HCi.out HQi.out Hq.out HqF.out Hc.out HO.out HF1.out HF2.out Hrw.out hlt Ht.out⟩
        case measure=>simp [intOf];omega
      ·obtain ⟨v1,hpop,hq1,hv1⟩:=hq.pop (P:=Tryz.prog) (t:=27) Tryz.underlying27 (by intro w;kernel_rfl)
       obtain ⟨p1,p2⟩:=HLQi.out.pop hkn (by omega) hq1 hv1
       have P1:=zH p1
       have P2:=zH p2
       obtain ⟨a1,n1,c1,rfl⟩:∃ a n c,v1 = Value.slice a n c:=(let ⟨a,c,hh⟩:=hq1.form;⟨a,_,c,hh⟩)
       clear hQ hC' hq hq1 hv1 p1 p2 hy0 hr0
       go_wp2
       go_roundw
       case rel=>exact ⟨qs',P1.out⟩
       case measure=>exact P2.out
end Go.Proofs.YthleokaeobdamaaGreat

namespace PM
theorem has_one {n:Nat} {T:Rows} (hw:WF n T):∀ m,m<=n->has T n m (pts n) = true:=by
 intro m
 induction m with
 | zero=>intro _;rfl
 | succ m ih=>
  intro hm
  have e:at_ (pts n) ((n - (m + 1):Nat):Int) = ((n - (m + 1):Nat):Int):=at_pts (by omega) (by omega)
  have e2:=hw.one (n - (m + 1)) (by omega)
  simp only [has]
  rw [e,e2,if_neg (pts_ne (by omega)),Zdk (PN.id n)]
  exact ih (by omega)
def New (n k:Nat) (L:List (List Int)) (T T':Rows):Prop:=∀ y g,tr T k y = []->tr T' k y ≠ []->g∈L->Ok T' n k (comp (tr T' k y) g)
theorem New.refl (n k:Nat) (L:List (List Int)) (T:Rows):New n k L T T:=fun _ _ h h' _=>absurd h h'
theorem New.trans {n k:Nat} {L:List (List Int)} {T T1 T2:Rows} (h:New n k L T T1) (he:Ext T1 T2) (h':New n k L T1 T2):New n k L T T2:=fun y g h0 h2 hg=>by
 by_cases h1:tr T1 k y = []
 ·exact h' y g h1 h2 hg
 ·rw [he k y h1];exact (h y g h0 h1 hg).mono he
theorem New.same {n k:Nat} {L:List (List Int)} {T T':Rows} (h:∀ y,tr T' k y = tr T k y):New n k L T T':=fun y _ h0 h1 _=>absurd (by rw [h];exact h0) h1
structure Prod (n k:Nat) (q:List Int) (G:Gens) (T:Rows) (G':Gens) (T':Rows):Prop where
 base:Base n G' T'
 cpl:Cpl n (k + 1) G' T'
 grew:Grew n k G T G' T'
 lvk:lv G' k = lv G k
 ok:Ok T' n k q
 new:New n k (lv G k) T T'
theorem Prod.deep {n k:Nat} {q:List Int} {G G':Gens} {T T':Rows} (hn:tr T k (at_ q (k:Int)) ≠ []) (h:Added n (k + 1) (res T k q) G T G' T'):Prod n k q G T G' T':=by
 obtain ⟨a,b,c,d⟩:=h.up hn
 exact ⟨a,b,c.mono (Nat.le_succ k),c.low k (by omega),d,New.same fun y=>c.lowT k y (by omega)⟩
structure PL (n k:Nat) (G1:Gens) (T1:Rows) (Ps:List (List Int)) (j:Nat) (G':Gens) (T':Rows):Prop where
 base:Base n G' T'
 cpl:Cpl n (k + 1) G' T'
 grew:Grew n k G1 T1 G' T'
 lvk:lv G' k = lv G1 k
 oks:∀ q∈Ps.take j,Ok T' n k q
 new:New n k (lv G1 k) T1 T'
theorem PL.start {n k:Nat} {G:Gens} {T:Rows} (hB:Base n G T) (hC:Cpl n (k + 1) G T) (Ps:List (List Int)):PL n k G T Ps 0 G T:=
 ⟨hB,hC,Grew.refl _ _ _ _,rfl,fun q hq=>by simp at hq,New.refl _ _ _ _⟩
theorem PL.step {n k:Nat} {G1 G' G2:Gens} {T1 T' T2:Rows} {Ps:List (List Int)} {j:Nat} (h:PL n k G1 T1 Ps j G' T') (hj:j < Ps.length) (hp:Prod n k Ps[j] G' T' G2 T2):PL n k G1 T1 Ps (j + 1) G2 T2:=by
 refine ⟨hp.base,hp.cpl,h.grew.trans hp.grew,hp.lvk.trans h.lvk,fun q hq=>?_,h.new.trans hp.grew.ext ?_⟩
 ·rw [List.take_succ_eq_append_getElem hj] at hq
  rcases List.mem_append.1 hq with hq | hq
  ·exact (h.oks q hq).mono hp.grew.ext
  ·have:q = Ps[j]:=by simpa using hq
   subst this;exact hp.ok
 ·have:=hp.new
  rwa [h.lvk] at this
theorem Prod.fresh {n k:Nat} {G G':Gens} {T T':Rows} {q:List Int} {m:Nat} {j:Nat} (hs:Shape n G T) (hk:k < n) (hB:Base n G T) (hC:Cpl n (k + 1) G T) (hq:PN n q) (hf:Fix k q) (hg:Grp n (lv G k) q)
  (hm:at_ q (k:Int) = (m:Int)) (hmn:m < n) (h0:tr T k (m:Int) = []) (hj:((lv G k).map (comp q)).length<=j) (h:PL n k G (setT T k m q) ((lv G k).map (comp q)) j G' T'):Prod n k q G T G' T':=by
 obtain ⟨-,-,g3⟩:=Zjo hs hk hB hC hq hf hg hm hmn h0
 have hl:=fun j y=>tr_setT (T:=T) (k:=k) (m:=m) (by rw [hs.lt];exact hk) (by rw [hs.lr k hk];exact hmn) q j y
 have hne:q ≠ []:=hq.ne (by omega)
 have e1:tr (setT T k m q) k (m:Int) = q:=by rw [hl,if_pos ⟨rfl,rfl⟩]
 have e2:tr T' k (m:Int) = q:=by rw [h.grew.ext k _ (by rw [e1];exact hne),e1]
 refine ⟨h.base,h.cpl,g3.trans h.grew,h.lvk,⟨by rw [hm,e2];exact hne,?_⟩,fun y g hy hy' hgg=>?_⟩
 ·unfold res
  rw [hm,e2,Zdk hq]
  exact has_one h.base.wf _ (by omega)
 ·by_cases hym:y = (m:Int)
  ·subst hym
   rw [e2]
   exact h.oks _ (by rw [List.take_of_length_le hj];exact List.mem_map_of_mem hgg)
  ·exact h.new y g (by rw [hl,if_neg (by simp [hym])];exact hy) hy' hgg
theorem Added.ofPL {n k:Nat} {G G':Gens} {T T':Rows} {p:List Int} {Ps:List (List Int)} {j:Nat} (hs:Shape n G T) (hk:k < n) (hI:Inv n k G T) (hp:May n k p G)
  (hPs:∀ y,tr T k y ≠ []->comp (tr T k y) p∈Ps) (hj:Ps.length<=j) (h:PL n k (G.set k (lv G k ++ [p])) T Ps j G' T'):Added n k p G T G' T':=by
 obtain ⟨s1,s2,s3⟩:=Zjw hs hk hI hp
 have hl:lv (G.set k (lv G k ++ [p])) k = lv G k ++ [p]:=by rw [lv_set (by rw [hs.lg];exact hk),if_pos rfl]
 have hlv:lv G' k = lv G k ++ [p]:=h.lvk.trans hl
 refine Added.level hk h.base h.cpl (s3.trans h.grew) (fun y g hy hg=>?_) (by rw [hlv];simp) (fun g hg=>by rw [hlv] at hg;simpa using hg)
 by_cases h0:tr T k y = []
 ·exact h.new y g h0 hy (by rw [<- h.lvk];exact hg)
 ·have e:=h.grew.ext k y h0
  rw [e]
  rw [hlv] at hg
  rcases List.mem_append.1 hg with hg | hg
  ·exact ((inv_iff.1 hI).2 k y g (Nat.le_refl _) hk h0 hg).mono h.grew.ext
  ·have:g = p:=by simpa using hg
   subst this
   exact h.oks _ (by rw [List.take_of_length_le hj];exact hPs y h0)
theorem PL.res_may {n k:Nat} {G:Gens} {T:Rows} {q:List Int} (hk:k < n) (hB:Base n G T) (hq:PN n q) (hf:Fix k q) (hg:Grp n (lv G k) q) (hn:tr T k (at_ q (k:Int)) ≠ []):May n (k + 1) (res T k q) G:=Zqo hk hB hq hf hg hn
end PM
