/- A queue of numbers: a slice of the call's own that is cut at its head and appended to. -/
import Derived.Test.YtjfmkolnleicnaaGreatDoorRowAcceptedClaimsG1
import Derived.Test.YtjfmkolnleicnaaGreatDoorRowAcceptedClaimsG4
import Derived.Deep.AppendLies
namespace Go.Proofs.YtjfmkolnleicnaaGreatDoor
open Go.RowKit
set_option maxRecDepth 10000
def Que (e:TypeId) (B:Nat) (w:World) (v:Value) (l:List Int):Prop:=
 (
  ∀ x∈l,I64 x)/\((v = .slice none 0 0/\l = []) \/
  ∃ g o cap cur,v = .slice (some ⟨g,o,none⟩) l.length cap/\B<=g/\w.heap[g]? = some (.cells cur e (0,0))/\l.length<=cap/\cap<=maxLen/\o + cap<=cur.size/\(cur.toList.drop o).take l.length = l.map (Value.int .i64))
section
variable {e:TypeId} {B:Nat} {w w':World} {v:Value} {l:List Int}
theorem Que.ofAcc {fs:List (List Nat)} (h:Acc B e w v l fs) (hi:∀ x∈l,I64 x):Que e B w v l:=by
 obtain ⟨css,ho,hcl,hr⟩:=h.own
 have hfl:=h.fl
 have hcss:css.flatten = l.map (Value.int .i64):=by
  have:css = l.map fun x=>[Value.int .i64 x]:=by
   apply List.ext_getElem (by simp [hcl])
   intro k h1 h2
   have:=hr k h1 (by omega) (by omega)
   rw [this.1];simp
  rw [this]
  clear this hr hcl hfl ho h hi
  induction l with
  | nil=>rfl
  | cons x l ih=>simp [ih]
 refine ⟨hi,?_⟩
 rcases ho.2 with ⟨rfl,h0⟩ | ⟨g,cap,cur,rfl,hb,hg,h1,h2,h3,h4⟩
 ·exact .inl ⟨rfl,List.eq_nil_of_length_eq_zero h0⟩
 ·refine .inr ⟨g,0,cap,cur,rfl,hb,hg,h1,h2,?_,?_⟩
  ·have:cur.size = cap * 1:=h3
   omega
  ·have h5:cur.toList.take (l.length * 1) = css.flatten:=h4
   rw [hcss,Nat.mul_one] at h5
   simpa using h5
theorem Que.lt (h:Que e B w v l):∀ g,v.ownBlock = some g->B<=g/\g < w.heap.size:=by
 intro g hg
 rcases h.2 with ⟨rfl,-⟩ | ⟨g',o,cap,cur,rfl,hb,hh,-⟩
 ·simp [Value.ownBlock] at hg
 ·simp [Value.ownBlock] at hg;subst hg
  exact ⟨hb,(Array.getElem?_eq_some_iff.1 hh).1⟩
theorem Que.only (h:Que e B w v l) {fp:List Nat} (ho:Only fp w w') (hn:∀ g,v.ownBlock = some g->g ∉ fp):Que e B w' v l:=by
 refine ⟨h.1,?_⟩
 rcases h.2 with hz | ⟨g,o,cap,cur,rfl,hb,hh,hrest⟩
 ·exact .inl hz
 ·exact .inr ⟨g,o,cap,cur,rfl,hb,(ho.block g (Array.getElem?_eq_some_iff.1 hh).1 (hn g rfl)).trans hh,hrest⟩
theorem Que.keep (h:Que e B w v l) (ho:Only [] w w'):Que e B w' v l:=h.only ho (by simp)
theorem Que.form (h:Que e B w v l):∃ a c,v = .slice a l.length c:=by
 rcases h.2 with ⟨rfl,rfl⟩ | ⟨g,o,cap,cur,rfl,-⟩
 ·exact ⟨none,0,rfl⟩
 ·exact ⟨_,_,rfl⟩
theorem Que.head {x:Int} (h:Que e B w v (x :: l)):∃ g o cap,v = .slice (some ⟨g,o,none⟩) (l.length + 1) cap/\l.length + 1<=cap/\cap<=maxLen/\w.cell? ⟨g,o,none⟩ = some (.int .i64 x):=by
 rcases h.2 with ⟨-,h0⟩ | ⟨g,o,cap,cur,rfl,hb,hh,h1,h2,h3,h4⟩
 ·cases h0
 ·refine ⟨g,o,cap,by simp,by simpa using h1,h2,?_⟩
  rw [cell_of_row w g o cur e (0,0) hh]
  have:=congrArg (fun L=>L[0]?) h4
  simp at this
  simpa using this
theorem Que.pop {P:Program} {t:TypeId} (ht:P.underlying t = some (.slice e)) (hz:∀ w,(sizeOf e).run P w = .ok 1 w) {x:Int} (h:Que e B w v (x :: l)):∃ v1,(∀ W,(Instr.slice t v (some (.int .i64 1)) none none).run P W = .ok v1 W)/\Que e B w v1 l/\v1.ownBlock = v.ownBlock:=by
 rcases h.2 with ⟨-,h0⟩ | ⟨g,o,cap,cur,rfl,hb,hh,h1,h2,h3,h4⟩
 ·cases h0
 ·have hi:∀ y∈l,I64 y:=fun y hy=>h.1 y (by simp [hy])
  simp only [List.length_cons] at h1 h4
  have he:P.elem t = e:=by simp [Program.elem,ht]
  have ht':P.underlying t = some (.slice (P.elem t)):=by rw [he];exact ht
  have hrun:∀ W,(Instr.slice t (.slice (some ⟨g,o,none⟩) (x :: l).length cap) (some (.int .i64 1)) none none).run P W = .ok (sliced (some ⟨g,o,none⟩) 1 (x :: l).length cap 1) W:=by
   intro W
   rw [run_slice_l (P:=P) (w:=W) t _ _ _ ht' .i64 1 (by omega) (by simp only [List.length_cons];omega),he,hz]
   rfl
  by_cases hc:cap = 1
  ·have hl:l.length = 0:=by omega
   have hl0:l = []:=List.eq_nil_of_length_eq_zero hl
   refine ⟨.slice (some ⟨g,o,none⟩) 0 0,fun W=>?_,⟨hi,.inr ⟨g,o,0,cur,by rw [hl],hb,hh,by omega,by unfold maxLen;omega,by omega,by rw [hl0];simp⟩⟩,rfl⟩
   rw [hrun W];subst hl0;subst hc;rfl
  ·refine ⟨.slice (some ⟨g,o + 1,none⟩) l.length (cap - 1),fun W=>?_,⟨hi,.inr ⟨g,o + 1,cap - 1,cur,rfl,hb,hh,by omega,by omega,by omega,?_⟩⟩,rfl⟩
   ·rw [hrun W]
    unfold sliced
    rw [if_neg hc]
    simp [Addr.add]
   ·have h5:=congrArg (List.drop 1) h4
    rw [List.drop_take,List.drop_drop] at h5
    simpa using h5
end
section
variable {P:Program} (w:World)
theorem Zkc (t ty e:TypeId) (i:TypeInfo) (ht:P.underlying t = some (.slice e)) (hi:P.info? e = some i)
  (g o sLen sCap:Nat) (cur:Array Value) (hg:w.heap[g]? = some (.cells cur e (0,0)))
  (a:Addr) (m c:Nat) (news:List Value) (hl:news.length = m * i.size) (hnews:∀ j u,news[j]? = some u->w.cell? (a.add j) = some u) (h1:∀ u∈news,u.oneCell' = true)
  (hroom:sLen + m<=sCap) (hfit:o + sLen * i.size + news.length<=cur.size) :
  (Builtin.append_ #[t,t] ty #[.slice (some ⟨g,o,none⟩) sLen sCap,.slice (some a) m c]).run P w =
   .ok (.slice (some ⟨g,o,none⟩) (sLen + m) sCap) (w.setRow g (cur.toList.take (o + sLen * i.size) ++ news ++ cur.toList.drop (o + sLen * i.size + news.length)).toArray):=by
 have hf:=run_firstCells_some (P:=P) w i.size m a m c news hl hnews
 have hst:=run_storeCells_at P g (o + sLen * i.size) e news 0 cur w hg (by simpa using hfit) h1
 simp only [Nat.add_zero] at hst
 have hadd:(⟨g,o,none⟩:Addr).add (sLen * i.size) = ⟨g,o + sLen * i.size,none⟩:=by unfold Addr.add;split <;> simp_all
 simp [Builtin.append_,run_underlying ht,sizeOf,typeInfo,hi,Builtin.lenOf,hroom,hf,hadd,hst]
theorem Zse (t ty e:TypeId) (i:TypeInfo) (z:Value) (ht:P.underlying t = some (.slice e)) (hi:P.info? e = some i) (hz:i.zero = some z)
  (hsize:i.size = 1) (hby:i.bytes = 8) (hzs:z.cells.size = 1) {B:Nat} (v:Value) (l:List Int) (hq:Que e B w v l)
  (ad:Addr) (c:Nat) (x:Int) (hx:I64 x) (hsrc:w.cell? ad = some (.int .i64 x)) (hlen:l.length + 1<=1073741824) (hB:B<=w.heap.size) :
  ∃ v' w',(Builtin.append_ #[t,t] ty #[v,.slice (some ad) 1 c]).run P w = .ok v' w'/\Que e B w' v' (l ++ [x])/\Only v.ownBlock.toList w w' /\
   (v'.ownBlock = v.ownBlock\/v'.ownBlock = some w.heap.size):=by
 have hi':∀ y∈l ++ [x],I64 y:=fun y hy=>by
  rcases List.mem_append.1 hy with hy | hy
  ·exact hq.1 y hy
  ·simp at hy;subst hy;exact hx
 have hnews:∀ j u,[Value.int .i64 x][j]? = some u->w.cell? (ad.add j) = some u:=by
  intro j u hu
  cases j with
  | zero=>simp at hu;subst hu;rw [show ad.add 0 = ad by unfold Addr.add;split <;> simp_all];exact hsrc
  | succ j=>simp at hu
 have h1:∀ u∈[Value.int .i64 x],u.oneCell' = true:=by intro u hu;simp at hu;subst hu;rfl
 have grown:∀ (old:Nat) (xs:List Value),xs = l.map (Value.int .i64)->∀ (row:List Nat),
   Que e B (w.drew.alloc (.cells (xs.toArray ++ [Value.int .i64 x].toArray ++ Builtin.zeroCells z.cells (grownCap w (l.length + 1) old e - (l.length + 1))) e))
    (.slice (some ⟨w.heap.size,0,none⟩) (l.length + 1) (grownCap w (l.length + 1) old e)) (l ++ [x]) /\
   Only row w (w.drew.alloc (.cells (xs.toArray ++ [Value.int .i64 x].toArray ++ Builtin.zeroCells z.cells (grownCap w (l.length + 1) old e - (l.length + 1))) e)):=by
  intro old xs hxs row
  have hge:=grownCap_ge w (l.length + 1) old e
  have hcm:grownCap w (l.length + 1) old e<=maxLen:=grownCap_le_maxLen w (l.length + 1) old e (by unfold maxLen;omega)
  refine ⟨⟨hi',.inr ⟨w.heap.size,0,_,_,by simp,hB,heap_alloc_new w.drew _,by simpa using hge,hcm,?_,?_⟩⟩,((Only.refl row w).drew).alloc _⟩
  ·subst hxs
   simp only [Array.size_append,List.size_toArray,size_zeroCells,hzs,List.length_map,List.length_cons,List.length_nil]
   omega
  ·subst hxs
   simp only [List.drop_zero,Array.toList_append,List.append_assoc]
   rw [<- List.append_assoc]
   have e1:l.map (Value.int .i64) ++ [Value.int .i64 x] = (l ++ [x]).map (Value.int .i64):=by simp
   rw [e1,show (l ++ [x]).length = ((l ++ [x]).map (Value.int .i64)).length by simp]
   exact List.take_left
 rcases hq.2 with ⟨rfl,rfl⟩ | ⟨g,o,cap,cur,rfl,hbg,hg,hnc,hcm,hcs,htake⟩
 ·have hr:=run_append_nil (P:=P) w t ty e i z ht hi hz ad 1 c [Value.int .i64 x] (by simp [hsize]) hnews (by omega) (by omega) (by rw [hby];omega)
  have hgr:=grown 0 [] rfl (Value.ownBlock (.slice none 0 0)).toList
  simp only [List.length_nil,Nat.zero_add,List.nil_append,Array.empty_append] at hgr ⊢
  exact ⟨_,_,hr,hgr.1,hgr.2,Or.inr rfl⟩
 ·by_cases hroom:l.length + 1<=cap
  ·have hr:=Zkc (P:=P) w t ty e i ht hi g o l.length cap cur hg ad 1 c [Value.int .i64 x] (by simp [hsize]) hnews h1 hroom (by rw [hsize];simp;omega)
   refine ⟨_,_,hr,⟨hi',.inr ⟨g,o,cap,_,by simp,hbg,setRow_heap w g cur _ e _ hg,by simpa using hroom,hcm,?_,?_⟩⟩,⟨rfl,rfl,rfl,by simp,fun k _ hk=>setRow_other w g k _ (fun e=>hk (by simp [Value.ownBlock,e]))⟩,Or.inl rfl⟩
   ·simp only [List.size_toArray,List.length_append,List.length_take,List.length_drop,Array.length_toList]
    omega
   ·rw [hsize]
    simp only [Nat.mul_one,List.length_append,List.length_cons,List.length_nil]
    have e0:o<=cur.toList.length:=by simp;omega
    have e1:(cur.toList.take (o + l.length)).drop o = l.map (Value.int .i64):=by rw [List.drop_take];rw [<- htake];congr 1;omega
    have e2:((cur.toList.take (o + l.length) ++ [Value.int .i64 x] ++ cur.toList.drop (o + l.length + (0 + 1))).drop o) = l.map (Value.int .i64) ++ ([Value.int .i64 x] ++ cur.toList.drop (o + l.length + (0 + 1))):=by
     rw [List.append_assoc,List.drop_append_of_le_length (by simp;omega),e1]
    rw [e2,<- List.append_assoc]
    have e3:l.map (Value.int .i64) ++ [Value.int .i64 x] = (l ++ [x]).map (Value.int .i64):=by simp
    rw [e3,show l.length + (0 + 1) = ((l ++ [x]).map (Value.int .i64)).length by simp]
    exact List.take_left
  ·have holds:∀ j u,(l.map (Value.int .i64))[j]? = some u->w.cell? ((⟨g,o,none⟩:Addr).add j) = some u:=by
    intro j u hu
    have hadd:(⟨g,o,none⟩:Addr).add j = ⟨g,o + j,none⟩:=by unfold Addr.add;split <;> simp_all
    rw [hadd,cell_of_row w g (o + j) cur e (0,0) hg]
    rw [<- htake,List.getElem?_take] at hu
    split at hu
    ·rw [List.getElem?_drop] at hu;simpa using hu
    ·cases hu
   have hr:=run_append_grow (P:=P) w t ty e i z ht hi hz ⟨g,o,none⟩ l.length cap (l.map (Value.int .i64)) (by simp [hsize]) holds ad 1 c [Value.int .i64 x] (by simp [hsize]) hnews (by omega) (by omega) (growslice_fits (by omega) (by rw [hby];omega))
   have hgr:=grown cap (l.map (Value.int .i64)) rfl (Value.ownBlock (.slice (some ⟨g,o,none⟩) l.length cap)).toList
   exact ⟨_,_,hr,hgr.1,hgr.2,Or.inr rfl⟩
end
section
variable {P:Program} {ops:Array Oper} {rest:List Oper} {o:Oper} {a:Act} {w:World} {Q:Exit->Act->World->Prop}
theorem Zss (hgd:o.guard = none) (s x:Operand) (t:TypeId)
  (ho:o.op = .call { callee:=.builtin .append,args:=#[s,x],argTypes:=#[t,t] })
  (e:TypeId) (i:TypeInfo) (z:Value) (ht:P.underlying t = some (.slice e)) (hi:P.info? e = some i) (hz:i.zero = some z)
  (hsize:i.size = 1) (hby:i.bytes = 8) (hzs:z.cells.size = 1) {B:Nat} (v:Value) (l:List Int) (hs:a.eval s = v) (hq:Que e B w v l)
  (ad:Addr) (c:Nat) (n:Int) (hx:a.eval x = .slice (some ad) 1 c) (hn:I64 n) (hsrc:w.cell? ad = some (.int .i64 n)) (hlen:l.length + 1<=1073741824) (hB:B<=w.heap.size)
  (h:∀ v' w',Que e B w' v' (l ++ [n])->Only v.ownBlock.toList w w'->(v'.ownBlock = v.ownBlock\/v'.ownBlock = some w.heap.size)->wpList P ops Q rest (a.put o.dst v') w'):wpList P ops Q (o :: rest) a w:=by
 refine wpList_plain hgd fun K hK=>?_
 obtain ⟨v',w',hr,h2,h3,h4⟩:=Zse (P:=P) w t o.type e i z ht hi hz hsize hby hzs v l hq ad c n hn hsrc hlen hB
 unfold Oper.wp execOp
 simp only [ho,resolve,invoke,builtin,Sem.run_bind,Sem.run_pure,Result.andThen_ok,List.map_toArray,List.map_cons,List.map_nil,hs,hx,hr]
 exact hK _ _ (h v' w' h2 h3 h4)
end
end Go.Proofs.YtjfmkolnleicnaaGreatDoor

namespace PM
def cntR (n:Nat) (T:Rows) (k:Nat):Nat:=((pts n).filter fun y=>decide (tr T k y ≠ [])).length
theorem cntR_le (n:Nat) (T:Rows) (k:Nat):cntR n T k<=n:=by
 have:=List.length_filter_le (fun y=>decide (tr T k y ≠ [])) (pts n)
 rwa [pts_len] at this
theorem Zru {α:Type} [DecidableEq α] {l:List α} {p q:α->Bool} {m:α} (hn:l.Nodup) (hm:m∈l) (hp:p m = false) (hq:q m = true) (ho:∀ x,x ≠ m->q x = p x) :
  (l.filter q).length = (l.filter p).length + 1:=by
 induction l with
 | nil=>cases hm
 | cons x l ih=>
  obtain ⟨h1,h2⟩:=List.nodup_cons.1 hn
  by_cases hx:x = m
  ·subst hx
   have:l.filter q = l.filter p:=List.filter_congr fun y hy=>ho y fun e=>h1 (e ▸ hy)
   simp [hp,hq,this]
  ·have hm':m∈l:=by
    rcases List.mem_cons.1 hm with e | e
    ·exact absurd e.symm hx
    ·exact e
   have:=ih h2 hm'
   simp only [List.filter_cons,ho x hx]
   split <;> simp [this]
theorem Zpz {n k m:Nat} {T:Rows} (hk:k < T.length) (hm:m < (T.getD k []).length) (hmn:m < n) {p:List Int} (hp:p ≠ []) (h0:tr T k (m:Int) = []):cntR n (setT T k m p) k = cntR n T k + 1:=by
 have hl:=fun y=>tr_setT hk hm p k y
 refine Zru (m:=(m:Int)) (Zdd n) (mem_pts.2 (by omega)) (by simp [h0]) ?_ fun x hx=>?_
 ·rw [hl,if_pos ⟨rfl,rfl⟩];simpa using hp
 ·rw [hl,if_neg (by simpa using hx)]
structure QS (n k:Nat) (G:Gens) (T0 T:Rows) (qs:List Int) (cur:Int->List (List Int)):Prop where
 shape:Shape n G T
 base:Base n G T
 cpl:Cpl n (k + 1) G T
 grew:Grew n k G T0 G T
 rows:∀ j y,j ≠ k->tr T j y = tr T0 j y
 nd:qs.Nodup
 mem:∀ y∈qs,tr T k y ≠ []
 done:∀ y g,tr T k y ≠ []->(y ∉ qs->g∈lv G k)->(y∈qs->g∈cur y)->tr T k (at_ g y) ≠ []
theorem QS.len {n k:Nat} {G:Gens} {T0 T:Rows} {qs:List Int} {cur:Int->List (List Int)} (hk:k < n) (h:QS n k G T0 T qs cur):qs.length<=n:=by
 have:=Zau h.nd (l2:=pts n) (fun y hy=>mem_pts.2 (row_rng hk h.base (h.mem y hy)))
 rwa [pts_len] at this
def curA (L:List (List Int)) (y0:Int) (i:Nat):Int->List (List Int):=fun y=>if y = y0 then L.take i else []
def cur0:Int->List (List Int):=fun _=>[]
theorem QS.start {n k:Nat} {G:Gens} {T:Rows} (hs:Shape n G T) (hB:Base n G T) (hC:Cpl n (k + 1) G T) {qs:List Int} (hn:qs.Nodup) (hq:∀ y,y∈qs ↔ tr T k y ≠ []):QS n k G T T qs cur0:=
 ⟨hs,hB,hC,Grew.refl _ _ _ _,fun _ _ _=>rfl,hn,fun y hy=>(hq y).1 hy,fun y g hy _ h2=>absurd (h2 ((hq y).2 hy)) (by simp [cur0])⟩
theorem QS.first {n k:Nat} {G:Gens} {T0 T:Rows} {y0:Int} {qs:List Int} (h:QS n k G T0 T (y0 :: qs) cur0):QS n k G T0 T (y0 :: qs) (curA (lv G k) y0 0):=by
 refine ⟨h.shape,h.base,h.cpl,h.grew,h.rows,h.nd,h.mem,fun y g hy h1 h2=>h.done y g hy h1 fun hm=>?_⟩
 have:=h2 hm
 unfold curA at this;split at this
 ·simp at this
 ·cases this
theorem QS.skip {n k:Nat} {G:Gens} {T0 T:Rows} {y0:Int} {qs:List Int} {i:Nat} (hi:i < (lv G k).length) (h:QS n k G T0 T (y0 :: qs) (curA (lv G k) y0 i)) (ht:tr T k (at_ (lv G k)[i] y0) ≠ []) :
  QS n k G T0 T (y0 :: qs) (curA (lv G k) y0 (i + 1)):=by
 refine ⟨h.shape,h.base,h.cpl,h.grew,h.rows,h.nd,h.mem,fun y g hy h1 h2=>?_⟩
 by_cases hm:y∈y0 :: qs
 ·have h3:=h2 hm
  unfold curA at h3
  by_cases e:y = y0
  ·rw [if_pos e,List.take_succ_eq_append_getElem hi] at h3
   rcases List.mem_append.1 h3 with h4 | h4
   ·exact h.done y g hy h1 fun _=>by unfold curA;rw [if_pos e];exact h4
   ·have:g = (lv G k)[i]:=by simpa using h4
    subst this;subst e;exact ht
  ·rw [if_neg e] at h3;cases h3
 ·exact h.done y g hy h1 fun h'=>absurd h' hm
theorem QS.more {n k:Nat} {G:Gens} {T0 T:Rows} {y0:Int} {qs:List Int} {i:Nat} (hk:k < n) (hi:i < (lv G k).length) (h:QS n k G T0 T (y0 :: qs) (curA (lv G k) y0 i)) (ht:tr T k (at_ (lv G k)[i] y0) = []) :
  QS n k G T0 (setT T k (at_ (lv G k)[i] y0).toNat (comp (tr T k y0) (lv G k)[i])) (y0 :: (qs ++ [at_ (lv G k)[i] y0])) (curA (lv G k) y0 (i + 1)) /\
  cntR n (setT T k (at_ (lv G k)[i] y0).toNat (comp (tr T k y0) (lv G k)[i])) k = cntR n T k + 1:=by
 have hy0:=h.mem y0 (by simp)
 have hg:(lv G k)[i]∈lv G k:=List.getElem_mem hi
 obtain ⟨a1,a2,a3,a4⟩:=row_mul hk h.base hy0 hg
 have hr:=row_rng hk h.base hy0
 have hgp:=h.base.gpn k _ hk hg
 have hto:=hgp.rng hr.1 hr.2
 have em:(((at_ (lv G k)[i] y0).toNat:Nat):Int) = at_ (lv G k)[i] y0:=by omega
 have hmn:(at_ (lv G k)[i] y0).toNat < n:=by omega
 obtain ⟨b1,b2,b3⟩:=Zkh (m:=(at_ (lv G k)[i] y0).toNat) h.shape hk h.base h.cpl a1 a2 a3 (by rw [a4,em]) hmn (by rw [em];exact ht)
 have hl:=fun j y=>tr_setT (T:=T) (k:=k) (m:=(at_ (lv G k)[i] y0).toNat) (by rw [h.shape.lt];exact hk) (by rw [h.shape.lr k hk];exact hmn) (comp (tr T k y0) (lv G k)[i]) j y
 refine ⟨⟨h.shape.setT _ _ _,b1,b2,h.grew.trans b3,fun j y hj=>?_,?_,fun y hy=>?_,fun y g hy h1 h2=>?_⟩,?_⟩
 ·rw [hl j y,if_neg (by simp [hj])];exact h.rows j y hj
 ·have e:y0 :: (qs ++ [at_ (lv G k)[i] y0]) = (y0 :: qs) ++ [at_ (lv G k)[i] y0]:=by simp
  rw [e]
  refine List.nodup_append.2 ⟨h.nd,by simp,fun a ha b hb e=>?_⟩
  have:b = at_ (lv G k)[i] y0:=by simpa using hb
  subst this;subst e
  exact h.mem _ ha ht
 ·rw [hl k y]
  split
  ·exact a1.ne (by omega)
  ·rename_i hne
   have:y∈y0 :: qs:=by
    have e:y0 :: (qs ++ [at_ (lv G k)[i] y0]) = (y0 :: qs) ++ [at_ (lv G k)[i] y0]:=by simp
    rw [e] at hy
    rcases List.mem_append.1 hy with h3 | h3
    ·exact h3
    ·have:y = at_ (lv G k)[i] y0:=by simpa using h3
     exact absurd ⟨rfl,by rw [em];exact this⟩ hne
   exact h.mem y this
 ·rw [hl k _]
  split
  ·exact a1.ne (by omega)
  ·rename_i hne
   rw [hl k y] at hy
   by_cases hyt:y = at_ (lv G k)[i] y0
   ·-- the new point: it is in the queue,and nothing of it has been treated
    have hin:y∈y0 :: (qs ++ [at_ (lv G k)[i] y0]):=by simp [hyt]
    have h3:=h2 hin
    unfold curA at h3
    by_cases e:y = y0
    ·exact absurd ht (by rw [<- hyt,e];exact hy0)
    ·rw [if_neg e] at h3;cases h3
   ·rw [if_neg (by rw [em];simp [hyt])] at hy
    have hmem:y∈y0 :: (qs ++ [at_ (lv G k)[i] y0]) ↔ y∈y0 :: qs:=by simp [hyt]
    refine h.done y g hy (fun hn=>h1 fun hm=>hn (hmem.1 hm)) fun hm=>?_
    have h3:=h2 (hmem.2 hm)
    unfold curA at h3 ⊢
    by_cases e:y = y0
    ·rw [if_pos e] at h3 ⊢
     rw [List.take_succ_eq_append_getElem hi] at h3
     rcases List.mem_append.1 h3 with h4 | h4
     ·exact h4
     ·have:g = (lv G k)[i]:=by simpa using h4
      subst this;subst e
      exact absurd ⟨rfl,em.symm⟩ hne
    ·rw [if_neg e] at h3;cases h3
 ·exact Zpz (by rw [h.shape.lt];exact hk) (by rw [h.shape.lr k hk];exact hmn) hmn (a1.ne (by omega)) (by rw [em];exact ht)
theorem QS.pop {n k:Nat} {G:Gens} {T0 T:Rows} {y0:Int} {qs:List Int} {i:Nat} (hi:(lv G k).length<=i) (h:QS n k G T0 T (y0 :: qs) (curA (lv G k) y0 i)):QS n k G T0 T qs cur0:=by
 obtain ⟨hn1,hn2⟩:=List.nodup_cons.1 h.nd
 refine ⟨h.shape,h.base,h.cpl,h.grew,h.rows,hn2,fun y hy=>h.mem y (by simp [hy]),fun y g hy h1 h2=>?_⟩
 by_cases hm:y∈qs
 ·exact absurd (h2 hm) (by simp [cur0])
 ·refine h.done y g hy (fun _=>h1 hm) fun h3=>?_
  have e:y = y0:=by
   rcases List.mem_cons.1 h3 with e | e
   ·exact e
   ·exact absurd e hm
  unfold curA;rw [if_pos e,List.take_of_length_le hi];exact h1 hm
theorem QS.closed {n k:Nat} {G:Gens} {T0 T:Rows} (h:QS n k G T0 T [] cur0):∀ y g,tr T k y ≠ []->g∈lv G k->tr T k (at_ g y) ≠ []:=
 fun y g hy hg=>h.done y g hy (fun _=>hg) fun h3=>by cases h3
structure PS (n k:Nat) (G1:Gens) (T1:Rows) (G:Gens) (T:Rows) (S:List Int->Prop):Prop where
 shape:Shape n G T
 base:Base n G T
 cpl:Cpl n (k + 1) G T
 grew:Grew n (k + 1) G1 T1 G T
 ok:∀ q,S q->Ok T n k q
theorem PS.lv {n k:Nat} {G1:Gens} {T1:Rows} {G:Gens} {T:Rows} {S:List Int->Prop} (h:PS n k G1 T1 G T S):PM.lv G k = PM.lv G1 k:=h.grew.low k (by omega)
theorem PS.tr {n k:Nat} {G1:Gens} {T1:Rows} {G:Gens} {T:Rows} {S:List Int->Prop} (h:PS n k G1 T1 G T S) (y:Int):PM.tr T k y = PM.tr T1 k y:=h.grew.lowT k y (by omega)
theorem PS.start {n k:Nat} {G:Gens} {T:Rows} (hs:Shape n G T) (hB:Base n G T) (hC:Cpl n (k + 1) G T):PS n k G T G T (fun _=>False):=
 ⟨hs,hB,hC,Grew.refl _ _ _ _,fun _ h=>h.elim⟩
theorem PS.weak {n k:Nat} {G1:Gens} {T1:Rows} {G:Gens} {T:Rows} {S S':List Int->Prop} (h:PS n k G1 T1 G T S) (hs:∀ q,S' q->S q):PS n k G1 T1 G T S':=
 ⟨h.shape,h.base,h.cpl,h.grew,fun q hq=>h.ok q (hs q hq)⟩
theorem PS.step {n k:Nat} {G1:Gens} {T1:Rows} {G G':Gens} {T T':Rows} {S:List Int->Prop} (h:PS n k G1 T1 G T S) {q:List Int} (hs:Shape n G' T') (hn:PM.tr T k (at_ q (k:Int)) ≠ []) (ha:Added n (k + 1) (res T k q) G T G' T') :
  PS n k G1 T1 G' T' (fun x=>S x\/x = q):=by
 obtain ⟨a,b,c,d⟩:=ha.up hn
 refine ⟨hs,a,b,h.grew.trans c,fun x hx=>?_⟩
 rcases hx with hx | rfl
 ·exact (h.ok x hx).mono c.ext
 ·exact d
def sumM (n:Nat) (T:Rows):Nat->Nat
 | 0=>0
 | m + 1=>cntR n T (n - (m + 1)) + sumM n T m
theorem sumM_le (n:Nat) (T:Rows):∀ m,sumM n T m<=m * n:=by
 intro m
 induction m with
 | zero=>simp [sumM]
 | succ m ih=>
  have:=cntR_le n T (n - (m + 1))
  simp only [sumM,Nat.succ_mul];omega
theorem Zjh {n k:Nat} {T T':Rows} (h:Ext T T'):cntR n T k<=cntR n T' k:=by
 unfold cntR
 refine List.Sublist.length_le ?_
 have:(pts n).filter (fun y=>decide (tr T k y ≠ [])) = ((pts n).filter fun y=>decide (tr T' k y ≠ [])).filter fun y=>decide (tr T k y ≠ []):=by
  rw [List.filter_filter]
  refine List.filter_congr fun y _=>?_
  by_cases hy:tr T k y = []
  ·simp [hy]
  ·simp [h k y hy,hy]
 rw [this];exact List.filter_sublist
theorem Znq {n:Nat} {T T':Rows} (h:Ext T T'):∀ m,sumM n T m<=sumM n T' m:=by
 intro m
 induction m with
 | zero=>simp [sumM]
 | succ m ih=>have:=Zjh (n:=n) (k:=n - (m + 1)) h;simp only [sumM];omega
theorem tr_out {n k:Nat} {G:Gens} {T:Rows} (hs:Shape n G T) (hk:k < n) {y:Int} (hy:¬ (0<=y/\y < n)):tr T k y = []:=by
 unfold tr
 split
 ·rfl
 ·rw [List.getD_eq_getElem?_getD,List.getElem?_eq_none (by rw [hs.lr k hk];omega)];rfl
theorem Ztt {n k:Nat} {G G':Gens} {T T':Rows} (_hs:Shape n G T) (hs':Shape n G' T') (hk:k < n) (h:Ext T T') (hc:cntR n T' k<=cntR n T k):∀ y,tr T' k y = tr T k y:=by
 intro y
 by_cases hy:tr T k y = []
 ·rw [hy]
  apply Classical.byContradiction
  intro hn
  have hyr:0<=y/\y < n:=Classical.byContradiction fun hh=>hn (tr_out hs' hk hh)
  have hsub:((pts n).filter fun y=>decide (tr T' k y ≠ [])) ⊆ (pts n).filter fun y=>decide (tr T k y ≠ []):=by
   refine Zfj (List.Nodup.sublist List.filter_sublist (Zdd n)) (fun z hz=>?_) hc
   rw [List.mem_filter] at hz ⊢
   have hz2:tr T k z ≠ []:=by simpa using hz.2
   exact ⟨hz.1,by rw [h k z hz2];simpa using hz2⟩
  have:=hsub (List.mem_filter.2 ⟨mem_pts.2 hyr,by simpa using hn⟩)
  rw [List.mem_filter] at this
  exact (by simpa using this.2:tr T k y ≠ []) hy
 ·exact h k y hy
theorem Ztv {n:Nat} {G G':Gens} {T T':Rows} (hs:Shape n G T) (hs':Shape n G' T') (h:Ext T T'):∀ m,m<=n->sumM n T' m<=sumM n T m->∀ j y,n - m<=j->j < n->tr T' j y = tr T j y:=by
 intro m
 induction m with
 | zero=>intro _ _ j y h1 h2;omega
 | succ m ih=>
  intro hm hc j y h1 h2
  simp only [sumM] at hc
  have c1:=Zjh (n:=n) (k:=n - (m + 1)) h
  have c2:=Znq (n:=n) h m
  by_cases hj:j = n - (m + 1)
  ·subst hj;exact Ztt hs hs' h2 h (by omega) y
  ·exact ih (by omega) (by omega) j y (by omega) h2
theorem Ztr {T T':Rows} {n m:Nat} (hm:m<=n) (h:∀ j y,n - m<=j->j < n->tr T' j y = tr T j y):∀ p,has T n m p = has T' n m p:=by
 induction m with
 | zero=>intro p;rfl
 | succ m ih=>
  intro p
  simp only [has]
  rw [h _ _ (Nat.le_refl _) (by omega),ih (by omega) (fun j y h1 h2=>h j y (by omega) h2)]
theorem sumM_lt {n k:Nat} {G G':Gens} {T T':Rows} {p:List Int} (hs:Shape n G T) (hs':Shape n G' T') (h:Ext T T') (h0:has T n (n - k) p = false) (h1:has T' n (n - k) p = true):sumM n T (n - k) < sumM n T' (n - k):=by
 apply Classical.byContradiction
 intro hc
 have:=Ztr (Nat.sub_le n k) (Ztv hs hs' h (n - k) (Nat.sub_le n k) (by omega)) p
 rw [h0,h1] at this;cases this
def Ln (n k:Nat) (G:Gens) (T:Rows):Prop:=∀ j,k<=j->j < n->(lv G j).length<=sumM n T (n - j)
theorem Ln.le {n k:Nat} {G:Gens} {T:Rows} (h:Ln n k G T) {j:Nat} (hj:k<=j) (hjn:j < n) (hn:n<=20):(lv G j).length<=400:=by
 have h1:=h j hj hjn
 have h2:=sumM_le n T (n - j)
 have h3:(n - j) * n<=20 * 20:=Nat.mul_le_mul (by omega) hn
 omega
theorem Ln.mono {n k k':Nat} {G:Gens} {T:Rows} (h:Ln n k G T) (hk:k<=k'):Ln n k' G T:=fun j h1 h2=>h j (by omega) h2
theorem Ln.ext {n k:Nat} {G G':Gens} {T T':Rows} (h:Ln n k G T) (hG:∀ j,k<=j->lv G' j = lv G j) (hT:Ext T T'):Ln n k G' T':=fun j h1 h2=>by
 rw [hG j h1];exact Nat.le_trans (h j h1 h2) (Znq hT _)
theorem Ln.more {n k:Nat} {G G':Gens} {T T':Rows} {p:List Int} (hs:Shape n G T) (hs':Shape n G' T') (h:Ln n k G T) (h':Ln n (k + 1) G' T') (he:Ext T T') (h0:has T n (n - k) p = false) (h1:has T' n (n - k) p = true)
  (hl:(lv G' k).length = (lv G k).length + 1):Ln n k G' T':=fun j hj hjn=>by
 by_cases e:j = k
 ·subst e
  have:=sumM_lt hs hs' he h0 h1
  have:=h j (Nat.le_refl _) hjn
  omega
 ·exact h' j (by omega) hjn
theorem Ln.zero (n:Nat):Ln n 0 (G0 n) (T0 n):=fun j _ _=>by rw [lv_G0];simp
end PM

namespace Go.Proofs.YtjfmkolnleicnaaGreatDoor
open Go.RowKit
set_option maxRecDepth 10000
theorem Zju {P:Program} {α:Type} [Rp α] {ops:Array Oper} {o:Oper} {a:Act} {w:World} {Q:Exit->Act->World->Prop} {K:Act->World->Prop} {E:Prop} (hgd:o.guard = none) (s x:Operand) (t:TypeId)
  (ho:o.op = .call { callee:=.builtin .append,args:=#[s,x],argTypes:=#[t,t] })
  (B:Nat) (e:TypeId) (i:TypeInfo) (z:Value) (bytes:Nat) (ht:P.underlying t = some (.slice e)) (hi:P.info? e = some i) (hz:i.zero = some z)
  (hsize:i.size = Rp.size α) (hby:i.bytes = bytes) (hzs:z.cells.size = Rp.size α) (hsz:0 < Rp.size α) (hbb:bytes<=65536)
  (w0:World) (v:Value) (l:List α) (fs:List (List Nat)) (hs:a.eval s = v) (hA:Acc B e w0 v l fs) (hK0:Only [] w0 w) (hB:B<=w0.heap.size)
  (g c:Nat) (cs:List Value) (y:α) (fp:List Nat) (hx:a.eval x = .slice (some ⟨g,0,none⟩) 1 c) (hsrc:∀ j u,cs[j]? = some u->w.cell? ⟨g,j,none⟩ = some u) (hcs:∀ u∈cs,u.oneCell' = true)
  (hy:Rp.rep w cs y fp) (hap:∀ b∈fp,v.ownBlock ≠ some b) (hlen:l.length + 1<=1073741824)
  (h:∀ v' w',Acc B e w' v' (l ++ [y]) (fs ++ [fp])->Only v.ownBlock.toList w w'->(v'.ownBlock = v.ownBlock\/v'.ownBlock = some w.heap.size)->K (a.put o.dst v') w'):if Region.wanted o (yielded ops a.tmps) = true then Oper.wp P o a w K Q else E:=by
 rw [if_pos (by simp [Region.wanted,hgd])]
 exact Zeu s x t ho B e i z bytes ht hi hz hsize hby hzs hsz hbb w0 v l fs hs hA hK0 hB g c cs y fp hx hsrc hcs hy hap hlen fun v' w' h1 h2 _ _ h5=>h v' w' h1 h2 h5
structure Mv (L:Lay) (k:Nat) (gv gv':Nat->Value) (M M' F F' f:List Nat) (w w':World):Prop where
 only:Only M w w'
 gvs:∀ j,j < k->gv' j = gv j
 rows:∀ j,j < k->w'.heap[L.rb j]? = w.heap[L.rb j]?
 m:∀ b∈M',b∈M\/w.heap.size<=b
 m':∀ b∈M,b∈M'
 f:∀ b∈F',b∈F\/b∈f\/w.heap.size<=b
 f':∀ b∈F,b∈F'
theorem Mv.refl (L:Lay) (k:Nat) (gv:Nat->Value) (M F f:List Nat) (w:World):Mv L k gv gv M M F F f w w:=
 ⟨Only.refl _ _,fun _ _=>rfl,fun _ _=>rfl,fun _ h=>.inl h,fun _ h=>h,fun _ h=>.inl h,fun _ h=>h⟩
theorem Mv.keep {L:Lay} {k:Nat} {gv gv':Nat->Value} {M M' F F' f:List Nat} {w w1 w':World} (h:Mv L k gv gv' M M' F F' f w w1) (ho:Only [] w1 w') (hr:∀ j,j < k->L.rb j < w.heap.size):Mv L k gv gv' M M' F F' f w w':=
 ⟨h.only.keepThen ho,h.gvs,fun j hj=>(ho.block _ (Nat.lt_of_lt_of_le (hr j hj) h.only.size) (by simp)).trans (h.rows j hj),h.m,h.m',h.f,h.f'⟩
theorem Mv.before {L:Lay} {k:Nat} {gv gv':Nat->Value} {M M' F F' f:List Nat} {w w1 w':World} (ho:Only [] w w1) (h:Mv L k gv gv' M M' F F' f w1 w') (hr:∀ j,j < k->L.rb j < w.heap.size):Mv L k gv gv' M M' F F' f w w':=
 ⟨(ho.weaken M).trans h.only,h.gvs,fun j hj=>(h.rows j hj).trans (ho.block _ (hr j hj) (by simp)),fun b hb=>(h.m b hb).imp id fun h1=>Nat.le_trans ho.size h1,h.m',fun b hb=>(h.f b hb).imp id fun h1=>h1.imp id fun h2=>Nat.le_trans ho.size h2,h.f'⟩
theorem Mv.trans {L:Lay} {k:Nat} {gv gv1 gv':Nat->Value} {M M1 M' F F1 F' f f1:List Nat} {w w1 w':World} (h:Mv L k gv gv1 M M1 F F1 f w w1) (h':Mv L k gv1 gv' M1 M' F1 F' f1 w1 w')
  (hf:∀ b∈f1,b∈F\/b∈f\/w.heap.size<=b):Mv L k gv gv' M M' F F' f w w':=by
 refine ⟨h.only.then_ h'.only fun x hx hl=>?_,fun j hj=>(h'.gvs j hj).trans (h.gvs j hj),fun j hj=>(h'.rows j hj).trans (h.rows j hj),fun b hb=>?_,fun b hb=>h'.m' b (h.m' b hb),fun b hb=>?_,fun b hb=>h'.f' b (h.f' b hb)⟩
 ·rcases h.m x hx with h1 | h1
  ·exact h1
  ·omega
 ·rcases h'.m b hb with h1 | h1
  ·exact h.m b h1
  ·exact .inr (Nat.le_trans h.only.size h1)
 ·rcases h'.f b hb with h1 | h1 | h1
  ·exact h.f b h1
  ·exact hf b h1
  ·exact .inr (.inr (Nat.le_trans h.only.size h1))
theorem Mv.mono {L:Lay} {k k':Nat} {gv gv':Nat->Value} {M M' F F' f f1:List Nat} {w w':World} (h:Mv L k gv gv' M M' F F' f w w') (hk:k'<=k) (hf:∀ b∈f,b∈F\/b∈f1\/w.heap.size<=b):Mv L k' gv gv' M M' F F' f1 w w':=
 ⟨h.only,fun j hj=>h.gvs j (by omega),fun j hj=>h.rows j (by omega),h.m,h.m',fun b hb=>by
  rcases h.f b hb with h1 | h1 | h1
  ·exact .inl h1
  ·exact hf b h1
  ·exact .inr (.inr h1),h.f'⟩
def AddP (e:TypeId) (B:Nat) (L:Lay) (n k:Nat) (p:List Int) (G:PM.Gens) (T:PM.Rows) (M F f:List Nat) (gv:Nat->Value) (w w':World):Prop:=
 ∃ gv' G' T' M' F',Ch e B w' L gv' n G' T' M' F'/\PM.Added n k p G T G' T'/\PM.Ln n k G' T'/\Mv L k gv gv' M M' F F' f w w'
section
variable {e:TypeId} {B:Nat} {w w':World} {L:Lay} {gv:Nat->Value} {n:Nat} {G:PM.Gens} {T:PM.Rows} {M F:List Nat}
theorem Ch.genAt (h:Ch e B w L gv n G T M F) {k:Nat} (hk:k < n) {j:Nat} (hj:j < (PM.lv G k).length) :
  ∃ g c u f,gv k = .slice (some ⟨g,0,none⟩) (PM.lv G k).length c/\w.cell? ⟨g,j,none⟩ = some u/\Rd w u (PM.lv G k)[j] f/\∀ b∈f,b∈F:=by
 obtain ⟨fs,hA,hF⟩:=h.acc k hk
 obtain ⟨css,ho,hcl,hr⟩:=hA.own
 have hfl:=hA.fl
 rcases ho.2 with ⟨-,h0⟩ | ⟨g,cap,cur,hv,hb,hg,h1,h2,h3,h4⟩
 ·omega
 ·have hcs:css[j] = [css.flatten[j]'(by rw [ho.1];show j < (PM.lv G k).length * 1;omega)]:=by
   have hone:∀ c∈css,c.length = 1:=by
    intro c hc
    obtain ⟨i,hi,rfl⟩:=List.getElem_of_mem hc
    exact Rp.len (hr i hi (by omega) (by omega))
   have key:∀ (cs:List (List Value)),(∀ c∈cs,c.length = 1)->∀ i (h1:i < cs.length) (h2:i < cs.flatten.length),cs[i] = [cs.flatten[i]]:=by
    intro cs
    induction cs with
    | nil=>intro _ i h1;cases h1
    | cons c cs ih=>
     intro hc i h1 h2
     have hc1:=hc c (by simp)
     match c,hc1 with
     | [v],_=>
      cases i with
      | zero=>simp
      | succ i=>simpa using ih (fun c hc'=>hc c (by simp [hc'])) i (by simpa using h1) (by simpa using h2)
   exact key css hone j (by omega) _
  refine ⟨g,cap,css.flatten[j]'(by rw [ho.1];show j < (PM.lv G k).length * 1;omega),fs[j],hv,?_,?_,fun b hb=>hF b (List.mem_flatten.2 ⟨_,List.getElem_mem _,hb⟩)⟩
  ·have:=ho.cells (g:=g) (by rw [hv];rfl) j (css.flatten[j]'(by rw [ho.1];show j < (PM.lv G k).length * 1;omega)) (List.getElem?_eq_getElem _)
   have hadd:(⟨g,0,none⟩:Addr).add j = ⟨g,j,none⟩:=by unfold Addr.add;split <;> simp_all
   rwa [hadd] at this
  ·have:=hr j (by omega) hj (by omega)
   rw [hcs] at this;exact this
open Classical in
noncomputable def fillW (w:World) (b n:Nat):Nat:=((PM.pts n).filter fun y=>decide (w.cell? ⟨b,y.toNat,none⟩ ≠ some (.slice none 0 0))).length
theorem Ch.fill (h:Ch e B w L gv n G T M F) {k:Nat} (hk:k < n):fillW w (L.rb k) n = PM.cntR n T k:=by
 unfold fillW PM.cntR
 congr 1
 refine List.filter_congr fun y hy=>?_
 obtain ⟨h0,h1⟩:=PM.mem_pts.1 hy
 by_cases ht:PM.tr T k y = []
 ·rw [h.at_nil hk h0 h1 ht];simp [ht]
 ·obtain ⟨b,off,cap,f,hc,-,-⟩:=h.at_some hk h0 h1 ht
  rw [hc];simp [ht]
def lenV:Value->Nat
 | .slice _ n _=>n
 | _=>0
theorem Que.lenV {v:Value} {l:List Int} {e:TypeId} {B:Nat} {w:World} (h:Que e B w v l):lenV v = l.length:=by
 obtain ⟨a,c,rfl⟩:=h.form
 rfl
end
def LQ (eG eI:TypeId) (B Bq:Nat) (L:Lay) (gv:Nat->Value) (n k:Nat) (G:PM.Gens) (T:PM.Rows) (M F:List Nat) (wb:World) (qs:List Int) (cur:Int->List (List Int)) (c0:Nat) (s:Value) (wr:World):Prop:=
 ∃ T' F',PM.QS n k G T T' qs cur/\Ch eG B wr L gv n G T' M F'/\Que eI Bq wr s qs/\(∀ g,s.ownBlock = some g->g ∉ F')/\(n - PM.cntR n T' k) + qs.length<=c0/\Only M wb wr/\(∀ b∈F',b∈F\/wb.heap.size<=b)/\(∀ b∈F,b∈F')/\(∀ j,j < k->wr.heap[L.rb j]? = wb.heap[L.rb j]?)
section
variable {eG eI:TypeId} {B Bq:Nat} {L:Lay} {gv:Nat->Value} {n k:Nat} {G:PM.Gens} {T:PM.Rows} {M F:List Nat} {wb wr:World} {y0:Int} {qs:List Int} {j c0:Nat} {s:Value}
theorem LQ.first {c1:Nat} (h:LQ eG eI B Bq L gv n k G T M F wb (y0 :: qs) PM.cur0 c1 s wr) (hk:k < n):LQ eG eI B Bq L gv n k G T M F wb (y0 :: qs) (PM.curA (PM.lv G k) y0 0) ((n - fillW wr (L.rb k) n) + lenV s) s wr:=by
 obtain ⟨T',F',hQ,hC,hq,hqF,hc,hO,hF1,hF2,hr⟩:=h
 exact ⟨T',F',hQ.first,hC,hq,hqF,by rw [hC.fill hk,hq.lenV];exact Nat.le_refl _,hO,hF1,hF2,hr⟩
theorem LQ.skip (_h:LQ eG eI B Bq L gv n k G T M F wb (y0 :: qs) (PM.curA (PM.lv G k) y0 j) c0 s wr) {T':PM.Rows} {F':List Nat} (hC:Ch eG B wr L gv n G T' M F') (hQ:PM.QS n k G T T' (y0 :: qs) (PM.curA (PM.lv G k) y0 j))
  (hq:Que eI Bq wr s (y0 :: qs)) (hqF:∀ g,s.ownBlock = some g->g ∉ F') (hc:(n - PM.cntR n T' k) + (y0 :: qs).length<=c0) (hO:Only M wb wr) (hF1:∀ b∈F',b∈F\/wb.heap.size<=b) (hF2:∀ b∈F,b∈F') (hr:∀ j,j < k->wr.heap[L.rb j]? = wb.heap[L.rb j]?)
  (hj:j < (PM.lv G k).length) (ht:PM.tr T' k (PM.at_ (PM.lv G k)[j] y0) ≠ []):LQ eG eI B Bq L gv n k G T M F wb (y0 :: qs) (PM.curA (PM.lv G k) y0 (j + 1)) c0 s wr:=
 ⟨T',F',hQ.skip hj ht,hC,hq,hqF,hc,hO,hF1,hF2,hr⟩
theorem LQ.more {T':PM.Rows} {F':List Nat} (hC:Ch eG B wr L gv n G T' M F') (hQ:PM.QS n k G T T' (y0 :: qs) (PM.curA (PM.lv G k) y0 j))
  (hq:Que eI Bq wr s (y0 :: qs)) (hqF:∀ g,s.ownBlock = some g->g ∉ F') (hc:(n - PM.cntR n T' k) + (y0 :: qs).length<=c0) (hO:Only M wb wr) (hF1:∀ b∈F',b∈F\/wb.heap.size<=b) (hF2:∀ b∈F,b∈F') (hr:∀ j,j < k->wr.heap[L.rb j]? = wb.heap[L.rb j]?)
  (hk:k < n) (hMb:∀ b∈M,b < wb.heap.size) (hBq:wb.heap.size<=Bq) (hj:j < (PM.lv G k).length) (ht:PM.tr T' k (PM.at_ (PM.lv G k)[j] y0) = [])
  {w4 w5:World} {v4 v5:Value} {f4:List Nat} {o:Obj} (r4:Rd w4 v4 (PM.comp (PM.tr T' k y0) (PM.lv G k)[j]) f4) (F4:Fresh wr.heap.size w4 f4) (t4:Only [] wr w4)
  (hq5:Que eI Bq w5 v5 ((y0 :: qs) ++ [PM.at_ (PM.lv G k)[j] y0])) (hO5:Only s.ownBlock.toList ((w4.setCell ⟨L.rb k,(PM.at_ (PM.lv G k)[j] y0).toNat,none⟩ v4).alloc o) w5)
  (hb5:v5.ownBlock = s.ownBlock\/v5.ownBlock = some ((w4.setCell ⟨L.rb k,(PM.at_ (PM.lv G k)[j] y0).toNat,none⟩ v4).alloc o).heap.size) :
  LQ eG eI B Bq L gv n k G T M F wb (y0 :: (qs ++ [PM.at_ (PM.lv G k)[j] y0])) (PM.curA (PM.lv G k) y0 (j + 1)) c0 v5 w5:=by
 obtain ⟨q1,q2⟩:=hQ.more hk hj ht
 have hy0:=hQ.mem y0 (by simp)
 have hg:(PM.lv G k)[j]∈PM.lv G k:=List.getElem_mem hj
 have hr0:=PM.row_rng hk hQ.base hy0
 have hto:=(hQ.base.gpn k _ hk hg).rng hr0.1 hr0.2
 have hne:PM.comp (PM.tr T' k y0) (PM.lv G k)[j] ≠ []:=(PM.row_mul hk hQ.base hy0 hg).1.ne (by omega)
 have hrM:=hC.mr k hk
 have hCr:=(hC.keep t4).setRow hk (m:=(PM.at_ (PM.lv G k)[j] y0).toNat) (by omega) r4 hne (fun b hb hm=>by have:=F4.ge b hb;have:=hC.lM b hm;omega)
 have hst:=Zai w4 (L.rb k) (PM.at_ (PM.lv G k)[j] y0).toNat v4
 have hs4:wr.heap.size<=w4.heap.size:=t4.size
 have hs5:(w4.setCell ⟨L.rb k,(PM.at_ (PM.lv G k)[j] y0).toNat,none⟩ v4).heap.size = w4.heap.size:=by simp [World.setCell]
 have hsM:∀ b∈s.ownBlock.toList,b ∉ M:=fun b hb hm=>by
  have:=(hq.lt b (by simpa using hb)).1;have:=hMb b hm;omega
 have hsF:∀ b∈s.ownBlock.toList,b ∉ F' ++ f4:=fun b hb hm=>by
  rcases List.mem_append.1 hm with hm | hm
  ·exact hqF b (by simpa using hb) hm
  ·have:=(hq.lt b (by simpa using hb)).2;have:=F4.ge b hm;omega
 have hC5:=(hCr.keep ((Only.refl [] _).alloc o)).only hO5 hsM hsF
 have hOA:Only M wb ((w4.setCell ⟨L.rb k,(PM.at_ (PM.lv G k)[j] y0).toNat,none⟩ v4).alloc o):=(((hO.keepThen t4).setCell (fun _=>hrM) _).alloc o)
 have hO':Only M wb w5:=hOA.then_ hO5 (fun b hb hl=>by
  have:=(hq.lt b (by simpa using hb)).1;omega)
 refine ⟨_,F' ++ f4,q1,hC5,hq5,fun g hg' hm=>?_,?_,hO',fun b hb=>?_,fun b hb=>List.mem_append_left _ (hF2 b hb),fun i hi=>?_⟩
 ·rcases hb5 with e | e
  ·rw [e] at hg';exact hsF g (by simpa using hg') hm
  ·rw [e] at hg'
   have e2:g = ((w4.setCell ⟨L.rb k,(PM.at_ (PM.lv G k)[j] y0).toNat,none⟩ v4).alloc o).heap.size:=by simpa [eq_comm] using hg'
   have e3:((w4.setCell ⟨L.rb k,(PM.at_ (PM.lv G k)[j] y0).toNat,none⟩ v4).alloc o).heap.size = w4.heap.size + 1:=by simp [World.setCell]
   rcases List.mem_append.1 hm with hm | hm
   ·have:=hC.lF g hm;omega
   ·have:=F4.lt g hm;omega
 ·rw [q2]
  have:=PM.cntR_le n (PM.setT T' k (PM.at_ (PM.lv G k)[j] y0).toNat (PM.comp (PM.tr T' k y0) (PM.lv G k)[j])) k
  rw [q2] at this
  simp only [List.length_cons,List.length_append,List.length_nil] at hc ⊢
  omega
 ·rcases List.mem_append.1 hb with hb | hb
  ·exact hF1 b hb
  ·have:=F4.ge b hb;have:=hO.size;exact .inr (by omega)
 ·have hin:i < n:=by omega
  have hl:L.rb i < wr.heap.size:=hC.lM _ (hC.mr i hin)
  have e1:=t4.block _ hl (by simp)
  have e2:=hst.block (L.rb i) (by omega) (by
   intro hm
   have:L.rb i = L.rb k:=by simpa using hm
   have:=hC.rr i k hin hk this;omega)
  have e3:=((Only.refl [] (w4.setCell ⟨L.rb k,(PM.at_ (PM.lv G k)[j] y0).toNat,none⟩ v4)).alloc o).block (L.rb i) (by rw [hs5];omega) (by simp)
  have e4:=hO5.block (L.rb i) (by have:=((Only.refl [] (w4.setCell ⟨L.rb k,(PM.at_ (PM.lv G k)[j] y0).toNat,none⟩ v4)).alloc o).size;omega) (fun hm=>hsM _ hm (hC.mr i hin))
  exact e4.trans (e3.trans (e2.trans (e1.trans (hr i hi))))
theorem LQ.pop (h:LQ eG eI B Bq L gv n k G T M F wb (y0 :: qs) (PM.curA (PM.lv G k) y0 j) c0 s wr) (hk:k < n) (hj:(PM.lv G k).length<=j) {v1:Value} (hq1:Que eI Bq wr v1 qs) (hv:v1.ownBlock = s.ownBlock) :
  LQ eG eI B Bq L gv n k G T M F wb qs PM.cur0 (n + n) v1 wr/\(n - fillW wr (L.rb k) n) + lenV v1 < c0:=by
 obtain ⟨T',F',hQ,hC,hq,hqF,hc,hO,hF1,hF2,hr⟩:=h
 have hQ':=hQ.pop hj
 have hl:=hQ'.len hk
 refine ⟨⟨T',F',hQ',hC,hq1,fun g hg=>hqF g (by rw [<- hv];exact hg),by omega,hO,hF1,hF2,hr⟩,?_⟩
 rw [hC.fill hk,hq1.lenV]
 simp only [List.length_cons] at hc
 omega
end
def SP (T:PM.Rows) (k:Nat) (ys:List Int) (L:List (List Int)) (i j:Nat) (q:List Int):Prop:=
 (∃ y∈ys.take i,∃ g∈L,q = PM.comp (PM.tr T k y) g)\/(∃ y,ys[i]? = some y/\∃ g∈L.take j,q = PM.comp (PM.tr T k y) g)
theorem SP.zero {T:PM.Rows} {k:Nat} {ys:List Int} {L:List (List Int)} {q:List Int} (h:SP T k ys L 0 0 q):False:=by
 rcases h with ⟨y,hy,-⟩ | ⟨y,-,g,hg,-⟩
 ·simp at hy
 ·simp at hg
theorem SP.succ {T:PM.Rows} {k:Nat} {ys:List Int} {L:List (List Int)} {i j:Nat} {q:List Int} {y0:Int} (hi:ys[i]? = some y0) (hj:j < L.length) (h:SP T k ys L i (j + 1) q):SP T k ys L i j q\/q = PM.comp (PM.tr T k y0) L[j]:=by
 rcases h with h | ⟨y,hy,g,hg,rfl⟩
 ·exact .inl (.inl h)
 ·rw [List.take_succ_eq_append_getElem hj] at hg
  rw [hi] at hy;injection hy with hy;subst hy
  rcases List.mem_append.1 hg with hg | hg
  ·exact .inl (.inr ⟨_,hi,g,hg,rfl⟩)
  ·have:g = L[j]:=by simpa using hg
   subst this;exact .inr rfl
theorem SP.next {T:PM.Rows} {k:Nat} {ys:List Int} {L:List (List Int)} {i j:Nat} {q:List Int} (hj:L.length<=j) (h:SP T k ys L (i + 1) 0 q):SP T k ys L i j q:=by
 rcases h with ⟨y,hy,g,hg,rfl⟩ | ⟨y,-,g,hg,-⟩
 ·rw [List.mem_take_iff_getElem] at hy
  obtain ⟨m,hm,rfl⟩:=hy
  by_cases hmi:m < i
  ·exact .inl ⟨_,List.mem_take_iff_getElem.2 ⟨m,by omega,rfl⟩,g,hg,rfl⟩
  ·have:m = i:=by omega
   subst this
   exact .inr ⟨_,List.getElem?_eq_getElem (by omega),g,by rw [List.take_of_length_le hj];exact hg,rfl⟩
 ·simp at hg
theorem SP.all {T:PM.Rows} {k:Nat} {ys:List Int} {L:List (List Int)} {i j:Nat} (hi:ys.length<=i) {y:Int} (hy:y∈ys) {g:List Int} (hg:g∈L):SP T k ys L i j (PM.comp (PM.tr T k y) g):=
 .inl ⟨y,by rw [List.take_of_length_le hi];exact hy,g,hg,rfl⟩
def LP (e:TypeId) (B:Nat) (L:Lay) (gv1:Nat->Value) (n k:Nat) (G1:PM.Gens) (T1:PM.Rows) (M1 F1:List Nat) (W:World) (S:List Int->Prop) (wr:World):Prop:=
 ∃ gv' G' T' M' F',Ch e B wr L gv' n G' T' M' F'/\PM.PS n k G1 T1 G' T' S/\PM.Ln n (k + 1) G' T'/\Mv L (k + 1) gv1 gv' M1 M' F1 F' [] W wr
section
variable {e:TypeId} {B:Nat} {L:Lay} {gv gv1 gv':Nat->Value} {n k:Nat} {G G1 G':PM.Gens} {T T1 T':PM.Rows} {M M1 M' F F0 F1 F' f:List Nat} {w W2 W wr:World} {S:List Int->Prop}
theorem LP.start (hC:Ch e B W L gv1 n G1 T1 M1 F1) (hB:PM.Base n G1 T1) (hCp:PM.Cpl n (k + 1) G1 T1) (hL:PM.Ln n (k + 1) G1 T1):LP e B L gv1 n k G1 T1 M1 F1 W (fun _=>False) W:=
 ⟨gv1,G1,T1,M1,F1,hC,PM.PS.start hC.shape hB hCp,hL,Mv.refl _ _ _ _ _ _ _⟩
theorem LP.weak {S':List Int->Prop} (h:LP e B L gv1 n k G1 T1 M1 F1 W S wr) (hs:∀ q,S' q->S q):LP e B L gv1 n k G1 T1 M1 F1 W S' wr:=by
 obtain ⟨a,b,c,d,f,h1,h2,h3,h4⟩:=h
 exact ⟨a,b,c,d,f,h1,h2.weak hs,h3,h4⟩
theorem LP.keep {w':World} (hk:k < n) (h:LP e B L gv1 n k G1 T1 M1 F1 W S wr) (hr:∀ j,j < n->L.rb j < W.heap.size) (ho:Only [] wr w'):LP e B L gv1 n k G1 T1 M1 F1 W S w':=by
 obtain ⟨a,b,c,d,f,h1,h2,h3,h4⟩:=h
 exact ⟨a,b,c,d,f,h1.keep ho,h2,h3,h4.keep ho fun j hj=>hr j (by omega)⟩
theorem LP.step (hk:k < n) (hC:Ch e B wr L gv' n G' T' M' F') (hP:PM.PS n k G1 T1 G' T' S) (hM:Mv L (k + 1) gv1 gv' M1 M' F1 F' [] W wr) {q:List Int} (hn:PM.tr T' k (PM.at_ q (k:Int)) ≠ [])
  {w3 w4:World} (t:Only [] wr w3) {fp:List Nat} (hf:∀ b∈fp,wr.heap.size<=b) (ha:AddP e B L n (k + 1) (PM.res T' k q) G' T' M' F' fp gv' w3 w4):LP e B L gv1 n k G1 T1 M1 F1 W (fun x=>S x\/x = q) w4:=by
 obtain ⟨gv2,G2,T2,M2,F2,hC2,hA,hL,hMv⟩:=ha
 exact ⟨gv2,G2,T2,M2,F2,hC2,hP.step hC2.shape hn hA,hL,hM.trans (Mv.before t hMv fun j hj=>hC.lM _ (hC.mr j (by omega))) fun b hb=>.inr (.inr (Nat.le_trans hM.only.size (hf b hb)))⟩
theorem LP.may (hk:k < n) (hP:PM.PS n k G1 T1 G' T' S) (hcl:∀ y g,PM.tr T1 k y ≠ []->g∈PM.lv G1 k->PM.tr T1 k (PM.at_ g y) ≠ []) {y:Int} {g:List Int} (hy:PM.tr T1 k y ≠ []) (hg:g∈PM.lv G1 k) :
  PM.tr T' k (PM.at_ (PM.comp (PM.tr T1 k y) g) (k:Int)) ≠ []/\PM.May n (k + 1) (PM.res T' k (PM.comp (PM.tr T1 k y) g)) G' /\
  PM.res T' k (PM.comp (PM.tr T1 k y) g) = PM.comp (PM.comp (PM.tr T1 k y) g) (PM.inv (PM.tr T1 k (PM.at_ g y))):=by
 have hy':PM.tr T' k y ≠ []:=by rw [hP.tr];exact hy
 have hg':g∈PM.lv G' k:=by rw [hP.lv];exact hg
 obtain ⟨a1,a2,a3,a4⟩:=PM.row_mul hk hP.base hy' hg'
 rw [hP.tr] at a1 a2 a3 a4
 have hn:PM.tr T' k (PM.at_ (PM.comp (PM.tr T1 k y) g) (k:Int)) ≠ []:=by rw [a4,hP.tr];exact hcl y g hy hg
 refine ⟨hn,PM.Zrm hk hP.base a1 a2 a3 hn,?_⟩
 unfold PM.res
 rw [a4,hP.tr]
theorem LP.genAt (hC:Ch e B wr L gv' n G' T' M' F') (hP:PM.PS n k G1 T1 G' T' S) (hM:Mv L (k + 1) gv1 gv' M1 M' F1 F' [] W wr) (hk:k < n) {j:Nat} (hj:j < (PM.lv G1 k).length) :
  ∃ g c u f,gv1 k = .slice (some ⟨g,0,none⟩) (PM.lv G1 k).length c/\wr.cell? ⟨g,j,none⟩ = some u/\Rd wr u (PM.lv G1 k)[j] f/\∀ b∈f,b∈F':=by
 have e1:=hP.lv
 have e2:=hM.gvs k (Nat.lt_succ_self k)
 obtain ⟨g,c,u,f,a1,a2,a3,a4⟩:=hC.genAt hk (j:=j) (by rw [e1];exact hj)
 have e3:(PM.lv G' k)[j]'(by rw [e1];exact hj) = (PM.lv G1 k)[j]:=by simp only [e1]
 rw [e2,e1] at a1
 exact ⟨g,c,u,f,a1,a2,e3 ▸ a3,a4⟩
theorem LP.rowAt (hC:Ch e B wr L gv' n G' T' M' F') (hP:PM.PS n k G1 T1 G' T' S) (hk:k < n) {y:Int} (hy:PM.tr T1 k y ≠ []) :
  0<=y/\y < (n:Int)/\PM.PN n (PM.tr T1 k y)/\∃ b off cap f,wr.cell? ⟨L.rb k,y.toNat,none⟩ = some (.slice (some ⟨b,off,none⟩) (PM.tr T1 k y).length cap)/\Rd wr (.slice (some ⟨b,off,none⟩) (PM.tr T1 k y).length cap) (PM.tr T1 k y) f/\∀ b∈f,b∈F':=by
 have hy':PM.tr T' k y ≠ []:=by rw [hP.tr];exact hy
 obtain ⟨h0,h1⟩:=PM.row_rng hk hP.base hy'
 have h2:=hP.base.wf.pn k y hk hy'
 have h3:=hC.at_some hk h0 h1 hy'
 rw [hP.tr] at h2 h3
 exact ⟨h0,h1,h2,h3⟩
theorem LP.fin {p:List Int} (hk:k < n) (h:LP e B L gv1 n k G1 T1 M1 F1 W S wr) (hS:∀ y g,PM.tr T1 k y ≠ []->g∈PM.lv G1 k->S (PM.comp (PM.tr T1 k y) g))
  (h0:Mv L k gv gv1 M M1 F F0 f w W2) (hO:Only M1 W2 W) (hF1:∀ b∈F1,b∈F0\/W2.heap.size<=b) (hF2:∀ b∈F0,b∈F1) (hrw:∀ j,j < k->W.heap[L.rb j]? = W2.heap[L.rb j]?)
  (hs:PM.Shape n G T) (hL:PM.Ln n k G T) (hno:PM.has T n (n - k) p = false) (hg0:PM.Grew n k G T G1 T) (hg1:PM.Grew n k G1 T G1 T1)
  (hlv:PM.lv G1 k = PM.lv G k ++ [p]):AddP e B L n k p G T M F f gv w wr:=by
 obtain ⟨gv',G',T',M',F',hC,hP,hLn,hM⟩:=h
 have hgr:PM.Grew n k G T G' T':=(hg0.trans hg1).trans (hP.grew.mono (Nat.le_succ k))
 have hlv':PM.lv G' k = PM.lv G k ++ [p]:=by rw [hP.lv];exact hlv
 have hA:PM.Added n k p G T G' T':=by
  refine PM.Added.level hk hP.base hP.cpl hgr (fun y g hy hg=>?_) (by rw [hlv'];simp) (fun g hg=>?_)
  ·rw [hP.tr] at hy ⊢
   rw [hP.lv] at hg
   exact hP.ok _ (hS y g hy hg)
  ·rw [hlv'] at hg
   simpa using hg
 refine ⟨gv',G',T',M',F',hC,hA,PM.Ln.more hs hC.shape hL hLn hgr.ext hno hA.has (by rw [hlv'];simp),?_⟩
 have hmid:Mv L k gv1 gv1 M1 M1 F0 F1 [] W2 W:=⟨hO,fun _ _=>rfl,hrw,fun _ h=>.inl h,fun _ h=>h,fun b hb=>(hF1 b hb).imp id fun h=>.inr h,hF2⟩
 have hM':Mv L k gv1 gv' M1 M' F1 F' [] W wr:=hM.mono (Nat.le_succ k) (by simp)
 exact (h0.trans hmid (by simp)).trans hM' (by simp)
end
end Go.Proofs.YtjfmkolnleicnaaGreatDoor
