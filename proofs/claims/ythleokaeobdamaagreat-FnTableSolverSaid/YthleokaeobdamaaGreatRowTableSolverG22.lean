/- A table's distances bound a state's from below; what an accepted certificate claims is true (law 59). Plain. -/
import Derived.Test.YthleokaeobdamaaGreatRowTableSolverG10
import Derived.Test.YthleokaeobdamaaGreatRowTableSolverG14
import Derived.Test.YthleokaeobdamaaGreatRowTableSolverG21
import Derived.Test.YthleokaeobdamaaGreatRowTableSolverG17
import Derived.Test.YthleokaeobdamaaGreatRowTableSolverG9
import Derived.Test.YthleokaeobdamaaGreatRowTableSolverG20
namespace Go.Proofs.YthleokaeobdamaaGreat
open Go.RowKit
set_option maxRecDepth 10000
theorem comp3 {tr p m:List Int} (hz:∀ z∈tr,0<=z/\z < p.length):PM.comp (PM.comp tr p) m = PM.comp tr (PM.comp p m):=by
 unfold PM.comp
 rw [List.map_map]
 refine List.map_congr_left fun z hm=>?_
 have:=hz z hm
 exact (PM.at_comp this.1 this.2).symm
theorem Zng {x:Puzzle} {s w:List Int} {l:Int} (hg:∀ g∈x.moves,PM.PN x.points.toNat g) (hs:PM.PN x.points.toNat s) (hw:∀ q∈w,q∈ltrs x.moves.length):appW x s (w ++ [l]) = nxt x (appW x s w) l:=by
 unfold appW nxt
 rw [Zfb]
 exact (PM.Zat hs (evW_pn hg w hw)).symm
theorem Ztx {x:Puzzle} {s w:List Int} (hg:∀ g∈x.moves,PM.PN x.points.toNat g) (hs:PM.PN x.points.toNat s) (hw:∀ q∈w,q∈ltrs x.moves.length):PM.PN x.points.toNat (appW x s w):=hs.comp (evW_pn hg w hw)
theorem Zjq {x:Puzzle} {s:List Int} (hs:PM.PN x.points.toNat s):appW x s [] = s:=PM.comp_id hs
section
variable {x:Puzzle} {t:Table}
theorem Built.trk (h:Built x t) {s:List Int} (hs:PM.PN x.points.toNat s):∀ z∈t.tracked,0<=z/\z < s.length:=fun z hz=>by
 have:=(Zbb.1 h.tk).2.1 z hz
 rw [hs.1]
 omega
theorem Built.along (h:Built x t) (hg:∀ g∈x.moves,PM.PN x.points.toNat g) {s:List Int} (hs:PM.PN x.points.toNat s) {j:Nat} (hj:j < t.patterns.length) (e:t.patterns.getD j [] = PM.comp t.tracked s) :
  ∀ (w:List Int),(∀ l∈w,l∈ltrs x.moves.length)->∃ i:Nat,i < t.patterns.length/\t.patterns.getD i [] = PM.comp t.tracked (appW x s w)/\t.distances.getD j 0<=t.distances.getD i 0 + w.length:=by
 intro w
 induction w using snocInd with
 | h0=>intro _;exact ⟨j,hj,by rw [Zjq hs];exact e,by simp⟩
 | h1 w l ih=>
  intro hw
  have hw1:∀ q∈w,q∈ltrs x.moves.length:=fun q hq=>hw q (by simp [hq])
  obtain ⟨i,a1,a2,a3⟩:=ih hw1
  obtain ⟨k,b1,b2,b3,b4⟩:=h.step a1 (hw l (by simp))
  refine ⟨k,b1,?_,?_⟩
  ·rw [b2,a2,Zng hg hs hw1]
   exact comp3 (h.trk (Ztx hg hs hw1))
  ·rw [List.length_append,List.length_singleton];omega
theorem Built.comp_pts (h:Built x t):PM.comp t.tracked (PM.pts x.points.toNat) = t.tracked:=by
 unfold PM.comp
 refine (List.map_congr_left fun z hz=>?_).trans (List.map_id _)
 have:=(Zbb.1 h.tk).2.1 z hz
 exact PM.at_pts (by omega) (by omega)
theorem Built.zero (h:Built x t) {i:Nat} (hi:i < t.patterns.length) (e:t.patterns.getD i [] = t.tracked):t.distances.getD i 0 = 0:=by
 have h0:t.patterns.getD 0 [] = t.tracked:=h.bi.p0
 have hne:0 < t.patterns.length:=h.bi.ne
 have a:=h.idx hi
 have b:=h.idx hne
 rw [e] at a
 rw [h0,a] at b
 have:i = 0:=by omega
 subst this
 exact h.bi.d0
theorem Built.low (h:Built x t) {s w:List Int} (hs:stateB x s = true) (hr:reachB x s = true) (hw:∀ l∈w,l∈ltrs x.moves.length) (hsol:appW x s w = PM.pts x.points.toNat):∃ j:Nat,j < t.patterns.length/\t.patterns.getD j [] = PM.comp t.tracked s/\t.distances.getD j 0<=w.length:=by
 obtain ⟨-,-,hg,hp⟩:=Zam hs
 obtain ⟨j,hj,e⟩:=List.getElem_of_mem (h.reach hr)
 have e2:t.patterns.getD j [] = PM.comp t.tracked s:=by rw [Zag hj,e]
 obtain ⟨i,a1,a2,a3⟩:=h.along hg hp hj e2 w hw
 rw [hsol,h.comp_pts] at a2
 rw [h.zero a1 a2] at a3
 exact ⟨j,hj,e2,by omega⟩
theorem Zte (h:validT x t = true) {s w:List Int} (hs:stateB x s = true) (hr:reachB x s = true) (hw:∀ l∈w,l∈ltrs x.moves.length) (hsol:appW x s w = PM.pts x.points.toNat):lookT t s<=w.length:=by
 obtain ⟨j,hj,e,hd⟩:=(Zbp h).low hs hr hw hsol
 unfold lookT
 rw [<- e,(Zbp h).idx hj,Int.toNat_natCast]
 exact hd
end
theorem Zpg {l:List Int} {m:Int} (h:∀ y∈l,y<=m):∀ {a:Int},a<=m->l.foldl max a<=m:=by
 induction l with
 | nil=>intro a ha;exact ha
 | cons y l ih=>
  intro a ha
  rw [List.foldl_cons]
  exact ih (fun z hz=>h z (by simp [hz])) (by have:=h y (by simp);omega)
theorem Zqb {x:Puzzle} {s w:List Int} (hs:stateB x s = true) (hr:reachB x s = true) (hw:∀ l∈w,l∈ltrs x.moves.length) (hsol:appW x s w = PM.pts x.points.toNat):distX x s<=w.length:=by
 rcases he:expl x with _ | t
 ·rw [Zhj he];omega
 ·obtain ⟨hb,htr⟩:=Zdb he
  obtain ⟨j,hj,e,hd⟩:=hb.low hs hr hw hsol
  obtain ⟨i,hi,e2,-,h3,-,-⟩:=Zig he hr
  have hp:=(Zam hs).2.2.2
  rw [htr,PM.id_comp hp] at e
  have a:=hb.idx hi
  have b:=hb.idx hj
  rw [e2] at a
  rw [e,a] at b
  have:i = j:=by omega
  subst this
  omega
theorem Zsp {x:Puzzle} {t:Table} (he:expl x = some t) (hg:∀ g∈x.moves,PM.PN x.points.toNat g):∀ (n i:Nat),i < t.patterns.length->t.distances.getD i 0 = (n:Int)->PM.PN x.points.toNat (t.patterns.getD i [])->∃ w:List Int,w.length = n/\(∀ l∈w,l∈ltrs x.moves.length)/\appW x (t.patterns.getD i []) w = PM.pts x.points.toNat:=by
 obtain ⟨hb,htr⟩:=Zdb he
 intro n
 induction n with
 | zero=>
  intro i hi hd hp
  have h0:i = 0:=by
   have:=(hb.dep i hi).2.2
   omega
  subst h0
  have h0:t.patterns.getD 0 [] = t.tracked:=hb.bi.p0
  refine ⟨[],rfl,by simp,?_⟩
  rw [Zjq hp,h0,htr]
 | succ n ih=>
  intro i hi hd hp
  obtain ⟨k,j,hD⟩:=hb.down hi (n:=n) (by rw [hd];push_cast;rfl)
  have hl:(ltrs x.moves.length)[k]'hD.hk∈ltrs x.moves.length:=List.getElem_mem hD.hk
  obtain ⟨w,hw1,hw2,hw3⟩:=ih j hD.hj hD.ds (by rw [hD.nx];exact hp.comp (mv_pn hg hl))
  refine ⟨(ltrs x.moves.length)[k]'hD.hk :: w,by rw [List.length_cons,hw1],fun q hq=>?_,?_⟩
  ·rcases List.mem_cons.1 hq with rfl | hq
   ·exact hl
   ·exact hw2 q hq
  ·rw [<- hw3,hD.nx]
   unfold appW nxt
   rw [show (ltrs x.moves.length)[k]'hD.hk :: w = [(ltrs x.moves.length)[k]'hD.hk] ++ w from rfl,evW_cat hg _ (fun q hq=>by rw [List.mem_singleton.1 hq];exact hl) w hw2,evW_one hg hl]
   exact (PM.Zat hp (mv_pn hg hl)).symm
def mRow (x:Puzzle) (t:Table) (v:Nat):List Nat:=(ltrs x.moves.length).map fun l=>(idxL t.patterns (nxt x (t.patterns.getD v []) l)).toNat
def mD (x:Puzzle) (t:Table) (src:List Int->Bool):List Int:=mDist (fun v=>src (t.patterns.getD v [])) (mRow x t) t.patterns.length
def tD (x:Puzzle) (t:Table) (src:List Int->Bool):Table:=⟨t.tracked,t.patterns,mD x t src⟩
def wEnd (x:Puzzle) (s w:List Int):List Int:=w.foldl (nxt x) s
section
variable {x:Puzzle} {t:Table} {src:List Int->Bool} (hb:Built x t)
end
def gS (goal s:List Int):Bool:=decide (PM.comp goal s = goal)
section
variable {x:Puzzle} {tr:List Int} {Z:List (List Int)}
end
section
variable {x:Puzzle} {t tg:Table} {goal:List Int} (he:expl x = some t) (hg:trackB x.points goal = true)
end
def subNm (s:ByteArray) (sub:List Int):ByteArray:=⟨(sub.map fun k=>s.data.getD k.toNat 0).toArray⟩
def subP (x:Puzzle) (sub:List Int):Puzzle:=⟨x.points,subNm x.names sub,sub.map fun k=>x.moves.getD k.toNat []⟩
section
variable {x:Puzzle} {sub:List Int} (hv:validPz x = true) (hs:trackB x.moves.length sub = true)
end
section
variable {x:Puzzle} {t ts:Table} {sub:List Int} (he:expl x = some t) (h2:expl (subP x sub) = some ts)
end
theorem Zsr (x:Puzzle) (s w:List Int) (l:Int):wEnd x s (w ++ [l]) = nxt x (wEnd x s w) l:=by
 unfold wEnd
 rw [List.foldl_append];rfl
theorem Zqd (x:Puzzle) (s a b:List Int):wEnd x s (a ++ b) = wEnd x (wEnd x s a) b:=by
 unfold wEnd
 rw [List.foldl_append]
theorem Zhm {x:Puzzle} {s:List Int} (hg:∀ g∈x.moves,PM.PN x.points.toNat g) (hs:PM.PN x.points.toNat s):∀ (w:List Int),(∀ l∈w,l∈ltrs x.moves.length)->wEnd x s w = appW x s w:=by
 intro w
 induction w using snocInd with
 | h0=>intro _;exact (Zjq hs).symm
 | h1 w l ih=>
  intro hw
  have hw1:∀ q∈w,q∈ltrs x.moves.length:=fun q hq=>hw q (by simp [hq])
  rw [Zsr,Zng hg hs hw1,ih hw1]
theorem Zst {x:Puzzle} {ts:List Table} {D:Nat} {u:List Int}:∀ (f:Nat) (s w:List Int) (c:Nat),(vis x ts D f s w c).2 = some (some u)->∃ p,u = w ++ p/\(∀ l∈p,l∈ltrs x.moves.length)/\wEnd x s p = PM.pts x.points.toNat:=by
 have hG:∀ (s w:List Int) (more:Nat->Nat × Out) (c:Nat),(∀ c,(more c).2 = some (some u)->∃ p,u = w ++ p/\(∀ l∈p,l∈ltrs x.moves.length)/\wEnd x s p = PM.pts x.points.toNat)->(visG x ts D s w more c).2 = some (some u)->∃ p,u = w ++ p/\(∀ l∈p,l∈ltrs x.moves.length)/\wEnd x s p = PM.pts x.points.toNat:=by
  intro s w more c hm h
  unfold visG at h
  split at h
  ·cases h
  split at h
  ·cases h
  split at h
  ·simp only at h
   split at h
   ·rename_i hs
    injection h with h;injection h with h
    exact ⟨[],by simp [h],by simp,hs⟩
   ·cases h
  ·exact hm _ h
 have hL:∀ (rec:List Int->List Int->Nat->Nat × Out),(∀ s w c,(rec s w c).2 = some (some u)->∃ p,u = w ++ p/\(∀ l∈p,l∈ltrs x.moves.length)/\wEnd x s p = PM.pts x.points.toNat)->∀ (s w ls:List Int) (c:Nat),(∀ l∈ls,l∈ltrs x.moves.length)->(visL x rec s w ls c).2 = some (some u)->∃ p,u = w ++ p/\(∀ l∈p,l∈ltrs x.moves.length)/\wEnd x s p = PM.pts x.points.toNat:=by
  intro rec hr s w ls
  induction ls with
  | nil=>intro c _ h;cases h
  | cons l ls ih=>
   intro c hl h
   have hl1:=hl l (by simp)
   by_cases hx:l = -(lastL w)
   ·rw [Zdr hx] at h
    exact ih c (fun q hq=>hl q (by simp [hq])) h
   ·rcases hq:rec (nxt x s l) (w ++ [l]) c with ⟨c',o⟩
    cases o with
    | none=>rw [visL_go hx hq] at h;exact ih c' (fun q hq=>hl q (by simp [hq])) h
    | some o=>
     rw [Zcf hx hq] at h
     simp only at h
     obtain ⟨p,a,b,d⟩:=hr _ _ _ (by rw [hq];exact h)
     refine ⟨l :: p,by rw [a,List.append_assoc];rfl,fun q hq'=>?_,?_⟩
     ·rcases List.mem_cons.1 hq' with rfl | hq'
      ·exact hl1
      ·exact b q hq'
     ·unfold wEnd at d ⊢
      rw [List.foldl_cons];exact d
 intro f
 induction f with
 | zero=>intro s w c h;exact hG s w _ c (by intro c h;cases h) h
 | succ f ih=>intro s w c h;exact hG s w _ c (fun c h=>hL _ ih s w _ c (fun l hl=>hl) h) h
def redW:Int->List Int->Prop
 | _,[]=>True
 | a,l :: u=>l ≠ -a/\redW l u
theorem redW_no:∀ (u:List Int) (a:Int),¬ redW a u->(∃ q,u = -a :: q)\/∃ p l q,u = p ++ l :: -l :: q
 | [],_,h=>absurd trivial h
 | l :: u,a,h=>by
  by_cases h1:l = -a
  ·exact .inl ⟨u,by rw [h1]⟩
  ·have h2:¬ redW l u:=fun h2=>h ⟨h1,h2⟩
   rcases redW_no u l h2 with ⟨q,e⟩ | ⟨p,l2,q,e⟩
   ·exact .inr ⟨[],l,q,by rw [e];rfl⟩
   ·exact .inr ⟨l :: p,l2,q,by rw [e];rfl⟩
theorem Zsx (w:List Int) (l:Int):lastL (w ++ [l]) = l:=by
 unfold lastL
 rw [List.length_append,List.length_singleton,Nat.add_sub_cancel]
 exact Zia w l 0
theorem Zjj {x:Puzzle} {rec:List Int->List Int->Nat->Nat × Out} {s w:List Int}:∀ (ls:List Int) (c:Nat),(visL x rec s w ls c).2 = none->∀ l∈ls,l ≠ -(lastL w)->∃ c',(rec (nxt x s l) (w ++ [l]) c').2 = none
 | [],_,_,l,hl,_=>by cases hl
 | l0 :: ls,c,h,l,hl,hne=>by
  by_cases hx:l0 = -(lastL w)
  ·rw [Zdr hx] at h
   rcases List.mem_cons.1 hl with rfl | hl
   ·exact absurd hx hne
   ·exact Zjj ls c h l hl hne
  ·rcases hq:rec (nxt x s l0) (w ++ [l0]) c with ⟨c',o⟩
   cases o with
   | none=>
    rw [visL_go hx hq] at h
    rcases List.mem_cons.1 hl with rfl | hl
    ·exact ⟨c,by rw [hq]⟩
    ·exact Zjj ls c' h l hl hne
   | some o=>rw [Zcf hx hq] at h;cases h
theorem Znn {x:Puzzle} {ts:List Table} (hts:∀ t∈ts,validT x t = true) {s w:List Int} (hs:stateB x s = true) (hr:reachB x s = true) (hw:∀ l∈w,l∈ltrs x.moves.length) (hsol:appW x s w = PM.pts x.points.toNat):lbMax ts s<=w.length:=by
 unfold lbMax
 refine Zpg (fun y hy=>?_) (by omega)
 obtain ⟨t,ht,rfl⟩:=List.mem_map.1 hy
 exact Zte (hts t ht) hs hr hw hsol
theorem Zpq {x:Puzzle} {ts:List Table} (hts:∀ t∈ts,validT x t = true) {D:Nat}:∀ (f:Nat) (s w:List Int) (c:Nat) (u:List Int),reachB x s = true->w.length + f = D->u.length = f->(∀ l∈u,l∈ltrs x.moves.length)->redW (lastL w) u->wEnd x s u = PM.pts x.points.toNat->(vis x ts D f s w c).2 ≠ none:=by
 have hlb:∀ (s u:List Int),reachB x s = true->(∀ l∈u,l∈ltrs x.moves.length)->wEnd x s u = PM.pts x.points.toNat->lbMax ts s<=u.length:=fun s u hr hu he=>by
  have hst:=Zax hr
  obtain ⟨-,-,hg,hp⟩:=Zam hst
  exact Znn hts hst hr hu (by rw [<- Zhm hg hp u hu];exact he)
 intro f
 induction f with
 | zero=>
  intro s w c u hr hw hu hl hred he
  have h1:=hlb s u hr hl he
  have hu0:u = []:=List.eq_nil_of_length_eq_zero hu
  subst hu0
  have hs:s = PM.pts x.points.toNat:=he
  unfold vis visG
  split
  ·simp
  rw [if_neg (by simp at h1;omega),if_pos (by omega)]
  simp
 | succ f ih=>
  intro s w c u hr hw hu hl hred he
  have h1:=hlb s u hr hl he
  cases u with
  | nil=>simp at hu
  | cons l u=>
   have hl1:=hl l (by simp)
   unfold vis visG
   split
   ·simp
   rw [if_neg (by omega),if_neg (by omega)]
   intro h
   obtain ⟨c',h2⟩:=Zjj _ _ h l hl1 hred.1
   refine ih (nxt x s l) (w ++ [l]) c' u (Zfq hr hl1) (by rw [List.length_append,List.length_singleton];omega) (by simpa using hu) (fun q hq=>hl q (by simp [hq])) (by rw [Zsx];exact hred.2) ?_ h2
   unfold wEnd at he ⊢
   rw [List.foldl_cons] at he;exact he
theorem Zjh {x:Puzzle} {ts:List Table} {s w:List Int}:∀ (k d:Nat),deepN x ts s k d = some (some w)->∃ D,d<=D/\(vis x ts D D s [] 0).2 = some (some w)/\∀ D',d<=D'->D' < D->(vis x ts D' D' s [] 0).2 = none
 | 0,_,h=>by cases h
 | k + 1,d,h=>by
  rcases hq:(vis x ts d d s [] 0).2 with _ | o
  ·rw [Zjm hq] at h
   obtain ⟨D,a,b,c⟩:=Zjh k (d + 1) h
   refine ⟨D,by omega,b,fun D' h1 h2=>?_⟩
   rcases Nat.eq_or_lt_of_le h1 with rfl | h3
   ·exact hq
   ·exact c D' h3 h2
  ·rw [Zhl hq] at h
   rw [h] at hq
   exact ⟨d,Nat.le_refl _,hq,fun D' h1 h2=>by omega⟩
theorem pn_patB {x:Puzzle} (h1:1<=x.points) {s:List Int} (h:PM.PN x.points.toNat s):patB x.points x.points.toNat s = true:=by
 obtain ⟨a,b,c⟩:=h
 exact Zaz.2 ⟨a,fun z hz=>by have:=b z hz;omega,c⟩
theorem Zsv {x:Puzzle} {s:List Int} (hr:reachB x s = true) {l:Int} (hl:l∈ltrs x.moves.length):nxt x (nxt x s l) (-l) = s:=by
 have hst:=Zax hr
 obtain ⟨h1,-,-,hp⟩:=Zam hst
 exact Zjl (Zif hst) (pn_patB h1.1 hp) hl
theorem Zlo {x:Puzzle}:∀ (w s:List Int),reachB x s = true->(∀ l∈w,l∈ltrs x.moves.length)->reachB x (wEnd x s w) = true
 | [],_,h,_=>h
 | l :: w,s,h,hw=>Zlo w (nxt x s l) (Zfq h (hw l (by simp))) fun q hq=>hw q (by simp [hq])
theorem Zso {x:Puzzle} {s u:List Int} (hr:reachB x s = true) (hu:∀ l∈u,l∈ltrs x.moves.length) (he:wEnd x s u = PM.pts x.points.toNat) (hd:(u.length:Int)<=distX x s):redW 0 u:=by
 rcases Classical.em (redW 0 u) with h | h
 ·exact h
 ·have hst:=Zax hr
  obtain ⟨-,-,hg,hp⟩:=Zam hst
  rcases redW_no u 0 h with ⟨q,rfl⟩ | ⟨p,l,q,rfl⟩
  ·have:=Zaw.1 (hu (-0) (by simp));omega
  ·have hp1:∀ z∈p,z∈ltrs x.moves.length:=fun z hz=>hu z (by simp [hz])
   have hl1:l∈ltrs x.moves.length:=hu l (by simp)
   have hq1:∀ z∈q,z∈ltrs x.moves.length:=fun z hz=>hu z (by simp [hz])
   have e:wEnd x s (p ++ l :: -l :: q) = wEnd x s (p ++ q):=by
    rw [Zqd,Zqd]
    show List.foldl (nxt x) (nxt x (nxt x (wEnd x s p) l) (-l)) q = _
    rw [Zsv (Zlo p s hr hp1) hl1];rfl
   rw [e] at he
   have hpq:∀ z∈p ++ q,z∈ltrs x.moves.length:=fun z hz=>(List.mem_append.1 hz).elim (hp1 z) (hq1 z)
   rw [Zhm hg hp _ hpq] at he
   have:=Zqb hst hr hpq he
   simp only [List.length_append,List.length_cons] at this hd
   omega
theorem Ztj {x:Puzzle} {ts:List Table} {s w:List Int} {m:Int} (h:ida x ts s m = some w):(tabSet x ts = true/\reachB x s = true)/\(w.length:Int)<=30/\(∀ l∈w,l∈ltrs x.moves.length)/\appW x s w = PM.pts x.points.toNat/\(distX x s = -1\/(w.length:Int) = distX x s):=by
 unfold ida at h
 split at h
 ·rename_i hc
  rw [Bool.and_eq_true,Bool.and_eq_true] at hc
  obtain ⟨⟨ht,hr⟩,hm⟩:=hc
  have hm:=inR_iff.1 hm
  have hst:=Zax hr
  obtain ⟨-,-,hg,hp⟩:=Zam hst
  have hts:=(Zbu.1 ht).2.2
  have h1:deepN x ts s (m + 1 - lbMax ts s).toNat (lbMax ts s).toNat = some (some w):=by
   cases hq:deepN x ts s (m + 1 - lbMax ts s).toNat (lbMax ts s).toNat with
   | none=>rw [hq] at h;cases h
   | some o=>rw [hq] at h;cases o with
    | none=>cases h
    | some w'=>injection h with h;rw [h]
  have hlb0:0<=lbMax ts s:=Zfl (x:=x) (by rw [ht,hr];rfl)
  have hD30:∀ (k d:Nat),deepN x ts s k d = some (some w)->(w.length:Int) < d + k:=by
   intro k
   induction k with
   | zero=>intro d h;cases h
   | succ k ih=>
    intro d h
    rcases hq:(vis x ts d d s [] 0).2 with _ | o
    ·rw [Zjm hq] at h
     have:=ih (d + 1) h
     omega
    ·rw [Zhl hq] at h
     rw [h] at hq
     have:=Zjy d s [] 0 hq
     omega
  have h30:=hD30 _ _ h1
  obtain ⟨D,a,b,c⟩:=Zjh _ _ h1
  obtain ⟨p,e1,e2,e3⟩:=Zst D s [] 0 b
  rw [List.nil_append] at e1
  subst e1
  have hwD:=Zjy D s [] 0 b
  have hsol:appW x s w = PM.pts x.points.toNat:=by rw [<- Zhm hg hp w e2];exact e3
  refine ⟨⟨ht,hr⟩,by omega,e2,hsol,?_⟩
  rcases Zpb x s with h0 | ⟨d0,d1,-,t,he⟩
  ·exact .inl h0
  ·right
   have hlow:=Zqb hst hr e2 hsol
   rcases Int.lt_or_le (distX x s) w.length with hlt | hle
   ·exfalso
    obtain ⟨i,i1,i2,-,i4,-,-⟩:=Zig he hr
    obtain ⟨u,u1,u2,u3⟩:=Zsp he hg (distX x s).toNat i i1 (by rw [<- i4];omega) (by rw [i2];exact hp)
    rw [i2] at u3
    have hu3:wEnd x s u = PM.pts x.points.toNat:=by rw [Zhm hg hp u u2];exact u3
    have hl:=Znn hts hst hr u2 u3
    have hn:=c u.length (by omega) (by omega)
    exact Zpq hts u.length s [] 0 u hr (by simp) rfl u2 (Zso hr u2 hu3 (by omega)) hu3 hn
   ·omega
 ·cases h
section
variable {x:Puzzle} {s w:List Int} {ts:List Table}
theorem Zne (hr:reachB x s = true) (hl:∀ l∈w,l∈ltrs x.moves.length) (h2:w.length<=200) (he:appW x s w = PM.pts x.points.toNat):stateB x s = true/\solB x s w = true/\validW 8 w = true:=by
 have hst:=Zax hr
 obtain ⟨-,h8,-,-⟩:=Zam hst
 refine ⟨hst,?_,(Zid (Nat.le_refl 8)).2 ⟨h2,fun l hm=>?_⟩⟩
 ·unfold solB
  rw [(Zid h8).2 ⟨h2,hl⟩,decide_eq_true he];rfl
 ·have:=Zaw.1 (hl l hm)
  exact Zaw.2 (by omega)
theorem chk_so (hr:reachB x s = true) (hl:∀ l∈w,l∈ltrs x.moves.length) (h2:w.length<=200) (he:appW x s w = PM.pts x.points.toNat):chkC x s (solCert w) = some ⟨1,w.length⟩/\(solCert w).words = [w]:=by
 obtain ⟨a,b,c⟩:=Zne hr hl h2 he
 have e:solCert w = ⟨1,[],[w],[]⟩:=by unfold solCert;rw [if_pos c]
 refine ⟨?_,by rw [e]⟩
 unfold chkC accC
 rw [if_pos a,e,if_pos rfl,if_pos (by simp [hasP]),if_pos (by simpa [word0] using b)]
 rfl
theorem chk_op (hr:reachB x s = true) (hl:∀ l∈w,l∈ltrs x.moves.length) (h2:w.length<=200) (he:appW x s w = PM.pts x.points.toNat) (ht:1<=ts.length/\ts.length<=4) (hb:lb x ts s = w.length):chkC x s (opCert w ts) = some ⟨2,w.length⟩/\(opCert w ts).words = [w]:=by
 obtain ⟨a,b,c⟩:=Zne hr hl h2 he
 have e:opCert w ts = ⟨2,[],[w],ts⟩:=by unfold opCert;rw [if_pos ⟨c,inR_iff.2 (by omega)⟩]
 refine ⟨?_,by rw [e]⟩
 unfold chkC accC
 rw [if_pos a,e,if_neg (by simp),if_pos rfl,if_pos (by simp [hasP];omega),if_pos (by simpa [word0] using b),if_pos (by simpa [word0] using hb)]
 rfl
theorem chk_lb (hr:reachB x s = true) (ht:1<=ts.length/\ts.length<=4) (hb:0<=lb x ts s):chkC x s (lbCert (lb x ts s) ts) = some ⟨3,lb x ts s⟩:=by
 have e:lbCert (lb x ts s) ts = ⟨3,[lb x ts s],[],ts⟩:=by unfold lbCert;rw [if_pos ⟨hb,inR_iff.2 (by omega)⟩]
 unfold chkC accC
 rw [if_pos (Zax hr),e,if_neg (by simp),if_neg (by simp),if_pos rfl,if_pos (by simp [hasP];omega),if_pos (by simpa [num0] using hb),if_pos (by simp [num0])]
 rfl
end
noncomputable def swX (x:Puzzle) (trs:List (List Int)) (s:List Int) (m:Int):Option (List Int):=(bTabs x trs).bind fun ts=>ida x ts s m
noncomputable def swCert (x:Puzzle) (trs:List (List Int)) (s:List Int) (m:Int):Certificate:=match swX x trs s m with
 | some w=>if lb x ((bTabs x trs).getD []) s = w.length then opCert w ((bTabs x trs).getD []) else solCert w
 | none=>noCert
theorem sw_acc {x:Puzzle} {trs:List (List Int)} {s w:List Int} {m:Int} (h:swX x trs s m = some w):(chkC x s (swCert x trs s m)).isSome = true/\(swCert x trs s m).words = [w]/\(distX x s = -1\/(w.length:Int) = distX x s):=by
 have h9:=h
 unfold swX at h
 rw [Option.bind_eq_some_iff] at h
 obtain ⟨ts,h1,h2⟩:=h
 obtain ⟨⟨t1,r1⟩,l30,lt,ap,ds⟩:=Ztj h2
 have hlen:1<=ts.length/\ts.length<=4:=by
  unfold bTabs at h1
  split at h1
  ·rename_i hr
   have:=inR_iff.1 hr
   have:=(Zez h1).1
   omega
  ·cases h1
 have e:swCert x trs s m = if lb x ts s = w.length then opCert w ts else solCert w:=by
  unfold swCert
  rw [h9,h1];rfl
 rw [e]
 split
 ·rename_i hb
  obtain ⟨a,b⟩:=chk_op r1 lt (by omega) ap hlen hb
  exact ⟨by rw [a];rfl,b,ds⟩
 ·obtain ⟨a,b⟩:=chk_so r1 lt (by omega) ap
  exact ⟨by rw [a];rfl,b,ds⟩
theorem IdR.no {w':World} {o:Option (List Int)} {e:Ending} (h:IdR w' o e) (ho:o = none):∃ v n,e = .returned (.tuple #[v,.int .i64 n,.bool false]):=by
 rcases h with ⟨-,h⟩ | ⟨u,v,n,f,h,-⟩
 ·exact h
 ·rw [ho] at h;cases h
theorem IdR.yes {w':World} {o:Option (List Int)} {e:Ending} {q:List Int} (h:IdR w' o e) (ho:o = some q):∃ v n f,e = .returned (.tuple #[v,.int .i64 n,.bool true])/\Rd w' v q f:=by
 rcases h with ⟨h,-⟩ | ⟨u,v,n,f,h,h2,h3⟩
 ·rw [ho] at h;cases h
 ·rw [ho] at h;injection h with h;subst h;exact ⟨v,n,f,h2,h3⟩
theorem sw_none {x:Puzzle} {trs:List (List Int)} {s:List Int} {m:Int} (h:swX x trs s m = none):swCert x trs s m = noCert:=by unfold swCert;rw [h]
theorem sw_some {x:Puzzle} {trs:List (List Int)} {s q:List Int} {m:Int} {ts:List Table} (hb:bTabs x trs = some ts) (h:swX x trs s m = some q):swCert x trs s m = if lb x ts s = (q.length:Int) then opCert q ts else solCert q:=by
 unfold swCert;rw [h,hb];rfl
set_option maxHeartbeats 4000000 in
theorem Zrp (cs:List Value) (x:Puzzle) (fp:List Nat) (v:Value) (trs:List (List Int)) (ft:List Nat) (u:Value) (s:List Int) (fs0:List Nat) (m:Int) (w:World) (h:Rp.rep w cs x fp) (hv:Rd w v trs ft) (hu:Rd w u s fs0) (hsm:∀ y∈trs,y.length<=2097152) :
  Calls Tryz.prog 9 #[.agg cs.toArray,v,u,.int .i64 m] w fun e w'=>∃ cs' fp',e = .returned (.tuple #[.agg (List.toArray cs'),.bool (swX x trs s m).isSome])/\Rp.rep w' cs' (swCert x trs s m) fp'/\Fresh w.heap.size w' fp'/\Only [] w w':=by
 have h0:=h
 obtain ⟨v2,rfl,p0,p1,h2⟩:=h
 obtain ⟨A3,C3,_,_,rfl,-,-⟩:=h2.open_
 clear h2 p0 p1
 have X0:Blk ((w.alloc (.cells #[.int .i64 x.points,.string x.names,.slice A3 x.moves.length C3] 26)).alloc (.cells #[.int .i64 0,.slice none 0 0,.slice none 0 0,.slice none 0 0] 32)) w.heap.size [.int .i64 x.points,.string x.names,.slice A3 x.moves.length C3]:=(Blk.new w [.int .i64 x.points,.string x.names,.slice A3 x.moves.length C3] 26).keep (zO.alloc _)
 have Y0:Blk ((w.alloc (.cells #[.int .i64 x.points,.string x.names,.slice A3 x.moves.length C3] 26)).alloc (.cells #[.int .i64 0,.slice none 0 0,.slice none 0 0,.slice none 0 0] 32)) (w.heap.size + 1) [.int .i64 0,.slice none 0 0,.slice none 0 0,.slice none 0 0]:=Blk.new_at (by simp)
 obtain ⟨x0,x1,x2⟩:=X0.c3
 rcases hb:bTabs x trs with _ | ts
 ·have hk:swX x trs s m = none:=by unfold swX;rw [hb];rfl
  have Hk:=zH (show (swX x trs s m).isSome = false by rw [hk];rfl)
  have Hc:=zH (sw_none hk)
  have Hb:=zH hb
  clear hb hk
  go_enter Tryz.func9,Tryz.ntmps9
  go_wp2_with (first
   | (go_at_call 13;(with_reducible refine (Zaq [.int .i64 x.points,.string x.names,.slice A3 x.moves.length C3] x _ _ trs _ _ (zK h0 zA) (zK hv zA) hsm).mono ?_);rintro e w2 ⟨u1,f1,he,r1,F1,t2⟩;rw [Hb.out] at he;subst he;have Y9:=Y0.keep t2;obtain ⟨g0,g1,g2,g3⟩:=Y9.c4;obtain ⟨p0,p1,p2,p3⟩:=Y9.f4)
   | fail)
  have K2:Only [] w w2:=zA
  have Yf:=(((Y9.set 0 (.int .i64 0)).set 1 (.slice none 0 0)).set 2 (.slice none 0 0)).set 3 (.slice none 0 0)
  have kf:Only [w.heap.size + 1] w2 ((((w2.setCell ⟨w.heap.size + 1,0,none⟩ (.int .i64 0)).setCell ⟨w.heap.size + 1,1,none⟩ (.slice none 0 0)).setCell ⟨w.heap.size + 1,2,none⟩ (.slice none 0 0)).setCell ⟨w.heap.size + 1,3,none⟩ (.slice none 0 0)):=(((zO.setCell (by simp) _).setCell (by simp) _).setCell (by simp) _).setCell (by simp) _
  obtain ⟨wf,hwf⟩:∃ wf,wf = ((((w2.setCell ⟨w.heap.size + 1,0,none⟩ (.int .i64 0)).setCell ⟨w.heap.size + 1,1,none⟩ (.slice none 0 0)).setCell ⟨w.heap.size + 1,2,none⟩ (.slice none 0 0)).setCell ⟨w.heap.size + 1,3,none⟩ (.slice none 0 0)):=⟨_,rfl⟩
  rw [<- hwf] at Yf kf ⊢
  simp only [List.set] at Yf
  clear hwf g0 g1 g2 g3 p0 p1 p2 p3
  obtain ⟨z0,z1,z2,z3⟩:=Yf.c4
  refine bodyPost_ret (v:=.tuple #[.agg #[.int .i64 0,.slice none 0 0,.slice none 0 0,.slice none 0 0],.bool false]) (by simp [results,Tryz.results9,go_sem,z0,z1,z2,z3]) rfl ⟨[.int .i64 0,.slice none 0 0,.slice none 0 0,.slice none 0 0],[],by rw [Hk.out],by rw [Hc.out];exact Zal _,Fresh.nil _ _,K2.then_ kf (by simp)⟩
 ·have Hb:=zH hb
  have Hsm:=zH (Zcq hb)
  rcases hi:ida x ts s m with _ | q
  ·have hk:swX x trs s m = none:=by unfold swX;rw [hb];exact hi
   have Hk:=zH (show (swX x trs s m).isSome = false by rw [hk];rfl)
   have Hc:=zH (sw_none hk)
   have Hi:=zH hi
   clear hb hk hi
   go_enter Tryz.func9,Tryz.ntmps9
   go_wp2_with (first
    | (go_at_call 13;(with_reducible refine (Zaq [.int .i64 x.points,.string x.names,.slice A3 x.moves.length C3] x _ _ trs _ _ (zK h0 zA) (zK hv zA) hsm).mono ?_);rintro e w2 ⟨u1,f1,he,r1,F1,t2⟩;rw [Hb.out] at he r1;subst he;simp only [Option.getD] at r1;have X2:=X0.keep t2;obtain ⟨y0,y1,y2⟩:=X2.c3;have hz2:=t2.size;simp at hz2)
    | (go_at_call 44;(with_reducible refine (Zgn [.int .i64 x.points,.string x.names,.slice A3 x.moves.length C3] x _ u1 ts f1 u s fs0 m _ (zK h0 zA) (zK r1 zA) (zK hu zA) Hsm.out).mono ?_);rintro e w3 ⟨hI,t3⟩;obtain ⟨vq,nq,rfl⟩:=hI.no Hi.out;have Y9:=(Y0.keep t2).keep t3;obtain ⟨g0,g1,g2,g3⟩:=Y9.c4;obtain ⟨p0,p1,p2,p3⟩:=Y9.f4)
    | fail)
   have K3:Only [] w w3:=zA
   have Yf:=(((Y9.set 0 (.int .i64 0)).set 1 (.slice none 0 0)).set 2 (.slice none 0 0)).set 3 (.slice none 0 0)
   have kf:Only [w.heap.size + 1] w3 ((((w3.setCell ⟨w.heap.size + 1,0,none⟩ (.int .i64 0)).setCell ⟨w.heap.size + 1,1,none⟩ (.slice none 0 0)).setCell ⟨w.heap.size + 1,2,none⟩ (.slice none 0 0)).setCell ⟨w.heap.size + 1,3,none⟩ (.slice none 0 0)):=(((zO.setCell (by simp) _).setCell (by simp) _).setCell (by simp) _).setCell (by simp) _
   obtain ⟨wf,hwf⟩:∃ wf,wf = ((((w3.setCell ⟨w.heap.size + 1,0,none⟩ (.int .i64 0)).setCell ⟨w.heap.size + 1,1,none⟩ (.slice none 0 0)).setCell ⟨w.heap.size + 1,2,none⟩ (.slice none 0 0)).setCell ⟨w.heap.size + 1,3,none⟩ (.slice none 0 0)):=⟨_,rfl⟩
   rw [<- hwf] at Yf kf ⊢
   simp only [List.set] at Yf
   clear hwf g0 g1 g2 g3 p0 p1 p2 p3
   obtain ⟨z0,z1,z2,z3⟩:=Yf.c4
   refine bodyPost_ret (v:=.tuple #[.agg #[.int .i64 0,.slice none 0 0,.slice none 0 0,.slice none 0 0],.bool false]) (by simp [results,Tryz.results9,go_sem,z0,z1,z2,z3]) rfl ⟨[.int .i64 0,.slice none 0 0,.slice none 0 0,.slice none 0 0],[],by rw [Hk.out],by rw [Hc.out];exact Zal _,Fresh.nil _ _,K3.then_ kf (by simp)⟩
  ·have hk:swX x trs s m = some q:=by unfold swX;rw [hb];exact hi
   have Hk:=zH (show (swX x trs s m).isSome = true by rw [hk];rfl)
   have hsw:=sw_some hb hk
   obtain ⟨b,hbd⟩:∃ b,b = lb x ts s:=⟨_,rfl⟩
   rw [<- hbd] at hsw
   have HB:=zH hbd.symm
   have HS:=zH (Zhh hb)
   have Hi:=zH hi
   by_cases hlen:b = (q.length:Int)
   ·have Hc:=zH (hsw.trans (if_pos hlen))
    have cb:(b == (q.length:Int)) = true:=by simpa using hlen
    clear hb hk hi hbd hsw hlen
    go_enter Tryz.func9,Tryz.ntmps9
    go_wp2_with (first
    | (go_at_call 13;(with_reducible refine (Zaq [.int .i64 x.points,.string x.names,.slice A3 x.moves.length C3] x _ _ trs _ _ (zK h0 zA) (zK hv zA) hsm).mono ?_);rintro e w2 ⟨u1,f1,he,r1,F1,t2⟩;rw [Hb.out] at he r1;subst he;simp only [Option.getD] at r1;have X2:=X0.keep t2;obtain ⟨y0,y1,y2⟩:=X2.c3;have hz2:=t2.size;simp at hz2)
    | (go_at_call 44;(with_reducible refine (Zgn [.int .i64 x.points,.string x.names,.slice A3 x.moves.length C3] x _ u1 ts f1 u s fs0 m _ (zK h0 zA) (zK r1 zA) (zK hu zA) Hsm.out).mono ?_);rintro e w3 ⟨hI,t3⟩;obtain ⟨vq,nq,fq,rfl,rq⟩:=hI.yes Hi.out;obtain ⟨aq,cq,rfl,Iq⟩:=rq.ints;have X3:=X2.keep t3;obtain ⟨y0,y1,y2⟩:=X3.c3;have hz3:=t3.size;have hbq:=Iq.bound)
    | (go_at_call 45;(with_reducible refine (Zas [.int .i64 x.points,.string x.names,.slice A3 x.moves.length C3] x _ u1 ts f1 u s fs0 _ (zK h0 zA) (zK r1 zA) (zK hu zA) Hsm.out).mono ?_);rintro e w4 ⟨he,t4⟩;rw [HB.out] at he;subst he;have hz4:=t4.size)
    | (go_at_call 46;(with_reducible refine (Znw (.slice aq q.length cq) q fq u1 ts f1 _ (zK rq zA) (zK r1 zA) HS.out).mono ?_);rintro e w5 ⟨cs4,f4,rfl,r4,F4,t5⟩;have rr:=id r4;obtain ⟨v1,v2,v3,e1,e2,e3,rfl,-,i1,s1,s2,s3⟩:=r4;simp only [List.cons_append,List.nil_append] at rr;obtain ⟨b1,k1,_,_,rfl,-,-⟩:=s1.open_;obtain ⟨b2,k2,_,_,rfl,-,-⟩:=s2.open_;obtain ⟨b3,k3,_,_,rfl,-,-⟩:=s3.open_;have Y9:=(((Y0.keep t2).keep t3).keep t4).keep t5;obtain ⟨g0,g1,g2,g3⟩:=Y9.c4;obtain ⟨p0,p1,p2,p3⟩:=Y9.f4)
    | fail)
    have K5:Only [] w w5:=zA
    have hFg:∀ g∈f4,g ∉ [w.heap.size + 1]:=fun g hg hm=>by have:=F4.ge g hg;simp at hm;omega
    have Yf:=(((Y9.set 0 (.int .i64 (opCert q ts).kind)).set 1 (.slice b1 (opCert q ts).numbers.length k1)).set 2 (.slice b2 (opCert q ts).words.length k2)).set 3 (.slice b3 (opCert q ts).tables.length k3)
    have kf:Only [w.heap.size + 1] w5 ((((w5.setCell ⟨w.heap.size + 1,0,none⟩ (.int .i64 (opCert q ts).kind)).setCell ⟨w.heap.size + 1,1,none⟩ (.slice b1 (opCert q ts).numbers.length k1)).setCell ⟨w.heap.size + 1,2,none⟩ (.slice b2 (opCert q ts).words.length k2)).setCell ⟨w.heap.size + 1,3,none⟩ (.slice b3 (opCert q ts).tables.length k3)):=(((zO.setCell (by simp) _).setCell (by simp) _).setCell (by simp) _).setCell (by simp) _
    obtain ⟨wf,hwf⟩:∃ wf,wf = ((((w5.setCell ⟨w.heap.size + 1,0,none⟩ (.int .i64 (opCert q ts).kind)).setCell ⟨w.heap.size + 1,1,none⟩ (.slice b1 (opCert q ts).numbers.length k1)).setCell ⟨w.heap.size + 1,2,none⟩ (.slice b2 (opCert q ts).words.length k2)).setCell ⟨w.heap.size + 1,3,none⟩ (.slice b3 (opCert q ts).tables.length k3)):=⟨_,rfl⟩
    rw [<- hwf] at Yf kf ⊢
    simp only [List.set] at Yf
    clear hwf g0 g1 g2 g3 p0 p1 p2 p3
    obtain ⟨z0,z1,z2,z3⟩:=Yf.c4
    refine bodyPost_ret (v:=.tuple #[.agg #[.int .i64 (opCert q ts).kind,.slice b1 (opCert q ts).numbers.length k1,.slice b2 (opCert q ts).words.length k2,.slice b3 (opCert q ts).tables.length k3],.bool true]) (by simp [results,Tryz.results9,go_sem,z0,z1,z2,z3]) rfl ⟨[.int .i64 (opCert q ts).kind,.slice b1 (opCert q ts).numbers.length k1,.slice b2 (opCert q ts).words.length k2,.slice b3 (opCert q ts).tables.length k3],f4,by rw [Hk.out],by rw [Hc.out];exact Rp.only rr kf hFg,(F4.mono (by omega)).only kf hFg,K5.then_ kf (by simp)⟩
   ·have Hc:=zH (hsw.trans (if_neg hlen))
    have cb:(b == (q.length:Int)) = false:=by simpa using hlen
    clear hb hk hi hbd hsw hlen
    go_enter Tryz.func9,Tryz.ntmps9
    go_wp2_with (first
    | (go_at_call 13;(with_reducible refine (Zaq [.int .i64 x.points,.string x.names,.slice A3 x.moves.length C3] x _ _ trs _ _ (zK h0 zA) (zK hv zA) hsm).mono ?_);rintro e w2 ⟨u1,f1,he,r1,F1,t2⟩;rw [Hb.out] at he r1;subst he;simp only [Option.getD] at r1;have X2:=X0.keep t2;obtain ⟨y0,y1,y2⟩:=X2.c3;have hz2:=t2.size;simp at hz2)
    | (go_at_call 44;(with_reducible refine (Zgn [.int .i64 x.points,.string x.names,.slice A3 x.moves.length C3] x _ u1 ts f1 u s fs0 m _ (zK h0 zA) (zK r1 zA) (zK hu zA) Hsm.out).mono ?_);rintro e w3 ⟨hI,t3⟩;obtain ⟨vq,nq,fq,rfl,rq⟩:=hI.yes Hi.out;obtain ⟨aq,cq,rfl,Iq⟩:=rq.ints;have X3:=X2.keep t3;obtain ⟨y0,y1,y2⟩:=X3.c3;have hz3:=t3.size;have hbq:=Iq.bound)
    | (go_at_call 45;(with_reducible refine (Zas [.int .i64 x.points,.string x.names,.slice A3 x.moves.length C3] x _ u1 ts f1 u s fs0 _ (zK h0 zA) (zK r1 zA) (zK hu zA) Hsm.out).mono ?_);rintro e w4 ⟨he,t4⟩;rw [HB.out] at he;subst he;have hz4:=t4.size)
    | (go_at_call 47;(with_reducible refine (Zmc (.slice aq q.length cq) q fq _ (zK rq zA)).mono ?_);rintro e w5 ⟨cs4,f4,rfl,r4,F4,t5⟩;have rr:=id r4;obtain ⟨v1,v2,v3,e1,e2,e3,rfl,-,i1,s1,s2,s3⟩:=r4;simp only [List.cons_append,List.nil_append] at rr;obtain ⟨b1,k1,_,_,rfl,-,-⟩:=s1.open_;obtain ⟨b2,k2,_,_,rfl,-,-⟩:=s2.open_;obtain ⟨b3,k3,_,_,rfl,-,-⟩:=s3.open_;have Y9:=(((Y0.keep t2).keep t3).keep t4).keep t5;obtain ⟨g0,g1,g2,g3⟩:=Y9.c4;obtain ⟨p0,p1,p2,p3⟩:=Y9.f4)
    | fail)
    have K5:Only [] w w5:=zA
    have hFg:∀ g∈f4,g ∉ [w.heap.size + 1]:=fun g hg hm=>by have:=F4.ge g hg;simp at hm;omega
    have Yf:=(((Y9.set 0 (.int .i64 (solCert q).kind)).set 1 (.slice b1 (solCert q).numbers.length k1)).set 2 (.slice b2 (solCert q).words.length k2)).set 3 (.slice b3 (solCert q).tables.length k3)
    have kf:Only [w.heap.size + 1] w5 ((((w5.setCell ⟨w.heap.size + 1,0,none⟩ (.int .i64 (solCert q).kind)).setCell ⟨w.heap.size + 1,1,none⟩ (.slice b1 (solCert q).numbers.length k1)).setCell ⟨w.heap.size + 1,2,none⟩ (.slice b2 (solCert q).words.length k2)).setCell ⟨w.heap.size + 1,3,none⟩ (.slice b3 (solCert q).tables.length k3)):=(((zO.setCell (by simp) _).setCell (by simp) _).setCell (by simp) _).setCell (by simp) _
    obtain ⟨wf,hwf⟩:∃ wf,wf = ((((w5.setCell ⟨w.heap.size + 1,0,none⟩ (.int .i64 (solCert q).kind)).setCell ⟨w.heap.size + 1,1,none⟩ (.slice b1 (solCert q).numbers.length k1)).setCell ⟨w.heap.size + 1,2,none⟩ (.slice b2 (solCert q).words.length k2)).setCell ⟨w.heap.size + 1,3,none⟩ (.slice b3 (solCert q).tables.length k3)):=⟨_,rfl⟩
    rw [<- hwf] at Yf kf ⊢
    simp only [List.set] at Yf
    clear hwf g0 g1 g2 g3 p0 p1 p2 p3
    obtain ⟨z0,z1,z2,z3⟩:=Yf.c4
    refine bodyPost_ret (v:=.tuple #[.agg #[.int .i64 (solCert q).kind,.slice b1 (solCert q).numbers.length k1,.slice b2 (solCert q).words.length k2,.slice b3 (solCert q).tables.length k3],.bool true]) (by simp [results,Tryz.results9,go_sem,z0,z1,z2,z3]) rfl ⟨[.int .i64 (solCert q).kind,.slice b1 (solCert q).numbers.length k1,.slice b2 (solCert q).words.length k2,.slice b3 (solCert q).tables.length k3],f4,by rw [Hk.out],by rw [Hc.out];exact Rp.only rr kf hFg,(F4.mono (by omega)).only kf hFg,K5.then_ kf (by simp)⟩
set_option maxHeartbeats 4000000 in
theorem Zru (cs:List Value) (x:Puzzle) (fp:List Nat) (v:Value) (trs:List (List Int)) (ft:List Nat) (u:Value) (s:List Int) (fs0:List Nat) (m:Int) (w:World) (h:Rp.rep w cs x fp) (hv:Rd w v trs ft) (hu:Rd w u s fs0) (hsm:∀ y∈trs,y.length<=2097152) :
  Calls Tryz.prog 8 #[.agg cs.toArray,v,u,.int .i64 m] w fun e w'=>∃ cs' fp',e = .returned (.tuple #[.agg (List.toArray cs'),.bool (swX x trs s m).isSome])/\Rp.rep w' cs' (swCert x trs s m) fp'/\Fresh w.heap.size w' fp'/\Only [] w w':=by
 have h0:=h
 obtain ⟨v2,rfl,p0,p1,h2⟩:=h
 obtain ⟨A3,C3,_,_,rfl,-,-⟩:=h2.open_
 clear h2 p0 p1
 have X0:Blk ((w.alloc (.cells #[.int .i64 x.points,.string x.names,.slice A3 x.moves.length C3] 26)).alloc (.cells #[.int .i64 0,.slice none 0 0,.slice none 0 0,.slice none 0 0] 32)) w.heap.size [.int .i64 x.points,.string x.names,.slice A3 x.moves.length C3]:=(Blk.new w [.int .i64 x.points,.string x.names,.slice A3 x.moves.length C3] 26).keep (zO.alloc _)
 have Y0:Blk ((w.alloc (.cells #[.int .i64 x.points,.string x.names,.slice A3 x.moves.length C3] 26)).alloc (.cells #[.int .i64 0,.slice none 0 0,.slice none 0 0,.slice none 0 0] 32)) (w.heap.size + 1) [.int .i64 0,.slice none 0 0,.slice none 0 0,.slice none 0 0]:=Blk.new_at (by simp)
 obtain ⟨x0,x1,x2⟩:=X0.c3
 rcases hb:bTabs x trs with _ | ts
 ·have hk:swX x trs s m = none:=by unfold swX;rw [hb];rfl
  have Hk:=zH (show (swX x trs s m).isSome = false by rw [hk];rfl)
  have Hc:=zH (sw_none hk)
  have Hb:=zH hb
  clear hb hk
  go_enter Tryz.func8,Tryz.ntmps8
  go_wp2_with (first
   | (go_at_call 12;(with_reducible refine (Zap [.int .i64 x.points,.string x.names,.slice A3 x.moves.length C3] x _ _ trs _ _ (zK h0 zA) (zK hv zA) hsm).mono ?_);rintro e w2 ⟨u1,f1,he,r1,F1,t2⟩;rw [Hb.out] at he;subst he;have Y9:=Y0.keep t2;obtain ⟨g0,g1,g2,g3⟩:=Y9.c4;obtain ⟨p0,p1,p2,p3⟩:=Y9.f4)
   | fail)
  have K2:Only [] w w2:=zA
  have Yf:=(((Y9.set 0 (.int .i64 0)).set 1 (.slice none 0 0)).set 2 (.slice none 0 0)).set 3 (.slice none 0 0)
  have kf:Only [w.heap.size + 1] w2 ((((w2.setCell ⟨w.heap.size + 1,0,none⟩ (.int .i64 0)).setCell ⟨w.heap.size + 1,1,none⟩ (.slice none 0 0)).setCell ⟨w.heap.size + 1,2,none⟩ (.slice none 0 0)).setCell ⟨w.heap.size + 1,3,none⟩ (.slice none 0 0)):=(((zO.setCell (by simp) _).setCell (by simp) _).setCell (by simp) _).setCell (by simp) _
  obtain ⟨wf,hwf⟩:∃ wf,wf = ((((w2.setCell ⟨w.heap.size + 1,0,none⟩ (.int .i64 0)).setCell ⟨w.heap.size + 1,1,none⟩ (.slice none 0 0)).setCell ⟨w.heap.size + 1,2,none⟩ (.slice none 0 0)).setCell ⟨w.heap.size + 1,3,none⟩ (.slice none 0 0)):=⟨_,rfl⟩
  rw [<- hwf] at Yf kf ⊢
  simp only [List.set] at Yf
  clear hwf g0 g1 g2 g3 p0 p1 p2 p3
  obtain ⟨z0,z1,z2,z3⟩:=Yf.c4
  refine bodyPost_ret (v:=.tuple #[.agg #[.int .i64 0,.slice none 0 0,.slice none 0 0,.slice none 0 0],.bool false]) (by simp [results,Tryz.results8,go_sem,z0,z1,z2,z3]) rfl ⟨[.int .i64 0,.slice none 0 0,.slice none 0 0,.slice none 0 0],[],by rw [Hk.out],by rw [Hc.out];exact Zal _,Fresh.nil _ _,K2.then_ kf (by simp)⟩
 ·have Hb:=zH hb
  have Hsm:=zH (Zcq hb)
  rcases hi:ida x ts s m with _ | q
  ·have hk:swX x trs s m = none:=by unfold swX;rw [hb];exact hi
   have Hk:=zH (show (swX x trs s m).isSome = false by rw [hk];rfl)
   have Hc:=zH (sw_none hk)
   have Hi:=zH hi
   clear hb hk hi
   go_enter Tryz.func8,Tryz.ntmps8
   go_wp2_with (first
    | (go_at_call 12;(with_reducible refine (Zap [.int .i64 x.points,.string x.names,.slice A3 x.moves.length C3] x _ _ trs _ _ (zK h0 zA) (zK hv zA) hsm).mono ?_);rintro e w2 ⟨u1,f1,he,r1,F1,t2⟩;rw [Hb.out] at he r1;subst he;simp only [Option.getD] at r1;have X2:=X0.keep t2;obtain ⟨y0,y1,y2⟩:=X2.c3;have hz2:=t2.size;simp at hz2)
    | (go_at_call 39;(with_reducible refine (Zgq [.int .i64 x.points,.string x.names,.slice A3 x.moves.length C3] x _ u1 ts f1 u s fs0 m _ (zK h0 zA) (zK r1 zA) (zK hu zA) Hsm.out).mono ?_);rintro e w3 ⟨hI,t3⟩;obtain ⟨vq,nq,rfl⟩:=hI.no Hi.out;have Y9:=(Y0.keep t2).keep t3;obtain ⟨g0,g1,g2,g3⟩:=Y9.c4;obtain ⟨p0,p1,p2,p3⟩:=Y9.f4)
    | fail)
   have K3:Only [] w w3:=zA
   have Yf:=(((Y9.set 0 (.int .i64 0)).set 1 (.slice none 0 0)).set 2 (.slice none 0 0)).set 3 (.slice none 0 0)
   have kf:Only [w.heap.size + 1] w3 ((((w3.setCell ⟨w.heap.size + 1,0,none⟩ (.int .i64 0)).setCell ⟨w.heap.size + 1,1,none⟩ (.slice none 0 0)).setCell ⟨w.heap.size + 1,2,none⟩ (.slice none 0 0)).setCell ⟨w.heap.size + 1,3,none⟩ (.slice none 0 0)):=(((zO.setCell (by simp) _).setCell (by simp) _).setCell (by simp) _).setCell (by simp) _
   obtain ⟨wf,hwf⟩:∃ wf,wf = ((((w3.setCell ⟨w.heap.size + 1,0,none⟩ (.int .i64 0)).setCell ⟨w.heap.size + 1,1,none⟩ (.slice none 0 0)).setCell ⟨w.heap.size + 1,2,none⟩ (.slice none 0 0)).setCell ⟨w.heap.size + 1,3,none⟩ (.slice none 0 0)):=⟨_,rfl⟩
   rw [<- hwf] at Yf kf ⊢
   simp only [List.set] at Yf
   clear hwf g0 g1 g2 g3 p0 p1 p2 p3
   obtain ⟨z0,z1,z2,z3⟩:=Yf.c4
   refine bodyPost_ret (v:=.tuple #[.agg #[.int .i64 0,.slice none 0 0,.slice none 0 0,.slice none 0 0],.bool false]) (by simp [results,Tryz.results8,go_sem,z0,z1,z2,z3]) rfl ⟨[.int .i64 0,.slice none 0 0,.slice none 0 0,.slice none 0 0],[],by rw [Hk.out],by rw [Hc.out];exact Zal _,Fresh.nil _ _,K3.then_ kf (by simp)⟩
  ·have hk:swX x trs s m = some q:=by unfold swX;rw [hb];exact hi
   have Hk:=zH (show (swX x trs s m).isSome = true by rw [hk];rfl)
   have hsw:=sw_some hb hk
   obtain ⟨b,hbd⟩:∃ b,b = lb x ts s:=⟨_,rfl⟩
   rw [<- hbd] at hsw
   have HB:=zH hbd.symm
   have HS:=zH (Zhh hb)
   have Hi:=zH hi
   by_cases hlen:b = (q.length:Int)
   ·have Hc:=zH (hsw.trans (if_pos hlen))
    have cb:(b == (q.length:Int)) = true:=by simpa using hlen
    clear hb hk hi hbd hsw hlen
    go_enter Tryz.func8,Tryz.ntmps8
    go_wp2_with (first
    | (go_at_call 12;(with_reducible refine (Zap [.int .i64 x.points,.string x.names,.slice A3 x.moves.length C3] x _ _ trs _ _ (zK h0 zA) (zK hv zA) hsm).mono ?_);rintro e w2 ⟨u1,f1,he,r1,F1,t2⟩;rw [Hb.out] at he r1;subst he;simp only [Option.getD] at r1;have X2:=X0.keep t2;obtain ⟨y0,y1,y2⟩:=X2.c3;have hz2:=t2.size;simp at hz2)
    | (go_at_call 39;(with_reducible refine (Zgq [.int .i64 x.points,.string x.names,.slice A3 x.moves.length C3] x _ u1 ts f1 u s fs0 m _ (zK h0 zA) (zK r1 zA) (zK hu zA) Hsm.out).mono ?_);rintro e w3 ⟨hI,t3⟩;obtain ⟨vq,nq,fq,rfl,rq⟩:=hI.yes Hi.out;obtain ⟨aq,cq,rfl,Iq⟩:=rq.ints;have X3:=X2.keep t3;obtain ⟨y0,y1,y2⟩:=X3.c3;have hz3:=t3.size;have hbq:=Iq.bound)
    | (go_at_call 40;(with_reducible refine (Zbt [.int .i64 x.points,.string x.names,.slice A3 x.moves.length C3] x _ u1 ts f1 u s fs0 _ (zK h0 zA) (zK r1 zA) (zK hu zA) Hsm.out).mono ?_);rintro e w4 ⟨he,t4⟩;rw [HB.out] at he;subst he;have hz4:=t4.size)
    | (go_at_call 41;(with_reducible refine (Zbj _ q fq _ (zK rq zA)).mono ?_);rintro e w4 ⟨rfl,rfl⟩)
    | (go_at_call 42;(with_reducible refine (Zoy (.slice aq q.length cq) q fq u1 ts f1 _ (zK rq zA) (zK r1 zA) HS.out).mono ?_);rintro e w5 ⟨cs4,f4,rfl,r4,F4,t5⟩;have rr:=id r4;obtain ⟨v1,v2,v3,e1,e2,e3,rfl,-,i1,s1,s2,s3⟩:=r4;simp only [List.cons_append,List.nil_append] at rr;obtain ⟨b1,k1,_,_,rfl,-,-⟩:=s1.open_;obtain ⟨b2,k2,_,_,rfl,-,-⟩:=s2.open_;obtain ⟨b3,k3,_,_,rfl,-,-⟩:=s3.open_;have Y9:=(((Y0.keep t2).keep t3).keep t4).keep t5;obtain ⟨g0,g1,g2,g3⟩:=Y9.c4;obtain ⟨p0,p1,p2,p3⟩:=Y9.f4)
    | fail)
    have K5:Only [] w w5:=zA
    have hFg:∀ g∈f4,g ∉ [w.heap.size + 1]:=fun g hg hm=>by have:=F4.ge g hg;simp at hm;omega
    have Yf:=(((Y9.set 0 (.int .i64 (opCert q ts).kind)).set 1 (.slice b1 (opCert q ts).numbers.length k1)).set 2 (.slice b2 (opCert q ts).words.length k2)).set 3 (.slice b3 (opCert q ts).tables.length k3)
    have kf:Only [w.heap.size + 1] w5 ((((w5.setCell ⟨w.heap.size + 1,0,none⟩ (.int .i64 (opCert q ts).kind)).setCell ⟨w.heap.size + 1,1,none⟩ (.slice b1 (opCert q ts).numbers.length k1)).setCell ⟨w.heap.size + 1,2,none⟩ (.slice b2 (opCert q ts).words.length k2)).setCell ⟨w.heap.size + 1,3,none⟩ (.slice b3 (opCert q ts).tables.length k3)):=(((zO.setCell (by simp) _).setCell (by simp) _).setCell (by simp) _).setCell (by simp) _
    obtain ⟨wf,hwf⟩:∃ wf,wf = ((((w5.setCell ⟨w.heap.size + 1,0,none⟩ (.int .i64 (opCert q ts).kind)).setCell ⟨w.heap.size + 1,1,none⟩ (.slice b1 (opCert q ts).numbers.length k1)).setCell ⟨w.heap.size + 1,2,none⟩ (.slice b2 (opCert q ts).words.length k2)).setCell ⟨w.heap.size + 1,3,none⟩ (.slice b3 (opCert q ts).tables.length k3)):=⟨_,rfl⟩
    rw [<- hwf] at Yf kf ⊢
    simp only [List.set] at Yf
    clear hwf g0 g1 g2 g3 p0 p1 p2 p3
    obtain ⟨z0,z1,z2,z3⟩:=Yf.c4
    refine bodyPost_ret (v:=.tuple #[.agg #[.int .i64 (opCert q ts).kind,.slice b1 (opCert q ts).numbers.length k1,.slice b2 (opCert q ts).words.length k2,.slice b3 (opCert q ts).tables.length k3],.bool true]) (by simp [results,Tryz.results8,go_sem,z0,z1,z2,z3]) rfl ⟨[.int .i64 (opCert q ts).kind,.slice b1 (opCert q ts).numbers.length k1,.slice b2 (opCert q ts).words.length k2,.slice b3 (opCert q ts).tables.length k3],f4,by rw [Hk.out],by rw [Hc.out];exact Rp.only rr kf hFg,(F4.mono (by omega)).only kf hFg,K5.then_ kf (by simp)⟩
   ·have Hc:=zH (hsw.trans (if_neg hlen))
    have cb:(b == (q.length:Int)) = false:=by simpa using hlen
    clear hb hk hi hbd hsw hlen
    go_enter Tryz.func8,Tryz.ntmps8
    go_wp2_with (first
    | (go_at_call 12;(with_reducible refine (Zap [.int .i64 x.points,.string x.names,.slice A3 x.moves.length C3] x _ _ trs _ _ (zK h0 zA) (zK hv zA) hsm).mono ?_);rintro e w2 ⟨u1,f1,he,r1,F1,t2⟩;rw [Hb.out] at he r1;subst he;simp only [Option.getD] at r1;have X2:=X0.keep t2;obtain ⟨y0,y1,y2⟩:=X2.c3;have hz2:=t2.size;simp at hz2)
    | (go_at_call 39;(with_reducible refine (Zgq [.int .i64 x.points,.string x.names,.slice A3 x.moves.length C3] x _ u1 ts f1 u s fs0 m _ (zK h0 zA) (zK r1 zA) (zK hu zA) Hsm.out).mono ?_);rintro e w3 ⟨hI,t3⟩;obtain ⟨vq,nq,fq,rfl,rq⟩:=hI.yes Hi.out;obtain ⟨aq,cq,rfl,Iq⟩:=rq.ints;have X3:=X2.keep t3;obtain ⟨y0,y1,y2⟩:=X3.c3;have hz3:=t3.size;have hbq:=Iq.bound)
    | (go_at_call 40;(with_reducible refine (Zbt [.int .i64 x.points,.string x.names,.slice A3 x.moves.length C3] x _ u1 ts f1 u s fs0 _ (zK h0 zA) (zK r1 zA) (zK hu zA) Hsm.out).mono ?_);rintro e w4 ⟨he,t4⟩;rw [HB.out] at he;subst he;have hz4:=t4.size)
    | (go_at_call 41;(with_reducible refine (Zbj _ q fq _ (zK rq zA)).mono ?_);rintro e w4 ⟨rfl,rfl⟩)
    | (go_at_call 43;(with_reducible refine (Zmm (.slice aq q.length cq) q fq _ (zK rq zA)).mono ?_);rintro e w5 ⟨cs4,f4,rfl,r4,F4,t5⟩;have rr:=id r4;obtain ⟨v1,v2,v3,e1,e2,e3,rfl,-,i1,s1,s2,s3⟩:=r4;simp only [List.cons_append,List.nil_append] at rr;obtain ⟨b1,k1,_,_,rfl,-,-⟩:=s1.open_;obtain ⟨b2,k2,_,_,rfl,-,-⟩:=s2.open_;obtain ⟨b3,k3,_,_,rfl,-,-⟩:=s3.open_;have Y9:=(((Y0.keep t2).keep t3).keep t4).keep t5;obtain ⟨g0,g1,g2,g3⟩:=Y9.c4;obtain ⟨p0,p1,p2,p3⟩:=Y9.f4)
    | fail)
    have K5:Only [] w w5:=zA
    have hFg:∀ g∈f4,g ∉ [w.heap.size + 1]:=fun g hg hm=>by have:=F4.ge g hg;simp at hm;omega
    have Yf:=(((Y9.set 0 (.int .i64 (solCert q).kind)).set 1 (.slice b1 (solCert q).numbers.length k1)).set 2 (.slice b2 (solCert q).words.length k2)).set 3 (.slice b3 (solCert q).tables.length k3)
    have kf:Only [w.heap.size + 1] w5 ((((w5.setCell ⟨w.heap.size + 1,0,none⟩ (.int .i64 (solCert q).kind)).setCell ⟨w.heap.size + 1,1,none⟩ (.slice b1 (solCert q).numbers.length k1)).setCell ⟨w.heap.size + 1,2,none⟩ (.slice b2 (solCert q).words.length k2)).setCell ⟨w.heap.size + 1,3,none⟩ (.slice b3 (solCert q).tables.length k3)):=(((zO.setCell (by simp) _).setCell (by simp) _).setCell (by simp) _).setCell (by simp) _
    obtain ⟨wf,hwf⟩:∃ wf,wf = ((((w5.setCell ⟨w.heap.size + 1,0,none⟩ (.int .i64 (solCert q).kind)).setCell ⟨w.heap.size + 1,1,none⟩ (.slice b1 (solCert q).numbers.length k1)).setCell ⟨w.heap.size + 1,2,none⟩ (.slice b2 (solCert q).words.length k2)).setCell ⟨w.heap.size + 1,3,none⟩ (.slice b3 (solCert q).tables.length k3)):=⟨_,rfl⟩
    rw [<- hwf] at Yf kf ⊢
    simp only [List.set] at Yf
    clear hwf g0 g1 g2 g3 p0 p1 p2 p3
    obtain ⟨z0,z1,z2,z3⟩:=Yf.c4
    refine bodyPost_ret (v:=.tuple #[.agg #[.int .i64 (solCert q).kind,.slice b1 (solCert q).numbers.length k1,.slice b2 (solCert q).words.length k2,.slice b3 (solCert q).tables.length k3],.bool true]) (by simp [results,Tryz.results8,go_sem,z0,z1,z2,z3]) rfl ⟨[.int .i64 (solCert q).kind,.slice b1 (solCert q).numbers.length k1,.slice b2 (solCert q).words.length k2,.slice b3 (solCert q).tables.length k3],f4,by rw [Hk.out],by rw [Hc.out];exact Rp.only rr kf hFg,(F4.mono (by omega)).only kf hFg,K5.then_ kf (by simp)⟩
set_option maxHeartbeats 4000000 in
theorem Zof (cs ds:List Value) (x:Puzzle) (c:Certificate) (fp fc:List Nat) (u:Value) (s:List Int) (fs0:List Nat) (w:World) (h:Rp.rep w cs x fp) (hu:Rd w u s fs0) (hc:Rp.rep w ds c fc) (hsm:∀ t∈c.tables,t.tracked.length<=2097152) :
  Calls Tryz.prog 55 #[.agg cs.toArray,u,.agg ds.toArray] w fun e w'=>e = .returned (.tuple #[.agg #[.int .i64 ((chkC x s c).getD noClaim).kind,.int .i64 ((chkC x s c).getD noClaim).value],.bool (chkC x s c).isSome])/\Only [] w w':=by
 have h0:=h
 have hc0:=hc
 obtain ⟨v2,rfl,p0,p1,h2⟩:=h
 obtain ⟨A3,C3,_,_,rfl,-,-⟩:=h2.open_
 obtain ⟨v1,v2,v3,f1,f2,f3,rfl,rfl,p2,i1,i2,i3⟩:=hc
 simp only [List.cons_append,List.nil_append] at hc0 ⊢
 obtain ⟨B1,D1,_,_,rfl,-,-⟩:=i1.open_
 obtain ⟨B2,D2,_,_,rfl,-,-⟩:=i2.open_
 obtain ⟨B3,D3,_,_,rfl,-,-⟩:=i3.open_
 clear h2 p0 p1 p2
 have X0:Blk (((w.alloc (.cells #[.int .i64 x.points,.string x.names,.slice A3 x.moves.length C3] 26)).alloc (.cells #[.int .i64 c.kind,.slice B1 c.numbers.length D1,.slice B2 c.words.length D2,.slice B3 c.tables.length D3] 32)).alloc (.cells #[.int .i64 0,.int .i64 0] 52)) w.heap.size [.int .i64 x.points,.string x.names,.slice A3 x.moves.length C3]:=((Blk.new w [.int .i64 x.points,.string x.names,.slice A3 x.moves.length C3] 26).keep (zO.alloc _)).keep (zO.alloc _)
 have Y0:Blk (((w.alloc (.cells #[.int .i64 x.points,.string x.names,.slice A3 x.moves.length C3] 26)).alloc (.cells #[.int .i64 c.kind,.slice B1 c.numbers.length D1,.slice B2 c.words.length D2,.slice B3 c.tables.length D3] 32)).alloc (.cells #[.int .i64 0,.int .i64 0] 52)) (w.heap.size + 1) [.int .i64 c.kind,.slice B1 c.numbers.length D1,.slice B2 c.words.length D2,.slice B3 c.tables.length D3]:=(Blk.new_at (by simp)).keep (zO.alloc _)
 have R0:Blk (((w.alloc (.cells #[.int .i64 x.points,.string x.names,.slice A3 x.moves.length C3] 26)).alloc (.cells #[.int .i64 c.kind,.slice B1 c.numbers.length D1,.slice B2 c.words.length D2,.slice B3 c.tables.length D3] 32)).alloc (.cells #[.int .i64 0,.int .i64 0] 52)) (w.heap.size + 1 + 1) [.int .i64 0,.int .i64 0]:=Blk.new_at (by simp)
 rcases hst:stateB x s
 ·have Ha:=zH (by unfold chkC;rw [hst];rfl:chkC x s c = none)
  go_enter Tryz.func55,Tryz.ntmps55
  go_wp2_with (first
   | (go_at_call 69;(with_reducible refine (Zau [.int .i64 x.points,.string x.names,.slice A3 x.moves.length C3] x _ u s _ _ (zK h0 zA) (zK hu zA)).mono ?_);rintro e w1 ⟨he,t1⟩;rw [hst] at he;subst he;have RL:=R0.keep t1;obtain ⟨g0,g1⟩:=RL.c2;obtain ⟨q0,q1⟩:=RL.f2)
   | fail)
  have KL:Only [] w w1:=zA
  have Rf:=(RL.set 0 (.int .i64 0)).set 1 (.int .i64 0)
  simp only [List.set] at Rf
  obtain ⟨z0,z1⟩:=Rf.c2
  have Kf:Only [] w ((w1.setCell ⟨w.heap.size + 1 + 1,0,none⟩ (.int .i64 0)).setCell ⟨w.heap.size + 1 + 1,1,none⟩ (.int .i64 0)):=(KL.setCell (by simp;omega) _).setCell (by simp;omega) _
  refine bodyPost_ret (v:=.tuple #[.agg #[.int .i64 0,.int .i64 0],.bool false]) (by simp [results,Tryz.results55,go_sem,z0,z1]) rfl ⟨by rw [Ha.out];rfl,Kf⟩
 ·have Ha:=zH (by unfold chkC;rw [if_pos hst]:chkC x s c = accC x s c)
  go_enter Tryz.func55,Tryz.ntmps55
  go_wp2_with (first
   | (go_at_call 69;(with_reducible refine (Zau [.int .i64 x.points,.string x.names,.slice A3 x.moves.length C3] x _ u s _ _ (zK h0 zA) (zK hu zA)).mono ?_);rintro e w1 ⟨he,t1⟩;rw [hst] at he;subst he;have XL:=X0.keep t1;have YL:=Y0.keep t1;obtain ⟨n0,n1,n2⟩:=XL.c3;obtain ⟨m0,m1,m2,m3⟩:=YL.c4)
   | (go_at_call 105;(with_reducible refine (Zqs [.int .i64 x.points,.string x.names,.slice A3 x.moves.length C3] [.int .i64 c.kind,.slice B1 c.numbers.length D1,.slice B2 c.words.length D2,.slice B3 c.tables.length D3] x c _ _ u s _ _ (zK h0 zA) (zK hu zA) (zK hc0 zA) hst hsm).mono ?_);rintro e w2 ⟨rfl,t2⟩;have RL:=(R0.keep t1).keep t2;obtain ⟨g0,g1⟩:=RL.c2;obtain ⟨q0,q1⟩:=RL.f2)
   | fail)
  have KL:Only [] w w2:=zA
  have Rf:=(RL.set 0 (.int .i64 ((accC x s c).getD noClaim).kind)).set 1 (.int .i64 ((accC x s c).getD noClaim).value)
  simp only [List.set] at Rf
  obtain ⟨z0,z1⟩:=Rf.c2
  have Kf:Only [] w ((w2.setCell ⟨w.heap.size + 1 + 1,0,none⟩ (.int .i64 ((accC x s c).getD noClaim).kind)).setCell ⟨w.heap.size + 1 + 1,1,none⟩ (.int .i64 ((accC x s c).getD noClaim).value)):=(KL.setCell (by simp;omega) _).setCell (by simp;omega) _
  refine bodyPost_ret (v:=.tuple #[.agg #[.int .i64 ((accC x s c).getD noClaim).kind,.int .i64 ((accC x s c).getD noClaim).value],.bool (accC x s c).isSome]) (by simp [results,Tryz.results55,go_sem,z0,z1]) rfl ⟨by rw [Ha.out],Kf⟩
set_option maxHeartbeats 4000000 in
theorem Zcj (cs ds:List Value) (x:Puzzle) (c:Certificate) (fp fc:List Nat) (u:Value) (s:List Int) (fs0:List Nat) (w:World) (h:Rp.rep w cs x fp) (hu:Rd w u s fs0) (hc:Rp.rep w ds c fc) (hsm:∀ t∈c.tables,t.tracked.length<=2097152) :
  Calls Tryz.prog 14 #[.agg cs.toArray,u,.agg ds.toArray] w fun e w'=>e = .returned (.bool (chkC x s c).isSome)/\Only [] w w':=by
 have h0:=h
 have hc0:=hc
 obtain ⟨v2,rfl,p0,p1,h2⟩:=h
 obtain ⟨A3,C3,_,_,rfl,-,-⟩:=h2.open_
 obtain ⟨v1,v2,v3,f1,f2,f3,rfl,rfl,p2,i1,i2,i3⟩:=hc
 simp only [List.cons_append,List.nil_append] at hc0 ⊢
 obtain ⟨B1,D1,_,_,rfl,-,-⟩:=i1.open_
 obtain ⟨B2,D2,_,_,rfl,-,-⟩:=i2.open_
 obtain ⟨B3,D3,_,_,rfl,-,-⟩:=i3.open_
 clear h2 p0 p1 p2
 go_enter Tryz.func14,Tryz.ntmps14
 go_wp2_with (first
  | (go_at_call 55;(with_reducible refine (Zof [.int .i64 x.points,.string x.names,.slice A3 x.moves.length C3] [.int .i64 c.kind,.slice B1 c.numbers.length D1,.slice B2 c.words.length D2,.slice B3 c.tables.length D3] x c _ _ u s _ _ (zK h0 zA) (zK hu zA) (zK hc0 zA) hsm).mono ?_);rintro e w1 ⟨rfl,t1⟩;have Z:=Blk.new w1 [.int .i64 0,.int .i64 0] 52;obtain ⟨g0,g1⟩:=Z.c2;obtain ⟨q0,q1⟩:=Z.f2)
  | fail)
 go_ret
 exact ⟨rfl,zA⟩
end Go.Proofs.YthleokaeobdamaaGreat
