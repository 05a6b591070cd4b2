/- What breadth-first search finds: the patterns that the letters lead to, their distances. -/
import Derived.Test.YtclhblofchfglaaGreatRowCompareSolversG8
import Derived.Test.YtclhblofchfglaaGreatRowCompareSolversG7
import Derived.Test.YtclhblofchfglaaGreatRowCompareSolversG1
import Derived.Test.YtclhblofchfglaaGreatRowCompareSolversG3
import Derived.Test.YtclhblofchfglaaGreatRowCompareSolversG4
import Derived.RangeFuncBox
import Derived.RangeFuncLeaves
import Derived.RangeFuncWrites
import Derived.RangeFuncNested
import Derived.Shelf.Abstract
import Derived.OwnWalkIn
import Derived.TacticsInMore
import Derived.LoopNIn
import Derived.LoopIn
import Derived.Maps.AppendAt
namespace Go.Proofs.YtclhblofchfglaaGreat
open Go.RowKit
set_option maxRecDepth 10000
theorem Znp {α:Type} (l:List α) (a z:α):(l ++ [a]).getD l.length z = a:=by
 simp [List.getD_eq_getElem?_getD]
theorem Zab {α:Type} {l:List α} {z:α} {k:Nat} (h:k < l.length):l.getD k z = l[k]:=by
 rw [List.getD_eq_getElem?_getD,List.getElem?_eq_getElem h];rfl
theorem Zdc {α:Type} {l:List α} (h:l.Nodup) {i j:Nat} (hi:i < l.length) (hj:j < l.length) (e:l[i] = l[j]):i = j:=by
 rcases Nat.lt_trichotomy i j with h1 | h1 | h1
 ·exact absurd e (List.pairwise_iff_getElem.1 h i j hi hj h1)
 ·exact h1
 ·exact absurd e.symm (List.pairwise_iff_getElem.1 h j i hj hi h1)
theorem Zjn {n:Nat} {l:Int} (h:l∈ltrs n):-l∈ltrs n:=by
 rw [Zas] at h ⊢;omega
theorem mv_opp {n:Nat} {gens:List (List Int)} (hg:∀ g∈gens,PM.PN n g) {l:Int} (h:l∈ltrs gens.length):mv gens (-l) = PM.inv (mv gens l):=by
 rcases Zcp h with ⟨k,hk,rfl⟩ | ⟨k,hk,rfl⟩
 ·rw [mv_pos rfl hk,mv_neg (k:=k) rfl hk]
 ·rw [mv_neg rfl hk,mv_pos (k:=k) (by omega) hk,PM.inv_inv (hg _ (List.getElem_mem hk))]
theorem Zjs {x:Puzzle} {k:Nat} {q:List Int} {l:Int} (hv:validPz x = true) (hq:patB x.points k q = true) (h:l∈ltrs x.moves.length):nxt x (nxt x q l) (-l) = q:=by
 have hg:=Zag hv
 have hm:=mv_pn hg h
 have hf:=Zae hv
 have hr:=(Zaq.1 hq).2.1
 unfold nxt
 rw [mv_opp hg h]
 show (q.map (PM.at_ (mv x.moves l))).map (PM.at_ (PM.inv (mv x.moves l))) = q
 rw [List.map_map]
 refine (List.map_congr_left fun z hz=>?_).trans (List.map_id q)
 have:=hr z hz
 exact PM.at_inv hm this.1 (by omega)
structure BI (x:Puzzle) (tr:List Int) (k:Nat) (done:List Int) (s:Met16):Prop where
 nd:s.1.Nodup
 dl:s.2.length = s.1.length
 p0:s.1.getD 0 [] = tr
 d0:s.2.getD 0 0 = 0
 ne:0 < s.1.length
 mono:∀ i j,i<=j->j < s.1.length->s.2.getD i 0<=s.2.getD j 0
 top:k < s.1.length->∀ i,i < s.1.length->s.2.getD i 0<=s.2.getD k 0 + 1
 par:∀ i,0 < i->i < s.1.length->∃ j l,j < i/\l∈ltrs x.moves.length/\nxt x (s.1.getD j []) l = s.1.getD i []/\s.2.getD i 0 = s.2.getD j 0 + 1
 clo:∀ j l,l∈ltrs x.moves.length->(j < k\/(j = k/\l∈done))->j < s.1.length->∃ i,i < s.1.length/\s.1.getD i [] = nxt x (s.1.getD j []) l/\s.2.getD i 0<=s.2.getD j 0 + 1
 kl:k<=s.1.length
 pat:∀ q∈s.1,patB x.points tr.length q = true
section
variable {x:Puzzle} {tr:List Int} {k:Nat} {done:List Int} {s s':Met16}
theorem BI.start (hp:patB x.points tr.length tr = true):BI x tr 0 [] ([tr],[0]):=by
 refine ⟨by simp,rfl,rfl,rfl,by simp,fun i j h1 h2=>?_,fun _ i hi=>?_,fun i h1 h2=>?_,fun j l h1 h2=>?_,by simp,by simpa using hp⟩
 ·have:j = 0:=by simpa using h2
  subst this
  have:i = 0:=by omega
  subst this;exact Int.le_refl _
 ·have:i = 0:=by simpa using hi
  subst this;simp
 ·have:i = 0:=by simpa using h2
  omega
 ·rcases h2 with h2 | ⟨-,h2⟩
  ·omega
  ·cases h2
theorem BI.meet (h:BI x tr k done s) (hv:validPz x = true) (hk:k < s.1.length) {l:Int} (hl:l∈ltrs x.moves.length) (hm:bMeet s (s.2.getD k 0 + 1) (nxt x (s.1.getD k []) l) = some s') :
  BI x tr k (l :: done) s'/\s'.1.getD k [] = s.1.getD k []/\s'.2.getD k 0 = s.2.getD k 0/\k < s'.1.length:=by
 have hkm:s.1.getD k []∈s.1:=by rw [Zab hk];exact List.getElem_mem hk
 have hpn:=nxt_pat hv (h.pat _ hkm) hl
 unfold bMeet at hm
 split at hm
 ·rename_i hmem
  injection hm with hm
  subst hm
  refine ⟨⟨h.nd,h.dl,h.p0,h.d0,h.ne,h.mono,h.top,h.par,fun j l' h1 h2 h3=>?_,h.kl,h.pat⟩,rfl,rfl,hk⟩
  rcases h2 with h2 | ⟨rfl,h2⟩
  ·exact h.clo j l' h1 (.inl h2) h3
  ·rcases List.mem_cons.1 h2 with rfl | h2
   ·obtain ⟨i,hi,e⟩:=List.getElem_of_mem hmem
    exact ⟨i,hi,by rw [Zab hi,e],h.top hk i hi⟩
   ·exact h.clo j l' h1 (.inr ⟨rfl,h2⟩) h3
 ·rename_i hmem
  split at hm
  ·cases hm
  ·injection hm with hm
   have hkd:k < s.2.length:=by rw [h.dl];exact hk
   have hle:∀ i,i < s.1.length->s.2.getD i 0<=s.2.getD k 0 + 1:=h.top hk
   have g1:∀ i,i < s.1.length->(s.1 ++ [nxt x (s.1.getD k []) l]).getD i [] = s.1.getD i []:=fun i hi=>Zdn hi
   have g2:∀ i,i < s.1.length->(s.2 ++ [s.2.getD k 0 + 1]).getD i 0 = s.2.getD i 0:=fun i hi=>Zdn (by rw [h.dl];exact hi)
   have e1:(s.1 ++ [nxt x (s.1.getD k []) l]).getD s.1.length [] = nxt x (s.1.getD k []) l:=Znp _ _ _
   have e2:(s.2 ++ [s.2.getD k 0 + 1]).getD s.1.length 0 = s.2.getD k 0 + 1:=by rw [<- h.dl];exact Znp _ _ _
   subst hm
   refine ⟨⟨?_,by simp [h.dl],by rw [g1 0 h.ne];exact h.p0,by rw [g2 0 h.ne];exact h.d0,by simp,fun i j h1 h2=>?_,fun _ i hi=>?_,fun i h1 h2=>?_,fun j l' h1 h2 h3=>?_,by simp;omega,fun q hq=>?_⟩,g1 k hk,g2 k hk,by simp;omega⟩
   ·rw [List.nodup_append]
    exact ⟨h.nd,by simp,fun a ha b hb e=>hmem (by rw [<- List.mem_singleton.1 hb,<- e];exact ha)⟩
   ·simp only [List.length_append,List.length_singleton] at h2
    by_cases hj:j < s.1.length
    ·show (s.2 ++ _).getD i 0<=(s.2 ++ _).getD j 0
     rw [g2 i (by omega),g2 j hj];exact h.mono i j h1 hj
    ·obtain rfl:j = s.1.length:=by omega
     show (s.2 ++ _).getD i 0<=(s.2 ++ _).getD _ 0
     rw [e2]
     by_cases hi:i < s.1.length
     ·rw [g2 i hi];exact hle i hi
     ·obtain rfl:i = s.1.length:=by omega
      rw [e2];exact Int.le_refl _
   ·simp only [List.length_append,List.length_singleton] at hi
    show (s.2 ++ _).getD i 0<=(s.2 ++ _).getD k 0 + 1
    rw [g2 k hk]
    by_cases hi2:i < s.1.length
    ·rw [g2 i hi2];exact hle i hi2
    ·obtain rfl:i = s.1.length:=by omega
     rw [e2];exact Int.le_refl _
   ·simp only [List.length_append,List.length_singleton] at h2
    by_cases hi:i < s.1.length
    ·obtain ⟨j,l',a1,a2,a3,a4⟩:=h.par i h1 hi
     refine ⟨j,l',a1,a2,?_,?_⟩
     ·show nxt x ((s.1 ++ _).getD j []) l' = (s.1 ++ _).getD i []
      rw [g1 j (by omega),g1 i hi];exact a3
     ·show (s.2 ++ _).getD i 0 = (s.2 ++ _).getD j 0 + 1
      rw [g2 j (by omega),g2 i hi];exact a4
    ·obtain rfl:i = s.1.length:=by omega
     refine ⟨k,l,hk,hl,?_,?_⟩
     ·show nxt x ((s.1 ++ _).getD k []) l = (s.1 ++ _).getD _ []
      rw [g1 k hk,e1]
     ·show (s.2 ++ _).getD _ 0 = (s.2 ++ _).getD k 0 + 1
      rw [g2 k hk,e2]
   ·simp only [List.length_append,List.length_singleton] at h3
    have hj:j < s.1.length:=by rcases h2 with h2 | ⟨rfl,-⟩ <;> omega
    have hold:(j < k\/(j = k/\l'∈done))->∃ i,i < (s.1 ++ [nxt x (s.1.getD k []) l]).length/\(s.1 ++ [nxt x (s.1.getD k []) l]).getD i [] = nxt x ((s.1 ++ [nxt x (s.1.getD k []) l]).getD j []) l'/\(s.2 ++ [s.2.getD k 0 + 1]).getD i 0<=(s.2 ++ [s.2.getD k 0 + 1]).getD j 0 + 1:=fun h4=>by
     obtain ⟨i,b1,b2,b3⟩:=h.clo j l' h1 h4 hj
     exact ⟨i,by simp;omega,by rw [g1 i b1,g1 j hj];exact b2,by rw [g2 i b1,g2 j hj];exact b3⟩
    rcases h2 with h2 | ⟨rfl,h2⟩
    ·exact hold (.inl h2)
    ·rcases List.mem_cons.1 h2 with rfl | h2
     ·exact ⟨s.1.length,by simp,by show (s.1 ++ _).getD _ [] = nxt x ((s.1 ++ _).getD j []) l';rw [e1,g1 j hk],by show (s.2 ++ _).getD _ 0<=(s.2 ++ _).getD j 0 + 1;rw [e2,g2 j hk];exact Int.le_refl _⟩
     ·exact hold (.inr ⟨rfl,h2⟩)
   ·rcases List.mem_append.1 hq with hq | hq
    ·exact h.pat q hq
    ·simp at hq;subst hq;exact hpn
theorem BI.lets (hv:validPz x = true):∀ {ls done:List Int} {s s':Met16},BI x tr k done s->k < s.1.length->(∀ l∈ls,l∈ltrs x.moves.length)->bLets x (s.1.getD k []) (s.2.getD k 0 + 1) ls s = some s' ->
  ∃ done',BI x tr k done' s'/\k < s'.1.length/\(∀ l∈ls,l∈done')/\∀ l∈done,l∈done'
 | [],done,s,s',h,hk,_,he=>by
  unfold bLets at he;injection he with he;subst he
  exact ⟨done,h,hk,by simp,fun _ h=>h⟩
 | l :: ls,done,s,s',h,hk,hl,he=>by
  unfold bLets at he
  rw [Option.bind_eq_some_iff] at he
  obtain ⟨s1,e1,e2⟩:=he
  obtain ⟨b1,b2,b3,b4⟩:=h.meet hv hk (hl l (by simp)) e1
  rw [<- b2,<- b3] at e2
  obtain ⟨done',c1,c2,c3,c4⟩:=BI.lets hv b1 b4 (fun l hl2=>hl l (by simp [hl2])) e2
  refine ⟨done',c1,c2,fun l' hl'=>?_,fun l' hl'=>c4 l' (by simp [hl'])⟩
  rcases List.mem_cons.1 hl' with rfl | hl'
  ·exact c4 _ (by simp)
  ·exact c3 l' hl'
theorem BI.next (h:BI x tr k done s) (hk:k < s.1.length) (ha:∀ l∈ltrs x.moves.length,l∈done):BI x tr (k + 1) [] s:=by
 refine ⟨h.nd,h.dl,h.p0,h.d0,h.ne,h.mono,fun h1 i hi=>?_,h.par,fun j l h1 h2 h3=>?_,hk,h.pat⟩
 ·have h2:=h.top hk i hi
  have h3:=h.mono k (k + 1) (by omega) h1
  omega
 ·rcases h2 with h2 | ⟨-,h2⟩
  ·by_cases hj:j < k
   ·exact h.clo j l h1 (.inl hj) h3
   ·obtain rfl:j = k:=by omega
    exact h.clo j l h1 (.inr ⟨rfl,ha l h1⟩) h3
  ·cases h2
theorem BI.from_ (hv:validPz x = true):∀ {n k:Nat} {s s':Met16},bFrom x n k s = some s'->BI x tr k [] s->s.1.length<=3000->3001<=n + k->BI x tr s'.1.length [] s'
 | 0,k,s,s',he,h,h1,h2=>by have:=h.kl;omega
 | n + 1,k,s,s',he,h,h1,h2=>by
  unfold bFrom at he
  split at he
  ·rename_i hk
   rw [Option.bind_eq_some_iff] at he
   obtain ⟨s1,e1,e2⟩:=he
   obtain ⟨done',c1,c2,c3,-⟩:=h.lets hv hk (fun l hl=>hl) e1
   have hlen:=Zmr e1 h.dl.symm h1
   exact BI.from_ hv e2 (c1.next c2 c3) hlen.2.1 (by omega)
  ·injection he with he;subst he
   have:k = s.1.length:=by have:=h.kl;omega
   subst this;exact h
end
structure Built (x:Puzzle) (t:Table):Prop where
 v:validPz x = true
 tk:trackB x.points t.tracked = true
 bi:BI x t.tracked t.patterns.length [] (t.patterns,t.distances)
 ll:t.patterns.length<=3000
theorem Zcu {x:Puzzle} {tr:List Int} {t:Table} (h:bTab x tr = some t):Built x t/\t.tracked = tr:=by
 obtain ⟨h1,h2,h3,h4,h5,h6,h7⟩:=Zki h
 subst h3
 refine ⟨⟨h1,h2,?_,h6⟩,rfl⟩
 rw [Zcn (by rw [h1,h2];rfl)] at h4
 exact BI.from_ h1 h4 (BI.start (Zdq h2)) (by simp) (by omega)
section
variable {x:Puzzle} {t:Table}
theorem Built.dep (h:Built x t):∀ i:Nat,i < t.patterns.length->0<=t.distances.getD i 0/\t.distances.getD i 0<=i/\(0 < i->0 < t.distances.getD i 0):=by
 intro i
 induction i using Nat.strongRecOn with
 | ind i ih=>
  intro hi
  by_cases h0:i = 0
  ·subst h0
   have:t.distances.getD 0 0 = 0:=h.bi.d0
   omega
  ·obtain ⟨j,l,a1,a2,a3,a4⟩:=h.bi.par i (by omega) hi
   have h1:=ih j a1 (Nat.lt_trans a1 hi)
   simp only at a4
   omega
theorem Built.step (h:Built x t) {j:Nat} (hj:j < t.patterns.length) {l:Int} (hl:l∈ltrs x.moves.length) :
  ∃ i:Nat,i < t.patterns.length/\t.patterns.getD i [] = nxt x (t.patterns.getD j []) l/\t.distances.getD i 0<=t.distances.getD j 0 + 1/\t.distances.getD j 0<=t.distances.getD i 0 + 1:=by
 obtain ⟨i,b1,b2,b3⟩:=h.bi.clo j l hl (.inl hj) hj
 obtain ⟨j',c1,c2,c3⟩:=h.bi.clo i (-l) (Zjn hl) (.inl b1) b1
 simp only at b1 b2 b3 c1 c2 c3
 rw [b2,Zjs h.v (h.bi.pat _ (by rw [Zab hj];exact List.getElem_mem hj)) hl] at c2
 have:j' = j:=by
  rw [Zab c1,Zab hj] at c2
  have hnd:t.patterns.Nodup:=h.bi.nd
  exact Zdc hnd c1 hj c2
 subst this
 exact ⟨i,b1,b2,b3,c3⟩
theorem Built.idx (h:Built x t) {i:Nat} (hi:i < t.patterns.length):idxL t.patterns (t.patterns.getD i []) = i:=by
 refine Zdh (j:=i) hi (fun q hq=>?_) ?_
 ·rw [List.mem_take_iff_getElem] at hq
  obtain ⟨k,hk,rfl⟩:=hq
  refine decide_eq_false fun e=>?_
  rw [Zab hi] at e
  have hnd:t.patterns.Nodup:=h.bi.nd
  have:=Zdc hnd (by omega) hi e
  omega
 ·exact decide_eq_true (Zab hi).symm
end
theorem Built.reach {x:Puzzle} {t:Table} (h:Built x t) {s:List Int} (hs:reachB x s = true):PM.comp t.tracked s∈t.patterns:=by
 have hg:=Zag h.v
 have hf:=Zae h.v
 have htr:=Zal.1 h.tk
 have hG:PM.Grp x.points.toNat x.moves s:=by
  unfold reachB memB at hs
  rw [Bool.and_eq_true] at hs
  exact @of_decide_eq_true _ (Classical.propDecidable _) hs.2
 have hr:∀ z∈t.tracked,0<=z/\z < x.points.toNat:=fun z hz=>by have:=htr.2.1 z hz;omega
 have h0:t.patterns.getD 0 [] = t.tracked:=h.bi.p0
 have hne:0 < t.patterns.length:=h.bi.ne
 have:=PM.grp_sub (n:=x.points.toNat) (G:=x.moves) hg (S:=fun p=>PM.PN x.points.toNat p/\PM.comp t.tracked p∈t.patterns) (fun p hp=>hp.1) ⟨PM.PN.id _,?_⟩ ?_ hG
 ·exact this.2
 ·have e:PM.comp t.tracked (PM.pts x.points.toNat) = t.tracked:=by
   unfold PM.comp
   refine (List.map_congr_left fun z hz=>?_).trans (List.map_id _)
   exact PM.at_pts (hr z hz).1 (hr z hz).2
  rw [e,<- h0,Zab hne]
  exact List.getElem_mem hne
 ·rintro p g ⟨hp,hm⟩ hgm
  refine ⟨hp.comp (hg g hgm),?_⟩
  obtain ⟨k,hk,rfl⟩:=List.getElem_of_mem hgm
  obtain ⟨j,hj,e⟩:=List.getElem_of_mem hm
  have hl:((k:Int) + 1)∈ltrs x.moves.length:=Zas.2 ⟨by omega,by omega,by omega⟩
  obtain ⟨i,hi,e2,-⟩:=h.step hj hl
  have e3:PM.comp t.tracked (PM.comp p x.moves[k]) = nxt x (PM.comp t.tracked p) ((k:Int) + 1):=by
   unfold nxt
   rw [mv_pos rfl hk]
   unfold PM.comp
   rw [List.map_map]
   refine List.map_congr_left fun z hz=>?_
   have:=hr z hz
   exact PM.at_comp this.1 (by rw [hp.1];omega)
  rw [e3,<- e,<- Zab (z:=[]) hj,<- e2,Zab hi]
  exact List.getElem_mem hi
def Good (x:Puzzle) (t:Table):Prop:=∀ i,i < t.patterns.length->entF x t i = []
theorem one_nil {b:Bool} {f:Fault}:one b f = [] ↔ b = false:=by unfold one;cases b <;> simp
theorem Zgu {x:Puzzle} {t:Table} {p:List Int} {d:Int} (h:descL x t p d ≠ 0):descL x t p d∈ltrs x.moves.length/\leads x t p d (descL x t p d) = true:=by
 unfold descL at h ⊢
 cases hf:(ltrs x.moves.length).find? (leads x t p d) with
 | none=>rw [hf] at h;exact absurd rfl h
 | some l=>exact ⟨List.mem_of_find?_eq_some hf,List.find?_some hf⟩
theorem Zpy {x:Puzzle} {t:Table} {p:List Int} {d:Int} {l:Int} (hl:l∈ltrs x.moves.length) (h:leads x t p d l = true):descL x t p d ≠ 0:=by
 unfold descL
 cases hf:(ltrs x.moves.length).find? (leads x t p d) with
 | none=>have:=List.find?_eq_none.1 hf l hl;rw [h] at this;exact absurd rfl this
 | some l'=>exact (Zas.1 (List.mem_of_find?_eq_some hf)).1
theorem Zbm {x:Puzzle} {t:Table} {p:List Int} {d l:Int}:leads x t p d l = true ↔ 0<=nextI x t p l/\atD t (nextI x t p l) = d:=by
 unfold leads atD
 rw [Bool.and_eq_true,decide_eq_true_iff,decide_eq_true_iff]
section
variable {x:Puzzle} {t t':Table}
theorem ent_nil {i:Nat}:entF x t i = [] ↔ (i = 0->atD t 0 = 0/\atP t 0 = t.tracked)/\(i:Int)<=idxL t.patterns (atP t i)/\(0 < i->atD t i ≠ 0) /\
  (∀ l∈ltrs x.moves.length,0<=nextI x t (atP t i) l/\-1<=atD t (nextI x t (atP t i) l) - atD t i/\atD t (nextI x t (atP t i) l) - atD t i<=1)/\(0 < atD t i->descL x t (atP t i) (atD t i - 1) ≠ 0):=by
 unfold entF
 rw [List.append_eq_nil_iff,List.append_eq_nil_iff,List.append_eq_nil_iff,List.append_eq_nil_iff,one_nil,one_nil,one_nil,one_nil,List.flatMap_eq_nil_iff]
 have hl:∀ l,letF x t i l = [] ↔ 0<=nextI x t (atP t i) l/\-1<=atD t (nextI x t (atP t i) l) - atD t i/\atD t (nextI x t (atP t i) l) - atD t i<=1:=fun l=>by
  unfold letF
  split
  ·rename_i h;simp;omega
  ·rename_i h
   split
   ·rename_i h2;rw [inR_iff] at h2;simp;omega
   ·rename_i h2;rw [inR_iff] at h2;simp;omega
 constructor
 ·rintro ⟨a,b,c,d,e⟩
  refine ⟨fun h0=>?_,?_,fun h0=>?_,fun l h=>(hl l).1 (d l h),fun h0 h1=>?_⟩
  ·subst h0
   simp only [decide_true,Bool.true_and,Bool.or_eq_false_iff,decide_eq_false_iff_not] at a
   exact ⟨Decidable.of_not_not a.1,Decidable.of_not_not a.2⟩
  ·have:=of_decide_eq_false b;omega
  ·intro h1;simp [h0,h1] at c
  ·simp [h0,h1] at e
 ·rintro ⟨a,b,c,d,e⟩
  refine ⟨?_,decide_eq_false (by omega),?_,fun l h=>(hl l).2 (d l h),?_⟩
  ·by_cases h0:i = 0
   ·subst h0;obtain ⟨a1,a2⟩:=a rfl
    simp [a1,a2]
   ·simp [h0]
  ·by_cases h0:0 < i
   ·simp [h0,c h0]
   ·simp [h0]
  ·by_cases h0:0 < atD t i
   ·simp [e h0]
   ·simp [h0]
theorem atD_nat (i:Nat):atD t i = t.distances.getD i 0:=by unfold atD;rw [Int.toNat_natCast]
theorem Built.good (h:Built x t):Good x t:=by
 intro i hi
 have hstep:∀ l∈ltrs x.moves.length,∃ i':Nat,i' < t.patterns.length/\t.patterns.getD i' [] = nxt x (atP t i) l/\nextI x t (atP t i) l = i'/\atD t i'<=atD t i + 1/\atD t i<=atD t i' + 1:=fun l hl=>by
  obtain ⟨i',a1,a2,a3,a4⟩:=h.step hi hl
  refine ⟨i',a1,a2,?_,by rw [atD_nat,atD_nat];exact a3,by rw [atD_nat,atD_nat];exact a4⟩
  show idxL t.patterns (nxt x (t.patterns.getD i []) l) = i'
  rw [<- a2];exact h.idx a1
 refine ent_nil.2 ⟨fun h0=>?_,?_,fun h0=>?_,fun l hl=>?_,fun h0=>?_⟩
 ·have a:=h.bi.d0;have b:=h.bi.p0
  simp only at a b
  exact ⟨a,b⟩
 ·rw [show atP t i = t.patterns.getD i [] from rfl,h.idx hi];exact Int.le_refl _
 ·have:=(h.dep i hi).2.2 h0
  rw [atD_nat];omega
 ·obtain ⟨i',a1,a2,a3,a4,a5⟩:=hstep l hl
  rw [a3];omega
 ·have hi0:0 < i:=by
   rcases Nat.eq_zero_or_pos i with h1 | h1
   ·subst h1
    have:=h.bi.d0
    simp only at this
    rw [atD_nat,this] at h0;omega
   ·exact h1
  obtain ⟨j,l,a1,a2,a3,a4⟩:=h.bi.par i hi0 hi
  simp only at a3 a4
  have hj:j < t.patterns.length:=by omega
  have hjm:t.patterns.getD j []∈t.patterns:=by rw [Zab hj];exact List.getElem_mem hj
  have hb:nxt x (atP t i) (-l) = t.patterns.getD j []:=by
   rw [show atP t i = t.patterns.getD i [] from rfl,<- a3]
   exact Zjs h.v (h.bi.pat _ hjm) a2
  refine Zpy (Zjn a2) (Zbm.2 ?_)
  have hn:nextI x t (atP t i) (-l) = j:=by
   show idxL t.patterns (nxt x (atP t i) (-l)) = j
   rw [hb];exact h.idx hj
  rw [hn,atD_nat,atD_nat]
  omega
end
section
variable {x:Puzzle} {t:Table}
theorem Ztj {l:List (List Int)} {p:List Int} (h:0<=idxL l p):l.getD (idxL l p).toNat [] = p:=by
 rcases Zej (fun q=>decide (q = p)) l with h1 | ⟨k,hk,h1,h2⟩
 ·unfold idxL at h;omega
 ·unfold idxL
  rw [h1,Int.toNat_natCast,Zab hk]
  exact of_decide_eq_true h2
theorem Built.root (h:Built x t) {i:Nat} (hi:i < t.patterns.length):t.patterns.getD i [] = t.tracked ↔ i = 0:=by
 have h0:t.patterns.getD 0 [] = t.tracked:=h.bi.p0
 constructor
 ·intro e
  rw [<- h0,Zab hi,Zab (by omega)] at e
  have hnd:t.patterns.Nodup:=h.bi.nd
  exact Zdc hnd hi (by omega) e
 ·rintro rfl;exact h0
end
noncomputable def grpL (n:Nat) (gens:List (List Int)):List (List Int):=Classical.choose (PM.Zeb (PM.allL (PM.pts n) n) (PM.Grp n gens))
theorem Zhm (n:Nat) (gens:List (List Int)):(grpL n gens).Nodup:=(Classical.choose_spec (PM.Zeb (PM.allL (PM.pts n) n) (PM.Grp n gens))).1
theorem Zcl {n:Nat} {gens:List (List Int)} (hp:∀ g∈gens,PM.PN n g) {p:List Int}:p∈grpL n gens ↔ PM.Grp n gens p:=by
 have h:=(Classical.choose_spec (PM.Zeb (PM.allL (PM.pts n) n) (PM.Grp n gens))).2 p
 show p∈Classical.choose _ ↔ _
 rw [h]
 refine ⟨fun h=>h.2,fun hg=>⟨?_,hg⟩⟩
 have hpn:=PM.Grp.pn hp hg
 have:=PM.Zqo (A:=PM.pts n) p fun x hx=>PM.mem_pts.2 (by have:=hpn.2.1 x hx;rw [hpn.1] at this;exact this)
 rwa [hpn.1] at this
noncomputable def cardG (x:Puzzle):Nat:=(grpL x.points.toNat x.moves).length
theorem Zsj {n:Nat} {gens:List (List Int)} {G:PM.Gens} {T:PM.Rows} (h:PM.Chain n gens G T) (hn:0 < n) (hp:∀ g∈gens,PM.PN n g):PM.ordM T n n = (grpL n gens).length:=
 Nat.le_antisymm (h.order_ge hn hp fun _ hg=>(Zcl hp).2 hg) (h.order_le hn hp (Zhm _ _) fun _ hx=>(Zcl hp).1 hx)
theorem Zso {x:Puzzle} (hv:validPz x = true):1<=cardG x:=List.length_pos_of_mem ((Zcl (Zag hv)).2 .id)
theorem pts_inc (n:Nat):Inc (n:Int) (PM.pts n):=by
 refine ⟨fun z hz=>PM.mem_pts.1 hz,?_⟩
 unfold PM.pts
 rw [List.pairwise_map]
 exact List.Pairwise.imp (fun h=>by omega) (List.pairwise_lt_range (n:=n))
theorem Zet {x:Puzzle} (hv:validPz x = true):trackB x.points (PM.pts x.points.toNat) = true:=by
 have:=Zae hv
 rw [Zal]
 refine ⟨by rw [PM.pts_len];omega,?_⟩
 have h:=pts_inc x.points.toNat
 rwa [show ((x.points.toNat:Nat):Int) = x.points by omega] at h
def expl (x:Puzzle):Option Table:=bTab x (PM.pts x.points.toNat)
theorem grp_nxt {x:Puzzle} (hv:validPz x = true) {s:List Int} (hs:PM.Grp x.points.toNat x.moves s) {l:Int} (hl:l∈ltrs x.moves.length):PM.Grp x.points.toNat x.moves (nxt x s l):=by
 have h3:=Zag hv
 refine PM.Grp.comp h3 hs ?_
 rcases Zcp hl with ⟨k,hk,rfl⟩ | ⟨k,hk,rfl⟩
 ·rw [mv_pos rfl hk];exact PM.Grp.gen h3 (List.getElem_mem hk)
 ·rw [mv_neg (k:=k) rfl hk];exact PM.Grp.gen_inv h3 (List.getElem_mem hk)
theorem BI.grp {x:Puzzle} {k:Nat} {done:List Int} {s:Met16} (hv:validPz x = true) (h:BI x (PM.pts x.points.toNat) k done s):∀ i,i < s.1.length->PM.Grp x.points.toNat x.moves (s.1.getD i []):=by
 intro i
 induction i using Nat.strongRecOn with
 | ind i ih=>
  intro hi
  by_cases h0:i = 0
  ·subst h0;rw [h.p0];exact .id
  ·obtain ⟨j,l,a1,a2,a3,-⟩:=h.par i (by omega) hi
   rw [<- a3]
   exact grp_nxt hv (ih j a1 (Nat.lt_trans a1 hi)) a2
theorem BI.full {x:Puzzle} {k:Nat} {done:List Int} {s:Met16} (hv:validPz x = true) (hc:cardG x<=3000) (h:BI x (PM.pts x.points.toNat) k done s) (hk:k < s.1.length) {l:Int} (hl:l∈ltrs x.moves.length) (hn:nxt x (s.1.getD k []) l ∉ s.1):s.1.length ≠ 3000:=by
 intro h3
 have hg:=h.grp hv
 have hall:∀ p∈s.1 ++ [nxt x (s.1.getD k []) l],PM.Grp x.points.toNat x.moves p:=fun p hp=>by
  rcases List.mem_append.1 hp with hp | hp
  ·obtain ⟨i,hi,rfl⟩:=List.getElem_of_mem hp
   have:=hg i hi
   rwa [Zab hi] at this
  ·simp at hp;subst hp
   exact grp_nxt hv (hg k hk) hl
 have hnd:(s.1 ++ [nxt x (s.1.getD k []) l]).Nodup:=by
  rw [List.nodup_append]
  exact ⟨h.nd,by simp,fun a ha b hb e=>hn (by rw [<- List.mem_singleton.1 hb,<- e];exact ha)⟩
 have:=PM.Zah hnd fun p hp=>(Zcl (Zag hv)).2 (hall p hp)
 unfold cardG at hc
 simp only [List.length_append,List.length_singleton] at this
 omega
theorem BI.lets_some2 {x:Puzzle} {k:Nat} (hv:validPz x = true) (hc:cardG x<=3000):∀ {ls done:List Int} {s:Met16},BI x (PM.pts x.points.toNat) k done s->k < s.1.length->(∀ l∈ls,l∈ltrs x.moves.length)->(bLets x (s.1.getD k []) (s.2.getD k 0 + 1) ls s).isSome = true
 | [],done,s,h,hk,_=>rfl
 | l :: ls,done,s,h,hk,hl=>by
  unfold bLets
  have h1:∃ s1,bMeet s (s.2.getD k 0 + 1) (nxt x (s.1.getD k []) l) = some s1:=by
   unfold bMeet
   split
   ·exact ⟨_,rfl⟩
   ·rename_i hn
    rw [if_neg (h.full hv hc hk (hl l (by simp)) hn)]
    exact ⟨_,rfl⟩
  obtain ⟨s1,e1⟩:=h1
  obtain ⟨b1,b2,b3,b4⟩:=h.meet hv hk (hl l (by simp)) e1
  have:=BI.lets_some2 (ls:=ls) hv hc b1 b4 (fun l hl2=>hl l (by simp [hl2]))
  rw [b2,b3] at this
  rw [e1];exact this
theorem BI.from_some2 {x:Puzzle} (hv:validPz x = true) (hc:cardG x<=3000):∀ {n k:Nat} {s:Met16},BI x (PM.pts x.points.toNat) k [] s->(bFrom x n k s).isSome = true
 | 0,k,s,h=>rfl
 | n + 1,k,s,h=>by
  unfold bFrom
  split
  ·rename_i hk
   obtain ⟨s1,e1⟩:=Option.isSome_iff_exists.1 (BI.lets_some2 hv hc h hk (fun l hl=>hl))
   obtain ⟨done',c1,c2,c3,-⟩:=h.lets hv hk (fun l hl=>hl) e1
   rw [e1]
   exact BI.from_some2 hv hc (c1.next c2 c3)
  ·rfl
theorem Zsu {x:Puzzle} (hv:validPz x = true) (hc:cardG x<=3000):∃ t,expl x = some t:=by
 have h:=BI.from_some2 (n:=3001) hv hc (BI.start (Zdq (Zet hv)))
 obtain ⟨s,hs⟩:=Option.isSome_iff_exists.1 h
 refine ⟨⟨PM.pts x.points.toNat,s.1,s.2⟩,?_⟩
 unfold expl bTab
 rw [Zcn (by rw [hv,Zet hv];rfl),hs];rfl
theorem Zng {x:Puzzle} (h:validPz x = false):expl x = none:=by
 unfold expl bTab
 rw [Zoo (by rw [h];rfl)];rfl
section
variable {x:Puzzle} {t:Table}
theorem Zad (h:expl x = some t):Built x t/\t.tracked = PM.pts x.points.toNat:=Zcu h
theorem Zek (h:expl x = some t) {q:List Int}:q∈t.patterns ↔ PM.Grp x.points.toNat x.moves q:=by
 obtain ⟨hb,ht⟩:=Zad h
 have hi:=hb.bi
 rw [ht] at hi
 constructor
 ·intro hq
  obtain ⟨i,hil,rfl⟩:=List.getElem_of_mem hq
  have:=hi.grp hb.v i hil
  rwa [Zab hil] at this
 ·intro hg
  have hpn:=PM.Grp.pn (Zag hb.v) hg
  have hf:=Zae hb.v
  have hr:reachB x q = true:=by
   unfold reachB stateB memB
   rw [Bool.and_eq_true,Bool.and_eq_true]
   exact ⟨⟨hb.v,(Zfo hf.1 hf.2.1).2 hpn⟩,@decide_eq_true _ (Classical.propDecidable _) hg⟩
  have:=hb.reach hr
  rwa [ht,PM.id_comp hpn] at this
theorem Zuz (h:expl x = some t):t.patterns.length = cardG x:=by
 obtain ⟨hb,-⟩:=Zad h
 have hnd:t.patterns.Nodup:=hb.bi.nd
 exact Nat.le_antisymm (PM.Zah hnd fun q hq=>(Zcl (Zag hb.v)).2 ((Zek h).1 hq)) (PM.Zah (Zhm _ _) fun q hq=>(Zek h).2 ((Zcl (Zag hb.v)).1 hq))
theorem Zkb (hv:validPz x = true):(∃ t,expl x = some t) ↔ cardG x<=3000:=
 ⟨fun ⟨_,ht⟩=>by rw [<- Zuz ht];exact (Zad ht).1.ll,Zsu hv⟩
theorem Zak (h:expl x = some t) {q:List Int}:q∈t.patterns ↔ reachB x q = true:=by
 obtain ⟨hb,-⟩:=Zad h
 have hf:=Zae hb.v
 rw [Zek h]
 unfold reachB stateB memB
 rw [Bool.and_eq_true,Bool.and_eq_true]
 constructor
 ·intro hg
  exact ⟨⟨hb.v,(Zfo hf.1 hf.2.1).2 (PM.Grp.pn (Zag hb.v) hg)⟩,@decide_eq_true _ (Classical.propDecidable _) hg⟩
 ·rintro ⟨-,hg⟩
  exact @of_decide_eq_true _ (Classical.propDecidable _) hg
end
noncomputable def distX (x:Puzzle) (s:List Int):Int:=match expl x with
 | some t=>if reachB x s = true then atD t (idxL t.patterns s) else -1
 | none=>-1
theorem Zhs {x:Puzzle} {s:List Int} (h:expl x = none):distX x s = -1:=by unfold distX;rw [h]
theorem Zhr {x:Puzzle} {s:List Int} (h:reachB x s = false):distX x s = -1:=by
 unfold distX
 rw [h]
 cases expl x <;> rfl
theorem Zif {x:Puzzle} {t:Table} {s:List Int} (h:expl x = some t) (hs:reachB x s = true):∃ i:Nat,i < t.patterns.length/\t.patterns.getD i [] = s/\idxL t.patterns s = i/\distX x s = t.distances.getD i 0/\0<=t.distances.getD i 0/\t.distances.getD i 0<=3000:=by
 obtain ⟨hb,-⟩:=Zad h
 obtain ⟨i,hi,e⟩:=List.getElem_of_mem ((Zak h).2 hs)
 have e2:t.patterns.getD i [] = s:=by rw [Zab hi,e]
 have hx:=hb.idx hi
 rw [e2] at hx
 have hd:=hb.dep i hi
 have:=hb.ll
 refine ⟨i,hi,e2,hx,?_,hd.1,by omega⟩
 unfold distX
 rw [h]
 show (if reachB x s = true then atD t (idxL t.patterns s) else -1) = _
 rw [if_pos hs,hx]
 unfold atD
 rw [Int.toNat_natCast]
theorem Zpx (x:Puzzle) (s:List Int):distX x s = -1\/(0<=distX x s/\distX x s<=3000/\reachB x s = true/\∃ t,expl x = some t):=by
 rcases he:expl x with _ | t
 ·exact .inl (Zhs he)
 ·rcases hr:reachB x s
  ·exact .inl (Zhr hr)
  ·obtain ⟨i,-,-,-,h1,h2,h3⟩:=Zif he hr
   exact .inr ⟨by omega,by omega,rfl,t,rfl⟩
abbrev MbS:=List Int × List Nat
def mRel (v:Nat) (s:MbS) (tt:Nat):MbS:=if s.1.getD tt 0 < 0 then (s.1.set tt (s.1.getD v 0 + 1),s.2 ++ [tt]) else s
def mVis (row:Nat->List Nat) (v:Nat) (s:MbS):MbS:=(row v).foldl (mRel v) s
def mRun (row:Nat->List Nat):Nat->Nat->MbS->MbS
 | 0,_,s=>s
 | f + 1,k,s=>if k < s.2.length then mRun row f (k + 1) (mVis row (s.2.getD k 0) s) else s
def mSrc (src:Nat->Bool) (N:Nat):MbS:=((List.range N).map (fun i=>if src i then 0 else -1),(List.range N).filter src)
def mDist (src:Nat->Bool) (row:Nat->List Nat) (N:Nat):List Int:=(mRun row (N + 1) 0 (mSrc src N)).1
theorem mRun_go {row:Nat->List Nat} {f k:Nat} {s:MbS} (h:k < s.2.length):mRun row (f + 1) k s = mRun row f (k + 1) (mVis row (s.2.getD k 0) s):=by rw [mRun,if_pos h]
theorem Zjo {row:Nat->List Nat} {f k:Nat} {s:MbS} (h:¬ k < s.2.length):mRun row f k s = s:=by
 cases f with
 | zero=>rfl
 | succ f=>rw [mRun,if_neg h]
theorem Ztf {l:List Int} {i j:Nat} {a d:Int} (h:i < l.length):(l.set i a).getD j d = if j = i then a else l.getD j d:=by
 rw [List.getD_eq_getElem?_getD,List.getD_eq_getElem?_getD,List.getElem?_set]
 by_cases hij:i = j
 ·subst hij;simp [h]
 ·rw [if_neg hij,if_neg (Ne.symm hij)]
theorem Zsw {l:List Nat} {x j d:Nat} (h:j < l.length):(l ++ [x]).getD j d = l.getD j d:=by
 rw [List.getD_eq_getElem?_getD,List.getD_eq_getElem?_getD,List.getElem?_append_left h]
theorem Zrx {l:List Nat} {x d:Nat}:(l ++ [x]).getD l.length d = x:=by
 rw [List.getD_eq_getElem?_getD,List.getElem?_append_right (Nat.le_refl _)];simp
theorem Zdl {l:List Nat} {j d:Nat} (h:j < l.length):l.getD j d∈l:=by
 rw [List.getD_eq_getElem?_getD,List.getElem?_eq_getElem h];exact List.getElem_mem h
theorem Znd {l:List Nat} {x:Nat} (d:Nat) (h:x∈l):∃ j,j < l.length/\l.getD j d = x:=by
 obtain ⟨j,hj,e⟩:=List.getElem_of_mem h
 exact ⟨j,hj,by rw [List.getD_eq_getElem?_getD,List.getElem?_eq_getElem hj];exact e⟩
section
variable {src:Nat->Bool} {row:Nat->List Nat} {N:Nat}
structure MbI (src:Nat->Bool) (row:Nat->List Nat) (N k:Nat) (done:List Nat) (s:MbS):Prop where
 dl:s.1.length = N
 nd:s.2.Nodup
 rng:∀ v∈s.2,v < N
 mem:∀ v,v < N->(v∈s.2 ↔ 0<=s.1.getD v 0)
 neg:∀ v,v < N->-1<=s.1.getD v 0
 zero:∀ v,v < N->(s.1.getD v 0 = 0 ↔ src v = true)
 mono:∀ i j,i<=j->j < s.2.length->s.1.getD (s.2.getD i 0) 0<=s.1.getD (s.2.getD j 0) 0
 near:∀ j,j < s.2.length->k < s.2.length->s.1.getD (s.2.getD j 0) 0<=s.1.getD (s.2.getD k 0) 0 + 1
 cl:∀ i,i < k->i < s.2.length->∀ tt∈row (s.2.getD i 0),0<=s.1.getD tt 0/\s.1.getD tt 0<=s.1.getD (s.2.getD i 0) 0 + 1
 clk:k < s.2.length->∀ tt∈done,0<=s.1.getD tt 0/\s.1.getD tt 0<=s.1.getD (s.2.getD k 0) 0 + 1
 par:∀ v,v < N->0 < s.1.getD v 0->∃ u,u < N/\v∈row u/\0<=s.1.getD u 0/\s.1.getD v 0 = s.1.getD u 0 + 1
theorem MbI.start:MbI src row N 0 [] (mSrc src N):=by
 have hg:∀ v,v < N->(mSrc src N).1.getD v 0 = if src v = true then 0 else -1:=fun v hv=>by
  unfold mSrc
  rw [List.getD_eq_getElem?_getD,List.getElem?_map,List.getElem?_range hv];rfl
 have hm:∀ v,v∈(mSrc src N).2 ↔ v < N/\src v = true:=fun v=>by
  unfold mSrc
  rw [List.mem_filter,List.mem_range]
 have h0:∀ j,j < (mSrc src N).2.length->(mSrc src N).1.getD ((mSrc src N).2.getD j 0) 0 = 0:=fun j hj=>by
  obtain ⟨a,b⟩:=(hm _).1 (Zdl (d:=0) hj)
  rw [hg _ a,if_pos b]
 refine ⟨by simp [mSrc],?_,fun v hv=>((hm v).1 hv).1,fun v hv=>?_,fun v hv=>?_,fun v hv=>?_,fun i j hi hj=>?_,fun j hj hk=>?_,fun i hi=>by omega,fun _ tt hto=>by simp at hto,fun v hv h=>?_⟩
 ·unfold mSrc;exact List.Nodup.sublist List.filter_sublist List.nodup_range
 ·rw [hm,hg v hv];split <;> simp_all
 ·rw [hg v hv];split <;> omega
 ·rw [hg v hv];split <;> simp_all
 ·rw [h0 i (by omega),h0 j hj];exact Int.le_refl _
 ·rw [h0 j hj,h0 0 hk];omega
 ·rw [hg v hv] at h;split at h <;> omega
theorem MbI.rel {k:Nat} {done:List Nat} {s:MbS} (h:MbI src row N k done s) (hk:k < s.2.length) {tt:Nat} (ht:tt < N) (hr:tt∈row (s.2.getD k 0)):MbI src row N k (done ++ [tt]) (mRel (s.2.getD k 0) s tt)/\k < (mRel (s.2.getD k 0) s tt).2.length/\(mRel (s.2.getD k 0) s tt).2.getD k 0 = s.2.getD k 0:=by
 unfold mRel
 by_cases hd:s.1.getD tt 0 < 0
 ·rw [if_pos hd]
  have hkv:s.2.getD k 0∈s.2:=Zdl hk
  have hkN:=h.rng _ hkv
  have hk0:=(h.mem _ hkN).1 hkv
  have hnm:tt ∉ s.2:=fun hm=>by have:=(h.mem tt ht).1 hm;omega
  have hne:s.2.getD k 0 ≠ tt:=fun e=>hnm (e ▸ hkv)
  have hl:=h.dl
  have hs:∀ v,(s.1.set tt (s.1.getD (s.2.getD k 0) 0 + 1)).getD v 0 = if v = tt then s.1.getD (s.2.getD k 0) 0 + 1 else s.1.getD v 0:=fun v=>Ztf (by omega)
  have hq:∀ j,j < s.2.length->(s.2 ++ [tt]).getD j 0 = s.2.getD j 0/\s.2.getD j 0 ≠ tt:=fun j hj=>⟨Zsw hj,fun e=>hnm (e ▸ Zdl hj)⟩
  have hsq:∀ j,j < s.2.length->(s.1.set tt (s.1.getD (s.2.getD k 0) 0 + 1)).getD ((s.2 ++ [tt]).getD j 0) 0 = s.1.getD (s.2.getD j 0) 0:=fun j hj=>by
   rw [(hq j hj).1,hs,if_neg (hq j hj).2]
  have hsl:(s.1.set tt (s.1.getD (s.2.getD k 0) 0 + 1)).getD ((s.2 ++ [tt]).getD s.2.length 0) 0 = s.1.getD (s.2.getD k 0) 0 + 1:=by
   rw [Zrx,hs,if_pos rfl]
  have hup:∀ z,0<=s.1.getD z 0->(s.1.set tt (s.1.getD (s.2.getD k 0) 0 + 1)).getD z 0 = s.1.getD z 0:=fun z hz=>by
   rw [hs,if_neg (fun e=>by subst e;omega)]
  refine ⟨⟨by rw [List.length_set];exact hl,?_,fun v hv=>?_,fun v hv=>?_,fun v hv=>?_,fun v hv=>?_,fun i j hi hj=>?_,fun j hj _=>?_,fun i hi hil tt' hto=>?_,fun _ tt' hto=>?_,fun v hv hp=>?_⟩,by simp;omega,(hq k hk).1⟩
  ·exact List.nodup_append.2 ⟨h.nd,by simp,fun a ha b hb e=>by simp at hb;subst hb;exact hnm (e ▸ ha)⟩
  ·rcases List.mem_append.1 hv with hv | hv
   ·exact h.rng v hv
   ·simp at hv;subst hv;exact ht
  ·simp only
   rw [hs,List.mem_append,List.mem_singleton]
   split
   ·rename_i e
    exact ⟨fun _=>by omega,fun _=>.inr e⟩
   ·rename_i e
    rw [<- h.mem v hv]
    exact ⟨fun hh=>hh.elim id (fun hh=>absurd hh e),.inl⟩
  ·simp only
   rw [hs];split
   ·omega
   ·exact h.neg v hv
  ·simp only
   rw [hs];split
   ·rename_i e
    subst e
    have:=(h.zero v hv).2
    constructor
    ·intro hh;omega
    ·intro hh;have:=this hh;omega
   ·exact h.zero v hv
  ·simp only at hj ⊢
   rw [List.length_append,List.length_singleton] at hj
   rcases Nat.lt_or_ge j s.2.length with hj2 | hj2
   ·rw [hsq i (by omega),hsq j hj2];exact h.mono i j hi hj2
   ·obtain rfl:j = s.2.length:=by omega
    rw [hsl]
    rcases Nat.lt_or_ge i s.2.length with hi2 | hi2
    ·rw [hsq i hi2];exact h.near i hi2 hk
    ·obtain rfl:i = s.2.length:=by omega
     rw [hsl];exact Int.le_refl _
  ·simp only at hj ⊢
   rw [List.length_append,List.length_singleton] at hj
   rw [hsq k hk]
   rcases Nat.lt_or_ge j s.2.length with hj2 | hj2
   ·rw [hsq j hj2];exact h.near j hj2 hk
   ·obtain rfl:j = s.2.length:=by omega
    rw [hsl];exact Int.le_refl _
  ·simp only at hto ⊢
   rw [(hq i (by omega)).1] at hto
   obtain ⟨a,b⟩:=h.cl i hi (by omega) tt' hto
   rw [hsq i (by omega),hup _ a]
   exact ⟨a,b⟩
  ·simp only
   rw [hsq k hk]
   rcases List.mem_append.1 hto with hto | hto
   ·obtain ⟨a,b⟩:=h.clk hk tt' hto
    rw [hup _ a]
    exact ⟨a,b⟩
   ·simp at hto;subst hto
    rw [hs,if_pos rfl]
    omega
  ·simp only at hp ⊢
   rw [hs] at hp
   rw [hs]
   split at hp
   ·rename_i e
    subst e
    rw [if_pos rfl]
    exact ⟨s.2.getD k 0,hkN,hr,by rw [hup _ hk0];exact hk0,by rw [hup _ hk0]⟩
   ·rename_i e
    rw [if_neg e]
    obtain ⟨u,u1,u2,u3,u4⟩:=h.par v hv hp
    exact ⟨u,u1,u2,by rw [hup _ u3];exact u3,by rw [hup _ u3];exact u4⟩
 ·rw [if_neg hd]
  have hm:tt∈s.2:=(h.mem tt ht).2 (by omega)
  obtain ⟨j,hj,hjt⟩:=Znd 0 hm
  refine ⟨⟨h.dl,h.nd,h.rng,h.mem,h.neg,h.zero,h.mono,h.near,h.cl,fun _ tt' hto=>?_,h.par⟩,hk,rfl⟩
  rcases List.mem_append.1 hto with hto | hto
  ·exact h.clk hk tt' hto
  ·simp at hto;subst hto
   have:=h.near j hj hk
   rw [hjt] at this
   exact ⟨by omega,this⟩
theorem MbI.fold {k:Nat} (hN:∀ v,v < N->∀ tt∈row v,tt < N):∀ (ls done:List Nat) (s:MbS) (v:Nat),MbI src row N k done s->k < s.2.length->s.2.getD k 0 = v->(∀ tt∈ls,tt∈row v)->MbI src row N k (done ++ ls) (ls.foldl (mRel v) s)/\k < (ls.foldl (mRel v) s).2.length/\(ls.foldl (mRel v) s).2.getD k 0 = v
 | [],done,s,v,h,hk,hv,_=>by rw [List.append_nil];exact ⟨h,hk,hv⟩
 | tt :: ls,done,s,v,h,hk,hv,hs=>by
  have h1:=hs tt (by simp)
  have hvN:v < N:=by rw [<- hv];exact h.rng _ (Zdl hk)
  obtain ⟨a,b,c⟩:=h.rel hk (hN v hvN tt h1) (by rw [hv];exact h1)
  rw [hv] at a b c
  have:=MbI.fold hN ls (done ++ [tt]) _ v a b c (fun t ht=>hs t (by simp [ht]))
  rw [List.append_assoc] at this
  exact this
theorem MbI.next {k:Nat} {s:MbS} {done:List Nat} (h:MbI src row N k done s) (hk:k < s.2.length) (hd:∀ tt∈row (s.2.getD k 0),tt∈done):MbI src row N (k + 1) [] s:=by
 refine ⟨h.dl,h.nd,h.rng,h.mem,h.neg,h.zero,h.mono,fun j hj hk1=>?_,fun i hi hil tt hto=>?_,fun _ tt hto=>by simp at hto,h.par⟩
 ·have a:=h.near j hj hk
  have b:=h.mono k (k + 1) (by omega) hk1
  omega
 ·rcases Nat.lt_or_ge i k with h1 | h1
  ·exact h.cl i h1 hil tt hto
  ·obtain rfl:i = k:=by omega
   exact h.clk hk tt (hd tt hto)
theorem MbI.len {k:Nat} {s:MbS} {done:List Nat} (h:MbI src row N k done s):s.2.length<=N:=by
 have:=PM.Zah (l2:=List.range N) h.nd fun v hv=>List.mem_range.2 (h.rng v hv)
 rwa [List.length_range] at this
theorem MbI.run (hN:∀ v,v < N->∀ tt∈row v,tt < N):∀ (f k:Nat) (s:MbS),MbI src row N k [] s->N < f + k->∃ k',MbI src row N k' [] (mRun row f k s)/\(mRun row f k s).2.length<=k'
 | 0,k,s,h,hf=>⟨k,h,by have:=h.len;show s.2.length<=k;omega⟩
 | f + 1,k,s,h,hf=>by
  by_cases hk:k < s.2.length
  ·rw [mRun_go hk]
   obtain ⟨a,b,c⟩:=MbI.fold hN (row (s.2.getD k 0)) [] s _ h hk rfl (fun _ ht=>ht)
   rw [List.nil_append] at a
   exact MbI.run hN f (k + 1) _ (a.next b (by rw [c];exact fun _ ht=>ht)) (by omega)
  ·rw [Zjo hk]
   exact ⟨k,h,by omega⟩
structure MbF (src:Nat->Bool) (row:Nat->List Nat) (N:Nat) (D:List Int):Prop where
 dl:D.length = N
 neg:∀ v,v < N->-1<=D.getD v 0
 zero:∀ v,v < N->(D.getD v 0 = 0 ↔ src v = true)
 cl:∀ v,v < N->0<=D.getD v 0->∀ tt∈row v,0<=D.getD tt 0/\D.getD tt 0<=D.getD v 0 + 1
 par:∀ v,v < N->0 < D.getD v 0->∃ u,u < N/\v∈row u/\0<=D.getD u 0/\D.getD v 0 = D.getD u 0 + 1
theorem Zrl (hN:∀ v,v < N->∀ tt∈row v,tt < N):MbF src row N (mDist src row N):=by
 obtain ⟨k,h,hk⟩:=MbI.run hN (N + 1) 0 (mSrc src N) MbI.start (by omega)
 refine ⟨h.dl,h.neg,h.zero,fun v hv h0 tt hto=>?_,h.par⟩
 obtain ⟨i,hi,e⟩:=Znd 0 ((h.mem v hv).2 h0)
 have:=h.cl i (by omega) hi tt (by rw [e];exact hto)
 rw [e] at this
 exact this
theorem dist_le {D E:Nat->Int} (hD0:∀ v,v < N->src v = true->D v = 0) (hDc:∀ v,v < N->0<=D v->∀ tt∈row v,0<=D tt/\D tt<=D v + 1) (hE0:∀ v,v < N->E v = 0->src v = true)
  (hEp:∀ v,v < N->0 < E v->∃ u,u < N/\v∈row u/\0<=E u/\E v = E u + 1):∀ (m v:Nat),v < N->E v = m->0<=D v/\D v<=E v
 | 0,v,hv,he=>by
  have:=hD0 v hv (hE0 v hv (by omega))
  omega
 | m + 1,v,hv,he=>by
  obtain ⟨u,u1,u2,u3,u4⟩:=hEp v hv (by omega)
  obtain ⟨a,b⟩:=dist_le hD0 hDc hE0 hEp m u u1 (by omega)
  obtain ⟨c,d⟩:=hDc u u1 a v u2
  omega
theorem MbF.eq {D:List Int} (h:MbF src row N D) {E:Nat->Int} (hE0:∀ v,v < N->0<=E v) (hEz:∀ v,v < N->(E v = 0 ↔ src v = true)) (hEc:∀ v,v < N->∀ tt∈row v,E tt<=E v + 1)
  (hEp:∀ v,v < N->0 < E v->∃ u,u < N/\v∈row u/\E v = E u + 1) (hN:∀ v,v < N->∀ tt∈row v,tt < N) {v:Nat} (hv:v < N):D.getD v 0 = E v:=by
 have a:=dist_le (D:=fun v=>D.getD v 0) (E:=E) (fun v hv hs=>(h.zero v hv).2 hs) h.cl (fun v hv he=>(hEz v hv).1 he) (fun v hv hp=>by
  obtain ⟨u,u1,u2,u3⟩:=hEp v hv hp
  exact ⟨u,u1,u2,hE0 u u1,u3⟩) (E v).toNat v hv (by have:=hE0 v hv;omega)
 have b:=dist_le (D:=E) (E:=fun v=>D.getD v 0) (fun v hv hs=>(hEz v hv).2 hs) (fun v hv _ tt ht=>⟨hE0 tt (hN v hv tt ht),hEc v hv tt ht⟩) (fun v hv he=>(h.zero v hv).1 he) h.par (D.getD v 0).toNat v hv (by have:=a.1;omega)
 omega
end
def oW (x:Puzzle) (t:Table):Nat->List Int->List Int
 | 0,_=>[]
 | n + 1,p=>descL x t p n :: oW x t n (nxt x p (descL x t p n))
theorem oW_len (x:Puzzle) (t:Table):∀ (n:Nat) (p:List Int),(oW x t n p).length = n
 | 0,_=>rfl
 | n + 1,p=>by unfold oW;rw [List.length_cons,oW_len x t n]
structure Down (x:Puzzle) (t:Table) (i:Nat) (n:Nat) (k:Nat) (j:Nat):Prop where
 hk:k < (ltrs x.moves.length).length
 l:descL x t (t.patterns.getD i []) n = (ltrs x.moves.length)[k]
 hj:j < t.patterns.length
 nx:t.patterns.getD j [] = nxt x (t.patterns.getD i []) (ltrs x.moves.length)[k]
 ds:t.distances.getD j 0 = n
 no:∀ m (hm:m < k),∀ i',i' < t.patterns.length->t.patterns.getD i' [] = nxt x (t.patterns.getD i []) ((ltrs x.moves.length)[m]'(Nat.lt_trans hm hk))->t.distances.getD i' 0 ≠ n/\¬ t.distances.getD i' 0 < (n:Int) + 1
section
variable {x:Puzzle} {t:Table}
theorem Built.mem_of (_:Built x t) {i:Nat} (hi:i < t.patterns.length):t.patterns.getD i []∈t.patterns:=by rw [Zab hi];exact List.getElem_mem hi
theorem Built.down (h:Built x t) {i:Nat} (hi:i < t.patterns.length) {n:Nat} (hd:t.distances.getD i 0 = (n:Int) + 1):∃ k j,Down x t i n k j:=by
 have hg:=ent_nil.1 (h.good i hi)
 have hda:atD t i - 1 = (n:Int):=by rw [atD_nat,hd];omega
 have hne:descL x t (t.patterns.getD i []) (atD t i - 1) ≠ 0:=hg.2.2.2.2 (by rw [atD_nat,hd];omega)
 rw [hda] at hne
 rcases @Zjg x t (t.patterns.getD i []) n with ⟨-,h1⟩ | ⟨k,hk,h1,h2⟩
 ·exact absurd h1 hne
 ·obtain ⟨-,hlead⟩:=Zgu hne
  obtain ⟨a1,a2⟩:=Zbm.1 hlead
  rw [h2] at a1 a2
  have hlt:=(idxL_lt (l:=t.patterns) (p:=nxt x (t.patterns.getD i []) (ltrs x.moves.length)[k])).2
  obtain ⟨j,hj⟩:∃ j:Nat,nextI x t (t.patterns.getD i []) (ltrs x.moves.length)[k] = j:=⟨_,(Int.toNat_of_nonneg a1).symm⟩
  have hjl:j < t.patterns.length:=by unfold nextI at hj;omega
  have hn:=Ztj a1
  unfold nextI at hj
  rw [hj,Int.toNat_natCast] at hn
  refine ⟨k,j,hk,h2,hjl,hn,?_,?_⟩
  ·unfold nextI at a2;rw [hj,atD_nat] at a2;exact a2
  ·intro m hm i' hi' e
   have hml:(ltrs x.moves.length)[m]'(Nat.lt_trans hm hk)∈ltrs x.moves.length:=List.getElem_mem _
   have hne2:t.distances.getD i' 0 ≠ n:=by
    intro e2
    have hl:leads x t (t.patterns.getD i []) n ((ltrs x.moves.length)[m]'(Nat.lt_trans hm hk)) = true:=by
     rw [Zbm]
     unfold nextI
     rw [<- e,h.idx hi',atD_nat]
     exact ⟨by omega,e2⟩
    have hno:∀ q∈(ltrs x.moves.length).take k,leads x t (t.patterns.getD i []) n q = false:=by
     have hf:dK x t (t.patterns.getD i []) n = k:=h1
     unfold dK idxF at hf
     cases hq:(ltrs x.moves.length).findIdx? (leads x t (t.patterns.getD i []) n) with
     | none=>rw [hq] at hf;simp at hf
     | some k'=>
      rw [hq] at hf
      have hf2:(k':Int) = k:=hf
      have:k' = k:=by omega
      subst this
      obtain ⟨_,_,hall⟩:=List.findIdx?_eq_some_iff_getElem.1 hq
      intro q hqm
      rw [List.mem_take_iff_getElem] at hqm
      obtain ⟨m',hm',rfl⟩:=hqm
      simpa using hall m' (by omega)
    have:=hno _ (List.mem_take_iff_getElem.2 ⟨m,by omega,rfl⟩)
    rw [hl] at this;cases this
   refine ⟨hne2,fun hlt2=>hne2 ?_⟩
   obtain ⟨i2,b1,b2,b3,b4⟩:=h.step hi hml
   have:i2 = i':=by
    have e3:=b2.trans e.symm
    rw [Zab b1,Zab hi'] at e3
    have hnd:t.patterns.Nodup:=h.bi.nd
    exact Zdc hnd b1 hi' e3
   subst this
   omega
theorem Down.oW_ {i n k j:Nat} (h:Down x t i n k j):oW x t (n + 1) (t.patterns.getD i []) = (ltrs x.moves.length)[k]'h.hk :: oW x t n (t.patterns.getD j []):=by
 show descL x t (t.patterns.getD i []) n :: oW x t n (nxt x (t.patterns.getD i []) (descL x t (t.patterns.getD i []) n)) = _
 rw [h.l,h.nx]
end
theorem Zda {x:Puzzle} {t:Table} (he:expl x = some t) {i:Nat} (hi:i < t.patterns.length):patB x.points x.points.toNat (t.patterns.getD i []) = true:=by
 obtain ⟨hb,ht⟩:=Zad he
 have:=hb.bi.pat (t.patterns.getD i []) (hb.mem_of hi)
 rwa [ht,PM.pts_len] at this
theorem Zbc {x:Puzzle} {t:Table} (he:expl x = some t) {i:Nat} (hi:i < t.patterns.length):(t.patterns.getD i []).length = x.points.toNat:=(Zaq.1 (Zda he hi)).1
noncomputable def optX (x:Puzzle) (s:List Int):Option (List Int):=if 0<=distX x s/\distX x s<=200 then some (oW x ((expl x).getD noTab) (distX x s).toNat s) else none
theorem optX_no {x:Puzzle} {s:List Int} (h:¬ (0<=distX x s/\distX x s<=200)):optX x s = none:=by unfold optX;rw [if_neg h]
theorem Zop {x:Puzzle} {s:List Int} {t:Table} (ht:expl x = some t) (h:0<=distX x s/\distX x s<=200):optX x s = some (oW x t (distX x s).toNat s):=by unfold optX;rw [if_pos h,ht];rfl
theorem Zuq {x:Puzzle} {s w:List Int} (h:optX x s = some w):(w.length:Int) = distX x s/\w.length<=200:=by
 unfold optX at h
 split at h
 ·rename_i hc
  injection h with h
  subst h
  rw [oW_len]
  omega
 ·cases h
theorem Zll {x:Puzzle} {t:Table} (h:Built x t):∀ (n i:Nat),i < t.patterns.length->t.distances.getD i 0 = n->∀ l∈oW x t n (t.patterns.getD i []),l∈ltrs x.moves.length
 | 0,_,_,_=>by intro l hl;cases hl
 | n + 1,i,hi,hd=>by
  obtain ⟨k,j,hD⟩:=h.down hi (n:=n) (by rw [hd];rfl)
  rw [hD.oW_]
  intro l hl
  rcases List.mem_cons.1 hl with rfl | hl
  ·exact List.getElem_mem _
  ·exact Zll h n j hD.hj hD.ds l hl
theorem snocInd {P:List Int->Prop} (h0:P []) (h1:∀ l x,P l->P (l ++ [x])) (l:List Int):P l:=by
 have key:∀ m:List Int,P m.reverse:=by
  intro m
  induction m with
  | nil=>exact h0
  | cons x m ih=>rw [List.reverse_cons];exact h1 _ _ ih
 have:=key l.reverse
 rwa [List.reverse_reverse] at this
section
variable {n:Nat} {gens:List (List Int)}
end
section
end
theorem comp3 {tr p m:List Int} (hz:∀ z∈tr,0<=z/\z < p.length):PM.comp (PM.comp tr p) m = PM.comp tr (PM.comp p m):=by
 unfold PM.comp
 rw [List.map_map]
 refine List.map_congr_left fun z hm=>?_
 have:=hz z hm
 exact (PM.at_comp this.1 this.2).symm
theorem Zsp {x:Puzzle} {s w:List Int} {l:Int} (hg:∀ g∈x.moves,PM.PN x.points.toNat g) (hs:PM.PN x.points.toNat s) (hw:∀ q∈w,q∈ltrs x.moves.length):appW x s (w ++ [l]) = nxt x (appW x s w) l:=by
 unfold appW nxt
 rw [Ztu]
 exact (PM.Zav hs (evW_pn hg w hw)).symm
theorem Ztq {x:Puzzle} {s:List Int} (hs:PM.PN x.points.toNat s):appW x s [] = s:=PM.comp_id hs
section
variable {x:Puzzle} {t:Table}
end
def mRow (x:Puzzle) (t:Table) (v:Nat):List Nat:=(ltrs x.moves.length).map fun l=>(idxL t.patterns (nxt x (t.patterns.getD v []) l)).toNat
def mD (x:Puzzle) (t:Table) (src:List Int->Bool):List Int:=mDist (fun v=>src (t.patterns.getD v [])) (mRow x t) t.patterns.length
def tD (x:Puzzle) (t:Table) (src:List Int->Bool):Table:=⟨t.tracked,t.patterns,mD x t src⟩
def wEnd (x:Puzzle) (s w:List Int):List Int:=w.foldl (nxt x) s
section
variable {x:Puzzle} {t:Table} {src:List Int->Bool} (hb:Built x t)
include hb
theorem Zco {v:Nat} (hv:v < t.patterns.length) {tt:Nat}:tt∈mRow x t v ↔ ∃ l∈ltrs x.moves.length,tt < t.patterns.length/\t.patterns.getD tt [] = nxt x (t.patterns.getD v []) l:=by
 unfold mRow
 rw [List.mem_map]
 constructor
 ·rintro ⟨l,hl,rfl⟩
  obtain ⟨i,a,b,-,-⟩:=hb.step hv hl
  have:=hb.idx a
  rw [b] at this
  rw [this,Int.toNat_natCast]
  exact ⟨l,hl,a,b⟩
 ·rintro ⟨l,hl,a,b⟩
  refine ⟨l,hl,?_⟩
  rw [<- b,hb.idx a,Int.toNat_natCast]
theorem mRow_lt {v:Nat} (hv:v < t.patterns.length):∀ tt∈mRow x t v,tt < t.patterns.length:=fun tt h=>by
 obtain ⟨l,-,a,-⟩:=(Zco hb hv).1 h
 exact a
theorem pat_of {v:Nat} (hv:v < t.patterns.length):patB x.points t.tracked.length (t.patterns.getD v []) = true:=hb.bi.pat _ (hb.mem_of hv)
theorem Zjv {v tt:Nat} (hv:v < t.patterns.length) (h:tt∈mRow x t v):v∈mRow x t tt:=by
 obtain ⟨l,hl,a,b⟩:=(Zco hb hv).1 h
 refine (Zco hb a).2 ⟨-l,Zjn hl,hv,?_⟩
 rw [b,Zjs hb.v (pat_of hb hv) hl]
theorem mD_F:MbF (fun v=>src (t.patterns.getD v [])) (mRow x t) t.patterns.length (mD x t src):=Zrl fun _ hv=>mRow_lt hb hv
theorem Zgk (h0:src t.tracked = true):∀ v:Nat,v < t.patterns.length->0<=(mD x t src).getD v 0:=by
 intro v
 have hF:=mD_F (src:=src) hb
 induction v using Nat.strongRecOn with
 | ind v ih=>
  intro hv
  by_cases hz:v = 0
  ·subst hz
   have e:t.patterns.getD 0 [] = t.tracked:=hb.bi.p0
   have:=(hF.zero 0 hv).2 (by rw [e];exact h0)
   omega
  ·obtain ⟨j,l,a1,a2,a3,-⟩:=hb.bi.par v (by omega) hv
   simp only at a3
   have hj:j < t.patterns.length:=by omega
   exact (hF.cl j hj (ih j a1 hj) v ((Zco hb hj).2 ⟨l,a2,hv,a3.symm⟩)).1
theorem mD_near (h0:src t.tracked = true) {v tt:Nat} (hv:v < t.patterns.length) (ht:tt∈mRow x t v):(mD x t src).getD tt 0<=(mD x t src).getD v 0 + 1/\(mD x t src).getD v 0<=(mD x t src).getD tt 0 + 1:=by
 have hF:=mD_F (src:=src) hb
 have a:=mRow_lt hb hv tt ht
 exact ⟨(hF.cl v hv (Zgk hb h0 v hv) tt ht).2,(hF.cl tt a (Zgk hb h0 tt a) v (Zjv hb hv ht)).2⟩
theorem mDown (h0:src t.tracked = true) {i:Nat} (hi:i < t.patterns.length) {n:Nat} (hd:(mD x t src).getD i 0 = (n:Int) + 1):∃ k j,Down x (tD x t src) i n k j:=by
 have hF:=mD_F (src:=src) hb
 have hnd:t.patterns.Nodup:=hb.bi.nd
 have hne:descL x (tD x t src) ((tD x t src).patterns.getD i []) n ≠ 0:=by
  obtain ⟨u,u1,u2,u3,u4⟩:=hF.par i hi (by omega)
  obtain ⟨l,hl,a,b⟩:=(Zco hb hi).1 (Zjv hb u1 u2)
  refine Zpy hl (Zbm.2 ?_)
  have e:nextI x (tD x t src) ((tD x t src).patterns.getD i []) l = u:=by
   show idxL t.patterns (nxt x (t.patterns.getD i []) l) = u
   rw [<- b];exact hb.idx a
  rw [e]
  refine ⟨by omega,?_⟩
  rw [atD_nat]
  show (mD x t src).getD u 0 = n
  omega
 rcases @Zjg x (tD x t src) ((tD x t src).patterns.getD i []) n with ⟨-,h1⟩ | ⟨k,hk,h1,h2⟩
 ·exact absurd h1 hne
 ·obtain ⟨-,hlead⟩:=Zgu hne
  obtain ⟨a1,a2⟩:=Zbm.1 hlead
  rw [h2] at a1 a2
  have hkm:(ltrs x.moves.length)[k]∈ltrs x.moves.length:=List.getElem_mem _
  obtain ⟨j,b1,b2,-,-⟩:=hb.step hi hkm
  have hj:nextI x (tD x t src) ((tD x t src).patterns.getD i []) (ltrs x.moves.length)[k] = j:=by
   show idxL t.patterns (nxt x (t.patterns.getD i []) (ltrs x.moves.length)[k]) = j
   rw [<- b2];exact hb.idx b1
  rw [hj,atD_nat] at a2
  refine ⟨k,j,hk,h2,b1,b2,a2,?_⟩
  intro m hm i' hi' e
  have hml:(ltrs x.moves.length)[m]'(Nat.lt_trans hm hk)∈ltrs x.moves.length:=List.getElem_mem _
  have hx:nextI x (tD x t src) ((tD x t src).patterns.getD i []) ((ltrs x.moves.length)[m]'(Nat.lt_trans hm hk)) = i':=by
   show idxL t.patterns (nxt x (t.patterns.getD i []) _) = i'
   have e':t.patterns.getD i' [] = nxt x (t.patterns.getD i []) ((ltrs x.moves.length)[m]'(Nat.lt_trans hm hk)):=e
   rw [<- e'];exact hb.idx hi'
  have hne2:(tD x t src).distances.getD i' 0 ≠ n:=by
   intro e2
   have hl:leads x (tD x t src) ((tD x t src).patterns.getD i []) n ((ltrs x.moves.length)[m]'(Nat.lt_trans hm hk)) = true:=by
    rw [Zbm,hx,atD_nat]
    exact ⟨by omega,e2⟩
   have hno:∀ q∈(ltrs x.moves.length).take k,leads x (tD x t src) ((tD x t src).patterns.getD i []) n q = false:=by
    have hf:dK x (tD x t src) ((tD x t src).patterns.getD i []) n = k:=h1
    unfold dK idxF at hf
    cases hq:(ltrs x.moves.length).findIdx? (leads x (tD x t src) ((tD x t src).patterns.getD i []) n) with
    | none=>rw [hq] at hf;simp at hf
    | some k'=>
     rw [hq] at hf
     have hf2:(k':Int) = k:=hf
     have:k' = k:=by omega
     subst this
     obtain ⟨_,_,hall⟩:=List.findIdx?_eq_some_iff_getElem.1 hq
     intro q hqm
     rw [List.mem_take_iff_getElem] at hqm
     obtain ⟨m',hm',rfl⟩:=hqm
     simpa using hall m' (by omega)
   have:=hno _ (List.mem_take_iff_getElem.2 ⟨m,by omega,rfl⟩)
   rw [hl] at this;cases this
  refine ⟨hne2,fun hlt2=>hne2 ?_⟩
  have hmem:i'∈mRow x t i:=(Zco hb hi).2 ⟨_,hml,hi',e⟩
  have:=mD_near (src:=src) hb h0 hi hmem
  show (mD x t src).getD i' 0 = n
  have h9:(mD x t src).getD i' 0 < (n:Int) + 1:=hlt2
  omega
theorem mW_end (h0:src t.tracked = true):∀ (n i:Nat),i < t.patterns.length->(mD x t src).getD i 0 = n ->
  (∀ l∈oW x (tD x t src) n (t.patterns.getD i []),l∈ltrs x.moves.length)/\∃ j:Nat,j < t.patterns.length/\t.patterns.getD j [] = wEnd x (t.patterns.getD i []) (oW x (tD x t src) n (t.patterns.getD i []))/\(mD x t src).getD j 0 = 0
 | 0,i,hi,hd=>⟨(fun l hl=>by cases hl),i,hi,rfl,hd⟩
 | n + 1,i,hi,hd=>by
  obtain ⟨k,j,hD⟩:=mDown (n:=n) hb h0 hi hd
  obtain ⟨h1,j2,h2,h3,h4⟩:=mW_end h0 n j hD.hj hD.ds
  have e:=hD.oW_
  have e2:(tD x t src).patterns = t.patterns:=rfl
  rw [e2] at e
  rw [e]
  refine ⟨fun l hl=>?_,j2,h2,?_,h4⟩
  ·rcases List.mem_cons.1 hl with rfl | hl
   ·exact List.getElem_mem _
   ·exact h1 l hl
  ·rw [h3]
   have e3:t.patterns.getD j [] = nxt x (t.patterns.getD i []) ((ltrs x.moves.length)[k]'hD.hk):=hD.nx
   unfold wEnd
   rw [List.foldl_cons,e3]
end
def gS (goal s:List Int):Bool:=decide (PM.comp goal s = goal)
section
variable {x:Puzzle} {tr:List Int} {Z:List (List Int)}
theorem BI.in_ {k:Nat} {done:List Int} {s:Met16} (h:BI x tr k done s) (h0:tr∈Z) (hc:∀ q∈Z,∀ l∈ltrs x.moves.length,nxt x q l∈Z):∀ i,i < s.1.length->s.1.getD i []∈Z:=by
 intro i
 induction i using Nat.strongRecOn with
 | ind i ih=>
  intro hi
  by_cases hz:i = 0
  ·subst hz;rw [h.p0];exact h0
  ·obtain ⟨j,l,a1,a2,a3,-⟩:=h.par i (by omega) hi
   rw [<- a3]
   exact hc _ (ih j a1 (Nat.lt_trans a1 hi)) l a2
theorem BI.full3 {k:Nat} {done:List Int} {s:Met16} (h:BI x tr k done s) (h0:tr∈Z) (hc:∀ q∈Z,∀ l∈ltrs x.moves.length,nxt x q l∈Z) (hl3:Z.length<=3000) (hk:k < s.1.length) {l:Int} (hl:l∈ltrs x.moves.length) (hn:nxt x (s.1.getD k []) l ∉ s.1):s.1.length ≠ 3000:=by
 intro h3
 have hg:=h.in_ h0 hc
 have hall:∀ p∈s.1 ++ [nxt x (s.1.getD k []) l],p∈Z:=fun p hp=>by
  rcases List.mem_append.1 hp with hp | hp
  ·obtain ⟨i,hi,rfl⟩:=List.getElem_of_mem hp
   have:=hg i hi
   rwa [Zab hi] at this
  ·simp at hp;subst hp
   exact hc _ (hg k hk) l hl
 have hnd:(s.1 ++ [nxt x (s.1.getD k []) l]).Nodup:=by
  rw [List.nodup_append]
  exact ⟨h.nd,by simp,fun a ha b hb e=>hn (by rw [<- List.mem_singleton.1 hb,<- e];exact ha)⟩
 have:=PM.Zah hnd hall
 simp only [List.length_append,List.length_singleton] at this
 omega
theorem BI.lets_some3 (hv:validPz x = true) (h0:tr∈Z) (hc:∀ q∈Z,∀ l∈ltrs x.moves.length,nxt x q l∈Z) (hl3:Z.length<=3000) {k:Nat}:∀ {ls done:List Int} {s:Met16},BI x tr k done s->k < s.1.length->(∀ l∈ls,l∈ltrs x.moves.length)->(bLets x (s.1.getD k []) (s.2.getD k 0 + 1) ls s).isSome = true
 | [],done,s,h,hk,_=>rfl
 | l :: ls,done,s,h,hk,hl=>by
  unfold bLets
  have h1:∃ s1,bMeet s (s.2.getD k 0 + 1) (nxt x (s.1.getD k []) l) = some s1:=by
   unfold bMeet
   split
   ·exact ⟨_,rfl⟩
   ·rename_i hn
    rw [if_neg (h.full3 h0 hc hl3 hk (hl l (by simp)) hn)]
    exact ⟨_,rfl⟩
  obtain ⟨s1,e1⟩:=h1
  obtain ⟨b1,b2,b3,b4⟩:=h.meet hv hk (hl l (by simp)) e1
  have:=BI.lets_some3 (ls:=ls) hv h0 hc hl3 b1 b4 (fun l hl2=>hl l (by simp [hl2]))
  rw [b2,b3] at this
  rw [e1];exact this
theorem BI.from_some3 (hv:validPz x = true) (h0:tr∈Z) (hc:∀ q∈Z,∀ l∈ltrs x.moves.length,nxt x q l∈Z) (hl3:Z.length<=3000):∀ {n k:Nat} {s:Met16},BI x tr k [] s->(bFrom x n k s).isSome = true
 | 0,k,s,h=>rfl
 | n + 1,k,s,h=>by
  unfold bFrom
  split
  ·rename_i hk
   obtain ⟨s1,e1⟩:=Option.isSome_iff_exists.1 (BI.lets_some3 hv h0 hc hl3 h hk (fun l hl=>hl))
   obtain ⟨done',c1,c2,c3,-⟩:=h.lets hv hk (fun l hl=>hl) e1
   rw [e1]
   exact BI.from_some3 hv h0 hc hl3 (c1.next c2 c3)
  ·rfl
theorem Ztw (hv:validPz x = true) (ht:trackB x.points tr = true) (h0:tr∈Z) (hc:∀ q∈Z,∀ l∈ltrs x.moves.length,nxt x q l∈Z) (hl3:Z.length<=3000):∃ t,bTab x tr = some t:=by
 obtain ⟨s,e⟩:=Option.isSome_iff_exists.1 (BI.from_some3 (n:=3001) hv h0 hc hl3 (BI.start (Zdq ht)))
 exact ⟨⟨tr,s.1,s.2⟩,by unfold bTab;rw [Zcn (by rw [hv,ht];rfl),e];rfl⟩
end
theorem Zlf {α:Type} {p q:α->Bool}:∀ {l:List α},(∀ a∈l,p a = q a)->l.find? p = l.find? q
 | [],_=>rfl
 | a :: l,h=>by rw [List.find?_cons,List.find?_cons,h a (by simp),Zlf fun b hb=>h b (by simp [hb])]
section
variable {x:Puzzle} {t tg:Table} {goal:List Int} (he:expl x = some t) (hg:trackB x.points goal = true)
include he hg
theorem Zfw {v:Nat} (hv:v < t.patterns.length) (l:Int):nxt x (PM.comp goal (t.patterns.getD v [])) l = PM.comp goal (nxt x (t.patterns.getD v []) l):=
 comp3 fun z hz=>by
  have h1:=(Zal.1 hg).2.1 z hz
  rw [Zbc he hv];omega
theorem goal_id:PM.comp goal (t.patterns.getD 0 []) = goal:=by
 obtain ⟨hb,ht⟩:=Zad he
 have e:t.patterns.getD 0 [] = PM.pts x.points.toNat:=hb.bi.p0.trans ht
 rw [e]
 unfold PM.comp
 refine (List.map_congr_left fun z hz=>?_).trans (List.map_id _)
 have:=(Zal.1 hg).2.1 z hz
 exact PM.at_pts (by omega) (by omega)
theorem Zpp:∃ tg,bTab x goal = some tg:=by
 obtain ⟨hb,-⟩:=Zad he
 refine Ztw (Z:=t.patterns.map (PM.comp goal)) hb.v hg (List.mem_map.2 ⟨_,hb.mem_of hb.bi.ne,goal_id he hg⟩) (fun q hq l hl=>?_) (by rw [List.length_map];exact hb.ll)
 obtain ⟨s,hs,rfl⟩:=List.mem_map.1 hq
 obtain ⟨v,hv,e⟩:=List.getElem_of_mem hs
 have e2:t.patterns.getD v [] = s:=by rw [Zab hv,e]
 rw [<- e2,Zfw he hg hv l]
 obtain ⟨i,a,b,-,-⟩:=hb.step hv hl
 exact List.mem_map.2 ⟨_,hb.mem_of a,by rw [b]⟩
theorem Zfp:gS goal t.tracked = true:=by
 obtain ⟨hb,-⟩:=Zad he
 have e:t.patterns.getD 0 [] = t.tracked:=hb.bi.p0
 unfold gS
 rw [<- e]
 exact decide_eq_true (goal_id he hg)
omit hg in
theorem goal_at (hb2:bTab x goal = some tg) {v:Nat} (hv:v < t.patterns.length):∃ e:Nat,e < tg.patterns.length/\idxL tg.patterns (PM.comp goal (t.patterns.getD v [])) = e/\tg.patterns.getD e [] = PM.comp goal (t.patterns.getD v []):=by
 obtain ⟨hb,-⟩:=Zad he
 obtain ⟨hbg,htg⟩:=Zcu hb2
 have h1:=hbg.reach ((Zak he).1 (hb.mem_of hv))
 rw [htg] at h1
 obtain ⟨e,a,b⟩:=List.getElem_of_mem h1
 have c:tg.patterns.getD e [] = PM.comp goal (t.patterns.getD v []):=by rw [Zab a,b]
 exact ⟨e,a,by rw [<- c];exact hbg.idx a,c⟩
theorem goal_E (hb2:bTab x goal = some tg) {v:Nat} (hv:v < t.patterns.length):(mD x t (gS goal)).getD v 0 = atD tg (idxL tg.patterns (PM.comp goal (t.patterns.getD v []))):=by
 obtain ⟨hb,-⟩:=Zad he
 obtain ⟨hbg,htg⟩:=Zcu hb2
 refine MbF.eq (E:=fun v=>atD tg (idxL tg.patterns (PM.comp goal (t.patterns.getD v [])))) (mD_F hb) (fun v hv=>?_) (fun v hv=>?_) (fun v hv tt ht=>?_) (fun v hv hp=>?_) (fun v hv=>mRow_lt hb hv) hv
 ·obtain ⟨e,a,b,-⟩:=goal_at he hb2 hv
  rw [b,atD_nat];exact (hbg.dep e a).1
 ·obtain ⟨e,a,b,c⟩:=goal_at he hb2 hv
  rw [b,atD_nat]
  unfold gS
  rw [decide_eq_true_iff,<- c]
  have h1:=hbg.root a
  rw [htg] at h1
  rw [h1]
  have hd:=hbg.dep e a
  have h0:tg.distances.getD 0 0 = 0:=hbg.bi.d0
  constructor
  ·intro h
   rcases Nat.eq_zero_or_pos e with h2 | h2
   ·exact h2
   ·have:=hd.2.2 h2;omega
  ·intro h;rw [h];exact h0
 ·obtain ⟨l,hl,a,b⟩:=(Zco hb hv).1 ht
  obtain ⟨e,c1,c2,c3⟩:=goal_at he hb2 hv
  rw [b,<- Zfw he hg hv l,c2,atD_nat]
  obtain ⟨i,d1,d2,d3,-⟩:=hbg.step c1 hl
  rw [c3] at d2
  rw [<- d2,hbg.idx d1,atD_nat]
  exact d3
 ·obtain ⟨e,c1,c2,c3⟩:=goal_at he hb2 hv
  rw [c2] at hp ⊢
  have hgd:=ent_nil.1 (hbg.good e c1)
  have hne:=hgd.2.2.2.2 hp
  obtain ⟨hl,hlead⟩:=Zgu hne
  obtain ⟨a1,a2⟩:=Zbm.1 hlead
  obtain ⟨l,hle⟩:∃ l,l = descL x tg (atP tg e) (atD tg e - 1):=⟨_,rfl⟩
  rw [<- hle] at hl a1 a2
  obtain ⟨u,u1,u2,-,-⟩:=hb.step hv hl
  refine ⟨u,u1,Zjv hb hv ((Zco hb hv).2 ⟨l,hl,u1,u2⟩),?_⟩
  rw [u2,<- Zfw he hg hv l,<- c3]
  have:atD tg (nextI x tg (atP tg e) l) = atD tg (idxL tg.patterns (nxt x (tg.patterns.getD e []) l)):=rfl
  rw [<- this]
  omega
theorem Zsk (hb2:bTab x goal = some tg) {v:Nat} (hv:v < t.patterns.length) (n:Int):descL x (tD x t (gS goal)) (t.patterns.getD v []) n = descL x tg (PM.comp goal (t.patterns.getD v [])) n:=by
 obtain ⟨hb,-⟩:=Zad he
 obtain ⟨hbg,htg⟩:=Zcu hb2
 unfold descL
 rw [Zlf fun l hl=>?_]
 obtain ⟨i,a,b,-,-⟩:=hb.step hv hl
 obtain ⟨e,c1,c2,c3⟩:=goal_at he hb2 a
 have h1:nextI x (tD x t (gS goal)) (t.patterns.getD v []) l = i:=by
  show idxL t.patterns (nxt x (t.patterns.getD v []) l) = i
  rw [<- b];exact hb.idx a
 have h2:nextI x tg (PM.comp goal (t.patterns.getD v [])) l = e:=by
  unfold nextI
  rw [Zfw he hg hv l,<- b];exact c2
 have h3:=goal_E he hg hb2 a
 rw [c2,atD_nat] at h3
 rw [Bool.eq_iff_iff,Zbm,Zbm,h1,h2,atD_nat,atD_nat]
 show 0<=(i:Int)/\(mD x t (gS goal)).getD i 0 = n ↔ _
 rw [h3]
 constructor
 ·exact fun h=>⟨by omega,h.2⟩
 ·exact fun h=>⟨by omega,h.2⟩
theorem goal_oW (hb2:bTab x goal = some tg):∀ (n v:Nat),v < t.patterns.length->(mD x t (gS goal)).getD v 0 = n->oW x tg n (PM.comp goal (t.patterns.getD v [])) = oW x (tD x t (gS goal)) n (t.patterns.getD v [])
 | 0,_,_,_=>rfl
 | n + 1,v,hv,hd=>by
  obtain ⟨hb,-⟩:=Zad he
  obtain ⟨k,j,hD⟩:=mDown (n:=n) hb (Zfp he hg) hv hd
  have e3:t.patterns.getD j [] = nxt x (t.patterns.getD v []) ((ltrs x.moves.length)[k]'hD.hk):=hD.nx
  have e4:descL x (tD x t (gS goal)) (t.patterns.getD v []) n = (ltrs x.moves.length)[k]'hD.hk:=hD.l
  have ih:=goal_oW hb2 n j hD.hj hD.ds
  show descL x tg _ n :: oW x tg n (nxt x _ (descL x tg _ n)) = descL x _ _ n :: oW x _ n (nxt x _ (descL x _ _ n))
  rw [<- Zsk he hg hb2 hv n,e4,Zfw he hg hv,<- e3,ih]
end
def mN (x:Puzzle) (t:Table) (g s:List Int):Nat:=((mD x t (gS g)).getD (idxL t.patterns s).toNat 0).toNat
def mW1 (x:Puzzle) (t:Table) (g s:List Int):List Int:=oW x (tD x t (gS g)) (mN x t g s) s
def mthS (x:Puzzle) (t:Table):List (List Int)->List Int->List (List Int)
 | [],_=>[]
 | g :: gs,s=>mW1 x t g s :: mthS x t gs (wEnd x s (mW1 x t g s))
def mthW (x:Puzzle) (t:Table):List (List Int)->List Int->Option (List (List Int))
 | [],_=>some []
 | g :: gs,s=>if 200 < mN x t g s then none else (mthW x t gs (wEnd x s (mW1 x t g s))).map (mW1 x t g s :: ·)
theorem mW1_len (x:Puzzle) (t:Table) (g s:List Int):(mW1 x t g s).length = mN x t g s:=oW_len _ _ _ _
theorem mthW_eq (x:Puzzle) (t:Table):∀ (gs:List (List Int)) (s:List Int),mthW x t gs s = if (mthS x t gs s).all (fun w=>decide (w.length<=200)) = true then some (mthS x t gs s) else none
 | [],_=>rfl
 | g :: gs,s=>by
  unfold mthW mthS
  rw [List.all_cons,mW1_len,mthW_eq x t gs]
  by_cases h:200 < mN x t g s
  ·rw [if_pos h,decide_eq_false (by omega),Bool.false_and,if_neg (by simp)]
  ·rw [if_neg h,decide_eq_true (by omega),Bool.true_and]
   split <;> rfl
section
variable {x:Puzzle} {t:Table} (he:expl x = some t)
include he
theorem Zbt {g:List Int} (hg:trackB x.points g = true) {v:Nat} (hv:v < t.patterns.length) :
  (mD x t (gS g)).getD v 0 = mN x t g (t.patterns.getD v [])/\(∀ l∈mW1 x t g (t.patterns.getD v []),l∈ltrs x.moves.length)/\∃ j:Nat,j < t.patterns.length/\t.patterns.getD j [] = wEnd x (t.patterns.getD v []) (mW1 x t g (t.patterns.getD v [])):=by
 obtain ⟨hb,-⟩:=Zad he
 have h0:=Zgk hb (Zfp he hg) v hv
 have h1:(mD x t (gS g)).getD v 0 = mN x t g (t.patterns.getD v []):=by
  unfold mN
  rw [hb.idx hv,Int.toNat_natCast];omega
 obtain ⟨a,j,b,c,-⟩:=mW_end hb (Zfp he hg) (mN x t g (t.patterns.getD v [])) v hv h1
 exact ⟨h1,a,j,b,c⟩
theorem Zfu:∀ (gs:List (List Int)),(∀ g∈gs,trackB x.points g = true)->∀ (v:Nat),v < t.patterns.length->∀ w∈mthS x t gs (t.patterns.getD v []),∀ l∈w,l∈ltrs x.moves.length
 | [],_,_,_,w,hw=>by cases hw
 | g :: gs,hg,v,hv,w,hw=>by
  obtain ⟨-,a,j,b,c⟩:=Zbt he (hg g (by simp)) hv
  unfold mthS at hw
  rcases List.mem_cons.1 hw with rfl | hw
  ·exact a
  ·rw [<- c] at hw
   exact Zfu gs (fun g hg'=>hg g (by simp [hg'])) j b w hw
end
def growB:List (List Int)->Bool
 | a :: b :: l=>decide (a.length < b.length) && a.all (fun z=>decide (z∈b)) && growB (b :: l)
 | _=>true
def methB (x:Puzzle) (goals:List (List Int)):Bool:=validPz x && decide (1<=goals.length/\goals.length<=5) && goals.all (trackB x.points) && growB goals && decide (((goals.getD (goals.length - 1) []).length:Int) = x.points)
noncomputable def mthX (x:Puzzle) (goals:List (List Int)) (s:List Int):Option (List (List Int)):=match expl x with
 | some t=>if (reachB x s && methB x goals) = true then mthW x t goals s else none
 | none=>none
noncomputable def mthC (x:Puzzle) (goals:List (List Int)) (s:List Int):Option (List Int):=(mthX x goals s).bind fun ws=>if ws.flatten.length<=200 then some ws.flatten else none
end Go.Proofs.YtclhblofchfglaaGreat
