/- What breadth-first search finds: the patterns that the letters lead to, their distances. -/
import Derived.Test.YtjfmkolnleicnaaGreatDoorRowAcceptedClaimsG10
import Derived.Test.YtjfmkolnleicnaaGreatDoorRowAcceptedClaimsG8
import Derived.Test.YtjfmkolnleicnaaGreatDoorRowAcceptedClaimsG4
import Derived.Test.YtjfmkolnleicnaaGreatDoorRowAcceptedClaimsG1
import Derived.Test.YtjfmkolnleicnaaGreatDoorRowAcceptedClaimsG2
import Derived.Deep.RegionLaw
import Derived.Test.YtjfmkolnleicnaaGreatDoorRowAcceptedClaimsG3
import Derived.Test.YtjfmkolnleicnaaGreatDoorRowAcceptedClaimsG7
import Derived.Test.YtjfmkolnleicnaaGreatDoorRowAcceptedClaimsG9
import Derived.Deep.RegionHeld3
import Derived.Deep.DeepCutAuto
import Derived.Deep.AppendLies
namespace Go.Proofs.YtjfmkolnleicnaaGreatDoor
open Go.RowKit
set_option maxRecDepth 10000
theorem Zoc {α:Type} (l:List α) (a z:α):(l ++ [a]).getD l.length z = a:=by
 simp [List.getD_eq_getElem?_getD]
theorem Zah {α:Type} {l:List α} {z:α} {k:Nat} (h:k < l.length):l.getD k z = l[k]:=by
 rw [List.getD_eq_getElem?_getD,List.getElem?_eq_getElem h];rfl
theorem Zes {α:Type} {l:List α} (h:l.Nodup) {i j:Nat} (hi:i < l.length) (hj:j < l.length) (e:l[i] = l[j]):i = j:=by
 rcases Nat.lt_trichotomy i j with h1 | h1 | h1
 ·exact absurd e (List.pairwise_iff_getElem.1 h i j hi hj h1)
 ·exact h1
 ·exact absurd e.symm (List.pairwise_iff_getElem.1 h j i hj hi h1)
theorem Zhm {n:Nat} {l:Int} (h:l∈ltrs n):-l∈ltrs n:=by
 rw [Zbv] at h ⊢;omega
theorem mv_opp {n:Nat} {gens:List (List Int)} (hg:∀ g∈gens,PM.PN n g) {l:Int} (h:l∈ltrs gens.length):mv gens (-l) = PM.inv (mv gens l):=by
 rcases Zci h with ⟨k,hk,rfl⟩ | ⟨k,hk,rfl⟩
 ·rw [mv_pos rfl hk,mv_neg (k:=k) rfl hk]
 ·rw [mv_neg rfl hk,mv_pos (k:=k) (by omega) hk,PM.inv_inv (hg _ (List.getElem_mem hk))]
theorem Zpx {x:Puzzle} {k:Nat} {q:List Int} {l:Int} (hv:validPz x = true) (hq:patB x.points k q = true) (h:l∈ltrs x.moves.length):nxt x (nxt x q l) (-l) = q:=by
 have hg:=Zas hv
 have hm:=mv_pn hg h
 have hf:=Zae hv
 have hr:=(Zba.1 hq).2.1
 unfold nxt
 rw [mv_opp hg h]
 show (q.map (PM.at_ (mv x.moves l))).map (PM.at_ (PM.inv (mv x.moves l))) = q
 rw [List.map_map]
 refine (List.map_congr_left fun z hz=>?_).trans (List.map_id q)
 have:=hr z hz
 exact PM.at_inv hm this.1 (by omega)
structure BI (x:Puzzle) (tr:List Int) (k:Nat) (done:List Int) (s:Met16):Prop where
 nd:s.1.Nodup
 dl:s.2.length = s.1.length
 p0:s.1.getD 0 [] = tr
 d0:s.2.getD 0 0 = 0
 ne:0 < s.1.length
 mono:∀ i j,i<=j->j < s.1.length->s.2.getD i 0<=s.2.getD j 0
 top:k < s.1.length->∀ i,i < s.1.length->s.2.getD i 0<=s.2.getD k 0 + 1
 par:∀ i,0 < i->i < s.1.length->∃ j l,j < i/\l∈ltrs x.moves.length/\nxt x (s.1.getD j []) l = s.1.getD i []/\s.2.getD i 0 = s.2.getD j 0 + 1
 clo:∀ j l,l∈ltrs x.moves.length->(j < k\/(j = k/\l∈done))->j < s.1.length->∃ i,i < s.1.length/\s.1.getD i [] = nxt x (s.1.getD j []) l/\s.2.getD i 0<=s.2.getD j 0 + 1
 kl:k<=s.1.length
 pat:∀ q∈s.1,patB x.points tr.length q = true
section
variable {x:Puzzle} {tr:List Int} {k:Nat} {done:List Int} {s s':Met16}
theorem BI.start (hp:patB x.points tr.length tr = true):BI x tr 0 [] ([tr],[0]):=by
 refine ⟨by simp,rfl,rfl,rfl,by simp,fun i j h1 h2=>?_,fun _ i hi=>?_,fun i h1 h2=>?_,fun j l h1 h2=>?_,by simp,by simpa using hp⟩
 ·have:j = 0:=by simpa using h2
  subst this
  have:i = 0:=by omega
  subst this;exact Int.le_refl _
 ·have:i = 0:=by simpa using hi
  subst this;simp
 ·have:i = 0:=by simpa using h2
  omega
 ·rcases h2 with h2 | ⟨-,h2⟩
  ·omega
  ·cases h2
theorem BI.meet (h:BI x tr k done s) (hv:validPz x = true) (hk:k < s.1.length) {l:Int} (hl:l∈ltrs x.moves.length) (hm:bMeet s (s.2.getD k 0 + 1) (nxt x (s.1.getD k []) l) = some s') :
  BI x tr k (l :: done) s'/\s'.1.getD k [] = s.1.getD k []/\s'.2.getD k 0 = s.2.getD k 0/\k < s'.1.length:=by
 have hkm:s.1.getD k []∈s.1:=by rw [Zah hk];exact List.getElem_mem hk
 have hpn:=nxt_pat hv (h.pat _ hkm) hl
 unfold bMeet at hm
 split at hm
 ·rename_i hmem
  injection hm with hm
  subst hm
  refine ⟨⟨h.nd,h.dl,h.p0,h.d0,h.ne,h.mono,h.top,h.par,fun j l' h1 h2 h3=>?_,h.kl,h.pat⟩,rfl,rfl,hk⟩
  rcases h2 with h2 | ⟨rfl,h2⟩
  ·exact h.clo j l' h1 (.inl h2) h3
  ·rcases List.mem_cons.1 h2 with rfl | h2
   ·obtain ⟨i,hi,e⟩:=List.getElem_of_mem hmem
    exact ⟨i,hi,by rw [Zah hi,e],h.top hk i hi⟩
   ·exact h.clo j l' h1 (.inr ⟨rfl,h2⟩) h3
 ·rename_i hmem
  split at hm
  ·cases hm
  ·injection hm with hm
   have hkd:k < s.2.length:=by rw [h.dl];exact hk
   have hle:∀ i,i < s.1.length->s.2.getD i 0<=s.2.getD k 0 + 1:=h.top hk
   have g1:∀ i,i < s.1.length->(s.1 ++ [nxt x (s.1.getD k []) l]).getD i [] = s.1.getD i []:=fun i hi=>Zcn hi
   have g2:∀ i,i < s.1.length->(s.2 ++ [s.2.getD k 0 + 1]).getD i 0 = s.2.getD i 0:=fun i hi=>Zcn (by rw [h.dl];exact hi)
   have e1:(s.1 ++ [nxt x (s.1.getD k []) l]).getD s.1.length [] = nxt x (s.1.getD k []) l:=Zoc _ _ _
   have e2:(s.2 ++ [s.2.getD k 0 + 1]).getD s.1.length 0 = s.2.getD k 0 + 1:=by rw [<- h.dl];exact Zoc _ _ _
   subst hm
   refine ⟨⟨?_,by simp [h.dl],by rw [g1 0 h.ne];exact h.p0,by rw [g2 0 h.ne];exact h.d0,by simp,fun i j h1 h2=>?_,fun _ i hi=>?_,fun i h1 h2=>?_,fun j l' h1 h2 h3=>?_,by simp;omega,fun q hq=>?_⟩,g1 k hk,g2 k hk,by simp;omega⟩
   ·rw [List.nodup_append]
    exact ⟨h.nd,by simp,fun a ha b hb e=>hmem (by rw [<- List.mem_singleton.1 hb,<- e];exact ha)⟩
   ·simp only [List.length_append,List.length_singleton] at h2
    by_cases hj:j < s.1.length
    ·show (s.2 ++ _).getD i 0<=(s.2 ++ _).getD j 0
     rw [g2 i (by omega),g2 j hj];exact h.mono i j h1 hj
    ·obtain rfl:j = s.1.length:=by omega
     show (s.2 ++ _).getD i 0<=(s.2 ++ _).getD _ 0
     rw [e2]
     by_cases hi:i < s.1.length
     ·rw [g2 i hi];exact hle i hi
     ·obtain rfl:i = s.1.length:=by omega
      rw [e2];exact Int.le_refl _
   ·simp only [List.length_append,List.length_singleton] at hi
    show (s.2 ++ _).getD i 0<=(s.2 ++ _).getD k 0 + 1
    rw [g2 k hk]
    by_cases hi2:i < s.1.length
    ·rw [g2 i hi2];exact hle i hi2
    ·obtain rfl:i = s.1.length:=by omega
     rw [e2];exact Int.le_refl _
   ·simp only [List.length_append,List.length_singleton] at h2
    by_cases hi:i < s.1.length
    ·obtain ⟨j,l',a1,a2,a3,a4⟩:=h.par i h1 hi
     refine ⟨j,l',a1,a2,?_,?_⟩
     ·show nxt x ((s.1 ++ _).getD j []) l' = (s.1 ++ _).getD i []
      rw [g1 j (by omega),g1 i hi];exact a3
     ·show (s.2 ++ _).getD i 0 = (s.2 ++ _).getD j 0 + 1
      rw [g2 j (by omega),g2 i hi];exact a4
    ·obtain rfl:i = s.1.length:=by omega
     refine ⟨k,l,hk,hl,?_,?_⟩
     ·show nxt x ((s.1 ++ _).getD k []) l = (s.1 ++ _).getD _ []
      rw [g1 k hk,e1]
     ·show (s.2 ++ _).getD _ 0 = (s.2 ++ _).getD k 0 + 1
      rw [g2 k hk,e2]
   ·simp only [List.length_append,List.length_singleton] at h3
    have hj:j < s.1.length:=by rcases h2 with h2 | ⟨rfl,-⟩ <;> omega
    have hold:(j < k\/(j = k/\l'∈done))->∃ i,i < (s.1 ++ [nxt x (s.1.getD k []) l]).length/\(s.1 ++ [nxt x (s.1.getD k []) l]).getD i [] = nxt x ((s.1 ++ [nxt x (s.1.getD k []) l]).getD j []) l'/\(s.2 ++ [s.2.getD k 0 + 1]).getD i 0<=(s.2 ++ [s.2.getD k 0 + 1]).getD j 0 + 1:=fun h4=>by
     obtain ⟨i,b1,b2,b3⟩:=h.clo j l' h1 h4 hj
     exact ⟨i,by simp;omega,by rw [g1 i b1,g1 j hj];exact b2,by rw [g2 i b1,g2 j hj];exact b3⟩
    rcases h2 with h2 | ⟨rfl,h2⟩
    ·exact hold (.inl h2)
    ·rcases List.mem_cons.1 h2 with rfl | h2
     ·exact ⟨s.1.length,by simp,by show (s.1 ++ _).getD _ [] = nxt x ((s.1 ++ _).getD j []) l';rw [e1,g1 j hk],by show (s.2 ++ _).getD _ 0<=(s.2 ++ _).getD j 0 + 1;rw [e2,g2 j hk];exact Int.le_refl _⟩
     ·exact hold (.inr ⟨rfl,h2⟩)
   ·rcases List.mem_append.1 hq with hq | hq
    ·exact h.pat q hq
    ·simp at hq;subst hq;exact hpn
theorem BI.lets (hv:validPz x = true):∀ {ls done:List Int} {s s':Met16},BI x tr k done s->k < s.1.length->(∀ l∈ls,l∈ltrs x.moves.length)->bLets x (s.1.getD k []) (s.2.getD k 0 + 1) ls s = some s' ->
  ∃ done',BI x tr k done' s'/\k < s'.1.length/\(∀ l∈ls,l∈done')/\∀ l∈done,l∈done'
 | [],done,s,s',h,hk,_,he=>by
  unfold bLets at he;injection he with he;subst he
  exact ⟨done,h,hk,by simp,fun _ h=>h⟩
 | l :: ls,done,s,s',h,hk,hl,he=>by
  unfold bLets at he
  rw [Option.bind_eq_some_iff] at he
  obtain ⟨s1,e1,e2⟩:=he
  obtain ⟨b1,b2,b3,b4⟩:=h.meet hv hk (hl l (by simp)) e1
  rw [<- b2,<- b3] at e2
  obtain ⟨done',c1,c2,c3,c4⟩:=BI.lets hv b1 b4 (fun l hl2=>hl l (by simp [hl2])) e2
  refine ⟨done',c1,c2,fun l' hl'=>?_,fun l' hl'=>c4 l' (by simp [hl'])⟩
  rcases List.mem_cons.1 hl' with rfl | hl'
  ·exact c4 _ (by simp)
  ·exact c3 l' hl'
theorem BI.next (h:BI x tr k done s) (hk:k < s.1.length) (ha:∀ l∈ltrs x.moves.length,l∈done):BI x tr (k + 1) [] s:=by
 refine ⟨h.nd,h.dl,h.p0,h.d0,h.ne,h.mono,fun h1 i hi=>?_,h.par,fun j l h1 h2 h3=>?_,hk,h.pat⟩
 ·have h2:=h.top hk i hi
  have h3:=h.mono k (k + 1) (by omega) h1
  omega
 ·rcases h2 with h2 | ⟨-,h2⟩
  ·by_cases hj:j < k
   ·exact h.clo j l h1 (.inl hj) h3
   ·obtain rfl:j = k:=by omega
    exact h.clo j l h1 (.inr ⟨rfl,ha l h1⟩) h3
  ·cases h2
theorem BI.from_ (hv:validPz x = true):∀ {n k:Nat} {s s':Met16},bFrom x n k s = some s'->BI x tr k [] s->s.1.length<=3000->3001<=n + k->BI x tr s'.1.length [] s'
 | 0,k,s,s',he,h,h1,h2=>by have:=h.kl;omega
 | n + 1,k,s,s',he,h,h1,h2=>by
  unfold bFrom at he
  split at he
  ·rename_i hk
   rw [Option.bind_eq_some_iff] at he
   obtain ⟨s1,e1,e2⟩:=he
   obtain ⟨done',c1,c2,c3,-⟩:=h.lets hv hk (fun l hl=>hl) e1
   have hlen:=Znr e1 h.dl.symm h1
   exact BI.from_ hv e2 (c1.next c2 c3) hlen.2.1 (by omega)
  ·injection he with he;subst he
   have:k = s.1.length:=by have:=h.kl;omega
   subst this;exact h
end
structure Built (x:Puzzle) (t:Table):Prop where
 v:validPz x = true
 tk:trackB x.points t.tracked = true
 bi:BI x t.tracked t.patterns.length [] (t.patterns,t.distances)
 ll:t.patterns.length<=3000
theorem Zlp {x:Puzzle} {tr:List Int} {t:Table} (h:bTab x tr = some t):Built x t/\t.tracked = tr:=by
 obtain ⟨h1,h2,h3,h4,h5,h6,h7⟩:=Zhw h
 subst h3
 refine ⟨⟨h1,h2,?_,h6⟩,rfl⟩
 rw [Zdg (by rw [h1,h2];rfl)] at h4
 exact BI.from_ h1 h4 (BI.start (Zea h2)) (by simp) (by omega)
section
variable {x:Puzzle} {t:Table}
theorem Built.dep (h:Built x t):∀ i:Nat,i < t.patterns.length->0<=t.distances.getD i 0/\t.distances.getD i 0<=i/\(0 < i->0 < t.distances.getD i 0):=by
 intro i
 induction i using Nat.strongRecOn with
 | ind i ih=>
  intro hi
  by_cases h0:i = 0
  ·subst h0
   have:t.distances.getD 0 0 = 0:=h.bi.d0
   omega
  ·obtain ⟨j,l,a1,a2,a3,a4⟩:=h.bi.par i (by omega) hi
   have h1:=ih j a1 (Nat.lt_trans a1 hi)
   simp only at a4
   omega
theorem Built.step (h:Built x t) {j:Nat} (hj:j < t.patterns.length) {l:Int} (hl:l∈ltrs x.moves.length) :
  ∃ i:Nat,i < t.patterns.length/\t.patterns.getD i [] = nxt x (t.patterns.getD j []) l/\t.distances.getD i 0<=t.distances.getD j 0 + 1/\t.distances.getD j 0<=t.distances.getD i 0 + 1:=by
 obtain ⟨i,b1,b2,b3⟩:=h.bi.clo j l hl (.inl hj) hj
 obtain ⟨j',c1,c2,c3⟩:=h.bi.clo i (-l) (Zhm hl) (.inl b1) b1
 simp only at b1 b2 b3 c1 c2 c3
 rw [b2,Zpx h.v (h.bi.pat _ (by rw [Zah hj];exact List.getElem_mem hj)) hl] at c2
 have:j' = j:=by
  rw [Zah c1,Zah hj] at c2
  have hnd:t.patterns.Nodup:=h.bi.nd
  exact Zes hnd c1 hj c2
 subst this
 exact ⟨i,b1,b2,b3,c3⟩
theorem Built.idx (h:Built x t) {i:Nat} (hi:i < t.patterns.length):idxL t.patterns (t.patterns.getD i []) = i:=by
 refine Zdv (j:=i) hi (fun q hq=>?_) ?_
 ·rw [List.mem_take_iff_getElem] at hq
  obtain ⟨k,hk,rfl⟩:=hq
  refine decide_eq_false fun e=>?_
  rw [Zah hi] at e
  have hnd:t.patterns.Nodup:=h.bi.nd
  have:=Zes hnd (by omega) hi e
  omega
 ·exact decide_eq_true (Zah hi).symm
end
noncomputable def validT (x:Puzzle) (t:Table):Bool:=(bTab x t.tracked).isSome && eqV ((bTab x t.tracked).getD noTab) t
noncomputable def tabSet (x:Puzzle) (ts:List Table):Bool:=validPz x && (decide (ts.length<=4) && ts.all (validT x))
def lookT (t:Table) (s:List Int):Int:=t.distances.getD (idxL t.patterns (PM.comp t.tracked s)).toNat 0
def lbs (ts:List Table) (s:List Int):List Int:=ts.map fun t=>lookT t s
def lbMax (ts:List Table) (s:List Int):Int:=(lbs ts s).foldl max 0
noncomputable def lb (x:Puzzle) (ts:List Table) (s:List Int):Int:=if (tabSet x ts && reachB x s) = true then lbMax ts s else -1
theorem Zbw {x:Puzzle} {t:Table} (h:validT x t = true):Built x t:=by
 unfold validT at h
 rw [Bool.and_eq_true] at h
 obtain ⟨u,hu⟩:=Option.isSome_iff_exists.1 h.1
 have h2:=h.2
 rw [hu] at h2
 have e:u = t:=eqV_iff.1 h2
 subst e
 exact (Zlp hu).1
theorem Zfn {x:Puzzle} {ts:List Table}:tabSet x ts = true ↔ validPz x = true/\ts.length<=4/\∀ t∈ts,validT x t = true:=by
 unfold tabSet
 rw [Bool.and_eq_true,Bool.and_eq_true,decide_eq_true_iff,List.all_eq_true]
theorem Built.reach {x:Puzzle} {t:Table} (h:Built x t) {s:List Int} (hs:reachB x s = true):PM.comp t.tracked s∈t.patterns:=by
 have hg:=Zas h.v
 have hf:=Zae h.v
 have htr:=Zbi.1 h.tk
 have hG:PM.Grp x.points.toNat x.moves s:=by
  unfold reachB memB at hs
  rw [Bool.and_eq_true] at hs
  exact @of_decide_eq_true _ (Classical.propDecidable _) hs.2
 have hr:∀ z∈t.tracked,0<=z/\z < x.points.toNat:=fun z hz=>by have:=htr.2.1 z hz;omega
 have h0:t.patterns.getD 0 [] = t.tracked:=h.bi.p0
 have hne:0 < t.patterns.length:=h.bi.ne
 have:=PM.grp_sub (n:=x.points.toNat) (G:=x.moves) hg (S:=fun p=>PM.PN x.points.toNat p/\PM.comp t.tracked p∈t.patterns) (fun p hp=>hp.1) ⟨PM.PN.id _,?_⟩ ?_ hG
 ·exact this.2
 ·have e:PM.comp t.tracked (PM.pts x.points.toNat) = t.tracked:=by
   unfold PM.comp
   refine (List.map_congr_left fun z hz=>?_).trans (List.map_id _)
   exact PM.at_pts (hr z hz).1 (hr z hz).2
  rw [e,<- h0,Zah hne]
  exact List.getElem_mem hne
 ·rintro p g ⟨hp,hm⟩ hgm
  refine ⟨hp.comp (hg g hgm),?_⟩
  obtain ⟨k,hk,rfl⟩:=List.getElem_of_mem hgm
  obtain ⟨j,hj,e⟩:=List.getElem_of_mem hm
  have hl:((k:Int) + 1)∈ltrs x.moves.length:=Zbv.2 ⟨by omega,by omega,by omega⟩
  obtain ⟨i,hi,e2,-⟩:=h.step hj hl
  have e3:PM.comp t.tracked (PM.comp p x.moves[k]) = nxt x (PM.comp t.tracked p) ((k:Int) + 1):=by
   unfold nxt
   rw [mv_pos rfl hk]
   unfold PM.comp
   rw [List.map_map]
   refine List.map_congr_left fun z hz=>?_
   have:=hr z hz
   exact PM.at_comp this.1 (by rw [hp.1];omega)
  rw [e3,<- e,<- Zah (z:=[]) hj,<- e2,Zah hi]
  exact List.getElem_mem hi
theorem Zgx {x:Puzzle} {t:Table} (h:validT x t = true) {s:List Int} (hs:reachB x s = true):∃ i:Nat,i < t.patterns.length/\i < t.distances.length/\idxL t.patterns (PM.comp t.tracked s) = i/\t.patterns.getD i [] = PM.comp t.tracked s/\lookT t s = t.distances.getD i 0:=by
 have hb:=Zbw h
 obtain ⟨i,hi,e⟩:=List.getElem_of_mem (hb.reach hs)
 have hx:=hb.idx hi
 have hdl:=hb.bi.dl
 simp only at hdl
 rw [Zah hi,e] at hx
 refine ⟨i,hi,by omega,hx,by rw [Zah hi,e],?_⟩
 unfold lookT
 rw [hx,Int.toNat_natCast]
theorem Znt {x:Puzzle} {t:Table} (h:validT x t = true) {s:List Int} (hs:reachB x s = true):0<=lookT t s/\lookT t s<=3000:=by
 obtain ⟨i,hi,-,-,-,e⟩:=Zgx h hs
 have hb:=Zbw h
 have:=hb.dep i hi
 have:=hb.ll
 rw [e];omega
def Good (x:Puzzle) (t:Table):Prop:=∀ i,i < t.patterns.length->entF x t i = []
theorem one_nil {b:Bool} {f:Fault}:one b f = [] ↔ b = false:=by unfold one;cases b <;> simp
theorem Zsc {x:Puzzle} {t:Table} {p:List Int} {d:Int} (h:descL x t p d ≠ 0):descL x t p d∈ltrs x.moves.length/\leads x t p d (descL x t p d) = true:=by
 unfold descL at h ⊢
 cases hf:(ltrs x.moves.length).find? (leads x t p d) with
 | none=>rw [hf] at h;exact absurd rfl h
 | some l=>exact ⟨List.mem_of_find?_eq_some hf,List.find?_some hf⟩
theorem Zul {x:Puzzle} {t:Table} {p:List Int} {d:Int} {l:Int} (hl:l∈ltrs x.moves.length) (h:leads x t p d l = true):descL x t p d ≠ 0:=by
 unfold descL
 cases hf:(ltrs x.moves.length).find? (leads x t p d) with
 | none=>have:=List.find?_eq_none.1 hf l hl;rw [h] at this;exact absurd rfl this
 | some l'=>exact (Zbv.1 (List.mem_of_find?_eq_some hf)).1
theorem Zhs {x:Puzzle} {t:Table} {p:List Int} {d l:Int}:leads x t p d l = true ↔ 0<=nextI x t p l/\atD t (nextI x t p l) = d:=by
 unfold leads atD
 rw [Bool.and_eq_true,decide_eq_true_iff,decide_eq_true_iff]
section
variable {x:Puzzle} {t t':Table}
theorem ent_nil {i:Nat}:entF x t i = [] ↔ (i = 0->atD t 0 = 0/\atP t 0 = t.tracked)/\(i:Int)<=idxL t.patterns (atP t i)/\(0 < i->atD t i ≠ 0) /\
  (∀ l∈ltrs x.moves.length,0<=nextI x t (atP t i) l/\-1<=atD t (nextI x t (atP t i) l) - atD t i/\atD t (nextI x t (atP t i) l) - atD t i<=1)/\(0 < atD t i->descL x t (atP t i) (atD t i - 1) ≠ 0):=by
 unfold entF
 rw [List.append_eq_nil_iff,List.append_eq_nil_iff,List.append_eq_nil_iff,List.append_eq_nil_iff,one_nil,one_nil,one_nil,one_nil,List.flatMap_eq_nil_iff]
 have hl:∀ l,letF x t i l = [] ↔ 0<=nextI x t (atP t i) l/\-1<=atD t (nextI x t (atP t i) l) - atD t i/\atD t (nextI x t (atP t i) l) - atD t i<=1:=fun l=>by
  unfold letF
  split
  ·rename_i h;simp;omega
  ·rename_i h
   split
   ·rename_i h2;rw [inR_iff] at h2;simp;omega
   ·rename_i h2;rw [inR_iff] at h2;simp;omega
 constructor
 ·rintro ⟨a,b,c,d,e⟩
  refine ⟨fun h0=>?_,?_,fun h0=>?_,fun l h=>(hl l).1 (d l h),fun h0 h1=>?_⟩
  ·subst h0
   simp only [decide_true,Bool.true_and,Bool.or_eq_false_iff,decide_eq_false_iff_not] at a
   exact ⟨Decidable.of_not_not a.1,Decidable.of_not_not a.2⟩
  ·have:=of_decide_eq_false b;omega
  ·intro h1;simp [h0,h1] at c
  ·simp [h0,h1] at e
 ·rintro ⟨a,b,c,d,e⟩
  refine ⟨?_,decide_eq_false (by omega),?_,fun l h=>(hl l).2 (d l h),?_⟩
  ·by_cases h0:i = 0
   ·subst h0;obtain ⟨a1,a2⟩:=a rfl
    simp [a1,a2]
   ·simp [h0]
  ·by_cases h0:0 < i
   ·simp [h0,c h0]
   ·simp [h0]
  ·by_cases h0:0 < atD t i
   ·simp [e h0]
   ·simp [h0]
theorem atD_nat (i:Nat):atD t i = t.distances.getD i 0:=by unfold atD;rw [Int.toNat_natCast]
theorem Built.good (h:Built x t):Good x t:=by
 intro i hi
 have hstep:∀ l∈ltrs x.moves.length,∃ i':Nat,i' < t.patterns.length/\t.patterns.getD i' [] = nxt x (atP t i) l/\nextI x t (atP t i) l = i'/\atD t i'<=atD t i + 1/\atD t i<=atD t i' + 1:=fun l hl=>by
  obtain ⟨i',a1,a2,a3,a4⟩:=h.step hi hl
  refine ⟨i',a1,a2,?_,by rw [atD_nat,atD_nat];exact a3,by rw [atD_nat,atD_nat];exact a4⟩
  show idxL t.patterns (nxt x (t.patterns.getD i []) l) = i'
  rw [<- a2];exact h.idx a1
 refine ent_nil.2 ⟨fun h0=>?_,?_,fun h0=>?_,fun l hl=>?_,fun h0=>?_⟩
 ·have a:=h.bi.d0;have b:=h.bi.p0
  simp only at a b
  exact ⟨a,b⟩
 ·rw [show atP t i = t.patterns.getD i [] from rfl,h.idx hi];exact Int.le_refl _
 ·have:=(h.dep i hi).2.2 h0
  rw [atD_nat];omega
 ·obtain ⟨i',a1,a2,a3,a4,a5⟩:=hstep l hl
  rw [a3];omega
 ·have hi0:0 < i:=by
   rcases Nat.eq_zero_or_pos i with h1 | h1
   ·subst h1
    have:=h.bi.d0
    simp only at this
    rw [atD_nat,this] at h0;omega
   ·exact h1
  obtain ⟨j,l,a1,a2,a3,a4⟩:=h.bi.par i hi0 hi
  simp only at a3 a4
  have hj:j < t.patterns.length:=by omega
  have hjm:t.patterns.getD j []∈t.patterns:=by rw [Zah hj];exact List.getElem_mem hj
  have hb:nxt x (atP t i) (-l) = t.patterns.getD j []:=by
   rw [show atP t i = t.patterns.getD i [] from rfl,<- a3]
   exact Zpx h.v (h.bi.pat _ hjm) a2
  refine Zul (Zhm a2) (Zhs.2 ?_)
  have hn:nextI x t (atP t i) (-l) = j:=by
   show idxL t.patterns (nxt x (atP t i) (-l)) = j
   rw [hb];exact h.idx hj
  rw [hn,atD_nat,atD_nat]
  omega
end
section
variable {x:Puzzle} {t:Table}
theorem Ztg {l:List (List Int)} {p:List Int} (h:0<=idxL l p):l.getD (idxL l p).toNat [] = p:=by
 rcases Zeo (fun q=>decide (q = p)) l with h1 | ⟨k,hk,h1,h2⟩
 ·unfold idxL at h;omega
 ·unfold idxL
  rw [h1,Int.toNat_natCast,Zah hk]
  exact of_decide_eq_true h2
end
noncomputable def grpL (n:Nat) (gens:List (List Int)):List (List Int):=Classical.choose (PM.Zed (PM.allL (PM.pts n) n) (PM.Grp n gens))
theorem Zlv (n:Nat) (gens:List (List Int)):(grpL n gens).Nodup:=(Classical.choose_spec (PM.Zed (PM.allL (PM.pts n) n) (PM.Grp n gens))).1
theorem Zen {n:Nat} {gens:List (List Int)} (hp:∀ g∈gens,PM.PN n g) {p:List Int}:p∈grpL n gens ↔ PM.Grp n gens p:=by
 have h:=(Classical.choose_spec (PM.Zed (PM.allL (PM.pts n) n) (PM.Grp n gens))).2 p
 show p∈Classical.choose _ ↔ _
 rw [h]
 refine ⟨fun h=>h.2,fun hg=>⟨?_,hg⟩⟩
 have hpn:=PM.Grp.pn hp hg
 have:=PM.Zqd (A:=PM.pts n) p fun x hx=>PM.mem_pts.2 (by have:=hpn.2.1 x hx;rw [hpn.1] at this;exact this)
 rwa [hpn.1] at this
noncomputable def cardG (x:Puzzle):Nat:=(grpL x.points.toNat x.moves).length
theorem Zld {n:Nat} {gens:List (List Int)} {G:PM.Gens} {T:PM.Rows} (h:PM.Chain n gens G T) (hn:0 < n) (hp:∀ g∈gens,PM.PN n g):PM.ordM T n n = (grpL n gens).length:=
 Nat.le_antisymm (h.order_ge hn hp fun _ hg=>(Zen hp).2 hg) (h.order_le hn hp (Zlv _ _) fun _ hx=>(Zen hp).1 hx)
theorem Ztu {x:Puzzle} (hv:validPz x = true):1<=cardG x:=List.length_pos_of_mem ((Zen (Zas hv)).2 .id)
theorem pts_inc (n:Nat):Inc (n:Int) (PM.pts n):=by
 refine ⟨fun z hz=>PM.mem_pts.1 hz,?_⟩
 unfold PM.pts
 rw [List.pairwise_map]
 exact List.Pairwise.imp (fun h=>by omega) (List.pairwise_lt_range (n:=n))
theorem Zfd {x:Puzzle} (hv:validPz x = true):trackB x.points (PM.pts x.points.toNat) = true:=by
 have:=Zae hv
 rw [Zbi]
 refine ⟨by rw [PM.pts_len];omega,?_⟩
 have h:=pts_inc x.points.toNat
 rwa [show ((x.points.toNat:Nat):Int) = x.points by omega] at h
def expl (x:Puzzle):Option Table:=bTab x (PM.pts x.points.toNat)
theorem grp_nxt {x:Puzzle} (hv:validPz x = true) {s:List Int} (hs:PM.Grp x.points.toNat x.moves s) {l:Int} (hl:l∈ltrs x.moves.length):PM.Grp x.points.toNat x.moves (nxt x s l):=by
 have h3:=Zas hv
 refine PM.Grp.comp h3 hs ?_
 rcases Zci hl with ⟨k,hk,rfl⟩ | ⟨k,hk,rfl⟩
 ·rw [mv_pos rfl hk];exact PM.Grp.gen h3 (List.getElem_mem hk)
 ·rw [mv_neg (k:=k) rfl hk];exact PM.Grp.gen_inv h3 (List.getElem_mem hk)
theorem BI.grp {x:Puzzle} {k:Nat} {done:List Int} {s:Met16} (hv:validPz x = true) (h:BI x (PM.pts x.points.toNat) k done s):∀ i,i < s.1.length->PM.Grp x.points.toNat x.moves (s.1.getD i []):=by
 intro i
 induction i using Nat.strongRecOn with
 | ind i ih=>
  intro hi
  by_cases h0:i = 0
  ·subst h0;rw [h.p0];exact .id
  ·obtain ⟨j,l,a1,a2,a3,-⟩:=h.par i (by omega) hi
   rw [<- a3]
   exact grp_nxt hv (ih j a1 (Nat.lt_trans a1 hi)) a2
theorem BI.full {x:Puzzle} {k:Nat} {done:List Int} {s:Met16} (hv:validPz x = true) (hc:cardG x<=3000) (h:BI x (PM.pts x.points.toNat) k done s) (hk:k < s.1.length) {l:Int} (hl:l∈ltrs x.moves.length) (hn:nxt x (s.1.getD k []) l ∉ s.1):s.1.length ≠ 3000:=by
 intro h3
 have hg:=h.grp hv
 have hall:∀ p∈s.1 ++ [nxt x (s.1.getD k []) l],PM.Grp x.points.toNat x.moves p:=fun p hp=>by
  rcases List.mem_append.1 hp with hp | hp
  ·obtain ⟨i,hi,rfl⟩:=List.getElem_of_mem hp
   have:=hg i hi
   rwa [Zah hi] at this
  ·simp at hp;subst hp
   exact grp_nxt hv (hg k hk) hl
 have hnd:(s.1 ++ [nxt x (s.1.getD k []) l]).Nodup:=by
  rw [List.nodup_append]
  exact ⟨h.nd,by simp,fun a ha b hb e=>hn (by rw [<- List.mem_singleton.1 hb,<- e];exact ha)⟩
 have:=PM.Zau hnd fun p hp=>(Zen (Zas hv)).2 (hall p hp)
 unfold cardG at hc
 simp only [List.length_append,List.length_singleton] at this
 omega
theorem BI.lets_some2 {x:Puzzle} {k:Nat} (hv:validPz x = true) (hc:cardG x<=3000):∀ {ls done:List Int} {s:Met16},BI x (PM.pts x.points.toNat) k done s->k < s.1.length->(∀ l∈ls,l∈ltrs x.moves.length)->(bLets x (s.1.getD k []) (s.2.getD k 0 + 1) ls s).isSome = true
 | [],done,s,h,hk,_=>rfl
 | l :: ls,done,s,h,hk,hl=>by
  unfold bLets
  have h1:∃ s1,bMeet s (s.2.getD k 0 + 1) (nxt x (s.1.getD k []) l) = some s1:=by
   unfold bMeet
   split
   ·exact ⟨_,rfl⟩
   ·rename_i hn
    rw [if_neg (h.full hv hc hk (hl l (by simp)) hn)]
    exact ⟨_,rfl⟩
  obtain ⟨s1,e1⟩:=h1
  obtain ⟨b1,b2,b3,b4⟩:=h.meet hv hk (hl l (by simp)) e1
  have:=BI.lets_some2 (ls:=ls) hv hc b1 b4 (fun l hl2=>hl l (by simp [hl2]))
  rw [b2,b3] at this
  rw [e1];exact this
theorem BI.from_some2 {x:Puzzle} (hv:validPz x = true) (hc:cardG x<=3000):∀ {n k:Nat} {s:Met16},BI x (PM.pts x.points.toNat) k [] s->(bFrom x n k s).isSome = true
 | 0,k,s,h=>rfl
 | n + 1,k,s,h=>by
  unfold bFrom
  split
  ·rename_i hk
   obtain ⟨s1,e1⟩:=Option.isSome_iff_exists.1 (BI.lets_some2 hv hc h hk (fun l hl=>hl))
   obtain ⟨done',c1,c2,c3,-⟩:=h.lets hv hk (fun l hl=>hl) e1
   rw [e1]
   exact BI.from_some2 hv hc (c1.next c2 c3)
  ·rfl
theorem Ztp {x:Puzzle} (hv:validPz x = true) (hc:cardG x<=3000):∃ t,expl x = some t:=by
 have h:=BI.from_some2 (n:=3001) hv hc (BI.start (Zea (Zfd hv)))
 obtain ⟨s,hs⟩:=Option.isSome_iff_exists.1 h
 refine ⟨⟨PM.pts x.points.toNat,s.1,s.2⟩,?_⟩
 unfold expl bTab
 rw [Zdg (by rw [hv,Zfd hv];rfl),hs];rfl
theorem Zog {x:Puzzle} (h:validPz x = false):expl x = none:=by
 unfold expl bTab
 rw [Zhj (by rw [h];rfl)];rfl
section
variable {x:Puzzle} {t:Table}
theorem Zaj (h:expl x = some t):Built x t/\t.tracked = PM.pts x.points.toNat:=Zlp h
theorem Zhu (h:expl x = some t) {q:List Int}:q∈t.patterns ↔ PM.Grp x.points.toNat x.moves q:=by
 obtain ⟨hb,ht⟩:=Zaj h
 have hi:=hb.bi
 rw [ht] at hi
 constructor
 ·intro hq
  obtain ⟨i,hil,rfl⟩:=List.getElem_of_mem hq
  have:=hi.grp hb.v i hil
  rwa [Zah hil] at this
 ·intro hg
  have hpn:=PM.Grp.pn (Zas hb.v) hg
  have hf:=Zae hb.v
  have hr:reachB x q = true:=by
   unfold reachB stateB memB
   rw [Bool.and_eq_true,Bool.and_eq_true]
   exact ⟨⟨hb.v,(Zdq hf.1 hf.2.1).2 hpn⟩,@decide_eq_true _ (Classical.propDecidable _) hg⟩
  have:=hb.reach hr
  rwa [ht,PM.id_comp hpn] at this
theorem Zve (h:expl x = some t):t.patterns.length = cardG x:=by
 obtain ⟨hb,-⟩:=Zaj h
 have hnd:t.patterns.Nodup:=hb.bi.nd
 exact Nat.le_antisymm (PM.Zau hnd fun q hq=>(Zen (Zas hb.v)).2 ((Zhu h).1 hq)) (PM.Zau (Zlv _ _) fun q hq=>(Zhu h).2 ((Zen (Zas hb.v)).1 hq))
theorem Zrk (hv:validPz x = true):(∃ t,expl x = some t) ↔ cardG x<=3000:=
 ⟨fun ⟨_,ht⟩=>by rw [<- Zve ht];exact (Zaj ht).1.ll,Ztp hv⟩
theorem Zfr (h:expl x = some t) {q:List Int}:q∈t.patterns ↔ reachB x q = true:=by
 obtain ⟨hb,-⟩:=Zaj h
 have hf:=Zae hb.v
 rw [Zhu h]
 unfold reachB stateB memB
 rw [Bool.and_eq_true,Bool.and_eq_true]
 constructor
 ·intro hg
  exact ⟨⟨hb.v,(Zdq hf.1 hf.2.1).2 (PM.Grp.pn (Zas hb.v) hg)⟩,@decide_eq_true _ (Classical.propDecidable _) hg⟩
 ·rintro ⟨-,hg⟩
  exact @of_decide_eq_true _ (Classical.propDecidable _) hg
end
noncomputable def distX (x:Puzzle) (s:List Int):Int:=match expl x with
 | some t=>if reachB x s = true then atD t (idxL t.patterns s) else -1
 | none=>-1
theorem Zfq {x:Puzzle} {s:List Int} (h:expl x = none):distX x s = -1:=by unfold distX;rw [h]
theorem Zhp {x:Puzzle} {s:List Int} (h:reachB x s = false):distX x s = -1:=by
 unfold distX
 rw [h]
 cases expl x <;> rfl
theorem Zds {x:Puzzle} {t:Table} {s:List Int} (h:expl x = some t) (hs:reachB x s = true):∃ i:Nat,i < t.patterns.length/\t.patterns.getD i [] = s/\idxL t.patterns s = i/\distX x s = t.distances.getD i 0/\0<=t.distances.getD i 0/\t.distances.getD i 0<=3000:=by
 obtain ⟨hb,-⟩:=Zaj h
 obtain ⟨i,hi,e⟩:=List.getElem_of_mem ((Zfr h).2 hs)
 have e2:t.patterns.getD i [] = s:=by rw [Zah hi,e]
 have hx:=hb.idx hi
 rw [e2] at hx
 have hd:=hb.dep i hi
 have:=hb.ll
 refine ⟨i,hi,e2,hx,?_,hd.1,by omega⟩
 unfold distX
 rw [h]
 show (if reachB x s = true then atD t (idxL t.patterns s) else -1) = _
 rw [if_pos hs,hx]
 unfold atD
 rw [Int.toNat_natCast]
theorem Zeq (x:Puzzle) (s:List Int):distX x s = -1\/(0<=distX x s/\distX x s<=3000/\reachB x s = true/\∃ t,expl x = some t):=by
 rcases he:expl x with _ | t
 ·exact .inl (Zfq he)
 ·rcases hr:reachB x s
  ·exact .inl (Zhp hr)
  ·obtain ⟨i,-,-,-,h1,h2,h3⟩:=Zds he hr
   exact .inr ⟨by omega,by omega,rfl,t,rfl⟩
theorem Zqx {T:PM.Rows} {n i:Nat} (hi:i < n):PM.ordM T n (n - i) = PM.cntR n T i * PM.ordM T n (n - (i + 1)):=by
 have h1:n - i = (n - (i + 1)) + 1:=by omega
 have h2:n - (n - (i + 1) + 1) = i:=by omega
 rw [h1];simp only [PM.ordM,h2]
theorem ord_end {T:PM.Rows} {n i:Nat} (hi:n<=i):PM.ordM T n (n - i) = 1:=by
 rw [show n - i = 0 by omega];rfl
theorem orb_cnt (n:Nat) (T:PM.Rows) (k:Nat):(orb n T k).length = PM.cntR n T k:=rfl
set_option maxHeartbeats 2000000 in
theorem Zph {e:TypeId} {B:Nat} {L:Lay} {gv:Nat->Value} {n:Nat} {G:PM.Gens} {T:PM.Rows} {M F:List Nat} (w:World) (hC:Ch e B w L gv n G T M F) (hw:PM.WF n T) (hT:L.oT = 2) (k:Nat) (hk:k<=n) :
  Calls Tryz.prog 162 #[.pointer (some ⟨L.g,0,none⟩),.int .i64 k] w fun e w'=>e = .returned (.int .i64 (PM.ordM T n (n - k):Nat))/\Only [] w w':=by
 have hn20:=hC.le
 have hct:=hC.ct
 rw [hT] at hct
 have hcn:=hC.cn
 have HC:=zH hC
 have Hw:=zH hw
 clear hC hw
 go_enter Tryz.func162,Tryz.ntmps162
 go_wp2
 go_loopw [5,6] (fun o i wr=>∃ (j m:Nat),k<=j/\j<=n/\i = .int .i64 j/\o = .int .i64 (m:Nat)/\1<=m/\m * PM.ordM T n (n - j) = PM.ordM T n (n - k)/\Only [] w wr)
  (fun _ i _=>n - (intOf i).toNat)
 case atStart=>exact ⟨k,1,Nat.le_refl _,hk,rfl,rfl,Nat.le_refl _,Nat.one_mul _,Only.refl _ _⟩
 case round=>
  obtain ⟨W2,hnew⟩:∃ W,W = wr:=⟨_,rfl⟩
  subst hnew
  obtain ⟨j,m,hkj,hj,rfl,rfl,hm1,hm,hK⟩:=hrel
  have Hm:=zH hm
  clear hm
  have y0:=hK.cell (by simp) hcn
  have y1:=hK.cell (by simp) hct
  by_cases hlt:j < n
  ·have hC2:=HC.out.keep hK
   have y2:=hC2.row j hlt
   have hstep:=Zqx (T:=T) hlt
   have hoc:=orb_cnt n T j
   have hcp:=PM.Zkd Hw.out hlt
   have hor:=PM.Zgc Hw.out (n - (j + 1)) (by omega)
   have hmul:(m * PM.cntR n T j) * PM.ordM T n (n - (j + 1)) = PM.ordM T n (n - k):=by rw [Nat.mul_assoc,<- hstep];exact Hm.out
   have hle:m * PM.cntR n T j<=2432902008176640000:=by
    have h1:=PM.ordM_le Hw.out hn20 (m:=n - k) (by omega)
    have h2:m * PM.cntR n T j<=(m * PM.cntR n T j) * PM.ordM T n (n - (j + 1)):=Nat.le_mul_of_pos_right _ hor.1
    omega
   have hpos:1<=m * PM.cntR n T j:=Nat.mul_le_mul hm1 hcp
   obtain ⟨cn,hcnn⟩:∃ cn,cn = PM.cntR n T j:=⟨_,rfl⟩
   rw [<- hcnn] at hmul hle hoc hpos
   have Hmul:=zH hmul
   have Hoc:=zH hoc
   have hwr:IntKind.i64.wrap ((m:Int) * (cn:Int)) = ((m * cn:Nat):Int):=by rw [IntKind.wrap_i64];push_cast;omega
   clear hstep hor hmul hoc hcnn hcp
   go_wp2_with (first
    | (go_at_call 131;(with_reducible refine (Zha _ (hC2.keep zA) j hlt).mono ?_);rintro e w3 ⟨v3,f3,rfl,A3,F3,t3⟩;have r3:=A3.rd (by decide))
    | (go_at_call 20;(with_reducible refine (Zbf v3 (orb n T j) _ _ (zK r3 zA)).mono ?_);rintro e w4 ⟨he,rfl⟩;rw [Hoc.out] at he;subst he)
    | fail)
   go_roundw
   case rel=>exact ⟨j + 1,m * cn,by omega,by omega,by go_num,rfl,hpos,Hmul.out,zA⟩
   case measure=>simp [intOf];omega
  ·have he:j = n:=by omega
   have hend:=ord_end (T:=T) (n:=n) (i:=j) (by omega)
   have hfin:m = PM.ordM T n (n - k):=by have:=Hm.out;rw [hend,Nat.mul_one] at this;exact this
   have Hfin:=zH hfin
   clear he hend hfin
   go_wp2
   go_ret
   exact ⟨ret_int (by rw [Hfin.out]),hK⟩
theorem implOrder0 {e:TypeId} {B:Nat} {L:Lay} {gv:Nat->Value} {n:Nat} {G:PM.Gens} {T:PM.Rows} {M F:List Nat} {w:World} (hC:Ch e B w L gv n G T M F) (hw:PM.WF n T) (hT:L.oT = 2) :
  Calls Tryz.prog 162 #[.pointer (some ⟨L.g,0,none⟩),.int .i64 0] w fun e w'=>e = .returned (.int .i64 (PM.ordM T n n:Nat))/\Only [] w w':=
 Zph w hC hw hT 0 (Nat.zero_le _)
set_option maxHeartbeats 1000000 in
theorem Zfb (cs:List Value) (x:Puzzle) (fp:List Nat) (w:World) (h:Rp.rep w cs x fp) :
  Calls Tryz.prog 140 #[.agg cs.toArray] w fun e w'=>e = .returned (.int .i64 (if validPz x = true then (cardG x:Int) else 0))/\Only [] w w':=by
 have h0:=h
 obtain ⟨v2,rfl,p0,p1,h2⟩:=h
 obtain ⟨A2,C2,ob,fps,rfl,-,-⟩:=h2.open_
 rcases hq:validPz x
 ·go_enter Tryz.func140,Tryz.ntmps140
  go_wp2_with (first
   | (go_at_call 44;(with_reducible refine (Zao [.int .i64 x.points,.string x.names,.slice A2 x.moves.length C2] x _ _ (zK h0 zA)).mono ?_);rintro e w1 ⟨he,t1⟩;rw [hq] at he;subst he) | fail)
  go_ret
  exact ⟨rfl,zA⟩
 ·obtain ⟨n1,n20,hml,-⟩:=Zae hq
  have hmp:=Zas hq
  have Hmp:=zH hmp
  clear hmp
  have X0:=Blk.new w [.int .i64 x.points,.string x.names,.slice A2 x.moves.length C2] 26
  simp only [List.toArray] at X0
  go_enter Tryz.func140,Tryz.ntmps140
  go_wp2_with (first
   | (go_at_call 44;(with_reducible refine (Zao [.int .i64 x.points,.string x.names,.slice A2 x.moves.length C2] x _ _ (zK h0 zA)).mono ?_);rintro e w1 ⟨he,t1⟩;rw [hq] at he;subst he;have X1:=X0.keep t1;obtain ⟨y0,y1,y2⟩:=X1.c3)
   | (go_at_call 51;(with_reducible refine (Zhh x.points n1 n20 _ x.moves _ _ (zK h2 zA) Hmp.out (by omega)).mono ?_);rintro en w3 ⟨L,gv,G,T,M,F,rfl,hoG,hoT,hC,hCh,t3⟩;have HC:=zH hC;have HCh:=zH hCh;have HoT:=zH hoT;clear hC hCh hoT hoG)
   | (go_at_call 162;(with_reducible refine (implOrder0 HC.out HCh.out.inv.wf HoT.out).mono ?_);rintro en w4 ⟨he,t4⟩;rw [Zld HCh.out (by omega) Hmp.out] at he;subst he) | fail)
  go_ret
  exact ⟨rfl,zA⟩
def orbL (n:Nat) (T:PM.Rows) (j:Nat):List Int:=(List.range j).map fun k=>(PM.cntR n T k:Int)
theorem Ztx (n:Nat) (T:PM.Rows) (j:Nat):orbL n T (j + 1) = orbL n T j ++ [(PM.cntR n T j:Int)]:=by
 unfold orbL;rw [List.range_succ,List.map_append];rfl
theorem Zqt (n:Nat) (T:PM.Rows) (j:Nat):(orbL n T j).length = j:=by unfold orbL;simp
theorem Zus {n:Nat} {T:PM.Rows} {j k:Nat} (h:k < (orbL n T j).length):(orbL n T j)[k] = (PM.cntR n T k:Int):=by simp only [orbL,List.getElem_map,List.getElem_range]
theorem orbTo_n (n:Nat) (T:PM.Rows) (k:Nat):(orbTo n T k).length = PM.cntR n T k:=rfl
theorem Zij (b:Bool) (w:World) :
  Calls Tryz.prog 137 #[.bool b] w fun e w'=>e = .returned (.int .i64 (if b then 1 else 0))/\w' = w:=by
 cases b
 ·go_enter Tryz.func137,Tryz.ntmps137
  go_wp2
  go_ret
  exact ⟨rfl,rfl⟩
 ·go_enter Tryz.func137,Tryz.ntmps137
  go_wp2
  go_ret
  exact ⟨rfl,rfl⟩
set_option maxHeartbeats 4000000 in
theorem Zmw {e:TypeId} {B:Nat} {L:Lay} {gv:Nat->Value} {n:Nat} {G:PM.Gens} {T:PM.Rows} {M F:List Nat} (w:World) (hC:Ch e B w L gv n G T M F) (hT:L.oT = 1) :
  Calls Tryz.prog 102 #[.pointer (some ⟨L.g,0,none⟩)] w fun e w'=>∃ v,e = .returned v/\AccI w.heap.size 2 w' v (orbL n T n)/\Only [] w w':=by
 obtain ⟨i0,hii,hz0,hz1,hz2⟩:=info_parts Tryz.info2
 have hn20:=hC.le
 have cn:=hC.cn
 have ct:=hC.ct
 rw [hT] at ct
 have HC:=zH hC
 clear hC
 go_enter Tryz.func102,Tryz.ntmps102
 go_wp2
 go_loopw [3,4] (fun o y wr=>∃ (i:Nat) (l:List Int),i<=n/\y = .int .i64 i/\Hid (l = orbL n T i)/\AccI w.heap.size 2 wr o l/\Only [] w wr)
  (fun _ y _=>n - (intOf y).toNat)
 case atStart=>exact ⟨0,[],Nat.zero_le _,rfl,zH rfl,AccI.made w _ _ rfl (Nat.le_refl _),zO.alloc _⟩
 case round=>
  obtain ⟨W2,hnew⟩:∃ W,W = wr:=⟨_,rfl⟩
  subst hnew
  obtain ⟨i,l,hi,rfl,hl,hA,hO⟩:=hrel
  have y0:=hO.cell (by simp) cn
  have hll:l.length<=1000:=by rw [hl.out,Zqt];omega
  have hsz:=hO.size
  by_cases hlt:i < n
  ·have yt:=hO.cell (by simp) ct
   have yr:=hO.cell (by simp) (HC.out.row i hlt)
   have hltI:(i:Int) < (n:Int):=by omega
   have hC2:=zH (HC.out.keep hO)
   go_wp2_with fail
   go_loopw [5,6] (fun s y wr=>∃ (j:Nat),j<=n/\y = .int .i64 j/\s = .int .i64 ((orbTo j T i).length:Nat)/\wr = W2)
    (fun _ y _=>n - (intOf y).toNat)
   case atStart=>exact ⟨0,Nat.zero_le _,rfl,rfl,rfl⟩
   case round=>
    obtain ⟨j,hj,rfl,rfl,hww⟩:=hrel
    subst hww
    have hol:=Zfh j T i
    by_cases hjl:j < n
    ·have hsu:=Zhk j T i
     have hltJ:(j:Int) < (n:Int):=by omega
     by_cases ht:PM.tr T i (j:Int) = []
     ·have c4:=hC2.out.at_nil hlt (y:=(j:Int)) (by omega) (by omega) ht
      simp only [Int.toNat_natCast] at c4
      rw [if_pos ht] at hsu
      have Hsu:=zH hsu
      obtain ⟨s,hs⟩:∃ s,s = (orbTo j T i).length:=⟨_,rfl⟩
      rw [<- hs] at hol ⊢
      have Hs:=zH hs
      clear ht hsu hs
      go_wp2_with (first
       | (go_at_call 137;(with_reducible refine (Zij false _).mono ?_);rintro en w5 ⟨rfl,h5⟩;rw [h5];clear h5)
       | fail)
      go_roundw
      case rel=>exact ⟨j + 1,by omega,by go_num,by rw [Hsu.out,<- Hs.out],trivial⟩
      case measure=>simp [intOf];omega
     ·obtain ⟨b4,off4,cap4,f4,c4,-,-⟩:=hC2.out.at_some hlt (y:=(j:Int)) (by omega) (by omega) ht
      simp only [Int.toNat_natCast] at c4
      have hpos:(0:Int) < ((PM.tr T i (j:Int)).length:Int):=by have:=List.length_pos_iff.2 ht;omega
      have hposN:0 < (PM.tr T i (j:Int)).length:=List.length_pos_iff.2 ht
      rw [if_neg ht] at hsu
      have hsl:(orbTo (j + 1) T i).length = (orbTo j T i).length + 1:=by rw [hsu];simp
      have Hsl:=zH hsl
      obtain ⟨s,hs⟩:∃ s,s = (orbTo j T i).length:=⟨_,rfl⟩
      rw [<- hs] at hol ⊢
      have Hs:=zH hs
      clear ht hsu hs hsl
      go_wp2_with (first
       | (go_at_call 137;(with_reducible refine (Zij true _).mono ?_);rintro en w5 ⟨rfl,h5⟩;rw [h5];clear h5)
       | fail)
      go_roundw
      case rel=>exact ⟨j + 1,by omega,by go_num,by rw [Hsl.out,<- Hs.out];go_num,trivial⟩
      case measure=>simp [intOf];omega
    ·obtain rfl:j = n:=by omega
     have hge:¬ ((j:Int) < (j:Int)):=by omega
     have hcs:(orbTo j T i).length = PM.cntR j T i:=orbTo_n j T i
     have hcl:=PM.cntR_le j T i
     have HI:=zH (show I64 ((PM.cntR j T i:Nat):Int) by unfold I64;omega)
     rw [hcs]
     clear hcs hol
     go_wp2_with (first
      | (at_builtin;refine Zbj rfl _ _ 27 rfl w.heap.size 2 i0 _ Tryz.underlying27 hii hz0 hz1 hz2 rfl wr u3 l rfl hA (zO.alloc _) hsz wr.heap.size 1 ((PM.cntR j T i:Nat):Int) rfl (lit1 wr _ _ rfl) HI.out (by omega) ?_;intro v3 w3 hA3 hO3 hP3 hN3)
      | fail)
     go_roundw
     case rel=>exact ⟨i + 1,_,by omega,by go_num,zH (by rw [Ztx,<- hl.out]),hA3,hP3 w (hO.alloc _) (Nat.le_refl _)⟩
     case measure=>simp [intOf];omega
  ·obtain rfl:i = n:=by omega
   have hge:¬ ((i:Int) < (i:Int)):=by omega
   have hfl:l = orbL i T i:=hl.out
   have Hfl:=zH hfl
   clear hfl hl
   go_wp2
   go_ret
   exact ⟨u3,rfl,by rw [<- Hfl.out];exact hA,hO⟩
noncomputable def ordC (n:Nat) (gens:List (List Int)) (j:Nat):Nat:=PM.ordM (PM.chainR n gens) n j
section
variable {n:Nat} {gens:List (List Int)} {G:PM.Gens} {T:PM.Rows} (h:PM.Chain n gens G T) (hn:0 < n) (hp:∀ g∈gens,PM.PN n g)
include h hn hp
theorem ordC_eq {j:Nat} (hj:j<=n):PM.ordM T n j = ordC n gens j:=by
 obtain ⟨G',h'⟩:=h.chainR
 exact h.ordM_congr hn hp h' j hj
theorem Zuy {j:Nat} (hj:j<=n):1<=ordC n gens j:=by
 rw [<- ordC_eq h hn hp hj]
 exact (PM.Zgc h.inv.wf j hj).1
theorem ordC_le (hn20:n<=20) {j:Nat} (hj:j<=n):ordC n gens j<=2432902008176640000:=by
 rw [<- ordC_eq h hn hp hj]
 exact PM.ordM_le h.inv.wf hn20 hj
end
theorem AccI.low2 {B B':Nat} {e:TypeId} {w:World} {v:Value} {l:List Int} (h:AccI B e w v l) (hB:B'<=B):AccI B' e w v l:=by
 obtain ⟨h1,h2⟩:=h.row
 refine AccI.ofRow ⟨h1.1,?_⟩ h2
 rcases h1.2 with h3 | ⟨g,cap,cur,h3,h4,h5⟩
 ·exact .inl h3
 ·exact .inr ⟨g,cap,cur,h3,Nat.le_trans hB h4,h5⟩
set_option maxHeartbeats 2000000 in
theorem Zms {e:TypeId} {B:Nat} {L:Lay} {gv:Nat->Value} {n:Nat} {G:PM.Gens} {T:PM.Rows} {M F:List Nat} (w:World) (hC:Ch e B w L gv n G T M F) (hw:PM.WF n T) (hT:L.oT = 1) :
  Calls Tryz.prog 59 #[.pointer (some ⟨L.g,0,none⟩)] w fun e w'=>e = .returned (.int .i64 (PM.ordM T n n:Nat))/\Only [] w w':=by
 have hn20:=hC.le
 have HcS:=zH (Zmw w hC hT)
 obtain ⟨sz,hsz⟩:∃ sz,sz = orbL n T n:=⟨_,rfl⟩
 rw [<- hsz] at HcS
 have hszl:sz.length = n:=by rw [hsz,Zqt]
 have Hszl:=zH hszl
 have Hsz:=zH hsz
 have Hw:=zH hw
 clear hC hw hsz hszl
 go_enter Tryz.func59,Tryz.ntmps59
 go_wp2_with (first
  | (go_at_call 102;(with_reducible refine (HcS.out).mono ?_);rintro en w1 ⟨v1,rfl,hA,t1⟩;obtain ⟨a1,c1,rfl,I1⟩:=hA.rd.ints)
  | fail)
 go_loopw [3,5] (fun o i wr=>∃ (j m:Nat),j<=n/\i = .int .i64 j/\o = .int .i64 (m:Nat)/\1<=m/\m * PM.ordM T n (n - j) = PM.ordM T n n/\wr = w1)
  (fun _ i _=>n - (intOf i).toNat)
 case atStart=>exact ⟨0,1,Nat.zero_le _,rfl,rfl,Nat.le_refl _,by rw [Nat.one_mul,Nat.sub_zero],rfl⟩
 case round=>
  obtain ⟨j,m,hj,rfl,rfl,hm1,hm,hww⟩:=hrel
  have Hm:=zH hm
  clear hm
  by_cases hlt:j < n
  ·have hjs:j < sz.length:=by rw [Hszl.out];exact hlt
   have hjI:(j:Int) < (sz.length:Int):=by omega
   obtain ⟨b2,o2,rfl,-,c2⟩:=I1.at_ j hjs
   have hg:sz[j] = (PM.cntR n T j:Int):=by have h1:=Hsz.out;subst h1;exact Zus hjs
   rw [hg] at c2
   have hstep:=Zqx (T:=T) hlt
   have hcp:=PM.Zkd Hw.out hlt
   have hor:=PM.Zgc Hw.out (n - (j + 1)) (by omega)
   have hmul:(m * PM.cntR n T j) * PM.ordM T n (n - (j + 1)) = PM.ordM T n n:=by rw [Nat.mul_assoc,<- hstep];exact Hm.out
   have hle:m * PM.cntR n T j<=2432902008176640000:=by
    have h1:=PM.ordM_le Hw.out hn20 (m:=n) (Nat.le_refl _)
    have h2:m * PM.cntR n T j<=(m * PM.cntR n T j) * PM.ordM T n (n - (j + 1)):=Nat.le_mul_of_pos_right _ hor.1
    omega
   have hpos:1<=m * PM.cntR n T j:=Nat.mul_le_mul hm1 hcp
   obtain ⟨cn,hcnn⟩:∃ cn,cn = PM.cntR n T j:=⟨_,rfl⟩
   rw [<- hcnn] at hmul hle hpos c2
   have Hmul:=zH hmul
   have hwr:IntKind.i64.wrap ((m:Int) * (cn:Int)) = ((m * cn:Nat):Int):=by rw [IntKind.wrap_i64];push_cast;omega
   subst hww
   clear hstep hor hmul hcnn hcp hg
   go_wp2
   go_roundw
   case rel=>exact ⟨j + 1,m * cn,by omega,by go_num,rfl,hpos,Hmul.out,trivial⟩
   case measure=>simp [intOf];omega
  ·have he:j = n:=by omega
   have hend:=ord_end (T:=T) (n:=n) (i:=j) (by omega)
   have hfin:m = PM.ordM T n n:=by have:=Hm.out;rw [hend,Nat.mul_one] at this;exact this
   have Hfin:=zH hfin
   have hjI:¬ ((j:Int) < (sz.length:Int)):=by rw [Hszl.out];omega
   subst hww
   clear he hend hfin
   go_wp2
   go_ret
   exact ⟨ret_int (by rw [Hfin.out]),t1⟩
theorem Zhq {w w':World} {B:Nat} {e:TypeId} {size n:Nat} {v:Value} {xs:List Value} (h:w.ownsRow B e size v n xs) (ho:Only [] w w'):w'.ownsRow B e size v n xs:=by
 refine ⟨h.1,?_⟩
 rcases h.2 with ⟨rfl,h0⟩ | ⟨g,cp,cur,rfl,hb,hg,hrest⟩
 ·exact .inl ⟨rfl,h0⟩
 ·exact .inr ⟨g,cp,cur,rfl,hb,by rw [ho.block g (Array.getElem?_eq_some_iff.1 hg).1 (by simp)];exact hg,hrest⟩
section
variable {P:Program} (w:World)
theorem Zbx {ops:Array Oper} {o:Oper} {a:Act} {K:Act->World->Prop} {Q:Exit->Act->World->Prop} {E:Prop} (hgd:o.guard = none) (s x:Operand) (t:TypeId)
  (ho:o.op = .call { callee:=.builtin .append,args:=#[s,x],argTypes:=#[t,t] })
  (base:Nat) (e:TypeId) (i:TypeInfo) (z:Value) (size bytes:Nat) (ht:P.underlying t = some (.slice e)) (hi:P.info? e = some i) (hz:i.zero = some z)
  (hsize:i.size = size) (hby:i.bytes = bytes) (hzs:z.cells.size = size) (hsz:0 < size)
  (v:Value) (n:Nat) (xs:List Value) (hs:a.eval s = v) (hown:w.ownsRow base e size v n xs)
  (A:Option Addr) (m c:Nat) (news:List Value) (hx:a.eval x = .slice A m c) (hl:news.length = m * size) (hsrc:∀ ad,A = some ad->∀ j u,news[j]? = some u->w.cell? (ad.add j) = some u) (hA:A = none->m = 0) (h1:∀ u∈news,u.oneCell' = true)
  (h63:n + m<=maxLen) (hbytes:(n + m) * bytes<=140737488355328) (hbase:base<=w.heap.size)
  (h:∀ v' w',w'.ownsRow base e size v' (n + m) (xs ++ news)->w.grownBy w' v.ownBlock->(v'.ownBlock = v.ownBlock\/v'.ownBlock = some w.heap.size)->K (a.put o.dst v') w'):if Region.wanted o (yielded ops a.tmps) = true then Oper.wp P o a w K Q else E:=by
 have hw:Region.wanted o (yielded ops a.tmps) = true:=by simp [Region.wanted,hgd]
 rw [if_pos hw]
 exact wp_app w s x t ho base e i z size bytes ht hi hz hsize hby hzs hsz v n xs hs hown A m c news hx hl hsrc hA h1 h63 hbytes hbase h
end
set_option maxHeartbeats 4000000 in
theorem Zga (g:Nat) (fc:List Nat) (l:List UInt8) (n:Nat) (w:World) (h:Src w g fc l) (hn:n<=1000) (hl:l.length<=4096) :
  Calls Tryz.prog 114 #[.pointer (some ⟨g,0,none⟩),.int .i64 n] w fun e w'=>∃ v p,e = .returned v/\AccI w.heap.size 2 w' v p/\PM.PN n p/\Src w' g fc l/\Only [g] w w':=by
 obtain ⟨i0,hi,hz0,hz1,hz2⟩:=info_parts Tryz.info2
 go_enter Tryz.func114,Tryz.ntmps114
 go_wp2
 go_loopw [5,6] (fun o i wr=>∃ (j:Nat) (p:List Int) (fp:List Nat),j<=n/\i = .int .i64 j/\(∃ b off c,o = .slice (some ⟨b,off,none⟩) p.length c/\IntsA wr (some ⟨b,off,none⟩) c p fp)/\AccI w.heap.size 2 wr o p/\PM.PN j p/\Fresh w.heap.size wr fp/\Src wr g fc l/\Only [g] w wr)
  (fun _ i _=>n - (intOf i).toNat)
 case atStart=>exact ⟨0,[],[],Nat.zero_le _,rfl,⟨w.heap.size,0,0,rfl,IntsA.nil _ _ (by simp [maxLen])⟩,AccI.made w w.heap.size _ rfl (Nat.le_refl _),⟨rfl,by simp [PM.IsP]⟩,Fresh.nil _ _,h.keep (zO.alloc _),zO.alloc _⟩
 case round=>
  obtain ⟨W2,hnew⟩:∃ W,W = wr:=⟨_,rfl⟩
  subst hnew
  obtain ⟨j,p,fp,hj,rfl,⟨b,off,c,rfl,I⟩,hA,hp,hF,hD,hK⟩:=hrel
  by_cases hlt:j < n
  ·have hwj:IntKind.i64.wrap ((j:Int) + 1) = (j:Int) + 1:=by rw [IntKind.wrap_i64];omega
   go_upto_region 6 with ((go_at_call 34;(with_reducible refine (Zaf g fc l ((j:Int) + 1) _ hD hl (by omega)).mono ?_);rintro e w3 ⟨r,rfl,q1,q2,D3,K3⟩))
   obtain ⟨k,rfl⟩:=Int.eq_ofNat_of_zero_le q1
   have hpl:=hp.1
   have hcap:=I.len
   have hkp:k<=p.length:=by omega
   have hkc:k<=c:=by omega
   have hkp':(k:Int)<=(p.length:Int):=by omega
   have hkc':(k:Int)<=(c:Int):=by omega
   have hc0:(p.length:Int)<=(c:Int):=by omega
   have Hpl:=zH hpl
   have Hp:=zH hp
   clear hpl hp hA
   have K3':Only [g] w w3:=hK.trans K3
   have hg:=h.lt
   have I3:=I.only K3 (fun b hb hm=>by have:=hF.ge b hb;simp at hm;omega)
   have hk0:(0:Int)<=(k:Int):=by omega
   have hlk:(p.take k).length = k:=by rw [List.length_take];omega
   have HK:=zH hlk
   clear hlk
   have hTk:Rd w3 (.slice (some ⟨b,off,none⟩) k c) (p.take k) fp:=by
    have:=(I3.take k).rd
    rwa [HK.out] at this
   have hTl:(p.take k).length<=1073741824:=by have:=HK.out;omega
   have hj1000:j<=1000:=by omega
   have hpl1:p.length<=1000:=by have:=Hpl.out;omega
   have hend:∀ v6 w6,w6.ownsRow w3.heap.size 2 1 v6 (k + 1 + (p.length - k)) (((p.take k).map (Value.int .i64) ++ [.int .i64 (j:Int)]) ++ (p.drop k).map (Value.int .i64))->Only [] w3 w6 ->
     ∃ (p':List Int) (fp':List Nat),(∃ b off c,v6 = .slice (some ⟨b,off,none⟩) p'.length c/\IntsA w6 (some ⟨b,off,none⟩) c p' fp')/\AccI w.heap.size 2 w6 v6 p'/\PM.PN (j + 1) p'/\Fresh w.heap.size w6 fp'/\Src w6 g fc l/\Only [g] w w6:=fun v6 w6 hO ho=>by
    have hcells:((p.take k).map (Value.int .i64) ++ [Value.int .i64 (j:Int)]) ++ (p.drop k).map (Value.int .i64) = (p.take k ++ ((p.length:Int) :: p.drop k)).map (Value.int .i64):=by
     rw [Hpl.out];simp
    rw [hcells] at hO
    have hP:=ins_isP Hp.out.2 hkp
    have hlen:(p.take k ++ ((p.length:Int) :: p.drop k)).length = j + 1:=by
     rw [List.length_append,List.length_cons,HK.out,List.length_drop];have:=Hpl.out;omega
    have hwf:∀ x∈p.take k ++ ((p.length:Int) :: p.drop k),I64 x:=fun x hx=>by have:=hP.1 x hx;rw [hlen] at this;unfold I64;omega
    have hn6:k + 1 + (p.length - k) = (p.take k ++ ((p.length:Int) :: p.drop k)).length:=by rw [hlen];have:=Hpl.out;omega
    rw [hn6] at hO
    have hA6:=(AccI.ofRow hO hwf).low2 K3'.size
    obtain ⟨a6,c6,hv6,-,I6,F6⟩:=Zbg hO hwf
    obtain ⟨b6,o6,ha6,-,-⟩:=I6.at_ 0 (by rw [hlen];omega)
    subst ha6
    exact ⟨_,_,⟨b6,o6,c6,hv6,I6⟩,hA6,⟨hlen,hP⟩,F6.mono K3'.size,D3.keep ho,K3'.keepThen ho⟩
   have HcC:Hid (∀ V:World,Only [] w3 V->Calls Tryz.prog 77 #[.slice (some ⟨b,off,none⟩) k c] V fun e w'=>∃ a4 q4,e = .returned (.slice a4 k q4)/\w'.ownsRow w3.heap.size 2 1 (.slice a4 k q4) k ((p.take k).map (Value.int .i64))/\Only [] V w'):=zH (fun V hV=>by
    refine (Zgv (.slice (some ⟨b,off,none⟩) k c) (p.take k) fp V (zK hTk hV) hTl).mono ?_
    rintro e w' ⟨v4,rfl,hA4,o4⟩
    have hO4:=(hA4.low2 hV.size).row.1
    rw [HK.out] at hO4
    obtain ⟨a4,q4,e4⟩:=hA4.form
    rw [HK.out] at e4
    subst e4
    exact ⟨a4,q4,rfl,hO4,o4⟩)
   by_cases hck:c = k
   ·subst hck
    have hd0:p.drop c = []:=List.drop_eq_nil_of_le (by omega)
    have Hd0:=zH hd0
    clear hd0
    go_region_law (first
     | (go_simp;go_at_call 77;(with_reducible refine (HcC.out _ zC).mono ?_);rintro en w4 ⟨a4,q4,rfl,hO4,o4⟩;have o4w:Only [] w3 w4:=Only.trans zC o4)
     | (refine Zbx _ rfl (.tmp 21) (.tmp 23) 27 rfl w3.heap.size 2 i0 _ 1 8 Tryz.underlying27 hi hz0 hz1 hz2 rfl (by omega) (.slice a4 c q4) c ((p.take c).map (Value.int .i64)) rfl (Zhq hO4 zC) _ 1 1 [.int .i64 (j:Int)] rfl rfl (by first | exact Zcq _ [.int .i64 (j:Int)] 2 rfl | exact (fun ad hh j1 u hu=>o4.cell (by simp) (Zcq _ [.int .i64 (j:Int)] 2 rfl ad hh j1 u hu))) (by intro hh;cases hh) (by intro u hu;simp at hu;subst hu;rfl) (by unfold maxLen;omega) (by omega) (Only.size (fp:=[]) zC) ?_;intro v5 w5 hO5 hg5 hb5;have o5:Only [] w3 w5:=Only.grown zC hg5 (by intro z hz hzl;have:=(hO4.lt z hz).1;omega);have ID:=(I3.keep o5).drop hkp;have s5:=Zer ID;have hdl:((p.drop c).map (Value.int .i64)).length = (p.length - c) * 1:=(by simp);have Hdl:=zH hdl;clear hdl)
     | (refine Zbx _ rfl (.tmp 24) (.tmp 27) 27 rfl w3.heap.size 2 i0 _ 1 8 Tryz.underlying27 hi hz0 hz1 hz2 rfl (by omega) v5 (c + 1) ((p.take c).map (Value.int .i64) ++ [.int .i64 (j:Int)]) rfl (Zhq hO5 zC) (some ⟨b,off,none⟩) 0 0 [] rfl rfl (by intro ad hh j1 u hu;simp at hu) (by intro hh;cases hh) (by intro u hu;simp at hu) (by unfold maxLen;omega) (by omega) (Only.size (fp:=[]) zC) ?_;intro v6 w6 hO6 hg6 hb6;have o6:Only [] w3 w6:=Only.grown zC hg6 (by intro z hz hzl;have:=(hO5.lt z hz).1;omega))
     | fail)
    all_goals (
     have hfin:=hend v6 w6 (by have e:p.length - c = 0:=(by omega);rw [e,Hd0.out];simpa using hO6) o6
     obtain ⟨p',fp',e1,e2,e3,e4,e5,e6⟩:=hfin
     go_wp2_with fail
     exact ⟨⟨j + 1,p',fp',by omega,by go_num,e1,e2,e3,e4,e5,e6⟩,by simp [intOf];omega⟩)
   ·go_region_law (first
     | (go_simp;go_at_call 77;(with_reducible refine (HcC.out _ zC).mono ?_);rintro en w4 ⟨a4,q4,rfl,hO4,o4⟩;have o4w:Only [] w3 w4:=Only.trans zC o4)
     | (refine Zbx _ rfl (.tmp 21) (.tmp 23) 27 rfl w3.heap.size 2 i0 _ 1 8 Tryz.underlying27 hi hz0 hz1 hz2 rfl (by omega) (.slice a4 k q4) k ((p.take k).map (Value.int .i64)) rfl (Zhq hO4 zC) _ 1 1 [.int .i64 (j:Int)] rfl rfl (by first | exact Zcq _ [.int .i64 (j:Int)] 2 rfl | exact (fun ad hh j1 u hu=>o4.cell (by simp) (Zcq _ [.int .i64 (j:Int)] 2 rfl ad hh j1 u hu))) (by intro hh;cases hh) (by intro u hu;simp at hu;subst hu;rfl) (by unfold maxLen;omega) (by omega) (Only.size (fp:=[]) zC) ?_;intro v5 w5 hO5 hg5 hb5;have o5:Only [] w3 w5:=Only.grown zC hg5 (by intro z hz hzl;have:=(hO4.lt z hz).1;omega);have ID:=(I3.keep o5).drop hkp;have s5:=Zer ID;have hdl:((p.drop k).map (Value.int .i64)).length = (p.length - k) * 1:=(by simp);have Hdl:=zH hdl;clear hdl)
     | (refine Zbx _ rfl (.tmp 24) (.tmp 27) 27 rfl w3.heap.size 2 i0 _ 1 8 Tryz.underlying27 hi hz0 hz1 hz2 rfl (by omega) v5 (k + 1) ((p.take k).map (Value.int .i64) ++ [.int .i64 (j:Int)]) rfl (Zhq hO5 zC) (some ⟨b,off + k,none⟩) (p.length - k) (c - k) ((p.drop k).map (Value.int .i64)) rfl Hdl.out s5.1 (by intro hh;cases hh) (Zfv _) (by unfold maxLen;omega) (by omega) (Only.size (fp:=[]) zC) ?_;intro v6 w6 hO6 hg6 hb6;have o6:Only [] w3 w6:=Only.grown zC hg6 (by intro z hz hzl;have:=(hO5.lt z hz).1;omega))
     | fail)
    all_goals (
     have hfin:=hend v6 w6 hO6 o6
     obtain ⟨p',fp',e1,e2,e3,e4,e5,e6⟩:=hfin
     go_wp2_with fail
     exact ⟨⟨j + 1,p',fp',by omega,by go_num,e1,e2,e3,e4,e5,e6⟩,by simp [intOf];omega⟩)
  ·obtain rfl:j = n:=by omega
   go_wp2
   go_ret
   exact ⟨_,p,rfl,hA,hp,hD,hK⟩
def firstG (l:List (List Int)) (s:ByteArray):Option Int:=(l.findIdx? fun p=>kB p = s).map fun i:Nat=>(i:Int)
theorem Zsv (s:ByteArray):firstG [] s = none:=rfl
theorem Zgs (l:List (List Int)) (p:List Int) (s:ByteArray):firstG (l ++ [p]) s = match firstG l s with | some i=>some i | none=>if s = kB p then some (l.length:Int) else none:=by
 unfold firstG
 rw [List.findIdx?_append]
 cases h:l.findIdx? (fun p=>decide (kB p = s)) with
 | some i=>simp
 | none=>
  by_cases hp:kB p = s
  ·simp [hp]
  ·have:¬ s = kB p:=fun e=>hp e.symm
   simp [hp,this]
def Byt (l:List Int):Prop:=∀ x∈l,0<=x/\x < 256
theorem Zfp {l:List (List Int)} (h:∀ p∈l,Byt p) {q:List Int} (hq:Byt q):firstG l (kB q) = if 0<=idxL l q then some (idxL l q) else none:=by
 have hfun:l.findIdx? (fun p=>decide (kB p = kB q)) = l.findIdx? (fun p=>decide (p = q)):=by
  induction l with
  | nil=>rfl
  | cons p l ih=>
   rw [List.findIdx?_cons,List.findIdx?_cons,ih (fun r hr=>h r (by simp [hr]))]
   have:decide (kB p = kB q) = decide (p = q):=by
    rw [decide_eq_decide];exact kB_eq (h p (by simp)) hq
   rw [this]
 unfold firstG idxL idxF
 rw [hfun]
 cases l.findIdx? (fun p=>decide (p = q)) with
 | some i=>simp
 | none=>simp
theorem Zjy {n:Int} {k:Nat} {l:List Int} (h:patB n k l = true) (hn:n<=256):Byt l:=fun x hx=>by
 have:=(Zba.1 h).2.1 x hx;omega
theorem Zef {P:Program} {α:Type} [Rp α] {ops:Array Oper} {rest:List Oper} {o:Oper} {a:Act} {w:World} {Q:Exit->Act->World->Prop} (hgd:o.guard = none) (s x:Operand) (t:TypeId)
  (ho:o.op = .call { callee:=.builtin .append,args:=#[s,x],argTypes:=#[t,t] })
  (B:Nat) (e:TypeId) (i:TypeInfo) (z:Value) (bytes:Nat) (ht:P.underlying t = some (.slice e)) (hi:P.info? e = some i) (hz:i.zero = some z)
  (hsize:i.size = Rp.size α) (hby:i.bytes = bytes) (hzs:z.cells.size = Rp.size α) (hsz:0 < Rp.size α) (hbb:bytes<=65536)
  (w0:World) (v:Value) (l:List α) (fs:List (List Nat)) (hs:a.eval s = v) (hA:Acc B e w0 v l fs) (hK0:Only [] w0 w) (hB:B<=w0.heap.size)
  (g c:Nat) (cs:List Value) (y:α) (fp:List Nat) (hx:a.eval x = .slice (some ⟨g,0,none⟩) 1 c) (hsrc:∀ j u,cs[j]? = some u->w.cell? ⟨g,j,none⟩ = some u) (hcs:∀ u∈cs,u.oneCell' = true)
  (hy:Rp.rep w cs y fp) (hap:∀ b∈fp,v.ownBlock ≠ some b) (hlen:l.length + 1<=1073741824)
  (h:∀ v' w',Acc B e w' v' (l ++ [y]) (fs ++ [fp])->Only v.ownBlock.toList w w'->(v'.ownBlock = v.ownBlock\/v'.ownBlock = some w.heap.size)->wpList P ops Q rest (a.put o.dst v') w'):wpList P ops Q (o :: rest) a w:=
 wpList_plain hgd fun _ hK=>Zeu s x t ho B e i z bytes ht hi hz hsize hby hzs hsz hbb w0 v l fs hs hA hK0 hB g c cs y fp hx hsrc hcs hy hap hlen fun v' w' h1 h2 _ _ h5=>hK _ _ (h v' w' h1 h2 h5)
end Go.Proofs.YtjfmkolnleicnaaGreatDoor
