/- The two phases: the puzzle of a move subset, its members among the states, words in plain terms (laws 46, 51, 57, 58). -/
import Derived.Test.YtclhblofchfglaaGreatRowCompareSolversG9
import Derived.Test.YtclhblofchfglaaGreatRowCompareSolversG4
import Derived.Maps.OwnSet
import Derived.StringKeys
import Derived.Laws.BytesArg
import Derived.Test.YtclhblofchfglaaGreatRowCompareSolversG8
import Derived.Test.YtclhblofchfglaaGreatRowCompareSolversG5
import Derived.Deep.RegionLaw
import Derived.Test.YtclhblofchfglaaGreatRowCompareSolversG3
import Derived.Deep.RegionHeld3
import Derived.Deep.DeepCutAuto
import Derived.StillTailTactics
namespace Go.Proofs.YtclhblofchfglaaGreat
open Go.RowKit
set_option maxRecDepth 10000
def subNm (s:ByteArray) (sub:List Int):ByteArray:=⟨(sub.map fun k=>s.data.getD k.toNat 0).toArray⟩
def subP (x:Puzzle) (sub:List Int):Puzzle:=⟨x.points,subNm x.names sub,sub.map fun k=>x.moves.getD k.toNat []⟩
def mapL (sub:List Int) (l:Int):Int:=if 0 < l then sub.getD (l - 1).toNat 0 + 1 else -(sub.getD (-l - 1).toNat 0 + 1)
theorem bl_sub (s:ByteArray) (sub:List Int):bl (subNm s sub) = sub.map fun k=>((s.data.getD k.toNat 0).toNat:Int):=by
 unfold bl subNm
 simp
section
variable {x:Puzzle} {sub:List Int} (hv:validPz x = true) (hs:trackB x.moves.length sub = true)
include hv hs
theorem sub_len:1<=sub.length/\sub.length<=x.moves.length/\x.moves.length<=8:=by
 have h:=Zal.1 hs
 have h1:=h.2.len
 have h2:=Zae hv
 omega
omit hv in
theorem sub_in {k:Int} (hk:k∈sub):0<=k/\k < x.moves.length:=(Zal.1 hs).2.1 k hk
omit hv in
theorem sub_mem {g:List Int} (hg:g∈(subP x sub).moves):g∈x.moves:=by
 obtain ⟨k,hk,rfl⟩:=List.mem_map.1 hg
 have:=sub_in hs hk
 rw [Zab (by omega)]
 exact List.getElem_mem _
theorem Zsd:validPz (subP x sub) = true:=by
 obtain ⟨l1,l2,l3⟩:=sub_len hv hs
 have hg:=Zio.1 (Zhy hv)
 have hv':=hv
 unfold validPz at hv'
 rw [Bool.and_eq_true,Bool.and_eq_true,decide_eq_true_iff] at hv'
 obtain ⟨-,hn,hl⟩:=hv'
 unfold namesB at hn
 rw [Bool.and_eq_true,Zht] at hn
 obtain ⟨hn0,hn1,hn2⟩:=hn
 have hbl:(bl x.names).length = x.moves.length:=by rw [bl_len,hl]
 have hb:∀ k∈sub,∃ h:k.toNat < (bl x.names).length,((x.names.data.getD k.toNat 0).toNat:Int) = (bl x.names)[k.toNat]:=fun k hk=>by
  have h1:=sub_in hs hk
  have h2:k.toNat < x.names.size:=by omega
  refine ⟨by omega,?_⟩
  have h3:k.toNat < x.names.data.size:=h2
  rw [bl_get _ _ h2]
  rw [Array.getD,dif_pos h3]
  rfl
 unfold validPz
 rw [Bool.and_eq_true,Bool.and_eq_true,decide_eq_true_iff]
 refine ⟨Zio.2 ⟨hg.1,by show (List.map _ sub).length<=8;rw [List.length_map];omega,fun g hm=>hg.2.2 g (sub_mem hs hm)⟩,?_,?_⟩
 ·unfold namesB
  have hsz:((subP x sub).names).size = sub.length:=by
   show (subNm x.names sub).size = _
   rw [<- bl_len,bl_sub,List.length_map]
  rw [Bool.and_eq_true,hsz]
  refine ⟨inR_iff.2 (by omega),Zht.2 ⟨?_,?_⟩⟩
  ·intro y hy
   have hy':y∈bl (subNm x.names sub):=hy
   rw [bl_sub] at hy'
   obtain ⟨k,hk,rfl⟩:=List.mem_map.1 hy'
   obtain ⟨h1,h2⟩:=hb k hk
   rw [h2]
   exact hn1 _ (List.getElem_mem _)
  ·show (bl (subNm x.names sub)).Nodup
   rw [bl_sub]
   refine List.pairwise_map.2 ((Zal.1 hs).2.2.imp_of_mem fun {a b} ha hb' hlt e=>?_)
   obtain ⟨a1,a2⟩:=hb a ha
   obtain ⟨b1,b2⟩:=hb b hb'
   rw [a2,b2] at e
   have:=Zdc hn2 a1 b1 e
   have:=sub_in hs ha
   have:=sub_in hs hb'
   omega
 ·show (subNm x.names sub).size = (List.map _ sub).length
  rw [<- bl_len,bl_sub,List.length_map,List.length_map]
theorem sub_grp {p:List Int} (hp:PM.Grp x.points.toNat (subP x sub).moves p):PM.Grp x.points.toNat x.moves p:=
 PM.Grp.mono (Zag hv) (fun _ hg=>PM.Grp.gen (Zag hv) (sub_mem hs hg)) hp
theorem Zot {t:Table} (he:expl x = some t):∃ ts,expl (subP x sub) = some ts:=by
 have hv2:=Zsd hv hs
 refine (Zkb hv2).2 ?_
 have h1:=(Zkb hv).1 ⟨t,he⟩
 refine Nat.le_trans ?_ h1
 exact PM.Zah (Zhm _ _) fun p hp=>(Zcl (Zag hv)).2 (sub_grp hv hs ((Zcl (Zag hv2)).1 hp))
omit hv in
theorem Zqp {l:Int} (hl:l∈ltrs (subP x sub).moves.length):mapL sub l∈ltrs x.moves.length:=by
 have h1:=Zas.1 hl
 have hlen:(subP x sub).moves.length = sub.length:=by show (List.map _ sub).length = _;rw [List.length_map]
 rw [hlen] at h1
 unfold mapL
 rw [Zas]
 split
 ·have hk:(l - 1).toNat < sub.length:=by omega
  rw [Zab hk]
  have:=sub_in hs (List.getElem_mem hk)
  omega
 ·have hk:(-l - 1).toNat < sub.length:=by omega
  rw [Zab hk]
  have:=sub_in hs (List.getElem_mem hk)
  omega
omit hv in
theorem mv_sub {l:Int} (hl:l∈ltrs (subP x sub).moves.length):mv (subP x sub).moves l = mv x.moves (mapL sub l):=by
 have h1:=Zas.1 hl
 have hlen:(subP x sub).moves.length = sub.length:=by show (List.map _ sub).length = _;rw [List.length_map]
 have h2:=h1
 rw [hlen] at h2
 by_cases hp:0 < l
 ·have hk:(l - 1).toNat < sub.length:=by omega
  have hin:=sub_in hs (List.getElem_mem hk)
  have e:mapL sub l = sub[(l - 1).toNat] + 1:=by unfold mapL;rw [if_pos hp,Zab hk]
  rw [e,mv_pos (k:=(l - 1).toNat) (by omega) (by omega),mv_pos (k:=sub[(l - 1).toNat].toNat) (by omega) (by omega)]
  show (List.map _ sub)[(l - 1).toNat]'(by rw [List.length_map];omega) = _
  rw [List.getElem_map,Zab (by omega)]
 ·have hk:(-l - 1).toNat < sub.length:=by omega
  have hin:=sub_in hs (List.getElem_mem hk)
  have e:mapL sub l = -(sub[(-l - 1).toNat] + 1):=by unfold mapL;rw [if_neg hp,Zab hk]
  rw [e,mv_neg (k:=(-l - 1).toNat) (by omega) (by omega),mv_neg (k:=sub[(-l - 1).toNat].toNat) (by omega) (by omega)]
  congr 1
  show (List.map _ sub)[(-l - 1).toNat]'(by rw [List.length_map];omega) = _
  rw [List.getElem_map,Zab (by omega)]
omit hv in
theorem Zps:∀ (w:List Int) (s:List Int),(∀ l∈w,l∈ltrs (subP x sub).moves.length)->wEnd x s (w.map (mapL sub)) = wEnd (subP x sub) s w
 | [],_,_=>rfl
 | l :: w,s,hw=>by
  unfold wEnd
  rw [List.map_cons,List.foldl_cons,List.foldl_cons]
  have e:nxt x s (mapL sub l) = nxt (subP x sub) s l:=by
   unfold nxt
   rw [mv_sub hs (hw l (by simp))]
  rw [e]
  exact Zps w _ fun l hl=>hw l (by simp [hl])
end
def subS (ts:Table) (s:List Int):Bool:=decide (s∈ts.patterns)
section
variable {x:Puzzle} {t ts:Table} {sub:List Int} (he:expl x = some t) (h2:expl (subP x sub) = some ts)
include he h2
theorem Zff:subS ts t.tracked = true:=by
 obtain ⟨-,ht⟩:=Zad he
 rw [ht]
 exact decide_eq_true ((Zek h2).2 .id)
theorem Zsy {v n:Nat} (hv:v < t.patterns.length) (hd:(mD x t (subS ts)).getD v 0 = n) :
  (∀ l∈oW x (tD x t (subS ts)) n (t.patterns.getD v []),l∈ltrs x.moves.length)/\∃ i j:Nat,i < t.patterns.length/\t.patterns.getD i [] = wEnd x (t.patterns.getD v []) (oW x (tD x t (subS ts)) n (t.patterns.getD v []))/\(mD x t (subS ts)).getD i 0 = 0/\j < ts.patterns.length/\ts.patterns.getD j [] = t.patterns.getD i []:=by
 obtain ⟨hb,-⟩:=Zad he
 obtain ⟨a,i,b,c,d⟩:=mW_end hb (Zff he h2) n v hv hd
 have hF:=mD_F (src:=subS ts) hb
 have hm:t.patterns.getD i []∈ts.patterns:=of_decide_eq_true ((hF.zero i b).1 d)
 obtain ⟨j,hj,e⟩:=List.getElem_of_mem hm
 exact ⟨a,i,j,b,c,d,hj,by rw [Zab hj,e]⟩
end
theorem Zmw (x:Puzzle) (s w:List Int) (l:Int):wEnd x s (w ++ [l]) = nxt x (wEnd x s w) l:=by
 unfold wEnd
 rw [List.foldl_append];rfl
theorem Zoq (x:Puzzle) (s a b:List Int):wEnd x s (a ++ b) = wEnd x (wEnd x s a) b:=by
 unfold wEnd
 rw [List.foldl_append]
theorem Zpu {x:Puzzle} {s:List Int} (hg:∀ g∈x.moves,PM.PN x.points.toNat g) (hs:PM.PN x.points.toNat s):∀ (w:List Int),(∀ l∈w,l∈ltrs x.moves.length)->wEnd x s w = appW x s w:=by
 intro w
 induction w using snocInd with
 | h0=>intro _;exact (Ztq hs).symm
 | h1 w l ih=>
  intro hw
  have hw1:∀ q∈w,q∈ltrs x.moves.length:=fun q hq=>hw q (by simp [hq])
  rw [Zmw,Zsp hg hs hw1,ih hw1]
theorem inc_lo {n:Int} {l:List Int} (h:Inc n l):∀ (i:Nat) (hi:i < l.length),(i:Int)<=l[i]
 | 0,hi=>(h.1 _ (List.getElem_mem hi)).1
 | i + 1,hi=>by
  have h1:=inc_lo h i (by omega)
  have h2:=List.pairwise_iff_getElem.1 h.2 i (i + 1) (by omega) hi (by omega)
  omega
theorem inc_hi {n:Int} {l:List Int} (h:Inc n l):∀ (k i:Nat) (hi:i + k + 1 = l.length),l[i]'(by omega) + (k:Int) < n
 | 0,i,hi=>by have:=(h.1 _ (List.getElem_mem (show i < l.length by omega))).2;omega
 | k + 1,i,hi=>by
  have h1:=inc_hi h k (i + 1) (by omega)
  have h2:=List.pairwise_iff_getElem.1 h.2 i (i + 1) (by omega) (by omega) (by omega)
  omega
theorem Ztx {n:Int} {l:List Int} (h:Inc n l) (hl:(l.length:Int) = n):l = PM.pts n.toNat:=by
 refine List.ext_getElem (by rw [PM.pts_len];omega) fun i h1 h2=>?_
 rw [PM.pts_get]
 have a:=inc_lo h i h1
 have b:=inc_hi h (l.length - i - 1) i (by omega)
 omega
theorem oW_end {x:Puzzle} {t:Table} (h:Built x t):∀ (n i:Nat),i < t.patterns.length->t.distances.getD i 0 = n->wEnd x (t.patterns.getD i []) (oW x t n (t.patterns.getD i [])) = t.tracked
 | 0,i,hi,hd=>by
  have hdep:=(h.dep i hi).2.2
  have:i = 0:=by
   rcases Nat.eq_zero_or_pos i with h0 | h0
   ·exact h0
   ·have:=hdep h0;omega
  subst this
  exact h.bi.p0
 | n + 1,i,hi,hd=>by
  obtain ⟨k,j,hD⟩:=h.down hi (n:=n) (by rw [hd];rfl)
  rw [hD.oW_]
  unfold wEnd
  rw [List.foldl_cons,<- hD.nx]
  exact oW_end h n j hD.hj hD.ds
theorem gS_pts {n:Nat} {s:List Int} (hs:PM.PN n s) (h:gS (PM.pts n) s = true):s = PM.pts n:=by
 have:=of_decide_eq_true h
 rwa [PM.id_comp hs] at this
section
variable {x:Puzzle} {t:Table} (he:expl x = some t)
include he
theorem Zix {g:List Int} (hg:trackB x.points g = true) {v:Nat} (hv:v < t.patterns.length):∃ j:Nat,j < t.patterns.length/\t.patterns.getD j [] = wEnd x (t.patterns.getD v []) (mW1 x t g (t.patterns.getD v []))/\gS g (t.patterns.getD j []) = true:=by
 obtain ⟨hb,-⟩:=Zad he
 obtain ⟨h1,-,-⟩:=Zbt he hg hv
 obtain ⟨-,j,b,c,d⟩:=mW_end hb (Zfp he hg) (mN x t g (t.patterns.getD v [])) v hv h1
 exact ⟨j,b,c,((mD_F (src:=gS g) hb).zero j b).1 d⟩
theorem Zpa:∀ (gs:List (List Int)) (hne:gs ≠ []),(∀ g∈gs,trackB x.points g = true)->∀ (v:Nat),v < t.patterns.length->∃ j:Nat,j < t.patterns.length/\t.patterns.getD j [] = wEnd x (t.patterns.getD v []) (mthS x t gs (t.patterns.getD v [])).flatten/\gS (gs.getLast hne) (t.patterns.getD j []) = true
 | [g],_,hg,v,hv=>by
  obtain ⟨j,a,b,c⟩:=Zix he (hg g (by simp)) hv
  refine ⟨j,a,?_,c⟩
  show _ = wEnd x _ (List.flatten [mW1 x t g (t.patterns.getD v [])])
  rw [List.flatten_cons,List.flatten_nil,List.append_nil];exact b
 | g :: g' :: gs,_,hg,v,hv=>by
  obtain ⟨j,a,b,-⟩:=Zix he (hg g (by simp)) hv
  obtain ⟨j2,a2,b2,c2⟩:=Zpa (g' :: gs) (by simp) (fun q hq=>hg q (by simp [List.mem_cons.1 hq])) j a
  refine ⟨j2,a2,?_,by rw [List.getLast_cons (by simp)];exact c2⟩
  show _ = wEnd x _ (List.flatten (mW1 x t g (t.patterns.getD v []) :: mthS x t (g' :: gs) (wEnd x (t.patterns.getD v []) (mW1 x t g (t.patterns.getD v [])))))
  rw [List.flatten_cons,Zoq,<- b];exact b2
end
theorem Zch {x:Puzzle} {goals:List (List Int)} (h:methB x goals = true):validPz x = true/\(1<=goals.length/\goals.length<=5)/\(∀ g∈goals,trackB x.points g = true)/\growB goals = true/\((goals.getD (goals.length - 1) []).length:Int) = x.points:=by
 unfold methB at h
 rw [Bool.and_eq_true,Bool.and_eq_true,Bool.and_eq_true,Bool.and_eq_true,decide_eq_true_iff,decide_eq_true_iff,List.all_eq_true] at h
 exact ⟨h.1.1.1.1,h.1.1.1.2,h.1.1.2,h.1.2,h.2⟩
theorem Zhk {x:Puzzle} {goals:List (List Int)} {s:List Int} {ws:List (List Int)} (h:mthX x goals s = some ws):∃ t,expl x = some t/\reachB x s = true/\methB x goals = true/\ws = mthS x t goals s/\∀ w∈ws,w.length<=200:=by
 unfold mthX at h
 cases he:expl x with
 | none=>rw [he] at h;cases h
 | some t=>
  rw [he] at h
  simp only at h
  split at h
  ·rename_i hc
   rw [Bool.and_eq_true] at hc
   rw [mthW_eq] at h
   split at h
   ·rename_i ha
    injection h with h
    rw [List.all_eq_true] at ha
    exact ⟨t,rfl,hc.1,hc.2,h.symm,fun w hw=>by rw [<- h] at hw;exact of_decide_eq_true (ha w hw)⟩
   ·cases h
  ·cases h
theorem Ztt {x:Puzzle} {goals:List (List Int)} {s w:List Int} (h:mthC x goals s = some w):reachB x s = true/\w.length<=200/\(∀ l∈w,l∈ltrs x.moves.length)/\appW x s w = PM.pts x.points.toNat:=by
 unfold mthC at h
 rw [Option.bind_eq_some_iff] at h
 obtain ⟨ws,h1,h2⟩:=h
 split at h2
 ·rename_i hl
  injection h2 with h2
  obtain ⟨t,he,hr,hm,rfl,-⟩:=Zhk h1
  obtain ⟨m1,m2,m3,-,m5⟩:=Zch hm
  obtain ⟨hb,-⟩:=Zad he
  obtain ⟨v,hv,e⟩:=List.getElem_of_mem ((Zak he).2 hr)
  have e2:t.patterns.getD v [] = s:=by rw [Zab hv,e]
  have hne:goals ≠ []:=fun h0=>by rw [h0] at m2;simp at m2
  have hlet:=Zfu he goals m3 v hv
  obtain ⟨j,a,b,c⟩:=Zpa he goals hne m3 v hv
  rw [e2] at b hlet
  have hst:=Zdx hr
  obtain ⟨-,-,hg,hp⟩:=Zgb hst
  have hlw:∀ l∈w,l∈ltrs x.moves.length:=fun l hm'=>by
   rw [<- h2] at hm'
   obtain ⟨u,hu,hlu⟩:=List.mem_flatten.1 hm'
   exact hlet u hu l hlu
  have hlast:goals.getLast hne = PM.pts x.points.toNat:=by
   have hm':=List.getLast_mem hne
   have ht:=Zal.1 (m3 _ hm')
   have e3:goals.getD (goals.length - 1) [] = goals.getLast hne:=by
    rw [Zab (by omega),List.getLast_eq_getElem]
   rw [e3] at m5
   exact Ztx ht.2 m5
  rw [hlast] at c
  have hpj:=PM.Grp.pn (Zag hb.v) ((Zek he).1 (hb.mem_of a))
  have hend:=gS_pts hpj c
  refine ⟨hr,by rw [<- h2];exact hl,hlw,?_⟩
  rw [<- Zpu hg hp w hlw,<- h2,<- b]
  exact hend
 ·cases h2
def twN1 (x:Puzzle) (t ts:Table) (s:List Int):Nat:=((mD x t (subS ts)).getD (idxL t.patterns s).toNat 0).toNat
def twW1 (x:Puzzle) (t ts:Table) (s:List Int):List Int:=oW x (tD x t (subS ts)) (twN1 x t ts s) s
def twS1 (x:Puzzle) (t ts:Table) (s:List Int):List Int:=wEnd x s (twW1 x t ts s)
def twN2 (x:Puzzle) (t ts:Table) (s:List Int):Nat:=(atD ts (idxL ts.patterns (twS1 x t ts s))).toNat
def twW2 (x:Puzzle) (sub:List Int) (t ts:Table) (s:List Int):List Int:=(oW (subP x sub) ts (twN2 x t ts s) (twS1 x t ts s)).map (mapL sub)
noncomputable def twX (x:Puzzle) (sub s:List Int):Option (List Int × List Int):=match expl x,expl (subP x sub) with
 | some t,some ts=>if (reachB x s && trackB x.moves.length sub) = true then (if twN1 x t ts s<=200/\twN2 x t ts s<=200 then some (twW1 x t ts s,twW2 x sub t ts s) else none) else none
 | _,_=>none
noncomputable def twC (x:Puzzle) (sub s:List Int):Option (List Int):=(twX x sub s).bind fun p=>if (p.1 ++ p.2).length<=200 then some (p.1 ++ p.2) else none
theorem Zpz (x:Puzzle) (t ts:Table) (s:List Int):(twW1 x t ts s).length = twN1 x t ts s:=oW_len _ _ _ _
theorem Zow (x:Puzzle) (sub:List Int) (t ts:Table) (s:List Int):(twW2 x sub t ts s).length = twN2 x t ts s:=by unfold twW2;rw [List.length_map,oW_len]
section
variable {x:Puzzle} {t ts:Table} {sub:List Int} (he:expl x = some t) (hs:trackB x.moves.length sub = true) (h2:expl (subP x sub) = some ts)
include he hs h2
theorem Zhv {v:Nat} (hv:v < t.patterns.length):(mD x t (subS ts)).getD v 0 = twN1 x t ts (t.patterns.getD v [])/\(∀ l∈twW1 x t ts (t.patterns.getD v []),l∈ltrs x.moves.length)/\∃ i j:Nat,i < t.patterns.length/\t.patterns.getD i [] = twS1 x t ts (t.patterns.getD v [])/\(mD x t (subS ts)).getD i 0 = 0 /\
  j < ts.patterns.length/\ts.patterns.getD j [] = twS1 x t ts (t.patterns.getD v [])/\ts.distances.getD j 0 = twN2 x t ts (t.patterns.getD v [])/\(∀ l∈oW (subP x sub) ts (twN2 x t ts (t.patterns.getD v [])) (twS1 x t ts (t.patterns.getD v [])),l∈ltrs (subP x sub).moves.length) /\
  wEnd x (t.patterns.getD v []) (twW1 x t ts (t.patterns.getD v []) ++ twW2 x sub t ts (t.patterns.getD v [])) = PM.pts x.points.toNat:=by
 obtain ⟨hb,-⟩:=Zad he
 obtain ⟨hb2,ht2⟩:=Zad h2
 have h0:=Zgk hb (Zff he h2) v hv
 have h1:(mD x t (subS ts)).getD v 0 = twN1 x t ts (t.patterns.getD v []):=by
  unfold twN1
  rw [hb.idx hv,Int.toNat_natCast];omega
 obtain ⟨a,i,j,b,c,d,e,f⟩:=Zsy he h2 hv h1
 have hsj:ts.patterns.getD j [] = twS1 x t ts (t.patterns.getD v []):=f.trans c
 have hd2:ts.distances.getD j 0 = twN2 x t ts (t.patterns.getD v []):=by
  unfold twN2
  rw [<- hsj,hb2.idx e,atD_nat]
  have:=(hb2.dep j e).1
  omega
 have hl2:=Zll hb2 _ j e hd2
 have he2:=oW_end hb2 _ j e hd2
 rw [hsj] at hl2 he2
 refine ⟨h1,a,i,j,b,c,d,e,hsj,hd2,hl2,?_⟩
 rw [Zoq]
 show wEnd x (twS1 x t ts (t.patterns.getD v [])) (twW2 x sub t ts (t.patterns.getD v [])) = _
 unfold twW2
 rw [Zps hs _ _ hl2,he2,ht2]
 rfl
end
theorem twC_sol {x:Puzzle} {sub s w:List Int} (h:twC x sub s = some w):reachB x s = true/\w.length<=200/\(∀ l∈w,l∈ltrs x.moves.length)/\appW x s w = PM.pts x.points.toNat:=by
 unfold twC at h
 rw [Option.bind_eq_some_iff] at h
 obtain ⟨p,h1,h3⟩:=h
 split at h3
 ·rename_i hl
  injection h3 with h3
  unfold twX at h1
  cases he:expl x with
  | none=>rw [he] at h1;cases h1
  | some t=>
   cases h2:expl (subP x sub) with
   | none=>rw [he,h2] at h1;cases h1
   | some ts=>
    rw [he,h2] at h1
    simp only at h1
    split at h1
    ·rename_i hc
     rw [Bool.and_eq_true] at hc
     obtain ⟨hr,hsb⟩:=hc
     split at h1
     ·injection h1 with h1
      subst h1
      obtain ⟨v,hv,e⟩:=List.getElem_of_mem ((Zak he).2 hr)
      have e2:t.patterns.getD v [] = s:=by rw [Zab hv,e]
      obtain ⟨-,a,-,-,-,-,-,-,-,-,b,c⟩:=Zhv he hsb h2 hv
      rw [e2] at a b c
      have hst:=Zdx hr
      obtain ⟨-,-,hg,hp⟩:=Zgb hst
      have hlw:∀ l∈w,l∈ltrs x.moves.length:=fun l hm=>by
       rw [<- h3] at hm
       rcases List.mem_append.1 hm with hm | hm
       ·exact a l hm
       ·obtain ⟨q,hq,rfl⟩:=List.mem_map.1 hm
        exact Zqp hsb (b q hq)
      refine ⟨hr,by rw [<- h3];exact hl,hlw,?_⟩
      rw [<- Zpu hg hp w hlw,<- h3]
      exact c
     ·cases h1
    ·cases h1
 ·cases h3
open Go.Maps (Keyed)
def kB (l:List Int):ByteArray:=strOfNums (l.map fun x=>x % 256)
theorem kB_size (l:List Int):(kB l).size = l.length:=by unfold kB;rw [strOfNums_size,List.length_map]
theorem kB_inj:∀ {l l':List Int},(∀ x∈l,0<=x/\x < 256)->(∀ x∈l',0<=x/\x < 256)->kB l = kB l'->l = l':=by
 intro l l' h h' he
 have hd:(kB l).data.toList = (kB l').data.toList:=by rw [he]
 unfold kB at hd
 rw [strOfNums_data,strOfNums_data,List.map_map,List.map_map] at hd
 clear he
 induction l generalizing l' with
 | nil=>cases l' with
  | nil=>rfl
  | cons y l'=>simp at hd
 | cons x l ih=>cases l' with
  | nil=>simp at hd
  | cons y l'=>
   simp only [List.map_cons,List.cons.injEq] at hd
   have hx:=h x (by simp);have hy:=h' y (by simp)
   have e1:x % 256 = x:=Int.emod_eq_of_lt hx.1 hx.2
   have e2:y % 256 = y:=Int.emod_eq_of_lt hy.1 hy.2
   have h1:=hd.1
   simp only [Function.comp,e1,e2] at h1
   have h2:=congrArg UInt8.toNat h1
   rw [UInt8.toNat_ofNat',UInt8.toNat_ofNat'] at h2
   have:x = y:=by omega
   subst this
   rw [ih (fun z hz=>h z (by simp [hz])) (fun z hz=>h' z (by simp [hz])) hd.2]
theorem kB_eq {l l':List Int} (h:∀ x∈l,0<=x/\x < 256) (h':∀ x∈l',0<=x/\x < 256):kB l = kB l' ↔ l = l':=⟨kB_inj h h',fun e=>by rw [e]⟩
theorem Tryz.lawStr:Keyed Tryz.prog 9:=Go.Maps.string_keyed Tryz.underlying9
section
variable {w:World} {M k:Nat} {g:ByteArray->Option Int}
end
theorem Tryz.infoByte:(Tryz.prog.info? 5).map (fun i=>(i.zero,i.size,i.bytes)) = some (some (.int .u8 0),1,1):=by kernel_rfl
theorem madeBytes (n:Nat):(madeCells (Value.cells (.int .u8 0)) n).toList = List.replicate n (.int .u8 0):=by
 apply List.ext_getElem (by simp [madeCells])
 intro i h1 h2
 simp [madeCells,Value.cells,Nat.mod_one]
theorem Zrr (l:List Int) (j:Nat) (hj:j < l.length):((l.take j).map (fun x=>Value.int .u8 (x % 256)) ++ List.replicate (l.length - j) (Value.int .u8 0)).set j (.int .u8 (l[j] % 256)) = (l.take (j + 1)).map (fun x=>Value.int .u8 (x % 256)) ++ List.replicate (l.length - (j + 1)) (.int .u8 0):=by
 have hl:((l.take j).map (fun x=>Value.int .u8 (x % 256))).length = j:=by rw [List.length_map,List.length_take];omega
 rw [show l.length - j = (l.length - (j + 1)) + 1 by omega,List.replicate_succ,List.set_append_right _ _ (by omega),hl,Nat.sub_self,Zac l j hj]
 simp only [List.map_append,List.map_cons,List.map_nil,List.append_assoc,List.cons_append,List.nil_append,List.set_cons_zero]
set_option maxHeartbeats 1000000 in
theorem Zcx (v:Value) (l:List Int) (fp:List Nat) (w:World) (h:Rd w v l fp) (hl:l.length<=1000) :
  Calls Tryz.prog 160 #[v] w fun e w'=>e = .returned (.string (kB l))/\Only [] w w':=by
 obtain ⟨a,cap,rfl,hI⟩:=h.ints
 obtain ⟨i0,hi,hz0,hz1,hz2⟩:=info_parts Tryz.infoByte
 go_enter Tryz.func160,Tryz.ntmps160
 go_wp2_with (at_make;refine wpList_make_full _ rfl _ _ 190 rfl w.heap.size 5 i0 _ 1 Tryz.underlying190 hi hz0 hz1 _ _ _ _ l.length rfl rfl rfl rfl (by rw [hz2];omega) (by unfold maxLen;omega) (Nat.le_refl _) ?_;intro w1 hown hg)
 rw [madeBytes,Nat.mul_one] at hown
 go_loopw [11] (fun i wr=>∃ j:Nat,j<=l.length/\i = .int .i64 j /\
   wr.ownsRow w.heap.size 5 1 (.slice (some ⟨w.heap.size,0,none⟩) l.length l.length) l.length ((l.take j).map (fun x=>Value.int .u8 (x % 256)) ++ List.replicate (l.length - j) (.int .u8 0))/\Only [] w wr)
  (fun i _=>l.length - (intOf i).toNat)
 case atStart=>exact ⟨0,Nat.zero_le _,rfl,by simpa using hown,zO.grown hg (by simp)⟩
 case round=>
  obtain ⟨j,hj,rfl,hO,hK⟩:=hrel
  by_cases hlt:j < l.length
  ·obtain ⟨b,off,rfl,-,hc0⟩:=hI.at_ j hlt
   have hc:=hK.cell (by simp) hc0
   have hO2:=(hO.stored j (.int .u8 (l[j] % 256))).1
   rw [Zrr l j hlt] at hO2
   obtain ⟨z2,hc2⟩:∃ z,wr.cell? ⟨w.heap.size,j,none⟩ = some z:=by
    rw [hO.cellAt j (by omega)]
    exact ⟨_,List.getElem?_eq_getElem (by simp;omega)⟩
   have hf2:=hO.frozenAt j
   have hK2:=hK.setCell (p:=⟨w.heap.size,j,none⟩) (by simp) (.int .u8 (l[j] % 256))
   have HO:=zH hO2
   clear hO hO2 hown hc0
   go_wp2
   go_roundw
   case rel=>exact ⟨j + 1,by omega,by go_num,HO.out,hK2⟩
   case measure=>simp [intOf];omega
  ·have hjl:j = l.length:=by omega
   rw [hjl] at hO
   simp only [Nat.sub_self,List.replicate_zero,List.append_nil,List.take_length] at hO
   have hcv:=run_convert_bytes_arg (P:=Tryz.prog) wr 190 5 Tryz.underlying190 Tryz.underlying5 w.heap.size 0 l.length l.length (l.map fun x=>x % 256) (by simp) (fun i hi=>by
    rw [Nat.zero_add,hO.cellAt i (by omega)]
    simp [hi]) 9 Tryz.underlying9
   have hKB:strOfNums (l.map fun x=>x % 256) = kB l:=rfl
   rw [hKB] at hcv
   clear hjl hO hown hKB
   go_wp2
   go_ret
   exact ⟨rfl,hK⟩
section
variable {P:Program} {α:Type} [Rp α] {ops:Array Oper} {rest:List Oper} {o:Oper} {a:Act} {w:World} {Q:Exit->Act->World->Prop}
theorem Zfb (hgd:o.guard = none) (s x:Operand) (t:TypeId)
  (ho:o.op = .call { callee:=.builtin .append,args:=#[s,x],argTypes:=#[t,t] })
  (B:Nat) (e:TypeId) (i:TypeInfo) (z:Value) (bytes:Nat) (ht:P.underlying t = some (.slice e)) (hi:P.info? e = some i) (hz:i.zero = some z)
  (hsize:i.size = Rp.size α) (hby:i.bytes = bytes) (hzs:z.cells.size = Rp.size α) (hsz:0 < Rp.size α) (hbb:bytes<=65536)
  (w0:World) (v:Value) (l:List α) (fs:List (List Nat)) (hs:a.eval s = v) (hA:Acc B e w0 v l fs) (hK0:Only [] w0 w) (hB:B<=w0.heap.size)
  (g c:Nat) (cs:List Value) (y:α) (fp:List Nat) (hx:a.eval x = .slice (some ⟨g,0,none⟩) 1 c) (hsrc:∀ j u,cs[j]? = some u->w.cell? ⟨g,j,none⟩ = some u) (hcs:∀ u∈cs,u.oneCell' = true)
  (hy:Rp.rep w cs y fp) (hap:∀ b∈fp,v.ownBlock ≠ some b) (hlen:l.length + 1<=1073741824)
  (h:∀ v' w',Acc B e w' v' (l ++ [y]) (fs ++ [fp])->Only v.ownBlock.toList w w'->(∀ wz,Only [] wz w->wz.heap.size<=B->Only [] wz w') ->
   (Fresh B w0 fs.flatten->Fresh w0.heap.size w fp->Fresh B w' (fs ++ [fp]).flatten)->(v'.ownBlock = v.ownBlock\/v'.ownBlock = some w.heap.size)->wpList P ops Q rest (a.put o.dst v') w'):wpList P ops Q (o :: rest) a w:=
 wpList_plain hgd fun _ hK=>Zft s x t ho B e i z bytes ht hi hz hsize hby hzs hsz hbb w0 v l fs hs hA hK0 hB g c cs y fp hx hsrc hcs hy hap hlen fun v' w' h1 h2 h3 h4 h5=>hK _ _ (h v' w' h1 h2 h3 h4 h5)
end
section
variable {x:Puzzle} {m:Nat} {w:World} {m1:Nat} {W:World} {M:Nat} {L:List (List Int)} {D:List Int} {wr:World} {v1 v2:Value} {fs fd:List (List Nat)}
end
theorem Zri {P:Program} {α:Type} [Rp α] {ops:Array Oper} {o:Oper} {a:Act} {w:World} {Q:Exit->Act->World->Prop} {K:Act->World->Prop} {E:Prop} (hgd:o.guard = none) (s x:Operand) (t:TypeId)
  (ho:o.op = .call { callee:=.builtin .append,args:=#[s,x],argTypes:=#[t,t] })
  (B:Nat) (e:TypeId) (i:TypeInfo) (z:Value) (bytes:Nat) (ht:P.underlying t = some (.slice e)) (hi:P.info? e = some i) (hz:i.zero = some z)
  (hsize:i.size = Rp.size α) (hby:i.bytes = bytes) (hzs:z.cells.size = Rp.size α) (hsz:0 < Rp.size α) (hbb:bytes<=65536)
  (w0:World) (v:Value) (l:List α) (fs:List (List Nat)) (hs:a.eval s = v) (hA:Acc B e w0 v l fs) (hK0:Only [] w0 w) (hB:B<=w0.heap.size)
  (g c:Nat) (cs:List Value) (y:α) (fp:List Nat) (hx:a.eval x = .slice (some ⟨g,0,none⟩) 1 c) (hsrc:∀ j u,cs[j]? = some u->w.cell? ⟨g,j,none⟩ = some u) (hcs:∀ u∈cs,u.oneCell' = true)
  (hy:Rp.rep w cs y fp) (hap:∀ b∈fp,v.ownBlock ≠ some b) (hlen:l.length + 1<=1073741824)
  (h:∀ v' w',Acc B e w' v' (l ++ [y]) (fs ++ [fp])->Only v.ownBlock.toList w w'->(v'.ownBlock = v.ownBlock\/v'.ownBlock = some w.heap.size)->K (a.put o.dst v') w'):if Region.wanted o (yielded ops a.tmps) = true then Oper.wp P o a w K Q else E:=by
 rw [if_pos (by simp [Region.wanted,hgd])]
 exact Zft s x t ho B e i z bytes ht hi hz hsize hby hzs hsz hbb w0 v l fs hs hA hK0 hB g c cs y fp hx hsrc hcs hy hap hlen fun v' w' h1 h2 _ _ h5=>h v' w' h1 h2 h5
theorem Acc.flat0 {B:Nat} {e:TypeId} {w:World} {v:Value} {l:List Int} {fs:List (List Nat)} (h:Acc B e w v l fs):fs.flatten = []:=by
 obtain ⟨css,ho,hcl,hr⟩:=h.own
 have hl:=h.fl
 have:fs = List.replicate fs.length []:=by
  apply List.ext_getElem (by simp)
  intro k h1 h2
  have:=(hr k (by omega) (by omega) h1).2.2
  simpa using this
 rw [this];exact flatten_nil _
def AccI (B:Nat) (e:TypeId) (w:World) (v:Value) (l:List Int):Prop:=∃ fs,Acc B e w v l fs
section
variable {w w':World} {B:Nat} {e:TypeId} {v:Value} {l:List Int}
theorem AccI.only {fp:List Nat} (h:AccI B e w v l) (ho:Only fp w w') (hv:∀ g,v.ownBlock = some g->g ∉ fp):AccI B e w' v l:=by
 obtain ⟨fs,h⟩:=h
 exact ⟨fs,h.only ho (by rw [h.flat0];simp) hv⟩
theorem AccI.keep (h:AccI B e w v l) (ho:Only [] w w'):AccI B e w' v l:=h.only ho (by simp)
theorem AccI.form (h:AccI B e w v l):∃ a c,v = .slice a l.length c:=by
 obtain ⟨fs,h⟩:=h;exact h.form
theorem AccI.rd (h:AccI B e w v l):Rd w v l v.ownBlock.toList:=by
 obtain ⟨fs,h⟩:=h
 have:=h.rd (by decide)
 rwa [h.flat0,List.append_nil] at this
theorem AccI.fresh (h:AccI B e w v l):Fresh B w v.ownBlock.toList:=by
 obtain ⟨fs,h⟩:=h
 have:=h.fresh (by rw [h.flat0];exact Fresh.nil _ _)
 rwa [h.flat0,List.append_nil] at this
theorem AccI.ownlt (h:AccI B e w v l):∀ g,v.ownBlock = some g->B<=g/\g < w.heap.size:=by
 obtain ⟨fs,h⟩:=h;exact h.ownlt
theorem AccI.nil (w:World) (B:Nat) (e:TypeId):AccI B e w (.slice none 0 0) []:=⟨[],Acc.nil w B e⟩
theorem AccI.made (w:World) (B:Nat) (e:TypeId) {g:Nat} (hg:g = w.heap.size) (hB:B<=g):AccI B e (w.alloc (.cells #[] e)) (.slice (some ⟨g,0,none⟩) 0 0) []:=⟨[],Acc.made w B e hg hB⟩
end
section
variable {P:Program} {ops:Array Oper} {rest:List Oper} {o:Oper} {a:Act} {w:World} {Q:Exit->Act->World->Prop} {K:Act->World->Prop}
theorem Zap (hgd:o.guard = none) (s x:Operand) (t:TypeId)
  (ho:o.op = .call { callee:=.builtin .append,args:=#[s,x],argTypes:=#[t,t] })
  (B:Nat) (e:TypeId) (i:TypeInfo) (z:Value) (ht:P.underlying t = some (.slice e)) (hi:P.info? e = some i) (hz:i.zero = some z)
  (hsize:i.size = 1) (hby:i.bytes = 8) (hzs:z.cells.size = 1)
  (w0:World) (v:Value) (l:List Int) (hs:a.eval s = v) (hA:AccI B e w0 v l) (hK0:Only [] w0 w) (hB:B<=w0.heap.size)
  (g c:Nat) (n:Int) (hx:a.eval x = .slice (some ⟨g,0,none⟩) 1 c) (hsrc:w.cell? ⟨g,0,none⟩ = some (.int .i64 n)) (hn:I64 n) (hlen:l.length + 1<=1073741824)
  (h:∀ v' w',AccI B e w' v' (l ++ [n])->Only v.ownBlock.toList w w'->(∀ wz,Only [] wz w->wz.heap.size<=B->Only [] wz w')->(v'.ownBlock = v.ownBlock\/v'.ownBlock = some w.heap.size)->wpList P ops Q rest (a.put o.dst v') w'):wpList P ops Q (o :: rest) a w:=by
 obtain ⟨fs,hA⟩:=hA
 refine Zfb (α:=Int) hgd s x t ho B e i z 8 ht hi hz hsize hby hzs (by decide) (by decide) w0 v l fs hs hA hK0 hB g c [.int .i64 n] n [] hx ?_ (by intro u hu;simp at hu;subst hu;rfl) (int_rd w hn) (by simp) hlen fun v' w' h1 h2 h3 _ h5=>h v' w' ⟨_,h1⟩ h2 h3 h5
 intro j u hu
 cases j with
 | zero=>simp at hu;subst hu;exact hsrc
 | succ j=>simp at hu
theorem Zkk {E:Prop} (hgd:o.guard = none) (s x:Operand) (t:TypeId)
  (ho:o.op = .call { callee:=.builtin .append,args:=#[s,x],argTypes:=#[t,t] })
  (B:Nat) (e:TypeId) (i:TypeInfo) (z:Value) (ht:P.underlying t = some (.slice e)) (hi:P.info? e = some i) (hz:i.zero = some z)
  (hsize:i.size = 1) (hby:i.bytes = 8) (hzs:z.cells.size = 1)
  (w0:World) (v:Value) (l:List Int) (hs:a.eval s = v) (hA:AccI B e w0 v l) (hK0:Only [] w0 w) (hB:B<=w0.heap.size)
  (g c:Nat) (n:Int) (hx:a.eval x = .slice (some ⟨g,0,none⟩) 1 c) (hsrc:w.cell? ⟨g,0,none⟩ = some (.int .i64 n)) (hn:I64 n) (hlen:l.length + 1<=1073741824)
  (h:∀ v' w',AccI B e w' v' (l ++ [n])->Only v.ownBlock.toList w w'->(v'.ownBlock = v.ownBlock\/v'.ownBlock = some w.heap.size)->K (a.put o.dst v') w'):if Region.wanted o (yielded ops a.tmps) = true then Oper.wp P o a w K Q else E:=by
 obtain ⟨fs,hA⟩:=hA
 refine Zri (α:=Int) hgd s x t ho B e i z 8 ht hi hz hsize hby hzs (by decide) (by decide) w0 v l fs hs hA hK0 hB g c [.int .i64 n] n [] hx ?_ (by intro u hu;simp at hu;subst hu;rfl) (int_rd w hn) (by simp) hlen fun v' w' h1 h2 h5=>h v' w' ⟨_,h1⟩ h2 h5
 intro j u hu
 cases j with
 | zero=>simp at hu;subst hu;exact hsrc
 | succ j=>simp at hu
end
theorem lit1 (w:World) (u:Value) (e:TypeId) {g:Nat} (hg:g = w.heap.size):(w.alloc (.cells #[u] e)).cell? ⟨g,0,none⟩ = some u:=lit_src w [u] e hg 0 u rfl
theorem Zew {v' v:Value} {w:World} {b:Nat} (hN:v'.ownBlock = v.ownBlock\/v'.ownBlock = some w.heap.size) (h1:v.ownBlock ≠ some b) (h2:b < w.heap.size):v'.ownBlock ≠ some b:=by
 rcases hN with e | e
 ·rw [e];exact h1
 ·rw [e];intro h;injection h with h;omega
section
variable {w W wr w' wa wb:World} {G:List Nat} {e:TypeId} {o o':Value} {l:List Int} {n:Int}
end
theorem Zgf (l:List Int):(l.map fun x=>[Value.int .i64 x]).flatten = l.map (Value.int .i64):=by
 induction l with
 | nil=>rfl
 | cons x l ih=>simp only [List.map_cons,List.flatten_cons,ih,List.cons_append,List.nil_append]
theorem AccI.row {B:Nat} {e:TypeId} {w:World} {v:Value} {l:List Int} (h:AccI B e w v l):w.ownsRow B e 1 v l.length (l.map (Value.int .i64))/\∀ x∈l,I64 x:=by
 obtain ⟨fs,h⟩:=h
 obtain ⟨css,ho,hcl,hr⟩:=h.own
 have hfl:=h.fl
 have hc:css = l.map fun x=>[Value.int .i64 x]:=by
  apply List.ext_getElem (by simp [hcl])
  intro k h1 h2
  have hk:k < l.length:=by omega
  have:=(hr k h1 hk (by omega)).1
  rw [this];simp
 refine ⟨?_,fun x hx=>?_⟩
 ·rw [hc,Zgf] at ho;exact ho
 ·obtain ⟨k,hk,rfl⟩:=List.getElem_of_mem hx
  exact (hr k (by omega) hk (by omega)).2.1
theorem AccI.ofRow {B:Nat} {e:TypeId} {w:World} {v:Value} {l:List Int} (h:w.ownsRow B e 1 v l.length (l.map (Value.int .i64))) (hI:∀ x∈l,I64 x):AccI B e w v l:=by
 have hf:∀ n:Nat,(List.replicate n ([]:List Nat)).flatten = []:=fun n=>by induction n with | zero=>rfl | succ n ih=>simp [List.replicate_succ,ih]
 refine ⟨List.replicate l.length [],⟨l.map fun x=>[Value.int .i64 x],?_,by simp,fun k h1 h2 h3=>?_⟩,by simp,fun g _=>by rw [hf];simp⟩
 ·rw [Zgf];exact h
 ·exact ⟨by simp,hI _ (List.getElem_mem h2),by simp⟩
theorem AccI.put {B:Nat} {e:TypeId} {w:World} {v:Value} {l:List Int} (h:AccI B e w v l) {i:Nat} (hi:i < l.length) {x:Int} (hx:I64 x) :
  ∃ g c,v = .slice (some ⟨g,0,none⟩) l.length c/\w.cell? ⟨g,i,none⟩ = some (.int .i64 l[i])/\w.frozen? ⟨g,i,none⟩ = false/\B<=g/\AccI B e (w.setCell ⟨g,i,none⟩ (.int .i64 x)) v (l.set i x):=by
 obtain ⟨hO,hw⟩:=h.row
 obtain ⟨g,cap,rfl,hb,hlt⟩:=hO.form (by omega)
 obtain ⟨hO2,-⟩:=hO.stored i (.int .i64 x)
 refine ⟨g,cap,rfl,?_,hO.frozenAt i,hb,AccI.ofRow ?_ ?_⟩
 ·rw [hO.cellAt i (by omega)];simp [hi]
 ·rw [List.length_set,List.map_set];exact hO2
 ·intro y hy
  rcases List.mem_or_eq_of_mem_set hy with h1 | rfl
  ·exact hw y h1
  ·exact hx
theorem Zkj (s:ByteArray) (l:List Int) (k:Nat) (hk:k < s.size):subNm s (l ++ [(k:Int)]) = subNm s l ++ s.extract k (k + 1):=by
 have hk':k < s.data.size:=hk
 apply ByteArray.ext
 rw [ByteArray.data_append,ByteArray.data_extract]
 unfold subNm
 simp only [List.map_append,List.map_cons,List.map_nil,Int.toNat_natCast]
 apply Array.ext'
 simp [Array.getD]
 rw [dif_pos hk,List.drop_eq_getElem_cons (by simpa using hk'),List.take_succ_cons,List.take_zero]
 simp
theorem Zfh (s:ByteArray) (l:List Int):(subNm s l).size = l.length:=by
 show (List.toArray (l.map _)).size = _
 simp
set_option maxHeartbeats 4000000 in
theorem Zkc (cs:List Value) (x:Puzzle) (fp:List Nat) (v:Value) (sub:List Int) (fs0:List Nat) (w:World) (h:Rp.rep w cs x fp) (hs:Rd w v sub fs0) (hv:validPz x = true) (ht:trackB x.moves.length sub = true) :
  Calls Tryz.prog 169 #[.agg cs.toArray,v] w fun e w'=>∃ cs' fp',e = .returned (.agg (List.toArray cs'))/\Rp.rep w' cs' (subP x sub) fp'/\Only [] w w':=by
 have h0:=h
 obtain ⟨v2,rfl,p0,p1,h2⟩:=h
 obtain ⟨aM,cM,obM,fpM,rfl,-,SM⟩:=h2.open_
 obtain ⟨a,cap,rfl,I⟩:=hs.ints
 have hb:=I.bound
 have hbM:=SM.bound
 obtain ⟨l1,l2,l3⟩:=sub_len hv ht
 obtain ⟨q1,q20,q8,-⟩:=Zae hv
 obtain ⟨iI,hiI,hzI0,hzI1,hzI2⟩:=info_parts Tryz.info22
 have Hpn:=zH (Zag hv)
 have hin:=fun k hk=>sub_in (x:=x) (sub:=sub) ht (k:=k) hk
 have Hin:=zH hin
 have hns:x.names.size = x.moves.length:=by
  have hv':=hv
  unfold validPz at hv'
  rw [Bool.and_eq_true,Bool.and_eq_true,decide_eq_true_iff] at hv'
  exact hv'.2.2
 have Hns:=zH hns
 have hnsz:x.names.size<=8:=by omega
 clear hin hns ht hv p0 p1 h2
 obtain ⟨W0,hW0⟩:∃ W0,W0 = ((w.alloc (.cells #[.int .i64 x.points,.string x.names,.slice aM x.moves.length cM] 33)).alloc (.cells #[.int .i64 0,.string ⟨#[]⟩,.slice none 0 0] 33)).alloc (.cells #[.int .i64 x.points,.string ⟨#[]⟩,.slice none 0 0] 33):=⟨_,rfl⟩
 have x00:=(Blk.new w [.int .i64 x.points,.string x.names,.slice aM x.moves.length cM] 33).keep ((Only.refl [] _).alloc (.cells #[.int .i64 0,.string ⟨#[]⟩,.slice none 0 0] 33))
 have x01:=x00.cell 0 rfl
 have X0:Blk W0 w.heap.size [.int .i64 x.points,.string x.names,.slice aM x.moves.length cM]:=by rw [hW0];exact x00.keep ((Only.refl [] _).alloc _)
 have O0:Blk W0 (w.heap.size + 1 + 1) [.int .i64 x.points,.string ⟨#[]⟩,.slice none 0 0]:=by rw [hW0];exact Blk.new_at (by simp)
 have R0:Blk W0 (w.heap.size + 1) [.int .i64 0,.string ⟨#[]⟩,.slice none 0 0]:=by rw [hW0];exact (Blk.new_at (by simp)).keep ((Only.refl [] _).alloc _)
 have K0:Only [] w W0:=by rw [hW0];exact (((Only.refl [] w).alloc _).alloc _).alloc _
 have hz0:W0.heap.size = w.heap.size + 3:=by rw [hW0];simp
 go_enter Tryz.func169,Tryz.ntmps169
 go_upto_region 3 with fail
 rw [<- hW0]
 clear hW0 x00 x01
 go_loopw [13] (fun c wr=>∃ (j:Nat) (mv:Value) (fs:List (List Nat)),j<=sub.length/\c = .int .i64 j/\Blk wr (w.heap.size + 1 + 1) [.int .i64 x.points,.string (subNm x.names (sub.take j)),mv]/\Acc (w.heap.size + 3) 25 wr mv ((sub.take j).map fun k=>x.moves.getD k.toNat []) fs/\Fresh (w.heap.size + 3) wr fs.flatten/\Only [w.heap.size + 1 + 1] W0 wr)
  (fun c _=>sub.length - (intOf c).toNat)
 case atStart=>exact ⟨0,.slice none 0 0,[],Nat.zero_le _,rfl,O0,Acc.nil _ _ _,Fresh.nil _ _,Only.refl _ _⟩
 case round=>
  obtain ⟨W3,hnew⟩:∃ W,W = wr:=⟨_,rfl⟩
  subst hnew
  obtain ⟨j,mv,fs,hj,rfl,hO,hA,hF,hK⟩:=hrel
  have kW:Only [] w W3:=K0.then_ hK (fun b hb hl=>by simp at hb;omega)
  have hX:=X0.only hK (by simp;omega)
  by_cases hlt:j < sub.length
  ·obtain ⟨b,off,rfl,-,hc⟩:=I.at_ j hlt
   have hk:=Hin.out sub[j] (List.getElem_mem hlt)
   obtain ⟨kn,hkn⟩:=Int.eq_ofNat_of_zero_le hk.1
   have hknl:kn < x.moves.length:=by omega
   rw [hkn] at hc
   have hcw:=kW.cell (by simp) hc
   have hsn:=Zkj x.names (sub.take j) kn (by rw [Hns.out];exact hknl)
   have htk:=Zac sub j hlt
   rw [hkn] at htk
   rw [<- htk] at hsn
   have hsz:=Zfh x.names (sub.take j)
   rw [List.length_take] at hsz
   obtain ⟨nm,hnm⟩:∃ nm,nm = subNm x.names (sub.take j):=⟨_,rfl⟩
   rw [<- hnm] at hsn hsz hO
   have hnms:nm.size<=8:=by omega
   have hex:(x.names.extract kn (kn + 1)).size = 1:=by rw [ByteArray.size_extract];have:=Hns.out;omega
   obtain ⟨ex,hexe⟩:∃ ex,ex = x.names.extract kn (kn + 1):=⟨_,rfl⟩
   have hw1:IntKind.i64.wrap ((kn:Int) + 1) = ((kn + 1:Nat):Int):=by rw [IntKind.wrap_i64];omega
   have hkI:(kn:Int)<=(x.names.size:Int):=by have:=Hns.out;omega
   have hcz:¬ (9223372036854775807 < nm.size + 1):=by omega
   have hkI3:(0:Int)<=(kn:Int) + 1:=by omega
   have hkI4:(kn:Int)<=(kn:Int) + 1:=by omega
   have hkI2:(kn:Int) + 1<=(x.names.size:Int):=by have:=Hns.out;omega
   have y1:=hO.cell 1 rfl
   have z1:=hO.frozen 1
   have x1:=hX.cell 1 rfl
   have HA:=zH hA
   have HF:=zH hF
   clear hk hc hnm hsz htk hA hF
   go_upto_region 5 with fail
   go_cut [] (fun wx=>wx = W3.drew.setCell ⟨w.heap.size + 1 + 1,1,none⟩ (.string (nm ++ x.names.extract kn (kn + 1))))
   case first=>
    go_region_law (fail)
    all_goals go_wp2
    all_goals go_meet
    all_goals rfl
   case rest=>
    obtain ⟨W4,hnew⟩:∃ W,W = wc:=⟨_,rfl⟩
    subst hnew
    have kd:Only [] W3 W3.drew:=zO.drew
    have k4:Only [w.heap.size + 1 + 1] W3 W4:=by rw [hcut];exact (kd.weaken _).setCell (by simp) _
    have O4:Blk W4 (w.heap.size + 1 + 1) [.int .i64 x.points,.string (nm ++ x.names.extract kn (kn + 1)),mv]:=by rw [hcut];exact (hO.keep kd).set 1 _
    rw [<- hsn] at O4
    have hap:∀ g,mv.ownBlock = some g->g ∉ [w.heap.size + 1 + 1]:=fun g hg hm=>by have:=(HA.out.ownlt g hg).1;simp at hm;omega
    have A4:=HA.out.only k4 (fun g hg hm=>by have:=HF.out.ge g hg;simp at hm;omega) hap
    have F4:=HF.out.only k4 (fun g hg hm=>by have:=HF.out.ge g hg;simp at hm;omega)
    have X4:=hX.only k4 (by simp;omega)
    have kW4:Only [] w W4:=kW.then_ k4 (fun b hb hl=>by simp at hb;omega)
    have hK4:=hK.trans k4
    clear hcut y1 z1 x1 hO hX hex hexe ex hw1 hkI hkI2 hcw HA HF kd k4 hsn
    obtain ⟨nm2,hnm2⟩:∃ nm2,nm2 = subNm x.names (sub.take (j + 1)):=⟨_,rfl⟩
    rw [<- hnm2] at O4
    have Hnm2:=zH hnm2
    clear hnm2
    obtain ⟨bM,oM,um,rfl,-,hcM,hum⟩:=SM.atRow kn hknl
    obtain ⟨am,cm,rfl,Im⟩:=hum.ints
    have hmd:x.moves.getD kn [] = x.moves[kn]:=Zab hknl
    obtain ⟨mo,hmo⟩:∃ mo,mo = x.moves[kn]:=⟨_,rfl⟩
    rw [<- hmo] at hmd hcM Im
    have Hmd:=zH hmd
    have hknI:(kn:Int) < (x.moves.length:Int):=by omega
    obtain ⟨a4,c4,hmv⟩:=A4.form
    obtain ⟨nL,hnL⟩:∃ nL,nL = ((sub.take j).map fun k=>x.moves.getD k.toNat []).length:=⟨_,rfl⟩
    rw [<- hnL] at hmv
    subst hmv
    have hnL8:nL<=8:=by rw [hnL,List.length_map,List.length_take];omega
    have HnL:=zH hnL
    have hmo0:=hmo
    have Hmap:=zH (show (sub.take (j + 1)).map (fun k=>x.moves.getD k.toNat []) = (sub.take j).map (fun k=>x.moves.getD k.toNat []) ++ [mo] by
     rw [Zac sub j hlt,List.map_append,hkn]
     show _ ++ [x.moves.getD (kn:Int).toNat []] = _
     rw [Int.toNat_natCast,hmd])
    clear hmo hmd hnL hum
    have hmol:mo.length<=20:=by rw [hmo0];have:=(Hpn.out _ (List.getElem_mem hknl)).1;omega
    have Hcl:=zH (fun (W:World) (hW:Only [] W4 W)=>Zpc (.slice am mo.length cm) mo _ W (Im.keep (kW4.trans hW)).rd (by omega))
    have y2:=O4.cell 2 rfl
    have x2:=X4.cell 2 rfl
    have hcM4:=kW4.cell (by simp) hcM
    have hszB:w.heap.size + 3<=W4.heap.size:=by have:=hK4.size;omega
    have hlL:((sub.take j).map fun k=>x.moves.getD k.toNat []).length + 1<=1073741824:=by rw [<- HnL.out];omega
    have HA4:=zH A4
    have HF4:=zH F4
    have hown:∀ g,(Value.slice a4 nL c4).ownBlock = some g->w.heap.size + 3<=g:=fun g hg=>(A4.ownlt g hg).1
    have Hown:=zH hown
    clear hmo0 Im A4 F4 hown hcM
    go_upto_region 6 with fail
    go_region_law (first
     | (go_simp;go_at_call 105;(with_reducible refine (Hcl.out _ zA).mono ?_);rintro e w5 ⟨u5,f5,rfl,r5,F5,t5⟩;obtain ⟨a5,c5,rfl,I5⟩:=r5.ints;have k5:Only [] W4 w5:=Only.trans zA t5;have F5':Fresh W4.heap.size w5 f5:=F5.mono (by have hq:Only [] W4 _:=(show Only [] W4 _ from zA);exact hq.size);have O5:=O4.keep k5;have y25:=O5.cell 2 rfl;have O6:=O5.keep ((Only.refl [] w5).alloc (.cells #[.slice a5 mo.length c5] 25));have y26:=O6.cell 2 rfl)
     | (refine Zkn rfl _ _ 22 rfl (w.heap.size + 3) 25 iI _ 24 Tryz.underlying22 hiI hzI0 hzI1 hzI2 rfl (by decide) (by decide) W4 (.slice a4 nL c4) ((sub.take j).map fun k=>x.moves.getD k.toNat []) fs rfl HA4.out HF4.out zA hszB w5.heap.size 1 [.slice a5 mo.length c5] mo f5 rfl (lit_src w5 [.slice a5 mo.length c5] _ rfl) (by intro u hu;simp at hu;subst hu;rfl) (zK I5.rd (zO.alloc _)) (F5'.keep (zO.alloc _)) hlL w (kW4.trans zA) (by omega) ?_;intro v7 w7 hA7 hF7 hK7 hO7;obtain ⟨a7,n7,c7,rfl⟩:∃ a n c,v7 = Value.slice a n c:=(let ⟨a,c,hh⟩:=hA7.form;⟨a,_,c,hh⟩);have O7:=O6.only hO7 (fun hm=>by have:=Hown.out _ (by simpa using hm);omega);have y7:=O7.cell 2 rfl;have z7:=O7.frozen 2;have hK7':Only [w.heap.size + 1 + 1] W0 w7:=(hK4.keepThen (k5.alloc _)).then_ hO7 (fun b hb hl=>by have:=Hown.out b (by simpa using hb);omega);have h7l:=hA7.ownlt;have HA7:=zH hA7;have HF7:=zH hF7;have HO7:=zH O7;clear hA7 hF7 O7)
     | fail)
    all_goals go_wp2
    all_goals
     have kf:Only [w.heap.size + 1 + 1] w7 (w7.setCell ⟨w.heap.size + 1 + 1,2,none⟩ (.slice a7 n7 c7)):=zO.setCell (by simp) _
     go_roundw
     case rel=>exact ⟨j + 1,.slice a7 n7 c7,fs ++ [f5],by omega,by go_num,by rw [<- Hnm2.out];exact HO7.out.set 2 (.slice a7 n7 c7),by rw [Hmap.out];exact HA7.out.only kf (fun g hg hm=>by have:=HF7.out.ge g hg;simp at hm;omega) (fun g hg hm=>by have:=(h7l g hg).1;simp at hm;omega),HF7.out.only kf (fun g hg hm=>by have:=HF7.out.ge g hg;simp at hm;omega),hK7'.trans kf⟩
     case measure=>simp [intOf];omega
  ·have hje:j = sub.length:=by omega
   rw [hje,List.take_length] at hO hA
   obtain ⟨am,cm,hmv⟩:=hA.form
   subst hmv
   rw [List.length_map] at hO hA
   obtain ⟨y0,y1,y2⟩:=hO.c3
   have hR:=R0.only hK (by simp)
   obtain ⟨g0,g1,g2⟩:=hR.c3
   obtain ⟨z0,z1,z2⟩:=hR.f3
   have hjI:¬ (j:Int) < (sub.length:Int):=by omega
   obtain ⟨nm,hnm⟩:∃ nm,nm = subNm x.names sub:=⟨_,rfl⟩
   have hnms:nm.size<=maxLen:=by rw [hnm,Zfh];unfold maxLen;omega
   rw [<- hnm] at hO y1
   have Hnm:=zH hnm
   have HA:=zH hA
   have HF:=zH hF
   have hp0:I64 x.points:=by unfold I64;omega
   have Rf:=((hR.set 0 (.int .i64 x.points)).set 1 (.string nm)).set 2 (.slice am sub.length cm)
   simp only [List.set] at Rf
   have kf:Only [w.heap.size + 1] W3 (((W3.setCell ⟨w.heap.size + 1,0,none⟩ (.int .i64 x.points)).setCell ⟨w.heap.size + 1,1,none⟩ (.string nm)).setCell ⟨w.heap.size + 1,2,none⟩ (.slice am sub.length cm)):=((zO.setCell (by simp) _).setCell (by simp) _).setCell (by simp) _
   clear hA hF hje hnm
   go_wp2
   obtain ⟨wf,hwf⟩:∃ wf,wf = (((W3.setCell ⟨w.heap.size + 1,0,none⟩ (.int .i64 x.points)).setCell ⟨w.heap.size + 1,1,none⟩ (.string nm)).setCell ⟨w.heap.size + 1,2,none⟩ (.slice am sub.length cm)):=⟨_,rfl⟩
   rw [<- hwf] at Rf kf ⊢
   clear hwf y0 y1 y2 g0 g1 g2 z0 z1 z2
   obtain ⟨r0,r1,r2⟩:=Rf.c3
   have Af:=HA.out.only kf (fun g hg hm=>by have:=HF.out.ge g hg;simp at hm;omega) (fun g hg hm=>by have:=(HA.out.ownlt g hg).1;simp at hm;omega)
   refine bodyPost_ret (v:=.agg #[.int .i64 x.points,.string nm,.slice am sub.length cm]) (by simp [results,Tryz.results169,go_sem,r0,r1,r2]) rfl ⟨[.int .i64 x.points,.string nm,.slice am sub.length cm],rfl,⟨(Value.slice am sub.length cm).ownBlock.toList ++ fs.flatten,.slice am sub.length cm,by rw [Hnm.out];rfl,hp0,by show (subNm x.names sub).size<=maxLen;rw [<- Hnm.out];exact hnms,?_⟩,kW.then_ kf (fun b hb hl=>by simp at hb;omega)⟩
   have:=Af.rd (by decide)
   exact this
set_option maxHeartbeats 4000000 in
theorem Zfd (cs:List Value) (x:Puzzle) (fp:List Nat) (v:Value) (sub:List Int) (fs0:List Nat) (w:World) (h:Rp.rep w cs x fp) (hs:Rd w v sub fs0) (hv:validPz x = true) (ht:trackB x.moves.length sub = true) :
  Calls Tryz.prog 125 #[.agg cs.toArray,v] w fun e w'=>∃ cs' fp',e = .returned (.agg (List.toArray cs'))/\Rp.rep w' cs' (subP x sub) fp'/\Only [] w w':=by
 have h0:=h
 obtain ⟨v2,rfl,p0,p1,h2⟩:=h
 obtain ⟨aM,cM,obM,fpM,rfl,-,SM⟩:=h2.open_
 obtain ⟨a,cap,rfl,I⟩:=hs.ints
 have hb:=I.bound
 have hbM:=SM.bound
 obtain ⟨l1,l2,l3⟩:=sub_len hv ht
 obtain ⟨q1,q20,q8,-⟩:=Zae hv
 obtain ⟨iI,hiI,hzI0,hzI1,hzI2⟩:=info_parts Tryz.info22
 have Hpn:=zH (Zag hv)
 have hin:=fun k hk=>sub_in (x:=x) (sub:=sub) ht (k:=k) hk
 have Hin:=zH hin
 have hns:x.names.size = x.moves.length:=by
  have hv':=hv
  unfold validPz at hv'
  rw [Bool.and_eq_true,Bool.and_eq_true,decide_eq_true_iff] at hv'
  exact hv'.2.2
 have Hns:=zH hns
 have hnsz:x.names.size<=8:=by omega
 clear hin hns ht hv p0 p1 h2
 obtain ⟨W0,hW0⟩:∃ W0,W0 = ((w.alloc (.cells #[.int .i64 x.points,.string x.names,.slice aM x.moves.length cM] 33)).alloc (.cells #[.int .i64 0,.string ⟨#[]⟩,.slice none 0 0] 33)).alloc (.cells #[.int .i64 x.points,.string ⟨#[]⟩,.slice none 0 0] 33):=⟨_,rfl⟩
 have x00:=(Blk.new w [.int .i64 x.points,.string x.names,.slice aM x.moves.length cM] 33).keep ((Only.refl [] _).alloc (.cells #[.int .i64 0,.string ⟨#[]⟩,.slice none 0 0] 33))
 have x01:=x00.cell 0 rfl
 have X0:Blk W0 w.heap.size [.int .i64 x.points,.string x.names,.slice aM x.moves.length cM]:=by rw [hW0];exact x00.keep ((Only.refl [] _).alloc _)
 have O0:Blk W0 (w.heap.size + 1 + 1) [.int .i64 x.points,.string ⟨#[]⟩,.slice none 0 0]:=by rw [hW0];exact Blk.new_at (by simp)
 have R0:Blk W0 (w.heap.size + 1) [.int .i64 0,.string ⟨#[]⟩,.slice none 0 0]:=by rw [hW0];exact (Blk.new_at (by simp)).keep ((Only.refl [] _).alloc _)
 have K0:Only [] w W0:=by rw [hW0];exact (((Only.refl [] w).alloc _).alloc _).alloc _
 have hz0:W0.heap.size = w.heap.size + 3:=by rw [hW0];simp
 go_enter Tryz.func125,Tryz.ntmps125
 go_upto_region 3 with fail
 rw [<- hW0]
 clear hW0 x00 x01
 go_loopw [6] (fun c wr=>∃ (j:Nat) (mv:Value) (fs:List (List Nat)),j<=sub.length/\c = .int .i64 j/\Blk wr (w.heap.size + 1 + 1) [.int .i64 x.points,.string (subNm x.names (sub.take j)),mv]/\Acc (w.heap.size + 3) 25 wr mv ((sub.take j).map fun k=>x.moves.getD k.toNat []) fs/\Fresh (w.heap.size + 3) wr fs.flatten/\Only [w.heap.size + 1 + 1] W0 wr)
  (fun c _=>sub.length - (intOf c).toNat)
 case atStart=>exact ⟨0,.slice none 0 0,[],Nat.zero_le _,rfl,O0,Acc.nil _ _ _,Fresh.nil _ _,Only.refl _ _⟩
 case round=>
  obtain ⟨W3,hnew⟩:∃ W,W = wr:=⟨_,rfl⟩
  subst hnew
  obtain ⟨j,mv,fs,hj,rfl,hO,hA,hF,hK⟩:=hrel
  have kW:Only [] w W3:=K0.then_ hK (fun b hb hl=>by simp at hb;omega)
  have hX:=X0.only hK (by simp;omega)
  by_cases hlt:j < sub.length
  ·obtain ⟨b,off,rfl,-,hc⟩:=I.at_ j hlt
   have hk:=Hin.out sub[j] (List.getElem_mem hlt)
   obtain ⟨kn,hkn⟩:=Int.eq_ofNat_of_zero_le hk.1
   have hknl:kn < x.moves.length:=by omega
   rw [hkn] at hc
   have hcw:=kW.cell (by simp) hc
   have hsn:=Zkj x.names (sub.take j) kn (by rw [Hns.out];exact hknl)
   have htk:=Zac sub j hlt
   rw [hkn] at htk
   rw [<- htk] at hsn
   have hsz:=Zfh x.names (sub.take j)
   rw [List.length_take] at hsz
   obtain ⟨nm,hnm⟩:∃ nm,nm = subNm x.names (sub.take j):=⟨_,rfl⟩
   rw [<- hnm] at hsn hsz hO
   have hnms:nm.size<=8:=by omega
   have hex:(x.names.extract kn (kn + 1)).size = 1:=by rw [ByteArray.size_extract];have:=Hns.out;omega
   obtain ⟨ex,hexe⟩:∃ ex,ex = x.names.extract kn (kn + 1):=⟨_,rfl⟩
   have hw1:IntKind.i64.wrap ((kn:Int) + 1) = ((kn + 1:Nat):Int):=by rw [IntKind.wrap_i64];omega
   have hkI:(kn:Int)<=(x.names.size:Int):=by have:=Hns.out;omega
   have hcz:¬ (9223372036854775807 < nm.size + 1):=by omega
   have hkI3:(0:Int)<=(kn:Int) + 1:=by omega
   have hkI4:(kn:Int)<=(kn:Int) + 1:=by omega
   have hkI2:(kn:Int) + 1<=(x.names.size:Int):=by have:=Hns.out;omega
   have y1:=hO.cell 1 rfl
   have z1:=hO.frozen 1
   have x1:=hX.cell 1 rfl
   have HA:=zH hA
   have HF:=zH hF
   clear hk hc hnm hsz htk hA hF
   go_upto_region 6 with fail
   go_cut [] (fun wx=>wx = W3.drew.setCell ⟨w.heap.size + 1 + 1,1,none⟩ (.string (nm ++ x.names.extract kn (kn + 1))))
   case first=>
    go_region_law (fail)
    all_goals go_wp2
    all_goals go_meet
    all_goals rfl
   case rest=>
    obtain ⟨W4,hnew⟩:∃ W,W = wc:=⟨_,rfl⟩
    subst hnew
    have kd:Only [] W3 W3.drew:=zO.drew
    have k4:Only [w.heap.size + 1 + 1] W3 W4:=by rw [hcut];exact (kd.weaken _).setCell (by simp) _
    have O4:Blk W4 (w.heap.size + 1 + 1) [.int .i64 x.points,.string (nm ++ x.names.extract kn (kn + 1)),mv]:=by rw [hcut];exact (hO.keep kd).set 1 _
    rw [<- hsn] at O4
    have hap:∀ g,mv.ownBlock = some g->g ∉ [w.heap.size + 1 + 1]:=fun g hg hm=>by have:=(HA.out.ownlt g hg).1;simp at hm;omega
    have A4:=HA.out.only k4 (fun g hg hm=>by have:=HF.out.ge g hg;simp at hm;omega) hap
    have F4:=HF.out.only k4 (fun g hg hm=>by have:=HF.out.ge g hg;simp at hm;omega)
    have X4:=hX.only k4 (by simp;omega)
    have kW4:Only [] w W4:=kW.then_ k4 (fun b hb hl=>by simp at hb;omega)
    have hK4:=hK.trans k4
    clear hcut y1 z1 x1 hO hX hex hexe ex hw1 hkI hkI2 hcw HA HF kd k4 hsn
    obtain ⟨nm2,hnm2⟩:∃ nm2,nm2 = subNm x.names (sub.take (j + 1)):=⟨_,rfl⟩
    rw [<- hnm2] at O4
    have Hnm2:=zH hnm2
    clear hnm2
    obtain ⟨bM,oM,um,rfl,-,hcM,hum⟩:=SM.atRow kn hknl
    obtain ⟨am,cm,rfl,Im⟩:=hum.ints
    have hmd:x.moves.getD kn [] = x.moves[kn]:=Zab hknl
    obtain ⟨mo,hmo⟩:∃ mo,mo = x.moves[kn]:=⟨_,rfl⟩
    rw [<- hmo] at hmd hcM Im
    have Hmd:=zH hmd
    have hknI:(kn:Int) < (x.moves.length:Int):=by omega
    obtain ⟨a4,c4,hmv⟩:=A4.form
    obtain ⟨nL,hnL⟩:∃ nL,nL = ((sub.take j).map fun k=>x.moves.getD k.toNat []).length:=⟨_,rfl⟩
    rw [<- hnL] at hmv
    subst hmv
    have hnL8:nL<=8:=by rw [hnL,List.length_map,List.length_take];omega
    have HnL:=zH hnL
    have hmo0:=hmo
    have Hmap:=zH (show (sub.take (j + 1)).map (fun k=>x.moves.getD k.toNat []) = (sub.take j).map (fun k=>x.moves.getD k.toNat []) ++ [mo] by
     rw [Zac sub j hlt,List.map_append,hkn]
     show _ ++ [x.moves.getD (kn:Int).toNat []] = _
     rw [Int.toNat_natCast,hmd])
    clear hmo hmd hnL hum
    have hmol:mo.length<=20:=by rw [hmo0];have:=(Hpn.out _ (List.getElem_mem hknl)).1;omega
    have Hcl:=zH (fun (W:World) (hW:Only [] W4 W)=>Zeq (.slice am mo.length cm) mo _ W (Im.keep (kW4.trans hW)).rd (by omega))
    have y2:=O4.cell 2 rfl
    have x2:=X4.cell 2 rfl
    have hcM4:=kW4.cell (by simp) hcM
    have hszB:w.heap.size + 3<=W4.heap.size:=by have:=hK4.size;omega
    have hlL:((sub.take j).map fun k=>x.moves.getD k.toNat []).length + 1<=1073741824:=by rw [<- HnL.out];omega
    have HA4:=zH A4
    have HF4:=zH F4
    have hown:∀ g,(Value.slice a4 nL c4).ownBlock = some g->w.heap.size + 3<=g:=fun g hg=>(A4.ownlt g hg).1
    have Hown:=zH hown
    clear hmo0 Im A4 F4 hown hcM
    go_upto_region 7 with fail
    go_region_law (first
     | (go_simp;go_at_call 63;(with_reducible refine (Hcl.out _ zA).mono ?_);rintro e w5 ⟨u5,f5,rfl,r5,F5,t5⟩;obtain ⟨a5,c5,rfl,I5⟩:=r5.ints;have k5:Only [] W4 w5:=Only.trans zA t5;have F5':Fresh W4.heap.size w5 f5:=F5.mono (by have hq:Only [] W4 _:=(show Only [] W4 _ from zA);exact hq.size);have O5:=O4.keep k5;have y25:=O5.cell 2 rfl;have O6:=O5.keep ((Only.refl [] w5).alloc (.cells #[.slice a5 mo.length c5] 25));have y26:=O6.cell 2 rfl)
     | (refine Zkn rfl _ _ 22 rfl (w.heap.size + 3) 25 iI _ 24 Tryz.underlying22 hiI hzI0 hzI1 hzI2 rfl (by decide) (by decide) W4 (.slice a4 nL c4) ((sub.take j).map fun k=>x.moves.getD k.toNat []) fs rfl HA4.out HF4.out zA hszB w5.heap.size 1 [.slice a5 mo.length c5] mo f5 rfl (lit_src w5 [.slice a5 mo.length c5] _ rfl) (by intro u hu;simp at hu;subst hu;rfl) (zK I5.rd (zO.alloc _)) (F5'.keep (zO.alloc _)) hlL w (kW4.trans zA) (by omega) ?_;intro v7 w7 hA7 hF7 hK7 hO7;obtain ⟨a7,n7,c7,rfl⟩:∃ a n c,v7 = Value.slice a n c:=(let ⟨a,c,hh⟩:=hA7.form;⟨a,_,c,hh⟩);have O7:=O6.only hO7 (fun hm=>by have:=Hown.out _ (by simpa using hm);omega);have y7:=O7.cell 2 rfl;have z7:=O7.frozen 2;have hK7':Only [w.heap.size + 1 + 1] W0 w7:=(hK4.keepThen (k5.alloc _)).then_ hO7 (fun b hb hl=>by have:=Hown.out b (by simpa using hb);omega);have h7l:=hA7.ownlt;have HA7:=zH hA7;have HF7:=zH hF7;have HO7:=zH O7;clear hA7 hF7 O7)
     | fail)
    all_goals go_wp2
    all_goals
     have kf:Only [w.heap.size + 1 + 1] w7 (w7.setCell ⟨w.heap.size + 1 + 1,2,none⟩ (.slice a7 n7 c7)):=zO.setCell (by simp) _
     go_roundw
     case rel=>exact ⟨j + 1,.slice a7 n7 c7,fs ++ [f5],by omega,by go_num,by rw [<- Hnm2.out];exact HO7.out.set 2 (.slice a7 n7 c7),by rw [Hmap.out];exact HA7.out.only kf (fun g hg hm=>by have:=HF7.out.ge g hg;simp at hm;omega) (fun g hg hm=>by have:=(h7l g hg).1;simp at hm;omega),HF7.out.only kf (fun g hg hm=>by have:=HF7.out.ge g hg;simp at hm;omega),hK7'.trans kf⟩
     case measure=>simp [intOf];omega
  ·have hje:j = sub.length:=by omega
   rw [hje,List.take_length] at hO hA
   obtain ⟨am,cm,hmv⟩:=hA.form
   subst hmv
   rw [List.length_map] at hO hA
   obtain ⟨y0,y1,y2⟩:=hO.c3
   have hR:=R0.only hK (by simp)
   obtain ⟨g0,g1,g2⟩:=hR.c3
   obtain ⟨z0,z1,z2⟩:=hR.f3
   have hjI:¬ (j:Int) < (sub.length:Int):=by omega
   obtain ⟨nm,hnm⟩:∃ nm,nm = subNm x.names sub:=⟨_,rfl⟩
   have hnms:nm.size<=maxLen:=by rw [hnm,Zfh];unfold maxLen;omega
   rw [<- hnm] at hO y1
   have Hnm:=zH hnm
   have HA:=zH hA
   have HF:=zH hF
   have hp0:I64 x.points:=by unfold I64;omega
   have Rf:=((hR.set 0 (.int .i64 x.points)).set 1 (.string nm)).set 2 (.slice am sub.length cm)
   simp only [List.set] at Rf
   have kf:Only [w.heap.size + 1] W3 (((W3.setCell ⟨w.heap.size + 1,0,none⟩ (.int .i64 x.points)).setCell ⟨w.heap.size + 1,1,none⟩ (.string nm)).setCell ⟨w.heap.size + 1,2,none⟩ (.slice am sub.length cm)):=((zO.setCell (by simp) _).setCell (by simp) _).setCell (by simp) _
   clear hA hF hje hnm
   go_wp2
   obtain ⟨wf,hwf⟩:∃ wf,wf = (((W3.setCell ⟨w.heap.size + 1,0,none⟩ (.int .i64 x.points)).setCell ⟨w.heap.size + 1,1,none⟩ (.string nm)).setCell ⟨w.heap.size + 1,2,none⟩ (.slice am sub.length cm)):=⟨_,rfl⟩
   rw [<- hwf] at Rf kf ⊢
   clear hwf y0 y1 y2 g0 g1 g2 z0 z1 z2
   obtain ⟨r0,r1,r2⟩:=Rf.c3
   have Af:=HA.out.only kf (fun g hg hm=>by have:=HF.out.ge g hg;simp at hm;omega) (fun g hg hm=>by have:=(HA.out.ownlt g hg).1;simp at hm;omega)
   refine bodyPost_ret (v:=.agg #[.int .i64 x.points,.string nm,.slice am sub.length cm]) (by simp [results,Tryz.results125,go_sem,r0,r1,r2]) rfl ⟨[.int .i64 x.points,.string nm,.slice am sub.length cm],rfl,⟨(Value.slice am sub.length cm).ownBlock.toList ++ fs.flatten,.slice am sub.length cm,by rw [Hnm.out];rfl,hp0,by show (subNm x.names sub).size<=maxLen;rw [<- Hnm.out];exact hnms,?_⟩,kW.then_ kf (fun b hb hl=>by simp at hb;omega)⟩
   have:=Af.rd (by decide)
   exact this
end Go.Proofs.YtclhblofchfglaaGreat
