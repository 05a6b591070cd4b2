/- Inverse words: the reference's and the program's. -/
import Derived.Test.YtjfmkolnleicnaaGreatDoorRowAcceptedClaimsG8
import Derived.RangeFuncBox
import Derived.RangeFuncLeaves
import Derived.RangeFuncWrites
import Derived.RangeFuncNested
import Derived.Shelf.Abstract
import Derived.OwnWalkIn
import Derived.TacticsInMore
import Derived.LoopNIn
import Derived.LoopIn
import Derived.Maps.AppendAt
import Derived.Test.YtjfmkolnleicnaaGreatDoorRowAcceptedClaimsG2
import Derived.Test.YtjfmkolnleicnaaGreatDoorRowAcceptedClaimsG11
import Derived.Test.YtjfmkolnleicnaaGreatDoorRowAcceptedClaimsG15
import Derived.Test.YtjfmkolnleicnaaGreatDoorRowAcceptedClaimsG17
import Derived.Test.YtjfmkolnleicnaaGreatDoorRowAcceptedClaimsG18
import Derived.Test.YtjfmkolnleicnaaGreatDoorRowAcceptedClaimsG12
import Derived.Test.YtjfmkolnleicnaaGreatDoorRowAcceptedClaimsG22
import Derived.Test.YtjfmkolnleicnaaGreatDoorRowAcceptedClaimsG13
import Derived.Shelf.Strconv.Itoa4
import Derived.Test.YtjfmkolnleicnaaGreatDoorRowAcceptedClaimsG21
import Derived.Test.YtjfmkolnleicnaaGreatDoorRowAcceptedClaimsG23
import Derived.Test.YtjfmkolnleicnaaGreatDoorRowAcceptedClaimsG9
import Derived.Deep.RegionHeld3
namespace Go.Proofs.YtjfmkolnleicnaaGreatDoor
open Go.RowKit Go.Shelf
set_option maxRecDepth 10000
def invW (l:List Int):List Int:=(l.map fun x=>-x).reverse
theorem Ztz {m:Nat} {l:List Int} (h:∀ x∈l,x∈ltrs m):∀ x∈invW l,x∈ltrs m:=by
 intro x hx
 unfold invW at hx
 rw [List.mem_reverse,List.mem_map] at hx
 obtain ⟨y,hy,rfl⟩:=hx
 have:=Zbv.1 (h y hy)
 rw [Zbv];omega
end Go.Proofs.YtjfmkolnleicnaaGreatDoor

namespace Go.Proofs.YtjfmkolnleicnaaGreatDoor
open Go.RowKit
set_option maxRecDepth 10000
theorem snocInd {P:List Int->Prop} (h0:P []) (h1:∀ l x,P l->P (l ++ [x])) (l:List Int):P l:=by
 have key:∀ m:List Int,P m.reverse:=by
  intro m
  induction m with
  | nil=>exact h0
  | cons x m ih=>rw [List.reverse_cons];exact h1 _ _ ih
 have:=key l.reverse
 rwa [List.reverse_reverse] at this
section
variable {n:Nat} {gens:List (List Int)}
theorem evW_cat (h:∀ g∈gens,PM.PN n g) (a:List Int) (ha:∀ l∈a,l∈ltrs gens.length):∀ (b:List Int),(∀ l∈b,l∈ltrs gens.length)->evW n gens (a ++ b) = PM.comp (evW n gens a) (evW n gens b):=by
 intro b
 refine snocInd (P:=fun b=>(∀ l∈b,l∈ltrs gens.length)->evW n gens (a ++ b) = PM.comp (evW n gens a) (evW n gens b)) ?_ ?_ b
 ·intro _;rw [List.append_nil,evW_nil,PM.comp_id (evW_pn h a ha)]
 ·intro b x ih hb
  have hb1:∀ l∈b,l∈ltrs gens.length:=fun l hl=>hb l (by simp [hl])
  rw [<- List.append_assoc,Zde,ih hb1,Zde,PM.Zam (evW_pn h a ha) (evW_pn h b hb1)]
theorem evW_one (h:∀ g∈gens,PM.PN n g) {x:Int} (hx:x∈ltrs gens.length):evW n gens [x] = mv gens x:=by
 have e:=Zde n gens [] x
 rw [List.nil_append,evW_nil,PM.id_comp (mv_pn h hx)] at e
 exact e
theorem Zta (a:List Int) (x:Int):invW (a ++ [x]) = [-x] ++ invW a:=by simp [invW]
theorem Zup (h:∀ g∈gens,PM.PN n g):∀ (l:List Int),(∀ x∈l,x∈ltrs gens.length)->PM.comp (evW n gens l) (evW n gens (invW l)) = PM.pts n:=by
 intro l
 refine snocInd (P:=fun l=>(∀ x∈l,x∈ltrs gens.length)->PM.comp (evW n gens l) (evW n gens (invW l)) = PM.pts n) ?_ ?_ l
 ·intro _;show PM.comp (PM.pts n) (PM.pts n) = _;rw [PM.comp_id (PM.PN.id n)]
 ·intro a x ih hl
  have ha:∀ y∈a,y∈ltrs gens.length:=fun y hy=>hl y (by simp [hy])
  have hx:x∈ltrs gens.length:=hl x (by simp)
  have hnx:=Zhm hx
  have hi:=Ztz ha
  have pa:=evW_pn h a ha
  have px:=mv_pn h hx
  have pi:=evW_pn h (invW a) hi
  rw [Zta,evW_cat h [-x] (by simpa using hnx) (invW a) hi,evW_one h hnx,mv_opp h hx,Zde,PM.Zam pa px,<- PM.Zam px px.inv,PM.Zcr px,PM.id_comp pi]
  exact ih ha
theorem Grp.words (h:∀ g∈gens,PM.PN n g) {s:List Int} (hs:PM.Grp n gens s):∀ (l:List Int),(∀ x∈l,x∈ltrs gens.length)->PM.Grp n gens (PM.comp s (evW n gens l)):=by
 intro l
 refine snocInd (P:=fun l=>(∀ x∈l,x∈ltrs gens.length)->PM.Grp n gens (PM.comp s (evW n gens l))) ?_ ?_ l
 ·intro _;rw [evW_nil,PM.comp_id (PM.Grp.pn h hs)];exact hs
 ·intro a x ih hl
  have ha:∀ y∈a,y∈ltrs gens.length:=fun y hy=>hl y (by simp [hy])
  have hx:x∈ltrs gens.length:=hl x (by simp)
  rw [Zde,<- PM.Zam (PM.Grp.pn h hs) (evW_pn h a ha)]
  obtain ⟨hx0,hx1,hx2⟩:=Zbv.1 hx
  rcases Int.lt_or_gt_of_ne hx0 with hneg | hpos
  ·obtain ⟨k,hk⟩:∃ k:Nat,x = -((k:Int) + 1):=⟨(-x - 1).toNat,by omega⟩
   rw [mv_neg hk (by omega)]
   exact (ih ha).div (List.getElem_mem _)
  ·obtain ⟨k,hk⟩:∃ k:Nat,x = (k:Int) + 1:=⟨(x - 1).toNat,by omega⟩
   rw [mv_pos hk (by omega)]
   exact (ih ha).mul (List.getElem_mem _)
end
theorem Zhn {x:Puzzle} {s:List Int}:reachB x s = true ↔ stateB x s = true/\PM.Grp x.points.toNat x.moves s:=by
 unfold reachB memB
 simp only [Bool.and_eq_true,decide_eq_true_eq]
theorem Znp {x:Puzzle} {s:List Int} (h:validPz x = true) (hp:PM.PN x.points.toNat s):stateB x s = true:=by
 have hg:=Zcl.1 (Zcv h)
 unfold stateB
 rw [Bool.and_eq_true]
 exact ⟨h,(Zdq hg.1.1 hg.1.2).2 hp⟩
theorem Zua {x:Puzzle} {s l:List Int} (h:reachB x s = true) (hl:∀ y∈l,y∈ltrs x.moves.length):reachB x (appW x s l) = true:=by
 obtain ⟨h1,h2⟩:=Zhn.1 h
 obtain ⟨_,_,hm,hp⟩:=Zav h1
 exact Zhn.2 ⟨Znp (Zdc h1) (hp.comp (evW_pn hm l hl)),Grp.words hm h2 l hl⟩
theorem Zvj {x:Puzzle} {s l:List Int} (h:stateB x s = true) (hl:∀ y∈l,y∈ltrs x.moves.length):appW x (appW x s l) (invW l) = s:=by
 obtain ⟨_,_,hm,hp⟩:=Zav h
 unfold appW
 rw [PM.Zam hp (evW_pn hm l hl),Zup hm l hl,PM.comp_id hp]
section
end
theorem comp3 {tr p m:List Int} (hz:∀ z∈tr,0<=z/\z < p.length):PM.comp (PM.comp tr p) m = PM.comp tr (PM.comp p m):=by
 unfold PM.comp
 rw [List.map_map]
 refine List.map_congr_left fun z hm=>?_
 have:=hz z hm
 exact (PM.at_comp this.1 this.2).symm
theorem Ztl {x:Puzzle} {s w:List Int} {l:Int} (hg:∀ g∈x.moves,PM.PN x.points.toNat g) (hs:PM.PN x.points.toNat s) (hw:∀ q∈w,q∈ltrs x.moves.length):appW x s (w ++ [l]) = nxt x (appW x s w) l:=by
 unfold appW nxt
 rw [Zde]
 exact (PM.Zam hs (evW_pn hg w hw)).symm
theorem Zuq {x:Puzzle} {s w:List Int} (hg:∀ g∈x.moves,PM.PN x.points.toNat g) (hs:PM.PN x.points.toNat s) (hw:∀ q∈w,q∈ltrs x.moves.length):PM.PN x.points.toNat (appW x s w):=hs.comp (evW_pn hg w hw)
theorem Zqk {x:Puzzle} {s:List Int} (hs:PM.PN x.points.toNat s):appW x s [] = s:=PM.comp_id hs
section
variable {x:Puzzle} {t:Table}
theorem Built.trk (h:Built x t) {s:List Int} (hs:PM.PN x.points.toNat s):∀ z∈t.tracked,0<=z/\z < s.length:=fun z hz=>by
 have:=(Zbi.1 h.tk).2.1 z hz
 rw [hs.1]
 omega
theorem Built.along (h:Built x t) (hg:∀ g∈x.moves,PM.PN x.points.toNat g) {s:List Int} (hs:PM.PN x.points.toNat s) {j:Nat} (hj:j < t.patterns.length) (e:t.patterns.getD j [] = PM.comp t.tracked s) :
  ∀ (w:List Int),(∀ l∈w,l∈ltrs x.moves.length)->∃ i:Nat,i < t.patterns.length/\t.patterns.getD i [] = PM.comp t.tracked (appW x s w)/\t.distances.getD j 0<=t.distances.getD i 0 + w.length:=by
 intro w
 induction w using snocInd with
 | h0=>intro _;exact ⟨j,hj,by rw [Zqk hs];exact e,by simp⟩
 | h1 w l ih=>
  intro hw
  have hw1:∀ q∈w,q∈ltrs x.moves.length:=fun q hq=>hw q (by simp [hq])
  obtain ⟨i,a1,a2,a3⟩:=ih hw1
  obtain ⟨k,b1,b2,b3,b4⟩:=h.step a1 (hw l (by simp))
  refine ⟨k,b1,?_,?_⟩
  ·rw [b2,a2,Ztl hg hs hw1]
   exact comp3 (h.trk (Zuq hg hs hw1))
  ·rw [List.length_append,List.length_singleton];omega
theorem Built.comp_pts (h:Built x t):PM.comp t.tracked (PM.pts x.points.toNat) = t.tracked:=by
 unfold PM.comp
 refine (List.map_congr_left fun z hz=>?_).trans (List.map_id _)
 have:=(Zbi.1 h.tk).2.1 z hz
 exact PM.at_pts (by omega) (by omega)
theorem Built.zero (h:Built x t) {i:Nat} (hi:i < t.patterns.length) (e:t.patterns.getD i [] = t.tracked):t.distances.getD i 0 = 0:=by
 have h0:t.patterns.getD 0 [] = t.tracked:=h.bi.p0
 have hne:0 < t.patterns.length:=h.bi.ne
 have a:=h.idx hi
 have b:=h.idx hne
 rw [e] at a
 rw [h0,a] at b
 have:i = 0:=by omega
 subst this
 exact h.bi.d0
theorem Built.low (h:Built x t) {s w:List Int} (hs:stateB x s = true) (hr:reachB x s = true) (hw:∀ l∈w,l∈ltrs x.moves.length) (hsol:appW x s w = PM.pts x.points.toNat):∃ j:Nat,j < t.patterns.length/\t.patterns.getD j [] = PM.comp t.tracked s/\t.distances.getD j 0<=w.length:=by
 obtain ⟨-,-,hg,hp⟩:=Zav hs
 obtain ⟨j,hj,e⟩:=List.getElem_of_mem (h.reach hr)
 have e2:t.patterns.getD j [] = PM.comp t.tracked s:=by rw [Zah hj,e]
 obtain ⟨i,a1,a2,a3⟩:=h.along hg hp hj e2 w hw
 rw [hsol,h.comp_pts] at a2
 rw [h.zero a1 a2] at a3
 exact ⟨j,hj,e2,by omega⟩
theorem Ztd (h:validT x t = true) {s w:List Int} (hs:stateB x s = true) (hr:reachB x s = true) (hw:∀ l∈w,l∈ltrs x.moves.length) (hsol:appW x s w = PM.pts x.points.toNat):lookT t s<=w.length:=by
 obtain ⟨j,hj,e,hd⟩:=(Zbw h).low hs hr hw hsol
 unfold lookT
 rw [<- e,(Zbw h).idx hj,Int.toNat_natCast]
 exact hd
end
theorem Zpv {l:List Int} {m:Int} (h:∀ y∈l,y<=m):∀ {a:Int},a<=m->l.foldl max a<=m:=by
 induction l with
 | nil=>intro a ha;exact ha
 | cons y l ih=>
  intro a ha
  rw [List.foldl_cons]
  exact ih (fun z hz=>h z (by simp [hz])) (by have:=h y (by simp);omega)
theorem lb_low {x:Puzzle} {ts:List Table} {s w:List Int} (hs:stateB x s = true) (hw:∀ l∈w,l∈ltrs x.moves.length) (hsol:appW x s w = PM.pts x.points.toNat):lb x ts s<=w.length:=by
 unfold lb
 split
 ·rename_i hh
  rw [Bool.and_eq_true] at hh
  refine Zpv (fun y hy=>?_) (by omega)
  unfold lbs at hy
  obtain ⟨t,ht,rfl⟩:=List.mem_map.1 hy
  exact Ztd ((Zfn.1 hh.1).2.2 t ht) hs hh.2 hw hsol
 ·omega
theorem Zqy {x:Puzzle} {s w:List Int} (hs:stateB x s = true) (hr:reachB x s = true) (hw:∀ l∈w,l∈ltrs x.moves.length) (hsol:appW x s w = PM.pts x.points.toNat):distX x s<=w.length:=by
 rcases he:expl x with _ | t
 ·rw [Zfq he];omega
 ·obtain ⟨hb,htr⟩:=Zaj he
  obtain ⟨j,hj,e,hd⟩:=hb.low hs hr hw hsol
  obtain ⟨i,hi,e2,-,h3,-,-⟩:=Zds he hr
  have hp:=(Zav hs).2.2.2
  rw [htr,PM.id_comp hp] at e
  have a:=hb.idx hi
  have b:=hb.idx hj
  rw [e2] at a
  rw [e,a] at b
  have:i = j:=by omega
  subst this
  omega
theorem Ztn {x:Puzzle} {t:Table} (he:expl x = some t) (hg:∀ g∈x.moves,PM.PN x.points.toNat g):∀ (n i:Nat),i < t.patterns.length->t.distances.getD i 0 = (n:Int)->PM.PN x.points.toNat (t.patterns.getD i [])->∃ w:List Int,w.length = n/\(∀ l∈w,l∈ltrs x.moves.length)/\appW x (t.patterns.getD i []) w = PM.pts x.points.toNat:=by
 obtain ⟨hb,htr⟩:=Zaj he
 intro n
 induction n with
 | zero=>
  intro i hi hd hp
  have h0:i = 0:=by
   have:=(hb.dep i hi).2.2
   omega
  subst h0
  have h0:t.patterns.getD 0 [] = t.tracked:=hb.bi.p0
  refine ⟨[],rfl,by simp,?_⟩
  rw [Zqk hp,h0,htr]
 | succ n ih=>
  intro i hi hd hp
  obtain ⟨k,j,hD⟩:=hb.down hi (n:=n) (by rw [hd];push_cast;rfl)
  have hl:(ltrs x.moves.length)[k]'hD.hk∈ltrs x.moves.length:=List.getElem_mem hD.hk
  obtain ⟨w,hw1,hw2,hw3⟩:=ih j hD.hj hD.ds (by rw [hD.nx];exact hp.comp (mv_pn hg hl))
  refine ⟨(ltrs x.moves.length)[k]'hD.hk :: w,by rw [List.length_cons,hw1],fun q hq=>?_,?_⟩
  ·rcases List.mem_cons.1 hq with rfl | hq
   ·exact hl
   ·exact hw2 q hq
  ·rw [<- hw3,hD.nx]
   unfold appW nxt
   rw [show (ltrs x.moves.length)[k]'hD.hk :: w = [(ltrs x.moves.length)[k]'hD.hk] ++ w from rfl,evW_cat hg _ (fun q hq=>by rw [List.mem_singleton.1 hq];exact hl) w hw2,evW_one hg hl]
   exact (PM.Zam hp (mv_pn hg hl)).symm
theorem lb_dist {x:Puzzle} {t:Table} {ts:List Table} {s:List Int} (he:expl x = some t) (hs:stateB x s = true) (hr:reachB x s = true):lb x ts s<=distX x s:=by
 obtain ⟨-,-,hg,hp⟩:=Zav hs
 obtain ⟨i,hi,e,-,h3,h4,-⟩:=Zds he hr
 obtain ⟨w,w1,w2,w3⟩:=Ztn he hg (t.distances.getD i 0).toNat i hi (by omega) (by rw [e];exact hp)
 rw [e] at w3
 have:=lb_low (ts:=ts) hs w2 w3
 omega
theorem Znx {x:Puzzle} {s w:List Int} (hs:stateB x s = true) (hw:∀ l∈w,l∈ltrs x.moves.length) (hsol:appW x s w = PM.pts x.points.toNat):reachB x s = true:=by
 have hb:=Zvj hs hw
 rw [hsol] at hb
 rw [<- hb]
 refine Zua (Zhn.2 ⟨Znp (Zdc hs) (PM.PN.id _),.id⟩) fun y hy=>?_
 obtain ⟨z,hz,rfl⟩:=List.mem_map.1 (List.mem_reverse.1 (show y∈(w.map fun z=>-z).reverse from hy))
 exact Zhm (hw z hz)
noncomputable def clmB (x:Puzzle) (s:List Int) (c:Claim):Bool:=stateB x s && (if c.kind = 4 then decide (c.value = 0) && !reachB x s else if distX x s < 0 then false else if c.kind = 1 then decide (distX x s<=c.value) else if c.kind = 2 then decide (distX x s = c.value) else if c.kind = 3 then decide (c.value<=distX x s) else false)
section
variable {x:Puzzle} {s:List Int} {c:Claim}
theorem Zod (h:stateB x s = false):clmB x s c = false:=by unfold clmB;rw [h];rfl
theorem clm_un (h:stateB x s = true) (k:c.kind = 4):clmB x s c = (decide (c.value = 0) && !reachB x s):=by unfold clmB;rw [h,if_pos k];rfl
theorem clm_neg (h:stateB x s = true) (k:c.kind ≠ 4) (hd:distX x s = -1):clmB x s c = false:=by unfold clmB;rw [h,if_neg k,if_pos (by omega)];rfl
theorem clm_pos (h:stateB x s = true) (k:c.kind ≠ 4) (hd:0<=distX x s):clmB x s c = if c.kind = 1 then decide (distX x s<=c.value) else if c.kind = 2 then decide (distX x s = c.value) else if c.kind = 3 then decide (c.value<=distX x s) else false:=by
 unfold clmB;rw [h,if_neg k,if_neg (by omega)];rfl
end
set_option maxHeartbeats 8000000 in
theorem Zon (cs ds:List Value) (x:Puzzle) (fp:List Nat) (v:Value) (s:List Int) (fs:List Nat) (c:Claim) (fc:List Nat) (w:World) (h:Rp.rep w cs x fp) (hu:Rd w v s fs) (hc:Rp.rep w ds c fc) :
  Calls Tryz.prog 11 #[.agg cs.toArray,v,.agg ds.toArray] w fun e w'=>e = .returned (.bool (clmB x s c))/\Only [] w w':=by
 have h0:=h
 obtain ⟨v2,rfl,p0,p1,h2⟩:=h
 obtain ⟨rfl,ik,iv,-⟩:=hc
 clear h2 p0 p1
 have X0:Blk ((w.alloc (.cells #[.int .i64 x.points,.string x.names,v2] 26)).alloc (.cells #[.int .i64 c.kind,.int .i64 c.value] 34)) w.heap.size [.int .i64 x.points,.string x.names,v2]:=(Blk.new w [.int .i64 x.points,.string x.names,v2] 26).keep (zO.alloc _)
 have Y0:Blk ((w.alloc (.cells #[.int .i64 x.points,.string x.names,v2] 26)).alloc (.cells #[.int .i64 c.kind,.int .i64 c.value] 34)) (w.heap.size + 1) [.int .i64 c.kind,.int .i64 c.value]:=Blk.new_at (by simp)
 unfold I64 at ik iv
 obtain ⟨il,ih⟩:=ik
 obtain ⟨vl,vh⟩:=iv
 rcases hs:stateB x s
 ·have Hn:=zH (Zod (c:=c) hs)
  have Hs:=zH hs
  clear hs
  go_enter Tryz.func11,Tryz.ntmps11
  go_wp2_with (first
   | (go_at_call 23;(with_reducible refine (Zag [.int .i64 x.points,.string x.names,v2] x _ v s _ _ (zK h0 zA) (zK hu zA)).mono ?_);rintro e w1 ⟨he,t1⟩;rw [Hs.out] at he;subst he)
   | fail)
  go_ret
  exact ⟨Zaa Hn.out.symm,zA⟩
 have Hs:=zH hs
 by_cases k4:c.kind = 4
 ·obtain ⟨r,hr⟩:∃ r,r = reachB x s:=⟨_,rfl⟩
  have Hr:=zH hr
  have Hn:=zH ((clm_un hs k4).trans (by rw [<- hr]):clmB x s c = (decide (c.value = 0) && !r))
  have b4:(c.kind == 4) = true:=by simp [k4]
  clear hs hr k4
  by_cases z:c.value = 0
  ·have bz:(c.value == 0) = true:=by simp [z]
   have dz:decide (c.value = 0) = true:=decide_eq_true z
   have Hz:=zH dz
   clear z dz
   cases r
   all_goals go_enter Tryz.func11,Tryz.ntmps11
   all_goals go_wp2_with (first
    | (go_at_call 23;(with_reducible refine (Zag [.int .i64 x.points,.string x.names,v2] x _ v s _ _ (zK h0 zA) (zK hu zA)).mono ?_);rintro e w1 ⟨he,t1⟩;rw [Hs.out] at he;subst he;have Y1:=Y0.keep t1;have X1:=X0.keep t1;obtain ⟨c0,c1⟩:=Y1.c2;obtain ⟨y0,y1,y2⟩:=X1.c3)
    | (go_at_call 28;(with_reducible refine (Zat [.int .i64 x.points,.string x.names,v2] x _ v s _ _ (zK h0 zA) (zK hu zA)).mono ?_);rintro e w2 ⟨he,t2⟩;rw [<- Hr.out] at he;subst he)
    | fail)
   all_goals go_ret
   all_goals exact ⟨Zaa (by rw [Hn.out,Hz.out];rfl),zA⟩
  ·have bz:(c.value == 0) = false:=by simp [z]
   have dz:decide (c.value = 0) = false:=decide_eq_false z
   have Hz:=zH dz
   clear z dz
   go_enter Tryz.func11,Tryz.ntmps11
   go_wp2_with (first
    | (go_at_call 23;(with_reducible refine (Zag [.int .i64 x.points,.string x.names,v2] x _ v s _ _ (zK h0 zA) (zK hu zA)).mono ?_);rintro e w1 ⟨he,t1⟩;rw [Hs.out] at he;subst he;have Y1:=Y0.keep t1;have X1:=X0.keep t1;obtain ⟨c0,c1⟩:=Y1.c2;obtain ⟨y0,y1,y2⟩:=X1.c3)
    | (go_at_call 28;(with_reducible refine (Zat [.int .i64 x.points,.string x.names,v2] x _ v s _ _ (zK h0 zA) (zK hu zA)).mono ?_);rintro e w2 ⟨he,t2⟩;rw [<- Hr.out] at he;subst he)
    | fail)
   go_ret
   exact ⟨Zaa (by rw [Hn.out,Hz.out];rfl),zA⟩
 have b4:(c.kind == 4) = false:=by simp [k4]
 obtain ⟨d,hd⟩:∃ d,d = distX x s:=⟨_,rfl⟩
 have Hd:=zH hd
 have hor:=Zeq x s
 rw [<- hd] at hor
 have hdr:d = -1\/0<=d:=hor.imp id (fun h=>h.1)
 clear hor
 rcases hdr with hneg | hpos
 ·have Hn:=zH (clm_neg hs k4 (by rw [<- hd,hneg]))
  have bd:(d == -1) = true:=by simp [hneg]
  have hlt:d < 0:=by omega
  clear hs hd k4 hneg
  go_enter Tryz.func11,Tryz.ntmps11
  go_wp2_with (first
   | (go_at_call 23;(with_reducible refine (Zag [.int .i64 x.points,.string x.names,v2] x _ v s _ _ (zK h0 zA) (zK hu zA)).mono ?_);rintro e w1 ⟨he,t1⟩;rw [Hs.out] at he;subst he;have Y1:=Y0.keep t1;have X1:=X0.keep t1;obtain ⟨c0,c1⟩:=Y1.c2;obtain ⟨y0,y1,y2⟩:=X1.c3)
   | (go_at_call 29;(with_reducible refine (Zbp [.int .i64 x.points,.string x.names,v2] x _ v s _ _ (zK h0 zA) (zK hu zA)).mono ?_);rintro e w2 ⟨he,t2⟩;rw [<- Hd.out] at he;subst he;have Y2:=Y1.keep t2;obtain ⟨c0,c1⟩:=Y2.c2)
   | fail)
  go_ret
  exact ⟨Zaa Hn.out.symm,zA⟩
 ·have bd:(d == -1) = false:=by simp;omega
  have hlt:¬ d < 0:=by omega
  have hrg:=clm_pos hs k4 (by rw [<- hd];exact hpos)
  rw [<- hd] at hrg
  have Hn:=zH hrg
  clear hs hd hrg
  by_cases k1:c.kind = 1
  ·have b1:(c.kind == 1) = true:=by simp [k1]
   have hf:clmB x s c = decide (d<=c.value):=by rw [Hn.out,if_pos k1]
   have Hf:=zH hf
   clear hf k1 k4
   by_cases hq:d<=c.value
   all_goals go_enter Tryz.func11,Tryz.ntmps11
   all_goals go_wp2_with (first
    | (go_at_call 23;(with_reducible refine (Zag [.int .i64 x.points,.string x.names,v2] x _ v s _ _ (zK h0 zA) (zK hu zA)).mono ?_);rintro e w1 ⟨he,t1⟩;rw [Hs.out] at he;subst he;have Y1:=Y0.keep t1;have X1:=X0.keep t1;obtain ⟨c0,c1⟩:=Y1.c2;obtain ⟨y0,y1,y2⟩:=X1.c3)
    | (go_at_call 29;(with_reducible refine (Zbp [.int .i64 x.points,.string x.names,v2] x _ v s _ _ (zK h0 zA) (zK hu zA)).mono ?_);rintro e w2 ⟨he,t2⟩;rw [<- Hd.out] at he;subst he;have Y2:=Y1.keep t2;obtain ⟨c0,c1⟩:=Y2.c2)
    | fail)
   all_goals go_ret
   all_goals exact ⟨Zaa (by first | (rw [Hf.out];done) | (rw [Hf.out];simp [hq])),zA⟩
  have b1:(c.kind == 1) = false:=by simp [k1]
  by_cases k2:c.kind = 2
  ·have b2:(c.kind == 2) = true:=by simp [k2]
   have hf:clmB x s c = decide (d = c.value):=by rw [Hn.out,if_neg k1,if_pos k2]
   have Hf:=zH hf
   clear hf k1 k2 k4
   by_cases hq:d = c.value
   ·have bq:(d == c.value) = true:=by simp [hq]
    have HQ:=zH hq
    clear hq
    go_enter Tryz.func11,Tryz.ntmps11
    go_wp2_with (first
     | (go_at_call 23;(with_reducible refine (Zag [.int .i64 x.points,.string x.names,v2] x _ v s _ _ (zK h0 zA) (zK hu zA)).mono ?_);rintro e w1 ⟨he,t1⟩;rw [Hs.out] at he;subst he;have Y1:=Y0.keep t1;have X1:=X0.keep t1;obtain ⟨c0,c1⟩:=Y1.c2;obtain ⟨y0,y1,y2⟩:=X1.c3)
     | (go_at_call 29;(with_reducible refine (Zbp [.int .i64 x.points,.string x.names,v2] x _ v s _ _ (zK h0 zA) (zK hu zA)).mono ?_);rintro e w2 ⟨he,t2⟩;rw [<- Hd.out] at he;subst he;have Y2:=Y1.keep t2;obtain ⟨c0,c1⟩:=Y2.c2)
     | fail)
    go_ret
    exact ⟨Zaa (by rw [Hf.out,decide_eq_true HQ.out]),zA⟩
   ·have bq:(d == c.value) = false:=by simp [hq]
    have HQ:=zH hq
    clear hq
    go_enter Tryz.func11,Tryz.ntmps11
    go_wp2_with (first
     | (go_at_call 23;(with_reducible refine (Zag [.int .i64 x.points,.string x.names,v2] x _ v s _ _ (zK h0 zA) (zK hu zA)).mono ?_);rintro e w1 ⟨he,t1⟩;rw [Hs.out] at he;subst he;have Y1:=Y0.keep t1;have X1:=X0.keep t1;obtain ⟨c0,c1⟩:=Y1.c2;obtain ⟨y0,y1,y2⟩:=X1.c3)
     | (go_at_call 29;(with_reducible refine (Zbp [.int .i64 x.points,.string x.names,v2] x _ v s _ _ (zK h0 zA) (zK hu zA)).mono ?_);rintro e w2 ⟨he,t2⟩;rw [<- Hd.out] at he;subst he;have Y2:=Y1.keep t2;obtain ⟨c0,c1⟩:=Y2.c2)
     | fail)
    go_ret
    exact ⟨Zaa (by rw [Hf.out,decide_eq_false HQ.out]),zA⟩
  have b2:(c.kind == 2) = false:=by simp [k2]
  by_cases k3:c.kind = 3
  ·have b3:(c.kind == 3) = true:=by simp [k3]
   have hf:clmB x s c = decide (c.value<=d):=by rw [Hn.out,if_neg k1,if_neg k2,if_pos k3]
   have Hf:=zH hf
   clear hf k1 k2 k3 k4
   by_cases hq:c.value<=d
   all_goals go_enter Tryz.func11,Tryz.ntmps11
   all_goals go_wp2_with (first
    | (go_at_call 23;(with_reducible refine (Zag [.int .i64 x.points,.string x.names,v2] x _ v s _ _ (zK h0 zA) (zK hu zA)).mono ?_);rintro e w1 ⟨he,t1⟩;rw [Hs.out] at he;subst he;have Y1:=Y0.keep t1;have X1:=X0.keep t1;obtain ⟨c0,c1⟩:=Y1.c2;obtain ⟨y0,y1,y2⟩:=X1.c3)
    | (go_at_call 29;(with_reducible refine (Zbp [.int .i64 x.points,.string x.names,v2] x _ v s _ _ (zK h0 zA) (zK hu zA)).mono ?_);rintro e w2 ⟨he,t2⟩;rw [<- Hd.out] at he;subst he;have Y2:=Y1.keep t2;obtain ⟨c0,c1⟩:=Y2.c2)
    | fail)
   all_goals go_ret
   all_goals exact ⟨Zaa (by first | (rw [Hf.out];done) | (rw [Hf.out];simp [hq])),zA⟩
  ·have b3:(c.kind == 3) = false:=by simp [k3]
   have hf:clmB x s c = false:=by rw [Hn.out,if_neg k1,if_neg k2,if_neg k3]
   have Hf:=zH hf
   clear hf k1 k2 k3 k4
   go_enter Tryz.func11,Tryz.ntmps11
   go_wp2_with (first
    | (go_at_call 23;(with_reducible refine (Zag [.int .i64 x.points,.string x.names,v2] x _ v s _ _ (zK h0 zA) (zK hu zA)).mono ?_);rintro e w1 ⟨he,t1⟩;rw [Hs.out] at he;subst he;have Y1:=Y0.keep t1;have X1:=X0.keep t1;obtain ⟨c0,c1⟩:=Y1.c2;obtain ⟨y0,y1,y2⟩:=X1.c3)
    | (go_at_call 29;(with_reducible refine (Zbp [.int .i64 x.points,.string x.names,v2] x _ v s _ _ (zK h0 zA) (zK hu zA)).mono ?_);rintro e w2 ⟨he,t2⟩;rw [<- Hd.out] at he;subst he;have Y2:=Y1.keep t2;obtain ⟨c0,c1⟩:=Y2.c2)
    | fail)
   go_ret
   exact ⟨Zaa Hf.out.symm,zA⟩
set_option maxHeartbeats 8000000 in
theorem Zom (cs ds:List Value) (x:Puzzle) (fp:List Nat) (v:Value) (s:List Int) (fs:List Nat) (c:Claim) (fc:List Nat) (w:World) (h:Rp.rep w cs x fp) (hu:Rd w v s fs) (hc:Rp.rep w ds c fc) :
  Calls Tryz.prog 10 #[.agg cs.toArray,v,.agg ds.toArray] w fun e w'=>e = .returned (.bool (clmB x s c))/\Only [] w w':=by
 have h0:=h
 obtain ⟨v2,rfl,p0,p1,h2⟩:=h
 obtain ⟨rfl,ik,iv,-⟩:=hc
 clear h2 p0 p1
 have X0:Blk ((w.alloc (.cells #[.int .i64 x.points,.string x.names,v2] 26)).alloc (.cells #[.int .i64 c.kind,.int .i64 c.value] 34)) w.heap.size [.int .i64 x.points,.string x.names,v2]:=(Blk.new w [.int .i64 x.points,.string x.names,v2] 26).keep (zO.alloc _)
 have Y0:Blk ((w.alloc (.cells #[.int .i64 x.points,.string x.names,v2] 26)).alloc (.cells #[.int .i64 c.kind,.int .i64 c.value] 34)) (w.heap.size + 1) [.int .i64 c.kind,.int .i64 c.value]:=Blk.new_at (by simp)
 unfold I64 at ik iv
 obtain ⟨il,ih⟩:=ik
 obtain ⟨vl,vh⟩:=iv
 rcases hs:stateB x s
 ·have Hn:=zH (Zod (c:=c) hs)
  have Hs:=zH hs
  clear hs
  go_enter Tryz.func10,Tryz.ntmps10
  go_wp2_with (first
   | (go_at_call 17;(with_reducible refine (Zad [.int .i64 x.points,.string x.names,v2] x _ v s _ _ (zK h0 zA) (zK hu zA)).mono ?_);rintro e w1 ⟨he,t1⟩;rw [Hs.out] at he;subst he)
   | fail)
  go_ret
  exact ⟨Zaa Hn.out.symm,zA⟩
 have Hs:=zH hs
 by_cases k4:c.kind = 4
 ·obtain ⟨r,hr⟩:∃ r,r = reachB x s:=⟨_,rfl⟩
  have Hr:=zH hr
  have Hn:=zH ((clm_un hs k4).trans (by rw [<- hr]):clmB x s c = (decide (c.value = 0) && !r))
  have b4:(c.kind == 4) = true:=by simp [k4]
  clear hs hr k4
  by_cases z:c.value = 0
  ·have bz:(c.value == 0) = true:=by simp [z]
   have dz:decide (c.value = 0) = true:=decide_eq_true z
   have Hz:=zH dz
   clear z dz
   cases r
   all_goals go_enter Tryz.func10,Tryz.ntmps10
   all_goals go_wp2_with (first
    | (go_at_call 17;(with_reducible refine (Zad [.int .i64 x.points,.string x.names,v2] x _ v s _ _ (zK h0 zA) (zK hu zA)).mono ?_);rintro e w1 ⟨he,t1⟩;rw [Hs.out] at he;subst he;have Y1:=Y0.keep t1;have X1:=X0.keep t1;obtain ⟨c0,c1⟩:=Y1.c2;obtain ⟨y0,y1,y2⟩:=X1.c3)
    | (go_at_call 22;(with_reducible refine (Zaw [.int .i64 x.points,.string x.names,v2] x _ v s _ _ (zK h0 zA) (zK hu zA)).mono ?_);rintro e w2 ⟨he,t2⟩;rw [<- Hr.out] at he;subst he)
    | fail)
   all_goals go_ret
   all_goals exact ⟨Zaa (by rw [Hn.out,Hz.out];rfl),zA⟩
  ·have bz:(c.value == 0) = false:=by simp [z]
   have dz:decide (c.value = 0) = false:=decide_eq_false z
   have Hz:=zH dz
   clear z dz
   go_enter Tryz.func10,Tryz.ntmps10
   go_wp2_with (first
    | (go_at_call 17;(with_reducible refine (Zad [.int .i64 x.points,.string x.names,v2] x _ v s _ _ (zK h0 zA) (zK hu zA)).mono ?_);rintro e w1 ⟨he,t1⟩;rw [Hs.out] at he;subst he;have Y1:=Y0.keep t1;have X1:=X0.keep t1;obtain ⟨c0,c1⟩:=Y1.c2;obtain ⟨y0,y1,y2⟩:=X1.c3)
    | (go_at_call 22;(with_reducible refine (Zaw [.int .i64 x.points,.string x.names,v2] x _ v s _ _ (zK h0 zA) (zK hu zA)).mono ?_);rintro e w2 ⟨he,t2⟩;rw [<- Hr.out] at he;subst he)
    | fail)
   go_ret
   exact ⟨Zaa (by rw [Hn.out,Hz.out];rfl),zA⟩
 have b4:(c.kind == 4) = false:=by simp [k4]
 obtain ⟨d,hd⟩:∃ d,d = distX x s:=⟨_,rfl⟩
 have Hd:=zH hd
 have hor:=Zeq x s
 rw [<- hd] at hor
 have hdr:d = -1\/0<=d:=hor.imp id (fun h=>h.1)
 clear hor
 rcases hdr with hneg | hpos
 ·have Hn:=zH (clm_neg hs k4 (by rw [<- hd,hneg]))
  have bd:(d == -1) = true:=by simp [hneg]
  have hlt:d < 0:=by omega
  clear hs hd k4 hneg
  go_enter Tryz.func10,Tryz.ntmps10
  go_wp2_with (first
   | (go_at_call 17;(with_reducible refine (Zad [.int .i64 x.points,.string x.names,v2] x _ v s _ _ (zK h0 zA) (zK hu zA)).mono ?_);rintro e w1 ⟨he,t1⟩;rw [Hs.out] at he;subst he;have Y1:=Y0.keep t1;have X1:=X0.keep t1;obtain ⟨c0,c1⟩:=Y1.c2;obtain ⟨y0,y1,y2⟩:=X1.c3)
   | (go_at_call 27;(with_reducible refine (Zbn [.int .i64 x.points,.string x.names,v2] x _ v s _ _ (zK h0 zA) (zK hu zA)).mono ?_);rintro e w2 ⟨he,t2⟩;rw [<- Hd.out] at he;subst he;have Y2:=Y1.keep t2;obtain ⟨c0,c1⟩:=Y2.c2)
   | fail)
  go_ret
  exact ⟨Zaa Hn.out.symm,zA⟩
 ·have bd:(d == -1) = false:=by simp;omega
  have hlt:¬ d < 0:=by omega
  have hrg:=clm_pos hs k4 (by rw [<- hd];exact hpos)
  rw [<- hd] at hrg
  have Hn:=zH hrg
  clear hs hd hrg
  by_cases k1:c.kind = 1
  ·have b1:(c.kind == 1) = true:=by simp [k1]
   have hf:clmB x s c = decide (d<=c.value):=by rw [Hn.out,if_pos k1]
   have Hf:=zH hf
   clear hf k1 k4
   by_cases hq:d<=c.value
   all_goals go_enter Tryz.func10,Tryz.ntmps10
   all_goals go_wp2_with (first
    | (go_at_call 17;(with_reducible refine (Zad [.int .i64 x.points,.string x.names,v2] x _ v s _ _ (zK h0 zA) (zK hu zA)).mono ?_);rintro e w1 ⟨he,t1⟩;rw [Hs.out] at he;subst he;have Y1:=Y0.keep t1;have X1:=X0.keep t1;obtain ⟨c0,c1⟩:=Y1.c2;obtain ⟨y0,y1,y2⟩:=X1.c3)
    | (go_at_call 27;(with_reducible refine (Zbn [.int .i64 x.points,.string x.names,v2] x _ v s _ _ (zK h0 zA) (zK hu zA)).mono ?_);rintro e w2 ⟨he,t2⟩;rw [<- Hd.out] at he;subst he;have Y2:=Y1.keep t2;obtain ⟨c0,c1⟩:=Y2.c2)
    | fail)
   all_goals go_ret
   all_goals exact ⟨Zaa (by first | (rw [Hf.out];done) | (rw [Hf.out];simp [hq])),zA⟩
  have b1:(c.kind == 1) = false:=by simp [k1]
  by_cases k2:c.kind = 2
  ·have b2:(c.kind == 2) = true:=by simp [k2]
   have hf:clmB x s c = decide (d = c.value):=by rw [Hn.out,if_neg k1,if_pos k2]
   have Hf:=zH hf
   clear hf k1 k2 k4
   by_cases hq:d = c.value
   ·have bq:(d == c.value) = true:=by simp [hq]
    have HQ:=zH hq
    clear hq
    go_enter Tryz.func10,Tryz.ntmps10
    go_wp2_with (first
     | (go_at_call 17;(with_reducible refine (Zad [.int .i64 x.points,.string x.names,v2] x _ v s _ _ (zK h0 zA) (zK hu zA)).mono ?_);rintro e w1 ⟨he,t1⟩;rw [Hs.out] at he;subst he;have Y1:=Y0.keep t1;have X1:=X0.keep t1;obtain ⟨c0,c1⟩:=Y1.c2;obtain ⟨y0,y1,y2⟩:=X1.c3)
     | (go_at_call 27;(with_reducible refine (Zbn [.int .i64 x.points,.string x.names,v2] x _ v s _ _ (zK h0 zA) (zK hu zA)).mono ?_);rintro e w2 ⟨he,t2⟩;rw [<- Hd.out] at he;subst he;have Y2:=Y1.keep t2;obtain ⟨c0,c1⟩:=Y2.c2)
     | fail)
    go_ret
    exact ⟨Zaa (by rw [Hf.out,decide_eq_true HQ.out]),zA⟩
   ·have bq:(d == c.value) = false:=by simp [hq]
    have HQ:=zH hq
    clear hq
    go_enter Tryz.func10,Tryz.ntmps10
    go_wp2_with (first
     | (go_at_call 17;(with_reducible refine (Zad [.int .i64 x.points,.string x.names,v2] x _ v s _ _ (zK h0 zA) (zK hu zA)).mono ?_);rintro e w1 ⟨he,t1⟩;rw [Hs.out] at he;subst he;have Y1:=Y0.keep t1;have X1:=X0.keep t1;obtain ⟨c0,c1⟩:=Y1.c2;obtain ⟨y0,y1,y2⟩:=X1.c3)
     | (go_at_call 27;(with_reducible refine (Zbn [.int .i64 x.points,.string x.names,v2] x _ v s _ _ (zK h0 zA) (zK hu zA)).mono ?_);rintro e w2 ⟨he,t2⟩;rw [<- Hd.out] at he;subst he;have Y2:=Y1.keep t2;obtain ⟨c0,c1⟩:=Y2.c2)
     | fail)
    go_ret
    exact ⟨Zaa (by rw [Hf.out,decide_eq_false HQ.out]),zA⟩
  have b2:(c.kind == 2) = false:=by simp [k2]
  by_cases k3:c.kind = 3
  ·have b3:(c.kind == 3) = true:=by simp [k3]
   have hf:clmB x s c = decide (c.value<=d):=by rw [Hn.out,if_neg k1,if_neg k2,if_pos k3]
   have Hf:=zH hf
   clear hf k1 k2 k3 k4
   by_cases hq:c.value<=d
   all_goals go_enter Tryz.func10,Tryz.ntmps10
   all_goals go_wp2_with (first
    | (go_at_call 17;(with_reducible refine (Zad [.int .i64 x.points,.string x.names,v2] x _ v s _ _ (zK h0 zA) (zK hu zA)).mono ?_);rintro e w1 ⟨he,t1⟩;rw [Hs.out] at he;subst he;have Y1:=Y0.keep t1;have X1:=X0.keep t1;obtain ⟨c0,c1⟩:=Y1.c2;obtain ⟨y0,y1,y2⟩:=X1.c3)
    | (go_at_call 27;(with_reducible refine (Zbn [.int .i64 x.points,.string x.names,v2] x _ v s _ _ (zK h0 zA) (zK hu zA)).mono ?_);rintro e w2 ⟨he,t2⟩;rw [<- Hd.out] at he;subst he;have Y2:=Y1.keep t2;obtain ⟨c0,c1⟩:=Y2.c2)
    | fail)
   all_goals go_ret
   all_goals exact ⟨Zaa (by first | (rw [Hf.out];done) | (rw [Hf.out];simp [hq])),zA⟩
  ·have b3:(c.kind == 3) = false:=by simp [k3]
   have hf:clmB x s c = false:=by rw [Hn.out,if_neg k1,if_neg k2,if_neg k3]
   have Hf:=zH hf
   clear hf k1 k2 k3 k4
   go_enter Tryz.func10,Tryz.ntmps10
   go_wp2_with (first
    | (go_at_call 17;(with_reducible refine (Zad [.int .i64 x.points,.string x.names,v2] x _ v s _ _ (zK h0 zA) (zK hu zA)).mono ?_);rintro e w1 ⟨he,t1⟩;rw [Hs.out] at he;subst he;have Y1:=Y0.keep t1;have X1:=X0.keep t1;obtain ⟨c0,c1⟩:=Y1.c2;obtain ⟨y0,y1,y2⟩:=X1.c3)
    | (go_at_call 27;(with_reducible refine (Zbn [.int .i64 x.points,.string x.names,v2] x _ v s _ _ (zK h0 zA) (zK hu zA)).mono ?_);rintro e w2 ⟨he,t2⟩;rw [<- Hd.out] at he;subst he;have Y2:=Y1.keep t2;obtain ⟨c0,c1⟩:=Y2.c2)
    | fail)
   go_ret
   exact ⟨Zaa Hf.out.symm,zA⟩
theorem Znm {x:Puzzle} {s w:List Int} (hs:stateB x s = true) (h:solB x s w = true):(∀ l∈w,l∈ltrs x.moves.length)/\appW x s w = PM.pts x.points.toNat:=by
 unfold solB at h
 rw [Bool.and_eq_true,decide_eq_true_iff] at h
 exact ⟨(Zex (Zav hs).2.1 h.1).2,h.2⟩
theorem Zvl {x:Puzzle} {ts:List Table} {s:List Int} (h:0<=lb x ts s):reachB x s = true:=by
 unfold lb at h
 split at h
 ·rename_i hh
  rw [Bool.and_eq_true] at hh
  exact hh.2
 ·omega
theorem Zuo {x:Puzzle} {s:List Int} {c:Certificate} {cl:Claim} (h:chkC x s c = some cl) (hk:cl.kind ≠ 4->∃ t,expl x = some t):clmB x s cl = true:=by
 unfold chkC at h
 split at h
 ·rename_i hs
  unfold accC at h
  split at h
  ·split at h
   ·split at h
    ·rename_i hsol
     injection h with h
     subst h
     obtain ⟨t,he⟩:=hk (show (1:Int) ≠ 4 by decide)
     obtain ⟨a1,a2⟩:=Znm hs hsol
     have hr:=Znx hs a1 a2
     have hd:=Zqy hs hr a1 a2
     obtain ⟨i,-,-,-,e3,e4,-⟩:=Zds he hr
     have h0:0<=distX x s:=by omega
     rw [clm_pos hs (show (1:Int) ≠ 4 by decide) h0,if_pos rfl]
     exact decide_eq_true hd
    ·cases h
   ·cases h
  ·split at h
   ·split at h
    ·split at h
     ·rename_i hsol
      split at h
      ·rename_i hlb
       injection h with h
       subst h
       obtain ⟨t,he⟩:=hk (show (2:Int) ≠ 4 by decide)
       obtain ⟨a1,a2⟩:=Znm hs hsol
       have hr:=Znx hs a1 a2
       have hd:=Zqy hs hr a1 a2
       have hd2:=lb_dist (ts:=c.tables) he hs hr
       have h0:0<=distX x s:=by omega
       rw [clm_pos hs (show (2:Int) ≠ 4 by decide) h0,if_neg (show ¬ (2:Int) = 1 by decide),if_pos rfl]
       exact decide_eq_true (by show distX x s = ((word0 c).length:Int);omega)
      ·cases h
     ·cases h
    ·cases h
   ·split at h
    ·split at h
     ·split at h
      ·rename_i hn0
       split at h
       ·rename_i hlb
        injection h with h
        subst h
        obtain ⟨t,he⟩:=hk (show (3:Int) ≠ 4 by decide)
        have hr:=Zvl (x:=x) (ts:=c.tables) (s:=s) (by omega)
        have hd2:=lb_dist (ts:=c.tables) he hs hr
        have h0:0<=distX x s:=by omega
        rw [clm_pos hs (show (3:Int) ≠ 4 by decide) h0,if_neg (show ¬ (3:Int) = 1 by decide),if_neg (show ¬ (3:Int) = 2 by decide),if_pos rfl]
        exact decide_eq_true (by show num0 c<=distX x s;omega)
       ·cases h
      ·cases h
     ·cases h
    ·split at h
     ·split at h
      ·split at h
       ·cases h
       ·rename_i hr
        injection h with h
        subst h
        rw [clm_un hs rfl]
        simp [hr]
      ·cases h
     ·cases h
 ·cases h
end Go.Proofs.YtjfmkolnleicnaaGreatDoor

namespace Go.Proofs.YtjfmkolnleicnaaGreatDoor
open Go.RowKit Go.Shelf Go.Sort Go.Proofs
set_option maxRecDepth 10000
def Tryz.fmtI_ren:Go.Shelf.Ren:=⟨fun | 173=>64 | 246=>110 | 283=>145 | 284=>146 | 285=>147 | 286=>148 | 129=>166 | 317=>165 | 318=>167 | 319=>168 | 320=>169 | 337=>180 | 338=>181 | n=>n,fun | 2=>2 | 3=>3 | 9=>9 | 4=>4 | 171=>171 | 0=>0 | 53=>172 | 37=>22 | 5=>5 | 173=>175 | 212=>189 | 51=>190 | 20=>20 | 213=>191 | 46=>144 | 232=>203 | 233=>204 | n=>n,fun | 17=>0 | 18=>1 | 19=>2 | n=>n⟩
theorem Tryz.fmtI:LaysM.n173 Tryz.prog Tryz.fmtI_ren where
 mixed:=by kernel_rfl
 f129:=Tryz.func166.trans (congrArg some (by kernel_rfl))
 f173:=Tryz.func64.trans (congrArg some (by kernel_rfl))
 f246:=Tryz.func110.trans (congrArg some (by kernel_rfl))
 f283:=Tryz.func145.trans (congrArg some (by kernel_rfl))
 f284:=Tryz.func146.trans (congrArg some (by kernel_rfl))
 f285:=Tryz.func147.trans (congrArg some (by kernel_rfl))
 f286:=Tryz.func148.trans (congrArg some (by kernel_rfl))
 f317:=Tryz.func165.trans (congrArg some (by kernel_rfl))
 f318:=Tryz.func167.trans (congrArg some (by kernel_rfl))
 f319:=Tryz.func168.trans (congrArg some (by kernel_rfl))
 f320:=Tryz.func169.trans (congrArg some (by kernel_rfl))
 f337:=Tryz.func180.trans (congrArg some (by kernel_rfl))
 f338:=Tryz.func181.trans (congrArg some (by kernel_rfl))
 t0:=Tryz.underlying0
 a0:=Tryz.isAgg0
 z0:=Tryz.sizeOf0
 v0:=Tryz.zeroValue0
 t2:=Tryz.underlying2
 a2:=Tryz.isAgg2
 z2:=Tryz.sizeOf2
 v2:=Tryz.zeroValue2
 t3:=Tryz.underlying3
 a3:=Tryz.isAgg3
 z3:=Tryz.sizeOf3
 v3:=Tryz.zeroValue3
 t4:=Tryz.underlying4
 a4:=Tryz.isAgg4
 z4:=Tryz.sizeOf4
 v4:=Tryz.zeroValue4
 t5:=Tryz.underlying5
 a5:=Tryz.isAgg5
 z5:=Tryz.sizeOf5
 v5:=Tryz.zeroValue5
 t9:=Tryz.underlying9
 a9:=Tryz.isAgg9
 z9:=Tryz.sizeOf9
 v9:=Tryz.zeroValue9
 t20:=Tryz.underlying20
 a20:=Tryz.isAgg20
 z20:=Tryz.sizeOf20
 v20:=Tryz.zeroValue20
 t37:=Tryz.underlying22
 a37:=Tryz.isAgg22
 z37:=Tryz.sizeOf22
 v37:=Tryz.zeroValue22
 t46:=Tryz.underlying144
 a46:=Tryz.isAgg144
 z46:=Tryz.sizeOf144
 v46:=Tryz.zeroValue144
 t51:=Tryz.underlying190
 a51:=Tryz.isAgg190
 z51:=Tryz.sizeOf190
 v51:=Tryz.zeroValue190
 t53:=Tryz.underlying172
 a53:=Tryz.isAgg172
 z53:=Tryz.sizeOf172
 v53:=Tryz.zeroValue172
 t171:=Tryz.underlying171
 a171:=Tryz.isAgg171
 z171:=Tryz.sizeOf171
 v171:=Tryz.zeroValue171
 t173:=Tryz.underlying175
 a173:=Tryz.isAgg175
 z173:=Tryz.sizeOf175
 v173:=Tryz.zeroValue175
 t212:=Tryz.underlying189
 a212:=Tryz.isAgg189
 z212:=Tryz.sizeOf189
 v212:=Tryz.zeroValue189
 t213:=Tryz.underlying191
 a213:=Tryz.isAgg191
 z213:=Tryz.sizeOf191
 t232:=Tryz.underlying203
 a232:=Tryz.isAgg203
 z232:=Tryz.sizeOf203
 v232:=Tryz.zeroValue203
 t233:=Tryz.underlying204
 a233:=Tryz.isAgg204
 z233:=Tryz.sizeOf204
 v233:=Tryz.zeroValue204
 g17:=by kernel_rfl
 g18:=by kernel_rfl
 g19:=by kernel_rfl
 i0:=by kernel_rfl
 i2:=by kernel_rfl
 i3:=by kernel_rfl
 i4:=by kernel_rfl
 i5:=by kernel_rfl
 i9:=by kernel_rfl
 i20:=by kernel_rfl
 i37:=by kernel_rfl
 i46:=by kernel_rfl
 i51:=by kernel_rfl
 i53:=by kernel_rfl
 i171:=by kernel_rfl
 i173:=by kernel_rfl
 i212:=by kernel_rfl
 i232:=by kernel_rfl
 i233:=by kernel_rfl
 m17:=by kernel_rfl
 m18:=by kernel_rfl
 m19:=by kernel_rfl
theorem Only.grewN (w:World) (k:Nat) (os:Array Obj):Only [] w (grow (w.drewN k) os):=by
 refine (Only.ofDrewN w k []).trans ⟨rfl,rfl,rfl,by simp,fun j hj _=>heap_grow_old _ _ hj⟩
abbrev Pow10 (w:World):Prop:=Lib.TabIs Tryz.prog w "internal/strconv.uint64pow10" .u64 Lib.pow10Tab
theorem Pow10.keep {w w':World} (h:Pow10 w) (k:Only [] w w'):Pow10 w':=by
 unfold Pow10 Lib.TabIs World.var? at *
 cases hg:Tryz.prog.globalNamed "internal/strconv.uint64pow10" with
 | none=>rw [hg] at h;simp at h
 | some g=>
  rw [hg] at h
  simp only [Option.bind_some] at h ⊢
  have hlt:g < w.heap.size:=by
   rcases Nat.lt_or_ge g w.heap.size with h1 | h1
   ·exact h1
   ·rw [Array.getElem?_eq_none h1] at h;cases h
  rw [k.block g hlt (by simp)]
  exact h
set_option maxHeartbeats 1000000 in
theorem Zsd (n:Int) (hn:I64 n) (w:World) (ht:Pow10 w) :
  Calls Tryz.prog 30 #[.int .i64 n] w fun e w'=>e = .returned (.string (bA (Lib.itoa n)))/\Only [] w w':=by
 have Hc:Hid (Calls Tryz.prog 64 #[.int .i64 n,.int .i64 10] w fun e w'=>e = .returned (.string (bA (Lib.itoa n)))/\Only [] w w'):=zH (by
  unfold I64 at hn
  refine (Any.strconv_FormatInt_10 Tryz.fmtI n (by omega) (by omega) w ht).mono ?_
  rintro e w' ⟨he,k,os,rfl⟩
  exact ⟨he,Only.grewN w k os⟩)
 clear hn ht
 go_enter Tryz.func30,Tryz.ntmps30
 go_wp2_with (first
  | (go_at_call 64;(with_reducible refine (Hc.out).mono ?_);rintro e w1 ⟨rfl,t1⟩)
  | fail)
 go_ret
 exact ⟨rfl,t1⟩
end Go.Proofs.YtjfmkolnleicnaaGreatDoor

namespace Go.Proofs.YtjfmkolnleicnaaGreatDoor
open Go.RowKit
set_option maxRecDepth 10000
def fmtC (c:Claim):ByteArray:=
 if c.kind = 1 then ((⟨#[115,111,108,118,97,98,108,101,32,105,110,32,97,116,32,109,111,115,116,32]⟩:ByteArray) ++ bA (Lib.itoa c.value)) ++ (⟨#[32,108,101,116,116,101,114,115]⟩:ByteArray)
 else if c.kind = 2 then (⟨#[100,105,115,116,97,110,99,101,32]⟩:ByteArray) ++ bA (Lib.itoa c.value)
 else if c.kind = 3 then (⟨#[100,105,115,116,97,110,99,101,32,97,116,32,108,101,97,115,116,32]⟩:ByteArray) ++ bA (Lib.itoa c.value)
 else if c.kind = 4 then (⟨#[117,110,114,101,97,99,104,97,98,108,101]⟩:ByteArray)
 else ⟨#[]⟩
theorem Znv (n:Int) (hn:I64 n):(bA (Lib.itoa n)).size<=21:=by
 unfold I64 at hn
 rw [bA_size]
 exact Lib.itoa_length_le n (by omega) (by omega)
set_option maxHeartbeats 2000000 in
theorem Zil (cs:List Value) (c:Claim) (fp:List Nat) (w:World) (h:Rp.rep w cs c fp) :
  Calls Tryz.prog 13 #[.agg cs.toArray] w fun e w'=>e = .returned (.string (fmtC c))/\Only [] w w':=by
 obtain ⟨rfl,p0,p1,-⟩:=h
 have hS:=Znv c.value p1
 have HcS:Hid (∀ W,Calls Tryz.prog 31 #[.int .i64 c.value] W fun e w'=>e = .returned (.string (bA (Lib.itoa c.value)))/\Only [] W w'):=zH fun W=>Zik c.value p1 W
 obtain ⟨S,hSd⟩:∃ S,S = bA (Lib.itoa c.value):=⟨_,rfl⟩
 rw [<- hSd] at hS HcS
 have HS:=zH hSd
 have R0:=Blk.new w [.int .i64 c.kind,.int .i64 c.value] 34
 obtain ⟨c0,c1⟩:=R0.c2
 clear hSd p0 p1
 by_cases n1:c.kind = 1
 ·have kb1:(c.kind == 1) = true:=by simp [n1]
  have Hf:Hid (fmtC c = ((⟨#[115,111,108,118,97,98,108,101,32,105,110,32,97,116,32,109,111,115,116,32]⟩:ByteArray) ++ S) ++ (⟨#[32,108,101,116,116,101,114,115]⟩:ByteArray)):=zH (by unfold fmtC; rw [if_pos n1];rw [HS.out])
  have z0:(⟨#[115,111,108,118,97,98,108,101,32,105,110,32,97,116,32,109,111,115,116,32]⟩:ByteArray).size = 20:=rfl
  have z1:¬ 9223372036854775807 < (⟨#[115,111,108,118,97,98,108,101,32,105,110,32,97,116,32,109,111,115,116,32]⟩:ByteArray).size + S.size:=by rw [z0];omega
  have z1':¬ 9223372036854775807 < 20 + S.size:=by omega
  have y0:(⟨#[32,108,101,116,116,101,114,115]⟩:ByteArray).size = 8:=rfl
  have z2:¬ 9223372036854775807 < ((⟨#[115,111,108,118,97,98,108,101,32,105,110,32,97,116,32,109,111,115,116,32]⟩:ByteArray) ++ S).size + (⟨#[32,108,101,116,116,101,114,115]⟩:ByteArray).size:=by rw [ByteArray.size_append,z0,y0];omega
  have z3:¬ 9223372036854775807 < (⟨#[115,111,108,118,97,98,108,101,32,105,110,32,97,116,32,109,111,115,116,32]⟩:ByteArray).size + S.size + (⟨#[32,108,101,116,116,101,114,115]⟩:ByteArray).size:=by rw [z0,y0];omega
  have z4:¬ 9223372036854775807 < 20 + S.size + 8:=by omega
  clear n1
  go_enter Tryz.func13,Tryz.ntmps13
  go_wp2_with (first
   | (go_at_call 31;(with_reducible refine (HcS.out _).mono ?_);rintro e w1 ⟨rfl,t1⟩;have kt:Only [] w w1:=zA)
   | fail)
  go_ret
  exact ⟨by rw [Hf.out];rfl,kt⟩
 have kb1:(c.kind == 1) = false:=by simp [n1]
 by_cases n2:c.kind = 2
 ·have kb2:(c.kind == 2) = true:=by simp [n2]
  have Hf:Hid (fmtC c = (⟨#[100,105,115,116,97,110,99,101,32]⟩:ByteArray) ++ S):=zH (by unfold fmtC;rw [if_neg n1];rw [if_pos n2];rw [HS.out])
  have z0:(⟨#[100,105,115,116,97,110,99,101,32]⟩:ByteArray).size = 9:=rfl
  have z1:¬ 9223372036854775807 < (⟨#[100,105,115,116,97,110,99,101,32]⟩:ByteArray).size + S.size:=by rw [z0];omega
  have z1':¬ 9223372036854775807 < 9 + S.size:=by omega
  clear n1 n2
  go_enter Tryz.func13,Tryz.ntmps13
  go_wp2_with (first
   | (go_at_call 31;(with_reducible refine (HcS.out _).mono ?_);rintro e w1 ⟨rfl,t1⟩;have kt:Only [] w w1:=zA)
   | fail)
  go_ret
  exact ⟨by rw [Hf.out];rfl,kt⟩
 have kb2:(c.kind == 2) = false:=by simp [n2]
 by_cases n3:c.kind = 3
 ·have kb3:(c.kind == 3) = true:=by simp [n3]
  have Hf:Hid (fmtC c = (⟨#[100,105,115,116,97,110,99,101,32,97,116,32,108,101,97,115,116,32]⟩:ByteArray) ++ S):=zH (by unfold fmtC;rw [if_neg n1];rw [if_neg n2];rw [if_pos n3];rw [HS.out])
  have z0:(⟨#[100,105,115,116,97,110,99,101,32,97,116,32,108,101,97,115,116,32]⟩:ByteArray).size = 18:=rfl
  have z1:¬ 9223372036854775807 < (⟨#[100,105,115,116,97,110,99,101,32,97,116,32,108,101,97,115,116,32]⟩:ByteArray).size + S.size:=by rw [z0];omega
  have z1':¬ 9223372036854775807 < 18 + S.size:=by omega
  clear n1 n2 n3
  go_enter Tryz.func13,Tryz.ntmps13
  go_wp2_with (first
   | (go_at_call 31;(with_reducible refine (HcS.out _).mono ?_);rintro e w1 ⟨rfl,t1⟩;have kt:Only [] w w1:=zA)
   | fail)
  go_ret
  exact ⟨by rw [Hf.out];rfl,kt⟩
 have kb3:(c.kind == 3) = false:=by simp [n3]
 by_cases n4:c.kind = 4
 ·have kb4:(c.kind == 4) = true:=by simp [n4]
  have Hf:Hid (fmtC c = (⟨#[117,110,114,101,97,99,104,97,98,108,101]⟩:ByteArray)):=zH (by unfold fmtC;rw [if_neg n1];rw [if_neg n2];rw [if_neg n3];rw [if_pos n4])
  clear n1 n2 n3 n4
  go_enter Tryz.func13,Tryz.ntmps13
  go_wp2
  go_ret
  exact ⟨by rw [Hf.out];rfl,zA⟩
 have kb4:(c.kind == 4) = false:=by simp [n4]
 have Hf:Hid (fmtC c = ⟨#[]⟩):=zH (by unfold fmtC;rw [if_neg n1];rw [if_neg n2];rw [if_neg n3];rw [if_neg n4])
 clear n1 n2 n3 n4
 go_enter Tryz.func13,Tryz.ntmps13
 go_wp2
 go_ret
 exact ⟨by rw [Hf.out];rfl,zA⟩
set_option maxHeartbeats 2000000 in
theorem Zim (cs:List Value) (c:Claim) (fp:List Nat) (w:World) (h:Rp.rep w cs c fp) (ht:Pow10 w) :
  Calls Tryz.prog 12 #[.agg cs.toArray] w fun e w'=>e = .returned (.string (fmtC c))/\Only [] w w':=by
 obtain ⟨rfl,p0,p1,-⟩:=h
 have hS:=Znv c.value p1
 have HcI:Hid (∀ W,Only [] w W->Calls Tryz.prog 30 #[.int .i64 c.value] W fun e w'=>e = .returned (.string (bA (Lib.itoa c.value)))/\Only [] W w'):=zH fun W hW=>Zsd c.value p1 W (ht.keep hW)
 obtain ⟨S,hSd⟩:∃ S,S = bA (Lib.itoa c.value):=⟨_,rfl⟩
 rw [<- hSd] at hS HcI
 have HS:=zH hSd
 have R0:=Blk.new w [.int .i64 c.kind,.int .i64 c.value] 34
 obtain ⟨c0,c1⟩:=R0.c2
 clear hSd p0 p1 ht
 by_cases n1:c.kind = 1
 ·have kb1:(c.kind == 1) = true:=by simp [n1]
  have Hf:Hid (fmtC c = ((⟨#[115,111,108,118,97,98,108,101,32,105,110,32,97,116,32,109,111,115,116,32]⟩:ByteArray) ++ S) ++ (⟨#[32,108,101,116,116,101,114,115]⟩:ByteArray)):=zH (by unfold fmtC; rw [if_pos n1];rw [HS.out])
  have z0:(⟨#[115,111,108,118,97,98,108,101,32,105,110,32,97,116,32,109,111,115,116,32]⟩:ByteArray).size = 20:=rfl
  have z1:¬ 9223372036854775807 < (⟨#[115,111,108,118,97,98,108,101,32,105,110,32,97,116,32,109,111,115,116,32]⟩:ByteArray).size + S.size:=by rw [z0];omega
  have z1':¬ 9223372036854775807 < 20 + S.size:=by omega
  have y0:(⟨#[32,108,101,116,116,101,114,115]⟩:ByteArray).size = 8:=rfl
  have z2:¬ 9223372036854775807 < ((⟨#[115,111,108,118,97,98,108,101,32,105,110,32,97,116,32,109,111,115,116,32]⟩:ByteArray) ++ S).size + (⟨#[32,108,101,116,116,101,114,115]⟩:ByteArray).size:=by rw [ByteArray.size_append,z0,y0];omega
  have z3:¬ 9223372036854775807 < (⟨#[115,111,108,118,97,98,108,101,32,105,110,32,97,116,32,109,111,115,116,32]⟩:ByteArray).size + S.size + (⟨#[32,108,101,116,116,101,114,115]⟩:ByteArray).size:=by rw [z0,y0];omega
  have z4:¬ 9223372036854775807 < 20 + S.size + 8:=by omega
  clear n1
  go_enter Tryz.func12,Tryz.ntmps12
  go_wp2_with (first
   | (go_at_call 30;(with_reducible refine (HcI.out _ ((Only.refl [] w).alloc _)).mono ?_);rintro e w1 ⟨rfl,t1⟩;have kt:Only [] w w1:=zA;have R1:=R0.keep t1;obtain ⟨c0,c1⟩:=R1.c2)
   | fail)
  go_ret
  exact ⟨by rw [Hf.out];rfl,kt⟩
 have kb1:(c.kind == 1) = false:=by simp [n1]
 by_cases n2:c.kind = 2
 ·have kb2:(c.kind == 2) = true:=by simp [n2]
  have Hf:Hid (fmtC c = (⟨#[100,105,115,116,97,110,99,101,32]⟩:ByteArray) ++ S):=zH (by unfold fmtC;rw [if_neg n1];rw [if_pos n2];rw [HS.out])
  have z0:(⟨#[100,105,115,116,97,110,99,101,32]⟩:ByteArray).size = 9:=rfl
  have z1:¬ 9223372036854775807 < (⟨#[100,105,115,116,97,110,99,101,32]⟩:ByteArray).size + S.size:=by rw [z0];omega
  have z1':¬ 9223372036854775807 < 9 + S.size:=by omega
  clear n1 n2
  go_enter Tryz.func12,Tryz.ntmps12
  go_wp2_with (first
   | (go_at_call 30;(with_reducible refine (HcI.out _ ((Only.refl [] w).alloc _)).mono ?_);rintro e w1 ⟨rfl,t1⟩;have kt:Only [] w w1:=zA;have R1:=R0.keep t1;obtain ⟨c0,c1⟩:=R1.c2)
   | fail)
  go_ret
  exact ⟨by rw [Hf.out];rfl,kt⟩
 have kb2:(c.kind == 2) = false:=by simp [n2]
 by_cases n3:c.kind = 3
 ·have kb3:(c.kind == 3) = true:=by simp [n3]
  have Hf:Hid (fmtC c = (⟨#[100,105,115,116,97,110,99,101,32,97,116,32,108,101,97,115,116,32]⟩:ByteArray) ++ S):=zH (by unfold fmtC;rw [if_neg n1];rw [if_neg n2];rw [if_pos n3];rw [HS.out])
  have z0:(⟨#[100,105,115,116,97,110,99,101,32,97,116,32,108,101,97,115,116,32]⟩:ByteArray).size = 18:=rfl
  have z1:¬ 9223372036854775807 < (⟨#[100,105,115,116,97,110,99,101,32,97,116,32,108,101,97,115,116,32]⟩:ByteArray).size + S.size:=by rw [z0];omega
  have z1':¬ 9223372036854775807 < 18 + S.size:=by omega
  clear n1 n2 n3
  go_enter Tryz.func12,Tryz.ntmps12
  go_wp2_with (first
   | (go_at_call 30;(with_reducible refine (HcI.out _ ((Only.refl [] w).alloc _)).mono ?_);rintro e w1 ⟨rfl,t1⟩;have kt:Only [] w w1:=zA;have R1:=R0.keep t1;obtain ⟨c0,c1⟩:=R1.c2)
   | fail)
  go_ret
  exact ⟨by rw [Hf.out];rfl,kt⟩
 have kb3:(c.kind == 3) = false:=by simp [n3]
 by_cases n4:c.kind = 4
 ·have kb4:(c.kind == 4) = true:=by simp [n4]
  have Hf:Hid (fmtC c = (⟨#[117,110,114,101,97,99,104,97,98,108,101]⟩:ByteArray)):=zH (by unfold fmtC;rw [if_neg n1];rw [if_neg n2];rw [if_neg n3];rw [if_pos n4])
  clear n1 n2 n3 n4
  go_enter Tryz.func12,Tryz.ntmps12
  go_wp2_with (first
   | (go_at_call 30;(with_reducible refine (HcI.out _ ((Only.refl [] w).alloc _)).mono ?_);rintro e w1 ⟨rfl,t1⟩;have kt:Only [] w w1:=zA;have R1:=R0.keep t1;obtain ⟨c0,c1⟩:=R1.c2)
   | fail)
  go_ret
  exact ⟨by rw [Hf.out];rfl,kt⟩
 have kb4:(c.kind == 4) = false:=by simp [n4]
 have Hf:Hid (fmtC c = ⟨#[]⟩):=zH (by unfold fmtC;rw [if_neg n1];rw [if_neg n2];rw [if_neg n3];rw [if_neg n4])
 clear n1 n2 n3 n4
 go_enter Tryz.func12,Tryz.ntmps12
 go_wp2_with (first
  | (go_at_call 30;(with_reducible refine (HcI.out _ ((Only.refl [] w).alloc _)).mono ?_);rintro e w1 ⟨rfl,t1⟩;have kt:Only [] w w1:=zA;have R1:=R0.keep t1;obtain ⟨c0,c1⟩:=R1.c2)
  | fail)
 go_ret
 exact ⟨by rw [Hf.out];rfl,kt⟩
theorem Zsz (n:Nat) (vg:Value) (gens:List (List Int)) (fpg:List Nat) (w:World) (hg:Rd w vg gens fpg) (hgs:gensB n gens = true):∃ G T,PM.Chain n gens G T:=by
 obtain ⟨⟨n1,n20⟩,hgl,hpn⟩:=Zcl.1 hgs
 obtain ⟨e,w',fr,⟨L,gv,G,T,M,F,-,-,-,-,h,-⟩,-⟩:=Zet n (by omega) (by omega) vg gens fpg w hg (by simpa using hpn) (by omega) []
 exact ⟨G,T,h⟩
theorem Zvh {x:Puzzle} (hv:validPz x = true) (hC:∃ G T,PM.Chain x.points.toNat x.moves G T):ordC x.points.toNat x.moves x.points.toNat = cardG x:=by
 obtain ⟨G,T,h⟩:=hC
 have hf:=Zae hv
 have hn:0 < x.points.toNat:=by omega
 rw [<- ordC_eq h hn (Zas hv) (Nat.le_refl _)]
 exact Zld h hn (Zas hv)
theorem Ztq {x:Puzzle} {cs:List Value} {fp:List Nat} {w:World} (h:Rp.rep w cs x fp) (hv:validPz x = true):ordC x.points.toNat x.moves x.points.toNat = cardG x:=by
 obtain ⟨v2,rfl,p0,p1,h2⟩:=h
 have hf:=Zae hv
 have h1:((x.points.toNat:Nat):Int) = x.points:=by omega
 exact Zvh hv (Zsz x.points.toNat v2 x.moves _ w h2 (by rw [h1];exact Zcv hv))
theorem Ztc {x:Puzzle} {s:List Int} {c:Certificate} (h:(chkC x s c).isSome = false):(chkC x s c).getD noClaim = noClaim:=by
 cases e:chkC x s c with
 | none=>rfl
 | some q=>rw [e] at h;cases h
theorem Zsl {x:Puzzle} {s:List Int} {c:Certificate} {q:Claim} (h:chkC x s c = some q):validPz x = true:=by
 unfold chkC at h
 split at h
 ·rename_i hs
  exact Zdc hs
 ·cases h
set_option maxHeartbeats 16000000 in
theorem Zia (w:World) (v:Value) (l:List UInt8) (fc:List Nat) (h:Rd w v l fc) (ht:Pow10 w) :
  Calls Tryz.prog 3 #[v] w fun e w'=>e = .returned (.bool true)/\Only [] w w':=by
 by_cases hb:4096 < l.length
 ·have hd:decide (4096 < l.length) = true:=by simp [hb]
  go_enter Tryz.func3,Tryz.ntmps3
  go_wp2_with ((go_at_call 4;(with_reducible refine (big_any v l fc _ h).mono ?_);rintro e w1 ⟨he,t1⟩;rw [hd] at he;subst he))
  go_ret
  exact ⟨rfl,zA⟩
 have hd:decide (4096 < l.length) = false:=by simp [hb]
 have hl:l.length<=4096:=by omega
 go_enter Tryz.func3,Tryz.ntmps3
 go_upto_region 4 with (first
  | (go_at_call 4;(with_reducible refine (big_any v l fc _ h).mono ?_);rintro e w1 ⟨he,t1⟩;rw [hd] at he;subst he;have k1:Only [] w w1:=zA)
  | (go_at_call 5;(with_reducible refine (Zov v l fc w1 (zK h k1) hl).mono ?_);rintro e w2 ⟨n,nm,am,cm,gs,fp,aS,cS,s,fs,c,A1,A2,A3,n1,n2,n3,C1,C2,C3,f,rfl,rp,rs,rc,hcs,t2⟩)
  | fail)
 have kal:Only [] w2 ((w2.alloc (.cells #[.int .i64 n,.string nm,.slice am gs.length cm] 26)).alloc (.cells #[.int .i64 c.kind,.slice A1 n1 C1,.slice A2 n2 C2,.slice A3 n3 C3] 30)):=(zO.alloc _).alloc _
 have Bp:=(Blk.new w2 [.int .i64 n,.string nm,.slice am gs.length cm] 26).keep (zO.alloc (.cells #[.int .i64 c.kind,.slice A1 n1 C1,.slice A2 n2 C2,.slice A3 n3 C3] 30))
 have Bc:=Blk.new (w2.alloc (.cells #[.int .i64 n,.string nm,.slice am gs.length cm] 26)) [.int .i64 c.kind,.slice A1 n1 C1,.slice A2 n2 C2,.slice A3 n3 C3] 30
 have eY:(w2.alloc (.cells #[.int .i64 n,.string nm,.slice am gs.length cm] 26)).heap.size = w2.heap.size + 1:=by simp
 rw [eY] at Bc
 have rpW:=zK rp kal
 have rsW:=zK rs kal
 have rcW:=zK rc kal
 have kW:=(k1.trans t2).trans kal
 have htW:=ht.keep kW
 obtain ⟨W2,hW2⟩:∃ W,W = ((w2.alloc (.cells #[.int .i64 n,.string nm,.slice am gs.length cm] 26)).alloc (.cells #[.int .i64 c.kind,.slice A1 n1 C1,.slice A2 n2 C2,.slice A3 n3 C3] 30)):=⟨_,rfl⟩
 obtain ⟨pb,hpb⟩:∃ pb,pb = w2.heap.size:=⟨_,rfl⟩
 obtain ⟨cb,hcb⟩:∃ cb,cb = w2.heap.size + 1:=⟨_,rfl⟩
 try rw [eY]
 rw [<- hW2] at Bp Bc rpW rsW rcW kW htW ⊢
 rw [<- hcb] at Bc ⊢
 rw [<- hpb] at Bp ⊢
 clear hW2 hpb hcb eY kal rp rs rc k1 t1 t2 hb hd ht h hl
 obtain ⟨c00,c10,c20⟩:=Bp.c3;obtain ⟨d00,d10,d20,d30⟩:=Bc.c4
 have hp2:=Bp.lt;have hc2:=Bc.lt
 have hsm:=sm_tabs hcs.1
 have hri:=rep_i64 rcW
 have hik:=Zuj (x:=(⟨n,nm,gs⟩:Puzzle)) (s:=s) hri.1 hri.2
 have HcI:=zH (fun (W:World) (hK:Only [] W2 W)=>Zih [.int .i64 n,.string nm,.slice am gs.length cm] [.int .i64 c.kind,.slice A1 n1 C1,.slice A2 n2 C2,.slice A3 n3 C3] (⟨n,nm,gs⟩:Puzzle) c fp f (.slice aS s.length cS) s fs W (zK rpW hK) (zK rsW hK) (zK rcW hK) hsm)
 have HcS:=zH (fun (W:World) (hK:Only [] W2 W)=>Zpn [.int .i64 n,.string nm,.slice am gs.length cm] [.int .i64 c.kind,.slice A1 n1 C1,.slice A2 n2 C2,.slice A3 n3 C3] (⟨n,nm,gs⟩:Puzzle) c fp f (.slice aS s.length cS) s fs W (zK rpW hK) (zK rsW hK) (zK rcW hK) hsm)
 have HcA:=zH (fun (W:World) (hK:Only [] W2 W)=>Zkp [.int .i64 n,.string nm,.slice am gs.length cm] [.int .i64 c.kind,.slice A1 n1 C1,.slice A2 n2 C2,.slice A3 n3 C3] (⟨n,nm,gs⟩:Puzzle) c fp f (.slice aS s.length cS) s fs W (zK rpW hK) (zK rsW hK) (zK rcW hK) hsm)
 clear hsm hri hcs rcW
 rcases ho:(chkC (⟨n,nm,gs⟩:Puzzle) s c).isSome
 ·have hn:=Ztc ho
  rw [hn,ho] at HcI HcS
  rw [ho] at HcA
  simp only [noClaim] at HcI HcS
  clear hn ho hik rsW rpW htW
  go_upto_region 6 with (first
   | (go_at_call 6;(with_reducible refine (HcI.out _ zA).mono ?_);rintro e w3 ⟨rfl,t3⟩;have P3:=Bp.keep t3;have C3b:=Bc.keep t3;obtain ⟨c03,c13,c23⟩:=P3.c3;obtain ⟨d03,d13,d23,d33⟩:=C3b.c4;have h3:=P3.lt;have h3c:=C3b.lt;have X3:=Blk.new w3 [.int .i64 0,.int .i64 0] 34;obtain ⟨q03,q13⟩:=X3.c2)
   | (go_at_call 7;(with_reducible refine (HcS.out _ zA).mono ?_);rintro e w4 ⟨rfl,t4⟩;have P4:=(P3.keep (zO.alloc (.cells #[.int .i64 0,.int .i64 0] 34))).keep t4;have C4b:=(C3b.keep (zO.alloc (.cells #[.int .i64 0,.int .i64 0] 34))).keep t4;obtain ⟨c04,c14,c24⟩:=P4.c3;obtain ⟨d04,d14,d24,d34⟩:=C4b.c4;have h4:=P4.lt;have X4:=X3.keep t4;obtain ⟨q04,q14⟩:=X4.c2;have h4x:=X4.lt)
   | fail)
  have kal5:Only [] w4 (w4.alloc (.cells #[.int .i64 0,.int .i64 0] 34)):=zO.alloc _
  have P5:=P4.keep kal5
  have C5b:=C4b.keep kal5
  have X5:=X4.keep kal5
  have Y5:=Blk.new w4 [.int .i64 0,.int .i64 0] 34
  have k25:Only [] W2 (w4.alloc (.cells #[.int .i64 0,.int .i64 0] 34)):=zA
  obtain ⟨kb,hkb⟩:∃ kb,kb = w3.heap.size:=⟨_,rfl⟩
  obtain ⟨yb,hyb⟩:∃ yb,yb = w4.heap.size:=⟨_,rfl⟩
  obtain ⟨W5,hW5⟩:∃ W,W = w4.alloc (.cells #[.int .i64 0,.int .i64 0] 34):=⟨_,rfl⟩
  rw [<- hW5] at P5 C5b X5 Y5 k25 ⊢
  rw [<- hkb] at X5 ⊢
  rw [<- hyb] at Y5 ⊢
  clear hW5 hkb hyb kal5 P3 C3b X3 P4 C4b X4 c03 c13 c23 d03 d13 d23 d33 q03 q13 c04 c14 c24 d04 d14 d24 d34 q04 q14 h3 h3c h4 h4x t3 t4
  obtain ⟨c05,c15,c25⟩:=P5.c3;obtain ⟨d05,d15,d25,d35⟩:=C5b.c4;obtain ⟨q05,q15⟩:=X5.c2
  obtain ⟨y05,y15⟩:=Y5.c2
  have HcA5:=zH (HcA.out W5 k25)
  go_wp2_with (first
   | (go_at_call 8;(with_reducible refine (HcA5.out).mono ?_);rintro e w6 ⟨rfl,t6⟩;have X6:=X5.keep t6;obtain ⟨q06,q16⟩:=X6.c2)
   | fail)
  go_ret
  exact ⟨rfl,kW.trans (k25.trans t6)⟩
 ·obtain ⟨q,hq⟩:∃ q,chkC (⟨n,nm,gs⟩:Puzzle) s c = some q:=Option.isSome_iff_exists.1 ho
  have hv:=Zsl hq
  have hct:=Zuo hq
  rw [ho,hq] at HcI HcS
  rw [ho] at HcA
  rw [hq] at hik
  simp only [Option.getD_some] at HcI HcS hik
  have hiff:=Zrk hv
  have hoc:=Ztq rpW hv
  have HcN:=zH (fun (W:World) (hK:Only [] W2 W)=>Ziz [.int .i64 n,.string nm,.slice am gs.length cm] (⟨n,nm,gs⟩:Puzzle) fp W (zK rpW hK) hv)
  rw [hoc] at HcN
  obtain ⟨N,hN⟩:∃ N,N = cardG (⟨n,nm,gs⟩:Puzzle):=⟨_,rfl⟩
  rw [<- hN] at HcN hiff
  have hcl:∀ (W:World),Rp.rep W [.int .i64 q.kind,.int .i64 q.value] q []:=fun W=>⟨rfl,hik.1,hik.2,rfl⟩
  have HcH1:=zH (fun (W:World) (hK:Only [] W2 W)=>Zom [.int .i64 n,.string nm,.slice am gs.length cm] [.int .i64 q.kind,.int .i64 q.value] (⟨n,nm,gs⟩:Puzzle) fp (.slice aS s.length cS) s fs q [] W (zK rpW hK) (zK rsW hK) (hcl W))
  have HcH2:=zH (fun (W:World) (hK:Only [] W2 W)=>Zon [.int .i64 n,.string nm,.slice am gs.length cm] [.int .i64 q.kind,.int .i64 q.value] (⟨n,nm,gs⟩:Puzzle) fp (.slice aS s.length cS) s fs q [] W (zK rpW hK) (zK rsW hK) (hcl W))
  have HcF1:=zH (fun (W:World) (hK:Only [] W2 W)=>Zim [.int .i64 q.kind,.int .i64 q.value] q [] W (hcl W) (htW.keep hK))
  have HcF2:=zH (fun (W:World) (hK:Only [] W2 W)=>Zil [.int .i64 q.kind,.int .i64 q.value] q [] W (hcl W))
  obtain ⟨FT,hFT⟩:∃ FT,FT = fmtC q:=⟨_,rfl⟩
  rw [<- hFT] at HcF1 HcF2
  have hyes:(3000 < N->q.kind = 4)->clmB (⟨n,nm,gs⟩:Puzzle) s q = true:=fun hh=>hct fun hk=>hiff.2 (by
   rcases Nat.lt_or_ge 3000 N with h1 | h1
   ·exact absurd (hh h1) hk
   ·exact h1)
  obtain ⟨K,hK⟩:∃ K,K = q.kind:=⟨_,rfl⟩
  obtain ⟨V,hV⟩:∃ V,V = q.value:=⟨_,rfl⟩
  obtain ⟨B,hB⟩:∃ B,B = clmB (⟨n,nm,gs⟩:Puzzle) s q:=⟨_,rfl⟩
  rw [<- hB] at HcH1 HcH2 hyes
  rw [<- hK,<- hV] at HcI HcS HcH1 HcH2 HcF1 HcF2
  rw [<- hK] at hyes
  clear hcl hct hiff hoc hN hFT hik hv hq ho hK hV hB rsW rpW htW
  go_upto_region 6 with (first
   | (go_at_call 6;(with_reducible refine (HcI.out _ zA).mono ?_);rintro e w3 ⟨rfl,t3⟩;have P3:=Bp.keep t3;have C3b:=Bc.keep t3;obtain ⟨c03,c13,c23⟩:=P3.c3;obtain ⟨d03,d13,d23,d33⟩:=C3b.c4;have h3:=P3.lt;have h3c:=C3b.lt;have X3:=Blk.new w3 [.int .i64 K,.int .i64 V] 34;obtain ⟨q03,q13⟩:=X3.c2)
   | (go_at_call 7;(with_reducible refine (HcS.out _ zA).mono ?_);rintro e w4 ⟨rfl,t4⟩;have P4:=(P3.keep (zO.alloc (.cells #[.int .i64 K,.int .i64 V] 34))).keep t4;have C4b:=(C3b.keep (zO.alloc (.cells #[.int .i64 K,.int .i64 V] 34))).keep t4;obtain ⟨c04,c14,c24⟩:=P4.c3;obtain ⟨d04,d14,d24,d34⟩:=C4b.c4;have h4:=P4.lt;have X4:=X3.keep t4;obtain ⟨q04,q14⟩:=X4.c2;have h4x:=X4.lt)
   | fail)
  have kal5:Only [] w4 (w4.alloc (.cells #[.int .i64 K,.int .i64 V] 34)):=zO.alloc _
  have P5:=P4.keep kal5
  have C5b:=C4b.keep kal5
  have X5:=X4.keep kal5
  have Y5:=Blk.new w4 [.int .i64 K,.int .i64 V] 34
  have k25:Only [] W2 (w4.alloc (.cells #[.int .i64 K,.int .i64 V] 34)):=zA
  obtain ⟨kb,hkb⟩:∃ kb,kb = w3.heap.size:=⟨_,rfl⟩
  obtain ⟨yb,hyb⟩:∃ yb,yb = w4.heap.size:=⟨_,rfl⟩
  obtain ⟨W5,hW5⟩:∃ W,W = w4.alloc (.cells #[.int .i64 K,.int .i64 V] 34):=⟨_,rfl⟩
  rw [<- hW5] at P5 C5b X5 Y5 k25 ⊢
  rw [<- hkb] at X5 ⊢
  rw [<- hyb] at Y5 ⊢
  clear hW5 hkb hyb kal5 P3 C3b X3 P4 C4b X4 c03 c13 c23 d03 d13 d23 d33 q03 q13 c04 c14 c24 d04 d14 d24 d34 q04 q14 h3 h3c h4 h4x t3 t4
  obtain ⟨c05,c15,c25⟩:=P5.c3;obtain ⟨d05,d15,d25,d35⟩:=C5b.c4;obtain ⟨q05,q15⟩:=X5.c2
  obtain ⟨y05,y15⟩:=Y5.c2
  have HcA5:=zH (HcA.out W5 k25)
  go_upto_region 10 with (first
   | (go_at_call 8;(with_reducible refine (HcA5.out).mono ?_);rintro e w6 ⟨rfl,t6⟩;have X6:=X5.keep t6;have P6:=P5.keep t6;have k26:=k25.trans t6;obtain ⟨q06,q16⟩:=X6.c2;obtain ⟨c06,c16,c26⟩:=P6.c3)
   | fail)
  have hp6:=P6.lt;have hx6:=X6.lt
  have HcN6:=zH (HcN.out w6 k26)
  by_cases hN3:3000 < N
  ·have hNI:(3000:Int) < (N:Int):=by omega
   by_cases hk4:K = 4
   ·subst hk4
    have Hb:=zH (hyes fun _=>rfl)
    clear hyes
    go_upto_region 12 with (first
     | (go_at_call 9;(with_reducible refine (HcN6.out).mono ?_);rintro e w7 ⟨rfl,o1,o2,t7⟩;have X7:=X6.keep t7;have P7:=P6.keep t7;obtain ⟨q07,q17⟩:=X7.c2;obtain ⟨c07,c17,c27⟩:=P7.c3;have k27:=k26.trans t7)
     | fail)
    go_region_held3 (fun w'=>Only [] w7 w'/\w'.cell? ⟨pb,0,none⟩ = some (.int .i64 n)/\w'.cell? ⟨pb,1,none⟩ = some (.string nm)/\w'.cell? ⟨pb,2,none⟩ = some (.slice am gs.length cm)/\w'.cell? ⟨kb,0,none⟩ = some (.int .i64 4)/\w'.cell? ⟨kb,1,none⟩ = some (.int .i64 V)) (((refine and_of ?_ (fun q_=>⟨q_.ce c07,q_.ce c17,q_.ce c27,q_.ce q07,q_.ce q17⟩));first | exact zO.drew | exact (zO.drewN _).drew | exact Only.trans (And.left (by assumption)) (by assumption) | exact Only.alloc (And.left (by assumption)) _ | assumption)) (first | (go_at_call 10;(with_reducible refine (HcH1.out _ (k27.trans (And.left (by assumption)))).mono ?_);rintro e w8 ⟨he,t8⟩;rw [Hb.out] at he;subst he) | (go_at_call 11;(with_reducible refine (HcH2.out _ (k27.trans (And.left (by assumption)))).mono ?_);rintro e w9 ⟨he,t9⟩;rw [Hb.out] at he;subst he) | (go_at_call 12;(with_reducible refine (HcF1.out _ (k27.trans (And.left (by assumption)))).mono ?_);rintro e wA ⟨rfl,tA⟩) | (go_at_call 13;(with_reducible refine (HcF2.out _ (k27.trans (And.left (by assumption)))).mono ?_);rintro e wB ⟨rfl,tB⟩) | fail)
    go_wp2
    go_ret
    refine ⟨?_,kW.trans (k27.trans (by with_reducible exact And.left (by assumption)))⟩
    first
     | rfl
     | exact Zaa (by simp)
   ·have hkn:(K != 4) = true:=by simp [hk4]
    clear hyes
    go_wp2_with (first
     | (go_at_call 9;(with_reducible refine (HcN6.out).mono ?_);rintro e w7 ⟨rfl,o1,o2,t7⟩;have X7:=X6.keep t7;obtain ⟨q07,q17⟩:=X7.c2)
     | fail)
    go_ret
    exact ⟨rfl,kW.trans (k26.trans t7)⟩
  ·have hNI:¬ (3000:Int) < (N:Int):=by omega
   have Hb:=zH (hyes fun h1=>absurd h1 hN3)
   clear hyes
   go_upto_region 12 with (first
    | (go_at_call 9;(with_reducible refine (HcN6.out).mono ?_);rintro e w7 ⟨rfl,o1,o2,t7⟩;have X7:=X6.keep t7;have P7:=P6.keep t7;obtain ⟨q07,q17⟩:=X7.c2;obtain ⟨c07,c17,c27⟩:=P7.c3;have k27:=k26.trans t7)
    | fail)
   go_region_held3 (fun w'=>Only [] w7 w'/\w'.cell? ⟨pb,0,none⟩ = some (.int .i64 n)/\w'.cell? ⟨pb,1,none⟩ = some (.string nm)/\w'.cell? ⟨pb,2,none⟩ = some (.slice am gs.length cm)/\w'.cell? ⟨kb,0,none⟩ = some (.int .i64 K)/\w'.cell? ⟨kb,1,none⟩ = some (.int .i64 V)) (((refine and_of ?_ (fun q_=>⟨q_.ce c07,q_.ce c17,q_.ce c27,q_.ce q07,q_.ce q17⟩));first | exact zO.drew | exact (zO.drewN _).drew | exact Only.trans (And.left (by assumption)) (by assumption) | exact Only.alloc (And.left (by assumption)) _ | assumption)) (first | (go_at_call 10;(with_reducible refine (HcH1.out _ (k27.trans (And.left (by assumption)))).mono ?_);rintro e w8 ⟨he,t8⟩;rw [Hb.out] at he;subst he) | (go_at_call 11;(with_reducible refine (HcH2.out _ (k27.trans (And.left (by assumption)))).mono ?_);rintro e w9 ⟨he,t9⟩;rw [Hb.out] at he;subst he) | (go_at_call 12;(with_reducible refine (HcF1.out _ (k27.trans (And.left (by assumption)))).mono ?_);rintro e wA ⟨rfl,tA⟩) | (go_at_call 13;(with_reducible refine (HcF2.out _ (k27.trans (And.left (by assumption)))).mono ?_);rintro e wB ⟨rfl,tB⟩) | fail)
   go_wp2
   go_ret
   refine ⟨?_,kW.trans (k27.trans (by with_reducible exact And.left (by assumption)))⟩
   first
    | rfl
    | exact Zaa (by simp)
end Go.Proofs.YtjfmkolnleicnaaGreatDoor
