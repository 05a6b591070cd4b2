/- The words of both phases by the program (laws 46, 51, 57, 58). -/
import Derived.Test.YtclhblofchfglaaGreatRowCompareSolversG16
import Derived.Test.YtclhblofchfglaaGreatRowCompareSolversG11
import Derived.Test.YtclhblofchfglaaGreatRowCompareSolversG9
import Derived.Test.YtclhblofchfglaaGreatRowCompareSolversG8
import Derived.Test.YtclhblofchfglaaGreatRowCompareSolversG14
import Derived.Test.YtclhblofchfglaaGreatRowCompareSolversG10
import Derived.Deep.RegionHeld3
namespace Go.Proofs.YtclhblofchfglaaGreat
open Go.RowKit
set_option maxRecDepth 10000
theorem twX_bad {x:Puzzle} {sub s:List Int} (h:((expl x).isSome && trackB x.moves.length sub) = false):twX x sub s = none:=by
 unfold twX
 cases h1:expl x with
 | none=>rfl
 | some t=>
  cases expl (subP x sub) with
  | none=>rfl
  | some ts=>
   rw [h1] at h
   have h2:trackB x.moves.length sub = false:=by simpa using h
   simp only
   rw [if_neg (by rw [h2];simp)]
theorem twX_out {x:Puzzle} {sub s:List Int} (h:reachB x s = false):twX x sub s = none:=by
 unfold twX
 cases expl x with
 | none=>rfl
 | some t=>
  cases expl (subP x sub) with
  | none=>rfl
  | some ts=>
   simp only
   rw [if_neg (by rw [h];simp)]
theorem twX_far {x:Puzzle} {t ts:Table} {sub s:List Int} (he:expl x = some t) (h2:expl (subP x sub) = some ts) (h:¬ (twN1 x t ts s<=200/\twN2 x t ts s<=200)):twX x sub s = none:=by
 unfold twX
 rw [he,h2]
 simp only
 rw [if_neg h]
 simp
theorem twX_yes {x:Puzzle} {t ts:Table} {sub s:List Int} (he:expl x = some t) (ht:trackB x.moves.length sub = true) (h2:expl (subP x sub) = some ts) (hr:reachB x s = true) (h:twN1 x t ts s<=200/\twN2 x t ts s<=200):twX x sub s = some (twW1 x t ts s,twW2 x sub t ts s):=by
 unfold twX
 rw [he,h2]
 simp only
 rw [if_pos (by rw [hr,ht];rfl),if_pos h]
set_option maxHeartbeats 4000000 in
theorem Zdo (cs:List Value) (x:Puzzle) (fp:List Nat) (v:Value) (sub:List Int) (fs1:List Nat) (u:Value) (s:List Int) (fs0:List Nat) (w:World) (h:Rp.rep w cs x fp) (hg:Rd w v sub fs1) (hs:Rd w u s fs0) :
  Calls Tryz.prog 41 #[.agg cs.toArray,v,u] w fun e w'=>∃ z1 z2 f1 f2,e = .returned (.tuple #[z1,z2,.bool (twX x sub s).isSome])/\Rd w' z1 ((twX x sub s).getD ([],[])).1 f1/\Rd w' z2 ((twX x sub s).getD ([],[])).2 f2/\Only [] w w':=by
 have h0:=h
 obtain ⟨v2,rfl,p0,p1,h3⟩:=h
 clear p0 p1 h3
 rcases hb:((expl x).isSome && trackB x.moves.length sub)
 ·have Hn:=zH (twX_bad (s:=s) hb)
  have Hb:=zH hb
  clear hb
  go_enter Tryz.func41,Tryz.ntmps41
  go_wp2_with (first
   | (go_at_call 77;(with_reducible refine (Zqk [.int .i64 x.points,.string x.names,v2] x _ _ sub _ u _ (zK h0 zA) (zK hg zA) Hb.out).mono ?_);rintro e w1 ⟨rfl,t1⟩)
   | fail)
  exact bodyPost_ret (v:=.tuple #[.slice none 0 0,.slice none 0 0,.bool false]) (by simp [results,Tryz.results41,go_sem]) rfl ⟨.slice none 0 0,.slice none 0 0,[],[],by rw [Hn.out];rfl,by rw [Hn.out];exact nil_rd _,by rw [Hn.out];exact nil_rd _,zA⟩
 rw [Bool.and_eq_true] at hb
 obtain ⟨he',ht⟩:=hb
 obtain ⟨t,he⟩:=Option.isSome_iff_exists.1 he'
 clear he'
 obtain ⟨hbu,-⟩:=Zad he
 have hv:=hbu.v
 obtain ⟨ts,h2⟩:=Zot hv ht he
 have He:=zH he
 have Ht:=zH ht
 have H2:=zH h2
 rcases hr:reachB x s
 ·have Hn:=zH (twX_out (sub:=sub) hr)
  have hm:s ∉ t.patterns:=fun hm=>by rw [(Zak he).1 hm] at hr;cases hr
  have Hm:=zH hm
  clear he hr hm ht h2 hbu hv
  go_enter Tryz.func41,Tryz.ntmps41
  go_wp2_with (first
   | (go_at_call 77;(with_reducible refine (Zrb [.int .i64 x.points,.string x.names,v2] x t ts _ _ sub _ u s _ _ (zK h0 zA) (zK hg zA) (zK hs zA) He.out Ht.out H2.out Hm.out).mono ?_);rintro e w1 ⟨⟨z,rfl⟩,t1⟩)
   | fail)
  exact bodyPost_ret (v:=.tuple #[.slice none 0 0,.slice none 0 0,.bool false]) (by simp [results,Tryz.results41,go_sem]) rfl ⟨.slice none 0 0,.slice none 0 0,[],[],by rw [Hn.out];rfl,by rw [Hn.out];exact nil_rd _,by rw [Hn.out];exact nil_rd _,zA⟩
 obtain ⟨i0,hi0,hp0⟩:=List.getElem_of_mem ((Zak he).2 hr)
 have e1:t.patterns.getD i0 [] = s:=by rw [Zab hi0,hp0]
 obtain ⟨k1,-,i2,j2,k2,k3,k4,k5,k6,k7,k8,-⟩:=Zhv he ht h2 hi0
 rw [e1] at k1 k3 k6 k7 k8
 have E1:=zH e1
 have h0s:subS ts t.tracked = true:=Zff he h2
 have hlD:(mD x t (subS ts)).length = t.patterns.length:=(mD_F hbu).dl
 have hDs:∀ (gh ge:Nat) (W0:World),Phs W0 x t ts sub (.pointer (some ⟨gh,0,none⟩))->Exp W0 x t (.pointer (some ⟨ge,0,none⟩))->∀ W,Only [] W0 W->Calls Tryz.prog 78 #[.pointer (some ⟨ge,0,none⟩),.func (.func 79) #[.pointer (some ⟨gh,0,none⟩)] #[]] W fun e w'=>∃ u,e = .returned u/\AccI W.heap.size 2 w' u (mD x t (subS ts))/\Only [] W w':=fun gh ge W0 hP hE W hW=>
  Zgm x t (.pointer (some ⟨ge,0,none⟩)) 79 #[.pointer (some ⟨gh,0,none⟩)] #[] (subS ts) W (hE.keep hW) He.out Tryz.call79 (fun i hi W' hW'=>by
   simpa using Ztr x t ts sub (.pointer (some ⟨gh,0,none⟩)) i W' (hP.keep (hW.trans hW')) H2.out hi)
 have HDs:=zH hDs
 clear hDs
 by_cases hN1:twN1 x t ts s<=200
 ·have hD1:∀ (ge:Nat) (W:World) (u3:Value) (B:Nat),Exp W x t (.pointer (some ⟨ge,0,none⟩))->AccI B 2 W u3 (mD x t (subS ts))->Calls Tryz.prog 66 #[.pointer (some ⟨ge,0,none⟩),u3,.int .i64 i0] W fun e w'=>∃ (u:Value) (f:List Nat) (j:Nat),e = .returned (.tuple #[u,.int .i64 j,.bool true])/\Rd w' u (twW1 x t ts s) f/\j < t.patterns.length/\t.patterns.getD j [] = twS1 x t ts s/\Only [] W w':=fun ge W u3 B hE hA=>
   (Zje x t _ u3 (subS ts) _ i0 (twN1 x t ts s) W hE He.out h0s hA.rd hi0 k1 hN1).mono (fun e w' hh=>by
    obtain ⟨u,j',h1,h2,h3,h4,-,h6⟩:=hh
    rw [E1.out] at h2 h4
    exact ⟨u,_,j',h1,h2.rd,h3,h4,h6⟩)
  have HD1:=zH hD1
  by_cases hN2:twN2 x t ts s<=200
  ·have Hn:=zH (twX_yes he ht h2 hr ⟨hN1,hN2⟩)
   have hP2:∀ (gh j:Nat) (W:World),Phs W x t ts sub (.pointer (some ⟨gh,0,none⟩))->j < t.patterns.length->t.patterns.getD j [] = twS1 x t ts s->Calls Tryz.prog 80 #[.pointer (some ⟨gh,0,none⟩),.int .i64 j] W fun e w'=>∃ u f,e = .returned (.tuple #[u,.bool true])/\Rd w' u (twW2 x sub t ts s) f/\Only [] W w':=fun gh j W hP hj hjs=>
    (Zqc x t ts sub _ j j2 (twN2 x t ts s) W hP hv Ht.out H2.out hj k5 (k6.trans hjs.symm) k7 hN2 (by rw [hjs];exact k8)).mono (fun e w' hh=>by
     obtain ⟨u,f,h1,h2,-,h6⟩:=hh
     rw [hjs] at h2
     exact ⟨u,f,h1,h2,h6⟩)
   have HP2:=zH hP2
   obtain ⟨W1,hW1⟩:∃ W1,W1 = twW1 x t ts s:=⟨_,rfl⟩
   obtain ⟨W2,hW2⟩:∃ W2,W2 = twW2 x sub t ts s:=⟨_,rfl⟩
   obtain ⟨S1,hS1⟩:∃ S1,S1 = twS1 x t ts s:=⟨_,rfl⟩
   rw [<- hW1] at HD1 Hn
   rw [<- hW2] at HP2 Hn
   rw [<- hS1] at HD1 HP2
   obtain ⟨D,hD⟩:∃ D,D = mD x t (subS ts):=⟨_,rfl⟩
   rw [<- hD] at HDs HD1
   clear he hr ht h2 hbu hv hp0 e1 k1 k2 k3 k4 k5 k6 k7 k8 h0s hlD hD1 hP2 hW1 hW2 hS1 hD hN1 hN2
   go_enter Tryz.func41,Tryz.ntmps41
   go_upto_region 4 with (first
    | (go_at_call 77;(with_reducible refine (Zfn [.int .i64 x.points,.string x.names,v2] x t ts _ _ sub _ u s _ i0 _ (zK h0 zA) (zK hg zA) (zK hs zA) He.out Ht.out H2.out hi0 E1.out).mono ?_);rintro e w1 ⟨z,rfl,hP,t1⟩;obtain ⟨gh,ge,gs,vsub,f,rfl,hB,hE,-,-⟩:=hP.fst;have x0:=hB.cell 0 rfl;have K1:Only [] w w1:=zA)
    | fail)
   go_region_held3 (fun w'=>Only [] w1 w'/\w'.cell? ⟨gh,0,none⟩ = some (.pointer (some ⟨ge,0,none⟩))) (((refine and_of ?_ (fun q_=>q_.ce x0));first | exact zO.drew | exact (zO.drewN _).drew | exact Only.trans (And.left (by assumption)) (by assumption) | exact Only.alloc (And.left (by assumption)) _ | assumption)) (first | (go_at_call 78;(with_reducible refine (HDs.out gh ge w1 hP hE _ (And.left (by assumption))).mono ?_);rintro e w5 ⟨u5,rfl,A5,t5⟩) | (go_at_call 66;(with_reducible refine (HD1.out ge _ _ _ (hE.keep (And.left (by assumption))) (A5.keep zA)).mono ?_);rintro e w6 ⟨u6,f6,j6,rfl,r6,l6,s6,t6⟩) | fail)
   have k6:Only [] w1 w6:=(Only.refl [] w1).trans (And.left (by assumption))
   go_wp2_with (first
    | (go_at_call 80;(with_reducible refine (HP2.out gh j6 _ (hP.keep k6) l6 s6).mono ?_);rintro e w7 ⟨u7,f7,rfl,r7,t7⟩)
    | fail)
   exact bodyPost_ret (v:=.tuple #[u6,u7,.bool true]) (by simp [results,Tryz.results41,go_sem]) rfl ⟨u6,u7,f6,f7,by rw [Hn.out];rfl,by rw [Hn.out];exact zK r6 t7,by rw [Hn.out];exact r7,(K1.trans k6).trans t7⟩
  ·have Hn:=zH (twX_far (s:=s) he h2 (fun hh=>hN2 hh.2))
   have hP2:∀ (gh j:Nat) (W:World),Phs W x t ts sub (.pointer (some ⟨gh,0,none⟩))->j < t.patterns.length->t.patterns.getD j [] = twS1 x t ts s->Calls Tryz.prog 80 #[.pointer (some ⟨gh,0,none⟩),.int .i64 j] W fun e w'=>e = .returned (.tuple #[.slice none 0 0,.bool false])/\Only [] W w':=fun gh j W hP hj hjs=>
    Zox x t ts sub _ j j2 W hP H2.out hj k5 (k6.trans hjs.symm) (by rw [k7];omega)
   have HP2:=zH hP2
   obtain ⟨S1,hS1⟩:∃ S1,S1 = twS1 x t ts s:=⟨_,rfl⟩
   rw [<- hS1] at HD1 HP2
   obtain ⟨W1,hW1⟩:∃ W1,W1 = twW1 x t ts s:=⟨_,rfl⟩
   rw [<- hW1] at HD1
   obtain ⟨D,hD⟩:∃ D,D = mD x t (subS ts):=⟨_,rfl⟩
   rw [<- hD] at HDs HD1
   clear he hr ht h2 hbu hv hp0 e1 k1 k2 k3 k4 k5 k6 k7 k8 h0s hlD hD1 hP2 hW1 hS1 hD hN1 hN2
   go_enter Tryz.func41,Tryz.ntmps41
   go_upto_region 4 with (first
    | (go_at_call 77;(with_reducible refine (Zfn [.int .i64 x.points,.string x.names,v2] x t ts _ _ sub _ u s _ i0 _ (zK h0 zA) (zK hg zA) (zK hs zA) He.out Ht.out H2.out hi0 E1.out).mono ?_);rintro e w1 ⟨z,rfl,hP,t1⟩;obtain ⟨gh,ge,gs,vsub,f,rfl,hB,hE,-,-⟩:=hP.fst;have x0:=hB.cell 0 rfl;have K1:Only [] w w1:=zA)
    | fail)
   go_region_held3 (fun w'=>Only [] w1 w'/\w'.cell? ⟨gh,0,none⟩ = some (.pointer (some ⟨ge,0,none⟩))) (((refine and_of ?_ (fun q_=>q_.ce x0));first | exact zO.drew | exact (zO.drewN _).drew | exact Only.trans (And.left (by assumption)) (by assumption) | exact Only.alloc (And.left (by assumption)) _ | assumption)) (first | (go_at_call 78;(with_reducible refine (HDs.out gh ge w1 hP hE _ (And.left (by assumption))).mono ?_);rintro e w5 ⟨u5,rfl,A5,t5⟩) | (go_at_call 66;(with_reducible refine (HD1.out ge _ _ _ (hE.keep (And.left (by assumption))) (A5.keep zA)).mono ?_);rintro e w6 ⟨u6,f6,j6,rfl,r6,l6,s6,t6⟩) | fail)
   have k6:Only [] w1 w6:=(Only.refl [] w1).trans (And.left (by assumption))
   go_wp2_with (first
    | (go_at_call 80;(with_reducible refine (HP2.out gh j6 _ (hP.keep k6) l6 s6).mono ?_);rintro e w7 ⟨rfl,t7⟩)
    | fail)
   exact bodyPost_ret (v:=.tuple #[.slice none 0 0,.slice none 0 0,.bool false]) (by simp [results,Tryz.results41,go_sem]) rfl ⟨.slice none 0 0,.slice none 0 0,[],[],by rw [Hn.out];rfl,by rw [Hn.out];exact nil_rd _,by rw [Hn.out];exact nil_rd _,(K1.trans k6).trans t7⟩
 ·have Hn:=zH (twX_far (s:=s) he h2 (fun hh=>hN1 hh.1))
  have hD1:∀ (ge:Nat) (W:World) (u3:Value) (B:Nat),AccI B 2 W u3 (mD x t (subS ts))->Calls Tryz.prog 66 #[.pointer (some ⟨ge,0,none⟩),u3,.int .i64 i0] W fun e w'=>e = .returned (.tuple #[.slice none 0 0,.int .i64 0,.bool false])/\Only [] W w':=fun ge W u3 B hA=>Zjd _ u3 _ _ i0 W hA.rd (by omega) (by rw [k1];omega)
  have HD1:=zH hD1
  obtain ⟨D,hD⟩:∃ D,D = mD x t (subS ts):=⟨_,rfl⟩
  rw [<- hD] at HDs HD1
  clear he hr ht h2 hbu hv hp0 e1 k1 k2 k3 k4 k5 k6 k7 k8 h0s hlD hD1 hD hN1
  go_enter Tryz.func41,Tryz.ntmps41
  go_upto_region 4 with (first
   | (go_at_call 77;(with_reducible refine (Zfn [.int .i64 x.points,.string x.names,v2] x t ts _ _ sub _ u s _ i0 _ (zK h0 zA) (zK hg zA) (zK hs zA) He.out Ht.out H2.out hi0 E1.out).mono ?_);rintro e w1 ⟨z,rfl,hP,t1⟩;obtain ⟨gh,ge,gs,vsub,f,rfl,hB,hE,-,-⟩:=hP.fst;have x0:=hB.cell 0 rfl;have K1:Only [] w w1:=zA)
   | fail)
  go_region_held3 (fun w'=>Only [] w1 w'/\w'.cell? ⟨gh,0,none⟩ = some (.pointer (some ⟨ge,0,none⟩))) (((refine and_of ?_ (fun q_=>q_.ce x0));first | exact zO.drew | exact (zO.drewN _).drew | exact Only.trans (And.left (by assumption)) (by assumption) | exact Only.alloc (And.left (by assumption)) _ | assumption)) (first | (go_at_call 78;(with_reducible refine (HDs.out gh ge w1 hP hE _ (And.left (by assumption))).mono ?_);rintro e w5 ⟨u5,rfl,A5,t5⟩) | (go_at_call 66;(with_reducible refine (HD1.out ge _ _ _ (A5.keep zA)).mono ?_);rintro e w6 ⟨rfl,t6⟩) | fail)
  have k6:Only [] w1 w6:=(Only.refl [] w1).trans (And.left (by assumption))
  go_wp2
  exact bodyPost_ret (v:=.tuple #[.slice none 0 0,.slice none 0 0,.bool false]) (by simp [results,Tryz.results41,go_sem]) rfl ⟨.slice none 0 0,.slice none 0 0,[],[],by rw [Hn.out];rfl,by rw [Hn.out];exact nil_rd _,by rw [Hn.out];exact nil_rd _,K1.trans k6⟩
theorem twX_len {x:Puzzle} {sub s:List Int} {p:List Int × List Int} (h:twX x sub s = some p):p.1.length<=200/\p.2.length<=200:=by
 unfold twX at h
 cases he:expl x with
 | none=>rw [he] at h;cases h
 | some t=>
  cases h2:expl (subP x sub) with
  | none=>rw [he,h2] at h;cases h
  | some ts=>
   rw [he,h2] at h
   simp only at h
   split at h
   ·split at h
    ·rename_i hl
     injection h with h
     subst h
     exact ⟨by rw [Zpz];exact hl.1,by rw [Zow];exact hl.2⟩
    ·cases h
   ·cases h
theorem Zpj {x:Puzzle} {sub s:List Int} (h:twX x sub s = none):twC x sub s = none:=by unfold twC;rw [h];rfl
theorem Zpv {x:Puzzle} {sub s:List Int} {p:List Int × List Int} (h:twX x sub s = some p):twC x sub s = shortW [p.1,p.2].flatten:=by unfold twC;rw [h];simp [shortW]
theorem Zhq {w:World} {u1 u2:Value} {l1 l2:List Int} {f1 f2:List Nat} (h1:Rd w u1 l1 f1) (h2:Rd w u2 l2 f2) (e:TypeId) {g:Nat} (hg:g = w.heap.size):Rd (w.alloc (.cells #[u1,u2] e)) (.slice (some ⟨g,0,none⟩) 2 2) [l1,l2] ([g] ++ [f1,f2].flatten):=by
 have k:Only [] w (w.alloc (.cells #[u1,u2] e)):=zO.alloc _
 subst hg
 refine ⟨some ⟨w.heap.size,0,none⟩,2,[w.heap.size],[f1,f2],rfl,rfl,⟨by simp,by simp [maxLen],rfl,fun i hi=>?_,fun b hb=>by simp at hb;subst hb;simp,by simp⟩⟩
 match i,hi with
 | 0,_=>exact ⟨w.heap.size,0,[u1],rfl,rfl,fun j u hu=>by
   cases j with
   | zero=>simp at hu;subst hu;exact (Blk.new w [u1,u2] e).cell 0 rfl
   | succ j=>simp at hu,zK h1 k⟩
 | 1,_=>exact ⟨w.heap.size,0,[u2],rfl,rfl,fun j u hu=>by
   cases j with
   | zero=>simp at hu;subst hu;exact (Blk.new w [u1,u2] e).cell 1 rfl
   | succ j=>simp at hu,zK h2 k⟩
set_option maxHeartbeats 4000000 in
theorem Zdw (cs:List Value) (x:Puzzle) (fp:List Nat) (v:Value) (sub:List Int) (fg:List Nat) (u:Value) (s:List Int) (fs0:List Nat) (w:World) (h:Rp.rep w cs x fp) (hg:Rd w v sub fg) (hs:Rd w u s fs0) :
  Calls Tryz.prog 24 #[.agg cs.toArray,v,u] w fun e w'=>∃ cs' fp',e = .returned (.tuple #[.agg (List.toArray cs'),.bool (twC x sub s).isSome])/\Rp.rep w' cs' (wCert (twC x sub s)) fp'/\Fresh w.heap.size w' fp'/\Only [] w w':=by
 have h0:=h
 obtain ⟨v2,rfl,p0,p1,h2⟩:=h
 clear p0 p1 h2
 have Y0:Blk ((w.alloc (.cells #[.int .i64 x.points,.string x.names,v2] 33)).alloc (.cells #[.int .i64 0,.slice none 0 0,.slice none 0 0,.slice none 0 0] 30)) (w.heap.size + 1) [.int .i64 0,.slice none 0 0,.slice none 0 0,.slice none 0 0]:=Blk.new_at (by simp)
 have X0:Blk ((w.alloc (.cells #[.int .i64 x.points,.string x.names,v2] 33)).alloc (.cells #[.int .i64 0,.slice none 0 0,.slice none 0 0,.slice none 0 0] 30)) w.heap.size [.int .i64 x.points,.string x.names,v2]:=(Blk.new w [.int .i64 x.points,.string x.names,v2] 33).keep (zO.alloc _)
 obtain ⟨x0,x1,x2⟩:=X0.c3
 rcases hm:twX x sub s with _ | p
 ·have Hn:=zH (Zpj hm)
  have Hm:=zH hm
  clear hm
  go_enter Tryz.func24,Tryz.ntmps24
  go_wp2_with (first
   | (go_at_call 41;(with_reducible refine (Zdo [.int .i64 x.points,.string x.names,v2] x _ _ sub _ _ s _ _ (zK h0 zA) (zK hg zA) (zK hs zA)).mono ?_);rintro e w1 ⟨z1,z2,q1,q2,he,-,-,t1⟩;rw [Hm.out] at he;subst he;have Y9:=Y0.keep t1;obtain ⟨g0,g1,g2,g3⟩:=Y9.c4;obtain ⟨p0,p1,p2,p3⟩:=Y9.f4)
   | fail)
  have K2:Only [] w w1:=zA
  have Yf:=(((Y9.set 0 (.int .i64 0)).set 1 (.slice none 0 0)).set 2 (.slice none 0 0)).set 3 (.slice none 0 0)
  have kf:Only [w.heap.size + 1] w1 ((((w1.setCell ⟨w.heap.size + 1,0,none⟩ (.int .i64 0)).setCell ⟨w.heap.size + 1,1,none⟩ (.slice none 0 0)).setCell ⟨w.heap.size + 1,2,none⟩ (.slice none 0 0)).setCell ⟨w.heap.size + 1,3,none⟩ (.slice none 0 0)):=(((zO.setCell (by simp) _).setCell (by simp) _).setCell (by simp) _).setCell (by simp) _
  obtain ⟨wf,hwf⟩:∃ wf,wf = ((((w1.setCell ⟨w.heap.size + 1,0,none⟩ (.int .i64 0)).setCell ⟨w.heap.size + 1,1,none⟩ (.slice none 0 0)).setCell ⟨w.heap.size + 1,2,none⟩ (.slice none 0 0)).setCell ⟨w.heap.size + 1,3,none⟩ (.slice none 0 0)):=⟨_,rfl⟩
  rw [<- hwf] at Yf kf ⊢
  simp only [List.set] at Yf
  clear hwf g0 g1 g2 g3 p0 p1 p2 p3
  obtain ⟨z0,z1,z2,z3⟩:=Yf.c4
  refine bodyPost_ret (v:=.tuple #[.agg #[.int .i64 0,.slice none 0 0,.slice none 0 0,.slice none 0 0],.bool false]) (by simp [results,Tryz.results24,go_sem,z0,z1,z2,z3]) rfl ⟨[.int .i64 0,.slice none 0 0,.slice none 0 0,.slice none 0 0],[],by rw [Hn.out];rfl,by rw [Hn.out];exact Zbl _,Fresh.nil _ _,K2.then_ kf (by simp)⟩
 ·have Hn:=zH (Zpv hm)
  have Hl:=zH (twX_len hm)
  have Hm:=zH hm
  obtain ⟨W1,W2⟩:=p
  have hfl:[W1,W2].flatten.length<=400:=by have:=Hl.out;simp at this ⊢;omega
  clear hm
  obtain ⟨o,ho⟩:∃ o,o = shortW [W1,W2].flatten:=⟨_,rfl⟩
  rw [<- ho] at Hn
  have Ho:=zH ho
  have Hfl:=zH hfl
  clear ho hfl
  go_enter Tryz.func24,Tryz.ntmps24
  go_wp2_with (first
   | (go_at_call 41;(with_reducible refine (Zdo [.int .i64 x.points,.string x.names,v2] x _ _ sub _ _ s _ _ (zK h0 zA) (zK hg zA) (zK hs zA)).mono ?_);rintro e w1 ⟨z1,z2,q1,q2,he,r1,r2,t1⟩;rw [Hm.out] at he r1 r2;subst he;simp only [Option.getD] at r1 r2;obtain ⟨a1,c1,rfl,i1⟩:=r1.ints;obtain ⟨a2,c2,rfl,i2⟩:=r2.ints;have Y1:=Y0.keep t1;have rz:=Zhq r1 r2 25 rfl;have ka:Only [] w1 (w1.alloc (.cells #[.slice a1 W1.length c1,.slice a2 W2.length c2] 25)):=zO.alloc _)
   | (go_at_call 35;(with_reducible refine (Zhi _ [W1,W2] _ _ rz (by have:=Hfl.out;omega)).mono ?_);rintro e w4 ⟨cs4,f4,he,r4,F4,t4⟩;rw [<- Ho.out] at he r4;subst he;have rr:=id r4;obtain ⟨v1,v2,v3,e1,e2,e3,rfl,-,i1,s1,s2,s3⟩:=r4;simp only [List.cons_append,List.nil_append] at rr;obtain ⟨b1,k1,_,_,rfl,-,-⟩:=s1.open_;obtain ⟨b2,k2,_,_,rfl,-,-⟩:=s2.open_;obtain ⟨b3,k3,_,_,rfl,-,-⟩:=s3.open_;have Y9:=(Y1.keep ka).keep t4;obtain ⟨g0,g1,g2,g3⟩:=Y9.c4;obtain ⟨p0,p1,p2,p3⟩:=Y9.f4)
   | fail)
  have K4:Only [] w w4:=zA
  have hz1:=t1.size
  simp at hz1
  have hFg:∀ g∈f4,g ∉ [w.heap.size + 1]:=fun g hg hm=>by have:=F4.ge g hg;simp at hm this;omega
  have Yf:=(((Y9.set 0 (.int .i64 (wCert o).kind)).set 1 (.slice b1 (wCert o).numbers.length k1)).set 2 (.slice b2 (wCert o).words.length k2)).set 3 (.slice b3 (wCert o).tables.length k3)
  have kf:Only [w.heap.size + 1] w4 ((((w4.setCell ⟨w.heap.size + 1,0,none⟩ (.int .i64 (wCert o).kind)).setCell ⟨w.heap.size + 1,1,none⟩ (.slice b1 (wCert o).numbers.length k1)).setCell ⟨w.heap.size + 1,2,none⟩ (.slice b2 (wCert o).words.length k2)).setCell ⟨w.heap.size + 1,3,none⟩ (.slice b3 (wCert o).tables.length k3)):=(((zO.setCell (by simp) _).setCell (by simp) _).setCell (by simp) _).setCell (by simp) _
  obtain ⟨wf,hwf⟩:∃ wf,wf = ((((w4.setCell ⟨w.heap.size + 1,0,none⟩ (.int .i64 (wCert o).kind)).setCell ⟨w.heap.size + 1,1,none⟩ (.slice b1 (wCert o).numbers.length k1)).setCell ⟨w.heap.size + 1,2,none⟩ (.slice b2 (wCert o).words.length k2)).setCell ⟨w.heap.size + 1,3,none⟩ (.slice b3 (wCert o).tables.length k3)):=⟨_,rfl⟩
  rw [<- hwf] at Yf kf ⊢
  simp only [List.set] at Yf
  clear hwf g0 g1 g2 g3 p0 p1 p2 p3
  obtain ⟨z0,z1,z2,z3⟩:=Yf.c4
  refine bodyPost_ret (v:=.tuple #[.agg #[.int .i64 (wCert o).kind,.slice b1 (wCert o).numbers.length k1,.slice b2 (wCert o).words.length k2,.slice b3 (wCert o).tables.length k3],.bool o.isSome]) (by simp [results,Tryz.results24,go_sem,z0,z1,z2,z3]) rfl ⟨[.int .i64 (wCert o).kind,.slice b1 (wCert o).numbers.length k1,.slice b2 (wCert o).words.length k2,.slice b3 (wCert o).tables.length k3],f4,by rw [Hn.out],by rw [Hn.out];exact Rp.only rr kf hFg,(F4.mono (by simp;omega)).only kf hFg,K4.then_ kf (by simp)⟩
set_option maxHeartbeats 2000000 in
theorem Zgt (cs:List Value) (x:Puzzle) (t:Table) (fp:List Nat) (B:Nat) (v:Value) (u:Value) (s:List Int) (fs:List Nat) (w:World) (h:Rp.rep w cs x fp) (hS:SrF B w x t v) (he:expl x = some t) (hu:Rd w u s fs) :
  Calls Tryz.prog 71 #[.agg cs.toArray,v,u] w fun e w'=>e = .returned (.bool (reachB x s))/\Only [] w w':=by
 have h0:=h
 obtain ⟨v2,rfl,p0,p1,h2⟩:=h
 clear p0 p1 h2
 obtain ⟨hb,-⟩:=Zad he
 obtain ⟨A1,A2,A3,C1,C2,C3,so,ob,fps,fd,fz,rfl,hR,hSr,-⟩:=hS
 have hL:=hb.ll
 have hnd:t.patterns.Nodup:=hb.bi.nd
 have HS:=zH hSr
 have Hnd:=zH hnd
 have K0:Only [] w ((w.alloc (.cells #[.int .i64 x.points,.string x.names,v2] 33)).alloc (.cells #[.slice A1 t.patterns.length C1,.slice A2 t.distances.length C2,.slice A3 so.length C3,.bool true] 85)):=(zO.alloc _).alloc _
 have X0:Blk ((w.alloc (.cells #[.int .i64 x.points,.string x.names,v2] 33)).alloc (.cells #[.slice A1 t.patterns.length C1,.slice A2 t.distances.length C2,.slice A3 so.length C3,.bool true] 85)) w.heap.size [.int .i64 x.points,.string x.names,v2]:=(Blk.new w [.int .i64 x.points,.string x.names,v2] 33).keep (zO.alloc _)
 have Y0:Blk ((w.alloc (.cells #[.int .i64 x.points,.string x.names,v2] 33)).alloc (.cells #[.slice A1 t.patterns.length C1,.slice A2 t.distances.length C2,.slice A3 so.length C3,.bool true] 85)) (w.heap.size + 1) [.slice A1 t.patterns.length C1,.slice A2 t.distances.length C2,.slice A3 so.length C3,.bool true]:=Blk.new_at (by simp)
 rcases hq:stateB x s
 ·have Hf:=zH (show reachB x s = false by unfold reachB;rw [hq];rfl)
  have Hq:=zH hq
  clear hq he hb hnd hSr
  go_enter Tryz.func71,Tryz.ntmps71
  go_wp2_with (first
   | (go_at_call 42;(with_reducible refine (Zax [.int .i64 x.points,.string x.names,v2] x _ u s _ _ (zK h0 zA) (zK hu zA)).mono ?_);rintro e w1 ⟨he,t1⟩;rw [Hq.out] at he;subst he)
   | fail)
  go_ret
  exact ⟨Zaa Hf.out.symm,zA⟩
 ·have hsl:s.length = x.points.toNat:=(Zgb hq).2.2.2.1
  have Hsl:=zH hsl
  have Hq:=zH hq
  by_cases hm:s∈t.patterns
  ·obtain ⟨i,hi,e⟩:=List.getElem_of_mem hm
   have Hg:=zH (show t.patterns.getD i [] = s by rw [Zab hi,e])
   have Hf:=zH ((Zak he).1 hm)
   have hi0:(0:Int)<=(i:Int):=by omega
   clear hq he hb hnd hSr hsl hm e
   go_enter Tryz.func71,Tryz.ntmps71
   go_wp2_with (first
    | (go_at_call 42;(with_reducible refine (Zax [.int .i64 x.points,.string x.names,v2] x _ u s _ _ (zK h0 zA) (zK hu zA)).mono ?_);rintro e w1 ⟨he,t1⟩;rw [Hq.out] at he;subst he;have Y1:=Y0.keep t1;obtain ⟨y0,y1,y2,y3⟩:=Y1.c4)
    | (go_at_call 126;(with_reducible refine (Zcj A1 A2 A3 C1 C2 C3 true t.patterns t.distances so ob fps fd fz _ u s _ _ (hR.keep zA) HS.out (zK hu zA) Hsl.out hL i hi Hg.out Hnd.out).mono ?_);rintro e w2 ⟨rfl,t2⟩)
    | fail)
   go_ret
   exact ⟨Zaa Hf.out.symm,zA⟩
  ·have Hm:=zH hm
   have Hf:=zH (show reachB x s = false by
    cases hr:reachB x s with
    | false=>rfl
    | true=>exact absurd ((Zak he).2 hr) hm)
   clear hq he hb hnd hSr hsl hm
   go_enter Tryz.func71,Tryz.ntmps71
   go_wp2_with (first
    | (go_at_call 42;(with_reducible refine (Zax [.int .i64 x.points,.string x.names,v2] x _ u s _ _ (zK h0 zA) (zK hu zA)).mono ?_);rintro e w1 ⟨he,t1⟩;rw [Hq.out] at he;subst he;have Y1:=Y0.keep t1;obtain ⟨y0,y1,y2,y3⟩:=Y1.c4)
    | (go_at_call 126;(with_reducible refine (Zcw A1 A2 A3 C1 C2 C3 true t.patterns t.distances so ob fps fd fz _ u s _ _ (hR.keep zA) HS.out (zK hu zA) Hsl.out hL Hm.out).mono ?_);rintro e w2 ⟨rfl,t2⟩)
    | fail)
   go_ret
   exact ⟨Zaa Hf.out.symm,zA⟩
set_option maxHeartbeats 2000000 in
theorem Zdb (cs:List Value) (x:Puzzle) (fp:List Nat) (u:Value) (s:List Int) (fs:List Nat) (w:World) (h:Rp.rep w cs x fp) (hu:Rd w u s fs) :
  Calls Tryz.prog 59 #[.agg cs.toArray,u] w fun e w'=>e = .returned (.bool ((expl x).isSome && reachB x s))/\Only [] w w':=by
 have h0:=h
 obtain ⟨v2,rfl,p0,p1,h2⟩:=h
 clear p0 p1 h2
 have X0:Blk (w.alloc (.cells #[.int .i64 x.points,.string x.names,v2] 33)) w.heap.size [.int .i64 x.points,.string x.names,v2]:=Blk.new w [.int .i64 x.points,.string x.names,v2] 33
 rcases he:expl x with _ | t
 ·have He:=zH he
  clear he
  go_enter Tryz.func59,Tryz.ntmps59
  go_wp2_with (first
   | (go_at_call 109;(with_reducible refine (Zdy [.int .i64 x.points,.string x.names,v2] x _ _ (zK h0 zA) He.out).mono ?_);rintro e w1 ⟨A1,n1,C1,A2,n2,C2,A3,n3,C3,wh,rfl,t1⟩)
   | fail)
  go_ret
  exact ⟨rfl,zA⟩
 ·have He:=zH he
  clear he
  obtain ⟨r,hr⟩:∃ r,r = reachB x s:=⟨_,rfl⟩
  have Hr:=zH hr
  have e9:((some t).isSome && reachB x s) = r:=by rw [hr];rfl
  rw [e9]
  clear hr e9
  go_enter Tryz.func59,Tryz.ntmps59
  go_wp2_with (first
   | (go_at_call 109;(with_reducible refine (Zbe [.int .i64 x.points,.string x.names,v2] x t _ _ (zK h0 zA) He.out).mono ?_);rintro e w1 ⟨A1,n1,C1,A2,n2,C2,A3,n3,C3,wh,rfl,hS,t1⟩;have kb:=(Only.refl [] w1).alloc (.cells #[.slice A1 n1 C1,.slice A2 n2 C2,.slice A3 n3 C3,.bool wh] 85);have X1:=(X0.keep t1).keep kb;obtain ⟨x0,x1,x2⟩:=X1.c3;have U1:=Blk.new w1 [.slice A1 n1 C1,.slice A2 n2 C2,.slice A3 n3 C3,.bool wh] 85;obtain ⟨a0,a1,a2,a3⟩:=U1.c4)
   | (go_at_call 71;(with_reducible refine (Zgt [.int .i64 x.points,.string x.names,v2] x t _ _ _ u s _ _ (zK h0 zA) (hS.keep kb) He.out (zK hu zA)).mono ?_);rintro e w2 ⟨he,t2⟩;rw [<- Hr.out] at he;subst he)
   | fail)
  go_ret
  exact ⟨rfl,zA⟩
theorem mD_le {x:Puzzle} {t:Table} {src:List Int->Bool} (hb:Built x t) {v:Nat} (hv:v < t.patterns.length):(mD x t src).getD v 0 < t.patterns.length:=by
 obtain ⟨k',h,-⟩:=MbI.run (src:=fun v=>src (t.patterns.getD v [])) (row:=mRow x t) (N:=t.patterns.length) (fun v hv=>mRow_lt hb hv) (t.patterns.length + 1) 0 (mSrc (fun v=>src (t.patterns.getD v [])) t.patterns.length) MbI.start (by omega)
 exact h.bound hv
set_option maxHeartbeats 1000000 in
theorem Zka (u1 u2:Value) (l1 l2:List Int) (f1 f2:List Nat) (w:World) (h1:Rd w u1 l1 f1) (h2:Rd w u2 l2 f2) (hl:l1.length<=200/\l2.length<=200) :
  Calls Tryz.prog 74 #[u1,u2] w fun e w'=>e = .returned (.tuple #[u1,u2,.bool true])/\Only [] w w':=by
 obtain ⟨a1,c1,rfl,-⟩:=h1.ints
 obtain ⟨a2,c2,rfl,-⟩:=h2.ints
 obtain ⟨hl1,hl2⟩:=hl
 have hn1:¬ ((200:Int) < (l1.length:Int)):=by omega
 have hn2:¬ ((200:Int) < (l2.length:Int)):=by omega
 go_enter Tryz.func74,Tryz.ntmps74
 go_wp2
 exact bodyPost_ret (v:=.tuple #[.slice a1 l1.length c1,.slice a2 l2.length c2,.bool true]) (by simp [results,Tryz.results74,go_sem]) rfl ⟨rfl,Only.refl _ _⟩
set_option maxHeartbeats 1000000 in
theorem Zkx (u1 u2:Value) (l1 l2:List Int) (f1 f2:List Nat) (w:World) (h1:Rd w u1 l1 f1) (h2:Rd w u2 l2 f2) (hl:¬ (l1.length<=200/\l2.length<=200)) :
  Calls Tryz.prog 74 #[u1,u2] w fun e w'=>∃ z1 z2 g1 g2,e = .returned (.tuple #[z1,z2,.bool false])/\Rd w' z1 ([]:List Int) g1/\Rd w' z2 ([]:List Int) g2/\Only [] w w':=by
 obtain ⟨a1,c1,rfl,-⟩:=h1.ints
 obtain ⟨a2,c2,rfl,-⟩:=h2.ints
 have k1:Only [] w (w.alloc (.cells #[] 2)):=zO.alloc _
 have k2:Only [] w ((w.alloc (.cells #[] 2)).alloc (.cells #[] 2)):=k1.alloc _
 have r1:=(Zck w 2 rfl).1
 have r1':=zK r1 ((Only.refl [] (w.alloc (.cells #[] 2))).alloc (.cells #[] 2))
 have r2:=(Zck (w.alloc (.cells #[] 2)) 2 (g:=w.heap.size + 1) (by simp)).1
 by_cases hl1:(200:Int) < (l1.length:Int)
 ·go_enter Tryz.func74,Tryz.ntmps74
  go_wp2
  exact bodyPost_ret (v:=.tuple #[.slice (some ⟨w.heap.size,0,none⟩) 0 0,.slice (some ⟨w.heap.size + 1,0,none⟩) 0 0,.bool false]) (by simp [results,Tryz.results74,go_sem]) rfl (by first | exact ⟨_,_,_,_,rfl,r1',r2,k2⟩ | exact ⟨_,_,rfl,⟨_,r1'⟩,⟨_,r2⟩,k2⟩)
 ·have hl2:(200:Int) < (l2.length:Int):=by omega
  go_enter Tryz.func74,Tryz.ntmps74
  go_wp2
  exact bodyPost_ret (v:=.tuple #[.slice (some ⟨w.heap.size,0,none⟩) 0 0,.slice (some ⟨w.heap.size + 1,0,none⟩) 0 0,.bool false]) (by simp [results,Tryz.results74,go_sem]) rfl (by first | exact ⟨_,_,_,_,rfl,r1',r2,k2⟩ | exact ⟨_,_,rfl,⟨_,r1'⟩,⟨_,r2⟩,k2⟩)
set_option maxHeartbeats 4000000 in
theorem Zby (cs:List Value) (x:Puzzle) (fp:List Nat) (v:Value) (sub:List Int) (fs1:List Nat) (u:Value) (s:List Int) (fs0:List Nat) (w:World) (h:Rp.rep w cs x fp) (hg:Rd w v sub fs1) (hs:Rd w u s fs0) :
  Calls Tryz.prog 40 #[.agg cs.toArray,v,u] w fun e w'=>∃ z1 z2 f1 f2,e = .returned (.tuple #[z1,z2,.bool (twX x sub s).isSome])/\Rd w' z1 ((twX x sub s).getD ([],[])).1 f1/\Rd w' z2 ((twX x sub s).getD ([],[])).2 f2/\Only [] w w':=by
 have h0:=h
 obtain ⟨v2,rfl,p0,p1,h3⟩:=h
 clear p0 p1 h3
 rcases hb:((expl x).isSome && trackB x.moves.length sub)
 ·have Hn:=zH (twX_bad (s:=s) hb)
  have Hb:=zH hb
  clear hb
  go_enter Tryz.func40,Tryz.ntmps40
  go_upto_region 2 with (first
   | (go_at_call 70;(with_reducible refine (Zmc [.int .i64 x.points,.string x.names,v2] x _ _ sub _ _ (zK h0 zA) (zK hg zA) Hb.out).mono ?_);rintro e w1 ⟨A1,n1,C1,A2,n2,C2,A3,n3,C3,wh,rfl,t1⟩;have kz:Only [] (w1.alloc (.cells #[.slice none 0 0,.slice none 0 0,.slice none 0 0,.bool false] 85)) ((w1.alloc (.cells #[.slice none 0 0,.slice none 0 0,.slice none 0 0,.bool false] 85)).alloc (.cells #[.slice none 0 0,.slice none 0 0,.slice none 0 0,.bool false] 85)):=zO.alloc _;have Z1:=(Blk.new w1 [.slice none 0 0,.slice none 0 0,.slice none 0 0,.bool false] 85).keep kz;have Z2:Blk ((w1.alloc (.cells #[.slice none 0 0,.slice none 0 0,.slice none 0 0,.bool false] 85)).alloc (.cells #[.slice none 0 0,.slice none 0 0,.slice none 0 0,.bool false] 85)) (w1.heap.size + 1) [.slice none 0 0,.slice none 0 0,.slice none 0 0,.bool false]:=Blk.new_at (by simp);have a0:=Z1.cell 0 rfl;have b0:=Z2.cell 0 rfl;have p0:=Z1.frozen 0;have q0:=Z2.frozen 0;have a1:=Z1.cell 1 rfl;have b1:=Z2.cell 1 rfl;have p1:=Z1.frozen 1;have q1:=Z2.frozen 1;have a2:=Z1.cell 2 rfl;have b2:=Z2.cell 2 rfl;have p2:=Z1.frozen 2;have q2:=Z2.frozen 2;have a3:=Z1.cell 3 rfl;have b3:=Z2.cell 3 rfl;have p3:=Z1.frozen 3;have q3:=Z2.frozen 3)
   | fail)
  obtain ⟨W2,hW2⟩:∃ W2,W2 = (w1.alloc (.cells #[.slice A1 n1 C1,.slice A2 n2 C2,.slice A3 n3 C3,.bool wh] 85)).alloc (.cells #[.slice A1 n1 C1,.slice A2 n2 C2,.slice A3 n3 C3,.bool wh] 85):=⟨_,rfl⟩
  have k12:Only [] w1 W2:=by rw [hW2];exact (zO.alloc _).alloc _
  have KW:Only [] w W2:=by rw [hW2];exact zA
  have FW:Blk W2 w1.heap.size [.slice A1 n1 C1,.slice A2 n2 C2,.slice A3 n3 C3,.bool wh]:=by rw [hW2];exact (Blk.new w1 [.slice A1 n1 C1,.slice A2 n2 C2,.slice A3 n3 C3,.bool wh] 85).keep (zO.alloc _)
  have GW:Blk W2 (w1.heap.size + 1) [.slice A1 n1 C1,.slice A2 n2 C2,.slice A3 n3 C3,.bool wh]:=by rw [hW2];exact Blk.new_at (by simp)
  rw [<- hW2]
  clear hW2 kz Z1 Z2 a0 a1 a2 a3 b0 b1 b2 b3 p0 p1 p2 p3 q0 q1 q2 q3
  have KXW:=KW
  go_wp2
  have r1:=(Zck W2 2 rfl).1
  have k1:Only [] W2 (W2.alloc (.cells #[] 2)):=zO.alloc _
  have r1':=zK r1 ((Only.refl [] (W2.alloc (.cells #[] 2))).alloc (.cells #[] 2))
  have r2:=(Zck (W2.alloc (.cells #[] 2)) 2 (g:=W2.heap.size + 1) (by simp)).1
  have KX:Only [] w ((W2.alloc (.cells #[] 2)).alloc (.cells #[] 2)):=(KXW.alloc _).alloc _
  exact bodyPost_ret (v:=.tuple #[.slice (some ⟨W2.heap.size,0,none⟩) 0 0,.slice (some ⟨W2.heap.size + 1,0,none⟩) 0 0,.bool false]) (by simp [results,Tryz.results40,go_sem]) rfl ⟨_,_,_,_,by rw [Hn.out];rfl,by rw [Hn.out];exact r1',by rw [Hn.out];exact r2,KX⟩
 rw [Bool.and_eq_true] at hb
 obtain ⟨he',ht⟩:=hb
 obtain ⟨t,he⟩:=Option.isSome_iff_exists.1 he'
 clear he'
 obtain ⟨hbu,-⟩:=Zad he
 have hv:=hbu.v
 obtain ⟨ts,h2⟩:=Zot hv ht he
 have He:=zH he
 have Ht:=zH ht
 have H2:=zH h2
 rcases hr:reachB x s
 ·have Hn:=zH (twX_out (sub:=sub) hr)
  have Hr:=zH hr
  clear he hr ht h2 hbu hv
  have X0:Blk (w.alloc (.cells #[.int .i64 x.points,.string x.names,v2] 33)) w.heap.size [.int .i64 x.points,.string x.names,v2]:=Blk.new w [.int .i64 x.points,.string x.names,v2] 33
  go_enter Tryz.func40,Tryz.ntmps40
  go_upto_region 2 with (first
   | (go_at_call 70;(with_reducible refine (Zhd [.int .i64 x.points,.string x.names,v2] x t ts _ _ sub _ _ (zK h0 zA) (zK hg zA) He.out Ht.out H2.out).mono ?_);rintro e w1 ⟨A1,n1,C1,A2,n2,C2,A3,n3,C3,wh,A4,n4,C4,A5,n5,C5,A6,n6,C6,wg,rfl,hF,hG,t1⟩;have kz:Only [] (w1.alloc (.cells #[.slice none 0 0,.slice none 0 0,.slice none 0 0,.bool false] 85)) ((w1.alloc (.cells #[.slice none 0 0,.slice none 0 0,.slice none 0 0,.bool false] 85)).alloc (.cells #[.slice none 0 0,.slice none 0 0,.slice none 0 0,.bool false] 85)):=zO.alloc _;have Z1:=(Blk.new w1 [.slice none 0 0,.slice none 0 0,.slice none 0 0,.bool false] 85).keep kz;have Z2:Blk ((w1.alloc (.cells #[.slice none 0 0,.slice none 0 0,.slice none 0 0,.bool false] 85)).alloc (.cells #[.slice none 0 0,.slice none 0 0,.slice none 0 0,.bool false] 85)) (w1.heap.size + 1) [.slice none 0 0,.slice none 0 0,.slice none 0 0,.bool false]:=Blk.new_at (by simp);have a0:=Z1.cell 0 rfl;have b0:=Z2.cell 0 rfl;have p0:=Z1.frozen 0;have q0:=Z2.frozen 0;have a1:=Z1.cell 1 rfl;have b1:=Z2.cell 1 rfl;have p1:=Z1.frozen 1;have q1:=Z2.frozen 1;have a2:=Z1.cell 2 rfl;have b2:=Z2.cell 2 rfl;have p2:=Z1.frozen 2;have q2:=Z2.frozen 2;have a3:=Z1.cell 3 rfl;have b3:=Z2.cell 3 rfl;have p3:=Z1.frozen 3;have q3:=Z2.frozen 3)
   | fail)
  obtain ⟨W2,hW2⟩:∃ W2,W2 = (w1.alloc (.cells #[.slice A1 n1 C1,.slice A2 n2 C2,.slice A3 n3 C3,.bool wh] 85)).alloc (.cells #[.slice A4 n4 C4,.slice A5 n5 C5,.slice A6 n6 C6,.bool wg] 85):=⟨_,rfl⟩
  have k12:Only [] w1 W2:=by rw [hW2];exact (zO.alloc _).alloc _
  have KW:Only [] w W2:=by rw [hW2];exact zA
  have FW:Blk W2 w1.heap.size [.slice A1 n1 C1,.slice A2 n2 C2,.slice A3 n3 C3,.bool wh]:=by rw [hW2];exact (Blk.new w1 [.slice A1 n1 C1,.slice A2 n2 C2,.slice A3 n3 C3,.bool wh] 85).keep (zO.alloc _)
  have GW:Blk W2 (w1.heap.size + 1) [.slice A4 n4 C4,.slice A5 n5 C5,.slice A6 n6 C6,.bool wg]:=by rw [hW2];exact Blk.new_at (by simp)
  rw [<- hW2]
  clear hW2 kz Z1 Z2 a0 a1 a2 a3 b0 b1 b2 b3 p0 p1 p2 p3 q0 q1 q2 q3
  have XW:=(X0.keep t1).keep k12
  have hF2:=hF.keep k12
  obtain ⟨x0,x1,x2⟩:=XW.c3
  obtain ⟨f0,f1,f2,f3⟩:=FW.c4
  go_wp2_with (first
   | (go_at_call 71;(with_reducible refine (Zgt [.int .i64 x.points,.string x.names,v2] x t _ _ _ _ s _ _ (zK h0 KW) hF2 He.out (zK hs KW)).mono ?_);rintro e w3 ⟨he,t3⟩;rw [Hr.out] at he;subst he)
   | fail)
  have KXW:=KW.trans t3
  have r1:=(Zck w3 2 rfl).1
  have k1:Only [] w3 (w3.alloc (.cells #[] 2)):=zO.alloc _
  have r1':=zK r1 ((Only.refl [] (w3.alloc (.cells #[] 2))).alloc (.cells #[] 2))
  have r2:=(Zck (w3.alloc (.cells #[] 2)) 2 (g:=w3.heap.size + 1) (by simp)).1
  have KX:Only [] w ((w3.alloc (.cells #[] 2)).alloc (.cells #[] 2)):=(KXW.alloc _).alloc _
  exact bodyPost_ret (v:=.tuple #[.slice (some ⟨w3.heap.size,0,none⟩) 0 0,.slice (some ⟨w3.heap.size + 1,0,none⟩) 0 0,.bool false]) (by simp [results,Tryz.results40,go_sem]) rfl ⟨_,_,_,_,by rw [Hn.out];rfl,by rw [Hn.out];exact r1',by rw [Hn.out];exact r2,KX⟩
 obtain ⟨i0,hi0,hp0⟩:=List.getElem_of_mem ((Zak he).2 hr)
 have e1:t.patterns.getD i0 [] = s:=by rw [Zab hi0,hp0]
 obtain ⟨k1,kl,i2,j2,-,-,-,k5,k6,k7,k8,-⟩:=Zhv he ht h2 hi0
 have hpat:=Zda he hi0
 have hbu2:=(Zad h2).1
 have hN1:twN1 x t ts s<=3000:=by
  have a:=mD_le (src:=subS ts) hbu hi0
  have b:=hbu.ll
  rw [e1] at k1
  omega
 have hN2:twN2 x t ts s<=3000:=by
  have a:=(hbu2.dep j2 k5).2.1
  have b:=hbu2.ll
  rw [e1] at k7
  omega
 have k1':=k1
 rw [e1] at k1 k6 k7 k8 kl hpat
 have h0s:subS ts t.tracked = true:=Zff he h2
 have E1:=zH e1
 have Hr:=zH hr
 have Hv:=zH hv
 have Hpat:=zH hpat
 have hq20:x.points.toNat<=1000:=by have:=Zae hv;omega
 obtain ⟨D,hD⟩:∃ D,D = mD x t (subS ts):=⟨_,rfl⟩
 obtain ⟨W1,hW1⟩:∃ W1,W1 = twW1 x t ts s:=⟨_,rfl⟩
 obtain ⟨W2,hW2⟩:∃ W2,W2 = twW2 x sub t ts s:=⟨_,rfl⟩
 obtain ⟨S1,hS1⟩:∃ S1,S1 = twS1 x t ts s:=⟨_,rfl⟩
 have hW1l:W1.length = twN1 x t ts s:=by rw [hW1,Zpz]
 have hW2l:W2.length = twN2 x t ts s:=by rw [hW2,Zow]
 have hfold:W1.foldl (nxt x) s = S1:=by rw [hW1,hS1];rfl
 have hPD:∀ (W:World) (B1 B2:Nat) (A1 A2 A3 A4 A5 A6:Option Addr) (n1 n2 n3 n4 n5 n6 C1 C2 C3 C4 C5 C6:Nat) (wh wg:Bool),Only [] w W->SrF B1 W x t (.agg #[.slice A1 n1 C1,.slice A2 n2 C2,.slice A3 n3 C3,.bool wh])->SrF B2 W (subP x sub) ts (.agg #[.slice A4 n4 C4,.slice A5 n5 C5,.slice A6 n6 C6,.bool wg]) ->
   Calls Tryz.prog 73 #[.agg #[.int .i64 x.points,.string x.names,v2],.agg #[.slice A1 n1 C1,.slice A2 n2 C2,.slice A3 n3 C3,.bool wh],.agg #[.slice A4 n4 C4,.slice A5 n5 C5,.slice A6 n6 C6,.bool wg]] W fun e w'=>∃ u,e = .returned u/\AccI W.heap.size 2 w' u D/\Only [] W w':=fun W B1 B2 A1 A2 A3 A4 A5 A6 n1 n2 n3 n4 n5 n6 C1 C2 C3 C4 C5 C6 wh wg hW hF hG=>by
  rw [hD];exact Zhh [.int .i64 x.points,.string x.names,v2] x t ts sub _ B1 B2 A1 A2 A3 A4 A5 A6 n1 n2 n3 n4 n5 n6 C1 C2 C3 C4 C5 C6 wh wg W (zK h0 hW) hF hG He.out H2.out
 have hPW:∀ (W:World) (B1 B0:Nat) (vd:Value) (A1 A2 A3:Option Addr) (n1 n2 n3 C1 C2 C3:Nat) (wh:Bool),Only [] w W->SrF B1 W x t (.agg #[.slice A1 n1 C1,.slice A2 n2 C2,.slice A3 n3 C3,.bool wh])->AccI B0 2 W vd D ->
   Calls Tryz.prog 72 #[.agg #[.int .i64 x.points,.string x.names,v2],.agg #[.slice A1 n1 C1,.slice A2 n2 C2,.slice A3 n3 C3,.bool wh],vd,u] W fun e w'=>∃ z f,e = .returned z/\Rd w' z W1 f/\Only [] W w':=fun W B1 B0 vd A1 A2 A3 n1 n2 n3 C1 C2 C3 wh hW hF hA=>by
  rw [hD] at hA
  have:=Zjy [.int .i64 x.points,.string x.names,v2] x _ t (subS ts) B1 A1 A2 A3 n1 n2 n3 C1 C2 C3 wh vd _ u _ i0 (twN1 x t ts s) W (zK h0 hW) hF He.out h0s hA.rd hi0 (by rw [E1.out];exact zK hs hW) k1 hN1
  rw [E1.out] at this
  rw [hW1]
  exact this.mono (fun e w' hh=>by obtain ⟨z,f,a,b,-,c⟩:=hh;exact ⟨z,f,a,b,c⟩)
 have hTW:∀ (W:World) (B2:Nat) (z:Value) (f:List Nat) (A4 A5 A6:Option Addr) (n4 n5 n6 C4 C5 C6:Nat) (wg:Bool),Only [] w W->SrF B2 W (subP x sub) ts (.agg #[.slice A4 n4 C4,.slice A5 n5 C5,.slice A6 n6 C6,.bool wg])->Rd W z S1 f ->
   Calls Tryz.prog 75 #[.agg #[.int .i64 x.points,.string x.names,v2],v,.agg #[.slice A4 n4 C4,.slice A5 n5 C5,.slice A6 n6 C6,.bool wg],z] W fun e w'=>∃ z f,e = .returned z/\Rd w' z W2 f/\Only [] W w':=fun W B2 z f A4 A5 A6 n4 n5 n6 C4 C5 C6 wg hW hG hz=>by
  have:=Zjt [.int .i64 x.points,.string x.names,v2] x ts sub _ v _ B2 A4 A5 A6 n4 n5 n6 C4 C5 C6 wg z f j2 (twN2 x t ts s) W (zK h0 hW) (zK hg hW) hG Hv.out Ht.out H2.out k5 (by rw [k6,<- hS1];exact hz) k7 hN2 (by rw [k6];exact k8)
  rw [k6] at this
  rw [hW2]
  exact this.mono (fun e w' hh=>by obtain ⟨z,f,a,b,-,c⟩:=hh;exact ⟨z,f,a,b,c⟩)
 have HPD:=zH hPD
 have HPW:=zH hPW
 have HTW:=zH hTW
 have Hkl:=zH (show ∀ l∈W1,l∈ltrs x.moves.length by rw [hW1];exact kl)
 have Hfold:=zH hfold
 have hW13:W1.length<=1000000:=by omega
 have HW13:=zH hW13
 have Hn0:(W1.length<=200/\W2.length<=200)->twX x sub s = some (W1,W2):=fun hh=>by
  rw [hW1,hW2];exact twX_yes he ht h2 hr ⟨by omega,by omega⟩
 have Hn1:¬ (W1.length<=200/\W2.length<=200)->twX x sub s = none:=fun hh=>twX_far he h2 (fun h9=>hh ⟨by omega,by omega⟩)
 have HN0:=zH Hn0
 have HN1:=zH Hn1
 clear he hr ht h2 hbu hbu2 hv hp0 e1 k1 k1' k5 k6 k7 k8 kl h0s hD hW1 hW2 hS1 hPD hPW hTW hfold hW13 Hn0 Hn1 hN1 hN2 hpat hW1l hW2l
 have X0:Blk (w.alloc (.cells #[.int .i64 x.points,.string x.names,v2] 33)) w.heap.size [.int .i64 x.points,.string x.names,v2]:=Blk.new w [.int .i64 x.points,.string x.names,v2] 33
 go_enter Tryz.func40,Tryz.ntmps40
 go_upto_region 2 with (first
  | (go_at_call 70;(with_reducible refine (Zhd [.int .i64 x.points,.string x.names,v2] x t ts _ _ sub _ _ (zK h0 zA) (zK hg zA) He.out Ht.out H2.out).mono ?_);rintro e w1 ⟨A1,n1,C1,A2,n2,C2,A3,n3,C3,wh,A4,n4,C4,A5,n5,C5,A6,n6,C6,wg,rfl,hF,hG,t1⟩;have kz:Only [] (w1.alloc (.cells #[.slice none 0 0,.slice none 0 0,.slice none 0 0,.bool false] 85)) ((w1.alloc (.cells #[.slice none 0 0,.slice none 0 0,.slice none 0 0,.bool false] 85)).alloc (.cells #[.slice none 0 0,.slice none 0 0,.slice none 0 0,.bool false] 85)):=zO.alloc _;have Z1:=(Blk.new w1 [.slice none 0 0,.slice none 0 0,.slice none 0 0,.bool false] 85).keep kz;have Z2:Blk ((w1.alloc (.cells #[.slice none 0 0,.slice none 0 0,.slice none 0 0,.bool false] 85)).alloc (.cells #[.slice none 0 0,.slice none 0 0,.slice none 0 0,.bool false] 85)) (w1.heap.size + 1) [.slice none 0 0,.slice none 0 0,.slice none 0 0,.bool false]:=Blk.new_at (by simp);have a0:=Z1.cell 0 rfl;have b0:=Z2.cell 0 rfl;have p0:=Z1.frozen 0;have q0:=Z2.frozen 0;have a1:=Z1.cell 1 rfl;have b1:=Z2.cell 1 rfl;have p1:=Z1.frozen 1;have q1:=Z2.frozen 1;have a2:=Z1.cell 2 rfl;have b2:=Z2.cell 2 rfl;have p2:=Z1.frozen 2;have q2:=Z2.frozen 2;have a3:=Z1.cell 3 rfl;have b3:=Z2.cell 3 rfl;have p3:=Z1.frozen 3;have q3:=Z2.frozen 3)
  | fail)
 obtain ⟨WB,hWB⟩:∃ WB,WB = (w1.alloc (.cells #[.slice A1 n1 C1,.slice A2 n2 C2,.slice A3 n3 C3,.bool wh] 85)).alloc (.cells #[.slice A4 n4 C4,.slice A5 n5 C5,.slice A6 n6 C6,.bool wg] 85):=⟨_,rfl⟩
 have k12:Only [] w1 WB:=by rw [hWB];exact (zO.alloc _).alloc _
 have KW:Only [] w WB:=by rw [hWB];exact zA
 have FW:Blk WB w1.heap.size [.slice A1 n1 C1,.slice A2 n2 C2,.slice A3 n3 C3,.bool wh]:=by rw [hWB];exact (Blk.new w1 [.slice A1 n1 C1,.slice A2 n2 C2,.slice A3 n3 C3,.bool wh] 85).keep (zO.alloc _)
 have GW:Blk WB (w1.heap.size + 1) [.slice A4 n4 C4,.slice A5 n5 C5,.slice A6 n6 C6,.bool wg]:=by rw [hWB];exact Blk.new_at (by simp)
 rw [<- hWB]
 clear hWB kz Z1 Z2 a0 a1 a2 a3 b0 b1 b2 b3 p0 p1 p2 p3 q0 q1 q2 q3
 have XW:=(X0.keep t1).keep k12
 have hFB:=hF.keep k12
 have hGB:=hG.keep k12
 clear hF hG
 obtain ⟨x0,x1,x2⟩:=XW.c3
 obtain ⟨f0,f1,f2,f3⟩:=FW.c4
 go_upto_region 4 with (first
  | (go_at_call 71;(with_reducible refine (Zgt [.int .i64 x.points,.string x.names,v2] x t _ _ _ _ s _ _ (zK h0 KW) hFB He.out (zK hs KW)).mono ?_);rintro e w3 ⟨he,t3⟩;rw [Hr.out] at he;subst he)
  | fail)
 clear x0 x1 x2 f0 f1 f2 f3
 have K3:=KW.trans t3
 have X3:=XW.keep t3
 have F3:=FW.keep t3
 have G3:=GW.keep t3
 have hF3:=hFB.keep t3
 have hG3:=hGB.keep t3
 obtain ⟨x0,x1,x2⟩:=X3.c3
 obtain ⟨f0,f1,f2,f3⟩:=F3.c4
 obtain ⟨g0,g1,g2,g3⟩:=G3.c4
 go_region_held3 (fun w'=>Only [] w3 w'/\w'.cell? ⟨w.heap.size,0,none⟩ = some (.int .i64 x.points)/\w'.cell? ⟨w.heap.size,1,none⟩ = some (.string x.names)/\w'.cell? ⟨w.heap.size,2,none⟩ = some (v2)/\w'.cell? ⟨w1.heap.size,0,none⟩ = some (.slice A1 n1 C1)/\w'.cell? ⟨w1.heap.size,1,none⟩ = some (.slice A2 n2 C2)/\w'.cell? ⟨w1.heap.size,2,none⟩ = some (.slice A3 n3 C3)/\w'.cell? ⟨w1.heap.size,3,none⟩ = some (.bool wh)/\w'.cell? ⟨w1.heap.size + 1,0,none⟩ = some (.slice A4 n4 C4)/\w'.cell? ⟨w1.heap.size + 1,1,none⟩ = some (.slice A5 n5 C5)/\w'.cell? ⟨w1.heap.size + 1,2,none⟩ = some (.slice A6 n6 C6)/\w'.cell? ⟨w1.heap.size + 1,3,none⟩ = some (.bool wg)) (((refine and_of ?_ (fun q_=>⟨q_.ce x0,q_.ce x1,q_.ce x2,q_.ce f0,q_.ce f1,q_.ce f2,q_.ce f3,q_.ce g0,q_.ce g1,q_.ce g2,q_.ce g3⟩));first | exact zO.drew | exact (zO.drewN _).drew | exact Only.trans (And.left (by assumption)) (by assumption) | exact Only.alloc (And.left (by assumption)) _ | assumption)) (first | (go_at_call 73;(with_reducible refine (HPD.out _ _ _ _ _ _ _ _ _ _ _ _ _ _ _ _ _ _ _ _ _ _ _ (K3.trans (And.left (by assumption))) (hF3.keep (And.left (by assumption))) (hG3.keep (And.left (by assumption)))).mono ?_);rintro e w5 ⟨u5,rfl,A5',t5⟩) | (go_at_call 72;(with_reducible refine (HPW.out _ _ _ _ _ _ _ _ _ _ _ _ _ _ (K3.trans (And.left (by assumption))) (hF3.keep (And.left (by assumption))) (A5'.keep zA)).mono ?_);rintro e w6 ⟨u6,f6,rfl,r6,t6⟩;obtain ⟨a6,c6,rfl,I6⟩:=r6.ints) | fail)
 have k6:Only [] w3 w6:=(Only.refl [] w3).trans (And.left (by assumption))
 clear x0 x1 x2 f0 f1 f2 f3 g0 g1 g2 g3 t5 t6 A5'
 have K6:=K3.trans k6
 have X6:=X3.keep k6
 have G6:=G3.keep k6
 have hG6:=hG3.keep k6
 obtain ⟨x0,x1,x2⟩:=X6.c3
 obtain ⟨g0,g1,g2,g3⟩:=G6.c4
 have HAL:=zH (fun (W:World) (hW:Only [] w6 W)=>Zfx [.int .i64 x.points,.string x.names,v2] x _ u (.slice a6 W1.length c6) s W1 _ _ x.points.toNat W (zK h0 (K6.trans hW)) (zK hs (K6.trans hW)) (zK r6 hW) Hv.out Hkl.out Hpat.out hq20 HW13.out)
 rw [Hfold.out] at HAL
 by_cases hl:W1.length<=200/\W2.length<=200
 ·have Hn:=zH (HN0.out hl)
  have Hl:=zH hl
  clear hl
  go_wp2
  go_region_held3 (fun w'=>Only [] w6 w'/\w'.cell? ⟨w.heap.size,0,none⟩ = some (.int .i64 x.points)/\w'.cell? ⟨w.heap.size,1,none⟩ = some (.string x.names)/\w'.cell? ⟨w.heap.size,2,none⟩ = some (v2)/\w'.cell? ⟨w1.heap.size + 1,0,none⟩ = some (.slice A4 n4 C4)/\w'.cell? ⟨w1.heap.size + 1,1,none⟩ = some (.slice A5 n5 C5)/\w'.cell? ⟨w1.heap.size + 1,2,none⟩ = some (.slice A6 n6 C6)/\w'.cell? ⟨w1.heap.size + 1,3,none⟩ = some (.bool wg)) (((refine and_of ?_ (fun q_=>⟨q_.ce x0,q_.ce x1,q_.ce x2,q_.ce g0,q_.ce g1,q_.ce g2,q_.ce g3⟩));first | exact zO.drew | exact (zO.drewN _).drew | exact Only.trans (And.left (by assumption)) (by assumption) | exact Only.alloc (And.left (by assumption)) _ | assumption)) (first | (go_at_call 76;(with_reducible refine (HAL.out _ (And.left (by assumption))).mono ?_);rintro e w7 ⟨u7,f7,rfl,r7,-,t7⟩) | (go_at_call 75;(with_reducible refine (HTW.out _ _ u7 f7 _ _ _ _ _ _ _ _ _ _ (K6.trans (And.left (by assumption))) (hG6.keep (And.left (by assumption))) (zK r7 zA)).mono ?_);rintro e w8 ⟨u8,f8,rfl,r8,t8⟩;obtain ⟨a8,c8,rfl,I8⟩:=r8.ints) | (go_at_call 74;(with_reducible refine (Zka _ _ W1 W2 _ _ _ (zK r6 (And.left (by assumption))) (zK r8 zA) Hl.out).mono ?_);rintro e w9 ⟨rfl,t9⟩;have kk9:Only [] w8 w9:=zA) | fail)
  have k9:Only [] w6 w9:=(Only.refl [] w6).trans (And.left (by assumption))
  go_wp2
  exact bodyPost_ret (v:=.tuple #[.slice a6 W1.length c6,.slice a8 W2.length c8,.bool true]) (by simp [results,Tryz.results40,go_sem]) rfl ⟨_,_,_,_,by rw [Hn.out];rfl,by rw [Hn.out];exact zK r6 k9,by rw [Hn.out];exact zK r8 kk9,K6.trans k9⟩
 ·have Hn:=zH (HN1.out hl)
  have Hl:=zH hl
  clear hl
  go_wp2
  go_region_held3 (fun w'=>Only [] w6 w'/\w'.cell? ⟨w.heap.size,0,none⟩ = some (.int .i64 x.points)/\w'.cell? ⟨w.heap.size,1,none⟩ = some (.string x.names)/\w'.cell? ⟨w.heap.size,2,none⟩ = some (v2)/\w'.cell? ⟨w1.heap.size + 1,0,none⟩ = some (.slice A4 n4 C4)/\w'.cell? ⟨w1.heap.size + 1,1,none⟩ = some (.slice A5 n5 C5)/\w'.cell? ⟨w1.heap.size + 1,2,none⟩ = some (.slice A6 n6 C6)/\w'.cell? ⟨w1.heap.size + 1,3,none⟩ = some (.bool wg)) (((refine and_of ?_ (fun q_=>⟨q_.ce x0,q_.ce x1,q_.ce x2,q_.ce g0,q_.ce g1,q_.ce g2,q_.ce g3⟩));first | exact zO.drew | exact (zO.drewN _).drew | exact Only.trans (And.left (by assumption)) (by assumption) | exact Only.alloc (And.left (by assumption)) _ | assumption)) (first | (go_at_call 76;(with_reducible refine (HAL.out _ (And.left (by assumption))).mono ?_);rintro e w7 ⟨u7,f7,rfl,r7,-,t7⟩) | (go_at_call 75;(with_reducible refine (HTW.out _ _ u7 f7 _ _ _ _ _ _ _ _ _ _ (K6.trans (And.left (by assumption))) (hG6.keep (And.left (by assumption))) (zK r7 zA)).mono ?_);rintro e w8 ⟨u8,f8,rfl,r8,t8⟩;obtain ⟨a8,c8,rfl,I8⟩:=r8.ints) | (go_at_call 74;(with_reducible refine (Zkx _ _ W1 W2 _ _ _ (zK r6 (And.left (by assumption))) (zK r8 zA) Hl.out).mono ?_);rintro e w9 ⟨z1,z2,gg1,gg2,rfl,r9,r9',t9⟩) | fail)
  have k9:Only [] w6 w9:=(Only.refl [] w6).trans (And.left (by assumption))
  go_wp2
  exact bodyPost_ret (v:=.tuple #[z1,z2,.bool false]) (by simp [results,Tryz.results40,go_sem]) rfl ⟨_,_,_,_,by rw [Hn.out];rfl,by rw [Hn.out];exact r9,by rw [Hn.out];exact r9',K6.trans k9⟩
def SrG (m B:Nat) (w:World) (t:Table) (v:Value):Prop:=∃ A1 A2 A3 C1 C2 C3 so ob fps fd fz,v = .agg #[.slice A1 t.patterns.length C1,.slice A2 t.distances.length C2,.slice A3 (List.length so) C3,.bool true]/\SrR w A1 A2 A3 C1 C2 C3 t.patterns t.distances so ob fps fd fz/\Srt m t.patterns so/\∀ g∈(ob ++ fps.flatten) ++ (fd ++ fz),B<=g
theorem SrG.only {m B:Nat} {w w':World} {t:Table} {v:Value} {fp:List Nat} (h:SrG m B w t v) (ho:Only fp w w') (hd:∀ g∈fp,g < B):SrG m B w' t v:=by
 obtain ⟨A1,A2,A3,C1,C2,C3,so,ob,fps,fd,fz,h1,h2,h3,h4⟩:=h
 exact ⟨A1,A2,A3,C1,C2,C3,so,ob,fps,fd,fz,h1,h2.only ho (fun g hg hm=>by have:=h4 g hg;have:=hd g hm;omega),h3,h4⟩
theorem SrG.keep {m B:Nat} {w w':World} {t:Table} {v:Value} (h:SrG m B w t v) (ho:Only [] w w'):SrG m B w' t v:=h.only ho (by simp)
theorem SrG.mono {m B B':Nat} {w:World} {t:Table} {v:Value} (h:SrG m B w t v) (hB:B'<=B):SrG m B' w t v:=by
 obtain ⟨A1,A2,A3,C1,C2,C3,so,ob,fps,fd,fz,h1,h2,h3,h4⟩:=h
 exact ⟨A1,A2,A3,C1,C2,C3,so,ob,fps,fd,fz,h1,h2,h3,fun g hg=>Nat.le_trans hB (h4 g hg)⟩
theorem Ztd {x:Puzzle} {tr:List Int} {tg:Table} (hv:validPz x = true) (ht:trackB x.points tr = true) (hb:bTab x tr = some tg) {wh:Bool} {L:List (List Int)} {D:List Int} (h:bFrom x 3001 0 ([tr],[0]) = if wh = true then some (L,D) else none):wh = true/\tg.patterns = L/\tg.distances = D:=by
 unfold bTab at hb
 rw [Zcn (by rw [hv,ht];rfl),h] at hb
 cases wh with
 | false=>cases hb
 | true=>
  injection hb with hb
  subst hb
  exact ⟨rfl,rfl,rfl⟩
theorem Zlz (cs:List Value) (x:Puzzle) (fp:List Nat) (v:Value) (goal:List Int) (ft:List Nat) (tg:Table) (w:World) (h:Rp.rep w cs x fp) (hv:Rd w v goal ft) (hx:validPz x = true) (ht:trackB x.points goal = true) (hb:bTab x goal = some tg) :
  Calls Tryz.prog 155 #[.agg cs.toArray,v] w fun e w'=>∃ A1 A2 A3 C1 C2 C3 n3,e = .returned (.agg #[.slice A1 tg.patterns.length C1,.slice A2 tg.distances.length C2,.slice A3 n3 C3,.bool true])/\SrG goal.length w.heap.size w' tg (.agg #[.slice A1 tg.patterns.length C1,.slice A2 tg.distances.length C2,.slice A3 n3 C3,.bool true])/\Only [] w w':=by
 have hl:=(Zal.1 ht).2.len
 have hf:=Zae hx
 refine (Zhg cs x fp v goal ft w h hv hx (Zdq ht) (by omega)).mono ?_
 rintro e w' ⟨A1,A2,A3,C1,C2,C3,n3,wh,L,D,fL,fD,rfl,-,-,hq,ho,-,-,-,-,so,ob,fps,fd,fz,rfl,h1,h2,h3⟩
 obtain ⟨rfl,e1,e2⟩:=Ztd hx ht hb hq
 subst e1
 subst e2
 exact ⟨A1,A2,A3,C1,C2,C3,_,rfl,⟨A1,A2,A3,C1,C2,C3,so,ob,fps,fd,fz,rfl,h1,h2,h3⟩,ho⟩
set_option maxHeartbeats 2000000 in
theorem Zgs (x:Puzzle) (t:Table) (m:Nat) (v u:Value) (s:List Int) (f:List Nat) (w:World) {B:Nat} (h:SrG m B w t v) (hb:Built x t) (hu:Rd w u s f) (hs:s.length = m) :
  Calls Tryz.prog 134 #[v,u] w fun e w'=>e = .returned (.int .i64 (depT t s))/\Only [] w w':=by
 obtain ⟨A1,A2,A3,C1,C2,C3,so,ob,fps,fd,fz,rfl,hR,hS,-⟩:=h
 have hL:=hb.ll
 have hdl:t.distances.length = t.patterns.length:=hb.bi.dl
 have hnd:t.patterns.Nodup:=hb.bi.nd
 have HS:=zH hS
 have Hnd:=zH hnd
 have Hb:=zH hb
 have Hs:=zH hs
 have Hdl:=zH hdl
 clear hS hnd hb hs hdl
 have hB:=Blk.new w [.slice A1 t.patterns.length C1,.slice A2 t.distances.length C2,.slice A3 so.length C3,.bool true] 85
 by_cases hm:s∈t.patterns
 ·obtain ⟨i,hi,e⟩:=List.getElem_of_mem hm
  have hg:t.patterns.getD i [] = s:=by rw [Zab hi,e]
  have hd:=Zho Hb.out hi
  rw [hg] at hd
  have hid:i < t.distances.length:=by rw [Hdl.out];exact hi
  obtain ⟨b2,off2,rfl,-,hc0⟩:=hR.dp.at_ i hid
  have hdv:t.distances.getD i 0 = t.distances[i]:=Zab hid
  have Hd:=zH (hd.trans hdv)
  have Hg:=zH hg
  clear hm e hg hd hdv
  go_enter Tryz.func134,Tryz.ntmps134
  go_wp2_with (first
   | (go_at_call 126;(with_reducible refine (Zcj A1 (some ⟨b2,off2,none⟩) A3 C1 C2 C3 true t.patterns t.distances so ob fps fd fz m _ s f _ (hR.keep zA) HS.out (zK hu zA) Hs.out hL i hi Hg.out Hnd.out).mono ?_);rintro e w1 ⟨rfl,t1⟩;have y1:=(hB.keep t1).cell 1 rfl;have y2:=(((Only.refl [] w).alloc _).trans t1).cell (by simp) hc0)
   | fail)
  go_ret
  exact ⟨ret_int Hd.out.symm,zA⟩
 ·have Hd:=zH (depT_no hm)
  have Hm:=zH hm
  clear hm
  go_enter Tryz.func134,Tryz.ntmps134
  go_wp2_with (first
   | (go_at_call 126;(with_reducible refine (Zcw A1 A2 A3 C1 C2 C3 true t.patterns t.distances so ob fps fd fz m _ s f _ (hR.keep zA) HS.out (zK hu zA) Hs.out hL Hm.out).mono ?_);rintro e w1 ⟨rfl,t1⟩;have y1:=(hB.keep t1).cell 1 rfl)
   | fail)
  go_ret
  exact ⟨ret_int Hd.out.symm,zA⟩
set_option maxHeartbeats 8000000 in
theorem Zok (cs:List Value) (x:Puzzle) (fp:List Nat) (t:Table) (vg:Value) (goal:List Int) (fg:List Nat) (u:Value) (fu:List Nat) (v0:Nat) (w:World) (h:Rp.rep w cs x fp)
  (he:expl x = some t) (ht:trackB x.points goal = true) (hg:Rd w vg goal fg) (hv0:v0 < t.patterns.length) (hu:Rd w u (t.patterns.getD v0 []) fu) :
  Calls Tryz.prog 110 #[.agg cs.toArray,vg,u] w fun e w'=>∃ v fp',e = .returned v/\Rd w' v (mW1 x t goal (t.patterns.getD v0 [])) fp'/\Fresh w.heap.size w' fp'/\Only [] w w':=by
 have h0:=h
 obtain ⟨v2,rfl,p0,p1,h2⟩:=h
 clear p0 p1 h2
 obtain ⟨hb0,-⟩:=Zad he
 obtain ⟨tg,htg⟩:=Zpp he ht
 obtain ⟨hb,htr⟩:=Zcu htg
 obtain ⟨e0,he0,he1,he2⟩:=goal_at he htg hv0
 obtain ⟨sf1,-,-⟩:=Zbt he ht hv0
 have hE:=goal_E he ht htg hv0
 rw [he1,atD_nat] at hE
 obtain ⟨N,hNN⟩:∃ N,N = mN x t goal (t.patterns.getD v0 []):=⟨_,rfl⟩
 have hN:tg.distances.getD e0 0 = (N:Int):=by rw [<- hE,sf1,hNN]
 have hoW:oW x tg N (tg.patterns.getD e0 []) = mW1 x t goal (t.patterns.getD v0 []):=by
  rw [he2,goal_oW he ht htg N v0 hv0 (by rw [sf1,hNN]),hNN];rfl
 rw [<- hoW]
 obtain ⟨q1,q20,q8,-⟩:=Zae hb.v
 have hdep:=(hb.dep e0 he0).2.1
 have hll:=hb.ll
 have hN3:N<=3000:=by omega
 have hgl:goal.length<=1000:=by have:=(Zal.1 ht).2.len;omega
 have hgr:∀ y∈goal,0<=y/\y < (t.patterns.getD v0 []).length:=fun y hy=>by
  have a:=(Zal.1 ht).2.1 y hy
  rw [Zbc he hv0];omega
 have Hgr:=zH hgr
 have Ht:=zH ht
 have Htg:=zH htg
 have htr':tg.tracked.length = goal.length:=by rw [htr]
 have hlen0:∀ i:Nat,i < tg.patterns.length->(tg.patterns.getD i []).length = goal.length:=fun i hi=>by
  have:=(Zaq.1 (hb.bi.pat _ (hb.mem_of hi))).1
  omega
 have Hlen0:=zH hlen0
 have Hl0:=zH (show (PM.comp goal (t.patterns.getD v0 [])).length = goal.length by rw [<- he2];exact hlen0 e0 he0)
 have Hb:=zH hb
 have Hd0:=zH (show depT tg (PM.comp goal (t.patterns.getD v0 [])) = (N:Int) by rw [<- he2,Zho hb he0,hN])
 have HN:=zH hN
 have He2:=zH he2
 obtain ⟨st,hst⟩:∃ st,st = t.patterns.getD v0 []:=⟨_,rfl⟩
 rw [<- hst] at hu Hgr Hl0 Hd0 He2
 obtain ⟨iI,hi,hz0,hz1,hz2⟩:=info_parts Tryz.info2
 obtain ⟨s0,hs0⟩:∃ s0,s0 = tg.patterns.getD e0 []:=⟨_,rfl⟩
 have Hs0:=zH hs0
 rw [<- hs0]
 have X0:Blk (w.alloc (.cells #[.int .i64 x.points,.string x.names,v2] 33)) w.heap.size [.int .i64 x.points,.string x.names,v2]:=Blk.new w [.int .i64 x.points,.string x.names,v2] 33
 have hxv:=hb.v
 have Hxv:=zH hxv
 clear hs0 hst hN hoW hE sf1 he1 he2 hb0 hb htr htg ht hgr he hNN hdep hxv htr' hlen0
 go_enter Tryz.func110,Tryz.ntmps110
 go_upto_region 6 with (first
  | (go_at_call 155;(with_reducible refine (Zlz [.int .i64 x.points,.string x.names,v2] x _ vg goal _ tg _ (zK h0 zA) (zK hg zA) Hxv.out Ht.out Htg.out).mono ?_);rintro e w1 ⟨A1,A2,A3,C1,C2,C3,n3,rfl,hS,t1⟩;have X1:=(X0.keep t1).keep ((Only.refl [] w1).alloc (.cells #[.slice A1 tg.patterns.length C1,.slice A2 tg.distances.length C2,.slice A3 n3 C3,.bool true] 85));have Y1:Blk (w1.alloc (.cells #[.slice A1 tg.patterns.length C1,.slice A2 tg.distances.length C2,.slice A3 n3 C3,.bool true] 85)) w1.heap.size [.slice A1 tg.patterns.length C1,.slice A2 tg.distances.length C2,.slice A3 n3 C3,.bool true]:=Blk.new w1 _ _;have kE:Only [] (w1.alloc (.cells #[.slice A1 tg.patterns.length C1,.slice A2 tg.distances.length C2,.slice A3 n3 C3,.bool true] 85)) ((w1.alloc (.cells #[.slice A1 tg.patterns.length C1,.slice A2 tg.distances.length C2,.slice A3 n3 C3,.bool true] 85)).alloc (.cells #[] 2)):=zO.alloc _;have x0:=(X1.keep kE).cell 0 rfl;have x1:=(X1.keep kE).cell 1 rfl;have x2:=(X1.keep kE).cell 2 rfl)
  | (go_at_call 127;(with_reducible refine (Zcf [.int .i64 x.points,.string x.names,v2] x _ _ (zK h0 zA) (by omega)).mono ?_);rintro e w2 ⟨u1,f1,rfl,r1,F1,t2⟩;obtain ⟨a1,c1,rfl,I1⟩:=r1.ints)
  | (go_at_call 157;(with_reducible refine (Zkf vg u goal st _ _ _ (zK hg zA) (zK hu zA) Hgr.out hgl).mono ?_);rintro e w3 ⟨u3,f3,rfl,r3,F3,t3⟩;have Y3:=((Y1.keep kE).keep t2).keep t3;obtain ⟨y0,y1,y2,y3⟩:=Y3.c4)
  | (go_at_call 134;(with_reducible refine (Zgs x tg goal.length _ _ _ _ _ (((hS.keep ((Only.refl [] w1).alloc _)).keep kE).keep (t2.trans t3)) Hb.out r3 Hl0.out).mono ?_);rintro e w4 ⟨he,t4⟩;rw [Hd0.out] at he;subst he)
  | fail)
 obtain ⟨WA,hWA⟩:∃ WA,WA = w1.alloc (.cells #[.slice A1 tg.patterns.length C1,.slice A2 tg.distances.length C2,.slice A3 n3 C3,.bool true] 85):=⟨_,rfl⟩
 have hzA:WA.heap.size = w1.heap.size + 1:=by rw [hWA];simp
 have KWA:Only [] w WA:=by rw [hWA];exact zA
 have hSA:SrG goal.length (w.heap.size + 1) WA tg (.agg #[.slice A1 tg.patterns.length C1,.slice A2 tg.distances.length C2,.slice A3 n3 C3,.bool true]):=by rw [hWA];exact (hS.mono (by simp)).keep ((Only.refl [] w1).alloc _)
 have A0':AccI WA.heap.size 2 (WA.alloc (.cells #[] 2)) (.slice (some ⟨w1.heap.size + 1,0,none⟩) 0 0) []:=AccI.made WA WA.heap.size 2 hzA.symm (by omega)
 rw [<- hWA] at X1 Y1 kE t2
 have k24:=(t2.trans t3).trans t4
 have KA4:Only [] WA w4:=kE.trans k24
 have A0:=A0'.keep k24
 have I2:=(I1.keep t3).keep t4
 have r34:=zK r3 t4
 have hF1:=F1.ge
 have hF3:=F3.ge
 have hsz2:=t2.size
 simp at hsz2
 clear hWA x0 x1 x2 y0 y1 y2 y3 Y3 hS A0' F1 F3 r1 I1 r3 X0
 obtain ⟨ls,hls⟩:∃ ls,ls = ltrs x.moves.length:=⟨_,rfl⟩
 rw [<- hls] at I2 ⊢
 have Hls:=zH hls
 have D0:DWn x tg WA w4 2 f1 w4 (.slice (some ⟨w1.heap.size + 1,0,none⟩) 0 0) u3 [] e0 f3:=by
  refine ⟨A0,by rw [He2.out];exact r34,fun b hb he=>?_,KA4,fun _ _=>rfl,fun b hb he=>?_,fun b hb=>I2.lt b hb⟩
  ·have:=hF3 b hb;simp [Value.ownBlock] at he;omega
  ·have:=hF1 b hb;simp [Value.ownBlock] at he;simp at this;omega
 clear A0 r34 hls k24 t2 t3 t4 hF1 hF3 kE
 go_loopw [8,10,11] (fun o s2 d wr=>∃ (n i:Nat) (f2:List Nat) (dn:List Int),d = .int .i64 n/\n<=3000/\dn.length + n = N/\i < tg.patterns.length/\tg.distances.getD i 0 = n/\dn ++ oW x tg n (tg.patterns.getD i []) = oW x tg N s0/\DWn x tg WA w4 2 f1 wr o s2 dn i f2)
  (fun _ _ d _=>(intOf d).toNat)
 case atStart=>exact ⟨N,e0,f3,[],rfl,hN3,by simp,he0,HN.out,by rw [Hs0.out];rfl,D0⟩
 case round=>
  obtain ⟨W3,hnew⟩:∃ W,W = wr:=⟨_,rfl⟩
  subst hnew
  obtain ⟨n,i,f2,dn,rfl,hn3,hlen,hil,hdi,hcat,hD⟩:=hrel
  have Hcat:=zH hcat
  have Hdi:=zH hdi
  have Hlen:=zH hlen
  clear hcat hdi hlen
  by_cases hn:0 < n
  ·obtain ⟨m,hm⟩:∃ m,n = m + 1:=⟨n - 1,by omega⟩
   have hm1:m + 1<=n:=by omega
   have hm2:n<=m + 1:=by omega
   have Hm:=zH hm
   obtain ⟨k,j,hDn⟩:=Hb.out.down hil (n:=m) (by rw [Hdi.out,hm];push_cast;rfl)
   clear hm
   have hkl:k < ls.length:=by rw [Hls.out];exact hDn.hk
   have HDn:=zH hDn
   clear hDn
   go_wp2
   go_loopw [8,10,12] (fun o s2 c wr=>∃ j':Nat,j'<=k/\c = .int .i64 j'/\s2 = u10/\o = u8/\Only [] W3 wr)
    (fun _ _ c _=>ls.length - (intOf c).toNat)
   case atStart=>exact ⟨0,Nat.zero_le _,rfl,rfl,rfl,Only.refl _ _⟩
   case round=>
    obtain ⟨j',hj',rfl,rfl,rfl,hK⟩:=hrel
    obtain ⟨W4,hnew⟩:∃ W,W = wr:=⟨_,rfl⟩
    subst hnew
    have hD4:=hD.keep hK
    have hjl:j' < ls.length:=by omega
    have I4:=hD4.ints I2 (by intro b hb;exact hb)
    have hlb:=I4.bound
    obtain ⟨b3,off3,rfl,-,hc3⟩:=I4.at_ j' hjl
    have X4:=X1.keep hD4.on
    have Y4:=Y1.keep hD4.on
    obtain ⟨x0,x1,x2⟩:=X4.c3
    have hrd:=hD4.rd
    have K4:Only [] w W4:=KWA.trans hD4.on
    have KA4:=hD4.on
    have hla:ls[j']∈ltrs x.moves.length:=by rw [<- Hls.out];exact List.getElem_mem hjl
    obtain ⟨i',hi',hnx,-,-⟩:=Hb.out.step hil hla
    have hpat:=Hb.out.bi.pat _ (Hb.out.mem_of hil)
    have Hrng:=zH (Zaq.1 hpat).2.1
    have hql:(tg.patterns.getD i []).length<=1000:=by rw [Hlen0.out i hil];exact hgl
    have hI:I64 ls[j']:=by have:=Zas.1 hla;unfold I64;omega
    have HI:=zH hI
    have Hla:=zH hla
    obtain ⟨cur,hcur⟩:∃ cur,cur = tg.patterns.getD i []:=⟨_,rfl⟩
    have Hcur:=zH hcur
    rw [<- hcur] at hrd hql hnx
    rw [<- hcur] at Hrng
    clear hpat hla hI hcur
    have Hc:=zH (fun (W:World) (hh:Only [] W4 W)=>Zbj [.int .i64 x.points,.string x.names,v2] x _ u10 cur _ ls[j'] W (zK h0 (K4.trans hh)) (zK hrd hh) Hb.out.v Hla.out Hrng.out hql)
    go_wp2
    go_region_held3 (fun w'=>Only [] W4 w'/\w'.cell? ⟨w.heap.size,0,none⟩ = some (.int .i64 x.points)/\w'.cell? ⟨w.heap.size,1,none⟩ = some (.string x.names)/\w'.cell? ⟨w.heap.size,2,none⟩ = some (v2)/\w'.cell? ⟨b3,off3 + j',none⟩ = some (.int .i64 ls[j'])) (((refine and_of ?_ (fun q_=>⟨q_.ce x0,q_.ce x1,q_.ce x2,q_.ce hc3⟩));first | exact zO.drew | exact (zO.drewN _).drew | exact Only.trans (And.left (by assumption)) (by assumption) | exact Only.alloc (And.left (by assumption)) _ | assumption)) (first | (go_at_call 128;(with_reducible refine (Hc.out _ (And.left (by assumption))).mono ?_);rintro e w5 ⟨u5,f5,rfl,r5,F5,t5⟩;have F5':=F5.mono (((Only.refl [] W4).trans (And.left (by assumption))).size)) | fail)
    have k5:Only [] W4 w5:=(Only.refl [] W4).trans (And.left (by assumption))
    obtain ⟨s',hs'⟩:∃ s',s' = nxt x cur ls[j']:=⟨_,rfl⟩
    rw [<- hs'] at r5 hnx
    have Hl':=zH (show s'.length = goal.length by rw [<- hnx];exact Hlen0.out i' hi')
    have hd':depT tg s' = tg.distances.getD i' 0:=depT_at Hb.out hi' hnx
    have hS5:=hSA.keep (KA4.trans k5)
    have Y5:=Y4.keep k5
    obtain ⟨y0,y1,y2,y3⟩:=Y5.c4
    have I5:=I4.keep k5
    obtain ⟨b3',off3',e3,-,hc5⟩:=I5.at_ j' hjl
    injection e3 with e3;injection e3 with e3 e4;subst e3;subst e4
    have hD5:=hD4.keep k5
    have Hs':=zH hs'
    have Hnx:=zH hnx
    have Hd':=zH hd'
    clear x0 x1 x2 hc3 X4 Y4 I4 Hc hrd hs' hnx hd'
    by_cases hjk:j' = k
    ·subst hjk
     have hjj:tg.patterns.getD j [] = s':=by rw [HDn.out.nx,Hs'.out,Hcur.out];simp [Hls.out]
     have Hjj:=zH hjj
     have Hdm:=zH ((depT_at Hb.out HDn.out.hj hjj).trans HDn.out.ds:depT tg s' = m)
     clear hjj
     have hdl:dn.length + 1<=1073741824:=by have:=Hlen.out;omega
     have hcmp:((m:Int) == (n:Int) - 1) = true:=by simp;omega
     go_wp2_with (first
      | (go_at_call 134;(with_reducible refine (Zgs x tg goal.length _ u5 s' f5 _ hS5 Hb.out (zK r5 zA) Hl'.out).mono ?_);rintro e w6 ⟨he,t6⟩;rw [Hdm.out] at he;subst he;have hc6:=t6.cell (by simp) hc5;have hD6:=hD5.keep t6;have hB6:=hD6.on.size)
      | (at_builtin;refine Zap rfl _ _ 25 rfl WA.heap.size 2 iI _ Tryz.underlying25 hi hz0 hz1 hz2 rfl w6 _ dn rfl hD6.acc (zO.alloc _) hB6 w6.heap.size 1 ls[j'] rfl (lit1 w6 _ _ rfl) HI.out hdl ?_;intro v9 w9 hA9 hO9 hP9 hN9)
      | fail)
     have hf5:∀ b∈f5,u8.ownBlock ≠ some b:=fun b hb he=>by
      obtain ⟨fs7,hA7⟩:=hD4.acc
      have:=(hA7.ownlt b he).2
      have:=F5'.ge b hb
      omega
     have hD9:=DWn.step hD6 (zO.alloc _) hA9 hO9 hN9 hP9 (j:=j) (zK (zK (show Rd w5 u5 (tg.patterns.getD j []) f5 by rw [Hjj.out];exact r5) t6) (zO.alloc _)) hf5
     exact ⟨⟨m,j,f5,dn ++ [ls[j']],by congr 1;omega,by omega,by have:=Hlen.out;simp;omega,HDn.out.hj,HDn.out.ds,by rw [<- Hcat.out,Hm.out,HDn.out.oW_];simp [Hls.out],hD9⟩,by simp [intOf];omega⟩
    ·have hne:=(HDn.out.no j' (by omega) i' hi' (by rw [Hnx.out,Hs'.out,Hcur.out];simp [Hls.out])).1
     have hdr:=Hb.out.dep i' hi'
     obtain ⟨d',hd9⟩:∃ d',d' = tg.distances.getD i' 0:=⟨_,rfl⟩
     rw [<- hd9] at hne hdr
     have Hdd:=zH (Hd'.out.trans hd9.symm)
     have hcmp:(d' == (n:Int) - 1) = false:=by simp;omega
     clear hd9 hne hdr
     go_wp2_with (first
      | (go_at_call 134;(with_reducible refine (Zgs x tg goal.length _ u5 s' f5 _ hS5 Hb.out (zK r5 zA) Hl'.out).mono ?_);rintro e w6 ⟨he,t6⟩;rw [Hdd.out] at he;subst he)
      | fail)
     go_roundw
     case rel=>exact ⟨j' + 1,by omega,by go_num,rfl,rfl,hK.trans (k5.trans t6)⟩
     case measure=>simp [intOf];omega
  ·obtain rfl:n = 0:=by omega
   have hfin:dn = oW x tg N s0:=by have:=Hcat.out;rwa [show oW x tg 0 (tg.patterns.getD i []) = [] from rfl,List.append_nil] at this
   have Hfin:=zH hfin
   clear hfin
   go_wp2
   go_ret
   exact ⟨_,_,rfl,by rw [<- Hfin.out];exact hD.acc.rd,hD.acc.fresh.mono KWA.size,KWA.trans hD.on⟩
end Go.Proofs.YtclhblofchfglaaGreat
