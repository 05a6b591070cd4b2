/- The program's second phase: the word of the subset, mapped in place (laws 46, 51, 57, 58). -/
import Derived.Test.YtclhblofchfglaaGreatRowCompareSolversG15
import Derived.Test.YtclhblofchfglaaGreatRowCompareSolversG10
import Derived.Deep.DeepCutAuto
import Derived.Test.YtclhblofchfglaaGreatRowCompareSolversG8
import Derived.Test.YtclhblofchfglaaGreatRowCompareSolversG3
import Derived.Test.YtclhblofchfglaaGreatRowCompareSolversG9
import Derived.Test.YtclhblofchfglaaGreatRowCompareSolversG4
import Derived.Deep.RegionHeld3
import Derived.StillTailTactics
import Derived.Test.YtclhblofchfglaaGreatRowCompareSolversG7
import Derived.Test.YtclhblofchfglaaGreatRowCompareSolversG12
import Derived.Deep.RegionLaw
import Derived.Deep.RegionWith
import Derived.Deep.AppendLies
namespace Go.Proofs.YtclhblofchfglaaGreat
open Go.RowKit
set_option maxRecDepth 10000
def mixW (g:Int->Int) (l:List Int) (j:Nat):List Int:=(l.take j).map g ++ l.drop j
theorem Zji (g:Int->Int) (l:List Int) (j:Nat):(mixW g l j).length = l.length:=by
 unfold mixW
 rw [List.length_append,List.length_map,List.length_take,List.length_drop];omega
theorem mixW_at (g:Int->Int) (l:List Int) {j:Nat} (hj:j < l.length):(mixW g l j)[j]'(by rw [Zji];exact hj) = l[j]:=by
 unfold mixW
 rw [List.getElem_append_right (by simp;omega)]
 simp [Nat.min_eq_left (Nat.le_of_lt hj)]
theorem Zqg (g:Int->Int) (l:List Int) {j:Nat} (hj:j < l.length):(mixW g l j).set j (g l[j]) = mixW g l (j + 1):=by
 unfold mixW
 apply List.ext_getElem (by simp;omega)
 intro k h1 h2
 have h1':k < l.length:=by simp at h1;omega
 rw [List.getElem_set]
 simp only [List.getElem_append,List.length_map,List.length_take,List.getElem_map,List.getElem_take,List.getElem_drop]
 by_cases e1:j = k
 ·subst e1
  rw [if_pos rfl,dif_pos (by omega)]
 ·rw [if_neg e1]
  by_cases e2:k < j
  ·rw [dif_pos (by omega),dif_pos (by omega)]
  ·rw [dif_neg (by omega),dif_neg (by omega)]
   congr 1;omega
theorem Zms (g:Int->Int) (l:List Int):mixW g l 0 = l:=by unfold mixW;simp
theorem Zou (g:Int->Int) (l:List Int):mixW g l l.length = l.map g:=by unfold mixW;simp
theorem IntsA.put {w:World} {a:Option Addr} {cap:Nat} {l:List Int} {fp:List Nat} {B:Nat} (h:IntsA w a cap l fp) (F:Fresh B w fp) {i:Nat} (hi:i < l.length) {x:Int} (hx:I64 x) :
  ∃ b o,a = some ⟨b,o,none⟩/\w.cell? ⟨b,o + i,none⟩ = some (.int .i64 l[i])/\w.frozen? ⟨b,o + i,none⟩ = false/\IntsA (w.setCell ⟨b,o + i,none⟩ (.int .i64 x)) a cap (l.set i x) fp/\Fresh B (w.setCell ⟨b,o + i,none⟩ (.int .i64 x)) fp/\Only fp w (w.setCell ⟨b,o + i,none⟩ (.int .i64 x)):=by
 obtain ⟨b,o,rfl,hf,hc⟩:=h.at_ i hi
 have hb:b∈fp:=by rw [hf];simp
 exact ⟨b,o,rfl,hc,F.own.frozen hb,h.set hx,⟨F.nd,F.ge,F.own.setCell _ _⟩,zO.setCell (fun _=>hb) _⟩
set_option maxHeartbeats 2000000 in
theorem Zox (x:Puzzle) (t ts:Table) (sub:List Int) (h:Value) (i j:Nat) (w:World) (hp:Phs w x t ts sub h) (h2:expl (subP x sub) = some ts) (hi:i < t.patterns.length) (hj:j < ts.patterns.length) (hij:ts.patterns.getD j [] = t.patterns.getD i []) (hN:200 < ts.distances.getD j 0) :
  Calls Tryz.prog 80 #[h,.int .i64 i] w fun e w'=>e = .returned (.tuple #[.slice none 0 0,.bool false])/\Only [] w w':=by
 obtain ⟨gh,ge,gs,vsub,f,rfl,hB,hE,-,hS⟩:=hp.fst
 obtain ⟨ge',b,o,c,a1,cc,fu,e9,y3,hlen,hcS,hu⟩:=hE.state hi
 injection e9 with e9;injection e9 with e9;injection e9 with e9;subst e9
 have x0:=hB.cell 0 rfl
 have x2:=hB.cell 2 rfl
 have hil:(i:Int) < t.patterns.length:=by omega
 obtain ⟨s,hs⟩:∃ s,s = t.patterns.getD i []:=⟨_,rfl⟩
 rw [<- hs] at hcS hu hij
 have hf:=zH (fun (W:World) (hW:Only [] w W)=>Zfz (subP x sub) ts (.pointer (some ⟨gs,0,none⟩)) (.slice a1 s.length cc) s _ j W (hS.keep hW) h2 (zK hu hW) hj hij)
 have hO:=zH (fun (W:World) (hW:Only [] w W)=>Zgi (subP x sub) ts (.pointer (some ⟨gs,0,none⟩)) j W (hS.keep hW) h2 hj hN)
 clear hs h2 hij hN hE
 go_enter Tryz.func80,Tryz.ntmps80
 go_wp2
 go_region_held3 (fun w'=>Only [] w w'/\w'.cell? ⟨gh,2,none⟩ = some (.pointer (some ⟨gs,0,none⟩))/\w'.cell? ⟨gh,0,none⟩ = some (.pointer (some ⟨ge,0,none⟩))/\w'.cell? ⟨ge,3,none⟩ = some (.slice (some ⟨b,o,none⟩) t.patterns.length c)/\w'.cell? ⟨b,o + i,none⟩ = some (.slice a1 s.length cc)) (((refine and_of ?_ (fun q_=>⟨q_.ce x2,q_.ce x0,q_.ce y3,q_.ce hcS⟩));first | exact zO.drew | exact (zO.drewN _).drew | exact Only.trans (And.left (by assumption)) (by assumption) | exact Only.alloc (And.left (by assumption)) _ | assumption)) (first | (go_at_call 113;(with_reducible refine (hf.out _ (And.left (by assumption))).mono ?_);rintro e w5 ⟨rfl,t5⟩) | fail)
 have k5:Only [] w w5:=(Only.refl [] w).trans (And.left (by assumption))
 have x2':=k5.cell (by simp) x2
 go_wp2_with (first
  | (go_at_call 87;(with_reducible refine (hO.out _ k5).mono ?_);rintro e w6 ⟨rfl,t6⟩)
  | fail)
 exact bodyPost_ret (v:=.tuple #[.slice none 0 0,.bool false]) (by simp [results,Tryz.results80,go_sem]) rfl ⟨rfl,k5.trans t6⟩
theorem Zoz {sub:List Int} {l:Int} {n:Nat} (h0:∀ k∈sub,0<=k/\k < n) (hl:l∈ltrs sub.length) :
  ∃ (k:Nat) (y:Int),∃ hk:k < sub.length,sub[k] = y/\0<=y/\y < n/\(0 < l->l - 1 = k/\mapL sub l = y + 1)/\(¬ 0 < l->-l - 1 = k/\mapL sub l = -(y + 1)):=by
 have h1:=Zas.1 hl
 by_cases hp:0 < l
 ·have hk:(l - 1).toNat < sub.length:=by omega
  have:=h0 _ (List.getElem_mem hk)
  refine ⟨(l - 1).toNat,sub[(l - 1).toNat],hk,rfl,this.1,this.2,fun _=>⟨by omega,?_⟩,fun h=>absurd hp h⟩
  unfold mapL;rw [if_pos hp,Zab hk]
 ·have hk:(-l - 1).toNat < sub.length:=by omega
  have:=h0 _ (List.getElem_mem hk)
  refine ⟨(-l - 1).toNat,sub[(-l - 1).toNat],hk,rfl,this.1,this.2,fun h=>absurd h hp,fun _=>⟨by omega,?_⟩⟩
  unfold mapL;rw [if_neg hp,Zab hk]
set_option maxHeartbeats 4000000 in
theorem Zqc (x:Puzzle) (t ts:Table) (sub:List Int) (h:Value) (i j N:Nat) (w:World) (hp:Phs w x t ts sub h) (hv:validPz x = true) (ht:trackB x.moves.length sub = true) (h2:expl (subP x sub) = some ts) (hi:i < t.patterns.length) (hj:j < ts.patterns.length) (hij:ts.patterns.getD j [] = t.patterns.getD i []) (hN:ts.distances.getD j 0 = N) (h200:N<=200)
  (hls:∀ l∈oW (subP x sub) ts N (t.patterns.getD i []),l∈ltrs (subP x sub).moves.length) :
  Calls Tryz.prog 80 #[h,.int .i64 i] w fun e w'=>∃ u f,e = .returned (.tuple #[u,.bool true])/\Rd w' u ((oW (subP x sub) ts N (t.patterns.getD i [])).map (mapL sub)) f/\Fresh w.heap.size w' f/\Only [] w w':=by
 obtain ⟨gh,ge,gs,vsub,f,rfl,hB,hE,hsub,hS⟩:=hp.fst
 obtain ⟨aS,cS,rfl,IS⟩:=hsub.ints
 obtain ⟨ge',b,o,c,a1,cc,fu,e9,y3,hlen,hcS,hu⟩:=hE.state hi
 injection e9 with e9;injection e9 with e9;injection e9 with e9;subst e9
 obtain ⟨x0,x1,x2⟩:=hB.c3
 have hil:(i:Int) < t.patterns.length:=by omega
 have h8:x.moves.length<=8:=(sub_len hv ht).2.2
 have hsl:sub.length<=8:=Nat.le_trans (sub_len hv ht).2.1 h8
 rw [show (subP x sub).moves.length = sub.length by show (List.map _ sub).length = _;rw [List.length_map]] at hls
 obtain ⟨s,hs⟩:∃ s,s = t.patterns.getD i []:=⟨_,rfl⟩
 rw [<- hs] at hcS hu hij hls ⊢
 obtain ⟨wd,hwd⟩:∃ wd,wd = oW (subP x sub) ts N s:=⟨_,rfl⟩
 have hwl:wd.length<=200:=by rw [hwd,oW_len];exact h200
 have hf:=zH (fun (W:World) (hW:Only [] w W)=>Zfz (subP x sub) ts (.pointer (some ⟨gs,0,none⟩)) (.slice a1 s.length cc) s _ j W (hS.keep hW) h2 (zK hu hW) hj hij)
 have hO:=zH (fun (W:World) (hW:Only [] w W)=>by
  have:=Zgc (subP x sub) ts (.pointer (some ⟨gs,0,none⟩)) j N W (hS.keep hW) h2 hj hN h200
  rw [hij,<- hwd] at this;exact this)
 rw [<- hwd] at hls ⊢
 have Hm:=zH (fun l hl=>Zoz (Zal.1 ht).2.1 (hls l hl))
 clear hs h2 hij hN hE hwd ht hv hls hp
 go_enter Tryz.func80,Tryz.ntmps80
 go_wp2
 go_region_held3 (fun w'=>Only [] w w'/\w'.cell? ⟨gh,2,none⟩ = some (.pointer (some ⟨gs,0,none⟩))/\w'.cell? ⟨gh,0,none⟩ = some (.pointer (some ⟨ge,0,none⟩))/\w'.cell? ⟨ge,3,none⟩ = some (.slice (some ⟨b,o,none⟩) t.patterns.length c)/\w'.cell? ⟨b,o + i,none⟩ = some (.slice a1 s.length cc)) (((refine and_of ?_ (fun q_=>⟨q_.ce x2,q_.ce x0,q_.ce y3,q_.ce hcS⟩));first | exact zO.drew | exact (zO.drewN _).drew | exact Only.trans (And.left (by assumption)) (by assumption) | exact Only.alloc (And.left (by assumption)) _ | assumption)) (first | (go_at_call 113;(with_reducible refine (hf.out _ (And.left (by assumption))).mono ?_);rintro e w5 ⟨rfl,t5⟩) | fail)
 have k5:Only [] w w5:=(Only.refl [] w).trans (And.left (by assumption))
 have x2':=k5.cell (by simp) x2
 go_upto_region 7 with (first
  | (go_at_call 87;(with_reducible refine (hO.out _ k5).mono ?_);rintro e w6 ⟨u6,f6,rfl,r6,F6,t6⟩;obtain ⟨a6,c6,rfl,I6⟩:=r6.ints)
  | fail)
 have k6:=k5.trans t6
 have F6':=F6.mono k5.size
 have hIb:=I6.bound
 have Hf:=zH hf
 clear hf hO r6 t5 x2' x0 x2 F6 hcS hu y3
 go_wp2
 go_loopw [44] (fun i wr=>∃ k:Nat,k<=wd.length/\i = .int .i64 k/\IntsA wr a6 c6 (mixW (mapL sub) wd k) f6/\Fresh w.heap.size wr f6/\Only [] w wr)
  (fun i _=>wd.length - (intOf i).toNat)
 case atStart=>exact ⟨0,Nat.zero_le _,rfl,by rw [Zms];exact I6,F6',k6⟩
 case round=>
  obtain ⟨W3,hnew⟩:∃ W,W = wr:=⟨_,rfl⟩
  subst hnew
  obtain ⟨k,hk,rfl,hI,hF,hK⟩:=hrel
  by_cases hlt:k < wd.length
  ·obtain ⟨k1,y,hk1,hy,hy0,hyn,hpos,hneg⟩:=Hm.out _ (List.getElem_mem hlt)
   obtain ⟨z,hz⟩:∃ z,z = mapL sub wd[k]:=⟨_,rfl⟩
   have hzI:I64 z:=by
    unfold I64
    by_cases hp:0 < wd[k]
    ·have:=hpos hp;omega
    ·have:=hneg (by omega);omega
   obtain ⟨b6,o6,rfl,q1,q2,q3,q4,q5⟩:=hI.put hF (i:=k) (by rw [Zji];exact hlt) hzI
   rw [mixW_at _ _ hlt] at q1
   rw [hz,Zqg _ _ hlt] at q3
   rw [<- hz] at q3 hpos hneg
   have hK4:Only [] w (W3.setCell ⟨b6,o6 + k,none⟩ (.int .i64 z)):=hK.then_ q5 (fun b hb hlt=>by have:=hF.ge b hb;omega)
   obtain ⟨l,hl⟩:∃ l,l = wd[k]:=⟨_,rfl⟩
   rw [<- hl] at q1 hpos hneg
   have IS3:=IS.keep hK
   obtain ⟨bS,oS,rfl,-,hcs⟩:=IS3.at_ k1 hk1
   rw [hy] at hcs
   have x1w:=hK.cell (by simp) x1
   have hki:(k1:Int) < sub.length:=by omega
   have hki0:(0:Int)<=(k1:Int):=by omega
   have Q3:=zH q3
   have Q4:=zH q4
   have HK4:=zH hK4
   have Hz:=zH hz
   have Hl:=zH hl
   clear q3 q4 q5 hK4 hz hl hI hF hzI
   by_cases hp:0 < l
   ·obtain ⟨e1,e2⟩:=hpos hp
    have w1:IntKind.i64.wrap (l - 1) = (k1:Int):=by rw [e1,IntKind.wrap_i64];omega
    have w2:IntKind.i64.wrap (y + 1) = z:=by rw [e2,IntKind.wrap_i64];omega
    have Hg:=zH hpos
    have Hg2:=zH hneg
    have He:=zH e1
    clear e1 e2 hpos hneg hy
    go_wp2
    go_roundw
    case rel=>exact ⟨k + 1,by omega,by go_num,Q3.out,Q4.out,HK4.out⟩
    case measure=>simp [intOf];omega
   ·obtain ⟨e1,e2⟩:=hneg (by omega)
    obtain ⟨m,hm⟩:∃ m,m = -l:=⟨_,rfl⟩
    have w0:IntKind.i64.wrap (-l) = m:=by rw [hm,IntKind.wrap_i64];omega
    have w1:IntKind.i64.wrap (m - 1) = (k1:Int):=by rw [hm,e1,IntKind.wrap_i64];omega
    obtain ⟨y1,hy1⟩:∃ y1,y1 = y + 1:=⟨_,rfl⟩
    have w2:IntKind.i64.wrap (y + 1) = y1:=by rw [hy1,IntKind.wrap_i64];omega
    have w3:IntKind.i64.wrap (-y1) = z:=by rw [e2,hy1,IntKind.wrap_i64];omega
    have Hg:=zH hpos
    have Hg2:=zH hneg
    have He:=zH e1
    have He2:=zH e2
    have Hm1:=zH hm
    have Hy1:=zH hy1
    clear e1 e2 hpos hneg hy hm hy1
    go_wp2
    go_roundw
    case rel=>exact ⟨k + 1,by omega,by go_num,Q3.out,Q4.out,HK4.out⟩
    case measure=>simp [intOf];omega
  ·obtain rfl:wd.length = k:=by omega
   rw [Zou] at hI
   have HI:=zH hI
   clear hI
   go_wp2
   exact bodyPost_ret (v:=.tuple #[.slice a6 wd.length c6,.bool true]) (by simp [results,Tryz.results80,go_sem]) rfl ⟨_,f6,rfl,by have:=HI.out.rd;rwa [List.length_map] at this,hF,hK⟩
set_option maxHeartbeats 4000000 in
theorem Zjt (cs:List Value) (x:Puzzle) (ts:Table) (sub:List Int) (fp:List Nat) (v:Value) (fs0:List Nat) (B:Nat) (A4 A5 A6:Option Addr) (n4 n5 n6 C4 C5 C6:Nat) (wg:Bool) (u:Value) (fu:List Nat) (j N:Nat) (w:World) (h:Rp.rep w cs x fp) (hs:Rd w v sub fs0)
  (hG:SrF B w (subP x sub) ts (.agg #[.slice A4 n4 C4,.slice A5 n5 C5,.slice A6 n6 C6,.bool wg])) (hv:validPz x = true) (ht:trackB x.moves.length sub = true) (h2:expl (subP x sub) = some ts) (hj:j < ts.patterns.length) (hu:Rd w u (ts.patterns.getD j []) fu) (hN:ts.distances.getD j 0 = N) (hN3:N<=3000)
  (hls:∀ l∈oW (subP x sub) ts N (ts.patterns.getD j []),l∈ltrs (subP x sub).moves.length) :
  Calls Tryz.prog 75 #[.agg cs.toArray,v,.agg #[.slice A4 n4 C4,.slice A5 n5 C5,.slice A6 n6 C6,.bool wg],u] w fun e w'=>∃ z f,e = .returned z/\Rd w' z ((oW (subP x sub) ts N (ts.patterns.getD j [])).map (mapL sub)) f/\Fresh w.heap.size w' f/\Only [] w w':=by
 have h0:=h
 obtain ⟨v2,rfl,p0,p1,h3⟩:=h
 clear p0 p1 h3
 obtain ⟨aS,cS,rfl,IS⟩:=hs.ints
 have h8:x.moves.length<=8:=(sub_len hv ht).2.2
 have hsl:sub.length<=8:=Nat.le_trans (sub_len hv ht).2.1 h8
 rw [show (subP x sub).moves.length = sub.length by show (List.map _ sub).length = _;rw [List.length_map]] at hls
 obtain ⟨wd,hwd⟩:∃ wd,wd = oW (subP x sub) ts N (ts.patterns.getD j []):=⟨_,rfl⟩
 have hwl:wd.length<=3000:=by rw [hwd,oW_len];exact hN3
 have X0:Blk ((w.alloc (.cells #[.int .i64 x.points,.string x.names,v2] 33)).alloc (.cells #[.slice A4 n4 C4,.slice A5 n5 C5,.slice A6 n6 C6,.bool wg] 85)) w.heap.size [.int .i64 x.points,.string x.names,v2]:=(Blk.new w [.int .i64 x.points,.string x.names,v2] 33).keep (zO.alloc _)
 have Y0:Blk ((w.alloc (.cells #[.int .i64 x.points,.string x.names,v2] 33)).alloc (.cells #[.slice A4 n4 C4,.slice A5 n5 C5,.slice A6 n6 C6,.bool wg] 85)) (w.heap.size + 1) [.slice A4 n4 C4,.slice A5 n5 C5,.slice A6 n6 C6,.bool wg]:=Blk.new_at (by simp)
 obtain ⟨W0,hW0⟩:∃ W0,W0 = ((w.alloc (.cells #[.int .i64 x.points,.string x.names,v2] 33)).alloc (.cells #[.slice A4 n4 C4,.slice A5 n5 C5,.slice A6 n6 C6,.bool wg] 85)):=⟨_,rfl⟩
 have K0:Only [] w W0:=by rw [hW0];exact (zO.alloc _).alloc _
 have HW0:=zH hW0
 rw [<- hW0] at X0 Y0
 have Hr:=zH (fun (W:World) (hW:Only [] W0 W)=>Zfd [.int .i64 x.points,.string x.names,v2] x _ _ sub _ W (zK h0 (K0.trans hW)) (zK hs (K0.trans hW)) hv ht)
 have Hd:=zH (fun (W:World) (cs3:List Value) (f3:List Nat) (hW:Only [] W0 W) (hr:Rp.rep W cs3 (subP x sub) f3)=>by
  have:=Zgd cs3 (subP x sub) f3 ts B A4 A5 A6 n4 n5 n6 C4 C5 C6 wg u fu j N W hr (SrF.keep hG (K0.trans hW)) h2 hj (zK hu (K0.trans hW)) hN
  rw [<- hwd] at this;exact this)
 rw [<- hwd] at hls ⊢
 have Hm:=zH (fun l hl=>Zoz (Zal.1 ht).2.1 (hls l hl))
 obtain ⟨x0,x1,x2⟩:=X0.c3
 obtain ⟨y0,y1,y2,y3⟩:=Y0.c4
 clear hwd ht hv hls hN h2 hW0
 go_enter Tryz.func75,Tryz.ntmps75
 go_upto_region 1 with fail
 rw [<- HW0.out]
 go_region_held3 (fun w'=>Only [] W0 w'/\w'.cell? ⟨w.heap.size,0,none⟩ = some (.int .i64 x.points)/\w'.cell? ⟨w.heap.size,1,none⟩ = some (.string x.names)/\w'.cell? ⟨w.heap.size,2,none⟩ = some (v2)/\w'.cell? ⟨w.heap.size + 1,0,none⟩ = some (.slice A4 n4 C4)/\w'.cell? ⟨w.heap.size + 1,1,none⟩ = some (.slice A5 n5 C5)/\w'.cell? ⟨w.heap.size + 1,2,none⟩ = some (.slice A6 n6 C6)/\w'.cell? ⟨w.heap.size + 1,3,none⟩ = some (.bool wg)) (((refine and_of ?_ (fun q_=>⟨q_.ce x0,q_.ce x1,q_.ce x2,q_.ce y0,q_.ce y1,q_.ce y2,q_.ce y3⟩));first | exact zO.drew | exact (zO.drewN _).drew | exact Only.trans (And.left (by assumption)) (by assumption) | exact Only.alloc (And.left (by assumption)) _ | assumption)) (first | (go_at_call 125;(with_reducible refine (Hr.out _ (And.left (by assumption))).mono ?_);rintro e w5 ⟨cs5,f5,rfl,r5,t5⟩) | (go_at_call 84;(with_reducible refine (Hd.out _ cs5 f5 (And.left (by assumption)) (zK r5 zA)).mono ?_);rintro e w6 ⟨u6,f6,rfl,r6,F6,t6⟩;have F6':=F6.mono ((Only.trans (Only.refl [] W0) (And.left (by assumption))).size);obtain ⟨a6,c6,rfl,I6⟩:=r6.ints) | fail)
 have k6:Only [] W0 w6:=(Only.refl [] W0).trans (And.left (by assumption))
 have hIb:=I6.bound
 have F7:=F6'.mono K0.size
 have k7:=K0.trans k6
 clear r6 F6 F6' t5 t6 k6 r5 x0 x1 x2 y0 y1 y2 y3
 go_wp2
 go_loopw [10] (fun i wr=>∃ k:Nat,k<=wd.length/\i = .int .i64 k/\IntsA wr a6 c6 (mixW (mapL sub) wd k) f6/\Fresh w.heap.size wr f6/\Only [] w wr)
  (fun i _=>wd.length - (intOf i).toNat)
 case atStart=>exact ⟨0,Nat.zero_le _,rfl,by rw [Zms];exact I6,F7,k7⟩
 case round=>
  obtain ⟨W3,hnew⟩:∃ W,W = wr:=⟨_,rfl⟩
  subst hnew
  obtain ⟨k,hk,rfl,hI,hF,hK⟩:=hrel
  by_cases hlt:k < wd.length
  ·obtain ⟨k1,y,hk1,hy,hy0,hyn,hpos,hneg⟩:=Hm.out _ (List.getElem_mem hlt)
   obtain ⟨z,hz⟩:∃ z,z = mapL sub wd[k]:=⟨_,rfl⟩
   have hzI:I64 z:=by
    unfold I64
    by_cases hp:0 < wd[k]
    ·have:=hpos hp;omega
    ·have:=hneg (by omega);omega
   obtain ⟨b6,o6,rfl,q1,q2,q3,q4,q5⟩:=hI.put hF (i:=k) (by rw [Zji];exact hlt) hzI
   rw [mixW_at _ _ hlt] at q1
   rw [hz,Zqg _ _ hlt] at q3
   rw [<- hz] at q3 hpos hneg
   have hK4:Only [] w (W3.setCell ⟨b6,o6 + k,none⟩ (.int .i64 z)):=hK.then_ q5 (fun b hb hlt=>by have:=hF.ge b hb;omega)
   obtain ⟨l,hl⟩:∃ l,l = wd[k]:=⟨_,rfl⟩
   rw [<- hl] at q1 hpos hneg
   have IS3:=IS.keep hK
   obtain ⟨bS,oS,rfl,-,hcs⟩:=IS3.at_ k1 hk1
   rw [hy] at hcs
   have hki:(k1:Int) < sub.length:=by omega
   have hki0:(0:Int)<=(k1:Int):=by omega
   have hkw:(k:Int) < wd.length:=by omega
   have Q3:=zH q3
   have Q4:=zH q4
   have HK4:=zH hK4
   have Hz:=zH hz
   have Hl:=zH hl
   clear q3 q4 q5 hK4 hz hl hI hF hzI
   by_cases hp:0 < l
   ·obtain ⟨e1,e2⟩:=hpos hp
    have w1:IntKind.i64.wrap (l - 1) = (k1:Int):=by rw [e1,IntKind.wrap_i64];omega
    have w2:IntKind.i64.wrap (y + 1) = z:=by rw [e2,IntKind.wrap_i64];omega
    have Hg:=zH hpos
    have Hg2:=zH hneg
    have He:=zH e1
    clear e1 e2 hpos hneg hy
    go_wp2
    go_roundw
    case rel=>exact ⟨k + 1,by omega,by go_num,Q3.out,Q4.out,HK4.out⟩
    case measure=>simp [intOf];omega
   ·obtain ⟨e1,e2⟩:=hneg (by omega)
    obtain ⟨m,hm⟩:∃ m,m = -l:=⟨_,rfl⟩
    have w0:IntKind.i64.wrap (-l) = m:=by rw [hm,IntKind.wrap_i64];omega
    have w1:IntKind.i64.wrap (m - 1) = (k1:Int):=by rw [hm,e1,IntKind.wrap_i64];omega
    obtain ⟨y1,hy1⟩:∃ y1,y1 = -y:=⟨_,rfl⟩
    have w2:IntKind.i64.wrap (-y) = y1:=by rw [hy1,IntKind.wrap_i64];omega
    have w3:IntKind.i64.wrap (y1 - 1) = z:=by rw [e2,hy1,IntKind.wrap_i64];omega
    have Hg:=zH hpos
    have Hg2:=zH hneg
    have He:=zH e1
    have He2:=zH e2
    have Hm1:=zH hm
    have Hy1:=zH hy1
    clear e1 e2 hpos hneg hy hm hy1
    go_wp2
    go_roundw
    case rel=>exact ⟨k + 1,by omega,by go_num,Q3.out,Q4.out,HK4.out⟩
    case measure=>simp [intOf];omega
  ·obtain rfl:wd.length = k:=by omega
   rw [Zou] at hI
   have HI:=zH hI
   clear hI
   go_wp2
   go_ret
   exact ⟨_,f6,rfl,by have:=HI.out.rd;rwa [List.length_map] at this,hF,hK⟩
def pairB (a b:List Int):Bool:=decide (a.length < b.length) && a.all (fun z=>decide (z∈b))
theorem Zmq:∀ {l:List (List Int)},growB l = true ↔ ∀ i:Nat,i + 1 < l.length->pairB (l.getD i []) (l.getD (i + 1) []) = true
 | []=>by simp [growB]
 | [a]=>by simp [growB]
 | a :: b :: l=>by
  have e:growB (a :: b :: l) = (pairB a b && growB (b :: l)):=rfl
  rw [e,Bool.and_eq_true,Zmq]
  constructor
  ·rintro ⟨h1,h2⟩ i hi
   cases i with
   | zero=>exact h1
   | succ i=>exact h2 i (by simpa using hi)
  ·intro h
   exact ⟨h 0 (by simp),fun i hi=>h (i + 1) (by simpa using hi)⟩
def okTo (x:Puzzle) (goals:List (List Int)) (j:Nat):Prop:=∀ i:Nat,i < j->trackB x.points (goals.getD i []) = true/\(0 < i->pairB (goals.getD (i - 1) []) (goals.getD i []) = true)
theorem okTo.next {x:Puzzle} {goals:List (List Int)} {j:Nat} (h:okTo x goals j) (h1:trackB x.points (goals.getD j []) = true) (h2:0 < j->pairB (goals.getD (j - 1) []) (goals.getD j []) = true):okTo x goals (j + 1):=fun i hi=>by
 rcases Nat.lt_or_ge i j with h3 | h3
 ·exact h i h3
 ·obtain rfl:i = j:=by omega
  exact ⟨h1,h2⟩
theorem Zor {x:Puzzle} {goals:List (List Int)}:okTo x goals goals.length ↔ goals.all (trackB x.points) = true/\growB goals = true:=by
 rw [List.all_eq_true,Zmq]
 constructor
 ·intro h
  refine ⟨fun g hg=>?_,fun i hi=>?_⟩
  ·obtain ⟨i,hi,rfl⟩:=List.getElem_of_mem hg
   have:=(h i hi).1
   rwa [Zab hi] at this
  ·exact (h (i + 1) hi).2 (by omega)
 ·rintro ⟨h1,h2⟩ i hi
  refine ⟨h1 _ (by rw [Zab hi];exact List.getElem_mem hi),fun h0=>?_⟩
  have:=h2 (i - 1) (by omega)
  rwa [show i - 1 + 1 = i by omega] at this
theorem Zmp {x:Puzzle} {goals:List (List Int)} (h:validPz x = false):methB x goals = false:=by unfold methB;rw [h];rfl
theorem Znl {x:Puzzle} {goals:List (List Int)} (h:inR (goals.length:Int) 1 5 = false):methB x goals = false:=by
 unfold methB
 rw [decide_eq_false (p:=1<=goals.length/\goals.length<=5) (fun hc=>?_)]
 ·simp
 ·have:inR (goals.length:Int) 1 5 = true:=inR_iff.2 (by omega)
  rw [h] at this;cases this
theorem Zir {x:Puzzle} {goals:List (List Int)} {j:Nat} (hj:j < goals.length) (h:¬ (trackB x.points (goals.getD j []) = true/\(0 < j->pairB (goals.getD (j - 1) []) (goals.getD j []) = true))):methB x goals = false:=by
 rw [Bool.eq_false_iff]
 intro hm
 obtain ⟨-,-,m3,m4,-⟩:=Zch hm
 exact h (Zor.2 ⟨List.all_eq_true.2 m3,m4⟩ j hj)
theorem Zns {x:Puzzle} {goals:List (List Int)} (h1:validPz x = true) (h2:inR (goals.length:Int) 1 5 = true) (h3:okTo x goals goals.length):methB x goals = (((goals.getD (goals.length - 1) []).length:Int) == x.points):=by
 obtain ⟨h4,h5⟩:=Zor.1 h3
 have:=inR_iff.1 h2
 unfold methB
 rw [h1,h4,h5,decide_eq_true (show 1<=goals.length/\goals.length<=5 by omega)]
 simp only [Bool.true_and,Bool.and_true]
 rw [Bool.eq_iff_iff,decide_eq_true_iff,beq_iff_eq]
set_option maxHeartbeats 1000000 in
theorem Zjw (gb:Nat) (vb:Value) (b:List Int) (fb:List Nat) (y:Int) (w:World) (h1:w.cell? ⟨gb,0,none⟩ = some vb) (hb:Rd w vb b fb) :
  Calls Tryz.prog 116 #[.int .i64 y,.pointer (some ⟨gb,0,none⟩)] w fun e w'=>e = .returned (.bool (!decide (y∈b)))/\Only [] w w':=by
 obtain ⟨a,c,rfl,I⟩:=hb.ints
 go_enter Tryz.func116,Tryz.ntmps116
 go_wp2_with (first
  | (go_at_call 117;(with_reducible refine (Zoh a c b y _ w I).mono ?_);rintro e w1 ⟨rfl,d1⟩;have t1:=d1.only [])
  | fail)
 go_ret
 exact ⟨rfl,t1⟩
set_option maxHeartbeats 4000000 in
theorem Zfy (cs:List Value) (x:Puzzle) (fp:List Nat) (v:Value) (goals:List (List Int)) (fg:List Nat) (w:World) (h:Rp.rep w cs x fp) (hg:Rd w v goals fg) :
  Calls Tryz.prog 65 #[.agg cs.toArray,v] w fun e w'=>e = .returned (.bool (methB x goals))/\Only [] w w':=by
 have h0:=h
 obtain ⟨v2,rfl,p0,p1,h2⟩:=h
 clear p0 p1 h2
 have hg0:=hg
 obtain ⟨a,cap,ob,fps,rfl,-,S⟩:=hg.open_
 have hb:=S.bound
 have X0:Blk (w.alloc (.cells #[.int .i64 x.points,.string x.names,v2] 33)) w.heap.size [.int .i64 x.points,.string x.names,v2]:=Blk.new w [.int .i64 x.points,.string x.names,v2] 33
 rcases hv:validPz x
 ·have Hf:=zH (Zmp (goals:=goals) hv)
  have Hv:=zH hv
  clear hv
  go_enter Tryz.func65,Tryz.ntmps65
  go_wp2_with (first
   | (go_at_call 85;(with_reducible refine (Zai [.int .i64 x.points,.string x.names,v2] x _ _ (zK h0 zA)).mono ?_);rintro e w1 ⟨he,t1⟩;rw [Hv.out] at he;subst he)
   | fail)
  go_ret
  exact ⟨Zaa Hf.out.symm,zA⟩
 have hvf:=Zae hv
 obtain ⟨q1,q20,-,-⟩:=hvf
 have Hv:=zH hv
 rcases hr:inR (goals.length:Int) 1 5
 ·have Hf:=zH (Znl (x:=x) hr)
  have Hr:=zH hr
  clear hv hr
  go_enter Tryz.func65,Tryz.ntmps65
  go_wp2_with (first
   | (go_at_call 85;(with_reducible refine (Zai [.int .i64 x.points,.string x.names,v2] x _ _ (zK h0 zA)).mono ?_);rintro e w1 ⟨he,t1⟩;rw [Hv.out] at he;subst he)
   | (go_at_call 97;(with_reducible refine (Zcg _ goals _ _ (zK hg0 zA)).mono ?_);rintro e w1 ⟨rfl,rfl⟩)
   | (go_at_call 96;(with_reducible refine (Zam (goals.length:Int) 1 5 _).mono ?_);rintro e w1 ⟨he,rfl⟩;rw [Hr.out] at he;subst he)
   | fail)
  go_ret
  exact ⟨Zaa Hf.out.symm,zA⟩
 have hrg:=inR_iff.1 hr
 have Hr:=zH hr
 clear hv hr
 go_enter Tryz.func65,Tryz.ntmps65
 go_upto_region 4 with (first
  | (go_at_call 85;(with_reducible refine (Zai [.int .i64 x.points,.string x.names,v2] x _ _ (zK h0 zA)).mono ?_);rintro e w1 ⟨he,t1⟩;rw [Hv.out] at he;subst he)
  | (go_at_call 97;(with_reducible refine (Zcg _ goals _ _ (zK hg0 zA)).mono ?_);rintro e w1 ⟨rfl,rfl⟩)
  | (go_at_call 96;(with_reducible refine (Zam (goals.length:Int) 1 5 _).mono ?_);rintro e w1 ⟨he,rfl⟩;rw [Hr.out] at he;subst he)
  | fail)
 have K1:Only [] w w1:=zA
 have X1:=X0.keep t1
 clear X0 t1
 go_loopw [18] (fun i wr=>∃ j:Nat,j<=goals.length/\i = .int .i64 j/\okTo x goals j/\Only [] w1 wr)
  (fun i _=>goals.length - (intOf i).toNat)
 case atStart=>exact ⟨0,Nat.zero_le _,rfl,fun i hi=>by omega,Only.refl _ _⟩
 case round=>
  obtain ⟨W2,hnew⟩:∃ W,W = wr:=⟨_,rfl⟩
  subst hnew
  obtain ⟨j,hj,rfl,hok,hK⟩:=hrel
  have kW:=K1.trans hK
  have Hok:=zH hok
  clear hok
  by_cases hlt:j < goals.length
  ·obtain ⟨b,off,u,rfl,-,hc,hu⟩:=S.atRow j hlt
   have hgd:goals.getD j [] = goals[j]:=Zab hlt
   have hcw:=kW.cell (by simp) hc
   obtain ⟨ag,cg,rfl,Ig⟩:=hu.ints
   obtain ⟨goal,hgl⟩:∃ goal,goal = goals[j]:=⟨_,rfl⟩
   rw [<- hgl] at hgd Ig hcw
   have kb:Only [] W2 (W2.alloc (.cells #[.slice ag goal.length cg] 25)):=zO.alloc _
   have c0:=lit1 W2 (.slice ag goal.length cg) 25 rfl
   have x0:=((X1.keep hK).keep kb).cell 0 rfl
   have I2:=(Ig.keep kW).keep kb
   have Hgd:=zH hgd
   clear hgl hc hu hgd
   rcases ht:trackB x.points goal
   ·have Hf:=zH (Zir hlt (by rw [Hgd.out,ht];simp))
    have Ht:=zH ht
    clear ht
    go_wp2_with (first
     | (go_at_call 114;(with_reducible refine (Zfk x.points _ goal _ _ I2.rd (by omega) (by omega)).mono ?_);rintro e w3 ⟨he,d3⟩;rw [Ht.out] at he;subst he;have t3:=d3.only [])
     | fail)
    go_ret
    exact ⟨Zaa Hf.out.symm,(kW.trans kb).trans t3⟩
   ·have Ht:=zH ht
    clear ht
    go_upto_region 8 with (first
     | (go_at_call 114;(with_reducible refine (Zfk x.points _ goal _ _ I2.rd (by omega) (by omega)).mono ?_);rintro e w3 ⟨he,d3⟩;rw [Ht.out] at he;subst he;have t3:=d3.only [];clear d3)
     | fail)
    have k3:=kb.trans t3
    have k3w:=kW.trans k3
    have c3:=t3.cell (by simp) c0
    obtain ⟨gb,hgb⟩:∃ gb,gb = W2.heap.size:=⟨_,rfl⟩
    rw [<- hgb] at c3 ⊢
    clear c0 x0 kb t3 hgb hcw I2
    obtain ⟨r,hr⟩:∃ r:Bool,r = (decide (0 < j) && !pairB (goals.getD (j - 1) []) goal):=⟨_,rfl⟩
    go_cut [49] (fun s49 wx=>s49 = .bool r/\Only [] w3 wx)
    case first=>
     by_cases hj0:0 < j
     ·obtain ⟨jp,hjp⟩:∃ jp,jp = j - 1:=⟨_,rfl⟩
      have hjl:jp < goals.length:=by omega
      obtain ⟨b',off',u',hA',-,hc',hu'⟩:=S.atRow jp hjl
      injection hA' with hA';injection hA' with hA1 hA2;subst hA1;subst hA2
      have hpd:goals.getD jp [] = goals[jp]:=Zab hjl
      obtain ⟨ap,cp,rfl,Ip⟩:=hu'.ints
      rw [<- hjp] at hr
      obtain ⟨prev,hpv⟩:∃ prev,prev = goals[jp]:=⟨_,rfl⟩
      rw [<- hpv] at hpd Ip hc'
      rw [hpd] at hr
      have hcp:=k3w.cell (by simp) hc'
      have Ip3:=Ip.keep k3w
      have e1:IntKind.i64.wrap ((j:Int) - 1) = (j:Int) - 1:=by rw [IntKind.wrap_i64];omega
      have e2:((j:Int) - 1).toNat = jp:=by omega
      have e3:(0:Int)<=(j:Int) - 1:=by omega
      have e4:(j:Int) - 1 < (goals.length:Int):=by omega
      have e5:(0:Int) < (j:Int):=by omega
      have e6:(1:Int)<=(j:Int):=by omega
      clear hpv hpd hc' hu' hjp Ip
      by_cases hle:goal.length<=prev.length
      ·have hge:decide ((goal.length:Int)<=(prev.length:Int)) = true:=decide_eq_true (by omega)
       have hrr:r = true:=by rw [hr];unfold pairB;rw [decide_eq_false (by omega:¬ prev.length < goal.length),decide_eq_true hj0];rfl
       subst hrr
       clear hr
       go_quiet (fail)
       go_wp2
       go_meet
       exact ⟨rfl,zA⟩
      ·have hge:decide ((goal.length:Int)<=(prev.length:Int)) = false:=decide_eq_false (by omega)
       have hrr:r = prev.any fun y=>!decide (y∈goal):=by
        rw [hr];unfold pairB;rw [decide_eq_true (by omega:prev.length < goal.length),decide_eq_true hj0,Bool.true_and,Bool.true_and,List.not_all_eq_any_not]
       have hcf:∀ W,Only [] w3 W->Calls Tryz.prog 115 #[.slice ap prev.length cp,.func (.func 116) #[] #[.pointer (some ⟨gb,0,none⟩)]] W fun e w'=>e = .returned (.bool r)/\Only [] W w':=fun W hW=>by
        rw [hrr]
        exact Zbw 116 #[.pointer (some ⟨gb,0,none⟩)] (fun y=>!decide (y∈goal)) Tryz.call116 (.slice ap prev.length cp) prev _ W (Ip3.keep hW).rd (fun y hy W' hW'=>Zjw gb (.slice ag goal.length cg) goal _ y W' ((hW.trans hW').cell (by simp) c3) (Ig.keep (k3w.trans (hW.trans hW'))).rd)
       have Hcf:=zH hcf
       clear hcf hrr hr
       go_region_held3 (fun w'=>Only [] w3 w'/\w'.cell? ⟨b,off + jp,none⟩ = some (.slice ap prev.length cp)/\w'.cell? ⟨gb,0,none⟩ = some (.slice ag goal.length cg)) (((refine and_of ?_ (fun q_=>⟨q_.ce hcp,q_.ce c3⟩));first | exact zO.drew | exact (zO.drewN _).drew | exact Only.trans (And.left (by assumption)) (by assumption) | exact Only.alloc (And.left (by assumption)) _ | assumption)) (first | (go_at_call 115;(with_reducible refine (Hcf.out _ (And.left (by assumption))).mono ?_);rintro e w5 ⟨rfl,t5⟩) | fail)
       go_wp2
       go_meet
       exact ⟨rfl,(Only.refl [] w3).trans (And.left (by assumption))⟩
     ·have e5:¬ (0:Int) < (j:Int):=by omega
      have hrr:r = false:=by rw [hr,decide_eq_false hj0];rfl
      subst hrr
      clear hr
      go_quiet (fail)
      go_wp2
      go_meet
      exact ⟨rfl,zA⟩
    case rest=>
     obtain ⟨W4,hnew⟩:∃ W,W = wc:=⟨_,rfl⟩
     subst hnew
     obtain ⟨rfl,k4⟩:=hcut
     cases r
     ·have Hn:=zH (Hok.out.next (by rw [Hgd.out];exact Ht.out) (fun h0=>by
       rw [decide_eq_true h0,Bool.true_and] at hr
       rw [Hgd.out]
       cases hp:pairB (goals.getD (j - 1) []) goal
       ·rw [hp] at hr;cases hr
       ·rfl))
      clear hr
      go_wp2
      go_roundw
      case rel=>exact ⟨j + 1,by omega,by go_num,Hn.out,hK.trans (k3.trans k4)⟩
      case measure=>simp [intOf];omega
     ·have Hf:=zH (Zir (x:=x) hlt (fun hc=>by
       have h3:=hr.symm
       rw [Bool.and_eq_true] at h3
       have h4:=hc.2 (of_decide_eq_true h3.1)
       rw [Hgd.out] at h4
       rw [h4] at h3
       exact absurd h3.2 (by simp)))
      clear hr
      go_wp2
      go_ret
      exact ⟨Zaa Hf.out.symm,k3w.trans k4⟩
  ·have hje:j = goals.length:=by omega
   have hok:=Hok.out
   rw [hje] at hok
   have Hf:=zH (Zns Hv.out Hr.out hok)
   have hlp:goals.length - 1 < goals.length:=by omega
   obtain ⟨b,off,u,rfl,-,hc,hu⟩:=S.atRow (goals.length - 1) hlp
   have hgd:goals.getD (goals.length - 1) [] = goals[goals.length - 1]:=Zab hlp
   obtain ⟨al,cl,rfl,Il⟩:=hu.ints
   obtain ⟨last,hl⟩:∃ l,l = goals[goals.length - 1]:=⟨_,rfl⟩
   rw [<- hl] at hgd Il hc
   rw [hgd] at Hf
   obtain ⟨jp,hjp⟩:∃ jp,jp = goals.length - 1:=⟨_,rfl⟩
   rw [<- hjp] at hc
   have e1:IntKind.i64.wrap ((goals.length:Int) - 1) = (goals.length:Int) - 1:=by rw [IntKind.wrap_i64];omega
   have e2:((goals.length:Int) - 1).toNat = jp:=by omega
   have e3:(0:Int)<=(goals.length:Int) - 1:=by omega
   have e4:(goals.length:Int) - 1 < (goals.length:Int):=by omega
   have hcw:=kW.cell (by simp) hc
   have x0:=(X1.keep hK).cell 0 rfl
   have Il2:=Il.keep kW
   have hjI:¬ (j:Int) < (goals.length:Int):=by omega
   clear hl hgd hjp hc hu Hok hok hje
   go_upto_region 11 with fail
   go_region_held3 (fun w'=>Only [] W2 w'/\w'.cell? ⟨b,off + jp,none⟩ = some (.slice al last.length cl)/\w'.cell? ⟨w.heap.size,0,none⟩ = some (.int .i64 x.points)) (((refine and_of ?_ (fun q_=>⟨q_.ce hcw,q_.ce x0⟩));first | exact zO.drew | exact (zO.drewN _).drew | exact Only.trans (And.left (by assumption)) (by assumption) | exact Only.alloc (And.left (by assumption)) _ | assumption)) (first | (go_at_call 47;(with_reducible refine (Zbu _ last _ _ (Il2.keep (And.left (by assumption))).rd).mono ?_);rintro e w5 ⟨rfl,d5⟩;have t5:=d5.only []) | fail)
   have k5:Only [] W2 w5:=(Only.refl [] W2).trans (And.left (by assumption))
   go_wp2
   go_ret
   exact ⟨Zaa Hf.out.symm,kW.trans k5⟩
set_option maxHeartbeats 1000000 in
theorem Zkf (u v:Value) (ix l:List Int) (f2 f1:List Nat) (w:World) (h':Rd w u ix f2) (h:Rd w v l f1) (hx:∀ x∈ix,0<=x/\x < l.length) (hl:ix.length<=1000) :
  Calls Tryz.prog 157 #[u,v] w fun e w'=>∃ v fp',e = .returned v/\Rd w' v (PM.comp ix l) fp'/\Fresh w.heap.size w' fp'/\Only [] w w':=by
 obtain ⟨a,cap,rfl,hI⟩:=h.ints
 obtain ⟨a',cap',rfl,hI'⟩:=h'.ints
 have hb:=hI.bound
 obtain ⟨i0,hi,hz0,hz1,hz2⟩:=info_parts Tryz.info2
 go_enter Tryz.func157,Tryz.ntmps157
 go_wp2
 go_loopw [5,6] (fun o i wr=>∃ (j:Nat) (fs:List (List Nat)),j<=ix.length/\i = .int .i64 j/\Acc w.heap.size 2 wr o (PM.comp (ix.take j) l) fs/\Fresh w.heap.size wr fs.flatten/\Only [] w wr)
  (fun _ i _=>ix.length - (intOf i).toNat)
 case atStart=>exact ⟨0,[],Nat.zero_le _,rfl,Acc.made w w.heap.size _ rfl (Nat.le_refl _),Fresh.nil _ _,zO.alloc _⟩
 case round=>
  obtain ⟨j,fs,hj,rfl,hA,hF,hK⟩:=hrel
  by_cases hlt:j < ix.length
  ·obtain ⟨b,off,rfl,-,hc0⟩:=hI'.at_ j hlt
   obtain ⟨hr0,hr1⟩:=hx ix[j] (List.getElem_mem _)
   have hxl:ix[j].toNat < l.length:=by omega
   obtain ⟨b2,off2,rfl,-,hd0⟩:=hI.at_ ix[j].toNat hxl
   have hc:=hK.cell (by simp) hc0
   have hd:=hK.cell (by simp) hd0
   have hsz:=hK.size
   have hlj:(PM.comp (ix.take j) l).length + 1<=1073741824:=by rw [PM.Zan,List.length_take];omega
   have e1:PM.at_ l ix[j] = l[ix[j].toNat]:=by
    have:=PM.at_nat l ix[j].toNat hxl
    rwa [show ((ix[j].toNat:Nat):Int) = ix[j] by omega] at this
   have hst:PM.comp (ix.take (j + 1)) l = PM.comp (ix.take j) l ++ [l[ix[j].toNat]]:=by
    rw [Zac ix j hlt]
    simp only [PM.comp,List.map_append,List.map_cons,List.map_nil,e1]
   have Hst:=zH hst
   have hI9:=hI.wf l[ix[j].toNat] (List.getElem_mem hxl)
   have HI:=zH hI9
   clear hc0 hd0 hst e1 hI9
   go_wp2_with ((at_builtin;refine Zbf rfl _ _ 25 rfl w.heap.size 2 i0 _ 8 Tryz.underlying25 hi hz0 hz1 hz2 rfl (by decide) (by decide) wr _ (PM.comp (ix.take j) l) fs rfl hA hF (zO.alloc _) hsz wr.heap.size 1 [.int .i64 l[ix[j].toNat]] l[ix[j].toNat] [] rfl (lit_src wr [.int .i64 l[ix[j].toNat]] _ rfl) (by intro u hu;simp at hu;subst hu;rfl) (int_rd _ HI.out) (Fresh.nil _ _) hlj w (hK.alloc _) (Nat.le_refl _) ?_;intro v3 w3 hA3 hF3 hK3 _))
   go_roundw
   case rel=>exact ⟨j + 1,_,by omega,by go_num,by rw [Hst.out];exact hA3,hF3,hK3⟩
   case measure=>simp [intOf];omega
  ·have hjl:j = ix.length:=by omega
   rw [hjl,List.take_length] at hA
   have HA:=zH hA
   clear hjl hA
   go_wp2
   go_ret
   exact ⟨_,_,rfl,HA.out.rd (by decide),HA.out.fresh hF,hK⟩
structure Claim where
 kind:Int
 value:Int
structure Certificate where
 kind:Int
 numbers:List Int
 words:List (List Int)
 tables:List Table
instance:Rp Certificate where
 size:=4
 rep w cs x fp:=∃ v1 v2 v3 f1 f2 f3,cs = [Value.int .i64 x.kind] ++ [v1] ++ [v2] ++ [v3]/\fp = f1 ++ (f2 ++ f3)/\I64 x.kind/\Rd w v1 x.numbers f1/\Rd w v2 x.words f2/\Rd w v3 x.tables f3
 len h:=by
  obtain ⟨v1,v2,v3,f1,f2,f3,rfl,-,p0,h1,h2,h3⟩:=h
  rfl
 frame h hf:=by
  obtain ⟨v1,v2,v3,f1,f2,f3,hcs,rfl,p0,h1,h2,h3⟩:=h
  exact ⟨v1,v2,v3,f1,f2,f3,hcs,rfl,p0,Rp.frame h1 fun b hb=>hf b (by simp [hb]),Rp.frame h2 fun b hb=>hf b (by simp [hb]),Rp.frame h3 fun b hb=>hf b (by simp [hb])⟩
 lt h:=by
  obtain ⟨v1,v2,v3,f1,f2,f3,hcs,rfl,p0,h1,h2,h3⟩:=h
  intro b hb
  simp only [List.mem_append] at hb
  rcases hb with hb | hb | hb
  ·exact Rp.lt h1 b hb
  ·exact Rp.lt h2 b hb
  ·exact Rp.lt h3 b hb
instance:Mk Certificate where
 mark k x:=⟨x.kind,Mk.mark (k) x.numbers,Mk.mark (k + (Mk.cnt x.numbers:Nat)) x.words,Mk.mark (k + (Mk.cnt x.numbers:Nat) + (Mk.cnt x.words:Nat)) x.tables⟩
 cnt x:=Mk.cnt x.numbers + Mk.cnt x.words + Mk.cnt x.tables
instance:Sz Certificate where
 sz x:=Sz.sz x.numbers + Sz.sz x.words + Sz.sz x.tables
instance:Sm Certificate where
 sm x:=Sm.sm x.numbers/\Sm.sm x.words/\Sm.sm x.tables
instance:SzSm Certificate:=⟨fun x h=>by
 have h':Sz.sz x.numbers + Sz.sz x.words + Sz.sz x.tables<=2097152:=h
 exact ⟨SzSm.of_ _ (by omega),SzSm.of_ _ (by omega),SzSm.of_ _ (by omega)⟩⟩
instance:CntSz Certificate:=⟨fun x=>by
 have h':Mk.cnt x.numbers + Mk.cnt x.words + Mk.cnt x.tables<=Sz.sz x.numbers + Sz.sz x.words + Sz.sz x.tables:=by have:=CntSz.le x.numbers;have:=CntSz.le x.words;have:=CntSz.le x.tables;omega
 exact h'⟩
instance:MkL Certificate:=⟨fun k x=>by simp [Mk.mark,Mk.cnt,Zfj,Zdg],fun k x=>by simp [Mk.mark,Mk.cnt,Zdg]⟩
theorem tkU {P:Program} {ops:Array Oper} {Q:Exit->Act->World->Prop} {md:Region.Mode} {S:World->Prop} {oi:Oper} {fuel:Nat} {listed:Array Bool} {a:Act} {w:World} (i:Nat) (h:wpAnyH P md ops Q S fuel (listed.setIfInBounds i true) (a.put oi.dst undef) w) (hi:ops[i]? = some oi:=by rfl)
  (hs:Region.noSelect ops = true:=by kernel_rfl) (hf:Region.free md ops listed i = true:=by kernel_rfl) (hr:(Region.ready md ops listed).contains i = true:=by kernel_rfl) (hQ:∀ c a w,Q (.panic c) (a.put oi.dst undef) w->Q (.panic c) a w:=by exact fun _ _ _ h=>h)
  (hy:Region.wanted oi (yielded ops a.tmps) = false:=by rfl) (hS:S w:=by assumption):wpAnyH P md ops Q S (fuel + 1) listed a w:=wpAnyH_take hi hs hf hr hQ (.inr ⟨hy,rfl⟩) hS h
theorem tkV {P:Program} {ops:Array Oper} {Q:Exit->Act->World->Prop} {md:Region.Mode} {S:World->Prop} {oi:Oper} {v:Value} {fuel:Nat} {listed:Array Bool} {a:Act} {w:World} (i:Nat) (hy:∀ w,S w->(execOp a.eval oi).run P w = .ok (.value v) w) (h:wpAnyH P md ops Q S fuel (listed.setIfInBounds i true) (a.put oi.dst v) w) (hi:ops[i]? = some oi:=by rfl)
  (hs:Region.noSelect ops = true:=by kernel_rfl) (hf:Region.free md ops listed i = true:=by kernel_rfl) (hr:(Region.ready md ops listed).contains i = true:=by kernel_rfl) (hQ:∀ c a w,Q (.panic c) (a.put oi.dst v) w->Q (.panic c) a w:=by exact fun _ _ _ h=>h)
  (hw:Region.wanted oi (yielded ops a.tmps) = true:=by rfl) (hS:S w:=by assumption):wpAnyH P md ops Q S (fuel + 1) listed a w:=wpAnyH_take hi hs hf hr hQ (.inl ⟨hw,hy⟩) hS h
theorem only_eq {w w':World} (h:w' = w):Only [] w w':=h ▸ Only.refl _ _
theorem aT {α:Type} {l:List α} {i:Nat} (h:i < l.toArray.size):l.toArray[i] = l[i]'(by simpa using h):=by simp
theorem aZ {α:Type} {a:α} {l:List α} (h:0 < (a :: l).length):(a :: l)[0] = a:=rfl
theorem aS {α:Type} {a:α} {l:List α} {i:Nat} (h:i + 1 < (a :: l).length):(a :: l)[i + 1] = l[i]'(by simpa using h):=rfl
theorem sB {α:Type} {l:List α} {i:Nat} {a:α}:l.toArray.setIfInBounds i a = (l.set i a).toArray:=by simp
theorem sZ {α:Type} {a b:α} {l:List α}:(a :: l).set 0 b = b :: l:=rfl
theorem sS {α:Type} {a b:α} {l:List α} {i:Nat}:(a :: l).set (i + 1) b = a :: l.set i b:=rfl
def solCert (l:List Int):Certificate:=if validW 8 l then ⟨1,[],[l],[]⟩ else ⟨0,[],[],[]⟩
def noCert:Certificate:=⟨0,[],[],[]⟩
theorem Zbl (w:World):Rp.rep w [.int .i64 0,.slice none 0 0,.slice none 0 0,.slice none 0 0] noCert []:=
 ⟨_,_,_,[],[],[],rfl,rfl,⟨by simp [noCert],by simp [noCert]⟩,nil_rd w,nil_rd w,nil_rd w⟩
set_option maxHeartbeats 400000 in
theorem Zgy (v:Value) (l:List Int) (fp:List Nat) (w:World) (h:Rd w v l fp) :
  Calls Tryz.prog 33 #[v] w fun e w'=>∃ cs fp',e = .returned (.agg cs.toArray)/\Rp.rep w' cs (solCert l) fp'/\Fresh w.heap.size w' fp'/\Only [] w w':=by
 rcases hq:validW 8 l
 ·have hp:solCert l = noCert:=by unfold solCert;rw [if_neg (by simp [hq])];rfl
  have Hp:=zH hp
  clear hp
  go_enter Tryz.func33,Tryz.ntmps33
  go_wp2_with ((go_at_call 62;(with_reducible refine (Zfa v l _ _ (zK h zA)).mono ?_);rintro e w1 ⟨rfl,n1,rfl⟩))
  refine bodyPost_ret (v:=.agg #[.int .i64 0,.slice none 0 0,.slice none 0 0,.slice none 0 0]) (by simp [results,Tryz.results33,go_sem]) rfl ⟨[.int .i64 0,.slice none 0 0,.slice none 0 0,.slice none 0 0],[],rfl,?_,Fresh.nil _ _,zA⟩
  rw [Hp.out];exact Zbl _
 ·have hp:solCert l = ⟨1,[],[l],[]⟩:=by unfold solCert;rw [if_pos hq]
  have Hp:=zH hp
  have hlen:=Zfg hq
  clear hp
  go_enter Tryz.func33,Tryz.ntmps33
  go_wp2_with (first
   | (go_at_call 62;(with_reducible refine (Zfa v l _ _ (zK h zA)).mono ?_);rintro e w1 ⟨rfl,n1,rfl⟩)
   | (go_at_call 63;(with_reducible refine (Zeq v l _ _ (zK h zA) (by omega)).mono ?_);rintro e w2 ⟨v2,fp2,rfl,r2,F2,t2⟩;obtain ⟨A2,C2,_,_,rfl,-⟩:=r2.open_;have y2:=t2.cells_eq w.heap.size (by simp) (by simp);have z2:=t2.frozen_eq w.heap.size (by simp) (by simp);have s2:w.heap.size < w2.heap.size:=(by have:=t2.size;simp at this;omega)))
  have T2:=t2.size
  simp at T2
  have hR:=Rp.only (fp':=[w.heap.size]) (w':=(((w2.setCell ⟨w.heap.size,0,none⟩ (.int .i64 1)).setCell ⟨w.heap.size,1,none⟩ (.slice none 0 0)).setCell ⟨w.heap.size,2,none⟩ (.slice (some ⟨w2.heap.size,0,none⟩) 1 1)).setCell ⟨w.heap.size,3,none⟩ (.slice none 0 0)) r2 zB (fun b hb hm=>by have:=F2.ge b hb;simp at hm this;omega)
  have hF:=F2.only (fp':=[w.heap.size]) (w':=(((w2.setCell ⟨w.heap.size,0,none⟩ (.int .i64 1)).setCell ⟨w.heap.size,1,none⟩ (.slice none 0 0)).setCell ⟨w.heap.size,2,none⟩ (.slice (some ⟨w2.heap.size,0,none⟩) 1 1)).setCell ⟨w.heap.size,3,none⟩ (.slice none 0 0)) zB (fun b hb hm=>by have:=F2.ge b hb;simp at hm this;omega)
  obtain ⟨o1,o2⟩:=one_rd hR 25 w.heap.size (hF.mono (by simp)) (g:=w2.heap.size) (by simp [World.setCell]) (by omega)
  refine bodyPost_ret (v:=.agg #[.int .i64 1,.slice none 0 0,.slice (some ⟨w2.heap.size,0,none⟩) 1 1,.slice none 0 0]) (by simp [results,Tryz.results33,go_sem,y2,s2]) rfl ⟨[.int .i64 1,.slice none 0 0,.slice (some ⟨w2.heap.size,0,none⟩) 1 1,.slice none 0 0],_,rfl,?_,o2,zA⟩
  rw [Hp.out]
  exact ⟨_,_,_,[],_,[],rfl,(by simp),⟨by simp,by simp⟩,nil_rd _,o1,nil_rd _⟩
set_option maxHeartbeats 400000 in
theorem Zmb (v:Value) (l:List Int) (fp:List Nat) (w:World) (h:Rd w v l fp) :
  Calls Tryz.prog 57 #[v] w fun e w'=>∃ cs fp',e = .returned (.agg cs.toArray)/\Rp.rep w' cs (solCert l) fp'/\Fresh w.heap.size w' fp'/\Only [] w w':=by
 rcases hq:validW 8 l
 ·have hp:solCert l = noCert:=by unfold solCert;rw [if_neg (by simp [hq])];rfl
  have Hp:=zH hp
  clear hp
  go_enter Tryz.func57,Tryz.ntmps57
  go_wp2_with ((go_at_call 103;(with_reducible refine (Zib v l _ _ (zK h zA)).mono ?_);rintro e w1 ⟨rfl,t1⟩;have y1:=t1.cells_eq w.heap.size (by simp) (by simp);have z1:=t1.frozen_eq w.heap.size (by simp) (by simp);have s1:w.heap.size < w1.heap.size:=(by have:=t1.size;simp at this;omega)))
  refine bodyPost_ret (v:=.agg #[.int .i64 0,.slice none 0 0,.slice none 0 0,.slice none 0 0]) (by simp [results,Tryz.results57,go_sem,y1]) rfl ⟨[.int .i64 0,.slice none 0 0,.slice none 0 0,.slice none 0 0],[],rfl,?_,Fresh.nil _ _,zA⟩
  rw [Hp.out];exact Zbl _
 ·have hp:solCert l = ⟨1,[],[l],[]⟩:=by unfold solCert;rw [if_pos hq]
  have Hp:=zH hp
  have hlen:=Zfg hq
  clear hp
  go_enter Tryz.func57,Tryz.ntmps57
  go_wp2_with (first
   | (go_at_call 103;(with_reducible refine (Zib v l _ _ (zK h zA)).mono ?_);rintro e w1 ⟨rfl,t1⟩;have y1:=t1.cells_eq w.heap.size (by simp) (by simp);have z1:=t1.frozen_eq w.heap.size (by simp) (by simp);have s1:w.heap.size < w1.heap.size:=(by have:=t1.size;simp at this;omega))
   | (go_at_call 105;(with_reducible refine (Zpc v l _ _ (zK h zA) (by omega)).mono ?_);rintro e w2 ⟨v2,fp2,rfl,r2,F2,t2⟩;obtain ⟨A2,C2,_,_,rfl,-⟩:=r2.open_;have y2:=t2.cells_eq w.heap.size s1 (by simp);have z2:=t2.frozen_eq w.heap.size s1 (by simp);have s2:w.heap.size < w2.heap.size:=(by have:=t2.size;omega)))
  have T2:=t2.size
  have hR:=Rp.only (fp':=[w.heap.size]) (w':=(((w2.setCell ⟨w.heap.size,0,none⟩ (.int .i64 1)).setCell ⟨w.heap.size,1,none⟩ (.slice none 0 0)).setCell ⟨w.heap.size,2,none⟩ (.slice (some ⟨w2.heap.size,0,none⟩) 1 1)).setCell ⟨w.heap.size,3,none⟩ (.slice none 0 0)) r2 zB (fun b hb hm=>by have:=F2.ge b hb;simp at hm;omega)
  have hF:=F2.only (fp':=[w.heap.size]) (w':=(((w2.setCell ⟨w.heap.size,0,none⟩ (.int .i64 1)).setCell ⟨w.heap.size,1,none⟩ (.slice none 0 0)).setCell ⟨w.heap.size,2,none⟩ (.slice (some ⟨w2.heap.size,0,none⟩) 1 1)).setCell ⟨w.heap.size,3,none⟩ (.slice none 0 0)) zB (fun b hb hm=>by have:=F2.ge b hb;simp at hm;omega)
  obtain ⟨o1,o2⟩:=one_rd hR 25 w.heap.size (hF.mono (by omega)) (g:=w2.heap.size) (by simp [World.setCell]) (by omega)
  refine bodyPost_ret (v:=.agg #[.int .i64 1,.slice none 0 0,.slice (some ⟨w2.heap.size,0,none⟩) 1 1,.slice none 0 0]) (by simp [results,Tryz.results57,go_sem,y1,y2,s2]) rfl ⟨[.int .i64 1,.slice none 0 0,.slice (some ⟨w2.heap.size,0,none⟩) 1 1,.slice none 0 0],_,rfl,?_,o2,zA⟩
  rw [Hp.out]
  exact ⟨_,_,_,[],_,[],rfl,(by simp),⟨by simp,by simp⟩,nil_rd _,o1,nil_rd _⟩
theorem Ztm {n:Int} {k:Nat} {l:List Int} (h:patB n k l = true):∀ y∈l,0<=y/\y < n:=(Zaq.1 h).2.1
theorem Zku {α β:Type} (f:β->α->β) (b:β) (l:List α) (j:Nat) (h:j < l.length):(l.take (j + 1)).foldl f b = f ((l.take j).foldl f b) l[j]:=by
 rw [Zac l j h,List.foldl_append];rfl
theorem Znk {x:Puzzle} {k:Nat} (hv:validPz x = true):∀ (wl:List Int) (l:List Int),patB x.points k l = true->(∀ a∈wl,a∈ltrs x.moves.length)->patB x.points k (wl.foldl (nxt x) l) = true
 | [],l,h,_=>h
 | a :: wl,l,h,hw=>Znk hv wl _ (nxt_pat hv h (hw a (by simp))) fun b hb=>hw b (by simp [hb])
set_option maxHeartbeats 2000000 in
theorem Zfx (cs:List Value) (x:Puzzle) (fp:List Nat) (v u:Value) (l wl:List Int) (f2 f3:List Nat) (k:Nat) (w:World) (h:Rp.rep w cs x fp) (h2:Rd w v l f2) (h3:Rd w u wl f3)
  (hv:validPz x = true) (hl:∀ a∈wl,a∈ltrs x.moves.length) (hx:patB x.points k l = true) (hk:k<=1000) (hwl:wl.length<=1000000) :
  Calls Tryz.prog 76 #[.agg cs.toArray,v,u] w fun e w'=>∃ v fp',e = .returned v/\Rd w' v (wl.foldl (nxt x) l) fp'/\Fresh w.heap.size w' fp'/\Only [] w w':=by
 have h0:=h
 obtain ⟨v2,rfl,p0,p1,hm⟩:=h
 obtain ⟨A3,C3,rfl,I3⟩:=h3.ints
 have hlk:=(Zaq.1 hx).1
 have Hlk:=zH hlk;clear hlk
 have hB:=Blk.new_at (w:=w) (cs:=[.int .i64 x.points,.string x.names,v2]) (t:=33) rfl
 go_enter Tryz.func76,Tryz.ntmps76
 go_wp2_with ((go_at_call 63;(with_reducible refine (Zeq v l _ _ (zK h2 zA) (by have:=Hlk.out;omega)).mono ?_);rintro e w1 ⟨u1,f1,rfl,r1,F1,t1⟩))
 have hB1:=hB.keep t1
 have hKw:Only [] w w1:=zA
 have F1':=F1.mono (B':=w.heap.size) (by simp)
 clear hB F1
 go_loopw [7,8] (fun o i wr=>∃ (j:Nat) (fo:List Nat),j<=wl.length/\i = .int .i64 j/\Rd wr o ((wl.take j).foldl (nxt x) l) fo/\Fresh w.heap.size wr fo/\Only [] w1 wr)
  (fun _ i _=>wl.length - (intOf i).toNat)
 case atStart=>exact ⟨0,_,Nat.zero_le _,rfl,r1,F1',Only.refl _ _⟩
 case round=>
  obtain ⟨j,fo,hj,rfl,hr,hF,hK⟩:=hrel
  have y0:=(hB1.keep hK).cell 0 rfl
  have y1:=(hB1.keep hK).cell 1 rfl
  have y2:=(hB1.keep hK).cell 2 rfl
  have hKz:Only [] w wr:=hKw.trans hK
  by_cases hlt:j < wl.length
  ·obtain ⟨b,off,rfl,-,hc0⟩:=I3.at_ j hlt
   have hc:=hKz.cell (by simp) hc0
   have hp:=Znk (k:=k) hv (wl.take j) l hx (fun a ha=>hl a (List.mem_of_mem_take ha))
   have hla:=hl wl[j] (List.getElem_mem _)
   have Hlen:=zH (Zaq.1 hp).1
   have hs:=Zku (nxt x) l wl j hlt
   have Hs:=zH hs
   generalize hcur:(wl.take j).foldl (nxt x) l = cur at *
   have Hcur:=zH hcur
   clear hcur hs hc0
   go_wp2
   go_region_held3 (fun w'=>Only [] wr w'/\w'.cell? ⟨w.heap.size,0,none⟩ = some (.int .i64 x.points)/\w'.cell? ⟨w.heap.size,1,none⟩ = some (.string x.names)/\w'.cell? ⟨w.heap.size,2,none⟩ = some (v2)/\w'.cell? ⟨b,off + j,none⟩ = some (.int .i64 wl[j])) (((refine and_of ?_ (fun q_=>⟨q_.ce y0,q_.ce y1,q_.ce y2,q_.ce hc⟩));first | exact zO.drew | exact (zO.drewN _).drew | exact Only.trans (And.left (by assumption)) (by assumption) | exact Only.alloc (And.left (by assumption)) _ | assumption)) (first | (go_at_call 128;(with_reducible refine (Zbj [.int .i64 x.points,.string x.names,v2] x _ _ cur _ wl[j] _ (zK h0 (hKz.trans (And.left (by assumption)))) (zK hr (And.left (by assumption))) hv hla (Ztm hp) (by have:=Hlen.out;omega)).mono ?_);rintro e w4 ⟨u4,f4,rfl,r4,F4,t4⟩;have F4':=F4.mono (hKz.trans (And.left (by assumption))).size) | fail)
   go_wp2
   go_roundw
   case rel=>exact ⟨j + 1,_,by omega,by go_num,by rw [Hs.out];exact r4,F4',zA⟩
   case measure=>simp [intOf];omega
  ·have hjl:j = wl.length:=by omega
   rw [hjl,List.take_length] at hr
   have HR:=zH hr
   clear hjl hr
   go_wp2
   go_ret
   exact ⟨_,_,rfl,HR.out,hF,zA⟩
def wCert (o:Option (List Int)):Certificate:=match o with
 | some w=>solCert w
 | none=>noCert
def wLen (o:Option (List Int)):Int:=match o with
 | some w=>w.length
 | none=>-1
noncomputable def cmpX (x:Puzzle) (sub:List Int) (goals:List (List Int)) (s:List Int):List Int:=
 if stateB x s = true then [wLen (optX x s),wLen (twC x sub s),wLen (mthC x goals s)] else []
theorem Ztl (x:Puzzle) (sub:List Int) (goals:List (List Int)) (s:List Int):(cmpX x sub goals s).length<=3:=by
 unfold cmpX
 split <;> simp
theorem Znf {x:Puzzle} {goals:List (List Int)} {s:List Int} (h:expl x = none):mthX x goals s = none:=by unfold mthX;rw [h]
theorem mthX_no {x:Puzzle} {goals:List (List Int)} {s:List Int} (h:(reachB x s && methB x goals) = false):mthX x goals s = none:=by
 unfold mthX
 cases expl x with
 | none=>rfl
 | some t=>simp only;rw [if_neg (by rw [h];simp)]
theorem Zqe {x:Puzzle} {t:Table} {goals:List (List Int)} {s:List Int} (he:expl x = some t) (h1:reachB x s = true) (h2:methB x goals = true):mthX x goals s = mthW x t goals s:=by
 unfold mthX
 rw [he]
 simp only
 rw [if_pos (by rw [h1,h2];rfl)]
def StW (x:Puzzle) (t:Table) (goals:List (List Int)) (s:List Int) (j i:Nat) (ws:List (List Int)):Prop:=mthW x t goals s = (mthW x t (goals.drop j) (t.patterns.getD i [])).map (ws ++ ·)
theorem StW.start {x:Puzzle} {t:Table} {goals:List (List Int)} {s:List Int} {i:Nat} (h:t.patterns.getD i [] = s):StW x t goals s 0 i []:=by
 unfold StW
 rw [h,List.drop_zero]
 cases mthW x t goals s <;> rfl
theorem StW.far {x:Puzzle} {t:Table} {goals:List (List Int)} {s:List Int} {j i:Nat} {ws:List (List Int)} (h:StW x t goals s j i ws) (hj:j < goals.length) (hN:200 < mN x t goals[j] (t.patterns.getD i [])):mthW x t goals s = none:=by
 unfold StW at h
 rw [h,List.drop_eq_getElem_cons hj]
 unfold mthW
 rw [if_pos hN];rfl
theorem StW.next {x:Puzzle} {t:Table} {goals:List (List Int)} {s:List Int} {j i i':Nat} {ws:List (List Int)} (h:StW x t goals s j i ws) (hj:j < goals.length) (hN:mN x t goals[j] (t.patterns.getD i [])<=200) (hi:t.patterns.getD i' [] = wEnd x (t.patterns.getD i []) (mW1 x t goals[j] (t.patterns.getD i []))):StW x t goals s (j + 1) i' (ws ++ [mW1 x t goals[j] (t.patterns.getD i [])]):=by
 unfold StW at h ⊢
 rw [h,List.drop_eq_getElem_cons hj]
 conv=>lhs;unfold mthW
 rw [if_neg (by omega),hi]
 cases mthW x t (List.drop (j + 1) goals) _ with
 | none=>rfl
 | some r=>simp
theorem StW.end_ {x:Puzzle} {t:Table} {goals:List (List Int)} {s:List Int} {i:Nat} {ws:List (List Int)} (h:StW x t goals s goals.length i ws):mthW x t goals s = some ws:=by
 unfold StW at h
 rw [h,List.drop_length]
 simp [mthW]
set_option maxHeartbeats 4000000 in
theorem Zdj (cs:List Value) (x:Puzzle) (fp:List Nat) (v:Value) (goals:List (List Int)) (fg:List Nat) (u:Value) (s:List Int) (fs0:List Nat) (w:World) (h:Rp.rep w cs x fp) (hg:Rd w v goals fg) (hs:Rd w u s fs0) :
  Calls Tryz.prog 34 #[.agg cs.toArray,v,u] w fun e w'=>∃ z fz,e = .returned (.tuple #[z,.bool (mthX x goals s).isSome])/\Rd w' z ((mthX x goals s).getD []) fz/\Fresh w.heap.size w' fz/\Only [] w w':=by
 have h0:=h
 obtain ⟨v2,rfl,p0,p1,h2⟩:=h
 clear p0 p1 h2
 rcases he:expl x with _ | t
 ·have Hn:=zH (Znf (goals:=goals) (s:=s) he)
  have He:=zH he
  clear he
  go_enter Tryz.func34,Tryz.ntmps34
  go_wp2_with (first
   | (go_at_call 64;(with_reducible refine (Zfc [.int .i64 x.points,.string x.names,v2] x _ u _ (zK h0 zA) He.out).mono ?_);rintro e w1 ⟨rfl,t1⟩)
   | fail)
  exact bodyPost_ret (v:=.tuple #[.slice none 0 0,.bool false]) (by simp [results,Tryz.results34,go_sem]) rfl ⟨.slice none 0 0,[],by rw [Hn.out];rfl,by rw [Hn.out];exact nil_rd _,Fresh.nil _ _,zA⟩
 rcases hr:reachB x s
 ·have Hn:=zH (mthX_no (x:=x) (goals:=goals) (s:=s) (by rw [hr];rfl))
  have hm:s ∉ t.patterns:=fun hm=>by rw [(Zak he).1 hm] at hr;cases hr
  have He:=zH he
  have Hm:=zH hm
  clear he hr hm
  go_enter Tryz.func34,Tryz.ntmps34
  go_wp2_with (first
   | (go_at_call 64;(with_reducible refine (Zgl [.int .i64 x.points,.string x.names,v2] x t _ u s _ _ (zK h0 zA) (zK hs zA) He.out Hm.out).mono ?_);rintro e w1 ⟨z,rfl,t1⟩)
   | fail)
  exact bodyPost_ret (v:=.tuple #[.slice none 0 0,.bool false]) (by simp [results,Tryz.results34,go_sem]) rfl ⟨.slice none 0 0,[],by rw [Hn.out];rfl,by rw [Hn.out];exact nil_rd _,Fresh.nil _ _,zA⟩
 obtain ⟨i0,hi0,hp0⟩:=List.getElem_of_mem ((Zak he).2 hr)
 have e1:t.patterns.getD i0 [] = s:=by rw [Zab hi0,hp0]
 have He:=zH he
 have E1:=zH e1
 have X0:Blk (w.alloc (.cells #[.int .i64 x.points,.string x.names,v2] 33)) w.heap.size [.int .i64 x.points,.string x.names,v2]:=Blk.new w [.int .i64 x.points,.string x.names,v2] 33
 rcases hm:methB x goals
 ·have Hn:=zH (mthX_no (x:=x) (goals:=goals) (s:=s) (by rw [hm];simp))
  have Hm:=zH hm
  clear he hr hm hp0 e1
  go_enter Tryz.func34,Tryz.ntmps34
  go_wp2_with (first
   | (go_at_call 64;(with_reducible refine (Zcc [.int .i64 x.points,.string x.names,v2] x t _ u s _ i0 _ (zK h0 zA) (zK hs zA) He.out hi0 E1.out).mono ?_);rintro e w1 ⟨z,rfl,hX,t1⟩;have X1:=X0.keep t1;obtain ⟨x0,x1,x2⟩:=X1.c3)
   | (go_at_call 65;(with_reducible refine (Zfy [.int .i64 x.points,.string x.names,v2] x _ _ goals _ _ (zK h0 zA) (zK hg zA)).mono ?_);rintro e w2 ⟨he,t2⟩;rw [Hm.out] at he;subst he)
   | fail)
  exact bodyPost_ret (v:=.tuple #[.slice none 0 0,.bool false]) (by simp [results,Tryz.results34,go_sem]) rfl ⟨.slice none 0 0,[],by rw [Hn.out];rfl,by rw [Hn.out];exact nil_rd _,Fresh.nil _ _,zA⟩
 have Hn:=zH (Zqe he hr hm)
 have Hm:=zH hm
 obtain ⟨-,m2,m3,-,-⟩:=Zch hm
 have hg0:=hg
 obtain ⟨a,cap,ob,fps,rfl,-,S⟩:=hg.open_
 have hb:=S.bound
 obtain ⟨iI,hiI,hzI0,hzI1,hzI2⟩:=info_parts Tryz.info22
 have M3:=zH m3
 clear hr hm hp0 e1 m3
 go_enter Tryz.func34,Tryz.ntmps34
 go_upto_region 6 with (first
  | (go_at_call 64;(with_reducible refine (Zcc [.int .i64 x.points,.string x.names,v2] x t _ u s _ i0 _ (zK h0 zA) (zK hs zA) He.out hi0 E1.out).mono ?_);rintro e w1 ⟨z,rfl,hX,t1⟩;have X1:=X0.keep t1;obtain ⟨x0,x1,x2⟩:=X1.c3)
  | (go_at_call 65;(with_reducible refine (Zfy [.int .i64 x.points,.string x.names,v2] x _ _ goals _ _ (zK h0 zA) (zK hg0 zA)).mono ?_);rintro e w2 ⟨he,t2⟩;rw [Hm.out] at he;subst he)
  | fail)
 have K2:Only [] w w2:=zA
 have HX:=zH (hX.keep t2)
 clear x0 x1 x2 X1 t1 t2 hX X0 he
 go_loopw [9,11,34] (fun iv o c wr=>∃ (j i:Nat) (ws:List (List Int)) (fs:List (List Nat)),j<=goals.length/\c = .int .i64 j/\iv = .int .i64 i/\i < t.patterns.length/\StW x t goals s j i ws/\ws.length = j/\Acc w2.heap.size 25 wr o ws fs/\Fresh w2.heap.size wr fs.flatten/\Only [] w2 wr)
  (fun _ _ c _=>goals.length - (intOf c).toNat)
 case atStart=>exact ⟨0,i0,[],[],Nat.zero_le _,rfl,rfl,hi0,StW.start E1.out,rfl,Acc.nil _ _ _,Fresh.nil _ _,Only.refl _ _⟩
 case round=>
  obtain ⟨W3,hnew⟩:∃ W,W = wr:=⟨_,rfl⟩
  subst hnew
  obtain ⟨j,i,ws,fs,hj,rfl,rfl,hil,hst,hwl,hA,hF,hK⟩:=hrel
  have kW:=K2.trans hK
  have Hst:=zH hst
  have HA:=zH hA
  have Hwl:=zH hwl
  by_cases hlt:j < goals.length
  ·obtain ⟨b,off,ug,rfl,-,hc,hu⟩:=S.atRow j hlt
   have hcw:=kW.cell (by simp) hc
   have ht:=M3.out goals[j] (List.getElem_mem hlt)
   obtain ⟨sf1,-,-⟩:=Zbt He.out ht hil
   have hug:Rd W3 ug goals[j] _:=zK hu kW
   obtain ⟨ag,cg,rfl,Ig⟩:=hug.ints
   have hXw:=HX.out.keep hK
   have hfn:=StW.far hst hlt
   have hnx:=fun i'=>StW.next (i':=i') hst hlt
   obtain ⟨goal,hgl⟩:∃ goal,goal = goals[j]:=⟨_,rfl⟩
   rw [<- hgl] at hcw ht sf1 Ig hfn hnx
   have hsrc:=Zfp He.out ht
   have hlD:(mD x t (gS goal)).length = t.patterns.length:=(mD_F (Zad He.out).1).dl
   have Hgd:∀ W,Only [] W3 W->Calls Tryz.prog 67 #[z,.slice ag goal.length cg] W fun e w'=>∃ u,e = .returned u/\AccI W.heap.size 2 w' u (mD x t (gS goal))/\Only [] W w':=fun W hW=>Ziw x t z _ goal _ W (hXw.keep hW) He.out (Ig.keep hW).rd ht
   have Hgd':=zH Hgd
   by_cases hfar:200 < mN x t goal (t.patterns.getD i [])
   ·have Hfin:=zH (Hn.out.trans (hfn hfar))
    have Hd:∀ W u3 B,Only [] W3 W->AccI B 2 W u3 (mD x t (gS goal))->Calls Tryz.prog 66 #[z,u3,.int .i64 i] W fun e w'=>e = .returned (.tuple #[.slice none 0 0,.int .i64 0,.bool false])/\Only [] W w':=fun W u3 B hW hA3=>Zjd z u3 _ _ i W hA3.rd (by omega) (by rw [sf1];omega)
    have Hd':=zH Hd
    obtain ⟨D,hD⟩:∃ D,D = mD x t (gS goal):=⟨_,rfl⟩
    rw [<- hD] at Hd' Hgd'
    clear hst hA hwl hc hu hug Ig hXw hsrc hlD hfar Hd Hgd sf1 hD ht hfn hnx hgl
    go_wp2_with (first
     | (go_at_call 67;(with_reducible refine (Hgd'.out _ zA).mono ?_);rintro e w5 ⟨u5,rfl,A5,t5⟩)
     | (go_at_call 66;(with_reducible refine (Hd'.out _ _ _ zA A5).mono ?_);rintro e w6 ⟨rfl,t6⟩)
     | fail)
    exact bodyPost_ret (v:=.tuple #[.slice none 0 0,.bool false]) (by simp [results,Tryz.results34,go_sem]) rfl ⟨.slice none 0 0,[],by rw [Hfin.out];rfl,by rw [Hfin.out];exact nil_rd _,Fresh.nil _ _,kW.trans zA⟩
   ·have hnx':=fun i'=>hnx i' (by omega)
    have hwd:mW1 x t goal (t.patterns.getD i []) = oW x (tD x t (gS goal)) (mN x t goal (t.patterns.getD i [])) (t.patterns.getD i []):=rfl
    have hwdl:(mW1 x t goal (t.patterns.getD i [])).length<=200:=by rw [mW1_len];omega
    obtain ⟨wd,hwe⟩:∃ wd,wd = mW1 x t goal (t.patterns.getD i []):=⟨_,rfl⟩
    rw [<- hwe] at hwd hwdl hnx'
    have Hd:∀ W u3 B,Only [] W3 W->AccI B 2 W u3 (mD x t (gS goal))->Calls Tryz.prog 66 #[z,u3,.int .i64 i] W fun e w'=>∃ (u:Value) (j':Nat),e = .returned (.tuple #[u,.int .i64 j',.bool true])/\AccI W.heap.size 2 w' u wd/\j' < t.patterns.length/\t.patterns.getD j' [] = wEnd x (t.patterns.getD i []) wd/\Only [] W w':=fun W u3 B hW hA3=>(Zje x t z u3 (gS goal) _ i _ W (hXw.keep hW) He.out hsrc hA3.rd hil sf1 (by omega)).mono (fun e w' hh=>by
     obtain ⟨u,j',h1,h2,h3,h4,-,h6⟩:=hh
     rw [<- hwd] at h2 h4
     exact ⟨u,j',h1,h2,h3,h4,h6⟩)
    have Hd':=zH Hd
    have Hnx:=zH hnx'
    obtain ⟨D,hD⟩:∃ D,D = mD x t (gS goal):=⟨_,rfl⟩
    rw [<- hD] at Hd' Hgd'
    have hszK:w2.heap.size<=W3.heap.size:=hK.size
    have hlw:ws.length + 1<=1073741824:=by omega
    clear hst hA hwl hc hu hug Ig hXw hsrc hlD hfar Hd Hgd sf1 hD ht hfn hnx hgl hnx' hwd hwe
    go_wp2_with (first
     | (go_at_call 67;(with_reducible refine (Hgd'.out _ zA).mono ?_);rintro e w5 ⟨u5,rfl,A5,t5⟩)
     | (go_at_call 66;(with_reducible refine (Hd'.out _ _ _ zA A5).mono ?_);rintro e w6 ⟨u6,i6,rfl,A6,hi6,hp6,t6⟩;obtain ⟨a6,c6,rfl⟩:=A6.form;have k6:Only [] W3 w6:=zA;have hsz5:=t5.size)
     | (at_builtin;refine Zbf rfl _ _ 22 rfl w2.heap.size 25 iI _ 24 Tryz.underlying22 hiI hzI0 hzI1 hzI2 rfl (by decide) (by decide) W3 _ ws fs rfl HA.out hF (k6.alloc _) hszK w6.heap.size 1 [.slice a6 wd.length c6] wd _ rfl (lit_src w6 [.slice a6 wd.length c6] _ rfl) (by intro u hu;simp at hu;subst hu;rfl) (zK A6.rd (zO.alloc _)) ((A6.fresh.mono hsz5).keep (zO.alloc _)) hlw w2 ((hK.trans k6).alloc _) (Nat.le_refl _) ?_;intro v7 w7 hA7 hF7 hK7 hO7)
     | fail)
    go_roundw
    case rel=>exact ⟨j + 1,i6,ws ++ [wd],_,by omega,by go_num,rfl,hi6,Hnx.out i6 hp6,by rw [List.length_append,Hwl.out];rfl,hA7,hF7,hK7⟩
    case measure=>simp [intOf];omega
  ·have hje:j = goals.length:=by omega
   have hst':=hst
   rw [hje] at hst'
   have Hfin:=zH (Hn.out.trans hst'.end_)
   have hjI:¬ (j:Int) < (goals.length:Int):=by omega
   clear hst hst' hA hwl hje
   go_wp2
   exact bodyPost_ret (v:=.tuple #[u11,.bool true]) (by simp [results,Tryz.results34,go_sem]) rfl ⟨u11,by rw [Hfin.out];rfl,u11.ownBlock.toList ++ fs.flatten,by rw [Hfin.out];exact HA.out.rd (by decide),(HA.out.fresh hF).mono K2.size,kW⟩
def shortW (w:List Int):Option (List Int):=if w.length<=200 then some w else none
theorem Zlb {w:List Int} (h:w.length<=200):shortW w = some w:=if_pos h
theorem Zna {w:List Int} (h:¬ w.length<=200):shortW w = none:=if_neg h
set_option maxHeartbeats 4000000 in
theorem Zhi (v:Value) (ws:List (List Int)) (fw:List Nat) (w:World) (h:Rd w v ws fw) (hsum:ws.flatten.length<=1000000) :
  Calls Tryz.prog 35 #[v] w fun e w'=>∃ cs' fp',e = .returned (.tuple #[.agg (List.toArray cs'),.bool (shortW ws.flatten).isSome])/\Rp.rep w' cs' (wCert (shortW ws.flatten)) fp'/\Fresh w.heap.size w' fp'/\Only [] w w':=by
 have Y0:Blk (w.alloc (.cells #[.int .i64 0,.slice none 0 0,.slice none 0 0,.slice none 0 0] 30)) w.heap.size [.int .i64 0,.slice none 0 0,.slice none 0 0,.slice none 0 0]:=Blk.new w [.int .i64 0,.slice none 0 0,.slice none 0 0,.slice none 0 0] 30
 obtain ⟨fl,hfl⟩:∃ fl,fl = ws.flatten:=⟨_,rfl⟩
 have Hc:=zH (fun (W:World) (hW:Only [] w W)=>Zrd v ws fw W (zK h hW) hsum)
 rw [<- hfl] at Hc hsum ⊢
 clear hfl
 by_cases hl:fl.length<=200
 ·have Hs:=zH (Zlb hl)
  have hl2:¬ ((200:Int) < (fl.length:Int)):=by omega
  clear hl
  go_enter Tryz.func35,Tryz.ntmps35
  go_wp2_with (first
   | (go_at_call 68;(with_reducible refine (Hc.out _ zA).mono ?_);rintro e w1 ⟨u1,rfl,A1,t1⟩;obtain ⟨a1,c1,rfl⟩:=A1.form;have Y1:=Y0.keep t1)
   | (go_at_call 57;(with_reducible refine (Zmb _ fl _ _ A1.rd).mono ?_);rintro e w4 ⟨cs4,f4,rfl,r4,F4,t4⟩;have rr:=id r4;obtain ⟨v1,v2,v3,e1,e2,e3,rfl,-,i1,s1,s2,s3⟩:=r4;simp only [List.cons_append,List.nil_append] at rr;obtain ⟨b1,k1,_,_,rfl,-,-⟩:=s1.open_;obtain ⟨b2,k2,_,_,rfl,-,-⟩:=s2.open_;obtain ⟨b3,k3,_,_,rfl,-,-⟩:=s3.open_;have Y9:=Y1.keep t4;obtain ⟨g0,g1,g2,g3⟩:=Y9.c4;obtain ⟨p0,p1,p2,p3⟩:=Y9.f4)
   | fail)
  have K4:Only [] w w4:=zA
  have hz1:=t1.size
  simp at hz1
  have hFg:∀ g∈f4,g ∉ [w.heap.size]:=fun g hg hm=>by have:=F4.ge g hg;simp at hm;omega
  have Yf:=(((Y9.set 0 (.int .i64 (solCert fl).kind)).set 1 (.slice b1 (solCert fl).numbers.length k1)).set 2 (.slice b2 (solCert fl).words.length k2)).set 3 (.slice b3 (solCert fl).tables.length k3)
  have kf:Only [w.heap.size] w4 ((((w4.setCell ⟨w.heap.size,0,none⟩ (.int .i64 (solCert fl).kind)).setCell ⟨w.heap.size,1,none⟩ (.slice b1 (solCert fl).numbers.length k1)).setCell ⟨w.heap.size,2,none⟩ (.slice b2 (solCert fl).words.length k2)).setCell ⟨w.heap.size,3,none⟩ (.slice b3 (solCert fl).tables.length k3)):=(((zO.setCell (by simp) _).setCell (by simp) _).setCell (by simp) _).setCell (by simp) _
  obtain ⟨wf,hwf⟩:∃ wf,wf = ((((w4.setCell ⟨w.heap.size,0,none⟩ (.int .i64 (solCert fl).kind)).setCell ⟨w.heap.size,1,none⟩ (.slice b1 (solCert fl).numbers.length k1)).setCell ⟨w.heap.size,2,none⟩ (.slice b2 (solCert fl).words.length k2)).setCell ⟨w.heap.size,3,none⟩ (.slice b3 (solCert fl).tables.length k3)):=⟨_,rfl⟩
  rw [<- hwf] at Yf kf ⊢
  simp only [List.set] at Yf
  clear hwf g0 g1 g2 g3 p0 p1 p2 p3
  obtain ⟨z0,z1,z2,z3⟩:=Yf.c4
  refine bodyPost_ret (v:=.tuple #[.agg #[.int .i64 (solCert fl).kind,.slice b1 (solCert fl).numbers.length k1,.slice b2 (solCert fl).words.length k2,.slice b3 (solCert fl).tables.length k3],.bool true]) (by simp [results,Tryz.results35,go_sem,z0,z1,z2,z3]) rfl ⟨[.int .i64 (solCert fl).kind,.slice b1 (solCert fl).numbers.length k1,.slice b2 (solCert fl).words.length k2,.slice b3 (solCert fl).tables.length k3],f4,by rw [Hs.out];rfl,by rw [Hs.out];exact Rp.only rr kf hFg,(F4.mono (by omega)).only kf hFg,K4.then_ kf (by simp)⟩
 ·have Hs:=zH (Zna hl)
  have hl2:(200:Int) < (fl.length:Int):=by omega
  clear hl
  go_enter Tryz.func35,Tryz.ntmps35
  go_wp2_with (first
   | (go_at_call 68;(with_reducible refine (Hc.out _ zA).mono ?_);rintro e w1 ⟨u1,rfl,A1,t1⟩;obtain ⟨a1,c1,rfl⟩:=A1.form;have Y9:=Y0.keep t1;obtain ⟨g0,g1,g2,g3⟩:=Y9.c4;obtain ⟨p0,p1,p2,p3⟩:=Y9.f4)
   | fail)
  have K2:Only [] w w1:=zA
  have Yf:=(((Y9.set 0 (.int .i64 0)).set 1 (.slice none 0 0)).set 2 (.slice none 0 0)).set 3 (.slice none 0 0)
  have kf:Only [w.heap.size] w1 ((((w1.setCell ⟨w.heap.size,0,none⟩ (.int .i64 0)).setCell ⟨w.heap.size,1,none⟩ (.slice none 0 0)).setCell ⟨w.heap.size,2,none⟩ (.slice none 0 0)).setCell ⟨w.heap.size,3,none⟩ (.slice none 0 0)):=(((zO.setCell (by simp) _).setCell (by simp) _).setCell (by simp) _).setCell (by simp) _
  obtain ⟨wf,hwf⟩:∃ wf,wf = ((((w1.setCell ⟨w.heap.size,0,none⟩ (.int .i64 0)).setCell ⟨w.heap.size,1,none⟩ (.slice none 0 0)).setCell ⟨w.heap.size,2,none⟩ (.slice none 0 0)).setCell ⟨w.heap.size,3,none⟩ (.slice none 0 0)):=⟨_,rfl⟩
  rw [<- hwf] at Yf kf ⊢
  simp only [List.set] at Yf
  clear hwf g0 g1 g2 g3 p0 p1 p2 p3
  obtain ⟨z0,z1,z2,z3⟩:=Yf.c4
  refine bodyPost_ret (v:=.tuple #[.agg #[.int .i64 0,.slice none 0 0,.slice none 0 0,.slice none 0 0],.bool false]) (by simp [results,Tryz.results35,go_sem,z0,z1,z2,z3]) rfl ⟨[.int .i64 0,.slice none 0 0,.slice none 0 0,.slice none 0 0],[],by rw [Hs.out];rfl,by rw [Hs.out];exact Zbl _,Fresh.nil _ _,K2.then_ kf (by simp)⟩
end Go.Proofs.YtclhblofchfglaaGreat
