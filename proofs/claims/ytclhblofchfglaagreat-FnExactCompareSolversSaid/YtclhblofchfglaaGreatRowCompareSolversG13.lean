/- The search of all states, step by step towards its end (laws 20, 38). -/
import Derived.Test.YtclhblofchfglaaGreatRowCompareSolversG9
import Derived.Test.YtclhblofchfglaaGreatRowCompareSolversG12
import Derived.Test.YtclhblofchfglaaGreatRowCompareSolversG8
import Derived.Deep.RegionHeld3
namespace Go.Proofs.YtclhblofchfglaaGreat
open Go.RowKit
set_option maxRecDepth 10000
theorem Zus {x:Puzzle} {t:Table} (he:expl x = some t):bFrom x 3001 0 ([PM.pts x.points.toNat],[0]) = some (t.patterns,t.distances):=by
 obtain ⟨hb,-⟩:=Zad he
 obtain ⟨-,-,-,h4,-⟩:=Zki he
 rwa [Zcn (by rw [hb.v,Zet hb.v];rfl)] at h4
theorem Zsl {s s':Met16} {d:Int} {y:List Int} (h:bMeet s d y = some s'):s.1 <+: s'.1/\s.2 <+: s'.2:=by
 unfold bMeet at h
 split at h
 ·injection h with h;subst h;exact ⟨List.prefix_rfl,List.prefix_rfl⟩
 ·split at h
  ·cases h
  ·injection h with h;subst h;exact ⟨List.prefix_append _ _,List.prefix_append _ _⟩
theorem Zip {x:Puzzle} {q:List Int} {d:Int}:∀ {ls:List Int} {s s':Met16},bLets x q d ls s = some s'->s.1 <+: s'.1/\s.2 <+: s'.2
 | [],s,s',h=>by unfold bLets at h;injection h with h;subst h;exact ⟨List.prefix_rfl,List.prefix_rfl⟩
 | l :: ls,s,s',h=>by
  unfold bLets at h
  rw [Option.bind_eq_some_iff] at h
  obtain ⟨s1,e1,e2⟩:=h
  have a:=Zsl e1
  have b:=Zip e2
  exact ⟨a.1.trans b.1,a.2.trans b.2⟩
theorem Zit {x:Puzzle}:∀ {n k:Nat} {s s':Met16},bFrom x n k s = some s'->s.1 <+: s'.1/\s.2 <+: s'.2
 | 0,k,s,s',h=>by unfold bFrom at h;injection h with h;subst h;exact ⟨List.prefix_rfl,List.prefix_rfl⟩
 | n + 1,k,s,s',h=>by
  unfold bFrom at h
  split at h
  ·rw [Option.bind_eq_some_iff] at h
   obtain ⟨s1,e1,e2⟩:=h
   have a:=Zip e1
   have b:=Zit e2
   exact ⟨a.1.trans b.1,a.2.trans b.2⟩
  ·injection h with h;subst h;exact ⟨List.prefix_rfl,List.prefix_rfl⟩
theorem Zov {x:Puzzle} {q:List Int} {d:Int} {ls:List Int} {n k:Nat} {s s':Met16} (h:some s' = (bLets x q d ls s).bind (bFrom x n k)):s.1 <+: s'.1/\s.2 <+: s'.2:=by
 have h:=h.symm
 rw [Option.bind_eq_some_iff] at h
 obtain ⟨s1,e1,e2⟩:=h
 have a:=Zip e1
 have b:=Zit e2
 exact ⟨a.1.trans b.1,a.2.trans b.2⟩
theorem Zhw {α:Type} {L T:List α} {i:Nat} {z:α} (h:L <+: T) (hi:i < L.length):T.getD i z = L.getD i z:=by
 obtain ⟨r,rfl⟩:=h
 rw [List.getD_eq_getElem?_getD,List.getD_eq_getElem?_getD,List.getElem?_append_left hi]
theorem idxL_at {L:List (List Int)} (hn:L.Nodup) {i:Nat} (hi:i < L.length):idxL L (L.getD i []) = i:=by
 refine Zdh (j:=i) hi (fun q hq=>?_) ?_
 ·rw [List.mem_take_iff_getElem] at hq
  obtain ⟨k,hk,rfl⟩:=hq
  refine decide_eq_false fun e=>?_
  rw [Zab hi] at e
  have:=Zdc hn (by omega) hi e
  omega
 ·exact decide_eq_true (Zab hi).symm
theorem Zrw {L:List (List Int)} {s:List Int} (h:firstG L (kB s) = none) (z:ByteArray):(if z = kB s then some (L.length:Int) else firstG L z) = firstG (L ++ [s]) z:=by
 rw [Zjc]
 by_cases e:z = kB s
 ·subst e;rw [h]
 ·rw [if_neg e]
  cases firstG L z with
  | some i=>rfl
  | none=>simp [e]
def rowT (x:Puzzle) (t:Table) (p:List Int):List Int:=(ltrs x.moves.length).map fun l=>idxL t.patterns (nxt x p l)
section
variable {x:Puzzle} {t:Table} {L:List (List Int)} {s:List Int}
theorem Zhl (he:expl x = some t) {p:List Int} (hp:p∈t.patterns):Byt p:=by
 obtain ⟨hb,-⟩:=Zad he
 obtain ⟨i,hi,rfl⟩:=List.getElem_of_mem hp
 have:=Zda he hi
 rw [Zab hi] at this
 exact Zuj this (by have:=Zae hb.v;omega)
theorem pre_in (he:expl x = some t) (hp:L <+: t.patterns) (hs:s∈L):∃ i:Nat,i < L.length/\idxL t.patterns s = i/\firstG L (kB s) = some (i:Int):=by
 obtain ⟨hb,-⟩:=Zad he
 have hnd:t.patterns.Nodup:=hb.bi.nd
 have hndL:L.Nodup:=List.Sublist.nodup hp.sublist hnd
 obtain ⟨i,hi,rfl⟩:=List.getElem_of_mem hs
 have hiT:i < t.patterns.length:=Nat.lt_of_lt_of_le hi hp.length_le
 have e:t.patterns.getD i [] = L[i]:=by rw [Zhw hp hi,Zab hi]
 have e2:L.getD i [] = L[i]:=Zab hi
 refine ⟨i,hi,by rw [<- e];exact hb.idx hiT,?_⟩
 rw [Zlp (fun p hp'=>Zhl he (hp.subset hp')) (Zhl he (hp.subset hs)),<- e2,idxL_at hndL hi,if_pos (by omega)]
theorem pre_out (he:expl x = some t) (hp:L <+: t.patterns) (hs:s ∉ L) (hby:Byt s):firstG L (kB s) = none:=by
 rw [Zlp (fun p hp'=>Zhl he (hp.subset hp')) hby,if_neg]
 intro h
 exact hs (Zvf h).1
theorem pre_new (he:expl x = some t) (hp:L ++ [s] <+: t.patterns):idxL t.patterns s = L.length:=by
 obtain ⟨hb,-⟩:=Zad he
 have hl:L.length < t.patterns.length:=by have:=hp.length_le;simp at this;omega
 have e:t.patterns.getD L.length [] = s:=by
  rw [Zhw hp (by simp),List.getD_eq_getElem?_getD];simp
 rw [<- e];exact hb.idx hl
theorem expl_pn (he:expl x = some t) {i:Nat} (hi:i < t.patterns.length):PM.PN x.points.toNat (t.patterns.getD i []):=by
 obtain ⟨hb,-⟩:=Zad he
 exact PM.Grp.pn (Zag hb.v) ((Zek he).1 (hb.mem_of hi))
theorem Zty (he:expl x = some t) {i:Nat} (hi:i < t.patterns.length) {l:Int} (hl:l∈ltrs x.moves.length):nxt x (t.patterns.getD i []) l∈t.patterns:=by
 obtain ⟨hb,-⟩:=Zad he
 obtain ⟨i',a,b,-,-⟩:=hb.step hi hl
 rw [<- b];exact hb.mem_of a
end
theorem EX0.start {x:Puzzle} {v2 vst:Value} {w W wx:World} {s5:Value} {f3:List Nat} (h:EX0 x v2 vst W wx s5) (hW:Only [] w W) (r3:Rd W vst (PM.pts x.points.toNat) f3) :
  ∃ g M us ud up uy,s5 = .pointer (some ⟨g,0,none⟩)/\w.heap.size<=g/\XE x v2 w g M [PM.pts x.points.toNat] [PM.pts x.points.toNat] [0] [0] [0] [] [] wx us ud up uy (.slice none 0 0) (.slice none 0 0) [f3] [] [] wx/\Only [] W wx:=by
 obtain ⟨g,M,gs,gd,gp,gy,rfl,B0,Bs,Bd,Bp,By,hM,hnd,hge,hK⟩:=h
 have hz:=hW.size
 have hlow:∀ b∈[g,M,gs,gd,gp,gy],w.heap.size<=b:=fun b hb=>Nat.le_trans hz (hge b hb)
 have hup:∀ b∈[g,M,gs,gd,gp,gy],b < wx.heap.size:=by
  intro b hb
  simp only [List.mem_cons,List.not_mem_nil,or_false] at hb
  rcases hb with rfl | rfl | rfl | rfl | rfl | rfl
  ·exact B0.lt
  ·exact hM.lt
  ·exact (Array.getElem?_eq_some_iff.1 Bs).1
  ·exact (Array.getElem?_eq_some_iff.1 Bd).1
  ·exact (Array.getElem?_eq_some_iff.1 Bp).1
  ·exact (Array.getElem?_eq_some_iff.1 By).1
 have hf3:∀ b∈f3,b < W.heap.size:=fun b hb=>Rp.lt r3 b hb
 have hI0:I64 0:=by unfold I64;omega
 have hfl:(xeF g M (.slice (some ⟨gs,0,none⟩) 1 1) (.slice (some ⟨gd,0,none⟩) 1 1) (.slice (some ⟨gp,0,none⟩) 1 1) (.slice (some ⟨gy,0,none⟩) 1 1) (.slice none 0 0) (.slice none 0 0)).flatten = [g,M,gs,gd,gp,gy]:=by simp [xeF,Value.ownBlock]
 have hmem:∀ c∈xeF g M (.slice (some ⟨gs,0,none⟩) 1 1) (.slice (some ⟨gd,0,none⟩) 1 1) (.slice (some ⟨gp,0,none⟩) 1 1) (.slice (some ⟨gy,0,none⟩) 1 1) (.slice none 0 0) (.slice none 0 0),∀ b∈c,b∈[g,M,gs,gd,gp,gy]:=fun c hc b hb=>by rw [<- hfl];exact List.mem_flatten.2 ⟨c,hc,hb⟩
 refine ⟨g,M,_,_,_,_,rfl,hlow g (by simp),⟨B0,Acc.ofT Bs (zK r3 hK) (hlow gs (by simp)) (fun hm=>?_),⟨[[]],Acc.ofT Bd (int_rd _ hI0) (hlow gd (by simp)) (by simp)⟩,⟨[[]],Acc.ofT Bp (int_rd _ hI0) (hlow gp (by simp)) (by simp)⟩,⟨[[]],Acc.ofT By (int_rd _ hI0) (hlow gy (by simp)) (by simp)⟩,Acc.nil _ _ _,AccI.nil _ _ _,hM,⟨by rw [hfl];exact hnd,fun c hc b hb=>⟨hlow b (hmem c hc b hb),hup b (hmem c hc b hb)⟩⟩,fun b hb=>?_,by simp,hW.trans hK⟩,hK⟩
 ·have:=hf3 gs hm;have:=hge gs (by simp);omega
 ·have hb3:b∈f3:=by simpa using hb
  have h1:=hf3 b hb3
  refine ⟨Nat.lt_of_lt_of_le h1 hK.size,fun c hc hm=>?_⟩
  have:=hge b (hmem c hc b hm);omega
def Exp (w:World) (x:Puzzle) (t:Table) (v:Value):Prop:=
 ∃ g M v2 us ud up uy un fm f1 f2 f3 k,v = .pointer (some ⟨g,0,none⟩)/\Blk w g [.int .i64 x.points,.string x.names,v2,us,ud,.map (some M),up,uy,un]/\Rp.rep w [.int .i64 x.points,.string x.names,v2] x fm /\
  Rd w us t.patterns f1/\Rd w ud t.distances f2/\Rd w un (t.patterns.map (rowT x t)) f3/\Mq w M k (firstG t.patterns)
theorem Exp.keep {w w':World} {x:Puzzle} {t:Table} {v:Value} (h:Exp w x t v) (ho:Only [] w w'):Exp w' x t v:=by
 obtain ⟨g,M,v2,us,ud,up,uy,un,fm,f1,f2,f3,k,h1,h2,h3,h4,h5,h6,h7⟩:=h
 exact ⟨g,M,v2,us,ud,up,uy,un,fm,f1,f2,f3,k,h1,h2.keep ho,zK h3 ho,zK h4 ho,zK h5 ho,zK h6 ho,h7.keep ho⟩
def XO (x:Puzzle) (t:Table) (v2:Value) (w:World) (g M:Nat) (f6:List Nat) (W5:World) (k:Nat) (L:List (List Int)) (D:List Int) (wr:World) (us ud up uy un:Value):Prop:=
 ∃ P Y fs fn,P.length = L.length/\Y.length = L.length/\XE x v2 w g M L L D P Y ((t.patterns.take k).map (rowT x t)) [] wr us ud up uy un (.slice none 0 0) fs fn f6 W5
def XN (x:Puzzle) (t:Table) (v2:Value) (w:World) (g M:Nat) (ex:List Nat) (W5:World) (k:Nat) (q:List Int) (i:Nat) (L:List (List Int)) (D:List Int) (wr:World) (us ud up uy un ur:Value):Prop:=
 ∃ P Y fs fn,P.length = L.length/\Y.length = L.length/\XE x v2 w g M L L D P Y ((t.patterns.take k).map (rowT x t)) (((ltrs x.moves.length).take i).map fun l=>idxL t.patterns (nxt x q l)) wr us ud up uy un ur fs fn ex W5
set_option maxHeartbeats 8000000 in
theorem Zcs (cs:List Value) (x:Puzzle) (t:Table) (fp:List Nat) (w:World) (h:Rp.rep w cs x fp) (he:expl x = some t) :
  Calls Tryz.prog 112 #[.agg cs.toArray] w fun e w'=>∃ v,e = .returned (.tuple #[v,.bool true])/\Exp w' x t v/\Only [] w w':=by
 have h0:=h
 obtain ⟨v2,rfl,p0,p1,h2⟩:=h
 clear p0 p1
 have hin:=Zqu x
 rw [he] at hin
 have Hin:=zH hin
 obtain ⟨hb,-⟩:=Zad he
 obtain ⟨q1,q20,q8,-⟩:=Zae hb.v
 have X0:Blk (w.alloc (.cells #[.int .i64 x.points,.string x.names,v2] 33)) w.heap.size [.int .i64 x.points,.string x.names,v2]:=Blk.new w [.int .i64 x.points,.string x.names,v2] 33
 have Hb:=zH hb
 have He:=zH he
 clear he hin hb
 obtain ⟨c,hc⟩:∃ c,c = (if validPz x = true then (cardG x:Int) else 0):=⟨_,rfl⟩
 rw [<- hc] at Hin
 have Hc:=zH hc
 clear hc
 go_enter Tryz.func112,Tryz.ntmps112
 go_upto_region 4 with (first
  | (go_at_call 158;(with_reducible refine (Zer [.int .i64 x.points,.string x.names,v2] x _ _ (zK h0 zA)).mono ?_);rintro e w1 ⟨he,t1⟩;rw [<- Hc.out] at he;subst he;have X1:=X0.keep t1;obtain ⟨x0,x1,x2⟩:=X1.c3)
  | (go_at_call 96;(with_reducible refine (Zam c 1 3000 _).mono ?_);rintro e w1 ⟨he,rfl⟩;rw [Hin.out] at he;subst he)
  | (go_at_call 159;(with_reducible refine (Zmm x.points _ (by omega) (by omega)).mono ?_);rintro e w2 ⟨v3,f3,rfl,r3,F3,t2⟩;obtain ⟨a3,c3,rfl,I3⟩:=r3.ints;clear I3)
  | fail)
 obtain ⟨n3,hn3⟩:∃ n3,n3 = (PM.pts x.points.toNat).length:=⟨_,rfl⟩
 rw [<- hn3] at r3 ⊢
 have Hn3:=zH hn3
 clear hn3
 have X2:=X1.keep t2
 have hmm:=@run_makeMap Tryz.prog
 go_cut [5] (fun s5 wx=>EX0 x v2 (.slice a3 n3 c3) w2 wx s5)
 case first=>
  refine Zmk (J:=fun a0 ls a w'=>∃ f,EI x v2 (.slice a3 n3 c3) w2 a0 ls a w' f) (by kernel_rfl) ?h0 ?hs ?he
  case h0=>
   exact ⟨fun _=>0,zO.drew,RI.refl _ _,fun i _ h=>absurd h (by rw [Zfv];decide),fun i _ j _ _ h=>absurd h (by rw [Zfv];decide),fun i h=>absurd h (by rw [Zfv];decide),fun h=>absurd h (by rw [Zfv];decide),fun i h=>absurd h (by rw [Zfv];decide)⟩
  case hs=>
   intro ls a w' i hs hI hi
   obtain ⟨f,hI⟩:=hI
   obtain ⟨hlt,hu⟩:=Zkd hi
   have hs14:ls.size = 14:=hs
   have hi14:i < 14:=hlt
   have a4:At a 4 (.slice a3 n3 c3):=hI.fr.at (by decide) rfl
   have a1:At a 1 (.pointer (some ⟨w.heap.size,0,none⟩)):=hI.fr.at (by decide) rfl
   have asz0:a.tmps.size = 151:=hI.fr.sz
   have asz:=zH asz0
   clear asz0
   have hu:=un_getD hu
   match i,hi14,hi,hu with
   | 0,_,hi,hu=>
    have XX:=X2.keep hI.on
    obtain ⟨x0,x1,x2⟩:=XX.c3
    have e1:a.tmps[1]? = some (.pointer (some ⟨w.heap.size,0,none⟩)):=a1
    refine Zar rfl rfl (fun K' hK=>?_)
    simp only [List.getElem_toArray,List.getElem_cons_zero]
    go_simp
    exact hK _ _ ⟨f,hI.upd (k:=0) (t:=some 21) (by decide) hs14 hu rfl (Only.refl [] _) (.inl rfl) (fun _ _=>rfl) (fun e=>absurd e (by decide)) (by intro j hj hn;simp [eJs] at hj) (At.same (by rw [asz.out];decide)) (fun e=>absurd e (by decide))⟩
   | 1,_,hi,hu=>
    have e4:a.tmps[4]? = some (.slice a3 n3 c3):=a4
    refine Zar rfl rfl (fun K' hK=>?_)
    simp only [List.getElem_toArray,List.getElem_cons_succ,List.getElem_cons_zero]
    go_simp
    exact hK _ _ ⟨f,hI.upd (k:=1) (t:=some 22) (by decide) hs14 hu rfl (Only.refl [] _) (.inl rfl) (fun _ _=>rfl) (fun e=>absurd e (by decide)) (by intro j hj hn;simp [eJs] at hj) (At.same (by rw [asz.out];decide)) (fun e=>absurd e (by decide))⟩
   | 2,_,hi,hu=>
    have e22:a.tmps[22]? = some (.slice a3 n3 c3):=hI.ft 1 (Zaz (k:=1) hi rfl rfl)
    refine Zar rfl rfl (fun K' hK=>?_)
    simp only [List.getElem_toArray,List.getElem_cons_succ,List.getElem_cons_zero]
    go_simp
    exact hK _ _ ⟨fun i=>if i = 2 then w'.heap.size else f i,hI.upd (k:=2) (t:=some 23) (by decide) hs14 hu rfl ((Only.refl [] _).alloc _) (.inl rfl) (fun i h=>if_neg h) (fun _=>⟨if_pos rfl,by simp⟩) (by intro j hj hn;simp [eJs] at hj;exact absurd hj hn) ⟨At.same (by rw [asz.out];decide),BlkT.new w' _ _⟩ (fun e=>absurd e (by decide))⟩
   | 3,_,hi,hu=>
    refine Zar rfl rfl (fun K' hK=>?_)
    simp only [List.getElem_toArray,List.getElem_cons_succ,List.getElem_cons_zero]
    go_simp
    exact hK _ _ ⟨fun i=>if i = 3 then w'.heap.size else f i,hI.upd (k:=3) (t:=some 24) (by decide) hs14 hu rfl ((Only.refl [] _).alloc _) (.inl rfl) (fun i h=>if_neg h) (fun _=>⟨if_pos rfl,by simp⟩) (by intro j hj hn;simp [eJs] at hj;exact absurd hj hn) ⟨At.same (by rw [asz.out];decide),BlkT.new w' _ _⟩ (fun e=>absurd e (by decide))⟩
   | 4,_,hi,hu=>
    refine Zar rfl rfl (fun K' hK=>?_)
    simp only [List.getElem_toArray,List.getElem_cons_succ,List.getElem_cons_zero]
    go_simp
    exact hK _ _ ⟨fun i=>if i = 4 then w'.heap.size else f i,hI.upd (k:=4) (t:=some 25) (by decide) hs14 hu rfl ((Only.refl [] _).alloc _) (.inl rfl) (fun i h=>if_neg h) (fun _=>⟨if_pos rfl,by simp⟩) (by intro j hj hn;simp [eJs] at hj;exact absurd hj hn) (At.same (by rw [asz.out];decide)) (fun _=>Mq.made w' rfl)⟩
   | 5,_,hi,hu=>
    have e4:a.tmps[4]? = some (.slice a3 n3 c3):=a4
    refine Zar rfl rfl (fun K' hK=>?_)
    simp only [List.getElem_toArray,List.getElem_cons_succ,List.getElem_cons_zero]
    go_simp
    exact hK _ _ ⟨f,hI.upd (k:=5) (t:=some 26) (by decide) hs14 hu rfl (Only.refl [] _) (.inl rfl) (fun _ _=>rfl) (fun e=>absurd e (by decide)) (by intro j hj hn;simp [eJs] at hj) (At.same (by rw [asz.out];decide)) (fun e=>absurd e (by decide))⟩
   | 6,_,hi,hu=>
    have e26:a.tmps[26]? = some (.slice a3 n3 c3):=hI.ft 5 (Zaz (k:=5) hi rfl rfl)
    refine Zar rfl rfl (fun K' hK=>?_)
    simp only [List.getElem_toArray,List.getElem_cons_succ,List.getElem_cons_zero]
    go_simp
    go_at_call 160
    (with_reducible refine (Zcx (.slice a3 n3 c3) (PM.pts x.points.toNat) f3 _ (zK r3 hI.on) (by rw [PM.pts_len];omega)).mono ?_)
    rintro e w5 ⟨rfl,t5⟩
    exact hK _ _ ⟨f,hI.upd (k:=6) (t:=some 27) (by decide) hs14 hu rfl t5 (.inl rfl) (fun _ _=>rfl) (fun e=>absurd e (by decide)) (by intro j hj hn;simp [eJs] at hj) (At.same (by rw [asz.out];decide)) (fun e=>absurd e (by decide))⟩
   | 7,_,hi,hu=>
    have d4:=Zaz (k:=4) hi rfl rfl
    have e25:a.tmps[25]? = some (.map (some (f 4))):=hI.ft 4 d4
    have e27:a.tmps[27]? = some (.string (kB (PM.pts x.points.toNat))):=hI.ft 6 (Zaz (k:=6) hi rfl rfl)
    obtain ⟨w5,hrun5,hM5,hO5⟩:=(hI.m0 d4 hu).run_put (s:=kB (PM.pts x.points.toNat)) (by rw [kB_size,PM.pts_len];unfold maxLen;omega) (n:=0) (by unfold I64;omega) (by unfold maxLen;omega)
    refine Zar rfl rfl (fun K' hK=>?_)
    simp only [List.getElem_toArray,List.getElem_cons_succ,List.getElem_cons_zero]
    go_simp
    exact hK _ _ ⟨f,hI.upd (k:=7) (t:=none) (v:=undef) (by decide) hs14 hu rfl hO5 (.inr ⟨rfl,rfl,d4⟩) (fun _ _=>rfl) (fun e=>absurd e (by decide)) (by intro j hj hn;simp [eJs] at hj;subst hj;exact d4) (hM5.congr fun s=>by rw [show firstG [PM.pts x.points.toNat] s = firstG ([] ++ [PM.pts x.points.toNat]) s from rfl,Zjc,Zry];rfl) (fun e=>absurd e (by decide))⟩
   | 8,_,hi,hu=>
    have d4:=Zaz (k:=4) hi rfl rfl
    have e25:a.tmps[25]? = some (.map (some (f 4))):=hI.ft 4 d4
    refine Zar rfl rfl (fun K' hK=>?_)
    simp only [List.getElem_toArray,List.getElem_cons_succ,List.getElem_cons_zero]
    go_simp
    exact hK _ _ ⟨f,hI.upd (k:=8) (t:=some 28) (by decide) hs14 hu rfl (Only.refl [] _) (.inl rfl) (fun _ _=>rfl) (fun e=>absurd e (by decide)) (by intro j hj hn;simp [eJs] at hj;subst hj;exact d4) (At.same (by rw [asz.out];decide)) (fun e=>absurd e (by decide))⟩
   | 9,_,hi,hu=>
    refine Zar rfl rfl (fun K' hK=>?_)
    simp only [List.getElem_toArray,List.getElem_cons_succ,List.getElem_cons_zero]
    go_simp
    exact hK _ _ ⟨fun i=>if i = 9 then w'.heap.size else f i,hI.upd (k:=9) (t:=some 29) (by decide) hs14 hu rfl ((Only.refl [] _).alloc _) (.inl rfl) (fun i h=>if_neg h) (fun _=>⟨if_pos rfl,by simp⟩) (by intro j hj hn;simp [eJs] at hj;exact absurd hj hn) ⟨At.same (by rw [asz.out];decide),BlkT.new w' _ _⟩ (fun e=>absurd e (by decide))⟩
   | 10,_,hi,hu=>
    refine Zar rfl rfl (fun K' hK=>?_)
    simp only [List.getElem_toArray,List.getElem_cons_succ,List.getElem_cons_zero]
    go_simp
    exact hK _ _ ⟨fun i=>if i = 10 then w'.heap.size else f i,hI.upd (k:=10) (t:=some 30) (by decide) hs14 hu rfl ((Only.refl [] _).alloc _) (.inl rfl) (fun i h=>if_neg h) (fun _=>⟨if_pos rfl,by simp⟩) (by intro j hj hn;simp [eJs] at hj;exact absurd hj hn) ⟨At.same (by rw [asz.out];decide),BlkT.new w' _ _⟩ (fun e=>absurd e (by decide))⟩
   | 11,_,hi,hu=>
    have d0:=Zaz (k:=0) hi rfl rfl
    have d2:=Zaz (k:=2) hi rfl rfl
    have d3:=Zaz (k:=3) hi rfl rfl
    have d8:=Zaz (k:=8) hi rfl rfl
    have d9:=Zaz (k:=9) hi rfl rfl
    have d10:=Zaz (k:=10) hi rfl rfl
    have d4:=hI.clo 8 d8 4 (by decide)
    have e21:a.tmps[21]? = some (.agg #[.int .i64 x.points,.string x.names,v2]):=hI.ft 0 d0
    have e23:a.tmps[23]? = some (.slice (some ⟨f 2,0,none⟩) 1 1):=(hI.ft 2 d2).1
    have e24:a.tmps[24]? = some (.slice (some ⟨f 3,0,none⟩) 1 1):=(hI.ft 3 d3).1
    have e28:a.tmps[28]? = some (.map (some (f 4))):=hI.ft 8 d8
    have e29:a.tmps[29]? = some (.slice (some ⟨f 9,0,none⟩) 1 1):=(hI.ft 9 d9).1
    have e30:a.tmps[30]? = some (.slice (some ⟨f 10,0,none⟩) 1 1):=(hI.ft 10 d10).1
    refine Zar rfl rfl (fun K' hK=>?_)
    simp only [List.getElem_toArray,List.getElem_cons_succ,List.getElem_cons_zero]
    go_simp
    exact hK _ _ ⟨f,hI.upd (k:=11) (t:=some 31) (by decide) hs14 hu rfl (Only.refl [] _) (.inl rfl) (fun _ _=>rfl) (fun e=>absurd e (by decide)) (by intro j hj hn;simp [eJs] at hj;rcases hj with rfl | rfl | rfl | rfl | rfl <;> assumption) (At.same (by rw [asz.out];decide)) (fun e=>absurd e (by decide))⟩
   | 12,_,hi,hu=>
    have d11:=Zaz (k:=11) hi rfl rfl
    have e31:a.tmps[31]? = some (.agg #[.int .i64 x.points,.string x.names,v2,.slice (some ⟨f 2,0,none⟩) 1 1,.slice (some ⟨f 3,0,none⟩) 1 1,.map (some (f 4)),.slice (some ⟨f 9,0,none⟩) 1 1,.slice (some ⟨f 10,0,none⟩) 1 1,.slice none 0 0]):=hI.ft 11 d11
    refine Zar rfl rfl (fun K' hK=>?_)
    simp only [List.getElem_toArray,List.getElem_cons_succ,List.getElem_cons_zero]
    go_simp
    exact hK _ _ ⟨fun i=>if i = 12 then w'.heap.size else f i,hI.upd (k:=12) (t:=some 32) (by decide) hs14 hu rfl ((Only.refl [] _).alloc _) (.inl rfl) (fun i h=>if_neg h) (fun _=>⟨if_pos rfl,by simp⟩) (by intro j hj hn;refine hI.clo 11 d11 j ?_;simp [eJs] at hj ⊢;omega) ⟨At.same (by rw [asz.out];decide),Blk.new w' _ _⟩ (fun e=>absurd e (by decide))⟩
   | 13,_,hi,hu=>
    have d12:=Zaz (k:=12) hi rfl rfl
    have e32:a.tmps[32]? = some (.pointer (some ⟨f 12,0,none⟩)):=(hI.ft 12 d12).1
    refine Zar rfl rfl (fun K' hK=>?_)
    simp only [List.getElem_toArray,List.getElem_cons_succ,List.getElem_cons_zero]
    go_simp
    exact hK _ _ ⟨f,hI.upd (k:=13) (t:=some 5) (by decide) hs14 hu rfl (Only.refl [] _) (.inl rfl) (fun _ _=>rfl) (fun e=>absurd e (by decide)) (by intro j hj hn;simp [eJs] at hj;subst hj;exact d12) (At.same (by rw [asz.out];decide)) (fun e=>absurd e (by decide))⟩
  case he=>
   intro ls a w' hs hI hr
   obtain ⟨f,hI⟩:=hI
   have hall:∀ i,i < 14->ls.getD i false = true:=Zsb hr hs rfl
   have hE:=RI.eq [(5,.pointer (some ⟨f 12,0,none⟩)),(21,.agg #[.int .i64 x.points,.string x.names,v2]),(22,.slice a3 n3 c3),(23,.slice (some ⟨f 2,0,none⟩) 1 1),(24,.slice (some ⟨f 3,0,none⟩) 1 1),(25,.map (some (f 4))),(26,.slice a3 n3 c3),(27,.string (kB (PM.pts x.points.toNat))),(28,.map (some (f 4))),(29,.slice (some ⟨f 9,0,none⟩) 1 1),(30,.slice (some ⟨f 10,0,none⟩) 1 1),(31,eAgg x v2 f),(32,.pointer (some ⟨f 12,0,none⟩))] hI.fr (by show ([5,21,22,23,24,25,26,27,28,29,30,31,32]:List Nat).Nodup;decide) (by intro p hp;rw [show (Act.mk _ _:Act).tmps.size = 151 from rfl];have:∀ p∈([5,21,22,23,24,25,26,27,28,29,30,31,32]:List Nat),p < 151:=(by decide);exact this p.1 (List.mem_map.2 ⟨p,hp,rfl⟩)) (by
    intro p hp
    simp only [List.mem_cons,List.not_mem_nil,or_false] at hp
    rcases hp with rfl | rfl | rfl | rfl | rfl | rfl | rfl | rfl | rfl | rfl | rfl | rfl | rfl
    ·exact hI.ft 13 (hall 13 (by decide))
    ·exact hI.ft 0 (hall 0 (by decide))
    ·exact hI.ft 1 (hall 1 (by decide))
    ·exact (hI.ft 2 (hall 2 (by decide))).1
    ·exact (hI.ft 3 (hall 3 (by decide))).1
    ·exact hI.ft 4 (hall 4 (by decide))
    ·exact hI.ft 5 (hall 5 (by decide))
    ·exact hI.ft 6 (hall 6 (by decide))
    ·exact hI.ft 8 (hall 8 (by decide))
    ·exact (hI.ft 9 (hall 9 (by decide))).1
    ·exact (hI.ft 10 (hall 10 (by decide))).1
    ·exact hI.ft 11 (hall 11 (by decide))
    ·exact (hI.ft 12 (hall 12 (by decide))).1)
   have hEX:EX0 x v2 (.slice a3 n3 c3) w2 w' (.pointer (some ⟨f 12,0,none⟩)):=by
    have hl:∀ i∈eAl,ls.getD i false = true:=fun i hi=>hall i (by simp [eAl] at hi;omega)
    have hr:=fun i (hi:i∈eAl)=>(hI.rng i hi (hl i hi)).1
    have hj:=fun i (hi:i∈eAl) j (hjm:j∈eAl) hij=>hI.inj i hi j hjm hij (hl i hi) (hl j hjm)
    refine ⟨f 12,f 4,f 2,f 3,f 9,f 10,rfl,(hI.ft 12 (hall 12 (by decide))).2,(hI.ft 2 (hall 2 (by decide))).2,(hI.ft 3 (hall 3 (by decide))).2,(hI.ft 9 (hall 9 (by decide))).2,(hI.ft 10 (hall 10 (by decide))).2,hI.ft 7 (hall 7 (by decide)),?_,?_,hI.on⟩
    ·have hm:[f 12,f 4,f 2,f 3,f 9,f 10] = [12,4,2,3,9,10].map f:=rfl
     rw [hm,List.nodup_iff_pairwise_ne,List.pairwise_map]
     refine List.Pairwise.imp_of_mem (R:=fun i j=>i ≠ j) (fun {i j} hi hjm hij=>hj i (by simp [eAl] at hi ⊢;omega) j (by simp [eAl] at hjm ⊢;omega) hij) (by decide)
    ·intro b hb
     simp only [List.mem_cons,List.not_mem_nil,or_false] at hb
     rcases hb with rfl | rfl | rfl | rfl | rfl | rfl
     ·exact hr 12 (by decide)
     ·exact hr 4 (by decide)
     ·exact hr 2 (by decide)
     ·exact hr 3 (by decide)
     ·exact hr 9 (by decide)
     ·exact hr 10 (by decide)
   subst hE
   clear hI hall hr hs
   simp only [putL,List.foldl_cons,List.foldl_nil,Act.put,List.setIfInBounds_toArray,List.set_cons_succ,List.set_cons_zero]
   go_wp2_with fail
   go_meet
   exact hEX
 case rest=>
  clear hmm x0 x1 x2
  have K0:Only [] w w2:=zA
  obtain ⟨g,M,us0,ud0,up0,uy0,rfl,hgw,E0,hKc⟩:=EX0.start hcut zO r3
  have h20:=h2
  obtain ⟨A2,C2,_,_,rfl,-,-⟩:=h20.open_
  have x2:=(X2.keep hKc).cell 2 rfl
  clear hcut X0 X1 r3 F3 Hn3 t1 t2
  go_wp2_with (first
   | (go_at_call 118;(with_reducible refine (Zep x.moves.length _ (by omega)).mono ?_);rintro e w5 ⟨u6',f6,rfl,r6,F6,t6⟩;obtain ⟨a6,c6,rfl,I6⟩:=r6.ints)
   | fail)
  have E1:=E0.hold t6 (f:=f6) (fun b hb=>⟨F6.ge b hb,F6.lt b hb⟩)
  rw [List.nil_append] at E1
  obtain ⟨ls,hls⟩:∃ ls,ls = ltrs x.moves.length:=⟨_,rfl⟩
  rw [<- hls] at I6 ⊢
  have Hls:=zH hls
  have hll:ls.length<=1000:=by rw [hls,Zel];omega
  have HT:=zH (Zus He.out).symm
  obtain ⟨iI,hiI,hzI0,hzI1,hzI2⟩:=info_parts Tryz.info2
  obtain ⟨iL,hiL,hzL0,hzL1,hzL2⟩:=info_parts Tryz.info22
  clear hls r6 F6 E0 x2
  go_loopw [7] (fun i wr=>∃ (k:Nat) (L:List (List Int)) (D:List Int) (us ud up uy un:Value),i = .int .i64 k/\k<=L.length/\L.length<=3000/\D.length = L.length/\some (t.patterns,t.distances) = bFrom x (3001 - k) k (L,D)/\XO x t (.slice A2 x.moves.length C2) w2 g M f6 w5 k L D wr us ud up uy un)
   (fun i _=>3001 - (intOf i).toNat)
  case atStart=>exact ⟨0,[PM.pts x.points.toNat],[0],us0,ud0,up0,uy0,.slice none 0 0,rfl,by simp,by simp,rfl,HT.out,[0],[0],[f3],[],rfl,rfl,E1⟩
  case round=>
   obtain ⟨W3,hnew⟩:∃ W,W = wr:=⟨_,rfl⟩
   subst hnew
   obtain ⟨k,L,D,us,ud,up,uy,un,rfl,hk,hL3,hdl,hR,P,Y,fs,fn,hP,hY,hE⟩:=hrel
   have HR:=zH hR
   have HP:=zH hP
   have HY:=zH hY
   have HD:=zH hdl
   have HM:=zH hE.mp
   obtain ⟨a7,c7,rfl⟩:=hE.st.form
   have y3:=hE.blk.cell 3 rfl
   have K3:Only [] w W3:=K0.trans hE.on
   clear hR hP hY hdl
   by_cases hlt:k < L.length
   ·have hpre:=Zit HR.out.symm
    have hkT:k < t.patterns.length:=Nat.lt_of_lt_of_le hlt hpre.1.length_le
    have hst:=HR.out.trans (Zln hlt hL3)
    rw [<- Hls.out] at hst
    obtain ⟨q,hq⟩:∃ q,q = t.patterns.getD k []:=⟨_,rfl⟩
    have hqL:L.getD k [] = q:=by rw [hq];exact (Zhw hpre.1 hlt).symm
    have Hpn:=zH (show PM.PN x.points.toNat q by rw [hq];exact expl_pn He.out hkT)
    obtain ⟨d1,hd1⟩:∃ d,d = D.getD k 0 + 1:=⟨_,rfl⟩
    rw [hqL,<- hd1] at hst
    have Hst:=zH hst
    have Hq:=zH hq
    have HqL:=zH hqL
    have Hd1:=zH hd1.symm
    have hS:=(hE.st.rd (by decide)).open_
    obtain ⟨aq,cq,obq,fpq,hv1,-,hS1⟩:=hS
    injection hv1 with e1 _ e2
    subst e1
    subst e2
    obtain ⟨b1,o1,u1,rfl,-,hc1,hu1⟩:=hS1.atRow k hlt
    have hqk:L[k] = q:=by have:=HqL.out;rwa [Zab hlt] at this
    rw [hqk] at hu1
    have XX:=X2.keep hE.on
    obtain ⟨x0,x1,x2⟩:=XX.c3
    have hc:=(fun (W:World) (hh:Only [] W3 W)=>Zoj [.int .i64 x.points,.string x.names,.slice A2 x.moves.length C2] x _ u1 q _ W (zK h0 (K3.trans hh)) (zK hu1 hh) Hb.out.v Hpn.out)
    obtain ⟨nbs,hnbs⟩:∃ nbs,nbs = (ltrs x.moves.length).map (nxt x q):=⟨_,rfl⟩
    rw [<- hnbs] at hc
    have Hc:=zH hc
    have Hnbs:=zH hnbs
    have Hnl:=zH (show nbs.length = ls.length by rw [hnbs,List.length_map,Hls.out])
    clear hnbs hc
    clear hpre hst hq hqL hd1 hqk
    go_wp2
    go_region_held3 (fun w'=>Only [] W3 w'/\w'.cell? ⟨w.heap.size,0,none⟩ = some (.int .i64 x.points)/\w'.cell? ⟨w.heap.size,1,none⟩ = some (.string x.names)/\w'.cell? ⟨w.heap.size,2,none⟩ = some (.slice A2 x.moves.length C2)/\w'.cell? ⟨g,3,none⟩ = some (.slice (some ⟨b1,o1,none⟩) L.length c7)/\w'.cell? ⟨b1,o1 + k,none⟩ = some (u1)) (((refine and_of ?_ (fun q_=>⟨q_.ce x0,q_.ce x1,q_.ce x2,q_.ce y3,q_.ce hc1⟩));first | exact zO.drew | exact (zO.drewN _).drew | exact Only.trans (And.left (by assumption)) (by assumption) | exact Only.alloc (And.left (by assumption)) _ | assumption)) (first | (go_at_call 161;(with_reducible refine (Hc.out _ (And.left (by assumption))).mono ?_);rintro e w6 ⟨u7',f7,rfl,r7,F7,t7⟩;have F7':=F7.mono (((Only.refl [] W3).trans (And.left (by assumption))).size);obtain ⟨a8,c8,ob8,fps8,rfl,hfp8,S8⟩:=r7.open_) | fail)
    have k6:Only [] W3 w6:=(Only.refl [] W3).trans (And.left (by assumption))
    have E6:=hE.hold k6 (f:=f7) (fun b hb=>⟨F7'.ge b hb,F7'.lt b hb⟩)
    have hn8:nbs.length<=1000:=by have:=Hnl.out;omega
    have HE3:=zH hE
    have hf7:∀ b∈ob8 ++ fps8.flatten,b∈f6 ++ f7:=fun b hb=>List.mem_append_right _ (by rw [hfp8];exact hb)
    have Hf7:=zH hf7
    have H6:=zH (fun b (hb:b∈f6)=>k6.block b (hE.ro b (List.mem_append_right _ hb)).1 (by simp))
    clear r7 F7 F7' t7 hE hfp8 hf7 hc1 hu1 XX x0 x1 x2 Hc y3
    go_wp2
    go_loopw [8,56] (fun row i wr=>∃ (i':Nat) (L:List (List Int)) (D:List Int) (us ud up uy un:Value),i = .int .i64 i'/\i'<=nbs.length/\k < L.length/\L.length<=3000/\D.length = L.length/\L.getD k [] = q/\D.getD k 0 + 1 = d1/\some (t.patterns,t.distances) = (bLets x q d1 (ls.drop i') (L,D)).bind (bFrom x (3001 - (k + 1)) (k + 1))/\XN x t (.slice A2 x.moves.length C2) w2 g M (f6 ++ f7) w6 k q i' L D wr us ud up uy un row)
     (fun _ i _=>nbs.length - (intOf i).toNat)
    case atStart=>exact ⟨0,L,D,_,ud,up,uy,un,rfl,Nat.zero_le _,hlt,hL3,HD.out,HqL.out,Hd1.out,by rw [List.drop_zero];exact Hst.out,P,Y,fs,fn,HP.out,HY.out,E6⟩
    case round=>
     clear E6 HP HY HD HM HR Hst HqL Hd1 hlt hL3 hk K3
     obtain ⟨W4,hnew⟩:∃ W,W = wr:=⟨_,rfl⟩
     subst hnew
     obtain ⟨i,L,D,us,ud,up,uy,un,rfl,hi,hlt,hL3,hdl,hqL,hd1,hR,P,Y,fs,fn,hP,hY,hE⟩:=hrel
     have HR:=zH hR
     have HP:=zH hP
     have HY:=zH hY
     have HD:=zH hdl
     have HqL:=zH hqL
     have Hd1:=zH hd1
     have hpre:=Zov hR
     have hkT:k < t.patterns.length:=Nat.lt_of_lt_of_le hlt hpre.1.length_le
     have Hpre:=zH hpre
     clear hR hP hY hdl hqL hd1 hpre
     by_cases hil:i < nbs.length
     ·have hil2:i < ls.length:=by have:=Hnl.out;omega
      have hla:ls[i]∈ltrs x.moves.length:=by rw [<- Hls.out];exact List.getElem_mem hil2
      obtain ⟨s,hs⟩:∃ s,s = nxt x q ls[i]:=⟨_,rfl⟩
      have hnbi:nbs[i] = s:=by rw [hs];simp [Hnbs.out,Hls.out]
      obtain ⟨bn,on,ue,rfl,hobn,hcn6,hue6⟩:=S8.atRow i hil
      rw [hnbi] at hue6
      obtain ⟨fue,hue6,hfue⟩:∃ fue,Rd w6 ue s fue/\∀ b∈fue,b∈f6 ++ f7:=⟨_,hue6,fun b hb=>Hf7.out b (List.mem_append_right _ (List.mem_flatten.2 ⟨_,List.getElem_mem _,hb⟩))⟩
      have hcn:=(World.cell?_of_block (hE.kp bn (Hf7.out bn (by rw [hobn];simp)))).trans hcn6
      obtain ⟨ax,cx,rfl,Ix⟩:=hue6.ints
      have hue:=hE.held hue6 hfue
      clear Ix hcn6
      have hsT:s∈t.patterns:=by rw [hs,Hq.out];exact Zty He.out hkT hla
      have hby:=Zhl He.out hsT
      have Hby:=zH hby
      have hsl:s.length<=1000:=by
       obtain ⟨j,hj,e⟩:=List.getElem_of_mem hsT
       have:=Zbc He.out hj
       rw [Zab hj,e] at this
       omega
      have hkz:(kB s).size<=maxLen:=by rw [kB_size];unfold maxLen;omega
      have hdr:ls.drop i = ls[i] :: ls.drop (i + 1):=List.drop_eq_getElem_cons hil2
      have Hdr:=zH hdr
      have Hs:=zH hs
      have hsn:((ltrs x.moves.length).take (i + 1)).map (fun l=>idxL t.patterns (nxt x q l)) = ((ltrs x.moves.length).take i).map (fun l=>idxL t.patterns (nxt x q l)) ++ [idxL t.patterns s]:=by
       rw [<- Hls.out,Zac ls i hil2,List.map_append,hs];rfl
      have Hsn:=zH hsn
      have hrl:(((ltrs x.moves.length).take i).map fun l=>idxL t.patterns (nxt x q l)).length + 1<=1073741824:=by
       rw [List.length_map,List.length_take];omega
      have HE:=zH hE
      have hBs:=hE.on.size
      clear hnbi hsT hby hdr hs hsn hla hobn
      by_cases hmem:s∈L
      ·obtain ⟨z,hz,hzi,hfg⟩:=pre_in He.out Hpre.out.1 hmem
       have hz:z < L.length:=hz
       rw [hzi] at Hsn
       have Hfg:=zH hfg
       have Hmem:=zH hmem
       have HIz:=zH (show I64 (z:Int) by unfold I64;omega)
       clear hzi hfg hmem
       go_wp2_with (first
        | (go_at_call 160;(with_reducible refine (Zcx (.slice ax s.length cx) s _ _ (zK hue zA) hsl).mono ?_);rintro e w7 ⟨rfl,t7⟩;have hE7:=HE.out.keep t7;have y5:=hE7.blk.cell 5 rfl;have hrun7:=hE7.mp.run_yes hkz Hfg.out;have hB7:w2.heap.size<=w7.heap.size:=(Nat.le_trans hBs t7.size))
        | (at_builtin;refine Zap rfl _ _ 25 rfl w2.heap.size 2 iI _ Tryz.underlying25 hiI hzI0 hzI1 hzI2 rfl w7 _ _ rfl hE7.rw_ (zO.alloc _) hB7 w7.heap.size 1 (z:Int) rfl (lit1 w7 _ _ rfl) HIz.out hrl ?_;intro v9 w9 hA9 hO9 hP9 hN9)
        | fail)
       have hE9:=XE.push_ur (hE7.keep (zO.alloc _)) hA9 hO9 hN9
       rw [<- Hsn.out] at hE9
       exact ⟨⟨i + 1,L,D,us,ud,up,uy,un,by go_num,by omega,hlt,hL3,HD.out,HqL.out,Hd1.out,by rw [HR.out,Hdr.out,Zni (by rw [<- Hs.out];exact Hmem.out)],P,Y,fs,fn,HP.out,HY.out,hE9⟩,by simp [intOf];omega⟩
      ·have hne:L.length ≠ 3000:=fun e=>by
        have h9:=HR.out
        rw [Hdr.out,Zlh (by rw [<- Hs.out];exact hmem) e] at h9
        cases h9
       have hR2:some (t.patterns,t.distances) = (bLets x q d1 (ls.drop (i + 1)) (L ++ [s],D ++ [d1])).bind (bFrom x (3001 - (k + 1)) (k + 1)):=by
        rw [HR.out,Hdr.out,Znr (by rw [<- Hs.out];exact hmem) hne,<- Hs.out]
       have hzi:=pre_new He.out (Zov hR2).1
       rw [hzi] at Hsn
       have Hfg:=zH (pre_out He.out Hpre.out.1 hmem Hby.out)
       have HR2:=zH hR2
       have hL4:L.length < 3000:=by omega
       have HIz:=zH (show I64 (L.length:Int) by unfold I64;omega)
       clear hR2 hzi hmem hne
       go_upto_region 15 with (first
        | (go_at_call 160;(with_reducible refine (Zcx (.slice ax s.length cx) s _ _ (zK hue zA) hsl).mono ?_);rintro e w7 ⟨rfl,t7⟩;have hE7:=HE.out.keep t7;have y5:=hE7.blk.cell 5 rfl;have hrun7:=hE7.mp.run_no hkz Hfg.out;have hB7:w2.heap.size<=w7.heap.size:=(Nat.le_trans hBs t7.size))
        | fail)
       have hy3:=hE7.blk.cell 3 rfl
       have hlL:L.length + 1<=1073741824:=by omega
       go_upto_region 19 with (first
        | (go_at_call 97;(with_reducible refine (Zcg us L _ _ (hE7.st.rd (by decide))).mono ?_);rintro e w7 ⟨rfl,rfl⟩;obtain ⟨w8,hrun8,hM8,hO8⟩:=hE7.mp.run_put hkz HIz.out (by unfold maxLen;omega);have hE8:=hE7.put (LM':=L ++ [s]) hO8 (by rw [List.length_append,List.length_singleton];exact hM8.congr (Zrw Hfg.out));have z3:=hE8.blk.cell 3 rfl;have hB8:w2.heap.size<=w8.heap.size:=(Nat.le_trans hB7 hO8.size);have hE8a:=hE8.keep ((Only.refl [] w8).alloc (.cells #[.slice ax s.length cx] 25)))
        | (at_builtin;refine Zfb rfl _ _ 22 rfl w2.heap.size 25 iL _ 24 Tryz.underlying22 hiL hzL0 hzL1 hzL2 rfl (by decide) (by decide) w8 us L fs rfl hE8.st (zO.alloc _) hB8 w8.heap.size 1 [.slice ax s.length cx] s fue rfl (lit_src w8 [.slice ax s.length cx] _ rfl) (by intro u hu;simp at hu;subst hu;rfl) (hE8a.held hue6 hfue) (fun b hb=>hE8.exA (i:=2) rfl (hfue b hb)) hlL ?_;intro v9 w9 hA9 hO9 hP9 hQ9 hN9;obtain ⟨a9,n9,c9,rfl⟩:∃ a n c,v9 = Value.slice a n c:=(let ⟨a,c,hh⟩:=hA9.form;⟨a,_,c,hh⟩);clear hP9 hQ9;have B9:=hE8a.blkA (v:=us) (i:=2) rfl (by decide) hO9;have z39:=B9.cell 3 rfl;have zp9:=B9.frozen 3)
        | fail)
       have hE9:=hE8a.push_us hA9 hO9 hN9 (fun b hb=>hE8a.ro b (List.mem_append_right _ (hfue b hb)))
       obtain ⟨wA,hwA⟩:∃ wA,wA = w9.setCell ⟨g,3,none⟩ (.slice a9 n9 c9):=⟨_,rfl⟩
       rw [<- hwA] at hE9 ⊢
       obtain ⟨dk,hdk⟩:∃ dk,dk = D.getD k 0:=⟨_,rfl⟩
       have hkD:k < D.length:=by have:=HD.out;omega
       have hdr:=(Hb.out.dep k hkT)
       rw [show t.distances.getD k 0 = D.getD k 0 from Zhw Hpre.out.2 hkD,<- hdk] at hdr
       have hdk0:0<=dk:=hdr.1
       have hdk1:dk<=3000:=by have:=hdr.2.1;omega
       have hdd:dk + 1 = d1:=by rw [hdk];exact Hd1.out
       have HId:=zH (show I64 (dk + 1) by unfold I64;omega)
       have hrdD:=hE9.dp.rd
       obtain ⟨aD,cD,rfl,ID⟩:=hrdD.ints
       obtain ⟨bD,oD,rfl,-,hcD⟩:=ID.at_ k hkD
       rw [show D[k] = dk by rw [hdk,Zab hkD]] at hcD
       have q4:=hE9.blk.cell 4 rfl
       have q4a:=((Only.refl [] wA).alloc (.cells #[.int .i64 (dk + 1)] 2)).cell (by simp) q4
       have hBA:w2.heap.size<=wA.heap.size:=hE9.on.size
       have hlD:D.length + 1<=1073741824:=by have:=HD.out;omega
       have Hdd:=zH hdd
       have hwD:IntKind.i64.wrap (dk + 1) = dk + 1:=by rw [IntKind.wrap_i64];omega
       have HE9:=zH hE9
       clear hdk hdr hdd hrdD ID hwA hE9 hA9 hO9 hN9 B9 z39 zp9 hE8a hE8 z3 hE7 hy3 hrun8 hO8 hM8
       go_cut [] (fun wx=>∃ ud',XE x (.slice A2 x.moves.length C2) w2 g M (L ++ [s]) (L ++ [s]) (D ++ [d1]) P Y ((t.patterns.take k).map (rowT x t)) (((ltrs x.moves.length).take i).map fun l=>idxL t.patterns (nxt x q l)) wx (.slice a9 n9 c9) ud' up uy un u8 (fs ++ [fue]) fn (f6 ++ f7) w6)
       case first=>
        go_region_law (first
         | (refine Zkk rfl _ _ 25 rfl w2.heap.size 2 iI _ Tryz.underlying25 hiI hzI0 hzI1 hzI2 rfl wA (.slice (some ⟨bD,oD,none⟩) D.length cD) D rfl HE9.out.dp zA hBA _ 1 (dk + 1) rfl (lit1 wA _ _ rfl) HId.out hlD ?_;intro v10 w10 hA10 hO10 hN10;obtain ⟨a10,n10,c10,rfl⟩:∃ a n c,v10 = Value.slice a n c:=(let ⟨a,c,hh⟩:=hA10.form;⟨a,_,c,hh⟩);have EA:=(HE9.out.keep ((Only.refl [] wA).alloc (.cells #[.int .i64 (dk + 1)] 2))).keep ((Only.refl [] _).drew);have B10:=EA.blkA (v:=.slice (some ⟨bD,oD,none⟩) D.length cD) (i:=3) rfl (by decide) hO10;have e4:=B10.cell 4 rfl;have p4:=B10.frozen 4)
         | fail)
        all_goals go_wp2_with fail
        all_goals go_meet
        all_goals exact ⟨_,by rw [<- Hdd.out];exact EA.push_ud hA10 hO10 hN10⟩
       case rest=>
        obtain ⟨wB,hnew⟩:∃ W,W = wc:=⟨_,rfl⟩
        subst hnew
        obtain ⟨ud2,hEB⟩:=hcut
        have r6:=hEB.blk.cell 6 rfl
        have hBB:w2.heap.size<=wB.heap.size:=hEB.on.size
        have hlP:P.length + 1<=1073741824:=by have:=HP.out;omega
        have HIk:=zH (show I64 (k:Int) by unfold I64;omega)
        have hEBa:=hEB.keep ((Only.refl [] wB).alloc (.cells #[.int .i64 (k:Int)] 2))
        have HEB:=zH hEB
        have HEBa:=zH hEBa
        clear hEB hEBa q4 q4a hcD
        go_upto_region 21 with (first
         | (at_builtin;refine Zap rfl _ _ 25 rfl w2.heap.size 2 iI _ Tryz.underlying25 hiI hzI0 hzI1 hzI2 rfl wB up P rfl HEB.out.pa (zO.alloc _) hBB wB.heap.size 1 (k:Int) rfl (lit1 wB _ _ rfl) HIk.out hlP ?_;intro v11 w11 hA11 hO11 hP11 hN11;obtain ⟨a11,n11,c11,rfl⟩:∃ a n c,v11 = Value.slice a n c:=(let ⟨a,c,hh⟩:=hA11.form;⟨a,_,c,hh⟩);clear hP11;have B11:=HEBa.out.blkA (v:=up) (i:=4) rfl (by decide) hO11;have e6:=B11.cell 6 rfl;have p6:=B11.frozen 6)
         | fail)
        have hEC:=HEBa.out.push_up hA11 hO11 hN11
        obtain ⟨wC,hwC⟩:∃ wC,wC = w11.setCell ⟨g,6,none⟩ (.slice a11 n11 c11):=⟨_,rfl⟩
        rw [<- hwC] at hEC ⊢
        have r7:=hEC.blk.cell 7 rfl
        have I6b:=I6.frame (fun b hb=>(hEC.kp b (List.mem_append_left _ hb)).trans (H6.out b hb |>.trans (HE3.out.kp b hb)))
        obtain ⟨b6,o6,rfl,-,hc6⟩:=I6b.at_ i hil2
        have hIl:I64 ls[i]:=I6b.wf _ (List.getElem_mem hil2)
        have HIl:=zH hIl
        have r7a:=((Only.refl [] wC).alloc (.cells #[.int .i64 ls[i]] 2)).cell (by simp) r7
        have hBC:w2.heap.size<=wC.heap.size:=hEC.on.size
        have hlY:Y.length + 1<=1073741824:=by have:=HY.out;omega
        have HEC:=zH hEC
        clear hIl hwC hEC hA11 hO11 hN11 B11 e6 p6 r6
        go_cut [] (fun wx=>∃ uy',XE x (.slice A2 x.moves.length C2) w2 g M (L ++ [s]) (L ++ [s]) (D ++ [d1]) (P ++ [(k:Int)]) (Y ++ [ls[i]]) ((t.patterns.take k).map (rowT x t)) (((ltrs x.moves.length).take i).map fun l=>idxL t.patterns (nxt x q l)) wx (.slice a9 n9 c9) ud2 (.slice a11 n11 c11) uy' un u8 (fs ++ [fue]) fn (f6 ++ f7) w6)
        case first=>
         go_region_law (first
          | (refine Zkk rfl _ _ 25 rfl w2.heap.size 2 iI _ Tryz.underlying25 hiI hzI0 hzI1 hzI2 rfl wC uy Y rfl HEC.out.by_ zA hBC _ 1 ls[i] rfl (lit1 wC _ _ rfl) HIl.out hlY ?_;intro v12 w12 hA12 hO12 hN12;obtain ⟨a12,n12,c12,rfl⟩:∃ a n c,v12 = Value.slice a n c:=(let ⟨a,c,hh⟩:=hA12.form;⟨a,_,c,hh⟩);have EA:=(HEC.out.keep ((Only.refl [] wC).alloc (.cells #[.int .i64 ls[i]] 2))).keep ((Only.refl [] _).drew);have B12:=EA.blkA (v:=uy) (i:=5) rfl (by decide) hO12;have e7:=B12.cell 7 rfl;have p7:=B12.frozen 7)
          | fail)
         all_goals go_wp2_with fail
         all_goals go_meet
         all_goals exact ⟨_,EA.push_uy hA12 hO12 hN12⟩
        case rest=>
         obtain ⟨wD,hnew⟩:∃ W,W = wc:=⟨_,rfl⟩
         subst hnew
         obtain ⟨uy2,hED⟩:=hcut
         have hBD:w2.heap.size<=wD.heap.size:=hED.on.size
         have HED:=zH hED
         clear hED r7 r7a hc6
         go_wp2_with (first
          | (at_builtin;refine Zap rfl _ _ 25 rfl w2.heap.size 2 iI _ Tryz.underlying25 hiI hzI0 hzI1 hzI2 rfl wD u8 _ rfl HED.out.rw_ (zO.alloc _) hBD wD.heap.size 1 (L.length:Int) rfl (lit1 wD _ _ rfl) HIz.out hrl ?_;intro v9 w9 hA9 hO9 hP9 hN9)
          | fail)
         have hE9:=XE.push_ur (HED.out.keep (zO.alloc _)) hA9 hO9 hN9
         rw [<- Hsn.out] at hE9
         exact ⟨⟨i + 1,L ++ [s],D ++ [d1],.slice a9 n9 c9,ud2,.slice a11 n11 c11,uy2,un,by go_num,by omega,by simp;omega,by simp;omega,by simp [HD.out],by rw [Zdn hlt];exact HqL.out,by rw [Zdn hkD];exact Hd1.out,HR2.out,P ++ [(k:Int)],Y ++ [ls[i]],fs ++ [fue],fn,by simp [HP.out],by simp [HY.out],hE9⟩,by simp [intOf];omega⟩
     ·obtain rfl:i = nbs.length:=by omega
      have hend:some (t.patterns,t.distances) = bFrom x (3001 - (k + 1)) (k + 1) (L,D):=by rw [HR.out,Hnl.out,List.drop_length];rfl
      have Hend:=zH hend
      have hrow:((ltrs x.moves.length).take nbs.length).map (fun l=>idxL t.patterns (nxt x q l)) = rowT x t q:=by
       rw [Hnl.out,Hls.out,List.take_length];rfl
      rw [hrow] at hE
      obtain ⟨r,hr⟩:∃ r,r = rowT x t q:=⟨_,rfl⟩
      rw [<- hr] at hE
      have hnx:(t.patterns.take (k + 1)).map (rowT x t) = (t.patterns.take k).map (rowT x t) ++ [r]:=by
       rw [Zac t.patterns k hkT,List.map_append,hr,Hq.out,Zab hkT];rfl
      have Hnx:=zH hnx
      obtain ⟨ar,cr,rfl⟩:=hE.rw_.form
      have y8:=hE.blk.cell 8 rfl
      have hEa:=hE.keep ((Only.refl [] W4).alloc (.cells #[.slice ar r.length cr] 25))
      have hB4:w2.heap.size<=W4.heap.size:=hE.on.size
      have hlN:((t.patterns.take k).map (rowT x t)).length + 1<=1073741824:=by
       have:=Hb.out.ll
       rw [List.length_map,List.length_take];omega
      have HE:=zH hE
      have HEa:=zH hEa
      clear hend hrow hr hnx hE hEa HR
      go_wp2_with (first
       | (at_builtin;refine Zfb rfl _ _ 22 rfl w2.heap.size 25 iL _ 24 Tryz.underlying22 hiL hzL0 hzL1 hzL2 rfl (by decide) (by decide) W4 un _ fn rfl HE.out.nx (zO.alloc _) hB4 W4.heap.size 1 [.slice ar r.length cr] r (Value.slice ar r.length cr).ownBlock.toList rfl (lit_src W4 [.slice ar r.length cr] _ rfl) (by intro u hu;simp at hu;subst hu;rfl) (HEa.out.rw_.rd) (fun b hb e=>HE.out.fam.disj 7 6 (by decide) rfl rfl b hb (by rw [e];simp)) hlN ?_;intro v9 w9 hA9 hO9 hP9 hQ9 hN9;obtain ⟨a9,n9,c9,rfl⟩:∃ a n c,v9 = Value.slice a n c:=(let ⟨a,c,hh⟩:=hA9.form;⟨a,_,c,hh⟩);clear hP9 hQ9;have B9:=HEa.out.blkA (v:=un) (i:=6) rfl (by decide) hO9;have z89:=B9.cell 8 rfl;have zp9:=B9.frozen 8)
       | fail)
      have hE9:=(HEa.out.push_un hA9 hO9 hN9).drop (W:=w5) (fun b hb=>(H6.out b hb).trans (HE3.out.kp b hb))
      rw [<- Hnx.out] at hE9
      exact ⟨⟨k + 1,L,D,us,ud,up,uy,.slice a9 n9 c9,by go_num,by omega,hL3,HD.out,Hend.out,P,Y,fs,_,HP.out,HY.out,hE9⟩,by simp [intOf];omega⟩
   ·obtain rfl:k = L.length:=by omega
    have hend:=HR.out.trans (Zmz hlt hL3)
    injection hend with hend
    injection hend with e1 e2
    have hX:Exp W3 x t (.pointer (some ⟨g,0,none⟩)):=by
     have b1:Rd W3 (.slice a7 L.length c7) t.patterns ((Value.slice a7 L.length c7).ownBlock.toList ++ fs.flatten):=by rw [e1];exact hE.st.rd (by decide)
     have b2:Rd W3 ud t.distances ud.ownBlock.toList:=by rw [e2];exact hE.dp.rd
     have b3:Rd W3 un (t.patterns.map (rowT x t)) (un.ownBlock.toList ++ fn.flatten):=by
      have h9:=hE.nx.rd (by decide)
      rwa [show t.patterns.take L.length = t.patterns by rw [<- e1,List.take_length]] at h9
     have b4:Mq W3 M L.length (firstG t.patterns):=by rw [e1];exact hE.mp
     exact ⟨g,M,.slice A2 x.moves.length C2,_,ud,up,uy,un,_,_,_,_,_,rfl,hE.blk,zK h0 K3,b1,b2,b3,b4⟩
    have HX:=zH hX
    clear hX hE e1 e2
    go_wp2
    exact bodyPost_ret (v:=.tuple #[.pointer (some ⟨g,0,none⟩),.bool true]) (by simp [results,Tryz.results112,go_sem]) rfl ⟨_,rfl,HX.out,K3⟩
def clP (x:Puzzle) (t:Table) (i:Nat) (l:Int):Bool:=decide (t.distances.getD (idxL t.patterns (nxt x (t.patterns.getD i []) l)).toNat 0 < t.distances.getD i 0)
def clL (x:Puzzle) (t:Table) (i:Nat) (ls:List Int):List Int:=ls.filter (clP x t i)
def clS (x:Puzzle) (t:Table) (i:Nat) (ls:List Int):List Int:=(clL x t i ls).map fun l=>idxL t.patterns (nxt x (t.patterns.getD i []) l)
theorem Zrg {α:Type} {p:α->Bool} {l:List α} {k:Nat} (hk:k < l.length) (h:∀ m (hm:m < k),p (l[m]'(Nat.lt_trans hm hk)) = false) (hp:p l[k] = true):∃ r,l.filter p = l[k] :: r:=by
 refine ⟨(l.drop (k + 1)).filter p,?_⟩
 have e:l = l.take k ++ l[k] :: l.drop (k + 1):=by rw [<- List.drop_eq_getElem_cons hk,List.take_append_drop]
 have h0:(l.take k).filter p = []:=by
  rw [List.filter_eq_nil_iff]
  intro a ha
  rw [List.mem_take_iff_getElem] at ha
  obtain ⟨m,hm,rfl⟩:=ha
  simp [h m (by omega)]
 conv=>lhs;rw [e]
 rw [List.filter_append,h0,List.nil_append,List.filter_cons_of_pos hp]
section
variable {x:Puzzle} {t:Table}
theorem Zei (hb:Built x t) {i:Nat} (hi:i < t.patterns.length) {l:Int} (hl:l∈ltrs x.moves.length):∃ j:Nat,j < t.patterns.length/\t.patterns.getD j [] = nxt x (t.patterns.getD i []) l/\idxL t.patterns (nxt x (t.patterns.getD i []) l) = j:=by
 obtain ⟨j,a,b,-,-⟩:=hb.step hi hl
 exact ⟨j,a,b,by rw [<- b];exact hb.idx a⟩
theorem Down.head (hb:Built x t) {i n k j:Nat} (hi:i < t.patterns.length) (hd:t.distances.getD i 0 = (n:Int) + 1) (h:Down x t i n k j) :
  ∃ r1 r2,clL x t i (ltrs x.moves.length) = (ltrs x.moves.length)[k]'h.hk :: r1/\clS x t i (ltrs x.moves.length) = (j:Int) :: r2:=by
 have hij:idxL t.patterns (nxt x (t.patterns.getD i []) ((ltrs x.moves.length)[k]'h.hk)) = j:=by rw [<- h.nx];exact hb.idx h.hj
 obtain ⟨r,hr⟩:=Zrg (p:=clP x t i) h.hk (fun m hm=>by
  obtain ⟨i',a,b,c⟩:=Zei hb hi (List.getElem_mem (Nat.lt_trans hm h.hk))
  unfold clP
  rw [c,Int.toNat_natCast,hd]
  have:=(h.no m hm i' a b).2
  simpa using this) (by
  unfold clP
  rw [hij,Int.toNat_natCast,h.ds,hd]
  exact decide_eq_true (by omega))
 refine ⟨r,r.map fun l=>idxL t.patterns (nxt x (t.patterns.getD i []) l),hr,?_⟩
 unfold clS clL
 rw [hr,List.map_cons,hij]
theorem Zqr (i:Nat) (ls:List Int) (l:Int):clL x t i (ls ++ [l]) = if clP x t i l = true then clL x t i ls ++ [l] else clL x t i ls:=by
 unfold clL
 rw [List.filter_append]
 by_cases h:clP x t i l = true
 ·rw [if_pos h,List.filter_cons_of_pos h];rfl
 ·rw [if_neg h,List.filter_cons_of_neg h];simp
theorem Zuf (i:Nat) (ls:List Int) (l:Int):clS x t i (ls ++ [l]) = if clP x t i l = true then clS x t i ls ++ [idxL t.patterns (nxt x (t.patterns.getD i []) l)] else clS x t i ls:=by
 unfold clS
 rw [Zqr]
 by_cases h:clP x t i l = true
 ·rw [if_pos h,if_pos h,List.map_append];rfl
 ·rw [if_neg h,if_neg h]
theorem Zuo (he:expl x = some t) {i:Nat} (hi:i < t.patterns.length):genB x.points (t.patterns.getD i []) = true:=by
 obtain ⟨hb,-⟩:=Zad he
 have hf:=Zae hb.v
 exact (Zfo hf.1 hf.2.1).2 (expl_pn he hi)
end
set_option maxHeartbeats 2000000 in
theorem Zfz (x:Puzzle) (t:Table) (v u:Value) (s:List Int) (f:List Nat) (i:Nat) (w:World) (h:Exp w x t v) (he:expl x = some t) (hu:Rd w u s f) (hi:i < t.patterns.length) (hs:t.patterns.getD i [] = s) :
  Calls Tryz.prog 113 #[v,u] w fun e w'=>e = .returned (.tuple #[.int .i64 i,.bool true])/\Only [] w w':=by
 obtain ⟨g,M,v2,us,ud,up,uy,un,fm,f1,f2,f3,k,rfl,hB,hp,-,-,-,hM⟩:=h
 obtain ⟨hb,-⟩:=Zad he
 have hg:genB x.points s = true:=by rw [<- hs];exact Zuo he hi
 have hsl:s.length<=1000:=by
  rw [<- hs,Zbc he hi]
  have:=Zae hb.v;omega
 have hkz:(kB s).size<=maxLen:=by rw [kB_size];unfold maxLen;omega
 have hmem:s∈t.patterns:=by rw [<- hs];exact hb.mem_of hi
 obtain ⟨i',-,e1,e2⟩:=pre_in he List.prefix_rfl hmem
 have hii:i' = i:=by have:=hb.idx hi;rw [hs] at this;omega
 rw [hii] at e2
 have Hfg:=zH e2
 clear hii e1
 have Hg:=zH hg
 obtain ⟨g0,g1,g2⟩:=hB.c3
 clear he hs hg hmem e2 hb
 go_enter Tryz.func113,Tryz.ntmps113
 go_wp2_with (first
  | (go_at_call 86;(with_reducible refine (Zbv [.int .i64 x.points,.string x.names,v2] x fm u s f _ (zK hp zA) (zK hu zA)).mono ?_);rintro e w1 ⟨he,t1⟩;rw [Hg.out] at he;subst he)
  | fail)
 have hu1:=zK hu t1
 have y5:=(hB.keep t1).cell 5 rfl
 go_region_held3 (fun w'=>Only [] w1 w'/\w'.cell? ⟨g,5,none⟩ = some (.map (some M))) (((refine and_of ?_ (fun q_=>q_.ce y5));first | exact zO.drew | exact (zO.drewN _).drew | exact Only.trans (And.left (by assumption)) (by assumption) | exact Only.alloc (And.left (by assumption)) _ | assumption)) (first | (go_at_call 160;(with_reducible refine (Zcx u s _ _ (zK hu1 (And.left (by assumption))) hsl).mono ?_);rintro e w5 ⟨rfl,t5⟩;have hO5:=Only.trans (And.left (by assumption)) t5;have hrun5:=(hM.keep (t1.trans hO5)).run_yes hkz Hfg.out) | fail)
 have hO:=t1.trans hO5
 go_wp2
 exact bodyPost_ret (v:=.tuple #[.int .i64 i,.bool true]) (by simp [results,Tryz.results113,go_sem]) rfl ⟨rfl,hO⟩
set_option maxHeartbeats 2000000 in
theorem find_no (x:Puzzle) (t:Table) (v u:Value) (s:List Int) (f:List Nat) (w:World) (h:Exp w x t v) (he:expl x = some t) (hu:Rd w u s f) (hs:s ∉ t.patterns) :
  Calls Tryz.prog 113 #[v,u] w fun e w'=>e = .returned (.tuple #[.int .i64 0,.bool false])/\Only [] w w':=by
 obtain ⟨g,M,v2,us,ud,up,uy,un,fm,f1,f2,f3,k,rfl,hB,hp,-,-,-,hM⟩:=h
 obtain ⟨hb,-⟩:=Zad he
 have hf:=Zae hb.v
 obtain ⟨g0,g1,g2⟩:=hB.c3
 rcases hg:genB x.points s
 ·have Hg:=zH hg
  clear he hs hg hb hf
  go_enter Tryz.func113,Tryz.ntmps113
  go_wp2_with (first
   | (go_at_call 86;(with_reducible refine (Zbv [.int .i64 x.points,.string x.names,v2] x fm u s f _ (zK hp zA) (zK hu zA)).mono ?_);rintro e w1 ⟨he,t1⟩;rw [Hg.out] at he;subst he)
   | fail)
  exact bodyPost_ret (v:=.tuple #[.int .i64 0,.bool false]) (by simp [results,Tryz.results113,go_sem]) rfl ⟨rfl,t1⟩
 ·have hpn:=(Zfo hf.1 hf.2.1).1 hg
  have hsl:s.length<=1000:=by rw [hpn.1];omega
  have hkz:(kB s).size<=maxLen:=by rw [kB_size];unfold maxLen;omega
  have hby:Byt s:=fun z hz=>by have:=hpn.2.1 z hz;rw [hpn.1] at this;omega
  have Hfg:=zH (pre_out he List.prefix_rfl hs hby)
  have Hg:=zH hg
  clear he hs hg hb hf hpn hby
  go_enter Tryz.func113,Tryz.ntmps113
  go_wp2_with (first
   | (go_at_call 86;(with_reducible refine (Zbv [.int .i64 x.points,.string x.names,v2] x fm u s f _ (zK hp zA) (zK hu zA)).mono ?_);rintro e w1 ⟨he,t1⟩;rw [Hg.out] at he;subst he)
   | fail)
  have hu1:=zK hu t1
  have y5:=(hB.keep t1).cell 5 rfl
  go_region_held3 (fun w'=>Only [] w1 w'/\w'.cell? ⟨g,5,none⟩ = some (.map (some M))) (((refine and_of ?_ (fun q_=>q_.ce y5));first | exact zO.drew | exact (zO.drewN _).drew | exact Only.trans (And.left (by assumption)) (by assumption) | exact Only.alloc (And.left (by assumption)) _ | assumption)) (first | (go_at_call 160;(with_reducible refine (Zcx u s _ _ (zK hu1 (And.left (by assumption))) hsl).mono ?_);rintro e w5 ⟨rfl,t5⟩;have hO5:=Only.trans (And.left (by assumption)) t5;have hrun5:=(hM.keep (t1.trans hO5)).run_no hkz Hfg.out) | fail)
  have hO:=t1.trans hO5
  go_wp2
  exact bodyPost_ret (v:=.tuple #[.int .i64 0,.bool false]) (by simp [results,Tryz.results113,go_sem]) rfl ⟨rfl,hO⟩
set_option maxHeartbeats 1000000 in
theorem Zfc (cs:List Value) (x:Puzzle) (fp:List Nat) (v:Value) (w:World) (h:Rp.rep w cs x fp) (he:expl x = none) :
  Calls Tryz.prog 64 #[.agg cs.toArray,v] w fun e w'=>e = .returned (.tuple #[.pointer none,.int .i64 0,.bool false])/\Only [] w w':=by
 have h0:=h
 obtain ⟨v2,rfl,p0,p1,h2⟩:=h
 have He:=zH he
 clear p0 p1 h2 he
 go_enter Tryz.func64,Tryz.ntmps64
 go_wp2_with (first
  | (go_at_call 112;(with_reducible refine (Zig [.int .i64 x.points,.string x.names,v2] x _ _ (zK h0 zA) He.out).mono ?_);rintro e w1 ⟨rfl,t1⟩)
  | fail)
 exact bodyPost_ret (v:=.tuple #[.pointer none,.int .i64 0,.bool false]) (by simp [results,Tryz.results64,go_sem]) rfl ⟨rfl,zA⟩
set_option maxHeartbeats 1000000 in
theorem Zgl (cs:List Value) (x:Puzzle) (t:Table) (fp:List Nat) (v:Value) (s:List Int) (fs:List Nat) (w:World) (h:Rp.rep w cs x fp) (hs:Rd w v s fs) (he:expl x = some t) (hn:s ∉ t.patterns) :
  Calls Tryz.prog 64 #[.agg cs.toArray,v] w fun e w'=>∃ z,e = .returned (.tuple #[z,.int .i64 0,.bool false])/\Only [] w w':=by
 have h0:=h
 obtain ⟨v2,rfl,p0,p1,h2⟩:=h
 have He:=zH he
 have Hn:=zH hn
 clear p0 p1 h2 he hn
 go_enter Tryz.func64,Tryz.ntmps64
 go_wp2_with (first
  | (go_at_call 112;(with_reducible refine (Zcs [.int .i64 x.points,.string x.names,v2] x t _ _ (zK h0 zA) He.out).mono ?_);rintro e w1 ⟨z,rfl,hX,t1⟩)
  | (go_at_call 113;(with_reducible refine (find_no x t z v s fs _ (hX.keep zA) He.out (zK hs zA) Hn.out).mono ?_);rintro e w2 ⟨rfl,t2⟩)
  | fail)
 exact bodyPost_ret (v:=.tuple #[z,.int .i64 0,.bool false]) (by simp [results,Tryz.results64,go_sem]) rfl ⟨z,rfl,zA⟩
set_option maxHeartbeats 1000000 in
theorem Zcc (cs:List Value) (x:Puzzle) (t:Table) (fp:List Nat) (v:Value) (s:List Int) (fs:List Nat) (i:Nat) (w:World) (h:Rp.rep w cs x fp) (hs:Rd w v s fs) (he:expl x = some t) (hi:i < t.patterns.length) (hn:t.patterns.getD i [] = s) :
  Calls Tryz.prog 64 #[.agg cs.toArray,v] w fun e w'=>∃ z,e = .returned (.tuple #[z,.int .i64 i,.bool true])/\Exp w' x t z/\Only [] w w':=by
 have h0:=h
 obtain ⟨v2,rfl,p0,p1,h2⟩:=h
 have He:=zH he
 have Hn:=zH hn
 clear p0 p1 h2 he hn
 go_enter Tryz.func64,Tryz.ntmps64
 go_wp2_with (first
  | (go_at_call 112;(with_reducible refine (Zcs [.int .i64 x.points,.string x.names,v2] x t _ _ (zK h0 zA) He.out).mono ?_);rintro e w1 ⟨z,rfl,hX,t1⟩)
  | (go_at_call 113;(with_reducible refine (Zfz x t z v s fs i _ (hX.keep zA) He.out (zK hs zA) hi Hn.out).mono ?_);rintro e w2 ⟨rfl,t2⟩)
  | fail)
 exact bodyPost_ret (v:=.tuple #[z,.int .i64 i,.bool true]) (by simp [results,Tryz.results64,go_sem]) rfl ⟨z,rfl,hX.keep zA,zA⟩
def negL (N:Nat) (D:List Int):Nat:=((List.range N).filter fun v=>decide (D.getD v 0 < 0)).length
theorem Zos {α:Type} (p:α->Bool):∀ l:List α,l.length = (l.filter p).length + (l.filter fun a=>!p a).length
 | []=>rfl
 | a :: l=>by
  have:=Zos p l
  cases h:p a <;> simp [h] <;> omega
section
variable {src:Nat->Bool} {row:Nat->List Nat} {N k:Nat} {done:List Nat} {s:MbS}
theorem MbI.neg_len (h:MbI src row N k done s):negL N s.1 + s.2.length = N:=by
 have h1:((List.range N).filter fun v=>!decide (s.1.getD v 0 < 0)).length = s.2.length:=by
  refine Nat.le_antisymm (PM.Zah (List.Nodup.sublist List.filter_sublist List.nodup_range) fun v hv=>?_) (PM.Zah h.nd fun v hv=>?_)
  ·rw [List.mem_filter,List.mem_range] at hv
   exact (h.mem v hv.1).2 (by have:=hv.2;simp at this;exact this)
  ·rw [List.mem_filter,List.mem_range]
   have h2:=h.rng v hv
   exact ⟨h2,by have:=(h.mem v h2).1 hv;simp;exact this⟩
 have h2:=Zos (fun v=>decide (s.1.getD v 0 < 0)) (List.range N)
 rw [List.length_range] at h2
 unfold negL
 omega
theorem MbI.below (h:MbI src row N k done s):∀ (m v:Nat),v < N->s.1.getD v 0 = m->∀ m',m'<=m->∃ u,u < N/\s.1.getD u 0 = (m':Int)
 | 0,v,hv,e,m',hm=>⟨v,hv,by rw [e];omega⟩
 | m + 1,v,hv,e,m',hm=>by
  rcases Nat.eq_or_lt_of_le hm with rfl | hm
  ·exact ⟨v,hv,e⟩
  ·obtain ⟨u,u1,-,-,u4⟩:=h.par v hv (by omega)
   exact h.below m u u1 (by omega) m' (by omega)
theorem MbI.bound (h:MbI src row N k done s) {v:Nat} (hv:v < N):s.1.getD v 0 < N:=by
 rcases Int.lt_or_le (s.1.getD v 0) 0 with h0 | h0
 ·omega
 ·obtain ⟨m,hm⟩:=Int.eq_ofNat_of_zero_le h0
  have h1:=h.below m v hv hm
  have hl:=h.dl
  have h2:((List.range (m + 1)).map fun (i:Nat)=>(i:Int)).length<=s.1.length:=by
   refine PM.Zah ?_ fun y hy=>?_
   ·exact List.pairwise_map.2 (List.nodup_range.imp fun {a b} hab e=>hab (by omega))
   ·obtain ⟨i,hi,rfl⟩:=List.mem_map.1 hy
    rw [List.mem_range] at hi
    obtain ⟨u,u1,u2⟩:=h1 i (by omega)
    rw [<- u2,Zab (by omega)]
    exact List.getElem_mem _
  rw [List.length_map,List.length_range] at h2
  omega
def srcD (src:Nat->Bool) (N k:Nat):List Int:=((List.range k).map fun i=>if src i = true then (0:Int) else -1) ++ List.replicate (N - k) (-1)
def srcQ (src:Nat->Bool) (k:Nat):List Int:=((List.range k).filter src).map fun (i:Nat)=>(i:Int)
theorem Zuy (hk:k<=N):(srcD src N k).length = N:=by unfold srcD;simp;omega
theorem Zsx:srcD src N 0 = List.replicate N (-1):=by unfold srcD;simp
theorem Zve:srcD src N N = (mSrc src N).1:=by unfold srcD mSrc;simp
theorem Zul (hk:k < N) (h:src k = true):srcD src N (k + 1) = (srcD src N k).set k 0:=by
 unfold srcD
 rw [List.range_succ,List.map_append,List.set_append_right _ _ (by simp)]
 have e:N - k = (N - (k + 1)) + 1:=by omega
 rw [e,List.replicate_succ]
 simp [h]
theorem srcD_no (hk:k < N) (h:src k = false):srcD src N (k + 1) = srcD src N k:=by
 unfold srcD
 rw [List.range_succ,List.map_append]
 have e:N - k = (N - (k + 1)) + 1:=by omega
 rw [e,List.replicate_succ]
 simp [h]
theorem Zpq (h:src k = true):srcQ src (k + 1) = srcQ src k ++ [(k:Int)]:=by
 unfold srcQ
 rw [List.range_succ,List.filter_append,List.map_append]
 simp [h]
theorem srcQ_no (h:src k = false):srcQ src (k + 1) = srcQ src k:=by
 unfold srcQ
 rw [List.range_succ,List.filter_append,List.map_append]
 simp [h]
theorem Zqi:(srcQ src k).length<=k:=by
 unfold srcQ
 rw [List.length_map]
 have:=List.length_filter_le src (List.range k)
 rwa [List.length_range] at this
theorem Zpn:srcQ src N = (mSrc src N).2.map fun (i:Nat)=>(i:Int):=rfl
theorem Zpb {v tt:Nat} (h:s.1.getD tt 0 < 0):mRel v s tt = (s.1.set tt (s.1.getD v 0 + 1),s.2 ++ [tt]):=by unfold mRel;rw [if_pos h]
theorem mRel_no {v tt:Nat} (h:¬ s.1.getD tt 0 < 0):mRel v s tt = s:=by unfold mRel;rw [if_neg h]
theorem Znm {α β:Type} (f:β->α->β) (l:List α) (j:Nat) (h:j < l.length) (b:β):(l.take (j + 1)).foldl f b = f ((l.take j).foldl f b) l[j]:=by
 rw [Zac l j h,List.foldl_append];rfl
theorem MbI.part {v:Nat} (h:MbI src row N k [] s) (hN:∀ v,v < N->∀ tt∈row v,tt < N) (hk:k < s.2.length) (hv:s.2.getD k 0 = v) (j:Nat) :
  MbI src row N k ((row v).take j) (((row v).take j).foldl (mRel v) s)/\k < (((row v).take j).foldl (mRel v) s).2.length/\(((row v).take j).foldl (mRel v) s).2.getD k 0 = v:=by
 have:=MbI.fold hN ((row v).take j) [] s v h hk hv (fun tt ht=>List.mem_of_mem_take ht)
 rwa [List.nil_append] at this
theorem Zii {l:List Nat} {k:Nat} (hk:k < l.length):l.drop k = l.getD k 0 :: l.drop (k + 1):=by
 rw [List.drop_eq_getElem_cons hk,List.getD_eq_getElem?_getD,List.getElem?_eq_getElem hk];rfl
end
end Go.Proofs.YtclhblofchfglaaGreat
