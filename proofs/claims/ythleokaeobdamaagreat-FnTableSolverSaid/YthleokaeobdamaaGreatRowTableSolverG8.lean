/- Session: plain data, how it lies in memory, the laws' own helpers on it. (Printed by gen_struct.py.) -/
import Derived.Test.YthleokaeobdamaaGreatRowTableSolverG2
import Derived.Test.YthleokaeobdamaaGreatRowTableSolverG7
import Derived.Test.YthleokaeobdamaaGreatRowTableSolverG1
import Derived.Test.YthleokaeobdamaaGreatRowTableSolverG3
import Derived.Test.YthleokaeobdamaaGreatRowTableSolverG6
import Derived.Deep.RegionHeld3
import Derived.Deep.DeepCutAuto
import Derived.StillTailTactics
import Derived.Deep.RegionLaw
import Derived.BigQuiet
namespace Go.Proofs.YthleokaeobdamaaGreat
open Go.RowKit
set_option maxRecDepth 10000
structure Session where
 puzzle:Puzzle
 state:List Int
 history:List (List Int)
 future:List (List Int)
def evW (n:Nat) (gens:List (List Int)) (w:List Int):List Int:=w.foldl (fun p l=>PM.comp p (mv gens l)) (PM.pts n)
theorem evW_nil (n:Nat) (gens:List (List Int)):evW n gens [] = PM.pts n:=rfl
theorem Zfb (n:Nat) (gens:List (List Int)) (w:List Int) (l:Int):evW n gens (w ++ [l]) = PM.comp (evW n gens w) (mv gens l):=by simp [evW]
theorem evW_pn {n:Nat} {gens:List (List Int)} (h:∀ g∈gens,PM.PN n g):∀ (w:List Int),(∀ l∈w,l∈ltrs gens.length)->PM.PN n (evW n gens w):=by
 intro w
 have:∀ (w:List Int) (p:List Int),PM.PN n p->(∀ l∈w,l∈ltrs gens.length)->PM.PN n (w.foldl (fun p l=>PM.comp p (mv gens l)) p):=by
  intro w
  induction w with
  | nil=>intro p hp _;exact hp
  | cons l w ih=>intro p hp hl;exact ih _ (hp.comp (mv_pn h (hl l (by simp)))) fun x hx=>hl x (by simp [hx])
 exact this w _ (PM.PN.id n)
theorem Zje {m:Nat} (hm:m<=8) {w:List Int} (h:validW m w = true):w.length<=200/\∀ l∈w,l∈ltrs m:=by
 unfold validW at h
 rw [Bool.and_eq_true,decide_eq_true_iff,List.all_eq_true] at h
 refine ⟨h.1,fun l hl=>?_⟩
 have:=Zea.1 (h.2 l hl)
 rw [Zaw];omega
section
variable {α:Type} [Rp α] {w w':World} {a:Option Addr} {cap:Nat} {xs:List α} {ob:List Nat} {fps:List (List Nat)}
end
theorem Fresh.repl {B:Nat} {w w':World} {pre mid mid' post fpw:List Nat} (h:Fresh B w (pre ++ (mid ++ post))) (ho:Only fpw w w') (hf:∀ b∈fpw,b∈mid) (F':Fresh B w' mid') (hs:∀ b∈mid',b∈mid\/w.heap.size<=b):Fresh B w' (pre ++ (mid' ++ post)):=by
 obtain ⟨n1,n2,n3⟩:=List.nodup_append.1 h.nd
 obtain ⟨n4,n5,n6⟩:=List.nodup_append.1 n2
 have lpre:∀ b∈pre,b < w.heap.size:=fun b hb=>h.lt b (List.mem_append_left _ hb)
 have lpost:∀ b∈post,b < w.heap.size:=fun b hb=>h.lt b (List.mem_append_right _ (List.mem_append_right _ hb))
 have dpre:∀ b∈pre,b ∉ mid:=fun b hb hm=>n3 b hb b (List.mem_append_left _ hm) rfl
 have dpost:∀ b∈post,b ∉ mid:=fun b hb hm=>n6 b hm b hb rfl
 have dpre':∀ b∈pre,b ∉ mid':=fun b hb hm=>by
  rcases hs b hm with h1 | h1
  ·exact dpre b hb h1
  ·have:=lpre b hb;omega
 have dpost':∀ b∈post,b ∉ mid':=fun b hb hm=>by
  rcases hs b hm with h1 | h1
  ·exact dpost b hb h1
  ·have:=lpost b hb;omega
 refine ⟨List.nodup_append.2 ⟨n1,List.nodup_append.2 ⟨F'.nd,n5,fun a ha b hb e=>?_⟩,fun a ha b hb e=>?_⟩,fun b hb=>?_,?_⟩
 ·subst e;exact dpost' a hb ha
 ·subst e
  rcases List.mem_append.1 hb with hb | hb
  ·exact dpre' a ha hb
  ·exact n3 a ha a (List.mem_append_right _ hb) rfl
 ·rcases List.mem_append.1 hb with hb | hb
  ·exact h.ge b (List.mem_append_left _ hb)
  ·rcases List.mem_append.1 hb with hb | hb
   ·exact F'.ge b hb
   ·exact h.ge b (List.mem_append_right _ (List.mem_append_right _ hb))
 ·exact (h.left.own.only ho fun b hb hm=>dpre b hb (hf b hm)).append (F'.own.append (h.right.right.own.only ho fun b hb hm=>dpost b hb (hf b hm)))
set_option maxHeartbeats 1000000 in
theorem Znx (v:Value) (gens:List (List Int)) (l:Int) (fp:List Nat) (w:World) (h:Rd w v gens fp) (hg:∀ g∈gens,PM.IsP g/\g.length<=1000) (hl:l∈ltrs gens.length) (hn:gens.length<=1000) :
  Calls Tryz.prog 143 #[v,.int .i64 l] w fun e w'=>∃ v fp',e = .returned v/\Rd w' v (mv gens l) fp'/\(∀ b∈fp',b∈fp\/w.heap.size<=b)/\Only [] w w':=by
 obtain ⟨a,cap,ob,fps,rfl,rfl,hs⟩:=h.open_
 have hb:=hs.bound
 rcases Zca hl with ⟨k,hk,rfl⟩ | ⟨k,hk,rfl⟩
 ·have hm:=mv_pos rfl hk
  have Hm:=zH hm;clear hm
  obtain ⟨b,off,u,rfl,-,hc,hu⟩:=hs.atRow k hk
  have e1:wrap64 ((k:Int) + 1 - 1) = (k:Int):=Zda _ (by omega) (by omega) |>.trans (by omega)
  have e2:¬ (k:Int) + 1 < 0:=by omega
  go_enter Tryz.func143,Tryz.ntmps143
  go_wp2
  go_ret
  refine ⟨_,rfl,_,by rw [Hm.out];exact hu,fun b' hb'=>?_,zA⟩
  left
  right
  exact ⟨_,List.getElem_mem _,hb'⟩
 ·have hm:=mv_neg rfl hk
  have Hm:=zH hm;clear hm
  obtain ⟨b,off,u,rfl,-,hc,hu⟩:=hs.atRow k hk
  have e1:wrap64 (wrap64 (-(-((k:Int) + 1))) - 1) = (k:Int):=by
   rw [Zda (-(-((k:Int) + 1))) (by omega) (by omega),Zda _ (by omega) (by omega)];omega
  have e2:-((k:Int) + 1) < 0:=by omega
  have hg2:=hg _ (List.getElem_mem hk)
  go_enter Tryz.func143,Tryz.ntmps143
  go_wp2_with ((go_at_call 201;(with_reducible refine (Zge u gens[k] _ _ hu hg2.1 hg2.2).mono ?_);rintro e w2 ⟨u2,f2,rfl,r2,F2,t2⟩))
  go_ret
  exact ⟨_,_,rfl,by rw [Hm.out];exact r2,fun b' hb'=>.inr (F2.ge b' hb'),zA⟩
set_option maxHeartbeats 1000000 in
theorem Zjv (n:Nat) (hn:n<=20) (vg vl:Value) (gens:List (List Int)) (l:List Int) (fg fl:List Nat) (w:World) (hg:Rd w vg gens fg) (hl:Rd w vl l fl) (hpn:∀ g∈gens,PM.PN n g) (hgl:gens.length<=1000) (hlt:∀ x∈l,x∈ltrs gens.length) :
  Calls Tryz.prog 80 #[.int .i64 n,vg,vl] w fun e w'=>∃ v fp',e = .returned v/\Rd w' v (evW n gens l) fp'/\Fresh w.heap.size w' fp'/\Only [] w w':=by
 obtain ⟨a,cap,rfl,IL⟩:=hl.ints
 have hb:=IL.bound
 have hg':∀ g∈gens,PM.IsP g/\g.length<=1000:=fun g hg=>⟨(hpn g hg).2,by have:=(hpn g hg).1;omega⟩
 have Hg':=zH hg'
 have Hpn:=zH hpn
 have Hlt:=zH hlt
 have Hg:=zH hg
 clear hg' hpn hlt hl hg
 go_enter Tryz.func80,Tryz.ntmps80
 go_wp2_with (first | (go_at_call 74;(with_reducible refine (Zbn n _ (by omega)).mono ?_);rintro en w1 ⟨v1,f1,rfl,r1,F1,t1⟩) | fail)
 go_loopw [7,8] (fun s i wr=>∃ (j:Nat) (f:List Nat),j<=l.length/\i = .int .i64 j/\Rd wr s (evW n gens (l.take j)) f/\Fresh w.heap.size wr f/\Only [] w wr)
  (fun _ i _=>l.length - (intOf i).toNat)
 case atStart=>exact ⟨0,f1,Nat.zero_le _,rfl,r1,F1,t1⟩
 case round=>
  obtain ⟨W2,hnew⟩:∃ W,W = wr:=⟨_,rfl⟩
  subst hnew
  obtain ⟨j,f,hj,rfl,hr,hF,hK⟩:=hrel
  by_cases hlt:j < l.length
  ·obtain ⟨b,off,rfl,-,hc0⟩:=IL.at_ j hlt
   have hc:=hK.cell (by simp) hc0
   have hll:=Hlt.out l[j] (List.getElem_mem _)
   have hp:=evW_pn Hpn.out (l.take j) fun x hx=>Hlt.out x (List.mem_of_mem_take hx)
   have hq:=mv_pn Hpn.out hll
   have hst:evW n gens (l.take (j + 1)) = PM.comp (evW n gens (l.take j)) (mv gens l[j]):=by rw [Zab l j hlt,Zfb]
   have Hst:=zH hst
   have Hll:=zH hll
   have Hp:=zH hp
   have Hq:=zH hq
   have HK:=zH hK
   have Hr:=zH hr
   have HF:=zH hF
   clear hc0 hll hp hq hK hr hF hst
   go_wp2_with (first
    | (go_at_call 143;(with_reducible refine (Znx _ gens l[j] _ _ (zK Hg.out HK.out) Hg'.out Hll.out hgl).mono ?_);rintro en w3 ⟨v3,f3,rfl,r3,hf3,t3⟩)
    | (go_at_call 79;(with_reducible refine (Zbg n _ _ _ _ _ _ _ (zK Hr.out t3) r3 Hp.out Hq.out (by omega)).mono ?_);rintro en w4 ⟨v4,f4,rfl,r4,F4,t4⟩)
    | fail)
   go_roundw
   case rel=>exact ⟨j + 1,f4,by omega,by go_num,by rw [Hst.out];exact r4,F4.mono (Nat.le_trans HK.out.size t3.size),HK.out.trans (t3.trans t4)⟩
   case measure=>simp [intOf];omega
  ·obtain rfl:j = l.length:=by omega
   rw [List.take_length] at hr
   have Hr:=zH hr
   clear hr
   go_wp2
   go_ret
   exact ⟨_,f,rfl,Hr.out,hF,hK⟩
theorem Zmj (n:Int) (h0:1<=n) (hn:n<=20) (vg vl:Value) (gens:List (List Int)) (l:List Int) (fg fl:List Nat) (w:World) (hg:Rd w vg gens fg) (hl:Rd w vl l fl) (hpn:∀ g∈gens,PM.PN n.toNat g) (hgl:gens.length<=1000) (hlt:∀ x∈l,x∈ltrs gens.length) :
  Calls Tryz.prog 80 #[.int .i64 n,vg,vl] w fun e w'=>∃ v fp',e = .returned v/\Rd w' v (evW n.toNat gens l) fp'/\Fresh w.heap.size w' fp'/\Only [] w w':=by
 obtain ⟨m,rfl⟩:=Int.eq_ofNat_of_zero_le (by omega:0<=n)
 exact Zjv m (by omega) vg vl gens l fg fl w hg hl hpn hgl hlt
def appW (x:Puzzle) (s l:List Int):List Int:=PM.comp s (evW x.points.toNat x.moves l)
section
variable {B:Nat} {e:TypeId} {w:World} {v:Value} {l:List (List Int)} {fs:List (List Nat)}
end
section
variable {B:Nat} {w w':World} {a b c d m' fpw:List Nat}
theorem Fresh.at3 (h:Fresh B w (a ++ (b ++ (c ++ d)))) (ho:Only fpw w w') (hf:∀ x∈fpw,x∈c) (F':Fresh B w' m') (hs:∀ x∈m',x∈c\/w.heap.size<=x):Fresh B w' (a ++ (b ++ (m' ++ d))):=by
 have:=Fresh.repl (pre:=a ++ b) (mid:=c) (post:=d) (by simpa [List.append_assoc] using h) ho hf F' hs
 simpa [List.append_assoc] using this
theorem Fresh.at4 (h:Fresh B w (a ++ (b ++ (c ++ d)))) (ho:Only fpw w w') (hf:∀ x∈fpw,x∈d) (F':Fresh B w' m') (hs:∀ x∈m',x∈d\/w.heap.size<=x):Fresh B w' (a ++ (b ++ (c ++ m'))):=by
 have:=Fresh.repl (pre:=a ++ (b ++ c)) (mid:=d) (post:=[]) (by simpa [List.append_assoc] using h) ho hf F' hs
 simpa [List.append_assoc] using this
theorem Fresh.parts (h:Fresh B w (a ++ (b ++ (c ++ d)))):(∀ x∈a,x ∉ c/\x ∉ d)/\(∀ x∈b,x ∉ c/\x ∉ d)/\(∀ x∈c,x ∉ d):=by
 have n1:=List.nodup_append.1 h.nd
 have n2:=List.nodup_append.1 n1.2.1
 have n3:=List.nodup_append.1 n2.2.1
 refine ⟨fun x hx=>⟨fun hm=>n1.2.2 x hx x (by simp [hm]) rfl,fun hm=>n1.2.2 x hx x (by simp [hm]) rfl⟩,fun x hx=>⟨fun hm=>n2.2.2 x hx x (by simp [hm]) rfl,fun hm=>n2.2.2 x hx x (by simp [hm]) rfl⟩,fun x hx hm=>n3.2.2 x hx x hm rfl⟩
end
theorem Zoo {P:Program} {ops:Array Oper} {o:Oper} {a:Act} {w:World} {K:Act->World->Prop} {Q:Exit->Act->World->Prop} {E:Prop} (hgd:o.guard = none) (d s:Operand) (dT sT:TypeId)
  (ho:o.op = .call { callee:=.builtin .copy,args:=#[d,s],argTypes:=#[dT,sT] }) (elem:TypeId) (hu:P.underlying dT = some (.slice elem)) (hsz:(P.info? elem).map (·.size) = some 1)
  (dp sp:Option Addr) (dLen dCap sLen sCap:Nat) (hd:a.eval d = .slice dp dLen dCap) (hs:a.eval s = .slice sp sLen sCap)
  (g off:Nat) (cur:List Value) (t:TypeId) (hg:w.heap[g]? = some (.cells cur.toArray t (0,0))) (cs:List Value) (hn:cs.length = Nat.min sLen dLen)
  (hpos:0 < cs.length->dp = some ⟨g,off,none⟩/\∃ ad,sp = some ad/\∀ j v,cs[j]? = some v->w.cell? (ad.add j) = some v)
  (hfit:off + cs.length<=cur.length) (h1:∀ v∈cs,v.oneCell' = true)
  (h:∀ w',w'.heap[g]? = some (.cells (splice cur off cs).toArray t (0,0))->Only [g] w w'->K (a.put o.dst (goInt cs.length)) w') :
  if Region.wanted o (yielded ops a.tmps) = true then Oper.wp P o a w K Q else E:=by
 have hw:Region.wanted o (yielded ops a.tmps) = true:=by simp [Region.wanted,hgd]
 rw [if_pos hw]
 by_cases h0:cs.length = 0
 ·obtain rfl:cs = []:=List.eq_nil_of_length_eq_zero h0
  have hrun:=run_copy_none (P:=P) w dT sT o.type elem dp sp dLen dCap sLen sCap hu hsz (by simpa using hn.symm)
  unfold Oper.wp
  simp [execOp,ho,resolve,invoke,builtin,hd,hs,hrun,Result.andThen]
  exact h w (by simpa [splice] using hg) zO
 ·obtain ⟨rfl,ad,rfl,hsrc⟩:=hpos (by omega)
  have hrun:=run_copy_row (P:=P) w dT sT o.type elem g off dLen dCap ad sLen sCap cur.toArray t cs hu hsz hg hn hsrc (by simpa using hfit) h1
  unfold Oper.wp
  simp [execOp,ho,resolve,invoke,builtin,hd,hs,hrun,Result.andThen]
  refine h _ (by simpa [splice] using setRow_heap w g _ _ t _ hg) ⟨rfl,rfl,rfl,by simp [World.setRow],fun k _ hk=>setRow_other w g k _ (fun e=>hk (by simp [e]))⟩
theorem Zqr {α:Type} (l:List α) (off n:Nat) (cs:List α) (h:off + cs.length<=n) (hl:n<=l.length):(splice l off cs).take n = splice (l.take n) off cs:=by
 unfold splice
 apply List.ext_getElem?
 intro i
 by_cases h1:i < off
 ·rw [List.getElem?_take_of_lt (by omega),List.getElem?_append_left (by simp;omega),List.getElem?_append_left (by simp;omega),List.getElem?_take_of_lt h1,List.getElem?_take_of_lt h1,List.getElem?_take_of_lt (by omega)]
 ·have e1:(l.take off).length = off:=by simp;omega
  have e2:((l.take n).take off).length = off:=by simp;omega
  by_cases h2:i < n
  ·rw [List.getElem?_take_of_lt h2,List.getElem?_append_right (l₁:=l.take off) (by omega),List.getElem?_append_right (l₁:=(l.take n).take off) (by omega),e1,e2]
   by_cases h3:i - off < cs.length
   ·rw [List.getElem?_append_left h3,List.getElem?_append_left h3]
   ·rw [List.getElem?_append_right (l₁:=cs) (by omega),List.getElem?_append_right (l₁:=cs) (by omega),List.getElem?_drop,List.getElem?_drop,List.getElem?_take_of_lt (by omega)]
  ·rw [List.getElem?_eq_none (by simp;omega),List.getElem?_eq_none (by simp;omega)]
theorem Zmu {w w':World} {B:Nat} {e:TypeId} {g n c:Nat} {xs cur:List Value} (hO:w.ownsRow B e 1 (.slice (some ⟨g,0,none⟩) n c) n xs) (hg:w.heap[g]? = some (.cells cur.toArray e (0,0)))
  {off:Nat} {cs:List Value} (hf:off + cs.length<=n) (hg':w'.heap[g]? = some (.cells (splice cur off cs).toArray e (0,0))):w'.ownsRow B e 1 (.slice (some ⟨g,0,none⟩) n c) n (splice xs off cs):=by
 rcases hO.2 with ⟨h0,-⟩ | ⟨g2,c2,cur2,hv,hb,hg2,h1,h2,h3,h4⟩
 ·cases h0
 ·injection hv with hv _ hc;injection hv with hv;injection hv with hv _ _
  subst hv;subst hc
  rw [hg2] at hg;injection hg with hg;injection hg with hg _ _;subst hg
  have hcl:cur.length = c:=by simpa using h3
  have hx:=hO.1
  simp only [Nat.mul_one] at hx h4
  refine ⟨by rw [length_splice _ _ _ (by omega)];omega,.inr ⟨g,c,_,rfl,hb,hg',h1,h2,?_,?_⟩⟩
  ·simp only [List.size_toArray,Nat.mul_one]
   rw [length_splice _ _ _ (by omega),hcl]
  ·simp only [Nat.mul_one]
   rw [Zqr _ _ _ _ hf (by omega)]
   rw [<- h4]
theorem Ztz {α:Type} (l:List α) (z x:α) (k:Nat) (hk:k<=l.length):(splice (l ++ [z]) (k + 1) (l.drop k)).set k x = l.take k ++ x :: l.drop k:=by
 have hl:(splice (l ++ [z]) (k + 1) (l.drop k)).length = l.length + 1:=by rw [length_splice _ _ _ (by simp;omega)];simp
 apply List.ext_getElem?
 intro i
 have e1:((l ++ [z]).take (k + 1)).length = k + 1:=by simp;omega
 have e2:(l.take k).length = k:=by simp;omega
 by_cases h1:i < k
 ·rw [List.getElem?_set_ne (by omega)]
  unfold splice
  rw [List.getElem?_append_left (by omega),List.getElem?_append_left (by omega),List.getElem?_take_of_lt (by omega),List.getElem?_take_of_lt h1,List.getElem?_append_left (by omega)]
 ·by_cases h2:i = k
  ·subst h2
   rw [List.getElem?_set_self (by omega),List.getElem?_append_right (by omega),e2,Nat.sub_self];rfl
  ·rw [List.getElem?_set_ne (by omega)]
   unfold splice
   rw [List.getElem?_append_right (l₁:=(l ++ [z]).take (k + 1)) (by omega),List.getElem?_append_right (l₁:=l.take k) (by omega),e1,e2,show i - k = (i - (k + 1)) + 1 by omega,List.getElem?_cons_succ]
   by_cases h3:i - (k + 1) < (l.drop k).length
   ·rw [List.getElem?_append_left h3]
   ·rw [List.getElem?_append_right (by omega),List.getElem?_drop,List.getElem?_eq_none (by simp at h3 ⊢;omega),List.getElem?_eq_none (by omega)]
structure SrO (B:Nat) (w:World) (v1 v2 v3:Value) (L:List (List Int)) (D si:List Int) (fs:List (List Nat)) (f:List Nat):Prop where
 acc:Acc B 27 w v1 L fs
 dep:w.ownsRow B 2 1 v2 D.length (D.map (Value.int .i64))
 srt:w.ownsRow B 3 1 v3 si.length (si.map (Value.int .i64))
 fr:Fresh B w (v1.ownBlock.toList ++ ((fs.flatten ++ f) ++ (v2.ownBlock.toList ++ v3.ownBlock.toList)))
section
variable {B:Nat} {w w':World} {v1 v2 v3 v1' v2' v3':Value} {L:List (List Int)} {D si D' si':List Int} {fs:List (List Nat)} {f fp:List Nat}
theorem SrO.only (h:SrO B w v1 v2 v3 L D si fs f) (ho:Only fp w w') (hd:∀ b∈v1.ownBlock.toList ++ ((fs.flatten ++ f) ++ (v2.ownBlock.toList ++ v3.ownBlock.toList)),b ∉ fp):SrO B w' v1 v2 v3 L D si fs f:=
 ⟨h.acc.only ho (fun b hb=>hd b (by simp [hb])) (fun g hg=>hd g (by simp [hg])),Zbd h.dep ho (fun g hg=>hd g (by simp [hg])),Zbd h.srt ho (fun g hg=>hd g (by simp [hg])),h.fr.only ho hd⟩
theorem SrO.keep (h:SrO B w v1 v2 v3 L D si fs f) (ho:Only [] w w'):SrO B w' v1 v2 v3 L D si fs f:=h.only ho (by simp)
theorem SrO.set3 (h:SrO B w v1 v2 v3 L D si fs f) (ho:Only v3.ownBlock.toList w w') (hO:w'.ownsRow B 3 1 v3' si'.length (si'.map (Value.int .i64))) (hb:∀ x∈v3'.ownBlock.toList,x∈v3.ownBlock.toList\/w.heap.size<=x):SrO B w' v1 v2 v3' L D si' fs f:=by
 obtain ⟨p1,p2,p3⟩:=h.fr.parts
 exact ⟨h.acc.only ho (fun b hb=>(p2 b (by simp [hb])).2) (fun g hg=>(p1 g (by simp [hg])).2),Zbd h.dep ho (fun g hg=>p3 g (by simp [hg])),hO,h.fr.at4 ho (fun _ hx=>hx) (Zcg hO) hb⟩
theorem SrO.set2 (h:SrO B w v1 v2 v3 L D si fs f) (ho:Only v2.ownBlock.toList w w') (hO:w'.ownsRow B 2 1 v2' D'.length (D'.map (Value.int .i64))) (hb:∀ x∈v2'.ownBlock.toList,x∈v2.ownBlock.toList\/w.heap.size<=x):SrO B w' v1 v2' v3 L D' si fs f:=by
 obtain ⟨p1,p2,p3⟩:=h.fr.parts
 exact ⟨h.acc.only ho (fun b hb=>(p2 b (by simp [hb])).1) (fun g hg=>(p1 g (by simp [hg])).1),hO,Zbd h.srt ho (fun g hg hm=>p3 g hm (by simp [hg])),h.fr.at3 ho (fun _ hx=>hx) (Zcg hO) hb⟩
theorem SrO.set1 {s:List Int} (h:SrO B w v1 v2 v3 L D si fs f) (ho:Only v1.ownBlock.toList w w') (hA:Acc B 27 w' v1' (L ++ [s]) (fs ++ [f])) (hb:∀ x∈v1'.ownBlock.toList,x∈v1.ownBlock.toList\/w.heap.size<=x):SrO B w' v1' v2 v3 (L ++ [s]) D si (fs ++ [f]) []:=by
 obtain ⟨n1,n2,n3⟩:=List.nodup_append.1 h.fr.nd
 refine ⟨hA,Zbd h.dep ho (fun g hg hm=>n3 g hm g (by simp [hg]) rfl),Zbd h.srt ho (fun g hg hm=>n3 g hm g (by simp [hg]) rfl),?_⟩
 obtain ⟨css,hown,-,-⟩:=hA.own
 have:=Fresh.repl (pre:=[]) (mid:=v1.ownBlock.toList) (mid':=v1'.ownBlock.toList) (post:=(fs.flatten ++ f) ++ (v2.ownBlock.toList ++ v3.ownBlock.toList)) h.fr ho (fun _ hx=>hx) (Zcg hown) hb
 simpa using this
theorem SrO.lt (h:SrO B w v1 v2 v3 L D si fs f):∀ b∈v1.ownBlock.toList ++ ((fs.flatten ++ f) ++ (v2.ownBlock.toList ++ v3.ownBlock.toList)),B<=b/\b < w.heap.size:=fun b hb=>⟨h.fr.ge b hb,h.fr.lt b hb⟩
end
theorem Tryz.infoInt:(Tryz.prog.info? 3).map (fun i=>(i.zero,i.size,i.bytes)) = some (some (.int .i64 0),1,8):=by kernel_rfl
theorem SrO.srR {B:Nat} {w:World} {A1 A2 A3:Option Addr} {C1 C2 C3:Nat} {L:List (List Int)} {D:List Int} {so:List Nat} {fs:List (List Nat)} {f:List Nat} (h:SrO B w (.slice A1 L.length C1) (.slice A2 D.length C2) (.slice A3 so.length C3) L D (soI so) fs f)
  (hD:∀ x∈D,I64 x) (hs:∀ i∈so,i<=3000):∃ ob fps fd fz,SrR w A1 A2 A3 C1 C2 C3 L D so ob fps fd fz:=by
 obtain ⟨a,c,ob,fps,hv,-,hS⟩:=(h.acc.rd (by decide)).open_
 injection hv with h1 _ h2;subst h1;subst h2
 obtain ⟨a2,c2,hv2,-,hI2,-⟩:=Zba h.dep hD
 injection hv2 with h1 _ h2;subst h1;subst h2
 have hs':∀ x∈soI so,I64 x:=fun x hx=>by
  obtain ⟨i,hi,rfl⟩:=List.mem_map.1 hx
  have:=hs i hi
  unfold I64;omega
 obtain ⟨a3,c3,hv3,-,hI3,-⟩:=Zba h.srt hs'
 injection hv3 with h1 _ h2;subst h1;subst h2
 exact ⟨ob,fps,_,_,hS,hI2,hI3⟩
theorem SrO.srR2 {B:Nat} {w:World} {A1 A2 A3:Option Addr} {C1 C2 C3:Nat} {L:List (List Int)} {D:List Int} {so:List Nat} {fs:List (List Nat)} {f:List Nat} (h:SrO B w (.slice A1 L.length C1) (.slice A2 D.length C2) (.slice A3 so.length C3) L D (soI so) fs f)
  (hD:∀ x∈D,I64 x) (hs:∀ i∈so,i<=3000):∃ ob fps fd fz,SrR w A1 A2 A3 C1 C2 C3 L D so ob fps fd fz/\∀ g∈(ob ++ fps.flatten) ++ (fd ++ fz),B<=g:=by
 obtain ⟨a,c,ob,fps,hv,hfp,hS⟩:=(h.acc.rd (by decide)).open_
 injection hv with h1 _ h2;subst h1;subst h2
 obtain ⟨a2,c2,hv2,-,hI2,hF2⟩:=Zba h.dep hD
 injection hv2 with h1 _ h2;subst h1;subst h2
 have hs':∀ x∈soI so,I64 x:=fun x hx=>by
  obtain ⟨i,hi,rfl⟩:=List.mem_map.1 hx
  have:=hs i hi
  unfold I64;omega
 obtain ⟨a3,c3,hv3,-,hI3,hF3⟩:=Zba h.srt hs'
 injection hv3 with h1 _ h2;subst h1;subst h2
 refine ⟨ob,fps,_,_,⟨hS,hI2,hI3⟩,fun g hg=>?_⟩
 rcases List.mem_append.1 hg with hg | hg
 ·rw [<- hfp] at hg
  refine h.fr.ge g ?_
  simp only [List.mem_append] at hg ⊢
  rcases hg with hg | hg
  ·exact .inl hg
  ·exact .inr (.inl (.inl hg))
 ·rcases List.mem_append.1 hg with hg | hg
  ·exact hF2.ge g hg
  ·exact hF3.ge g hg
theorem Ztq (g k j:Nat):(⟨g,k,none⟩:Addr).add j = ⟨g,k + j,none⟩:=by unfold Addr.add;split <;> simp_all
theorem ob_sub {a b:Option Nat} {n:Nat} (h:a = b\/a = some n):∀ x∈a.toList,x∈b.toList\/n<=x:=by
 intro x hx
 rcases h with rfl | rfl
 ·exact .inl hx
 ·right;simp at hx;omega
theorem Zsh {w:World} {B:Nat} {e:TypeId} {v:Value} {n s:Nat} {xs:List Value} (h:w.ownsRow B e s v n xs):∃ a c,v = .slice a n c:=by
 rcases h.2 with ⟨rfl,rfl⟩ | ⟨g,cap,cur,rfl,-⟩
 ·exact ⟨_,_,rfl⟩
 ·exact ⟨_,_,rfl⟩
theorem own_pos {w:World} {B:Nat} {e:TypeId} {v:Value} {n:Nat} {xs:List Value} (h:w.ownsRow B e 1 v (n + 1) xs) :
  ∃ g c cur,v = .slice (some ⟨g,0,none⟩) (n + 1) c/\w.heap[g]? = some (.cells (List.toArray cur) e (0,0))/\n + 1<=c/\c<=maxLen/\cur.length = c/\cur.take (n + 1) = xs:=by
 rcases h.2 with ⟨-,h0⟩ | ⟨g,c,cur,rfl,-,hg,h1,h2,h3,h4⟩
 ·omega
 ·exact ⟨g,c,cur.toList,rfl,by simpa using hg,h1,h2,by simpa using h3,by simpa using h4⟩
theorem Zpf {P:Program} {α:Type} [Rp α] {ops:Array Oper} {rest:List Oper} {o:Oper} {a:Act} {w:World} {Q:Exit->Act->World->Prop} (hgd:o.guard = none) (s x:Operand) (t:TypeId)
  (ho:o.op = .call { callee:=.builtin .append,args:=#[s,x],argTypes:=#[t,t] })
  (B:Nat) (e:TypeId) (i:TypeInfo) (z:Value) (bytes:Nat) (ht:P.underlying t = some (.slice e)) (hi:P.info? e = some i) (hz:i.zero = some z)
  (hsize:i.size = Rp.size α) (hby:i.bytes = bytes) (hzs:z.cells.size = Rp.size α) (hsz:0 < Rp.size α) (hbb:bytes<=65536)
  (w0:World) (v:Value) (l:List α) (fs:List (List Nat)) (hs:a.eval s = v) (hA:Acc B e w0 v l fs) (hK0:Only [] w0 w) (hB:B<=w0.heap.size)
  (g c:Nat) (cs:List Value) (y:α) (fp:List Nat) (hx:a.eval x = .slice (some ⟨g,0,none⟩) 1 c) (hsrc:∀ j u,cs[j]? = some u->w.cell? ⟨g,j,none⟩ = some u) (hcs:∀ u∈cs,u.oneCell' = true)
  (hy:Rp.rep w cs y fp) (hap:∀ b∈fp,v.ownBlock ≠ some b) (hlen:l.length + 1<=1073741824)
  (h:∀ v' w',Acc B e w' v' (l ++ [y]) (fs ++ [fp])->Only v.ownBlock.toList w w'->(v'.ownBlock = v.ownBlock\/v'.ownBlock = some w.heap.size)->wpList P ops Q rest (a.put o.dst v') w'):wpList P ops Q (o :: rest) a w:=
 wpList_plain hgd fun _ hK=>Zei s x t ho B e i z bytes ht hi hz hsize hby hzs hsz hbb w0 v l fs hs hA hK0 hB g c cs y fp hx hsrc hcs hy hap hlen fun v' w' h1 h2 _ _ h5=>hK _ _ (h v' w' h1 h2 h5)
structure St (w0:World) (V:List Nat) (B:Nat) (w:World) (v1 v2 v3:Value) (L:List (List Int)) (D si:List Int) (fs:List (List Nat)) (f:List Nat):Prop where
 so:SrO B w v1 v2 v3 L D si fs f
 ap:∀ b∈v1.ownBlock.toList ++ ((fs.flatten ++ f) ++ (v2.ownBlock.toList ++ v3.ownBlock.toList)),b < w0.heap.size\/w0.heap.size + 2<=b
 on:Only V w0 w
 iv:∀ b∈v1.ownBlock.toList ++ (v2.ownBlock.toList ++ v3.ownBlock.toList),b∈V\/w0.heap.size<=b
 sz:w0.heap.size + 2<=w.heap.size
section
variable {w0:World} {V:List Nat} {B:Nat} {w w':World} {v1 v2 v3 v1' v2' v3':Value} {L:List (List Int)} {D si D' si':List Int} {fs:List (List Nat)} {f fp:List Nat}
theorem St.keep (h:St w0 V B w v1 v2 v3 L D si fs f) (ho:Only [] w w'):St w0 V B w' v1 v2 v3 L D si fs f:=
 ⟨h.so.keep ho,h.ap,h.on.then_ ho (by simp),h.iv,Nat.le_trans h.sz ho.size⟩
theorem St.box (h:St w0 V B w v1 v2 v3 L D si fs f) (ho:Only fp w w') (hf:∀ b∈fp,b = w0.heap.size\/b = w0.heap.size + 1):St w0 V B w' v1 v2 v3 L D si fs f:=
 ⟨h.so.only ho (fun b hb hm=>by have:=h.ap b hb;have:=hf b hm;omega),h.ap,h.on.then_ ho (fun b hb hl=>by have:=hf b hb;omega),h.iv,Nat.le_trans h.sz ho.size⟩
theorem St.set3 (h:St w0 V B w v1 v2 v3 L D si fs f) (ho:Only v3.ownBlock.toList w w') (hO:w'.ownsRow B 3 1 v3' si'.length (si'.map (Value.int .i64))) (hb:∀ x∈v3'.ownBlock.toList,x∈v3.ownBlock.toList\/w.heap.size<=x):St w0 V B w' v1 v2 v3' L D si' fs f:=by
 have hz:=h.sz
 refine ⟨h.so.set3 ho hO hb,fun b hm=>?_,h.on.then_ ho (fun b hm hl=>(h.iv b (by simp [hm])).elim id (fun h1=>by omega)),fun b hm=>?_,Nat.le_trans h.sz ho.size⟩
 ·simp only [List.mem_append] at hm
  rcases hm with hm | hm | hm | hm
  ·exact h.ap b (by simp [hm])
  ·exact h.ap b (by simp only [List.mem_append];exact .inr (.inl hm))
  ·exact h.ap b (by simp [hm])
  ·rcases hb b hm with h1 | h1
   ·exact h.ap b (by simp [h1])
   ·omega
 ·simp only [List.mem_append] at hm
  rcases hm with hm | hm | hm
  ·exact h.iv b (by simp [hm])
  ·exact h.iv b (by simp [hm])
  ·rcases hb b hm with h1 | h1
   ·exact h.iv b (by simp [h1])
   ·right;omega
theorem St.set2 (h:St w0 V B w v1 v2 v3 L D si fs f) (ho:Only v2.ownBlock.toList w w') (hO:w'.ownsRow B 2 1 v2' D'.length (D'.map (Value.int .i64))) (hb:∀ x∈v2'.ownBlock.toList,x∈v2.ownBlock.toList\/w.heap.size<=x):St w0 V B w' v1 v2' v3 L D' si fs f:=by
 have hz:=h.sz
 refine ⟨h.so.set2 ho hO hb,fun b hm=>?_,h.on.then_ ho (fun b hm hl=>(h.iv b (by simp [hm])).elim id (fun h1=>by omega)),fun b hm=>?_,Nat.le_trans h.sz ho.size⟩
 ·simp only [List.mem_append] at hm
  rcases hm with hm | hm | hm | hm
  ·exact h.ap b (by simp [hm])
  ·exact h.ap b (by simp only [List.mem_append];exact .inr (.inl hm))
  ·rcases hb b hm with h1 | h1
   ·exact h.ap b (by simp [h1])
   ·omega
  ·exact h.ap b (by simp [hm])
 ·simp only [List.mem_append] at hm
  rcases hm with hm | hm | hm
  ·exact h.iv b (by simp [hm])
  ·rcases hb b hm with h1 | h1
   ·exact h.iv b (by simp [h1])
   ·right;omega
  ·exact h.iv b (by simp [hm])
theorem St.set1 {s:List Int} (h:St w0 V B w v1 v2 v3 L D si fs f) (ho:Only v1.ownBlock.toList w w') (hA:Acc B 27 w' v1' (L ++ [s]) (fs ++ [f])) (hb:∀ x∈v1'.ownBlock.toList,x∈v1.ownBlock.toList\/w.heap.size<=x):St w0 V B w' v1' v2 v3 (L ++ [s]) D si (fs ++ [f]) []:=by
 have hz:=h.sz
 refine ⟨h.so.set1 ho hA hb,fun b hm=>?_,h.on.then_ ho (fun b hm hl=>(h.iv b (by simp [hm])).elim id (fun h1=>by omega)),fun b hm=>?_,Nat.le_trans h.sz ho.size⟩
 ·simp only [List.flatten_append,List.flatten_cons,List.flatten_nil,List.append_nil] at hm
  rcases List.mem_append.1 hm with hm | hm
  ·rcases hb b hm with h1 | h1
   ·exact h.ap b (by simp [h1])
   ·omega
  ·exact h.ap b (List.mem_append_right _ hm)
 ·simp only [List.mem_append] at hm
  rcases hm with hm | hm | hm
  ·rcases hb b hm with h1 | h1
   ·exact h.iv b (by simp [h1])
   ·right;omega
  ·exact h.iv b (by simp [hm])
  ·exact h.iv b (by simp [hm])
end
set_option maxHeartbeats 4000000 in
theorem Zhv (B:Nat) (A1 A2 A3:Option Addr) (C1 C2 C3:Nat) (wh:Bool) (L:List (List Int)) (D:List Int) (so:List Nat) (fs:List (List Nat)) (m:Nat) (v:Value) (s:List Int) (f:List Nat) (d:Int) (w:World)
  (h:SrO B w (.slice A1 L.length C1) (.slice A2 D.length C2) (.slice A3 so.length C3) L D (soI so) fs f) (hS:Srt m L so) (hv:Rd w v s f) (hs:s.length = m) (hn:s ∉ L) (hL:L.length < 3000) (hDl:D.length = L.length) (hDI:∀ x∈D,I64 x) (hB:B<=w.heap.size) :
  Calls Tryz.prog 218 #[.agg #[.slice A1 L.length C1,.slice A2 D.length C2,.slice A3 so.length C3,.bool wh],v,.int .i64 d] w fun e w'=>∃ A1' A2' A3' C1' C2' C3' so',e = .returned (.agg #[.slice A1' (L.length + 1) C1',.slice A2' (D.length + 1) C2',.slice A3' (so.length + 1) C3',.bool wh]) /\
   SrO B w' (.slice A1' (L.length + 1) C1') (.slice A2' (D.length + 1) C2') (.slice A3' (so.length + 1) C3') (L ++ [s]) (D ++ [d]) (soI so') (fs ++ [f]) []/\Srt m (L ++ [s]) so'/\so'.length = so.length + 1 /\
   Only ((Value.slice A1 L.length C1).ownBlock.toList ++ ((Value.slice A2 D.length C2).ownBlock.toList ++ (Value.slice A3 so.length C3).ownBlock.toList)) w w' /\
   (∀ b∈(Value.slice A1' (L.length + 1) C1').ownBlock.toList ++ ((Value.slice A2' (D.length + 1) C2').ownBlock.toList ++ (Value.slice A3' (so.length + 1) C3').ownBlock.toList),
    b∈(Value.slice A1 L.length C1).ownBlock.toList ++ ((Value.slice A2 D.length C2).ownBlock.toList ++ (Value.slice A3 so.length C3).ownBlock.toList)\/w.heap.size<=b):=by
 obtain ⟨i0,hi,hz0,hz1,hz2⟩:=info_parts Tryz.info2
 obtain ⟨i1,gi,gz0,gz1,gz2⟩:=info_parts Tryz.info22
 obtain ⟨i2,ji,jz0,jz1,jz2⟩:=info_parts Tryz.infoInt
 have hlen:so.length<=3000:=by rw [hS.len];omega
 have hsl:so.length < 3000:=by rw [hS.len];exact hL
 obtain ⟨ob,fps,fd,fz,hR⟩:=h.srR hDI (fun i hi=>by have:=hS.in_ i hi;omega)
 have HS:=zH hS
 have HDl:=zH hDl
 have HDI:=zH hDI
 have Hs:=zH hs
 have Hn:=zH hn
 clear hS hDl hDI hs hn
 have s0:St w ((Value.slice A1 L.length C1).ownBlock.toList ++ ((Value.slice A2 D.length C2).ownBlock.toList ++ (Value.slice A3 so.length C3).ownBlock.toList)) B ((w.alloc (.cells #[.slice A1 L.length C1,.slice A2 D.length C2,.slice A3 so.length C3,.bool wh] 78)).alloc (.cells #[.slice none 0 0,.slice none 0 0,.slice none 0 0,.bool false] 78)) (.slice A1 L.length C1) (.slice A2 D.length C2) (.slice A3 so.length C3) L D (soI so) fs f:=
  ⟨h.keep ((zO.alloc _).alloc _),fun b hb=>.inl (h.lt b hb).2,(zO.alloc _).alloc _,fun b hb=>.inl hb,by simp⟩
 have X0:Blk ((w.alloc (.cells #[.slice A1 L.length C1,.slice A2 D.length C2,.slice A3 so.length C3,.bool wh] 78)).alloc (.cells #[.slice none 0 0,.slice none 0 0,.slice none 0 0,.bool false] 78)) w.heap.size [.slice A1 L.length C1,.slice A2 D.length C2,.slice A3 so.length C3,.bool wh]:=(Blk.new w [.slice A1 L.length C1,.slice A2 D.length C2,.slice A3 so.length C3,.bool wh] 78).keep (zO.alloc _)
 have Y0:Blk ((w.alloc (.cells #[.slice A1 L.length C1,.slice A2 D.length C2,.slice A3 so.length C3,.bool wh] 78)).alloc (.cells #[.slice none 0 0,.slice none 0 0,.slice none 0 0,.bool false] 78)) (w.heap.size + 1) [.slice none 0 0,.slice none 0 0,.slice none 0 0,.bool false]:=Blk.new_at (by simp)
 go_enter Tryz.func218,Tryz.ntmps218
 go_wp2_with (first
  | (go_at_call 219;(with_reducible refine (Zgt A1 A2 A3 C1 C2 C3 wh L D so ob fps fd fz m _ s f _ (hR.keep zA) HS.out (zK hv zA) Hs.out (by omega)).mono ?_);rintro e w1 ⟨k,rfl,hk,hk3,t1⟩;have s1:=s0.keep t1;have X1:=X0.keep t1;have Y1:=Y0.keep t1;clear s0 X0 Y0;have Hk:=zH hk;have hkl:=hk.le;clear hk;have y2:=X1.cell 2 rfl;have z2:=X1.frozen 2)
  | (at_builtin;refine Zbx _ rfl _ _ 76 rfl B 3 i2 _ 1 8 Tryz.underlying76 ji jz0 jz1 jz2 rfl (by omega) (.slice A3 so.length C3) so.length ((soI so).map (Value.int .i64)) rfl (by have hh:=s1.so.srt;rw [soI_len] at hh;exact Zbl hh (zO.alloc _)) (some ⟨w1.heap.size,0,none⟩) 1 1 [.int .i64 0] rfl rfl (Zci _ [.int .i64 0] _ rfl) (by simp) (by intro u hu;simp at hu;subst hu;rfl) (by unfold maxLen;omega) (by omega) (by have:=s1.sz;simp;omega) ?_;intro v3 w2 hO hg hb;obtain ⟨g3,c3,cur3,rfl,hh3,hc1,hc2,hcl3,hct⟩:=own_pos hO;have k2:=(Only.refl (Value.slice A3 so.length C3).ownBlock.toList _).grown hg (by intro k hk _;simp [hk]);have s2:=(s1.keep (zO.alloc _)).set3 k2 (si':=soI so ++ [0]) (by rw [List.map_append,List.length_append,soI_len];exact hO) (ob_sub hb);have X2:=(X1.keep (zO.alloc (.cells #[.int .i64 0] 3))).only k2 (fun hm=>by have:=s1.ap w.heap.size (by simp at hm;simp [hm]);omega);have Y2:=(Y1.keep (zO.alloc (.cells #[.int .i64 0] 3))).only k2 (fun hm=>by have:=s1.ap (w.heap.size + 1) (by simp at hm;simp [hm]);omega);clear y2 z2;have y2:=X2.cell 2 rfl;have z2:=X2.frozen 2;have HO:=zH hO;clear hO hg hb k2)
  | fail)
 have k3:Only [w.heap.size] w2 (w2.setCell ⟨w.heap.size,2,none⟩ (.slice (some ⟨g3,0,none⟩) (so.length + 1) c3)):=zO.setCell (by simp) _
 have s3:=s2.box k3 (by intro b hb;left;simpa using hb)
 have X3:=X2.set 2 (.slice (some ⟨g3,0,none⟩) (so.length + 1) c3)
 have Y3:=Y2.only k3 (by simp)
 have hgne:g3 ≠ w.heap.size:=fun e=>by have:=s2.ap g3 (by simp [Value.ownBlock]);omega
 have hh4:=(k3.block g3 (Array.getElem?_eq_some_iff.1 hh3).1 (by simpa using hgne)).trans hh3
 have hO3:=Zbd HO.out k3 (by intro g hg;simp [Value.ownBlock] at hg;subst hg;simpa using hgne)
 obtain ⟨w3,hw3⟩:∃ w3,w3 = w2.setCell ⟨w.heap.size,2,none⟩ (.slice (some ⟨g3,0,none⟩) (so.length + 1) c3):=⟨_,rfl⟩
 rw [<- hw3] at s3 X3 Y3 hh4 hO3 ⊢
 simp only [List.set] at X3
 clear hw3 k3 s2 X2 Y2 y2 z2 HO hh3
 have y3:=X3.cell 2 rfl
 unfold maxLen at hc2
 have e1:((k:Int) + 1).toNat = k + 1:=by omega
 have e2:IntKind.i64.wrap ((k:Int) + 1) = (k:Int) + 1:=by rw [IntKind.wrap_i64];omega
 have e3:(0:Int)<=(k:Int) + 1:=by omega
 have e4:(k:Int) + 1<=(so.length:Int) + 1:=by omega
 have e5:(k:Int)<=(so.length:Int) + 1:=by omega
 have e6:c3 ≠ k:=by omega
 obtain ⟨cs,hcs⟩:∃ cs,cs = ((soI so).map (Value.int .i64)).drop k:=⟨_,rfl⟩
 have hcl:cs.length = so.length - k:=by rw [hcs,List.length_drop,List.length_map,soI_len]
 have q1:cs.length = Nat.min (so.length + 1 - k) (so.length - k):=by rw [hcl];exact (Nat.min_eq_right (by omega)).symm
 have q2:∀ j v,cs[j]? = some v->w3.drew.cell? ((⟨g3,k,none⟩:Addr).add j) = some v:=by
  intro j v hj
  have hjl:=(List.getElem?_eq_some_iff.1 hj).1
  rw [Ztq]
  have hcell:=hO3.cellAt (k + j) (by omega)
  rw [List.getElem?_append_left (by rw [List.length_map,soI_len];omega)] at hcell
  rw [hcs,List.getElem?_drop] at hj
  exact hcell.trans hj
 have q3:0 < cs.length->(if c3 = k + 1 then some (⟨g3,0,none⟩:Addr) else some ⟨g3,k + 1,none⟩) = some ⟨g3,k + 1,none⟩/\∃ ad,some (⟨g3,k,none⟩:Addr) = some ad/\∀ j v,cs[j]? = some v->w3.drew.cell? (ad.add j) = some v:=
  fun h0=>⟨by rw [if_neg (by omega)],_,rfl,q2⟩
 have q4:k + 1 + cs.length<=cur3.length:=by omega
 have q5:∀ v∈cs,v.oneCell' = true:=fun v hv=>Zef (soI so) v (by rw [hcs] at hv;exact List.mem_of_mem_drop hv)
 have q6:(Tryz.prog.info? 3).map (·.size) = some 1:=by rw [ji];simp [jz1]
 have hins:splice ((soI so).map (Value.int .i64) ++ [Value.int .i64 0]) (k + 1) cs = splice ((soI so).map (Value.int .i64) ++ [Value.int .i64 0]) (k + 1) (((soI so).map (Value.int .i64)).drop k):=by rw [hcs]
 have Hins:=zH hins
 have HO3:=zH hO3
 clear hcs q2 hO3 hins
 go_cut [] (fun wx=>wx.ownsRow B 3 1 (.slice (some ⟨g3,0,none⟩) (so.length + 1) c3) (so.length + 1) (splice ((soI so).map (Value.int .i64) ++ [Value.int .i64 0]) (k + 1) cs)/\Only [g3] w3 wx)
 case first=>
  go_region_law (refine Zoo rfl (.tmp 20) (.tmp 24) 76 76 rfl 3 Tryz.underlying76 q6 _ _ _ _ _ _ rfl rfl g3 (k + 1) cur3 3 hh4 cs q1 q3 q4 q5 ?_;intro w4 hh5 k4)
  all_goals go_wp2_with fail
  all_goals go_meet
  all_goals exact ⟨Zmu HO3.out hh4 (by omega) hh5,((Only.refl [g3] w3).drew).trans k4⟩
 case rest=>
  obtain ⟨hO4,k4⟩:=hcut
  obtain ⟨w4,hnew⟩:∃ W,W = wc:=⟨_,rfl⟩
  subst hnew
  have X4:=X3.only k4 (by simpa using fun e=>hgne e.symm)
  have Y4:=Y3.only k4 (by have:=s3.ap g3 (by simp [Value.ownBlock]);simp;omega)
  have y0:=X4.cell 0 rfl
  have y2:=X4.cell 2 rfl
  have hz3:w4.frozen? ⟨g3,k,none⟩ = false:=hO4.frozenAt k
  obtain ⟨z3,hz4⟩:∃ z,w4.cell? ⟨g3,k,none⟩ = some z:=by
   rw [hO4.cellAt k (by omega)]
   exact ⟨_,List.getElem?_eq_getElem (by have:=hO4.1;omega)⟩
  have HO4:=zH hO4
  clear hO4
  go_upto_region 5 with (fail)
  have k5:Only [g3] w3 (w4.setCell ⟨g3,k,none⟩ (.int .i64 L.length)):=k4.setCell (by simp) _
  have hO5:=(HO4.out.stored k (.int .i64 L.length)).1
  have hset:(splice ((soI so).map (Value.int .i64) ++ [Value.int .i64 0]) (k + 1) cs).set k (.int .i64 L.length) = (soI (so.take k ++ L.length :: so.drop k)).map (Value.int .i64):=by
   rw [Hins.out,Ztz _ _ _ _ (by rw [List.length_map,soI_len];exact hkl)]
   simp [soI,List.map_take,List.map_drop]
  rw [hset] at hO5
  have hsol:(soI (so.take k ++ L.length :: so.drop k)).length = so.length + 1:=by rw [soI_len];simp;omega
  have s5:=s3.set3 (v3':=.slice (some ⟨g3,0,none⟩) (so.length + 1) c3) (si':=soI (so.take k ++ L.length :: so.drop k)) (by simpa [Value.ownBlock] using k5) (by rw [hsol];exact hO5) (fun x hx=>.inl hx)
  have X5:=X4.only ((Only.refl [g3] w4).setCell (p:=⟨g3,k,none⟩) (by simp) (.int .i64 L.length)) (by simpa using fun e=>hgne e.symm)
  have Y5:=Y4.only ((Only.refl [g3] w4).setCell (p:=⟨g3,k,none⟩) (by simp) (.int .i64 L.length)) (by have:=s3.ap g3 (by simp [Value.ownBlock]);simp;omega)
  have hv5:Rd (w4.setCell ⟨g3,k,none⟩ (.int .i64 L.length)) v s f:=Rp.only hv s5.on (fun b hb hm=>by
   obtain ⟨-,n2,n3⟩:=List.nodup_append.1 h.fr.nd
   obtain ⟨n4,n5,n6⟩:=List.nodup_append.1 n2
   rcases List.mem_append.1 hm with hm | hm
   ·exact n3 b hm b (by simp [hb]) rfl
   ·exact n6 b (by simp [hb]) b hm rfl)
  obtain ⟨w5,hw5⟩:∃ w5,w5 = w4.setCell ⟨g3,k,none⟩ (.int .i64 L.length):=⟨_,rfl⟩
  rw [<- hw5] at s5 X5 Y5 hv5 ⊢
  clear hw5 k5 hO5 hset hsol s3 X3 Y3 X4 Y4 y0 y2 y3 hz3 hz4 HO4 HO3 hh4 k4 Hins q1 q3 q4 q5 hcl3 hct hcl
  obtain ⟨so2,hso2⟩:∃ x,x = so.take k ++ L.length :: so.drop k:=⟨_,rfl⟩
  rw [<- hso2] at s5
  have Hso2:=zH hso2
  have y0:=X5.cell 0 rfl
  have z0:=X5.frozen 0
  obtain ⟨av,cv,rfl,Iv⟩:=hv5.ints
  clear Iv hso2
  have hap5:∀ b∈f,(Value.slice A1 L.length C1).ownBlock ≠ some b:=fun b hb e=>by
   obtain ⟨-,n2,n3⟩:=List.nodup_append.1 s5.so.fr.nd
   exact n3 b (by rw [e];simp) b (by simp [hb]) rfl
  have na5:w.heap.size ∉ (Value.slice A1 L.length C1).ownBlock.toList:=fun hm=>by have:=s5.ap w.heap.size (by simp at hm;simp [hm]);omega
  have nb5:w.heap.size + 1 ∉ (Value.slice A1 L.length C1).ownBlock.toList:=fun hm=>by have:=s5.ap (w.heap.size + 1) (by simp at hm;simp [hm]);omega
  go_upto_region 6 with (first
   | (at_builtin;refine Zpf rfl _ _ 24 rfl B 27 i1 _ 24 Tryz.underlying24 gi gz0 gz1 gz2 rfl (by decide) (by decide) w5 (.slice A1 L.length C1) L fs rfl s5.so.acc (zO.alloc _) (by have:=s5.sz;omega) w5.heap.size 1 [.slice av s.length cv] s f rfl (lit_src _ [.slice av s.length cv] _ rfl) (by intro u hu;simp at hu;subst hu;rfl) (zK hv5 (zO.alloc _)) hap5 (by omega) ?_;intro v6 w6 hA hk hb;obtain ⟨A1',C1',rfl⟩:=hA.form;have s6:=(s5.keep (zO.alloc (.cells #[.slice av s.length cv] 27))).set1 hk hA (ob_sub hb);have X6:=(X5.keep (zO.alloc (.cells #[.slice av s.length cv] 27))).only hk na5;have Y6:=(Y5.keep (zO.alloc (.cells #[.slice av s.length cv] 27))).only hk nb5;clear y0 z0;have y0:=X6.cell 0 rfl;have z0:=X6.frozen 0;clear hA hk hb;rw [List.length_append,List.length_singleton] at s6 ⊢)
   | fail)
  have k7:Only [w.heap.size] w6 (w6.setCell ⟨w.heap.size,0,none⟩ (.slice A1' (L.length + 1) C1')):=zO.setCell (by simp) _
  have s7:=s6.box k7 (by intro b hb;left;simpa using hb)
  have X7:=X6.set 0 (.slice A1' (L.length + 1) C1')
  have Y7:=Y6.only k7 (by simp)
  obtain ⟨w7,hw7⟩:∃ w7,w7 = w6.setCell ⟨w.heap.size,0,none⟩ (.slice A1' (L.length + 1) C1'):=⟨_,rfl⟩
  rw [<- hw7] at s7 X7 Y7 ⊢
  simp only [List.set] at X7
  clear hw7 k7 s6 X6 Y6 y0 z0 s5 X5 Y5 hv5 hap5 na5 nb5
  have y1:=X7.cell 1 rfl
  have z1:=X7.frozen 1
  have na7:w.heap.size ∉ (Value.slice A2 D.length C2).ownBlock.toList:=fun hm=>by have:=s7.ap w.heap.size (by simp at hm;simp [hm]);omega
  have nb7:w.heap.size + 1 ∉ (Value.slice A2 D.length C2).ownBlock.toList:=fun hm=>by have:=s7.ap (w.heap.size + 1) (by simp at hm;simp [hm]);omega
  have hDl2:D.length < 3000:=by rw [HDl.out];exact hL
  go_upto_region 7 with (first
   | (at_builtin;refine Zbx _ rfl _ _ 27 rfl B 2 i0 _ 1 8 Tryz.underlying27 hi hz0 hz1 hz2 rfl (by omega) (.slice A2 D.length C2) D.length (D.map (Value.int .i64)) rfl (Zbl s7.so.dep (zO.alloc _)) (some ⟨w7.heap.size,0,none⟩) 1 1 [.int .i64 d] rfl rfl (Zci _ [.int .i64 d] _ rfl) (by simp) (by intro u hu;simp at hu;subst hu;rfl) (by unfold maxLen;omega) (by omega) (by have:=s7.sz;simp;omega) ?_;intro v8 w8 hO hg hb;obtain ⟨A2',C2',rfl⟩:=Zsh hO;have k8:=(Only.refl (Value.slice A2 D.length C2).ownBlock.toList _).grown hg (by intro k hk _;simp [hk]);have s8:=(s7.keep (zO.alloc (.cells #[.int .i64 d] 2))).set2 k8 (D':=D ++ [d]) (by rw [List.map_append,List.length_append];exact hO) (ob_sub hb);have X8:=(X7.keep (zO.alloc (.cells #[.int .i64 d] 2))).only k8 na7;have Y8:=(Y7.keep (zO.alloc (.cells #[.int .i64 d] 2))).only k8 nb7;clear y1 z1;have y1:=X8.cell 1 rfl;have z1:=X8.frozen 1;clear hO hg hb k8)
   | fail)
  have k9:Only [w.heap.size] w8 (w8.setCell ⟨w.heap.size,1,none⟩ (.slice A2' (D.length + 1) C2')):=zO.setCell (by simp) _
  have s9:=s8.box k9 (by intro b hb;left;simpa using hb)
  have X9:=X8.set 1 (.slice A2' (D.length + 1) C2')
  have Y9:=Y8.only k9 (by simp)
  obtain ⟨w9,hw9⟩:∃ w9,w9 = w8.setCell ⟨w.heap.size,1,none⟩ (.slice A2' (D.length + 1) C2'):=⟨_,rfl⟩
  rw [<- hw9] at s9 X9 Y9 ⊢
  simp only [List.set] at X9
  clear hw9 k9 s8 X8 Y8 y1 z1 s7 X7 Y7 na7 nb7
  obtain ⟨y0,y1,y2,y3⟩:=X9.c4
  obtain ⟨r0,r1,r2,r3⟩:=Y9.c4
  obtain ⟨z0,z1,z2,z3⟩:=Y9.f4
  go_wp2_with fail
  have kf:Only [w.heap.size + 1] w9 ((((w9.setCell ⟨w.heap.size + 1,0,none⟩ (.slice A1' (L.length + 1) C1')).setCell ⟨w.heap.size + 1,1,none⟩ (.slice A2' (D.length + 1) C2')).setCell ⟨w.heap.size + 1,2,none⟩ (.slice (some ⟨g3,0,none⟩) (so.length + 1) c3)).setCell ⟨w.heap.size + 1,3,none⟩ (.bool wh)):=
   (((zO.setCell (by simp) _).setCell (by simp) _).setCell (by simp) _).setCell (by simp) _
  have sf:=s9.box kf (by intro b hb;right;simpa using hb)
  have Yf:=(((Y9.set 0 (.slice A1' (L.length + 1) C1')).set 1 (.slice A2' (D.length + 1) C2')).set 2 (.slice (some ⟨g3,0,none⟩) (so.length + 1) c3)).set 3 (.bool wh)
  obtain ⟨wf,hwf⟩:∃ wf,wf = ((((w9.setCell ⟨w.heap.size + 1,0,none⟩ (.slice A1' (L.length + 1) C1')).setCell ⟨w.heap.size + 1,1,none⟩ (.slice A2' (D.length + 1) C2')).setCell ⟨w.heap.size + 1,2,none⟩ (.slice (some ⟨g3,0,none⟩) (so.length + 1) c3)).setCell ⟨w.heap.size + 1,3,none⟩ (.bool wh)):=⟨_,rfl⟩
  rw [<- hwf] at sf Yf ⊢
  simp only [List.set] at Yf
  clear hwf kf s9 X9 Y9 y0 y1 y2 y3 r0 r1 r2 r3 z0 z1 z2 z3
  obtain ⟨r0,r1,r2,r3⟩:=Yf.c4
  refine bodyPost_ret (v:=.agg #[.slice A1' (L.length + 1) C1',.slice A2' (D.length + 1) C2',.slice (some ⟨g3,0,none⟩) (so.length + 1) c3,.bool wh]) (by simp [results,Tryz.results218,go_sem,r0,r1,r2,r3]) rfl
   ⟨A1',A2',_,C1',C2',_,so2,rfl,sf.so,?_,?_,sf.on,sf.iv⟩
  ·have hS:=HS.out.add Hs.out Hn.out Hk.out
   rw [<- Hso2.out] at hS
   exact hS
  ·rw [Hso2.out];simp;omega
set_option maxHeartbeats 1000000 in
theorem Zdv (cs:List Value) (x:Puzzle) (fp:List Nat) (v:Value) (l:List Int) (f2:List Nat) (w:World) (h:Rp.rep w cs x fp) (h2:Rd w v l f2) :
  Calls Tryz.prog 162 #[.agg cs.toArray,v] w fun e w'=>e = .returned (.bool (validPz x && trackB x.points l))/\Only [] w w':=by
 have h0:=h
 obtain ⟨v2,rfl,p0,p1,hm⟩:=h
 rcases hq:validPz x
 ·go_enter Tryz.func162,Tryz.ntmps162
  go_wp2_with ((go_at_call 131;(with_reducible refine (Zan [.int .i64 x.points,.string x.names,v2] x _ _ (zK h0 zA)).mono ?_);rintro e w1 ⟨he,t1⟩;rw [hq] at he;subst he))
  go_ret
  exact ⟨rfl,zA⟩
 obtain ⟨g1,g2,g3,g4⟩:=Zad hq
 have hB:=Blk.new_at (w:=w) (cs:=[.int .i64 x.points,.string x.names,v2]) (t:=26) rfl
 go_enter Tryz.func162,Tryz.ntmps162
 go_wp2_with (first | (go_at_call 131;(with_reducible refine (Zan [.int .i64 x.points,.string x.names,v2] x _ _ (zK h0 zA)).mono ?_);rintro e w1 ⟨he,t1⟩;rw [hq] at he;subst he;have y0:=(hB.keep t1).cell 0 rfl) | (go_at_call 185;(with_reducible refine (Zmk x.points v l _ _ (zK h2 zA) (by omega) (by omega)).mono ?_);rintro e w2 ⟨rfl,m2,rfl⟩))
 go_ret
 exact ⟨rfl,zA⟩
set_option maxHeartbeats 1000000 in
theorem Zhq (cs:List Value) (x:Puzzle) (fp:List Nat) (w:World) (h:Rp.rep w cs x fp) (hl:x.moves.length<=1000) :
  Calls Tryz.prog 183 #[.agg cs.toArray] w fun e w'=>∃ v fp',e = .returned v/\Rd w' v (ltrs x.moves.length) fp'/\Fresh w.heap.size w' fp'/\Only [] w w':=by
 obtain ⟨v2,rfl,p0,p1,hm⟩:=h
 obtain ⟨A2,C2,ob,fps,rfl,-,hs⟩:=hm.open_
 obtain ⟨i0,hi,hz0,hz1,hz2⟩:=info_parts Tryz.info2
 have hB:=Blk.new_at (w:=w) (cs:=[.int .i64 x.points,.string x.names,.slice A2 x.moves.length C2]) (t:=26) rfl
 go_enter Tryz.func183,Tryz.ntmps183
 go_wp2
 go_loopw [3,4] (fun o i wr=>∃ j:Nat,j<=x.moves.length/\i = .int .i64 ((j:Int) + 1)/\wr.ownsRow (w.heap.size + 1) 2 1 o (ltrs j).length ((ltrs j).map (Value.int .i64))/\Only [] (w.alloc (.cells #[.int .i64 x.points,.string x.names,.slice A2 x.moves.length C2] 26)) wr)
  (fun _ i _=>x.moves.length + 1 - (intOf i).toNat)
 case atStart=>exact ⟨0,Nat.zero_le _,rfl,by have:=World.ownsRow_made (base:=w.heap.size + 1) (e:=2) (size:=1) (w.alloc (.cells #[.int .i64 x.points,.string x.names,.slice A2 x.moves.length C2] 26)) #[] 0 (by simp) (by unfold maxLen;omega) (by simp);simpa [ltrs] using this,zA⟩
 case round=>
  obtain ⟨j,hj,rfl,hO,hK⟩:=hrel
  have y2:=(hB.keep hK).cell 2 rfl
  by_cases hlt:j < x.moves.length
  ·have hsz:=hK.size
   have hlt':(j:Int) + 1<=(x.moves.length:Int):=by omega
   have hlj:(ltrs j).length<=2000:=by rw [Zfk];omega
   go_wp2_with (at_builtin;refine Zbx _ rfl _ _ 27 rfl (w.heap.size + 1) 2 i0 _ 1 8 Tryz.underlying27 hi hz0 hz1 hz2 rfl (by omega) _ (ltrs j).length _ rfl (hO.alloc _) (some ⟨wr.heap.size,0,none⟩) 2 2 [.int .i64 ((j:Int) + 1),.int .i64 (-((j:Int) + 1))] rfl rfl (Zci wr [.int .i64 ((j:Int) + 1),.int .i64 (-((j:Int) + 1))] _ rfl) (by simp) (by intro u hu;simp at hu;rcases hu with rfl | rfl <;> rfl) (by unfold maxLen;omega) (by omega) (by simp at hsz ⊢;omega) ?_;intro v1 w1 hO1 hg1 hb1)
   go_roundw
   case rel=>exact ⟨j + 1,by omega,by go_num,by simpa [ltrs] using hO1,(hK.alloc _).grown hg1 (by intro k hk hk2;have:=(hO.lt k hk).1;simp at hk2;omega)⟩
   case measure=>simp [intOf];omega
  ·have hjl:j = x.moves.length:=by omega
   have hw:∀ y∈ltrs x.moves.length,I64 y:=fun y hy=>by have:=Zaw.1 hy;unfold I64;omega
   subst hjl
   obtain ⟨a',cap',hv,-,hI,hF⟩:=Zba hO hw
   have HI:=zH hI
   have Hv:=zH hv
   have HF:=zH (Fresh.mono hF (Nat.le_succ _))
   clear hO hv hI hw hF
   have hlt3:¬ (x.moves.length:Int) + 1<=(x.moves.length:Int):=by omega
   go_wp2
   go_ret
   refine ⟨_,rfl,_,?_,HF.out,zA⟩
   have hr:=HI.out.rd
   rw [<- Hv.out] at hr;exact hr
set_option maxHeartbeats 2000000 in
theorem Zdx (cs:List Value) (x:Puzzle) (fp:List Nat) (v:Value) (l:List Int) (f2:List Nat) (lt:Int) (w:World) (h:Rp.rep w cs x fp) (h2:Rd w v l f2)
  (hv:validPz x = true) (hl:lt∈ltrs x.moves.length) (hx:∀ y∈l,0<=y/\y < x.points) (hlen:l.length<=1000) :
  Calls Tryz.prog 184 #[.agg cs.toArray,v,.int .i64 lt] w fun e w'=>∃ v fp',e = .returned v/\Rd w' v (nxt x l lt) fp'/\Fresh w.heap.size w' fp'/\Only [] w w':=by
 obtain ⟨v2,rfl,p0,p1,hm⟩:=h
 obtain ⟨AG,CG,ob,fps,rfl,-,hs⟩:=hm.open_
 obtain ⟨A2,C2,rfl,I2⟩:=h2.ints
 obtain ⟨g1,g2,g3,g4⟩:=Zad hv
 obtain ⟨i0,hi,hz0,hz1,hz2⟩:=info_parts Tryz.info2
 obtain ⟨M,hM⟩:∃ M,M = mv x.moves lt:=⟨_,rfl⟩
 have hMl:(M.length:Int) = x.points:=by rw [hM,(mv_pn (Zbw hv) hl).1];omega
 have Hres:=zH (show nxt x l lt = PM.comp l M by rw [hM];rfl)
 rcases Zca hl with ⟨k,hk,rfl⟩ | ⟨k,hk,rfl⟩
 ·rw [mv_pos rfl hk] at hM
  obtain ⟨b,off,u,rfl,hob,hc,hu⟩:=hs.atRow k hk
  rw [<- hM] at hu
  obtain ⟨AM,CM,rfl,IM⟩:=hu.ints
  have e0:max ((k:Int) + 1) (-((k:Int) + 1)) = (k:Int) + 1:=by omega
  have hKw:Only [] w w:=Only.refl _ _
  have hcw:=((Only.refl [] w).alloc (.cells #[.int .i64 x.points,.string x.names,.slice (some ⟨b,off,none⟩) x.moves.length CG] 26)).cell (by simp) hc
  clear hM hob hc
  go_enter Tryz.func184,Tryz.ntmps184
  go_wp2
  go_loopw [8,9] (fun o i wr=>∃ (j:Nat) (fs:List (List Nat)),j<=l.length/\i = .int .i64 j/\Acc w.heap.size 2 wr o (PM.comp (l.take j) M) fs/\Fresh w.heap.size wr fs.flatten/\Only [] w wr)
   (fun _ i _=>l.length - (intOf i).toNat)
  case atStart=>exact ⟨0,[],Nat.zero_le _,rfl,Acc.made (w.alloc (.cells #[.int .i64 x.points,.string x.names,.slice (some ⟨b,off,none⟩) x.moves.length CG] 26)) w.heap.size _ (by simp) (by simp),Fresh.nil _ _,zA⟩
  case round=>
   obtain ⟨j,fs,hj,rfl,hA,hF,hK⟩:=hrel
   have hKz:Only [] w wr:=hKw.trans hK
   have hsz:=hK.size
   by_cases hlt:j < l.length
   ·obtain ⟨b,off,rfl,-,hc0⟩:=I2.at_ j hlt
    obtain ⟨hr0,hr1⟩:=hx l[j] (List.getElem_mem _)
    have hml:l[j].toNat < M.length:=by omega
    have hr2:l[j] < (M.length:Int):=by omega
    obtain ⟨b2,off2,rfl,-,hd0⟩:=IM.at_ l[j].toNat hml
    have hc:=hKz.cell (by simp) hc0
    have hd:=hK.cell (by simp) hd0
    have hstep:PM.comp (l.take j) M ++ [M[l[j].toNat]] = PM.comp (l.take (j + 1)) M:=by
     have e1:PM.at_ M l[j] = M[l[j].toNat]:=by
      have:=PM.at_nat M l[j].toNat hml
      rwa [show ((l[j].toNat:Nat):Int) = l[j] by omega] at this
     rw [Zab l j hlt]
     simp only [PM.comp,List.map_append,List.map_cons,List.map_nil,e1]
    have hlj:(PM.comp (l.take j) M).length + 1<=1073741824:=by rw [PM.Zak,List.length_take];omega
    have HI:=zH (IM.wf _ (List.getElem_mem hml))
    have Hs:=zH hstep
    clear hstep hc0 hd0
    go_wp2_with (at_builtin;refine Zah rfl _ _ 27 rfl w.heap.size 2 i0 _ 8 Tryz.underlying27 hi hz0 hz1 hz2 rfl (by decide) (by decide) wr _ (PM.comp (l.take j) M) fs rfl hA hF (zO.alloc _) hsz wr.heap.size 1 [.int .i64 M[l[j].toNat]] M[l[j].toNat] [] rfl (lit_src wr [.int .i64 M[l[j].toNat]] _ rfl) (by intro u hu;simp at hu;subst hu;rfl) (int_rd _ HI.out) (Fresh.nil _ _) hlj w (hK.alloc _) (Nat.le_refl _) ?_;intro v3 w3 hA3 hF3 hK3 _)
    go_roundw
    case rel=>exact ⟨j + 1,_,by omega,by go_num,by rw [<- Hs.out];exact hA3,hF3,hK3⟩
    case measure=>simp [intOf];omega
   ·have hjl:j = l.length:=by omega
    rw [hjl,List.take_length] at hA
    have HA:=zH hA
    clear hjl hA
    go_wp2
    go_ret
    exact ⟨_,_,rfl,by rw [Hres.out];exact HA.out.rd (by decide),(HA.out.fresh hF).mono hKw.size,hKz⟩
 ·have hg:=g4 _ (List.getElem_mem hk)
  rw [mv_neg rfl hk] at hM
  obtain ⟨b,off,u,rfl,hob,hc,hu⟩:=hs.atRow k hk
  have e0:max (-((k:Int) + 1)) ((k:Int) + 1) = (k:Int) + 1:=by omega
  have HM:=zH hM
  have hcw:=((Only.refl [] w).alloc (.cells #[.int .i64 x.points,.string x.names,.slice (some ⟨b,off,none⟩) x.moves.length CG] 26)).cell (by simp) hc
  clear hM hob hc
  go_enter Tryz.func184,Tryz.ntmps184
  go_wp2_with ((go_at_call 228;(with_reducible refine (Zmn u x.moves[k] _ _ (zK hu zA) hg.2).mono ?_);rintro e w2 ⟨u2,fm,rfl,r2,F2,t2⟩;rw [<- HM.out] at r2;obtain ⟨AM,CM,rfl,IM⟩:=r2.ints))
  have hKw:Only [] w w2:=zA
  go_loopw [8,9] (fun o i wr=>∃ (j:Nat) (fs:List (List Nat)),j<=l.length/\i = .int .i64 j/\Acc w2.heap.size 2 wr o (PM.comp (l.take j) M) fs/\Fresh w2.heap.size wr fs.flatten/\Only [] w2 wr)
   (fun _ i _=>l.length - (intOf i).toNat)
  case atStart=>exact ⟨0,[],Nat.zero_le _,rfl,Acc.made w2 w2.heap.size _ rfl (Nat.le_refl _),Fresh.nil _ _,zA⟩
  case round=>
   obtain ⟨j,fs,hj,rfl,hA,hF,hK⟩:=hrel
   have hKz:Only [] w wr:=hKw.trans hK
   have hsz:=hK.size
   by_cases hlt:j < l.length
   ·obtain ⟨b,off,rfl,-,hc0⟩:=I2.at_ j hlt
    obtain ⟨hr0,hr1⟩:=hx l[j] (List.getElem_mem _)
    have hml:l[j].toNat < M.length:=by omega
    have hr2:l[j] < (M.length:Int):=by omega
    obtain ⟨b2,off2,rfl,-,hd0⟩:=IM.at_ l[j].toNat hml
    have hc:=hKz.cell (by simp) hc0
    have hd:=hK.cell (by simp) hd0
    have hstep:PM.comp (l.take j) M ++ [M[l[j].toNat]] = PM.comp (l.take (j + 1)) M:=by
     have e1:PM.at_ M l[j] = M[l[j].toNat]:=by
      have:=PM.at_nat M l[j].toNat hml
      rwa [show ((l[j].toNat:Nat):Int) = l[j] by omega] at this
     rw [Zab l j hlt]
     simp only [PM.comp,List.map_append,List.map_cons,List.map_nil,e1]
    have hlj:(PM.comp (l.take j) M).length + 1<=1073741824:=by rw [PM.Zak,List.length_take];omega
    have HI:=zH (IM.wf _ (List.getElem_mem hml))
    have Hs:=zH hstep
    clear hstep hc0 hd0
    go_wp2_with (at_builtin;refine Zah rfl _ _ 27 rfl w2.heap.size 2 i0 _ 8 Tryz.underlying27 hi hz0 hz1 hz2 rfl (by decide) (by decide) wr _ (PM.comp (l.take j) M) fs rfl hA hF (zO.alloc _) hsz wr.heap.size 1 [.int .i64 M[l[j].toNat]] M[l[j].toNat] [] rfl (lit_src wr [.int .i64 M[l[j].toNat]] _ rfl) (by intro u hu;simp at hu;subst hu;rfl) (int_rd _ HI.out) (Fresh.nil _ _) hlj w2 (hK.alloc _) (Nat.le_refl _) ?_;intro v3 w3 hA3 hF3 hK3 _)
    go_roundw
    case rel=>exact ⟨j + 1,_,by omega,by go_num,by rw [<- Hs.out];exact hA3,hF3,hK3⟩
    case measure=>simp [intOf];omega
   ·have hjl:j = l.length:=by omega
    rw [hjl,List.take_length] at hA
    have HA:=zH hA
    clear hjl hA
    go_wp2
    go_ret
    exact ⟨_,_,rfl,by rw [Hres.out];exact HA.out.rd (by decide),(HA.out.fresh hF).mono hKw.size,hKz⟩
theorem Zlc {x:Puzzle} {k:Nat} {L:List (List Int)} {D:List Int} (hk:k < L.length) (h:L.length<=3000) :
  bFrom x (3001 - k) k (L,D) = (bLets x (L.getD k []) (D.getD k 0 + 1) (ltrs x.moves.length) (L,D)).bind (bFrom x (3001 - (k + 1)) (k + 1)):=by
 have e:3001 - k = (3001 - (k + 1)) + 1:=by omega
 rw [e]
 show (if k < L.length then _ else _) = _
 rw [if_pos hk]
theorem Znv {x:Puzzle} {k:Nat} {L:List (List Int)} {D:List Int} (hk:¬ k < L.length) (h:k<=3000):bFrom x (3001 - k) k (L,D) = some (L,D):=by
 have e:3001 - k = (3001 - (k + 1)) + 1:=by omega
 rw [e]
 show (if k < L.length then _ else _) = _
 rw [if_neg hk]
theorem Znc {x:Puzzle} {q:List Int} {d l:Int} {ls:List Int} {L:List (List Int)} {D:List Int} (h:nxt x q l∈L):bLets x q d (l :: ls) (L,D) = bLets x q d ls (L,D):=by
 show (bMeet (L,D) d (nxt x q l)).bind _ = _
 unfold bMeet
 rw [if_pos h];rfl
theorem Zkn {x:Puzzle} {q:List Int} {d l:Int} {ls:List Int} {L:List (List Int)} {D:List Int} (h:nxt x q l ∉ L) (hl:L.length = 3000):bLets x q d (l :: ls) (L,D) = none:=by
 show (bMeet (L,D) d (nxt x q l)).bind _ = _
 unfold bMeet
 rw [if_neg h,if_pos hl];rfl
theorem Znu {x:Puzzle} {q:List Int} {d l:Int} {ls:List Int} {L:List (List Int)} {D:List Int} (h:nxt x q l ∉ L) (hl:L.length ≠ 3000):bLets x q d (l :: ls) (L,D) = bLets x q d ls (L ++ [nxt x q l],D ++ [d]):=by
 show (bMeet (L,D) d (nxt x q l)).bind _ = _
 unfold bMeet
 rw [if_neg h,if_neg hl];rfl
theorem Zdn {α:Type} {l:List α} {a z:α} {k:Nat} (h:k < l.length):(l ++ [a]).getD k z = l.getD k z:=by
 simp only [List.getD_eq_getElem?_getD,List.getElem?_append_left h]
theorem SrO.pend {B:Nat} {w w':World} {v1 v2 v3:Value} {L:List (List Int)} {D si:List Int} {fs:List (List Nat)} {f:List Nat} (h:SrO B w v1 v2 v3 L D si fs []) (ho:Only [] w w') (hB:B<=w.heap.size) (hF:Fresh w.heap.size w' f):SrO B w' v1 v2 v3 L D si fs f:=by
 have h':=h.keep ho
 refine ⟨h'.acc,h'.dep,h'.srt,?_⟩
 have h1:=Fresh.append h'.fr hF hB (fun b hb=>h.fr.lt b hb)
 have hp:((v1.ownBlock.toList ++ ((fs.flatten ++ []) ++ (v2.ownBlock.toList ++ v3.ownBlock.toList))) ++ f).Perm (v1.ownBlock.toList ++ ((fs.flatten ++ f) ++ (v2.ownBlock.toList ++ v3.ownBlock.toList))):=by
  have:=((List.perm_append_comm (l₁:=v2.ownBlock.toList ++ v3.ownBlock.toList) (l₂:=f)).append_left fs.flatten).append_left v1.ownBlock.toList
  simpa only [List.append_assoc,List.append_nil] using this
 exact ⟨hp.nodup h1.nd,fun b hb=>h1.ge b (hp.mem_iff.2 hb),h1.own.sub fun b hb=>hp.mem_iff.2 hb⟩
structure SFi (x:Puzzle) (m:Nat) (w W:World) (b:Nat) (L:List (List Int)) (D:List Int) (wr:World) (A1 A2 A3:Option Addr) (C1 C2 C3:Nat) (so:List Nat) (fs:List (List Nat)):Prop where
 blk:Blk wr b [.slice A1 L.length C1,.slice A2 D.length C2,.slice A3 so.length C3,.bool false]
 sro:SrO (w.heap.size + 2) wr (.slice A1 L.length C1) (.slice A2 D.length C2) (.slice A3 so.length C3) L D (soI so) fs []
 srt:Srt m L so
 dl:D.length = L.length
 ll:L.length<=3000
 pat:∀ q∈L,patB x.points m q = true
 dep:∀ d∈D,0<=d/\d<=D.length
 ap:∀ g∈(Value.slice A1 L.length C1).ownBlock.toList ++ ((Value.slice A2 D.length C2).ownBlock.toList ++ (Value.slice A3 so.length C3).ownBlock.toList),g < b\/W.heap.size<=g
 apf:∀ g∈fs.flatten,g < b\/W.heap.size<=g
 keep:∀ g,(g < w.heap.size + 2\/(b < g/\g < W.heap.size))->wr.heap[g]? = W.heap[g]?
 on:Only [] w wr
 sz:W.heap.size<=wr.heap.size
 bW:b < W.heap.size
 wb:w.heap.size + 2<=b
theorem SFi.only {x:Puzzle} {m:Nat} {w W:World} {b:Nat} {L:List (List Int)} {D:List Int} {wr wr':World} {A1 A2 A3:Option Addr} {C1 C2 C3:Nat} {so:List Nat} {fs:List (List Nat)} (h:SFi x m w W b L D wr A1 A2 A3 C1 C2 C3 so fs) (ho:Only [] wr wr'):SFi x m w W b L D wr' A1 A2 A3 C1 C2 C3 so fs:=
 ⟨h.blk.keep ho,h.sro.keep ho,h.srt,h.dl,h.ll,h.pat,h.dep,h.ap,h.apf,fun g hg=>by
  have hb:=h.bW;have hz:=h.sz;have hw:=h.wb
  rw [ho.block g (by omega) (by simp)];exact h.keep g hg,h.on.trans ho,Nat.le_trans h.sz ho.size,h.bW,h.wb⟩
theorem SFi.oldBlk {x:Puzzle} {m:Nat} {w W:World} {b:Nat} {L:List (List Int)} {D:List Int} {wr:World} {A1 A2 A3:Option Addr} {C1 C2 C3:Nat} {so:List Nat} {fs:List (List Nat)} (h:SFi x m w W b L D wr A1 A2 A3 C1 C2 C3 so fs) {g:Nat} {cs:List Value} (hB:Blk W g cs) (hg:g < w.heap.size + 2):Blk wr g cs:=by
 obtain ⟨t,ht⟩:=hB
 exact ⟨t,(h.keep g (.inl hg)).trans ht⟩
theorem SFi.step {x:Puzzle} {m:Nat} {w W:World} {b:Nat} {L:List (List Int)} {D:List Int} {wr w2 wf:World} {A1 A2 A3 A1' A2' A3':Option Addr} {C1 C2 C3 C1' C2' C3':Nat} {so so':List Nat} {fs:List (List Nat)} {f:List Nat} {s:List Int} {d:Int} {fpw:List Nat}
  (h:SFi x m w W b L D wr A1 A2 A3 C1 C2 C3 so fs) (hf:∀ g∈f,W.heap.size<=g) (hL:L.length < 3000) (hp:patB x.points m s = true) (hd:0<=d/\d<=D.length + 1)
  (h1:SrO (w.heap.size + 2) w2 (.slice A1' (L.length + 1) C1') (.slice A2' (D.length + 1) C2') (.slice A3' (so.length + 1) C3') (L ++ [s]) (D ++ [d]) (soI so') (fs ++ [f]) []) (h2:Srt m (L ++ [s]) so') (h3:so'.length = so.length + 1)
  (h4:Only ((Value.slice A1 L.length C1).ownBlock.toList ++ ((Value.slice A2 D.length C2).ownBlock.toList ++ (Value.slice A3 so.length C3).ownBlock.toList)) wr w2)
  (h5:∀ g∈(Value.slice A1' (L.length + 1) C1').ownBlock.toList ++ ((Value.slice A2' (D.length + 1) C2').ownBlock.toList ++ (Value.slice A3' (so.length + 1) C3').ownBlock.toList),g∈(Value.slice A1 L.length C1).ownBlock.toList ++ ((Value.slice A2 D.length C2).ownBlock.toList ++ (Value.slice A3 so.length C3).ownBlock.toList)\/wr.heap.size<=g)
  (h6:Only fpw w2 wf) (hfp:∀ g∈fpw,g = b) (h7:Blk wf b [.slice A1' (L.length + 1) C1',.slice A2' (D.length + 1) C2',.slice A3' (so.length + 1) C3',.bool false]) :
  SFi x m w W b (L ++ [s]) (D ++ [d]) wf A1' A2' A3' C1' C2' C3' so' (fs ++ [f]):=by
 have hb:=h.bW;have hz:=h.sz;have hw:=h.wb
 have hge:=h.sro.fr.ge
 have hap':∀ g∈(Value.slice A1' (L.length + 1) C1').ownBlock.toList ++ ((Value.slice A2' (D.length + 1) C2').ownBlock.toList ++ (Value.slice A3' (so.length + 1) C3').ownBlock.toList),g < b\/W.heap.size<=g:=fun g hg=>by
  rcases h5 g hg with h8 | h8
  ·exact h.ap g h8
  ·right;omega
 have hapf':∀ g∈(fs ++ [f]).flatten,g < b\/W.heap.size<=g:=fun g hg=>by
  rw [List.flatten_append] at hg
  rcases List.mem_append.1 hg with hg | hg
  ·exact h.apf g hg
  ·exact .inr (hf g (by simpa using hg))
 have hs2:=h4.size
 have hnin:∀ g∈(Value.slice A1 L.length C1).ownBlock.toList ++ ((Value.slice A2 D.length C2).ownBlock.toList ++ (Value.slice A3 so.length C3).ownBlock.toList),w.heap.size + 2<=g:=fun g hg=>hge g (by
  simp only [List.mem_append] at hg ⊢
  rcases hg with hg | hg | hg
  ·exact .inl hg
  ·exact .inr (.inr (.inl hg))
  ·exact .inr (.inr (.inr hg)))
 refine ⟨?_,?_,h2,by simp [h.dl],by simp;omega,?_,?_,?_,hapf',fun g hg=>?_,?_,?_,h.bW,h.wb⟩
 ·simpa [h3] using h7
 ·have:=h1.only h6 (fun g hg hm=>by
   have e:=hfp g hm
   simp only [List.mem_append,List.append_nil] at hg
   rcases hg with hg | hg | hg | hg
   ·have:=hap' g (by simp only [List.mem_append];exact .inl hg);omega
   ·have:=hapf' g hg;omega
   ·have:=hap' g (by simp only [List.mem_append];exact .inr (.inl hg));omega
   ·have:=hap' g (by simp only [List.mem_append];exact .inr (.inr hg));omega)
  simpa [h3] using this
 ·intro q hq
  rcases List.mem_append.1 hq with hq | hq
  ·exact h.pat q hq
  ·simp at hq;subst hq;exact hp
 ·intro q hq
  rw [List.length_append,List.length_singleton]
  rcases List.mem_append.1 hq with hq | hq
  ·have:=h.dep q hq;omega
  ·simp at hq;subst hq;omega
 ·rw [List.length_append,List.length_append,List.length_singleton,List.length_singleton,h3];exact hap'
 ·rw [h6.block g (by omega) (fun hm=>by have:=hfp g hm;omega),h4.block g (by omega) (fun hm=>by have:=hnin g hm;have:=h.ap g hm;omega)]
  exact h.keep g hg
 ·exact (h.on.then_ h4 (fun g hg hl=>by have:=hnin g hg;omega)).then_ h6 (fun g hg hl=>by have:=hfp g hg;omega)
 ·exact Nat.le_trans hz (Nat.le_trans hs2 h6.size)
theorem SFi.out {x:Puzzle} {m:Nat} {w W:World} {b:Nat} {L:List (List Int)} {D:List Int} {wr wf:World} {A1 A2 A3:Option Addr} {C1 C2 C3:Nat} {so:List Nat} {fs:List (List Nat)} {fpw:List Nat}
  (h:SFi x m w W b L D wr A1 A2 A3 C1 C2 C3 so fs) (ho:Only fpw wr wf) (hf:∀ g∈fpw,g = b\/g = w.heap.size + 1) (hm:m<=1000):∃ fL fD,Rd wf (.slice A1 L.length C1) L fL/\Rd wf (.slice A2 D.length C2) D fD/\Only [] w wf/\(∀ g∈fL ++ fD,w.heap.size<=g)/\L.length<=3000/\D.length<=3000/\∀ q∈L,q.length<=1000:=by
 have hb:=h.bW;have hw:=h.wb
 have hge:=h.sro.fr.ge
 have h1:=h.sro.only ho (fun g hg hm=>by
  have e:=hf g hm
  have e2:=hge g hg
  simp only [List.mem_append,List.append_nil] at hg
  rcases hg with hg | hg | hg | hg
  ·have:=h.ap g (by simp only [List.mem_append];exact .inl hg);omega
  ·have:=h.apf g hg;omega
  ·have:=h.ap g (by simp only [List.mem_append];exact .inr (.inl hg));omega
  ·have:=h.ap g (by simp only [List.mem_append];exact .inr (.inr hg));omega)
 have hD:∀ z∈D,I64 z:=fun z hz=>by have:=h.dep z hz;have:=h.dl;have:=h.ll;unfold I64;omega
 obtain ⟨a2,c2,hv2,-,hI2,-⟩:=Zba h1.dep hD
 injection hv2 with e1 _ e2;subst e1;subst e2
 refine ⟨_,_,h1.acc.rd (by decide),hI2.rd,h.on.then_ ho (fun g hg hl=>by have:=hf g hg;omega),fun g hg=>?_,h.ll,by have:=h.dl;have:=h.ll;omega,fun q hq=>by rw [(Zaz.1 (h.pat q hq)).1];exact hm⟩
 have:=hge g (by
  simp only [List.mem_append] at hg ⊢
  rcases hg with (hg | hg) | hg
  ·exact .inl hg
  ·exact .inr (.inl (.inl hg))
  ·exact .inr (.inr (.inl hg)))
 omega
theorem SFi.out2 {x:Puzzle} {m:Nat} {w W:World} {b:Nat} {L:List (List Int)} {D:List Int} {wr wf:World} {A1 A2 A3:Option Addr} {C1 C2 C3:Nat} {so:List Nat} {fs:List (List Nat)} {fpw:List Nat}
  (h:SFi x m w W b L D wr A1 A2 A3 C1 C2 C3 so fs) (ho:Only fpw wr wf) (hf:∀ g∈fpw,g = b\/g = w.heap.size + 1):∃ ob fps fd fz,SrR wf A1 A2 A3 C1 C2 C3 L D so ob fps fd fz/\∀ g∈(ob ++ fps.flatten) ++ (fd ++ fz),w.heap.size<=g:=by
 have hb:=h.bW;have hw:=h.wb
 have hge:=h.sro.fr.ge
 have h1:=h.sro.only ho (fun g hg hm=>by
  have e:=hf g hm
  have e2:=hge g hg
  simp only [List.mem_append,List.append_nil] at hg
  rcases hg with hg | hg | hg | hg
  ·have:=h.ap g (by simp only [List.mem_append];exact .inl hg);omega
  ·have:=h.apf g hg;omega
  ·have:=h.ap g (by simp only [List.mem_append];exact .inr (.inl hg));omega
  ·have:=h.ap g (by simp only [List.mem_append];exact .inr (.inr hg));omega)
 obtain ⟨ob,fps,fd,fz,q1,q2⟩:=h1.srR2 (fun z hz=>by have:=h.dep z hz;have:=h.dl;have:=h.ll;unfold I64;omega) (fun i hi=>by have:=h.srt.in_ i hi;have:=h.ll;omega)
 exact ⟨ob,fps,fd,fz,q1,fun g hg=>by have:=q2 g hg;omega⟩
end Go.Proofs.YthleokaeobdamaaGreat
