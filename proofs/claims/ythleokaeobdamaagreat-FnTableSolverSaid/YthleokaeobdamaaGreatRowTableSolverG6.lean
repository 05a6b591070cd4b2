/- The reference's chain: sift; a product, a generator more. -/
import Derived.Test.YthleokaeobdamaaGreatRowTableSolverG5
import Derived.Test.YthleokaeobdamaaGreatRowTableSolverG1
import Derived.Test.YthleokaeobdamaaGreatRowTableSolverG2
import Derived.Deep.RegionHeld3
import Derived.Deep.DeepCutAuto
namespace Go.Proofs.YthleokaeobdamaaGreat
open Go.RowKit
set_option maxRecDepth 10000
set_option maxHeartbeats 1000000 in
theorem Zfp {e:TypeId} {B:Nat} {L:Lay} {gv:Nat->Value} {n:Nat} {G:PM.Gens} {T:PM.Rows} {M F:List Nat} (w:World) (hC:Ch e B w L gv n G T M F) (hw:PM.WF n T) (hT:L.oT = 1)
  (k:Nat) (vp:Value) (p:List Int) (fp:List Nat) (hk:k<=n) (hp:Rd w vp p fp) (pp:PM.PN n p) :
  Calls Tryz.prog 198 #[.pointer (some ⟨L.g,0,none⟩),.int .i64 k,vp] w fun e w'=>∃ (v:Value) (lv:Nat),e = .returned (.tuple #[v,.int .i64 lv])/\PM.has T n (n - k) p = decide (lv = n)/\Only [] w w':=by
 have hn20:=hC.le
 have HW:=zH hw
 have HC:=zH hC
 have hcT:=hC.ct
 rw [hT] at hcT
 have HT:=zH hT
 have Hp:=zH hp
 have HPP:=zH pp
 clear hT hC hw hp pp
 go_enter Tryz.func198,Tryz.ntmps198
 go_wp2
 go_loopw [2,8] (fun s i wr=>∃ (j:Nat) (q:List Int) (f:List Nat),j<=n/\i = .int .i64 j/\Rd wr s q f/\PM.PN n q/\PM.has T n (n - k) p = PM.has T n (n - j) q/\Only [] w wr)
  (fun _ i _=>n - (intOf i).toNat)
 case atStart=>exact ⟨k,p,fp,hk,rfl,Hp.out,HPP.out,rfl,Only.refl _ _⟩
 case round=>
  obtain ⟨j,q,f,hj,rfl,hq,hqn,hh,hK⟩:=hrel
  have HH:=zH hh
  have HQN:=zH hqn
  have HK:=zH hK
  have c0:=hK.cell (by simp) HC.out.cn
  have c2:=hK.cell (by simp) hcT
  by_cases hlt:j < n
  ·have hjn:(j:Int) < (n:Int):=by omega
   have hj0:(0:Int)<=(j:Int):=by omega
   have hC':=HC.out.keep hK
   obtain ⟨aq,cq,rfl,IQ⟩:=hq.ints
   have hb:=IQ.bound
   have hlen:(j:Int) < (q.length:Int):=by have:=hqn.1;omega
   obtain ⟨bq,oq,rfl,-,hcq⟩:=IQ.at_pn (by omega:j < q.length)
   have hr:=hqn.rng (x:=(j:Int)) (by omega) (by omega)
   have hy0:=hr.1
   have hy1:=hr.2
   have c3:=hC'.row j hlt
   have hst:=Zpk (T:=T) hlt q
   have Hst:=zH hst
   clear hst hh hqn hK hr
   by_cases ht:PM.tr T j (PM.at_ q (j:Int)) = []
   ·have c4:=hC'.at_nil hlt hy0 hy1 ht
    have Ht:=zH ht
    clear ht hC'
    go_wp2
    go_quiet (fail)
    go_wp2
    refine bodyPost_ret (v:=.tuple #[.slice (some ⟨bq,oq,none⟩) q.length cq,.int .i64 j]) (by simp [results,Tryz.results198,go_sem]) rfl ⟨_,j,rfl,?_,HK.out.drewN _⟩
    rw [HH.out,Hst.out,if_pos Ht.out];simp;omega
   ·obtain ⟨b,off,cap,f4,c4,hR,-⟩:=hC'.at_some hlt hy0 hy1 ht
    have htn:=HW.out.pn j _ hlt ht
    have htl:0 < (PM.tr T j (PM.at_ q (j:Int))).length:=List.length_pos_iff.2 ht
    have hbl:(((PM.tr T j (PM.at_ q (j:Int))).length:Int) == 0) = false:=by simp;omega
    have htb:(PM.tr T j (PM.at_ q (j:Int))).length<=20:=by have:=htn.1;omega
    have Htn:=zH htn
    have Ht:=zH ht
    clear ht hC' htn
    go_wp2
    go_quiet (fail)
    go_wp2_with (first
     | (go_at_call 201;(with_reducible refine (Zki n _ _ _ _ (zK hR zA) Htn.out (by omega)).mono ?_);rintro e w1 ⟨v1,f1,rfl,r1,F1,t1⟩)
     | (go_at_call 79;(with_reducible refine (Zbg n _ _ _ _ _ _ _ (zK hq zA) r1 HQN.out Htn.out.inv (by omega)).mono ?_);rintro e w2 ⟨v2,f2,rfl,r2,F2,t2⟩)
     | fail)
    go_roundw
    case rel=>exact ⟨j + 1,_,f2,by omega,by go_num,r2,HQN.out.comp Htn.out.inv,by rw [HH.out,Hst.out,if_neg Ht.out],(HK.out.drewN _).trans (t1.trans t2)⟩
    case measure=>simp [intOf];omega
  ·have hjn:¬ (j:Int) < (n:Int):=by omega
   obtain ⟨aq,cq,rfl,-⟩:=hq.ints
   clear hh hqn
   go_wp2
   go_quiet (fail)
   go_wp2
   refine bodyPost_ret (v:=.tuple #[.slice aq q.length cq,.int .i64 n]) (by simp [results,Tryz.results198,go_sem]) rfl ⟨_,n,rfl,?_,HK.out.drewN _⟩
   rw [HH.out,has_end (by omega)];simp
def PrP (e:TypeId) (B:Nat) (L:Lay) (n k:Nat) (q:List Int) (G:PM.Gens) (T:PM.Rows) (M F f:List Nat) (gv:Nat->Value) (w w':World):Prop:=
 ∃ gv' G' T' M' F',Ch e B w' L gv' n G' T' M' F'/\PM.Prod n k q G T G' T'/\PM.Ln n (k + 1) G' T'/\Mv L k gv gv' M M' F F' f w w'
def PLp (e:TypeId) (B:Nat) (L:Lay) (gv1:Nat->Value) (n k:Nat) (G1:PM.Gens) (T1:PM.Rows) (M1 F1:List Nat) (W:World) (Ps:List (List Int)) (j:Nat) (wr:World):Prop:=
 ∃ gv' G' T' M' F',Ch e B wr L gv' n G' T' M' F'/\PM.PL n k G1 T1 Ps j G' T'/\PM.Ln n (k + 1) G' T'/\Mv L k gv1 gv' M1 M' F1 F' [] W wr
section
variable {e:TypeId} {B:Nat} {L:Lay} {gv gv1 gv':Nat->Value} {n k:Nat} {G G1 G':PM.Gens} {T T1 T':PM.Rows} {M M1 M' F F0 F1 F' f:List Nat} {w W2 W wr:World} {Ps:List (List Int)} {j:Nat}
theorem PLp.start (hC:Ch e B W L gv1 n G1 T1 M1 F1) (hB:PM.Base n G1 T1) (hCp:PM.Cpl n (k + 1) G1 T1) (hL:PM.Ln n (k + 1) G1 T1) (Ps:List (List Int)):PLp e B L gv1 n k G1 T1 M1 F1 W Ps 0 W:=
 ⟨gv1,G1,T1,M1,F1,hC,PM.PL.start hB hCp Ps,hL,Mv.refl _ _ _ _ _ _ _⟩
theorem PLp.step (hk:k < n) (hC:Ch e B wr L gv' n G' T' M' F') (hP:PM.PL n k G1 T1 Ps j G' T') (hM:Mv L k gv1 gv' M1 M' F1 F' [] W wr) (hj:j < Ps.length)
  {w3 w4:World} (t:Only [] wr w3) {fp:List Nat} (hf:∀ b∈fp,wr.heap.size<=b) (ha:PrP e B L n k Ps[j] G' T' M' F' fp gv' w3 w4):PLp e B L gv1 n k G1 T1 M1 F1 W Ps (j + 1) w4:=by
 obtain ⟨gv2,G2,T2,M2,F2,hC2,hA,hL,hMv⟩:=ha
 exact ⟨gv2,G2,T2,M2,F2,hC2,hP.step hj hA,hL,hM.trans (Mv.before t hMv fun i hi=>hC.lM _ (hC.mr i (by omega))) fun b hb=>.inr (.inr (Nat.le_trans hM.only.size (hf b hb)))⟩
theorem PLp.genAt (hC:Ch e B wr L gv' n G' T' M' F') (hP:PM.PL n k G1 T1 Ps j G' T') (hk:k < n) {i:Nat} (hi:i < (PM.lv G1 k).length) :
  ∃ g c u f,gv' k = .slice (some ⟨g,0,none⟩) (PM.lv G1 k).length c/\wr.cell? ⟨g,i,none⟩ = some u/\Rd wr u (PM.lv G1 k)[i] f/\∀ b∈f,b∈F':=by
 have e1:=hP.lvk
 obtain ⟨g,c,u,f,a1,a2,a3,a4⟩:=hC.genAt hk (j:=i) (by rw [e1];exact hi)
 have e3:(PM.lv G' k)[i]'(by rw [e1];exact hi) = (PM.lv G1 k)[i]:=by simp only [e1]
 rw [e1] at a1
 exact ⟨g,c,u,f,a1,a2,e3 ▸ a3,a4⟩
theorem PLp.genV (hC:Ch e B wr L gv' n G' T' M' F') (hP:PM.PL n k G1 T1 Ps j G' T') (hk:k < n):∃ a c,gv' k = .slice a (PM.lv G1 k).length c:=by
 obtain ⟨fs,hA,-⟩:=hC.acc k hk
 obtain ⟨a,c,h⟩:=hA.form
 rw [hP.lvk] at h
 exact ⟨a,c,h⟩
theorem PrP.deep {q:List Int} {f:List Nat} (hk:k < n) (hC:Ch e B w L gv n G T M F) {w1 w':World} (t:Only [] w w1) (hn:PM.tr T k (PM.at_ q (k:Int)) ≠ []) (hf:∀ b∈f,w.heap.size<=b) (ha:AddP e B L n (k + 1) (PM.res T k q) G T M F f gv w1 w') {fq:List Nat}:PrP e B L n k q G T M F fq gv w w':=by
 obtain ⟨gv',G',T',M',F',hC',hA,hL,hM⟩:=ha
 exact ⟨gv',G',T',M',F',hC',PM.Prod.deep hn hA,hL,(Mv.before t hM fun i hi=>hC.lM _ (hC.mr i (by omega))).mono (Nat.le_succ k) fun b hb=>.inr (.inr (hf b hb))⟩
def A2 (e:TypeId) (B:Nat) (L:Lay) (gv:Nat->Value) (n k m:Nat) (q:List Int) (G:PM.Gens) (T:PM.Rows) (M F f:List Nat) (w wx:World):Prop:=
 Ch e B wx L gv n G (PM.setT T k m q) M (F ++ f)/\Mv L k gv gv M M F (F ++ f) f w wx
theorem A2.of {m:Nat} {q:List Int} {v:Value} {f:List Nat} (hk:k < n) (hC:Ch e B w L gv n G T M F) {w1:World} (t:Only [] w w1) (hm:m < n) (hv:Rd w v q f) (hq:q ≠ []) (hf:∀ b∈f,b ∉ M) :
  A2 e B L gv n k m q G T M F f w (w1.setCell ⟨L.rb k,m,none⟩ v):=by
 refine ⟨(hC.keep t).setRow hk hm (zK hv t) hq hf,((t.weaken M).setCell (fun _=>hC.mr k hk) _),fun _ _=>rfl,fun i hi=>?_,fun _ h=>.inl h,fun _ h=>h,fun b hb=>(List.mem_append.1 hb).imp id .inl,fun b hb=>List.mem_append_left _ hb⟩
 have h1:=t.block (L.rb i) (hC.lM _ (hC.mr i (by omega))) (by simp)
 have h2:=(Zaf w1 (L.rb k) m v).block (L.rb i) (Nat.lt_of_lt_of_le (hC.lM _ (hC.mr i (by omega))) t.size) (by
  intro h
  have h3:L.rb i = L.rb k:=by simpa using h
  have:=hC.rr i k (by omega) hk h3
  omega)
 exact h2.trans h1
theorem PrP.fin {m:Nat} {q:List Int} (hk:k < n) (hC:Ch e B w L gv n G T M F) (hB:PM.Base n G T) (hCp:PM.Cpl n (k + 1) G T) (hq:PM.PN n q) (hf:PM.Fix k q) (hg:PM.Grp n (PM.lv G k) q) (hm:PM.at_ q (k:Int) = (m:Int)) (hmn:m < n) (h0:PM.tr T k (m:Int) = [])
  (hM2:Mv L k gv gv M M F F1 f w W) (hj:((PM.lv G k).map (PM.comp q)).length<=j) (h:PLp e B L gv n k G (PM.setT T k m q) M F1 W ((PM.lv G k).map (PM.comp q)) j wr):PrP e B L n k q G T M F f gv w wr:=by
 obtain ⟨gv',G',T',M',F',hC',hP,hL,hM⟩:=h
 exact ⟨gv',G',T',M',F',hC',PM.Prod.fresh hC.shape hk hB hCp hq hf hg hm hmn h0 hj hP,hL,hM2.trans hM (by simp)⟩
theorem PLp.fin {p:List Int} (hk:k < n) (hC:Ch e B w L gv n G T M F) (hI:PM.Inv n k G T) (hm:PM.May n k p G) (hL:PM.Ln n k G T) (hno:PM.has T n (n - k) p = false) (h0:Mv L k gv gv1 M M1 F F1 f w W)
  (hPs:∀ y,PM.tr T k y ≠ []->PM.comp (PM.tr T k y) p∈Ps) (hj:Ps.length<=j) (h:PLp e B L gv1 n k (G.set k (PM.lv G k ++ [p])) T M1 F1 W Ps j wr):AddP e B L n k p G T M F f gv w wr:=by
 obtain ⟨gv',G',T',M',F',hC',hP,hLn,hM⟩:=h
 have hA:=PM.Added.ofPL hC.shape hk hI hm hPs hj hP
 have hl:PM.lv G' k = PM.lv G k ++ [p]:=by rw [hP.lvk,PM.lv_set (by rw [hC.shape.lg];exact hk),if_pos rfl]
 exact ⟨gv',G',T',M',F',hC',hA,PM.Ln.more hC.shape hC'.shape hL hLn hA.grew.ext hno hA.has (by rw [hl];simp),h0.trans hM (by simp)⟩
end
def SGenAt (B:Nat) (L:Lay) (n k:Nat):Prop:=∀ (gv:Nat->Value) (G:PM.Gens) (T:PM.Rows) (M F:List Nat) (w:World),Ch 27 B w L gv n G T M F->PM.Inv n k G T->PM.Ln n k G T ->
 ∀ (p:List Int) (vp:Value) (fp:List Nat),PM.May n k p G->Rd w vp p fp->(∀ b∈fp,b ∉ M)->B<=w.heap.size ->
 Calls Tryz.prog 200 #[.pointer (some ⟨L.g,0,none⟩),.int .i64 k,vp] w fun en w'=>en = .returned (.tuple #[])/\AddP 27 B L n k p G T M F fp gv w w'
theorem SGenAt.succ {B:Nat} {L:Lay} {n k:Nat} (h:SGenAt B L n (k + 1)) (_hk:k<=1000) {gv:Nat->Value} {G:PM.Gens} {T:PM.Rows} {M F:List Nat} {w:World} (hC:Ch 27 B w L gv n G T M F) (hI:PM.Inv n (k + 1) G T) (hL:PM.Ln n (k + 1) G T)
  {p:List Int} {vp:Value} {fp:List Nat} (hm:PM.May n (k + 1) p G) (hp:Rd w vp p fp) (hf:∀ b∈fp,b ∉ M) (hB:B<=w.heap.size) :
  Calls Tryz.prog 200 #[.pointer (some ⟨L.g,0,none⟩),.int .i64 ((k:Int) + 1),vp] w fun en w'=>en = .returned (.tuple #[])/\AddP 27 B L n (k + 1) p G T M F fp gv w w':=by
 exact h gv G T M F w hC hI hL p vp fp hm hp hf hB
set_option maxHeartbeats 4000000 in
theorem Zkq (B:Nat) (L:Lay) (hoG:L.oG = 2) (hoT:L.oT = 1) (n k:Nat) (hkn:k < n) (hG:SGenAt B L n (k + 1)):∀ (m:Nat) (gv:Nat->Value) (G:PM.Gens) (T:PM.Rows) (M F:List Nat) (w:World),Ch 27 B w L gv n G T M F ->
  PM.Base n G T->PM.Cpl n (k + 1) G T->PM.Ln n (k + 1) G T->n - PM.cntR n T k < m->(PM.lv G k).length<=401 ->
  ∀ (q:List Int) (vq:Value) (fq:List Nat),PM.PN n q->PM.Fix k q->PM.Grp n (PM.lv G k) q->Rd w vq q fq->(∀ b∈fq,b ∉ M)->B<=w.heap.size ->
  Calls Tryz.prog 232 #[.pointer (some ⟨L.g,0,none⟩),.int .i64 k,vq] w fun en w'=>en = .returned (.tuple #[])/\PrP 27 B L n k q G T M F fq gv w w':=by
 intro m
 induction m with
 | zero=>intro gv G T M F w _ _ _ _ h;omega
 | succ m ih=>
  intro gv G T M F w hC hB hCp hLn hm hll q vq fq hq hf hg hv hvM hBw
  have hn20:=hC.le
  have IH:=zH ih
  obtain ⟨aq,cq,rfl,IQ⟩:=hv.ints
  have hb:=IQ.bound
  have hk0:(0:Int)<=(k:Int):=by omega
  have hlen:(k:Int) < (q.length:Int):=by have:=hq.1;omega
  obtain ⟨bq,oq,rfl,hfq,hcq⟩:=IQ.at_pn (by omega:k < q.length)
  have hr:=hq.rng (x:=(k:Int)) (by omega) (by omega)
  have hy0:=hr.1
  have hy1:=hr.2
  have ct:=hC.ct
  rw [hoT] at ct
  have crk:=hC.row k hkn
  have HC:=zH hC
  have HB:=zH hB
  have HCp:=zH hCp
  have HLn:=zH hLn
  have Hm:=zH hm
  have Hq:=zH hq
  have Hf:=zH hf
  have Hg:=zH hg
  have Hv:=zH hv
  have HvM:=zH hvM
  have Hll:=zH hll
  clear ih hB hCp hLn hm hq hf hg hv hr hll
  go_enter Tryz.func232,Tryz.ntmps232
  by_cases ht:PM.tr T k (PM.at_ q (k:Int)) = []
  ·have c4:=hC.at_nil hkn hy0 hy1 ht
   obtain ⟨m0,hm0⟩:∃ m0:Nat,m0 = (PM.at_ q (k:Int)).toNat:=⟨_,rfl⟩
   have em0:PM.at_ q (k:Int) = (m0:Int):=by omega
   have hm0n:m0 < n:=by omega
   have hbqM:bq ∉ M:=hvM bq (by rw [hfq];simp)
   have hrM:=hC.mr k hkn
   have hneg:L.g ≠ L.rb k:=fun e=>hC.mf _ hrM (e ▸ hC.gF)
   have hneb:L.bt ≠ L.rb k:=fun e=>hC.mf _ hrM (e ▸ hC.btF)
   have hneq:bq ≠ L.rb k:=fun e=>hbqM (e ▸ hrM)
   have hK0:∀ w':World,Only [] w w'->(w'.cell? ⟨L.g,1,none⟩ = some (.slice (some ⟨L.bt,0,none⟩) n L.cT)/\w'.cell? ⟨L.bt,k,none⟩ = some (.slice (some ⟨L.rb k,0,none⟩) n n)/\w'.cell? ⟨bq,oq + k,none⟩ = some (.int .i64 (PM.at_ q (k:Int)))):=fun w' h0=>⟨h0.cell (by simp) ct,h0.cell (by simp) crk,h0.cell (by simp) hcq⟩
   have hK1:∀ (x:Value) (i:Nat) (wa:World),Only [] w wa->(let w':=wa.setCell ⟨L.rb k,i,none⟩ x;(w'.cell? ⟨L.g,1,none⟩ = some (.slice (some ⟨L.bt,0,none⟩) n L.cT)/\w'.cell? ⟨L.bt,k,none⟩ = some (.slice (some ⟨L.rb k,0,none⟩) n n)/\w'.cell? ⟨bq,oq + k,none⟩ = some (.int .i64 (PM.at_ q (k:Int))))):=fun x i wa h0=>
    ⟨(Zaf _ _ _ _).cell (by simpa using hneg) (hK0 wa h0).1,(Zaf _ _ _ _).cell (by simpa using hneb) (hK0 wa h0).2.1,(Zaf _ _ _ _).cell (by simpa using hneq) (hK0 wa h0).2.2⟩
   have hfr:∀ wa:World,Only [] w wa->wa.frozen? ⟨L.rb k,(PM.at_ q (k:Int)).toNat,none⟩ = false/\wa.cell? ⟨L.rb k,(PM.at_ q (k:Int)).toNat,none⟩ = some (.slice none 0 0):=fun wa h0=>⟨(hC.keep h0).frow hkn _,h0.cell (by simp) c4⟩
   have HK0:=zH hK0
   have HK1:=zH hK1
   have HFR:=zH hfr
   have hs:=PM.Zjo hC.shape hkn HB.out HCp.out Hq.out Hf.out Hg.out em0 hm0n (by rw [<- em0];exact ht)
   have hcn:PM.cntR n (PM.setT T k m0 q) k = PM.cntR n T k + 1:=PM.Zqj (by rw [hC.shape.lt];exact hkn) (by rw [hC.shape.lr k hkn];exact hm0n) hm0n (Hq.out.ne (by omega)) (by rw [<- em0];exact ht)
   have hcl:=PM.cntR_le n (PM.setT T k m0 q) k
   have HS:=zH hs
   have Hcn:=zH hcn
   have Hcl:=zH hcl
   have Ht:=zH ht
   have HvM':=zH hvM
   have hne:q ≠ []:=Hq.out.ne (by omega)
   have Hne:=zH hne
   clear hK0 hK1 hfr hs hcn hcl ht hvM hC hne hneg hneb hneq hbqM hrM hfq
   have Hm0:=zH hm0
   have Em0:=zH em0
   clear hm0 em0
   go_wp2
   go_quiet (fail)
   go_wp2
   go_cut [] (fun wx=>A2 27 B L gv n k m0 q G T M F fq w wx)
   case first=>
    obtain ⟨zf,zc⟩:=HFR.out w zO
    obtain ⟨zf1,zc1⟩:=HFR.out ((w.drewN nq).drew) ((zO.drewN _).drew)
    go_region_held3 (fun w'=>w'.cell? ⟨L.g,1,none⟩ = some (.slice (some ⟨L.bt,0,none⟩) n L.cT)/\w'.cell? ⟨L.bt,k,none⟩ = some (.slice (some ⟨L.rb k,0,none⟩) n n)/\w'.cell? ⟨bq,oq + k,none⟩ = some (.int .i64 (PM.at_ q (k:Int)))) ((first | (refine HK1.out _ _ _ ?_;((with_reducible repeat (first | exact Only.refl _ _ | assumption | refine Only.drewN ?_ _ | refine Only.drew ?_ | refine Only.alloc ?_ _ | refine Only.trans ?_ (by assumption)));done)) | (refine HK0.out _ ?_;((with_reducible repeat (first | exact Only.refl _ _ | assumption | refine Only.drewN ?_ _ | refine Only.drew ?_ | refine Only.alloc ?_ _ | refine Only.trans ?_ (by assumption)));done)))) (first | fail)
    all_goals go_wp2_with fail
    all_goals go_meet
    all_goals (rw [<- Hm0.out];exact A2.of hkn HC.out (by with_reducible repeat (first | exact Only.refl _ _ | refine Only.drewN ?_ _ | refine Only.drew ?_)) hm0n Hv.out Hne.out HvM'.out)
   case rest=>
    obtain ⟨hC2,hM2⟩:=hcut
    obtain ⟨W2,hnew⟩:∃ W,W = wc:=⟨_,rfl⟩
    subst hnew
    have HC2:=zH hC2
    have HM2:=zH hM2
    have hv2:=Rp.only Hv.out hM2.only HvM'.out
    have Hv2:=zH hv2
    clear ct crk c4 hC2 hM2 hv2 hcq
    go_wp2
    go_loopw [7] (fun i wr=>∃ j:Nat,j<=(PM.lv G k).length/\i = .int .i64 j/\PLp 27 B L gv n k G (PM.setT T k m0 q) M (F ++ fq) W2 ((PM.lv G k).map (PM.comp q)) j wr)
     (fun i _=>(PM.lv G k).length - (intOf i).toNat)
    case atStart=>exact ⟨0,Nat.zero_le _,rfl,PLp.start HC2.out HS.out.1 HS.out.2.1 (PM.Ln.ext HLn.out (fun _ _=>rfl) HS.out.2.2.ext) _⟩
    case round=>
     obtain ⟨W4,hnew⟩:∃ W,W = wr:=⟨_,rfl⟩
     subst hnew
     obtain ⟨j,hj,rfl,hPL⟩:=hrel
     have HPL:=zH hPL
     obtain ⟨gv3,G3,T3,M3,F3,hC3,hP3,hL3,hM3⟩:=hPL
     have cg:=hC3.cg
     rw [hoG] at cg
     have cgk:=hC3.gen k hkn
     by_cases hlt:j < (PM.lv G k).length
     ·obtain ⟨gg,cc,u,fu,hgk',hcu,hru,hfu⟩:=PLp.genAt hC3 hP3 hkn hlt
      rw [hgk'] at cgk
      have hgm:(PM.lv G k)[j]∈PM.lv G k:=List.getElem_mem _
      have hgpn:=HB.out.gpn k _ hkn hgm
      have hgfx:=HB.out.gfix k _ hkn hgm
      have hgrp:PM.Grp n (PM.lv G3 k) (PM.comp q (PM.lv G k)[j]):=by rw [hP3.lvk];exact Hg.out.mul hgm
      have hv4:=Rp.only Hv2.out hM3.only HvM'.out
      have hcm:n - PM.cntR n T3 k < m:=by
       have:=PM.Zie (n:=n) (k:=k) hP3.grew.ext
       have:=Hcn.out
       have:=Hcl.out
       have:=Hm.out
       omega
      have hl3:(PM.lv G3 k).length<=401:=by rw [hP3.lvk];exact Hll.out
      have hll:=Hll.out
      have hB4:B<=W4.heap.size:=Nat.le_trans (hC3.ge _ hC3.mg) (Nat.le_of_lt (hC3.lM _ hC3.mg))
      have Hgpn:=zH hgpn
      have Hgfx:=zH hgfx
      have Hgrp:=zH hgrp
      have Hv4:=zH hv4
      have Hru:=zH hru
      have Hcm:=zH hcm
      have Hl3:=zH hl3
      have HC3:=zH hC3
      have HP3:=zH hP3
      have HL3:=zH hL3
      have HM3:=zH hM3
      clear hgk' hgm hgpn hgfx hgrp hv4 hcm hl3 hC3 hP3 hL3 hM3 hru hfu
      go_wp2_with (first
       | (go_at_call 79;(with_reducible refine (Zbg n _ _ _ _ _ _ _ (zK Hv4.out zA) (zK Hru.out zA) Hq.out Hgpn.out (by omega)).mono ?_);rintro en w5 ⟨v5,f5,rfl,r5,F5,t5⟩)
       | (go_at_call 232;(with_reducible refine (IH.out gv3 G3 T3 M3 F3 _ (HC3.out.keep zA) HP3.out.base HP3.out.cpl HL3.out Hcm.out Hl3.out _ _ _ (Hq.out.comp Hgpn.out) (PM.Fix.comp Hq.out (by omega) Hf.out Hgfx.out) Hgrp.out r5 (Zdf HC3.out.lM (Only.size (fp:=[]) zA) F5) (Nat.le_trans hB4 (Only.size (fp:=[]) zA))).mono ?_);rintro en w6 ⟨rfl,ha6⟩)
       | fail)
      go_roundw
      case rel=>exact ⟨j + 1,by omega,by go_num,PLp.step hkn HC3.out HP3.out HM3.out (by rw [List.length_map];exact hlt) (w3:=w5) zA (fun b hb=>Nat.le_trans (Only.size (fp:=[]) zA) (F5.ge b hb)) (by rw [List.getElem_map];exact ha6)⟩
      case measure=>simp [intOf];omega
     ·obtain ⟨a3,c3,hgv3⟩:=PLp.genV hC3 hP3 hkn
      rw [hgv3] at cgk
      have hll:=Hll.out
      clear hC3 hP3 hL3 hM3
      go_wp2
      first | go_end0 | refine bodyPost_ret (results_none rfl _ _ _) rfl ?_
      exact ⟨rfl,PrP.fin hkn HC.out HB.out HCp.out Hq.out Hf.out Hg.out Em0.out hm0n (by rw [<- Em0.out];exact Ht.out) HM2.out (by rw [List.length_map];omega) HPL.out⟩
  ·obtain ⟨b,off,cap,f4,c4,hR,-⟩:=hC.at_some hkn hy0 hy1 ht
   have htn:=HB.out.wf.pn k _ hkn ht
   have htl:0 < (PM.tr T k (PM.at_ q (k:Int))).length:=List.length_pos_iff.2 ht
   have htb:(PM.tr T k (PM.at_ q (k:Int))).length<=20:=by have:=htn.1;omega
   have hmay:=PM.PL.res_may hkn HB.out Hq.out Hf.out Hg.out ht
   unfold PM.res at hmay
   have Hmay:=zH hmay
   have Htn:=zH htn
   have Ht:=zH ht
   clear ht hC htn hmay hfq hvM
   go_wp2
   go_quiet (fail)
   go_wp2_with (first
    | (go_at_call 201;(with_reducible refine (Zki n _ _ _ _ (zK hR zA) Htn.out (by omega)).mono ?_);rintro en w1 ⟨v1,f1,rfl,r1,F1,t1⟩)
    | (go_at_call 79;(with_reducible refine (Zbg n _ _ _ _ _ _ _ (zK Hv.out zA) r1 Hq.out Htn.out.inv (by omega)).mono ?_);rintro en w2 ⟨v2,f2,rfl,r2,F2,t2⟩)
    | (go_at_call 200;(with_reducible refine (hG.succ (by omega) (HC.out.keep zA) (PM.inv_iff.2 ⟨HB.out,HCp.out⟩) HLn.out Hmay.out r2 (Zdf HC.out.lM (Only.size (fp:=[]) zA) F2) (Nat.le_trans hBw (Only.size (fp:=[]) zA))).mono ?_);rintro en w3 ⟨rfl,ha3⟩)
    | fail)
   first | go_end0 | refine bodyPost_ret (results_none rfl _ _ _) rfl ?_
   exact ⟨rfl,PrP.deep hkn HC.out (w1:=w2) zA Ht.out (fun b hb=>Nat.le_trans (Only.size (fp:=[]) zA) (F2.ge b hb)) ha3⟩
def knTo (j:Nat) (T:PM.Rows) (k:Nat):List (List Int):=(orbTo j T k).map (PM.tr T k)
theorem Zsb (j:Nat) (T:PM.Rows) (k:Nat):knTo (j + 1) T k = if PM.tr T k (j:Int) = [] then knTo j T k else knTo j T k ++ [PM.tr T k (j:Int)]:=by
 unfold knTo;rw [Zlj];split
 ·rfl
 ·simp
theorem Zoz (j:Nat) (T:PM.Rows) (k:Nat):(knTo j T k).length<=j:=by unfold knTo;rw [List.length_map];exact Zfy j T k
theorem knTo_at {n:Nat} {T:PM.Rows} {k:Nat} {j:Nat} (h:j < (knTo n T k).length):∃ y,0<=y/\y < (n:Int)/\PM.tr T k y ≠ []/\(knTo n T k)[j] = PM.tr T k y:=by
 have h1:j < (orbTo n T k).length:=by unfold knTo at h;rwa [List.length_map] at h
 have h2:=mem_orb.1 (List.getElem_mem h1:(orbTo n T k)[j]∈orb n T k)
 exact ⟨_,h2.1.1,h2.1.2,h2.2,by simp [knTo]⟩
theorem Acc.notin {α:Type} [Rp α] {B:Nat} {e:TypeId} {w:World} {v:Value} {l:List α} {fs:List (List Nat)} (h:Acc B e w v l fs) {M F:List Nat} (hM:∀ b∈M,b < B) (hMF:∀ b∈M,b ∉ F) (hF:∀ b∈fs.flatten,b∈F):∀ b∈v.ownBlock.toList ++ fs.flatten,b ∉ M:=fun b hb hm=>by
 rcases List.mem_append.1 hb with h1 | h1
 ·have:=(h.ownlt b (by simpa using h1)).1
  have:=hM b hm;omega
 ·exact hMF b hm (hF b h1)
set_option maxHeartbeats 4000000 in
theorem Zrg (B:Nat) (L:Lay) (hoG:L.oG = 2) (hoT:L.oT = 1):∀ (N n k:Nat),n - k = N->k<=n->SGenAt B L n k:=by
 intro N
 induction N with
 | zero=>
  intro n k hN hk gv G T M F w hC hI hLn p vp fp hm hp hfM hB
  have e:PM.has T n (n - k) p = true:=has_end (by omega) p
  have hkn:k = n:=by omega
  subst hkn
  have hn20:=hC.le
  have cn:=hC.cn
  have HC:=zH hC
  have HI:=zH hI
  have HLn:=zH hLn
  have He:=zH e
  clear hC hI hLn e hm hp hN hk
  go_enter Tryz.func200,Tryz.ntmps200
  go_wp2
  first | go_end0 | refine bodyPost_ret (results_none rfl _ _ _) rfl ?_
  exact ⟨rfl,gv,G,T,M,F,HC.out,PM.Added.same HI.out He.out,HLn.out,Mv.refl L k gv M F fp w⟩
 | succ N ih=>
  intro n k hN hk gv G T M F w hC hI hLn p vp fp hm hp hfM hB
  have hkn:k < n:=by omega
  have hrlt:∀ j,j < k->L.rb j < w.heap.size:=fun j hj=>hC.lM _ (hC.mr j (by omega))
  have hG:=ih n (k + 1) (by omega) (by omega)
  obtain ⟨ap,cp,rfl,hIp⟩:=hp.ints
  have hpb:=hIp.bound
  have hn20:=hC.le
  have hk0:(0:Int)<=(k:Int):=by omega
  have hkn':(k:Int) < (n:Int):=by omega
  have cn0:=hC.cn
  have HG:=zH hG
  have HC:=zH hC
  have HI:=zH hI
  have HLn:=zH hLn
  have Hm:=zH hm
  have Hp:=zH hp
  have HfM:=zH hfM
  have Hr:=zH hrlt
  have hll:=hLn.le (Nat.le_refl _) hkn hn20
  have Hll:=zH hll
  clear ih hG hC hI hLn hm hp hfM hrlt hll
  rcases hh:PM.has T n (n - k) p
  rotate_left
  ·have He:=zH hh
   clear hh
   go_enter Tryz.func200,Tryz.ntmps200
   go_wp2_with (first | (go_at_call 198;(with_reducible refine (Zfp w HC.out HI.out.wf hoT k _ p fp hk Hp.out Hm.out.pn).mono ?_);rintro en w1 ⟨v1,lv1,rfl,he,t1⟩;rw [He.out] at he;have hlv:n = lv1:=(of_decide_eq_true he.symm).symm;clear he;subst hlv;have cn1:=t1.cell (by simp) cn0) | fail)
   first | go_end0 | refine bodyPost_ret (results_none rfl _ _ _) rfl ?_
   exact ⟨rfl,gv,G,T,M,F,HC.out.keep t1,PM.Added.same HI.out He.out,HLn.out,(Mv.refl L k gv M F fp w).keep t1 Hr.out⟩
  have He:=zH hh
  clear hh
  obtain ⟨i1,hi,hz0,hz1,hz2⟩:=info_parts Tryz.info22
  go_enter Tryz.func200,Tryz.ntmps200
  go_wp2_with (first | (go_at_call 198;(with_reducible refine (Zfp w HC.out HI.out.wf hoT k _ p fp hk Hp.out Hm.out.pn).mono ?_);rintro en w1 ⟨v1,lv1,rfl,he,t1⟩;rw [He.out] at he;have hlv:lv1 ≠ n:=of_decide_eq_false he.symm;clear he;have hlv2:((lv1:Int) == (n:Int)) = false:=(by rw [beq_eq_false_iff_ne];omega);have cn1:=t1.cell (by simp) cn0) | fail)
  have hC1:=HC.out.keep t1
  have cg:=hC1.cg
  have ct:=hC1.ct
  rw [hoG] at cg
  rw [hoT] at ct
  have cgk:=hC1.gen k hkn
  have hgF:=hC1.gF
  have hgM:L.g ∉ M:=fun hm=>hC1.mf _ hm hgF
  have hgb:L.g ≠ L.bg:=fun e=>hgM (e ▸ hC1.mg)
  obtain ⟨fs,hA,hfsF⟩:=hC1.acc k hkn
  obtain ⟨a0,c0,hgv⟩:=hA.form
  have HA:=zH hA
  have Hgv:=zH hgv
  have HC1:=zH hC1
  have hgo:L.g ∉ (gv k).ownBlock.toList:=fun hm=>hgM (hC1.ma k _ hkn (by simpa using hm))
  have HK1:=zH t1
  have hcore:∀ b∈L.bg :: (List.range n).map L.rb,b ∉ (gv k).ownBlock.toList:=by
   intro b hb hm
   obtain ⟨g1,g2⟩:=hC1.ag k b hkn (by simpa using hm)
   rcases List.mem_cons.1 hb with e | hb
   ·exact g1 e
   ·obtain ⟨j,hj,e⟩:=List.mem_map.1 hb
    exact g2 j (List.mem_range.1 hj) e.symm
  have HCO:Hid (∀ w8 w9,Only [] w1 w8->Only (gv k).ownBlock.toList w8 w9->(w9.cell? ⟨L.bg,k,none⟩ = some (gv k)/\w9.frozen? ⟨L.bg,k,none⟩ = false)/\w9.cell? ⟨L.g,2,none⟩ = some (.slice (some ⟨L.bg,0,none⟩) n L.cG)):=zH (fun w8 w9 h8 h9=>
   have ho:=(h8.weaken _).trans h9
   ⟨⟨ho.cell (hcore _ (by simp)) cgk,(hC1.own.only ho hcore).frozen (by simp)⟩,ho.cell hgo cg⟩)
  clear hC1 hA hgv hcore
  have cgd:w1.drew.cell? ⟨L.bg,k,none⟩ = some (gv k):=((Only.refl [] w1).drew).cell (by simp) cgk
  have cga:(w1.alloc (.cells #[.slice ap p.length cp] 27)).cell? ⟨L.bg,k,none⟩ = some (gv k):=((Only.refl [] w1).alloc _).cell (by simp) cgk
  have cgb:(w1.alloc (.cells #[.slice ap p.length cp] 27)).drew.cell? ⟨L.bg,k,none⟩ = some (gv k):=(((Only.refl [] w1).alloc _).drew).cell (by simp) cgk
  have cgdg:w1.drew.cell? ⟨L.g,2,none⟩ = some (.slice (some ⟨L.bg,0,none⟩) n L.cG):=((Only.refl [] w1).drew).cell (by simp) cg
  have cgag:(w1.alloc (.cells #[.slice ap p.length cp] 27)).cell? ⟨L.g,2,none⟩ = some (.slice (some ⟨L.bg,0,none⟩) n L.cG):=((Only.refl [] w1).alloc _).cell (by simp) cg
  have cgbg:(w1.alloc (.cells #[.slice ap p.length cp] 27)).drew.cell? ⟨L.g,2,none⟩ = some (.slice (some ⟨L.bg,0,none⟩) n L.cG):=(((Only.refl [] w1).alloc _).drew).cell (by simp) cg
  go_cut [] (fun wx=>A1 27 B L gv n k p G T M F fp w wx)
  case first=>
   go_region_law (first
    | (refine Zja rfl _ _ 24 rfl B 27 i1 _ 24 Tryz.underlying24 hi hz0 hz1 hz2 rfl (by decide) (by decide) w1 (gv k) (PM.lv G k) fs rfl HA.out (by with_reducible repeat (first | exact Only.refl _ _ | refine Only.drew ?_ | refine Only.alloc ?_ _)) (Nat.le_trans hB HK1.out.size) _ 1 [.slice ap p.length cp] p fp rfl (lit_src _ [.slice ap p.length cp] _ rfl) (by intro u hu;simp at hu;subst hu;rfl) (zK Hp.out zA) (fun b hb hv=>HfM.out b hb (HC1.out.ma k b hkn hv)) (by have:=Hll.out;omega) ?_;intro v9 w9 hA9 hO9 hb9;obtain ⟨a9,n9,c9,rfl⟩:∃ a n c,v9 = Value.slice a n c:=(let ⟨a,c,hh⟩:=hA9.form;⟨a,_,c,hh⟩);obtain ⟨⟨y9,z9⟩,x9⟩:=HCO.out _ _ (by with_reducible repeat (first | exact Only.refl _ _ | refine Only.drew ?_ | refine Only.alloc ?_ _)) hO9)
    | fail)
   all_goals go_wp2_with fail
   all_goals go_meet
   all_goals exact A1.of HC1.out HK1.out hkn (by with_reducible repeat (first | exact Only.refl _ _ | refine Only.drew ?_ | refine Only.alloc ?_ _)) hO9 hA9 (fun b hb=>by
    rw [List.flatten_append] at hb
    rcases List.mem_append.1 hb with hb | hb
    ·exact .inl (hfsF b hb)
    ·exact .inr (by simpa using hb)) (fun b hb=>⟨HfM.out b hb,Rp.lt Hp.out b hb⟩) hb9 Hr.out
  case rest=>
   obtain ⟨a9,c9,M1,F1,hC2,hMv⟩:=hcut
   obtain ⟨W2,hnew⟩:∃ W,W = wc:=⟨_,rfl⟩
   subst hnew
   clear cg ct cgk cgd cga cgb cgdg cgag cgbg hgo
   obtain ⟨s1,s2,s3⟩:=PM.Zjw HC1.out.shape hkn HI.out Hm.out
   have hl1:PM.lv (G.set k (PM.lv G k ++ [p])) k = PM.lv G k ++ [p]:=by rw [PM.lv_set (by rw [HC1.out.shape.lg];exact hkn),if_pos rfl]
   have hll1:∀ j,k + 1<=j->PM.lv (G.set k (PM.lv G k ++ [p])) j = PM.lv G j:=fun j hj=>by rw [PM.lv_set (by rw [HC1.out.shape.lg];exact hkn),if_neg (by omega)]
   have hgk:upd gv k (.slice a9 ((PM.lv G k).length + 1) c9) k = .slice a9 (PM.lv (G.set k (PM.lv G k ++ [p])) k).length c9:=by rw [Zcx,hl1];simp
   obtain ⟨G1,hG1⟩:∃ X,X = G.set k (PM.lv G k ++ [p]):=⟨_,rfl⟩
   obtain ⟨gv1,hgv1⟩:∃ X,X = upd gv k (.slice a9 ((PM.lv G k).length + 1) c9):=⟨_,rfl⟩
   rw [<- hgv1] at hgk hC2 hMv
   rw [<- hG1] at hC2 s1 s2 s3 hl1 hll1 hgk
   have HG1:=zH hG1
   clear hG1 hgv1
   have HS1:=zH s1
   have HS2:=zH s2
   have HS3:=zH s3
   have Hl1:=zH hl1
   have Hll1:=zH hll1
   have HMv:=zH hMv
   have hMb:=hC2.lM
   have HMb:=zH hMb
   have HC2:=zH hC2
   have hpM1:∀ b∈fp,b ∉ M1:=fun b hb hm=>by
    rcases hMv.m b hm with h | h
    ·exact HfM.out b hb h
    ·have:=Rp.lt Hp.out b hb;omega
   have hp2:=Rp.only Hp.out hMv.only HfM.out
   have HpM1:=zH hpM1
   have Hp2:=zH hp2
   clear s1 s2 s3 hl1 hll1 hMv hgk hMb hpM1 hp2 hC2 hfsF HA
   go_wp2
   go_loopw [8,9] (fun o i wr=>∃ (j:Nat) (fs:List (List Nat)),j<=n/\i = .int .i64 j/\Acc W2.heap.size 27 wr o (knTo j T k) fs/\(∀ b∈fs.flatten,b∈F1)/\Only [] W2 wr)
    (fun _ i _=>n - (intOf i).toNat)
   case atStart=>exact ⟨0,[],Nat.zero_le _,rfl,by simpa [knTo,orbTo,PM.pts] using Acc.made W2 W2.heap.size _ rfl (Nat.le_refl _),by simp,zO.alloc _⟩
   case round=>
    obtain ⟨W3,hnew⟩:∃ W,W = wr:=⟨_,rfl⟩
    subst hnew
    obtain ⟨j,fs,hj,rfl,hA,hF,hK⟩:=hrel
    have hsz:=hK.size
    have hC3:=HC2.out.keep hK
    have cn3:=hC3.cn
    have ct3:=hC3.ct
    rw [hoT] at ct3
    have cr3:=hC3.row k hkn
    have HK:=zH hK
    have HF:=zH hF
    by_cases hlt:j < n
    ·have hjl:=Zoz j T k
     have hlj:(knTo j T k).length + 1<=1073741824:=by omega
     have hjn:(j:Int) < (n:Int):=by omega
     have hsu:=Zsb j T k
     have Hsu:=zH hsu
     clear hsu hF
     by_cases ht:PM.tr T k (j:Int) = []
     ·have c4:=hC3.at_nil hkn (y:=(j:Int)) (by omega) (by omega) ht
      simp only [Int.toNat_natCast] at c4
      have Ht:=zH ht
      clear ht hC3 hK
      go_wp2
      go_roundw
      case rel=>exact ⟨j + 1,fs,by omega,by go_num,by rw [Hsu.out,if_pos Ht.out];exact hA,HF.out,HK.out⟩
      case measure=>simp [intOf];omega
     ·obtain ⟨b,off,cap,f4,c4,R4,hf4⟩:=hC3.at_some hkn (y:=(j:Int)) (by omega) (by omega) ht
      simp only [Int.toNat_natCast] at c4
      have htn:=HS1.out.wf.pn k _ hkn ht
      have htl:0 < (PM.tr T k (j:Int)).length:=List.length_pos_iff.2 ht
      have htb:(PM.tr T k (j:Int)).length<=20:=by have:=htn.1;omega
      have hap:∀ x∈f4,∀ o:Value,(∀ g,o.ownBlock = some g->W2.heap.size<=g/\g < W3.heap.size)->o.ownBlock ≠ some x:=fun x hx o ho he=>by
       have:=(ho x he).1
       have:=HC2.out.lF x (hf4 x hx)
       omega
      have Hap:=zH hap
      have HR4:=zH R4
      have Hf4:=zH hf4
      have Ht:=zH ht
      have HA3:=zH hA
      clear ht hC3 hK hap R4 hf4 htn
      go_wp2_with (first
       | (at_builtin;go_loud (refine Zqy rfl _ _ 24 rfl W2.heap.size 27 i1 _ 24 Tryz.underlying24 hi hz0 hz1 hz2 rfl (by decide) (by decide) W3 _ (knTo j T k) fs rfl HA3.out (zO.alloc _) hsz _ 1 [.slice (some ⟨b,off,none⟩) (PM.tr T k (j:Int)).length cap] (PM.tr T k (j:Int)) f4 rfl (lit_src _ [.slice (some ⟨b,off,none⟩) (PM.tr T k (j:Int)).length cap] _ rfl) (by intro u hu;simp at hu;subst hu;rfl) (zK HR4.out (zO.alloc _)) (fun x hx=>Hap.out x hx _ HA3.out.ownlt) hlj ?_;intro v4 w4 hA4 hO4 hK4 _))
       | fail)
      go_roundw
      case rel=>exact ⟨j + 1,fs ++ [f4],by omega,by go_num,by rw [Hsu.out,if_neg Ht.out];exact hA4,fun x hx=>by
       rw [List.flatten_append] at hx
       rcases List.mem_append.1 hx with hx | hx
       ·exact HF.out x hx
       ·exact Hf4.out x (by simpa using hx),hK4 _ (HK.out.alloc _) (Nat.le_refl _)⟩
      case measure=>simp [intOf];omega
    ·have hjn:n = j:=by omega
     subst hjn
     have R8:=hA.rd (by decide)
     have hnm:=hA.notin HMb.out HC2.out.mf HF.out
     obtain ⟨a8,c8,ob8,fps8,hv8,hfp8,S8⟩:=R8.open_
     subst hv8
     have hob:∀ b∈ob8,b ∉ M1:=fun b hb=>hnm b (by rw [hfp8];exact List.mem_append_left _ hb)
     have hfb:∀ b∈fps8.flatten,b ∉ M1:=fun b hb=>hnm b (by rw [hfp8];exact List.mem_append_right _ hb)
     have hnf:=S8.nf
     have hkl:=Zoz n T k
     have Hob:=zH hob
     have Hfb:=zH hfb
     have HS8:=zH S8
     have Hnf:=zH hnf
     have hlg:=Hl1.out
     have hpg:p∈PM.lv G1 k:=by rw [hlg];simp
     have hlg2:(PM.lv G1 k).length<=401:=by rw [hlg,List.length_append];have:=Hll.out;simp;omega
     have Hpg:=zH hpg
     have Hlg2:=zH hlg2
     have HC5:=zH (HC2.out.keep HK.out)
     have hPs:∀ y,PM.tr T k y ≠ []->PM.comp (PM.tr T k y) p∈(knTo n T k).map (fun x=>PM.comp x p):=fun y hy=>by
      refine List.mem_map.2 ⟨PM.tr T k y,?_,rfl⟩
      exact List.mem_map.2 ⟨y,mem_orb.2 ⟨PM.row_rng hkn HS1.out hy,hy⟩,rfl⟩
     have HPs:=zH hPs
     clear R8 hnm hfp8 hob hfb hnf S8 hA hF hC3 ct3 cr3 hK hpg hlg2 hPs hlg
     go_wp2
     clear cn3
     go_loopw [10] (fun i wr=>∃ m:Nat,m<=(knTo n T k).length/\i = .int .i64 m/\PLp 27 B L gv1 n k G1 T M1 F1 W3 ((knTo n T k).map (fun x=>PM.comp x p)) m wr)
      (fun i _=>(knTo n T k).length - (intOf i).toNat)
     case atStart=>exact ⟨0,Nat.zero_le _,rfl,PLp.start HC5.out HS1.out HS2.out (PM.Ln.ext (HLn.out.mono (Nat.le_succ k)) (G':=G1) Hll1.out (PM.Ext.refl T)) _⟩
     case round=>
      obtain ⟨W4,hnew⟩:∃ W,W = wr:=⟨_,rfl⟩
      subst hnew
      obtain ⟨m,hm,rfl,hPL⟩:=hrel
      have HPL:=zH hPL
      obtain ⟨gv3,G3,T3,M3,F3,hC3,hP3,hL3,hM3⟩:=hPL
      by_cases hlt:m < (knTo n T k).length
      ·obtain ⟨b8,o8,u8',ha8,hob8,hc8,hr8⟩:=HS8.out.atRow m hlt
       subst ha8
       have hc4:=hM3.only.cell (p:=⟨b8,o8 + m,none⟩) (Hob.out b8 (by rw [hob8];simp)) hc8
       have hr4:=Rp.only hr8 hM3.only (fun b hb=>Hfb.out b (Zeb (by rw [Hnf.out];exact hlt) hb))
       obtain ⟨y0,hy0,hy1,hyt,hye⟩:=knTo_at hlt
       rw [hye] at hr4
       obtain ⟨q1,q2,q3,-⟩:=PM.row_mul hkn HS1.out hyt Hpg.out
       have hgrp:PM.Grp n (PM.lv G3 k) (PM.comp (PM.tr T k y0) p):=by rw [hP3.lvk];exact q3
       have hty:=HS1.out.wf.pn k y0 hkn hyt
       have hp4:=Rp.only (Rp.only Hp2.out HK.out (by simp)) hM3.only HpM1.out
       have hl3:(PM.lv G3 k).length<=401:=by rw [hP3.lvk];exact Hlg2.out
       have hB4:B<=W4.heap.size:=Nat.le_trans (hC3.ge _ hC3.mg) (Nat.le_of_lt (hC3.lM _ hC3.mg))
       have hcm:n - PM.cntR n T3 k < n + 1:=by omega
       have Hr4:=zH hr4
       have Hq1:=zH q1
       have Hq2:=zH q2
       have Hgrp:=zH hgrp
       have Hty:=zH hty
       have Hp4:=zH hp4
       have Hl3:=zH hl3
       have Hye:=zH hye
       have HC3:=zH hC3
       have HP3:=zH hP3
       have HL3:=zH hL3
       have HM3:=zH hM3
       clear hc8 hr8 hr4 hyt hye q1 q2 q3 hgrp hty hp4 hl3 hC3 hP3 hL3 hM3 hob8
       go_wp2_with (first
        | (go_at_call 79;(with_reducible refine (Zbg n _ _ _ _ _ _ _ (zK Hr4.out zA) (zK Hp4.out zA) Hty.out Hm.out.pn (by omega)).mono ?_);rintro en w5 ⟨v5,f5,rfl,r5,F5,t5⟩)
        | (go_at_call 232;(with_reducible refine (Zkq B L hoG hoT n k hkn HG.out (n + 1) gv3 G3 T3 M3 F3 _ (HC3.out.keep zA) HP3.out.base HP3.out.cpl HL3.out hcm Hl3.out _ _ _ Hq1.out Hq2.out Hgrp.out r5 (Zdf HC3.out.lM (Only.size (fp:=[]) zA) F5) (Nat.le_trans hB4 (Only.size (fp:=[]) zA))).mono ?_);rintro en w6 ⟨rfl,ha6⟩)
        | fail)
       go_roundw
       case rel=>exact ⟨m + 1,by omega,by go_num,PLp.step hkn HC3.out HP3.out HM3.out (by rw [List.length_map];exact hlt) (w3:=w5) zA (fun b hb=>Nat.le_trans (Only.size (fp:=[]) zA) (F5.ge b hb)) (by rw [List.getElem_map,Hye.out];exact ha6)⟩
       case measure=>simp [intOf];omega
      ·clear hC3 hP3 hL3 hM3
       go_wp2
       first | go_end0 | refine bodyPost_ret (results_none rfl _ _ _) rfl ?_
       exact ⟨rfl,PLp.fin (j:=m) hkn HC.out HI.out Hm.out HLn.out He.out (HMv.out.keep HK.out Hr.out) HPs.out (by rw [List.length_map];omega) (by rw [<- HG1.out];exact HPL.out)⟩
set_option maxHeartbeats 1000000 in
theorem Zop (a:Option Addr) (cap:Nat) (l:List (List Int)) (ob:List Nat) (fps:List (List Nat)) (w:World) (h:SeqA w a cap l ob fps) (hl:l.length<=2097152) (hl2:∀ x∈l,x.length<=2097152) :
  Calls Tryz.prog 104 #[.slice a l.length cap] w fun e w'=>∃ v fs,e = .returned v/\Acc w.heap.size 27 w' v l fs/\Fresh w.heap.size w' fs.flatten/\Only [] w w':=by
 obtain ⟨i0,hi,hz0,hz1,hz2⟩:=info_parts Tryz.info22
 have hb:=h.bound
 go_enter Tryz.func104,Tryz.ntmps104
 go_wp2
 go_loopw [3,4] (fun o i wr=>∃ (j:Nat) (fs:List (List Nat)),j<=l.length/\i = .int .i64 j/\Acc w.heap.size 27 wr o (l.take j) fs/\Fresh w.heap.size wr fs.flatten/\Only [] w wr)
  (fun _ i _=>l.length - (intOf i).toNat)
 case atStart=>exact ⟨0,[],Nat.zero_le _,rfl,Acc.made w w.heap.size _ rfl (Nat.le_refl _),Fresh.nil _ _,zO.alloc _⟩
 case round=>
  obtain ⟨j,fs,hj,rfl,hA,hF,hK⟩:=hrel
  by_cases hlt:j < l.length
  ·obtain ⟨b,off,v,rfl,-,hc0,hv0⟩:=h.atRow j hlt
   have hc:=hK.cell (by simp) hc0
   have hv:=zK hv0 hK
   have hlen:=hl2 l[j] (List.getElem_mem _)
   have hsz:=hK.size
   have hlj:(l.take j).length + 1<=1073741824:=by simp;omega
   go_wp2_with (first
    | (go_at_call 100;refine (Zbc v l[j] _ _ hv (by omega)).mono ?_;rintro e w2 ⟨v2,fp2,rfl,hv2,hF2,hK2⟩;have hq:=hv2.open_;obtain ⟨a2,c2,_,_,rfl,-⟩:=hq)
    | (at_builtin;refine Zah rfl _ _ 24 rfl w.heap.size 27 i0 _ 24 Tryz.underlying24 hi hz0 hz1 hz2 rfl (by decide) (by decide) wr _ (l.take j) fs rfl hA hF (hK2.alloc _) hsz w2.heap.size 1 [.slice a2 l[j].length c2] l[j] fp2 rfl (lit_src w2 [.slice a2 l[j].length c2] _ rfl) (by intro u hu;simp at hu;subst hu;rfl) (zK hv2 (zO.alloc _)) (hF2.keep (zO.alloc _)) hlj w ((hK.trans hK2).alloc _) (Nat.le_refl _) ?_;intro v3 w3 hA3 hF3 hK3 _))
   go_roundw
   case rel=>exact ⟨j + 1,_,by omega,by go_num,by rw [Zab l j hlt];exact hA3,hF3,hK3⟩
   case measure=>simp [intOf];omega
  ·have hjl:j = l.length:=by omega
   rw [hjl,List.take_length] at hA
   have HA:=zH hA
   clear hjl hA
   go_wp2
   go_ret
   exact ⟨_,_,rfl,HA.out,hF,hK⟩
theorem Zoq (a:Option Addr) (cap:Nat) (l:List (List Int)) (ob:List Nat) (fps:List (List Nat)) (w:World) (h:SeqA w a cap l ob fps) (hl:l.length<=2097152) (hl2:∀ x∈l,x.length<=2097152) :
  Calls Tryz.prog 104 #[.slice a l.length cap] w fun e w'=>∃ v fp',e = .returned v/\Rd w' v l fp'/\Fresh w.heap.size w' fp'/\Only [] w w':=
 (Zop a cap l ob fps w h hl hl2).mono fun _ _ ⟨v,_,he,hA,hF,hK⟩=>⟨v,_,he,hA.rd (by decide),hA.fresh hF,hK⟩
theorem Zic (v:Value) (l:List (List Int)) (fp:List Nat) (w:World) (h:Rd w v l fp) (hl:l.length<=2097152) (hl2:∀ x∈l,x.length<=2097152) :
  Calls Tryz.prog 104 #[v] w fun e w'=>∃ v fp',e = .returned v/\Rd w' v l fp'/\Fresh w.heap.size w' fp'/\Only [] w w':=by
 obtain ⟨a,cap,ob,fps,rfl,-,hs⟩:=h.open_
 exact Zoq a cap l ob fps w hs hl hl2
set_option maxHeartbeats 1000000 in
theorem Zlx (a:Option Addr) (cap:Nat) (l:List (List Int)) (ob:List Nat) (fps:List (List Nat)) (w:World) (h:SeqA w a cap l ob fps) (hl:l.length<=2097152) (hl2:∀ x∈l,x.length<=2097152) :
  Calls Tryz.prog 155 #[.slice a l.length cap] w fun e w'=>∃ v fs,e = .returned v/\Acc w.heap.size 27 w' v l fs/\Fresh w.heap.size w' fs.flatten/\Only [] w w':=by
 obtain ⟨i0,hi,hz0,hz1,hz2⟩:=info_parts Tryz.info22
 have hb:=h.bound
 go_enter Tryz.func155,Tryz.ntmps155
 go_wp2
 go_loopw [3,8] (fun o i wr=>∃ (j:Nat) (fs:List (List Nat)),j<=l.length/\i = .int .i64 j/\Acc w.heap.size 27 wr o (l.take j) fs/\Fresh w.heap.size wr fs.flatten/\Only [] w wr)
  (fun _ i _=>l.length - (intOf i).toNat)
 case atStart=>exact ⟨0,[],Nat.zero_le _,rfl,Acc.nil w _ _,Fresh.nil _ _,Only.refl _ _⟩
 case round=>
  obtain ⟨j,fs,hj,rfl,hA,hF,hK⟩:=hrel
  by_cases hlt:j < l.length
  ·obtain ⟨b,off,v,rfl,-,hc0,hv0⟩:=h.atRow j hlt
   have hc:=hK.cell (by simp) hc0
   have hv:=zK hv0 hK
   have hlen:=hl2 l[j] (List.getElem_mem _)
   have hsz:=hK.size
   have hlj:(l.take j).length + 1<=1073741824:=by simp;omega
   go_wp2_with (first
    | (go_at_call 92;refine (Zdm v l[j] _ _ hv (by omega)).mono ?_;rintro e w2 ⟨v2,fp2,rfl,hv2,hF2,hK2⟩;have hq:=hv2.open_;obtain ⟨a2,c2,_,_,rfl,-⟩:=hq)
    | (at_builtin;refine Zah rfl _ _ 24 rfl w.heap.size 27 i0 _ 24 Tryz.underlying24 hi hz0 hz1 hz2 rfl (by decide) (by decide) wr _ (l.take j) fs rfl hA hF (hK2.alloc _) hsz w2.heap.size 1 [.slice a2 l[j].length c2] l[j] fp2 rfl (lit_src w2 [.slice a2 l[j].length c2] _ rfl) (by intro u hu;simp at hu;subst hu;rfl) (zK hv2 (zO.alloc _)) (hF2.keep (zO.alloc _)) hlj w ((hK.trans hK2).alloc _) (Nat.le_refl _) ?_;intro v3 w3 hA3 hF3 hK3 _))
   go_roundw
   case rel=>exact ⟨j + 1,_,by omega,by go_num,by rw [Zab l j hlt];exact hA3,hF3,hK3⟩
   case measure=>simp [intOf];omega
  ·have hjl:j = l.length:=by omega
   rw [hjl,List.take_length] at hA
   have HA:=zH hA
   clear hjl hA
   go_wp2
   go_ret
   exact ⟨_,_,rfl,HA.out,hF,hK⟩
theorem Zme (a:Option Addr) (cap:Nat) (l:List (List Int)) (ob:List Nat) (fps:List (List Nat)) (w:World) (h:SeqA w a cap l ob fps) (hl:l.length<=2097152) (hl2:∀ x∈l,x.length<=2097152) :
  Calls Tryz.prog 155 #[.slice a l.length cap] w fun e w'=>∃ v fp',e = .returned v/\Rd w' v l fp'/\Fresh w.heap.size w' fp'/\Only [] w w':=
 (Zlx a cap l ob fps w h hl hl2).mono fun _ _ ⟨v,_,he,hA,hF,hK⟩=>⟨v,_,he,hA.rd (by decide),hA.fresh hF,hK⟩
theorem Zor (v:Value) (l:List (List Int)) (fp:List Nat) (w:World) (h:Rd w v l fp) (hl:l.length<=2097152) (hl2:∀ x∈l,x.length<=2097152) :
  Calls Tryz.prog 155 #[v] w fun e w'=>∃ v fp',e = .returned v/\Rd w' v l fp'/\Fresh w.heap.size w' fp'/\Only [] w w':=by
 obtain ⟨a,cap,ob,fps,rfl,-,hs⟩:=h.open_
 exact Zme a cap l ob fps w hs hl hl2
set_option maxHeartbeats 1000000 in
theorem Zmh (a:Option Addr) (cap:Nat) (l:List Table) (ob:List Nat) (fps:List (List Nat)) (w:World) (h:SeqA w a cap l ob fps) (hsm:Sm.sm l) :
  Calls Tryz.prog 101 #[.slice a l.length cap] w fun e w'=>∃ v fp',e = .returned v/\Rd w' v l fp'/\Fresh w.heap.size w' fp'/\Only [] w w':=by
 obtain ⟨hl,hl2⟩:=hsm
 obtain ⟨i0,hi,hz0,hz1,hz2⟩:=info_parts Tryz.infoTable
 have hb:=h.bound
 go_enter Tryz.func101,Tryz.ntmps101
 go_wp2
 go_loopw [3,4] (fun o i wr=>∃ (j:Nat) (fs:List (List Nat)),j<=l.length/\i = .int .i64 j/\Acc w.heap.size 41 wr o (l.take j) fs/\Fresh w.heap.size wr fs.flatten/\Only [] w wr)
  (fun _ i _=>l.length - (intOf i).toNat)
 case atStart=>exact ⟨0,[],Nat.zero_le _,rfl,Acc.made w w.heap.size _ rfl (Nat.le_refl _),Fresh.nil _ _,zO.alloc _⟩
 case round=>
  obtain ⟨j,fs,hj,rfl,hA,hF,hK⟩:=hrel
  by_cases hlt:j < l.length
  ·obtain ⟨b,off,v1,v2,v3,rfl,-,c1,c2,c3,hv0⟩:=h.at3 j hlt
   have q:=hv0
   obtain ⟨_,_,_,g1,g2,g3,hq,-,s1,s2,s3⟩:=q
   injection hq with e1 hq;injection hq with e2 hq;injection hq with e3 hq;subst e1;subst e2;subst e3
   clear hq
   obtain ⟨m1,m2,m3⟩:=hl2 l[j] (List.getElem_mem _)
   have hsz:=hK.size
   have hlj:(l.take j).length + 1<=1073741824:=by simp;omega
   have ml1:=m1.1
   have ml2:l[j].patterns.length<=2097152:=m2.1
   have mr2:∀ x∈l[j].patterns,x.length<=2097152:=fun x hx=>(m2.2 x hx).1
   have ml3:=m3.1
   obtain ⟨A1,C1,_,_,rfl,-⟩:=s1.open_
   obtain ⟨A2,C2,_,_,rfl,-⟩:=s2.open_
   obtain ⟨A3,C3,_,_,rfl,-⟩:=s3.open_
   have hi1:(0:Int)<=(j:Int):=by omega
   have hi2:(j:Int) < (l.length:Int):=by omega
   have d1:=hK.cell (by simp) c1
   have d2:=hK.cell (by simp) c2
   have d3:=hK.cell (by simp) c3
   skip
   go_upto_region 5 with fail
   go_region_held3 (fun w'=>Only [] w w'/\w'.cell? ⟨b,off + j * 3,none⟩ = some (.slice A1 l[j].tracked.length C1)/\w'.cell? ⟨b,off + j * 3 + 1,none⟩ = some (.slice A2 l[j].patterns.length C2)/\w'.cell? ⟨b,off + j * 3 + 2,none⟩ = some (.slice A3 l[j].distances.length C3)) ((refine and_of ?_ (fun q_=>⟨q_.ce c1,q_.ce c2,q_.ce c3⟩);first | assumption | exact hK.drew | exact Only.trans (And.left (by assumption)) (by assumption) | exact Only.alloc (And.left (by assumption)) _)) (first
    | (go_at_call 100;(with_reducible refine (Zbc (.slice A1 l[j].tracked.length C1) l[j].tracked _ _ (zK s1 (And.left (by assumption))) (by omega)).mono ?_);rintro e x1 ⟨p1,q1,rfl,r1,F1,y1⟩;have hq:=r1.open_;obtain ⟨a1,k1,_,_,rfl,-⟩:=hq)
    | (go_at_call 104;(with_reducible refine (Zic (.slice A2 l[j].patterns.length C2) l[j].patterns _ _ (zK s2 (And.left (by assumption))) ml2 mr2).mono ?_);rintro e x2 ⟨p2,q2,rfl,r2,F2,y2⟩;have hq:=r2.open_;obtain ⟨a2,k2,_,_,rfl,-⟩:=hq)
    | (go_at_call 100;(with_reducible refine (Zbc (.slice A3 l[j].distances.length C3) l[j].distances _ _ (zK s3 (And.left (by assumption))) (by omega)).mono ?_);rintro e x3 ⟨p3,q3,rfl,r3,F3,y3⟩;have hq:=r3.open_;obtain ⟨a3,k3,_,_,rfl,-⟩:=hq;have F23:=(F2.keep y3).append F3 y2.size (fun b hb=>F2.lt b hb);have F:=(F1.keep (y2.trans y3)).append F23 y1.size (fun b hb=>F1.lt b hb))
    | (refine Zew rfl _ _ 30 rfl w.heap.size 41 i0 _ 72 Tryz.underlying30 hi hz0 hz1 hz2 rfl (by decide) (by decide) wr _ (l.take j) fs rfl hA hF ((((((Only.refl [] wr).drew).trans y1).trans y2).trans y3).alloc _) hsz x3.heap.size 1 [.slice a1 l[j].tracked.length k1,.slice a2 l[j].patterns.length k2,.slice a3 l[j].distances.length k3] l[j] (q1 ++ (q2 ++ q3)) rfl (lit_src x3 [.slice a1 l[j].tracked.length k1,.slice a2 l[j].patterns.length k2,.slice a3 l[j].distances.length k3] _ rfl) (by intro u hu;simp at hu;rcases hu with rfl | rfl | rfl <;> rfl) ⟨_,_,_,q1,q2,q3,rfl,rfl,zK r1 ((y2.trans y3).alloc _),zK r2 (y3.alloc _),zK r3 (zO.alloc _)⟩ (F.keep (zO.alloc _)) hlj w (And.left (by assumption)) (Nat.le_refl _) ?_;intro v3 w3 hA3 hF3 hK3 hW3)
    | fail)
   go_wp2
   go_roundw
   case rel=>exact ⟨j + 1,_,by omega,by go_num,by rw [Zab l j hlt];exact hA3,hF3,hK3⟩
   case measure=>simp [intOf];omega
  ·have hjl:j = l.length:=by omega
   rw [hjl,List.take_length] at hA
   have HA:=zH hA
   clear hjl hA
   go_wp2
   go_ret
   exact ⟨_,_,rfl,HA.out.rd (by decide),HA.out.fresh hF,hK⟩
theorem Zht (v:Value) (l:List Table) (fp:List Nat) (w:World) (h:Rd w v l fp) (hsm:Sm.sm l) :
  Calls Tryz.prog 101 #[v] w fun e w'=>∃ v fp',e = .returned v/\Rd w' v l fp'/\Fresh w.heap.size w' fp'/\Only [] w w':=by
 obtain ⟨a,cap,ob,fps,rfl,-,hs⟩:=h.open_
 exact Zmh a cap l ob fps w hs hsm
set_option maxHeartbeats 1000000 in
theorem Zla (a:Option Addr) (cap:Nat) (l:List Table) (ob:List Nat) (fps:List (List Nat)) (w:World) (h:SeqA w a cap l ob fps) (hsm:Sm.sm l) :
  Calls Tryz.prog 93 #[.slice a l.length cap] w fun e w'=>∃ v fp',e = .returned v/\Rd w' v l fp'/\Fresh w.heap.size w' fp'/\Only [] w w':=by
 obtain ⟨hl,hl2⟩:=hsm
 obtain ⟨i0,hi,hz0,hz1,hz2⟩:=info_parts Tryz.infoTable
 have hb:=h.bound
 go_enter Tryz.func93,Tryz.ntmps93
 go_wp2
 go_loopw [3,8] (fun o i wr=>∃ (j:Nat) (fs:List (List Nat)),j<=l.length/\i = .int .i64 j/\Acc w.heap.size 41 wr o (l.take j) fs/\Fresh w.heap.size wr fs.flatten/\Only [] w wr)
  (fun _ i _=>l.length - (intOf i).toNat)
 case atStart=>exact ⟨0,[],Nat.zero_le _,rfl,Acc.nil w _ _,Fresh.nil _ _,Only.refl _ _⟩
 case round=>
  obtain ⟨j,fs,hj,rfl,hA,hF,hK⟩:=hrel
  by_cases hlt:j < l.length
  ·obtain ⟨b,off,v1,v2,v3,rfl,-,c1,c2,c3,hv0⟩:=h.at3 j hlt
   have q:=hv0
   obtain ⟨_,_,_,g1,g2,g3,hq,-,s1,s2,s3⟩:=q
   injection hq with e1 hq;injection hq with e2 hq;injection hq with e3 hq;subst e1;subst e2;subst e3
   clear hq
   obtain ⟨m1,m2,m3⟩:=hl2 l[j] (List.getElem_mem _)
   have hsz:=hK.size
   have hlj:(l.take j).length + 1<=1073741824:=by simp;omega
   have ml1:=m1.1
   have ml2:l[j].patterns.length<=2097152:=m2.1
   have mr2:∀ x∈l[j].patterns,x.length<=2097152:=fun x hx=>(m2.2 x hx).1
   have ml3:=m3.1
   obtain ⟨A1,C1,_,_,rfl,-⟩:=s1.open_
   obtain ⟨A2,C2,_,_,rfl,-⟩:=s2.open_
   obtain ⟨A3,C3,_,_,rfl,-⟩:=s3.open_
   have hi1:(0:Int)<=(j:Int):=by omega
   have hi2:(j:Int) < (l.length:Int):=by omega
   have d1:=hK.cell (by simp) c1
   have d2:=hK.cell (by simp) c2
   have d3:=hK.cell (by simp) c3
   have HB:=zH (Blk.new_at (w:=wr) (cs:=[.slice A1 l[j].tracked.length C1,.slice A2 l[j].patterns.length C2,.slice A3 l[j].distances.length C3]) (t:=41) rfl);have hne:=zH (hA.own_ne (Nat.le_refl _))
   go_upto_region 5 with fail
   go_region_held3 (fun w'=>Only [] w w'/\Only u3.ownBlock.toList (wr.alloc (.cells #[.slice A1 l[j].tracked.length C1,.slice A2 l[j].patterns.length C2,.slice A3 l[j].distances.length C3] 41)) w'/\w'.cell? ⟨wr.heap.size,0,none⟩ = some (.slice A1 l[j].tracked.length C1)/\w'.cell? ⟨wr.heap.size,1,none⟩ = some (.slice A2 l[j].patterns.length C2)/\w'.cell? ⟨wr.heap.size,2,none⟩ = some (.slice A3 l[j].distances.length C3)) ((refine and_of ?_ (fun q_=>and_of ?_ (fun h2__=>⟨(Blk.only HB.out h2__ hne.out).cell 0 rfl,(Blk.only HB.out h2__ hne.out).cell 1 rfl,(Blk.only HB.out h2__ hne.out).cell 2 rfl⟩));(first | assumption | exact (hK.alloc _).drew | exact Only.trans (And.left (by assumption)) (by assumption) | exact Only.alloc (And.left (by assumption)) _);(first | exact zO.drew | exact Only.keepThen (And.left (And.right (by assumption))) (by assumption) | exact Only.alloc (And.left (And.right (by assumption))) _ | exact Only.trans (And.left (And.right (by assumption))) (by assumption)))) (first
    | (go_at_call 92;(with_reducible refine (Zdm (.slice A1 l[j].tracked.length C1) l[j].tracked _ _ (zK s1 (And.left (by assumption))) (by omega)).mono ?_);rintro e x1 ⟨p1,q1,rfl,r1,F1,y1⟩;have hq:=r1.open_;obtain ⟨a1,k1,_,_,rfl,-⟩:=hq)
    | (go_at_call 155;(with_reducible refine (Zor (.slice A2 l[j].patterns.length C2) l[j].patterns _ _ (zK s2 (And.left (by assumption))) ml2 mr2).mono ?_);rintro e x2 ⟨p2,q2,rfl,r2,F2,y2⟩;have hq:=r2.open_;obtain ⟨a2,k2,_,_,rfl,-⟩:=hq)
    | (go_at_call 92;(with_reducible refine (Zdm (.slice A3 l[j].distances.length C3) l[j].distances _ _ (zK s3 (And.left (by assumption))) (by omega)).mono ?_);rintro e x3 ⟨p3,q3,rfl,r3,F3,y3⟩;have hq:=r3.open_;obtain ⟨a3,k3,_,_,rfl,-⟩:=hq;have F23:=(F2.keep y3).append F3 y2.size (fun b hb=>F2.lt b hb);have F:=(F1.keep (y2.trans y3)).append F23 y1.size (fun b hb=>F1.lt b hb))
    | (refine Zew rfl _ _ 30 rfl w.heap.size 41 i0 _ 72 Tryz.underlying30 hi hz0 hz1 hz2 rfl (by decide) (by decide) wr _ (l.take j) fs rfl hA hF (((((((Only.refl [] wr).alloc _).drew).trans y1).trans y2).trans y3).alloc _) hsz x3.heap.size 1 [.slice a1 l[j].tracked.length k1,.slice a2 l[j].patterns.length k2,.slice a3 l[j].distances.length k3] l[j] (q1 ++ (q2 ++ q3)) rfl (lit_src x3 [.slice a1 l[j].tracked.length k1,.slice a2 l[j].patterns.length k2,.slice a3 l[j].distances.length k3] _ rfl) (by intro u hu;simp at hu;rcases hu with rfl | rfl | rfl <;> rfl) ⟨_,_,_,q1,q2,q3,rfl,rfl,zK r1 ((y2.trans y3).alloc _),zK r2 (y3.alloc _),zK r3 (zO.alloc _)⟩ ((F.mono (by simp)).keep (zO.alloc _)) hlj w (And.left (by assumption)) (Nat.le_refl _) ?_;intro v3 w3 hA3 hF3 hK3 hW3)
    | fail)
   go_wp2
   go_roundw
   case rel=>exact ⟨j + 1,_,by omega,by go_num,by rw [Zab l j hlt];exact hA3,hF3,hK3⟩
   case measure=>simp [intOf];omega
  ·have hjl:j = l.length:=by omega
   rw [hjl,List.take_length] at hA
   have HA:=zH hA
   clear hjl hA
   go_wp2
   go_ret
   exact ⟨_,_,rfl,HA.out.rd (by decide),HA.out.fresh hF,hK⟩
theorem Zgx (v:Value) (l:List Table) (fp:List Nat) (w:World) (h:Rd w v l fp) (hsm:Sm.sm l) :
  Calls Tryz.prog 93 #[v] w fun e w'=>∃ v fp',e = .returned v/\Rd w' v l fp'/\Fresh w.heap.size w' fp'/\Only [] w w':=by
 obtain ⟨a,cap,ob,fps,rfl,-,hs⟩:=h.open_
 exact Zla a cap l ob fps w hs hsm
end Go.Proofs.YthleokaeobdamaaGreat
