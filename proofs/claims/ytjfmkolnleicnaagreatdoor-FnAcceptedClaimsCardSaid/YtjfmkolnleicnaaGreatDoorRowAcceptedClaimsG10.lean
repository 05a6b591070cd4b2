/- The reference's source of choices: newSource, nextByte, below, oneIn, between, extremeInt, numberUpTo (laws 34, 35, ..). What it draws is left open: its bounds are told. -/
import Derived.Test.YtjfmkolnleicnaaGreatDoorRowAcceptedClaimsG9
import Derived.Test.YtjfmkolnleicnaaGreatDoorRowAcceptedClaimsG1
import Derived.Test.YtjfmkolnleicnaaGreatDoorRowAcceptedClaimsG3
import Derived.Test.YtjfmkolnleicnaaGreatDoorRowAcceptedClaimsG5
import Derived.Maps.OwnSet
import Derived.StringKeys
import Derived.Laws.BytesArg
import Derived.Deep.RegionLaw
import Derived.Shelf.SortM.Plain
import Derived.Sort.OwnSortedInts
import Derived.Test.YtjfmkolnleicnaaGreatDoorRowAcceptedClaimsG7
import Derived.Test.YtjfmkolnleicnaaGreatDoorRowAcceptedClaimsG4
namespace Go.Proofs.YtjfmkolnleicnaaGreatDoor
open Go.RowKit
set_option maxRecDepth 10000
theorem and255 (n:Int):bits .and .i64 n 255 = n % 256:=by
 have h127:(BitVec.ofInt 64 255).toNat = 2 ^ 8 - 1:=by decide
 have key:(BitVec.ofInt 64 n &&& BitVec.ofInt 64 255).toNat = (n % ((2 ^ 64:Nat):Int)).toNat % 2 ^ 8:=by
  rw [BitVec.toNat_and,BitVec.toNat_ofInt,h127,Nat.and_two_pow_sub_one_eq_mod]
 show IntKind.i64.wrap ((BitVec.ofInt 64 n &&& BitVec.ofInt 64 255).toNat:Nat) = n % 256
 rw [key,IntKind.wrap_i64]
 omega
theorem and30 (n:Int):bits .and .i64 n 1073741823 = n % 1073741824:=by
 have h127:(BitVec.ofInt 64 1073741823).toNat = 2 ^ 30 - 1:=by decide
 have key:(BitVec.ofInt 64 n &&& BitVec.ofInt 64 1073741823).toNat = (n % ((2 ^ 64:Nat):Int)).toNat % 2 ^ 30:=by
  rw [BitVec.toNat_and,BitVec.toNat_ofInt,h127,Nat.and_two_pow_sub_one_eq_mod]
 show IntKind.i64.wrap ((BitVec.ofInt 64 n &&& BitVec.ofInt 64 1073741823).toNat:Nat) = n % 1073741824
 rw [key,IntKind.wrap_i64]
 omega
def Src (w:World) (g:Nat) (fc:List Nat) (l:List UInt8):Prop:=
 ∃ a c i h,Blk w g [.slice a l.length c,.int .i64 i,.int .i64 h]/\(0<=i/\i<=l.length)/\I64 h/\Rd w (.slice a l.length c) l fc/\g ∉ fc
theorem Src.keep {w w':World} {g:Nat} {fc:List Nat} {l:List UInt8} (h:Src w g fc l) (ho:Only [] w w'):Src w' g fc l:=by
 obtain ⟨a,c,i,x,h1,h2,h3,h4,h5⟩:=h
 exact ⟨a,c,i,x,h1.keep ho,h2,h3,zK h4 ho,h5⟩
theorem Src.only {w w':World} {g:Nat} {fc fp:List Nat} {l:List UInt8} (h:Src w g fc l) (ho:Only fp w w') (hg:g ∉ fp) (hc:∀ b∈fc,b ∉ fp):Src w' g fc l:=by
 obtain ⟨a,c,i,x,h1,h2,h3,h4,h5⟩:=h
 exact ⟨a,c,i,x,h1.only ho hg,h2,h3,Rp.only h4 ho hc,h5⟩
theorem Src.lt {w:World} {g:Nat} {fc:List Nat} {l:List UInt8} (h:Src w g fc l):g < w.heap.size:=by
 obtain ⟨a,c,i,x,h1,-⟩:=h;exact h1.lt
set_option maxHeartbeats 4000000 in
theorem Zol (v:Value) (l:List UInt8) (fc:List Nat) (w:World) (h:Rd w v l fc) (hl:l.length<=4096) :
  Calls Tryz.prog 14 #[v] w fun e w'=>∃ g,e = .returned (.pointer (some ⟨g,0,none⟩))/\Src w' g fc l/\w.heap.size<=g/\Only [] w w':=by
 obtain ⟨a,c,ob,fps,rfl,hfc,hS⟩:=h.open_
 have hlt:=Rp.lt h
 go_enter Tryz.func14,Tryz.ntmps14
 go_wp2
 go_loopw [3,4] (fun hv i wr=>∃ (j:Nat) (x:Int),j<=l.length/\i = .int .i64 j/\hv = .int .i64 x/\(0<=x/\x<=1073741823)/\Only [] w wr)
  (fun _ i _=>l.length - (intOf i).toNat)
 case atStart=>exact ⟨0,590033 + l.length,Nat.zero_le _,rfl,by first | rfl | (congr 1;rw [IntKind.wrap_i64];omega),by omega,Only.refl _ _⟩
 case round=>
  obtain ⟨W2,hnew⟩:∃ W,W = wr:=⟨_,rfl⟩
  subst hnew
  obtain ⟨j,x,hj,rfl,rfl,hr,hK⟩:=hrel
  by_cases hlt2:j < l.length
  ·obtain ⟨b,off,cs,rfl,-,hc0,hrb⟩:=hS.at_ j hlt2
   obtain ⟨rfl,-⟩:=hrb
   have hcb0:w.cell? ⟨b,off + j,none⟩ = some (.int .u8 (l[j].toNat:Int)):=by simpa [Rp.size] using hc0 0 _ rfl
   have hcb:=hK.cell (by simp) hcb0
   clear hc0 hcb0
   have hi0:(0:Int)<=(j:Int):=by omega
   have hi1:(j:Int) < (l.length:Int):=by omega
   go_wp2
   exact ⟨⟨j + 1,_,by omega,by go_num,rfl,by rw [and30];omega,hK⟩,by simp [intOf];omega⟩
  ·obtain rfl:j = l.length:=by omega
   have hW:=zK h hK
   have X0:=Blk.new W2 [.slice a l.length c,.int .i64 0,.int .i64 x] 56
   go_wp2
   go_ret
   exact ⟨W2.heap.size,rfl,⟨a,c,0,x,X0,⟨by omega,by omega⟩,by unfold I64;omega,zK hW (zO.alloc _),fun hm=>by have:=hlt _ hm;have:=hK.size;omega⟩,hK.size,hK.alloc _⟩
set_option maxHeartbeats 4000000 in
theorem Zda (g:Nat) (fc:List Nat) (l:List UInt8) (w:World) (h:Src w g fc l) (hl:l.length<=4096) :
  Calls Tryz.prog 71 #[.pointer (some ⟨g,0,none⟩)] w fun e w'=>∃ r:Int,e = .returned (.int .i64 r)/\0<=r/\r<=255/\Src w' g fc l/\Only [g] w w':=by
 obtain ⟨a,c,i,x,h1,h2,h3,h4,h5⟩:=h
 obtain ⟨y0,y1,y2⟩:=h1.c3
 have p1:=h1.frozen 1
 have p2:=h1.frozen 2
 go_enter Tryz.func71,Tryz.ntmps71
 go_upto_region 2 with fail
 obtain ⟨x2,hx2⟩:∃ x2,x2 = wrap64 (wrap64 (x * 6364136223846793005) + 1442695040888963407):=⟨_,rfl⟩
 have hr2:I64 x2:=by rw [hx2];unfold wrap64 I64;omega
 rw [<- hx2]
 clear hx2
 have B1:=h1.set 2 (.int .i64 x2)
 simp only [List.set] at B1
 have k1:Only [g] w (w.setCell ⟨g,2,none⟩ (.int .i64 x2)):=zO.setCell (by simp) _
 have r1:Rd (w.setCell ⟨g,2,none⟩ (.int .i64 x2)) (.slice a l.length c) l fc:=Rp.only h4 k1 (fun b hb hm=>h5 (by simp at hm;rwa [<- hm]))
 obtain ⟨w1,hw1⟩:∃ w1,w1 = w.setCell ⟨g,2,none⟩ (.int .i64 x2):=⟨_,rfl⟩
 rw [<- hw1] at B1 k1 r1 ⊢
 clear hw1 y0 y1 y2 p1 p2 h1 h4 h3
 obtain ⟨y0,y1,y2⟩:=B1.c3
 go_quiet (fail)
 go_wp2
 obtain ⟨v3,hv3⟩:∃ v3,v3 = bits BinOp.and IntKind.i64 (bits BinOp.xor IntKind.i64 (x2 / 8589934592) (x2 / 35184372088832)) 255:=⟨_,rfl⟩
 have hr3:0<=v3/\v3<=255:=by rw [hv3,and255];omega
 rw [<- hv3]
 clear hv3
 obtain ⟨ob,fps,hfc,hS⟩:∃ ob fps,fc = ob ++ fps.flatten/\SeqA w1 a c l ob fps:=by obtain ⟨a',c',ob,fps,hv,hf,hs⟩:=r1.open_;injection hv with e1 _ e2;subst e1;subst e2;exact ⟨ob,fps,hf,hs⟩
 obtain ⟨k,rfl⟩:=Int.eq_ofNat_of_zero_le h2.1
 have hwk:IntKind.i64.wrap ((k:Int) + 1) = (k:Int) + 1:=by rw [IntKind.wrap_i64];omega
 by_cases hil:k < l.length
 ·have hilb:decide ((k:Int) < (l.length:Int)) = true:=decide_eq_true (by omega)
  obtain ⟨b,off,cs,rfl,-,hc0,hrb⟩:=hS.at_ k hil
  obtain ⟨rfl,-⟩:=hrb
  have hcb:w1.cell? ⟨b,off + k,none⟩ = some (.int .u8 (l[k].toNat:Int)):=by simpa [Rp.size] using hc0 0 _ rfl
  clear hc0
  have hby:l[k].toNat < 256:=UInt8.toNat_lt _
  have hw8:wrap64 (l[k].toNat:Int) = (l[k].toNat:Int):=by unfold wrap64;omega
  have hws:IntKind.i64.wrap (v3 + (l[k].toNat:Int)) = v3 + (l[k].toNat:Int):=by rw [IntKind.wrap_i64];omega
  have hi0:(0:Int)<=(k:Int):=by omega
  have hi1:(k:Int) < (l.length:Int):=by omega
  have p1:=B1.frozen 1
  go_quiet (fail)
  go_wp2
  go_quiet (fail)
  go_wp2
  go_ret
  refine ⟨_,rfl,by rw [and255];omega,by rw [and255];omega,⟨some ⟨b,off,none⟩,c,(k:Int) + 1,x2,?_,⟨by omega,by omega⟩,hr2,?_,h5⟩,(k1.drewN _).setCell (by simp) _⟩
  ·simpa [List.set] using ((B1.keep (Only.ofDrewN w1 _ [])).set 1 (.int .i64 ((k:Int) + 1)))
  ·exact Rp.only r1 (fp':=[g]) ((Only.ofDrewN _ _ _).setCell (by simp) _) (fun b hb hm=>h5 (by simp at hm;rwa [<- hm]))
 ·have hilb:decide ((k:Int) < (l.length:Int)) = false:=decide_eq_false (by omega)
  go_quiet (fail)
  go_wp2
  go_ret
  exact ⟨v3,rfl,hr3.1,hr3.2,⟨a,c,(k:Int),x2,B1.keep zA,h2,hr2,zK r1 zA,h5⟩,k1.trans (by with_reducible repeat (first | exact Only.refl _ _ | assumption | refine Only.drewN ?_ _ | refine Only.drew ?_))⟩
set_option maxHeartbeats 2000000 in
theorem Zaf (g:Nat) (fc:List Nat) (l:List UInt8) (n:Int) (w:World) (h:Src w g fc l) (hl:l.length<=4096) (hn:n<=9223372036854775807) :
  Calls Tryz.prog 34 #[.pointer (some ⟨g,0,none⟩),.int .i64 n] w fun e w'=>∃ r:Int,e = .returned (.int .i64 r)/\0<=r/\(r < n\/r = 0)/\Src w' g fc l/\Only [g] w w':=by
 by_cases h0:n<=0
 ·go_enter Tryz.func34,Tryz.ntmps34
  go_wp2
  go_ret
  exact ⟨0,rfl,by omega,.inr rfl,h,Only.refl _ _⟩
 by_cases h1:n<=256
 ·have hn0:n ≠ 0:=by omega
  go_enter Tryz.func34,Tryz.ntmps34
  go_wp2_with (first
   | (go_at_call 71;(with_reducible refine (Zda g fc l w h hl).mono ?_);rintro e w1 ⟨r,rfl,r0,r1,D1,K1⟩)
   | fail)
  go_ret
  exact ⟨r % n,rfl,Int.emod_nonneg _ hn0,.inl (Int.emod_lt_of_pos _ (by omega)),D1,K1⟩
 ·have hn0:n ≠ 0:=by omega
  go_enter Tryz.func34,Tryz.ntmps34
  go_wp2_with (first
   | (go_at_call 71;(with_reducible refine (Zda g fc l w h hl).mono ?_);rintro e w1 ⟨r,rfl,r0,r1,D1,K1⟩)
   | (go_at_call 71;(with_reducible refine (Zda g fc l w1 D1 hl).mono ?_);rintro e w2 ⟨r2,rfl,r20,r21,D2,K2⟩)
   | (go_at_call 71;(with_reducible refine (Zda g fc l w2 D2 hl).mono ?_);rintro e w3 ⟨r3,rfl,r30,r31,D3,K3⟩)
   | (go_at_call 71;(with_reducible refine (Zda g fc l w3 D3 hl).mono ?_);rintro e w4 ⟨r4,rfl,r40,r41,D4,K4⟩;have q1:IntKind.i64.wrap (r * 16777216) = r * 16777216:=(by rw [IntKind.wrap_i64];omega);have q2:IntKind.i64.wrap (r2 * 65536) = r2 * 65536:=(by rw [IntKind.wrap_i64];omega);have q3:IntKind.i64.wrap (r * 16777216 + r2 * 65536) = r * 16777216 + r2 * 65536:=(by rw [IntKind.wrap_i64];omega);have q4:IntKind.i64.wrap (r3 * 256) = r3 * 256:=(by rw [IntKind.wrap_i64];omega);have q5:IntKind.i64.wrap (r * 16777216 + r2 * 65536 + r3 * 256) = r * 16777216 + r2 * 65536 + r3 * 256:=(by rw [IntKind.wrap_i64];omega);have q6:IntKind.i64.wrap (r * 16777216 + r2 * 65536 + r3 * 256 + r4) = r * 16777216 + r2 * 65536 + r3 * 256 + r4:=(by rw [IntKind.wrap_i64];omega))
   | fail)
  go_ret
  exact ⟨(r * 16777216 + r2 * 65536 + r3 * 256 + r4) % n,rfl,Int.emod_nonneg _ hn0,.inl (Int.emod_lt_of_pos _ (by omega)),D4,((K1.trans K2).trans K3).trans K4⟩
set_option maxHeartbeats 1000000 in
theorem Zbc (g:Nat) (fc:List Nat) (l:List UInt8) (n:Int) (w:World) (h:Src w g fc l) (hl:l.length<=4096) (hn:n<=9223372036854775807) :
  Calls Tryz.prog 40 #[.pointer (some ⟨g,0,none⟩),.int .i64 n] w fun e w'=>∃ r:Bool,e = .returned (.bool r)/\Src w' g fc l/\Only [g] w w':=by
 go_enter Tryz.func40,Tryz.ntmps40
 go_wp2_with (first
  | (go_at_call 34;(with_reducible refine (Zaf g fc l n w h hl hn).mono ?_);rintro e w1 ⟨r,rfl,r0,r1,D1,K1⟩)
  | fail)
 go_ret
 exact ⟨r == 0,rfl,D1,K1⟩
set_option maxHeartbeats 1000000 in
theorem Zgz (g:Nat) (fc:List Nat) (l:List UInt8) (lo hi:Int) (w:World) (h:Src w g fc l) (hl:l.length<=4096) (h1:lo<=hi) (h2:-1000000<=lo) (h3:hi<=1000000) :
  Calls Tryz.prog 42 #[.pointer (some ⟨g,0,none⟩),.int .i64 lo,.int .i64 hi] w fun e w'=>∃ r:Int,e = .returned (.int .i64 r)/\lo<=r/\r<=hi/\Src w' g fc l/\Only [g] w w':=by
 have q1:IntKind.i64.wrap (hi - lo) = hi - lo:=by rw [IntKind.wrap_i64];omega
 have q2:IntKind.i64.wrap (hi - lo + 1) = hi - lo + 1:=by rw [IntKind.wrap_i64];omega
 go_enter Tryz.func42,Tryz.ntmps42
 go_wp2_with (first
  | (go_at_call 34;(with_reducible refine (Zaf g fc l (hi - lo + 1) w h hl (by omega)).mono ?_);rintro e w1 ⟨r,rfl,r0,r1,D1,K1⟩;have q3:IntKind.i64.wrap (lo + r) = lo + r:=(by rw [IntKind.wrap_i64];omega))
  | fail)
 go_ret
 exact ⟨lo + r,rfl,by omega,by omega,D1,K1⟩
def extL:List Int:=[-1,0,1,2147483648,-2147483648,1099511627776,4611686018427387904,-4611686018427387904,9223372036854775807,-9223372036854775808]
theorem Zvg:∀ y∈extL,I64 y:=by intro y hy;simp [extL] at hy;unfold I64;omega
set_option maxHeartbeats 1000000 in
theorem Znh (g:Nat) (fc:List Nat) (l:List UInt8) (w:World) (h:Src w g fc l) (hl:l.length<=4096) :
  Calls Tryz.prog 113 #[.pointer (some ⟨g,0,none⟩)] w fun e w'=>∃ r:Int,e = .returned (.int .i64 r)/\I64 r/\Src w' g fc l/\Only [g] w w':=by
 have hlt:=h.lt
 have hB:=Blk.new w (extL.map (Value.int .i64)) 2
 have ho:Only [] w (w.alloc (.cells (extL.map (Value.int .i64)).toArray 2)):=zO.alloc _
 go_enter Tryz.func113,Tryz.ntmps113
 go_wp2_with (first
  | (go_at_call 34;(with_reducible refine (Zaf g fc l 10 _ (h.keep zA) hl (by omega)).mono ?_);rintro e w1 ⟨r,rfl,r0,r1,D1,K1⟩;obtain ⟨k,rfl⟩:=Int.eq_ofNat_of_zero_le r0;have hk:k < extL.length:=(by show k < 10;omega);have hB1:=hB.only K1 (by simp;omega);have c1:=hB1.cell k (v:=.int .i64 extL[k]) (by simp [hk]);have hk0:(0:Int)<=(k:Int):=(by omega);have hk1:(k:Int) < 10:=(by omega))
  | fail)
 go_ret
 exact ⟨extL[k],rfl,Zvg _ (List.getElem_mem _),D1,(ho.weaken [g]).trans K1⟩
theorem ins_isP {p:List Int} (h:PM.IsP p) {k:Nat} (_:k<=p.length):PM.IsP (p.take k ++ ((p.length:Int) :: p.drop k)):=by
 have hperm:(p.take k ++ ((p.length:Int) :: p.drop k)).Perm ((p.length:Int) :: p):=by
  have:=List.perm_middle (l₁:=p.take k) (l₂:=p.drop k) (a:=(p.length:Int))
  rwa [List.take_append_drop] at this
 have hl:(p.take k ++ ((p.length:Int) :: p.drop k)).length = p.length + 1:=by rw [hperm.length_eq];rfl
 refine ⟨fun x hx=>?_,hperm.nodup_iff.2 (List.nodup_cons.2 ⟨fun hm=>?_,h.2⟩)⟩
 ·rw [hl]
  rcases List.mem_cons.1 (hperm.mem_iff.1 hx) with rfl | hx
  ·omega
  ·have:=h.1 x hx;omega
 ·have:=h.1 _ hm;omega
theorem IntsA.drop {w:World} {b off cap:Nat} {l:List Int} {fp:List Nat} (h:IntsA w (some ⟨b,off,none⟩) cap l fp) {k:Nat} (hk:k<=l.length):IntsA w (some ⟨b,off + k,none⟩) (cap - k) (l.drop k) fp:=by
 have hl:=h.len
 have hc:=h.cap
 refine ⟨by rw [List.length_drop];omega,by omega,fun x hx=>h.wf x (List.mem_of_mem_drop hx),fun i hi=>?_,h.lt,h.one⟩
 rw [List.length_drop] at hi
 obtain ⟨b',off',ha,hf,hcell⟩:=h.at_ (k + i) (by omega)
 injection ha with ha;injection ha with e1 e2;subst e1;subst e2
 refine ⟨b,off + k,rfl,hf,?_⟩
 rw [Nat.add_assoc,List.getElem_drop]
 exact hcell
end Go.Proofs.YtjfmkolnleicnaaGreatDoor

namespace PM
def mems (T:Rows) (n:Nat):Nat->List (List Int)
 | 0=>[pts n]
 | m + 1=>((pts n).filter fun y=>decide (tr T (n - (m + 1)) y ≠ [])).flatMap fun y=>(mems T n m).map fun q=>comp q (tr T (n - (m + 1)) y)
def ordM (T:Rows) (n:Nat):Nat->Nat
 | 0=>1
 | m + 1=>cntR n T (n - (m + 1)) * ordM T n m
theorem Zkq (T:Rows) (n:Nat):∀ m,(mems T n m).length = ordM T n m
 | 0=>rfl
 | m + 1=>by
  unfold mems ordM
  rw [List.length_flatMap]
  simp only [List.length_map]
  rw [List.map_const',List.sum_replicate_nat,Zkq T n m];rfl
theorem mems_at {n:Nat} {T:Rows} (hw:WF n T) {k:Nat} (hk:k < n) {q:List Int} (q1:PN n q) (q2:Fix (k + 1) q) {y:Int} (hy:tr T k y ≠ []):at_ (comp q (tr T k y)) (k:Int) = y:=by
 rw [at_comp (by omega) (by rw [q1.1];omega),q2 _ (by omega) (by omega)]
 exact hw.at_ _ _ hk hy
theorem mems_iff {n:Nat} {T:Rows} (hw:WF n T):∀ (m:Nat),m<=n->∀ p,p∈mems T n m ↔ Sk T n (n - m) p
 | 0,_,p=>by
  unfold mems Sk
  simp only [List.mem_singleton]
  constructor
  ·rintro rfl;exact ⟨PN.id n,Fix.id n _ (by omega),by simp [has]⟩
  ·rintro ⟨a,b,-⟩;exact Fix.all a (by simpa using b)
 | m + 1,hm,p=>by
  have ih:=mems_iff hw m (by omega)
  have hk:n - (m + 1) < n:=by omega
  have e1:n - (m + 1) + 1 = n - m:=by omega
  unfold mems
  rw [List.mem_flatMap]
  constructor
  ·rintro ⟨y,hy,hp⟩
   obtain ⟨q,hq,rfl⟩:=List.mem_map.1 hp
   rw [List.mem_filter,decide_eq_true_iff] at hy
   obtain ⟨hy1,hy2⟩:=hy
   obtain ⟨q1,q2,q3⟩:=(ih q).1 hq
   have ht:=hw.pn _ _ hk hy2
   have hat:=mems_at hw hk q1 (by rw [e1];exact q2) hy2
   refine ⟨q1.comp ht,Fix.comp q1 (by omega) (q2.mono (by omega)) (hw.fix _ _ hk hy2),?_⟩
   rw [<- Ok.has hk]
   refine ⟨by rw [hat];exact hy2,?_⟩
   have:res T (n - (m + 1)) (comp q (tr T (n - (m + 1)) y)) = q:=by
    unfold res;rw [hat,Zam q1 ht,Zcr ht,comp_id q1]
   rw [this,e1];exact q3
  ·rintro ⟨a,b,c⟩
   rw [<- Ok.has hk] at c
   obtain ⟨c1,c2⟩:=c
   have hr:=Fix.res hw hk a b c1
   rw [e1] at c2 hr
   refine ⟨at_ p ((n - (m + 1):Nat):Int),?_,List.mem_map.2 ⟨res T (n - (m + 1)) p,(ih _).2 ⟨hr.1,hr.2,c2⟩,res_mul hw hk a c1⟩⟩
   rw [List.mem_filter,decide_eq_true_iff,mem_pts]
   exact ⟨a.rng (by omega) (by omega),c1⟩
theorem Zln {n:Nat} {T:Rows} (hw:WF n T):∀ (m:Nat),m<=n->(mems T n m).Nodup
 | 0,_=>by simp [mems]
 | m + 1,hm=>by
  have ih:=Zln hw m (by omega)
  have hi:=mems_iff hw m (by omega)
  have hk:n - (m + 1) < n:=by omega
  have e1:n - (m + 1) + 1 = n - m:=by omega
  unfold mems List.Nodup
  rw [List.pairwise_flatMap]
  constructor
  ·intro y hy
   rw [List.pairwise_map]
   rw [List.mem_filter,decide_eq_true_iff] at hy
   exact List.Pairwise.imp_of_mem (fun ha hb hab e=>hab (Zfk ((hi _).1 ha).1 ((hi _).1 hb).1 (hw.pn _ _ hk hy.2) e)) ih
  ·refine List.Pairwise.imp_of_mem ?_ (List.Pairwise.filter _ (Zdd n))
   intro y y' hy hy' hne p hp p' hp' e
   rw [List.mem_filter,decide_eq_true_iff] at hy hy'
   obtain ⟨q,hq,rfl⟩:=List.mem_map.1 hp
   obtain ⟨q',hq',rfl⟩:=List.mem_map.1 hp'
   obtain ⟨a1,a2,-⟩:=(hi q).1 hq
   obtain ⟨b1,b2,-⟩:=(hi q').1 hq'
   have h1:=mems_at hw hk a1 (by rw [e1];exact a2) hy.2
   have h2:=mems_at hw hk b1 (by rw [e1];exact b2) hy'.2
   rw [e] at h1
   exact hne (h1.symm.trans h2)
section
variable {n:Nat} {gens:List (List Int)} {G:Gens} {T:Rows} (h:Chain n gens G T) (hn:0 < n) (hp:∀ g∈gens,PN n g)
include h hn hp
theorem Chain.mems_iff {p:List Int}:p∈mems T n n ↔ Grp n gens p:=by
 rw [PM.mems_iff h.inv.wf n (Nat.le_refl _) p]
 constructor
 ·rintro ⟨a,-,c⟩
  exact (h.has_iff hn hp a).1 (by simpa using c)
 ·intro hg
  have a:=Grp.pn hp hg
  exact ⟨a,fun x h0 hx=>by omega,by simpa using (h.has_iff hn hp a).2 hg⟩
theorem Chain.order_le {L:List (List Int)} (hL:L.Nodup) (hm:∀ p∈L,Grp n gens p):L.length<=ordM T n n:=by
 rw [<- Zkq]
 exact Zau hL fun p hx=>(h.mems_iff hn hp).2 (hm p hx)
theorem Chain.order_ge {L:List (List Int)} (hm:∀ p,Grp n gens p->p∈L):ordM T n n<=L.length:=by
 rw [<- Zkq]
 exact Zau (Zln h.inv.wf n (Nat.le_refl _)) fun p hx=>hm p ((h.mems_iff hn hp).1 hx)
end
theorem Zvk {n k:Nat} {T:Rows} (hw:WF n T) (hk:k < n):cntR n T k<=n - k:=by
 have h1:((List.range (n - k)).map fun i:Nat=>((i + k:Nat):Int)).length = n - k:=by simp
 unfold cntR
 rw [<- h1]
 refine Zau (List.Pairwise.filter _ (Zdd n)) fun y hy=>?_
 rw [List.mem_filter,decide_eq_true_iff,mem_pts] at hy
 obtain ⟨⟨h0,h1⟩,h2⟩:=hy
 have hky:(k:Int)<=y:=by
  rcases Int.lt_or_le y k with hlt | hle
  ·exfalso
   have a:=hw.fix k y hk h2 y h0 hlt
   have b:=hw.at_ k y hk h2
   have:=(hw.pn k y hk h2).inj h0 h1 (by omega) (by omega) (a.trans b.symm)
   omega
  ·exact hle
 rw [List.mem_map]
 exact ⟨(y - k).toNat,by simp;omega,by omega⟩
theorem Zkd {n k:Nat} {T:Rows} (hw:WF n T) (hk:k < n):1<=cntR n T k:=by
 unfold cntR
 refine List.length_pos_of_mem (a:=(k:Int)) ?_
 rw [List.mem_filter,decide_eq_true_iff,mem_pts]
 exact ⟨by omega,by rw [hw.one k hk];exact pts_ne (by omega)⟩
def fac:Nat->Nat
 | 0=>1
 | m + 1=>(m + 1) * fac m
theorem Zgc {n:Nat} {T:Rows} (hw:WF n T):∀ m,m<=n->1<=ordM T n m/\ordM T n m<=fac m
 | 0,_=>by simp [ordM,fac]
 | m + 1,hm=>by
  obtain ⟨a,b⟩:=Zgc hw m (by omega)
  have h1:=Zkd hw (k:=n - (m + 1)) (by omega)
  have h2:=Zvk hw (k:=n - (m + 1)) (by omega)
  unfold ordM fac
  exact ⟨Nat.mul_le_mul h1 a,Nat.mul_le_mul (by omega) b⟩
theorem Zrj:∀ {a b:Nat},a<=b->fac a<=fac b
 | a,0,h=>by
  have:a = 0:=by omega
  subst this;exact Nat.le_refl _
 | a,b + 1,h=>by
  by_cases e:a = b + 1
  ·subst e;exact Nat.le_refl _
  ·have h1:=Zrj (a:=a) (b:=b) (by omega)
   have h2:fac (b + 1) = (b + 1) * fac b:=rfl
   rw [h2]
   exact Nat.le_trans h1 (Nat.le_mul_of_pos_left _ (by omega))
theorem ordM_le {n:Nat} {T:Rows} (hw:WF n T) (hn:n<=20) {m:Nat} (hm:m<=n):ordM T n m<=2432902008176640000:=
 Nat.le_trans (Zgc hw m hm).2 (Nat.le_trans (Zrj (by omega:m<=20)) (by decide))
end PM

namespace PM
def insU (v:Int):List Int->List Int
 | []=>[v]
 | x :: l=>if x < v then x :: insU v l else if x = v then x :: l else v :: x :: l
theorem Zko {v x:Int}:∀ {l:List Int},x∈insU v l ↔ x = v\/x∈l
 | []=>by simp [insU]
 | y :: l=>by
  have ih:=Zko (v:=v) (x:=x) (l:=l)
  unfold insU
  by_cases h1:y < v
  ·rw [if_pos h1,List.mem_cons,ih,List.mem_cons]
   constructor
   ·rintro (h | h | h)
    ·exact Or.inr (Or.inl h)
    ·exact Or.inl h
    ·exact Or.inr (Or.inr h)
   ·rintro (h | h | h)
    ·exact Or.inr (Or.inl h)
    ·exact Or.inl h
    ·exact Or.inr (Or.inr h)
  ·rw [if_neg h1]
   by_cases h2:y = v
   ·rw [if_pos h2];subst h2;simp
   ·rw [if_neg h2,List.mem_cons]
def Asc (l:List Int):Prop:=l.Pairwise (· < ·)
theorem Zql {v:Int}:∀ {l:List Int},Asc l->Asc (insU v l)
 | [],_=>by simp [insU,Asc]
 | y :: l,h=>by
  obtain ⟨a,b⟩:=List.pairwise_cons.1 h
  have ih:=Zql (v:=v) b
  unfold insU
  by_cases h1:y < v
  ·rw [if_pos h1]
   refine List.pairwise_cons.2 ⟨fun z hz=>?_,ih⟩
   rcases Zko.1 hz with rfl | hz
   ·exact h1
   ·exact a z hz
  ·rw [if_neg h1]
   by_cases h2:y = v
   ·rw [if_pos h2];exact h
   ·rw [if_neg h2]
    refine List.pairwise_cons.2 ⟨fun z hz=>?_,h⟩
    rcases List.mem_cons.1 hz with rfl | hz
    ·omega
    ·have:=a z hz;omega
theorem asc_ext:∀ {l l':List Int},Asc l->Asc l'->(∀ x,x∈l ↔ x∈l')->l = l'
 | [],[],_,_,_=>rfl
 | [],y :: l',_,_,h=>by have:=(h y).2 (by simp);cases this
 | x :: l,[],_,_,h=>by have:=(h x).1 (by simp);cases this
 | x :: l,y :: l',a,b,h=>by
  obtain ⟨a1,a2⟩:=List.pairwise_cons.1 a
  obtain ⟨b1,b2⟩:=List.pairwise_cons.1 b
  have hxy:x = y:=by
   have h1:=(h x).1 (by simp)
   have h2:=(h y).2 (by simp)
   rcases List.mem_cons.1 h1 with e | e
   ·exact e
   ·rcases List.mem_cons.1 h2 with e' | e'
    ·exact e'.symm
    ·have:=b1 _ e;have:=a1 _ e';omega
  subst hxy
  have:=asc_ext a2 b2 (fun z=>⟨fun hz=>by
   rcases List.mem_cons.1 ((h z).1 (List.mem_cons_of_mem _ hz)) with e | e
   ·have:=a1 _ hz;omega
   ·exact e,fun hz=>by
   rcases List.mem_cons.1 ((h z).2 (List.mem_cons_of_mem _ hz)) with e | e
   ·have:=b1 _ hz;omega
   ·exact e⟩)
  rw [this]
def choO (m:List Int) (ys:List Int):List Int:=ys.foldl (fun l y=>insU (at_ m y) l) []
def rowP (n:Nat) (T:Rows) (i:Nat):List Int:=(pts n).filter fun y=>decide (tr T i y ≠ [])
def cho (n:Nat) (T:Rows) (i:Nat) (m:List Int):List Int:=choO m (rowP n T i)
theorem Zno (m:List Int) {v:Int}:∀ (ys acc:List Int),v∈ys.foldl (fun l y=>insU (at_ m y) l) acc ↔ (∃ y∈ys,at_ m y = v)\/v∈acc
 | [],acc=>by simp
 | y :: ys,acc=>by
  rw [List.foldl_cons,Zno m ys,Zko]
  constructor
  ·rintro (⟨z,h1,h2⟩ | h | h)
   ·exact Or.inl ⟨z,List.mem_cons_of_mem _ h1,h2⟩
   ·exact Or.inl ⟨y,by simp,h.symm⟩
   ·exact Or.inr h
  ·rintro (⟨z,h1,h2⟩ | h)
   ·rcases List.mem_cons.1 h1 with rfl | h1
    ·exact Or.inr (Or.inl h2.symm)
    ·exact Or.inl ⟨z,h1,h2⟩
   ·exact Or.inr (Or.inr h)
theorem Zkm {m ys:List Int} {v:Int}:v∈choO m ys ↔ ∃ y∈ys,at_ m y = v:=by
 unfold choO;rw [Zno];simp
theorem Zof (m:List Int):∀ (ys acc:List Int),Asc acc->Asc (ys.foldl (fun l y=>insU (at_ m y) l) acc)
 | [],_,h=>h
 | y :: ys,acc,h=>by rw [List.foldl_cons];exact Zof m ys _ (Zql h)
theorem Zkf (m ys:List Int):Asc (choO m ys):=Zof m ys [] List.Pairwise.nil
theorem Zhz {n:Nat} {T:Rows} {i:Nat} {y:Int}:y∈rowP n T i ↔ (0<=y/\y < n)/\tr T i y ≠ []:=by
 unfold rowP;rw [List.mem_filter,mem_pts];simp
theorem mem_cho {n:Nat} {T:Rows} {i:Nat} {m:List Int} {v:Int}:v∈cho n T i m ↔ ∃ y:Int,((0<=y/\y < n)/\tr T i y ≠ [])/\at_ m y = v:=by
 unfold cho;rw [Zkm]
 constructor
 ·rintro ⟨y,h1,h2⟩;exact ⟨y,Zhz.1 h1,h2⟩
 ·rintro ⟨y,h1,h2⟩;exact ⟨y,Zhz.2 h1,h2⟩
theorem Asc.nodup {l:List Int} (h:Asc l):l.Nodup:=List.Pairwise.imp (fun h=>by omega) h
theorem Zsm (n:Nat) (T:Rows) (i:Nat):(rowP n T i).Nodup:=List.Nodup.sublist List.filter_sublist (Zdd n)
theorem cho_len {n:Nat} {T:Rows} {i:Nat} {m:List Int} (hm:PN n m):(cho n T i m).length = cntR n T i:=by
 have hmap:((rowP n T i).map (at_ m)).Nodup:=by
  unfold List.Nodup
  rw [List.pairwise_map]
  refine List.Pairwise.imp_of_mem (fun {a b} ha hb hab e=>hab ?_) (Zsm n T i)
  obtain ⟨⟨a0,a1⟩,-⟩:=Zhz.1 ha
  obtain ⟨⟨b0,b1⟩,-⟩:=Zhz.1 hb
  exact hm.inj a0 a1 b0 b1 e
 have h1:(cho n T i m).length<=((rowP n T i).map (at_ m)).length:=Zau (Zkf _ _).nodup fun v hv=>by
  obtain ⟨y,hy,e⟩:=Zkm.1 hv
  exact List.mem_map.2 ⟨y,hy,e⟩
 have h2:((rowP n T i).map (at_ m)).length<=(cho n T i m).length:=Zau hmap fun v hv=>by
  obtain ⟨y,hy,e⟩:=List.mem_map.1 hv
  exact Zkm.2 ⟨y,hy,e⟩
 rw [List.length_map] at h1 h2
 exact Nat.le_antisymm h1 h2
theorem at_inv' {n:Nat} {p:List Int} (hp:PN n p) {x:Int} (h0:0<=x) (h1:x < n):at_ p (at_ (inv p) x) = x:=by
 have h:at_ (comp (inv p) p) x = at_ (pts n) x:=by rw [Zhv hp]
 rw [at_comp h0 (by rw [hp.inv.1];exact h1),at_pts h0 h1] at h
 exact h
def putV (T:Rows) (i:Nat) (m:List Int) (v:Int):List Int:=comp (tr T i (at_ (inv m) v)) m
theorem cho_pre {n:Nat} {T:Rows} {i:Nat} {m:List Int} (hm:PN n m) {v:Int} (hv:v∈cho n T i m):0<=v/\v < n/\0<=at_ (inv m) v/\at_ (inv m) v < n/\tr T i (at_ (inv m) v) ≠ []/\at_ m (at_ (inv m) v) = v:=by
 obtain ⟨y,⟨⟨h0,h1⟩,h2⟩,rfl⟩:=mem_cho.1 hv
 have hr:=hm.rng h0 h1
 have e:=at_inv hm h0 h1
 rw [e]
 exact ⟨hr.1,hr.2,h0,h1,h2,rfl⟩
def Alike (i:Nat) (p q:List Int):Prop:=∀ x:Int,0<=x->x < i->at_ p x = at_ q x
theorem putV_pn {n:Nat} {T:Rows} (hw:WF n T) {i:Nat} (hi:i < n) {m:List Int} (hm:PN n m) {v:Int} (hv:v∈cho n T i m):PN n (putV T i m v)/\Alike i (putV T i m v) m/\at_ (putV T i m v) (i:Int) = v:=by
 obtain ⟨h0,h1,h2,h3,h4,h5⟩:=cho_pre hm hv
 have ht:=hw.pn i _ hi h4
 refine ⟨ht.comp hm,fun x x0 x1=>?_,?_⟩
 ·unfold putV
  rw [at_comp x0 (by rw [ht.1];omega),hw.fix i _ hi h4 x x0 x1]
 ·unfold putV
  rw [at_comp (by omega) (by rw [ht.1];omega),hw.at_ i _ hi h4,h5]
section
variable {n:Nat} {gens:List (List Int)} {G:Gens} {T:Rows} (h:Chain n gens G T) (hn:0 < n) (hp:∀ g∈gens,PN n g)
include h hn hp
theorem Chain.row_grp {j:Nat} (hj:j < n) {y:Int} (hy:tr T j y ≠ []):Grp n gens (tr T j y):=by
 have hsub:∀ j,j < n->∀ p,Grp n (lv G j) p->Grp n (lv G 0) p:=by
  intro j
  induction j with
  | zero=>intro _ p hp;exact hp
  | succ j ih=>
   intro hj p hp
   exact ih (by omega) p (Grp.mono (fun g hg=>h.inv.gpn j g (by omega) hg) (fun g hg=>h.inv.up j g hj hg) hp)
 exact (h.grp hn hp _).1 (hsub j hj _ (h.inv.row j y hj hy))
theorem Chain.putV {i:Nat} (hi:i < n) {m:List Int} (hm:Grp n gens m) {v:Int} (hv:v∈cho n T i m):Grp n gens (PM.putV T i m v):=
 Grp.comp hp (h.row_grp hn hp hi (cho_pre (hm.pn hp) hv).2.2.2.2.1) hm
theorem Chain.mem_cho {i:Nat} (hi:i < n) {m:List Int} (hm:Grp n gens m) {v:Int}:v∈cho n T i m ↔ ∃ p,Grp n gens p/\Alike i p m/\at_ p (i:Int) = v:=by
 have hpn:=hm.pn hp
 constructor
 ·intro hv
  have:=putV_pn h.inv.wf hi hpn hv
  exact ⟨_,h.putV hn hp hi hm hv,this.2.1,this.2.2⟩
 ·rintro ⟨p,h1,h2,rfl⟩
  have hpp:=h1.pn hp
  have hq:Grp n gens (comp p (PM.inv m)):=Grp.comp hp h1 (hm.inv hp)
  have hr:=hpp.rng (x:=(i:Int)) (by omega) (by omega)
  have hir:=(hpn.inv).rng hr.1 hr.2
  refine PM.mem_cho.2 ⟨at_ (PM.inv m) (at_ p (i:Int)),⟨hir,?_⟩,at_inv' hpn hr.1 hr.2⟩
  refine (h.row_iff hn hp hi hir.1 hir.2).2 ⟨_,hq,fun x x0 x1=>?_,?_⟩
  ·rw [at_comp x0 (by rw [hpp.1];omega),h2 x x0 x1,at_inv hpn x0 (by omega)]
  ·rw [at_comp (by omega) (by rw [hpp.1];omega)]
theorem Chain.cho_congr {G':Gens} {T':Rows} (h':Chain n gens G' T') {i:Nat} (hi:i < n) {m m':List Int} (hm:Grp n gens m) (hm':Grp n gens m') (ha:Alike i m m'):cho n T i m = cho n T' i m':=by
 refine asc_ext (Zkf _ _) (Zkf _ _) fun v=>?_
 show v∈cho n T i m ↔ v∈cho n T' i m'
 rw [h.mem_cho hn hp hi hm,h'.mem_cho hn hp hi hm']
 constructor
 ·rintro ⟨p,a,b,c⟩;exact ⟨p,a,fun x x0 x1=>(b x x0 x1).trans (ha x x0 x1),c⟩
 ·rintro ⟨p,a,b,c⟩;exact ⟨p,a,fun x x0 x1=>(b x x0 x1).trans (ha x x0 x1).symm,c⟩
theorem Chain.cntR_congr {G':Gens} {T':Rows} (h':Chain n gens G' T') {i:Nat} (hi:i < n):cntR n T i = cntR n T' i:=by
 rw [<- cho_len (T:=T) (i:=i) (PN.id n),<- cho_len (T:=T') (i:=i) (PN.id n),h.cho_congr hn hp h' hi .id .id fun _ _ _=>rfl]
theorem Chain.ordM_congr {G':Gens} {T':Rows} (h':Chain n gens G' T'):∀ k,k<=n->ordM T n k = ordM T' n k
 | 0,_=>rfl
 | k + 1,hk=>by
  unfold ordM
  rw [h.cntR_congr hn hp h' (i:=n - (k + 1)) (by omega),Chain.ordM_congr h' k (by omega)]
end
open Classical in
noncomputable def chainR (n:Nat) (gens:List (List Int)):Rows:=if h:∃ T,∃ G,Chain n gens G T then h.choose else []
theorem Chain.chainR {n:Nat} {gens:List (List Int)} {G:Gens} {T:Rows} (h:Chain n gens G T):∃ G',Chain n gens G' (PM.chainR n gens):=by
 have hex:∃ T,∃ G,Chain n gens G T:=⟨T,G,h⟩
 unfold PM.chainR
 rw [dif_pos hex]
 exact hex.choose_spec
end PM

namespace Go.Proofs.YtjfmkolnleicnaaGreatDoor
open Go.RowKit
set_option maxRecDepth 10000
open Go.Maps (Keyed)
def kB (l:List Int):ByteArray:=strOfNums (l.map fun x=>x % 256)
theorem kB_size (l:List Int):(kB l).size = l.length:=by unfold kB;rw [strOfNums_size,List.length_map]
theorem kB_inj:∀ {l l':List Int},(∀ x∈l,0<=x/\x < 256)->(∀ x∈l',0<=x/\x < 256)->kB l = kB l'->l = l':=by
 intro l l' h h' he
 have hd:(kB l).data.toList = (kB l').data.toList:=by rw [he]
 unfold kB at hd
 rw [strOfNums_data,strOfNums_data,List.map_map,List.map_map] at hd
 clear he
 induction l generalizing l' with
 | nil=>cases l' with
  | nil=>rfl
  | cons y l'=>simp at hd
 | cons x l ih=>cases l' with
  | nil=>simp at hd
  | cons y l'=>
   simp only [List.map_cons,List.cons.injEq] at hd
   have hx:=h x (by simp);have hy:=h' y (by simp)
   have e1:x % 256 = x:=Int.emod_eq_of_lt hx.1 hx.2
   have e2:y % 256 = y:=Int.emod_eq_of_lt hy.1 hy.2
   have h1:=hd.1
   simp only [Function.comp,e1,e2] at h1
   have h2:=congrArg UInt8.toNat h1
   rw [UInt8.toNat_ofNat',UInt8.toNat_ofNat'] at h2
   have:x = y:=by omega
   subst this
   rw [ih (fun z hz=>h z (by simp [hz])) (fun z hz=>h' z (by simp [hz])) hd.2]
theorem kB_eq {l l':List Int} (h:∀ x∈l,0<=x/\x < 256) (h':∀ x∈l',0<=x/\x < 256):kB l = kB l' ↔ l = l':=⟨kB_inj h h',fun e=>by rw [e]⟩
theorem Tryz.lawStr:Keyed Tryz.prog 9:=Go.Maps.string_keyed Tryz.underlying9
section
variable {w:World} {M k:Nat} {g:ByteArray->Option Int}
end
theorem Tryz.infoByte:(Tryz.prog.info? 5).map (fun i=>(i.zero,i.size,i.bytes)) = some (some (.int .u8 0),1,1):=by kernel_rfl
theorem madeBytes (n:Nat):(madeCells (Value.cells (.int .u8 0)) n).toList = List.replicate n (.int .u8 0):=by
 apply List.ext_getElem (by simp [madeCells])
 intro i h1 h2
 simp [madeCells,Value.cells,Nat.mod_one]
theorem Zsg (l:List Int) (j:Nat) (hj:j < l.length):((l.take j).map (fun x=>Value.int .u8 (x % 256)) ++ List.replicate (l.length - j) (Value.int .u8 0)).set j (.int .u8 (l[j] % 256)) = (l.take (j + 1)).map (fun x=>Value.int .u8 (x % 256)) ++ List.replicate (l.length - (j + 1)) (.int .u8 0):=by
 have hl:((l.take j).map (fun x=>Value.int .u8 (x % 256))).length = j:=by rw [List.length_map,List.length_take];omega
 rw [show l.length - j = (l.length - (j + 1)) + 1 by omega,List.replicate_succ,List.set_append_right _ _ (by omega),hl,Nat.sub_self,Zab l j hj]
 simp only [List.map_append,List.map_cons,List.map_nil,List.append_assoc,List.cons_append,List.nil_append,List.set_cons_zero]
set_option maxHeartbeats 1000000 in
theorem Zbe (v:Value) (l:List Int) (fp:List Nat) (w:World) (h:Rd w v l fp) (hl:l.length<=1000) :
  Calls Tryz.prog 129 #[v] w fun e w'=>e = .returned (.string (kB l))/\Only [] w w':=by
 obtain ⟨a,cap,rfl,hI⟩:=h.ints
 obtain ⟨i0,hi,hz0,hz1,hz2⟩:=info_parts Tryz.infoByte
 go_enter Tryz.func129,Tryz.ntmps129
 go_wp2_with (at_make;refine wpList_make_full _ rfl _ _ 22 rfl w.heap.size 5 i0 _ 1 Tryz.underlying22 hi hz0 hz1 _ _ _ _ l.length rfl rfl rfl rfl (by rw [hz2];omega) (by unfold maxLen;omega) (Nat.le_refl _) ?_;intro w1 hown hg)
 rw [madeBytes,Nat.mul_one] at hown
 go_loopw [11] (fun i wr=>∃ j:Nat,j<=l.length/\i = .int .i64 j /\
   wr.ownsRow w.heap.size 5 1 (.slice (some ⟨w.heap.size,0,none⟩) l.length l.length) l.length ((l.take j).map (fun x=>Value.int .u8 (x % 256)) ++ List.replicate (l.length - j) (.int .u8 0))/\Only [] w wr)
  (fun i _=>l.length - (intOf i).toNat)
 case atStart=>exact ⟨0,Nat.zero_le _,rfl,by simpa using hown,zO.grown hg (by simp)⟩
 case round=>
  obtain ⟨j,hj,rfl,hO,hK⟩:=hrel
  by_cases hlt:j < l.length
  ·obtain ⟨b,off,rfl,-,hc0⟩:=hI.at_ j hlt
   have hc:=hK.cell (by simp) hc0
   have hO2:=(hO.stored j (.int .u8 (l[j] % 256))).1
   rw [Zsg l j hlt] at hO2
   obtain ⟨z2,hc2⟩:∃ z,wr.cell? ⟨w.heap.size,j,none⟩ = some z:=by
    rw [hO.cellAt j (by omega)]
    exact ⟨_,List.getElem?_eq_getElem (by simp;omega)⟩
   have hf2:=hO.frozenAt j
   have hK2:=hK.setCell (p:=⟨w.heap.size,j,none⟩) (by simp) (.int .u8 (l[j] % 256))
   have HO:=zH hO2
   clear hO hO2 hown hc0
   go_wp2
   go_roundw
   case rel=>exact ⟨j + 1,by omega,by go_num,HO.out,hK2⟩
   case measure=>simp [intOf];omega
  ·have hjl:j = l.length:=by omega
   rw [hjl] at hO
   simp only [Nat.sub_self,List.replicate_zero,List.append_nil,List.take_length] at hO
   have hcv:=run_convert_bytes_arg (P:=Tryz.prog) wr 22 5 Tryz.underlying22 Tryz.underlying5 w.heap.size 0 l.length l.length (l.map fun x=>x % 256) (by simp) (fun i hi=>by
    rw [Nat.zero_add,hO.cellAt i (by omega)]
    simp [hi]) 9 Tryz.underlying9
   have hKB:strOfNums (l.map fun x=>x % 256) = kB l:=rfl
   rw [hKB] at hcv
   clear hjl hO hown hKB
   go_wp2
   go_ret
   exact ⟨rfl,hK⟩
open Go.Maps (Keyed)
theorem Tryz.zeroBool (w:World):(zeroValue 4).run Tryz.prog w = .ok (.bool false) w:=by kernel_rfl
theorem Ziu {P:Program} {e:TypeId} {H:Type} (he:P.underlying e = some .bool) {v:Value} {z:DataW H × List MemPlace} (h:plainElem P e v = some z):∃ a,v = .bool a/\z = (.lit (.bool a),[]):=by
 unfold plainElem at h
 rw [he] at h
 cases v <;> simp at h
 obtain rfl:=h
 exact ⟨_,rfl,rfl⟩
def MpB (w:World) (M k:Nat) (g:ByteArray->Bool):Prop:=
 ∃ D:DataW Unit,w.ownsMap Tryz.prog 9 (plainElem Tryz.prog 4) M k D/\∀ s:ByteArray,s.size<=maxLen ->
  D.atKey (.string s.data.toList) (.lit (.bool false)) = .lit (.bool (g s))
theorem MpB.lt {w:World} {M k:Nat} {g:ByteArray->Bool} (h:MpB w M k g):M < w.heap.size:=by
 obtain ⟨D,h1,-⟩:=h;exact h1.lt
theorem MpB.frame {w w':World} {M k:Nat} {g:ByteArray->Bool} (h:MpB w M k g) (hf:w'.heap[M]? = w.heap[M]?):MpB w' M k g:=by
 obtain ⟨D,⟨es,c,h1,h2⟩,h3⟩:=h
 exact ⟨D,⟨es,c,by rw [hf];exact h1,h2⟩,h3⟩
theorem MpB.only {w w':World} {fp:List Nat} {M k:Nat} {g:ByteArray->Bool} (h:MpB w M k g) (ho:Only fp w w') (hn:M ∉ fp):MpB w' M k g:=h.frame (ho.block M h.lt hn)
theorem MpB.keep {w w':World} {M k:Nat} {g:ByteArray->Bool} (h:MpB w M k g) (ho:Only [] w w'):MpB w' M k g:=h.only ho (by simp)
theorem MpB.made (w:World) {M:Nat} (hM:M = w.heap.size):MpB (w.alloc (.map #[] 0)) M 0 (fun _=>false):=by
 subst hM
 exact ⟨.map [],World.ownsMap_made _ _ _ _,fun s _=>rfl⟩
theorem MpB.congr {w:World} {M k:Nat} {g g':ByteArray->Bool} (h:MpB w M k g) (hg:∀ s,g s = g' s):MpB w M k g':=by
 have:g = g':=funext hg
 rw [<- this];exact h
section
variable {w:World} {M k:Nat} {g:ByteArray->Bool}
theorem MpB.run_at (h:MpB w M k g) {s:ByteArray} (hs:s.size<=maxLen):(Instr.lookup 206 (.map (some M)) (.string s) false).run Tryz.prog w = .ok (.bool (g s)) w:=by
 obtain ⟨D,hown,hg⟩:=h
 obtain ⟨v,ps,hrun,hv⟩:=hown.lookup Tryz.lawStr Tryz.underlying206 (Tryz.zeroBool w) (plainElem_bool Tryz.underlying4 false) (Go.WideMaps.keyOf_string_mk Tryz.underlying9 hs)
 obtain ⟨c,rfl,hc⟩:=Ziu Tryz.underlying4 hv
 have hc1:=congrArg Prod.fst hc
 simp only at hc1
 rw [hg s hs] at hc1
 injection hc1 with hc1;injection hc1 with hc1
 rw [hrun,hc1]
theorem MpB.run_put (h:MpB w M k g) {s:ByteArray} (hs:s.size<=maxLen) (b:Bool) (hk:k < maxLen) :
  ∃ w',(Instr.mapUpdate 206 (.map (some M)) (.string s) (.bool b)).run Tryz.prog w = .ok () w'/\MpB w' M (k + 1) (fun s'=>if s' = s then b else g s')/\Only [M] w w':=by
 obtain ⟨D,hown,hg⟩:=h
 obtain ⟨w',hrun,r1,r2⟩:=hown.store Tryz.lawStr Tryz.underlying206 hk (Go.WideMaps.keyOf_string_mk Tryz.underlying9 hs) (plainElem_bool Tryz.underlying4 b)
 have hmap:=hown.isMap
 refine ⟨w',hrun,⟨_,r1,fun s' hs'=>?_⟩,?_⟩
 ·by_cases he:s' = s
  ·subst he
   have hkl:WideAt.IsKeyLit (Lit.string s'.data.toList):=trivial
   rw [Go.Maps.atKey_put_same hmap hkl];simp
  ·have hne:(Lit.string s'.data.toList) ≠ .string s.data.toList:=by
    intro e;injection e with e
    apply he
    have:s'.data = s.data:=Array.toList_inj.1 e
    cases s';cases s;simp at this;rw [this]
   rw [Go.Maps.atKey_put_other hne];simp [he];exact hg s' hs'
 ·exact zO.grown r2.grown (by intro j hj _;injection hj with hj;subst hj;simp)
end
theorem Acc.one {α:Type} [Rp α] {w:World} (B:Nat) (e:TypeId) {cs:List Value} {x:α} {fp:List Nat} (h:Rp.rep w cs x fp) {g:Nat} (hg:g = w.heap.size) (hB:B<=g):Acc B e (w.alloc (.cells cs.toArray e)) (.slice (some ⟨g,0,none⟩) 1 1) [x] [fp]:=by
 subst hg
 have hk:Only [] w (w.alloc (.cells cs.toArray e)):=zO.alloc _
 refine ⟨⟨[cs],⟨by simp [Rp.len h],.inr ⟨w.heap.size,1,cs.toArray,rfl,hB,heap_alloc_new w _,Nat.le_refl _,by unfold maxLen;omega,by simp [Rp.len h],by simpa using List.take_of_length_le (Nat.le_of_eq (Rp.len h))⟩⟩,rfl,fun k h1 h2 h3=>?_⟩,rfl,?_⟩
 ·have:k = 0:=by simpa using h1
  subst this
  exact zK h hk
 ·intro g hg hm
  simp only [Value.ownBlock,Option.some.injEq] at hg
  subst hg
  have:=Rp.lt h _ (by simpa using hm)
  omega
section
variable {P:Program} {α:Type} [Rp α] {ops:Array Oper} {rest:List Oper} {o:Oper} {a:Act} {w:World} {Q:Exit->Act->World->Prop}
theorem Zbt (hgd:o.guard = none) (s x:Operand) (t:TypeId)
  (ho:o.op = .call { callee:=.builtin .append,args:=#[s,x],argTypes:=#[t,t] })
  (B:Nat) (e:TypeId) (i:TypeInfo) (z:Value) (bytes:Nat) (ht:P.underlying t = some (.slice e)) (hi:P.info? e = some i) (hz:i.zero = some z)
  (hsize:i.size = Rp.size α) (hby:i.bytes = bytes) (hzs:z.cells.size = Rp.size α) (hsz:0 < Rp.size α) (hbb:bytes<=65536)
  (w0:World) (v:Value) (l:List α) (fs:List (List Nat)) (hs:a.eval s = v) (hA:Acc B e w0 v l fs) (hK0:Only [] w0 w) (hB:B<=w0.heap.size)
  (g c:Nat) (cs:List Value) (y:α) (fp:List Nat) (hx:a.eval x = .slice (some ⟨g,0,none⟩) 1 c) (hsrc:∀ j u,cs[j]? = some u->w.cell? ⟨g,j,none⟩ = some u) (hcs:∀ u∈cs,u.oneCell' = true)
  (hy:Rp.rep w cs y fp) (hap:∀ b∈fp,v.ownBlock ≠ some b) (hlen:l.length + 1<=1073741824)
  (h:∀ v' w',Acc B e w' v' (l ++ [y]) (fs ++ [fp])->Only v.ownBlock.toList w w'->(∀ wz,Only [] wz w->wz.heap.size<=B->Only [] wz w') ->
   (Fresh B w0 fs.flatten->Fresh w0.heap.size w fp->Fresh B w' (fs ++ [fp]).flatten)->(v'.ownBlock = v.ownBlock\/v'.ownBlock = some w.heap.size)->wpList P ops Q rest (a.put o.dst v') w'):wpList P ops Q (o :: rest) a w:=
 wpList_plain hgd fun _ hK=>Zeu s x t ho B e i z bytes ht hi hz hsize hby hzs hsz hbb w0 v l fs hs hA hK0 hB g c cs y fp hx hsrc hcs hy hap hlen fun v' w' h1 h2 h3 h4 h5=>hK _ _ (h v' w' h1 h2 h3 h4 h5)
end
theorem Zsn {n:Int} {m:Nat} {p q:List Int} (hn:n<=256) (hp:patB n m p = true) (hq:patB n m q = true):kB p = kB q ↔ p = q:=
 kB_eq (fun x hx=>by have:=(Zba.1 hp).2.1 x hx;omega) (fun x hx=>by have:=(Zba.1 hq).2.1 x hx;omega)
def metB (L:List (List Int)) (s:ByteArray):Bool:=L.any fun q=>decide (kB q = s)
theorem Zoj (L:List (List Int)) (q:List Int) (s:ByteArray):(if s = kB q then true else metB L s) = metB (L ++ [q]) s:=by
 unfold metB
 rw [List.any_append]
 by_cases h:s = kB q
 ·subst h;simp
 ·have h':¬ kB q = s:=fun e=>h e.symm
  simp [h,h']
theorem Zvf {n:Int} {m:Nat} {L:List (List Int)} {q:List Int} (hn:n<=256) (hL:∀ p∈L,patB n m p = true) (hq:patB n m q = true):metB L (kB q) = decide (q∈L):=by
 unfold metB
 rw [Bool.eq_iff_iff,List.any_eq_true]
 simp only [decide_eq_true_eq]
 constructor
 ·rintro ⟨p,h1,h2⟩
  rw [(Zsn hn (hL p h1) hq).1 h2] at h1
  exact h1
 ·intro h;exact ⟨q,h,rfl⟩
structure PBf (x:Puzzle) (m:Nat) (w:World) (m1:Nat) (W:World) (M:Nat) (L:List (List Int)) (D:List Int) (wr:World) (v1 v2:Value) (fs fd:List (List Nat)):Prop where
 acc:Acc w.heap.size 27 wr v1 L fs
 dep:Acc w.heap.size 2 wr v2 D fd
 fr:Fresh w.heap.size wr fs.flatten
 mp:MpB wr M L.length (metB L)
 dl:D.length = L.length
 ll:L.length<=3000
 pat:∀ q∈L,patB x.points m q = true
 rng:∀ d∈D,0<=d/\d<=D.length
 a2:∀ g,v2.ownBlock = some g->v1.ownBlock ≠ some g/\g ∉ fs.flatten/\g ≠ M
 a1:v1.ownBlock ≠ some M/\M ∉ fs.flatten
 zone:∀ g,(g = M\/v1.ownBlock = some g\/v2.ownBlock = some g)->(w.heap.size<=g/\g < m1)\/W.heap.size<=g
 keep:∀ g,(g < w.heap.size\/(m1<=g/\g < W.heap.size))->wr.heap[g]? = W.heap[g]?
 on:Only [] w wr
 sz:W.heap.size<=wr.heap.size
 mw:w.heap.size<=m1/\m1<=W.heap.size
section
variable {x:Puzzle} {m:Nat} {w:World} {m1:Nat} {W:World} {M:Nat} {L:List (List Int)} {D:List Int} {wr:World} {v1 v2:Value} {fs fd:List (List Nat)}
theorem PBf.only {wr':World} (h:PBf x m w m1 W M L D wr v1 v2 fs fd) (ho:Only [] wr wr'):PBf x m w m1 W M L D wr' v1 v2 fs fd:=
 ⟨h.acc.keep ho,h.dep.keep ho,h.fr.keep ho,h.mp.keep ho,h.dl,h.ll,h.pat,h.rng,h.a2,h.a1,h.zone,fun g hg=>by
  have hz:=h.sz;have hw:=h.mw
  rw [ho.block g (by omega) (by simp)];exact h.keep g hg,h.on.trans ho,Nat.le_trans h.sz ho.size,h.mw⟩
theorem PBf.start {W5:World} (h:PBf x m w m1 W M L D wr v1 v2 fs fd) (ho:Only [] wr W5):PBf x m w wr.heap.size W5 M L D W5 v1 v2 fs fd:=by
 have hw:=h.mw;have hz:=h.sz
 refine ⟨h.acc.keep ho,h.dep.keep ho,h.fr.keep ho,h.mp.keep ho,h.dl,h.ll,h.pat,h.rng,h.a2,h.a1,fun g hg=>.inl ?_,fun g _=>rfl,h.on.trans ho,Nat.le_refl _,by omega,ho.size⟩
 have h1:=h.zone g hg
 refine ⟨by omega,?_⟩
 rcases hg with rfl | hg | hg
 ·exact h.mp.lt
 ·exact (h.acc.ownlt g hg).2
 ·exact (h.dep.ownlt g hg).2
theorem PBf.fd0 (h:PBf x m w m1 W M L D wr v1 v2 fs fd):fd.flatten = []:=by
 obtain ⟨css,ho,hcl,hr⟩:=h.dep.own
 have hl:=h.dep.fl
 have:fd = List.replicate fd.length []:=by
  apply List.ext_getElem (by simp)
  intro k h1 h2
  have:=(hr k (by omega) (by omega) h1).2.2
  simpa using this
 rw [this];exact flatten_nil _
theorem PBf.step {wp wa wb wc wd:World} {v1' v2':Value} {s:List Int} {d:Int} {f:List Nat}
  (h:PBf x m w m1 W M L D wr v1 v2 fs fd) (hL:L.length < 3000) (hp:patB x.points m s = true) (hd:0<=d/\d<=D.length + 1)
  (hm:MpB wp M (L.length + 1) (metB (L ++ [s]))) (ho:Only [M] wr wp)
  (ka:Only [] wp wa) (hA:Acc w.heap.size 27 wb v1' (L ++ [s]) (fs ++ [f])) (oA:Only v1.ownBlock.toList wa wb) (nA:v1'.ownBlock = v1.ownBlock\/v1'.ownBlock = some wa.heap.size) (hF:Fresh w.heap.size wb (fs ++ [f]).flatten) (hfM:M ∉ f) (hf2:∀ g∈f,wr.heap.size<=g\/v2.ownBlock ≠ some g)
  (kc:Only [] wb wc) (hD:Acc w.heap.size 2 wd v2' (D ++ [d]) (fd ++ [[]])) (oD:Only v2.ownBlock.toList wc wd) (nD:v2'.ownBlock = v2.ownBlock\/v2'.ownBlock = some wc.heap.size) :
  PBf x m w m1 W M (L ++ [s]) (D ++ [d]) wd v1' v2' (fs ++ [f]) (fd ++ [[]]):=by
 have s1:=ho.size;have s2:=ka.size;have s3:=oA.size;have s4:=kc.size;have s5:=oD.size
 have hz:=h.sz;have hw:=h.mw
 have hMl:=h.mp.lt
 have l1:=h.acc.ownlt
 have l2:=h.dep.ownlt
 have hfl:=h.fr.lt
 have hff:(fs ++ [f]).flatten = fs.flatten ++ f:=by simp
 have hfs:∀ g,v2.ownBlock = some g->g ∉ (fs ++ [f]).flatten:=fun g hg hm=>by
  rw [hff] at hm
  rcases List.mem_append.1 hm with hm | hm
  ·exact (h.a2 g hg).2.1 hm
  ·have:=l2 g hg
   rcases hf2 g hm with h3 | h3
   ·omega
   ·exact h3 hg
 have hv12:∀ g,v2.ownBlock = some g->v1'.ownBlock ≠ some g:=fun g hg he=>by
  rcases nA with h3 | h3
  ·exact (h.a2 g hg).1 (by rw [<- h3];exact he)
  ·rw [h3] at he;injection he with he;have:=l2 g hg;omega
 have hmM:∀ g,v1.ownBlock = some g->g ≠ M:=fun g hg e=>h.a1.1 (by rw [hg,e])
 have hM1:v1'.ownBlock ≠ some M:=fun he=>by
  rcases nA with h3 | h3
  ·exact h.a1.1 (by rw [<- h3];exact he)
  ·rw [h3] at he;injection he with he;omega
 have hM1':M ∉ v1.ownBlock.toList:=by simpa using h.a1.1
 have hM2':M ∉ v2.ownBlock.toList:=by simp;intro he;exact (h.a2 M he).2.2 rfl
 have hN:∀ g,v1'.ownBlock = some g->v1.ownBlock = some g\/W.heap.size<=g:=fun g hg=>by
  rcases nA with h3 | h3
  ·exact .inl (by rw [<- h3];exact hg)
  ·rw [h3] at hg;injection hg with hg;right;omega
 have hN2:∀ g,v2'.ownBlock = some g->v2.ownBlock = some g\/wb.heap.size<=g:=fun g hg=>by
  rcases nD with h3 | h3
  ·exact .inl (by rw [<- h3];exact hg)
  ·rw [h3] at hg;injection hg with hg;right;omega
 have hko:Only (M :: (v1.ownBlock.toList ++ v2.ownBlock.toList)) wr wd:=
  ((((ho.mono (by simp)).keepThen ka).then_ oA (by intro b hb _;simp at hb ⊢;simp [hb])).keepThen kc).then_ oD (by intro b hb _;simp at hb ⊢;simp [hb])
 refine ⟨hA.only (kc.weaken _ |>.trans oD) (fun b hb hm=>hfs b (by simpa using hm) hb) (fun g hg hm=>hv12 g (by simpa using hm) hg),hD,
  hF.only (kc.weaken _ |>.trans oD) (fun b hb hm=>hfs b (by simpa using hm) hb),
  by simpa using ((((hm.keep ka).only oA hM1').keep kc).only oD hM2'),by simp [h.dl],by simp;omega,?_,?_,?_,⟨hM1,?_⟩,?_,fun g hg=>?_,?_,by omega,h.mw⟩
 ·intro q hq
  rcases List.mem_append.1 hq with hq | hq
  ·exact h.pat q hq
  ·simp at hq;subst hq;exact hp
 ·intro q hq
  rw [List.length_append,List.length_singleton]
  rcases List.mem_append.1 hq with hq | hq
  ·have:=h.rng q hq;omega
  ·simp at hq;subst hq;omega
 ·intro g hg
  rcases hN2 g hg with h3 | h3
  ·exact ⟨hv12 g h3,hfs g h3,(h.a2 g h3).2.2⟩
  ·refine ⟨fun he=>?_,fun hm=>?_,by omega⟩
   ·have:=(hA.ownlt g he).2;omega
   ·have:=hF.lt g hm;omega
 ·rw [hff];intro hm
  rcases List.mem_append.1 hm with hm | hm
  ·exact h.a1.2 hm
  ·exact hfM hm
 ·rintro g (rfl | hg | hg)
  ·exact h.zone _ (.inl rfl)
  ·rcases hN g hg with h3 | h3
   ·exact h.zone g (.inr (.inl h3))
   ·exact .inr h3
  ·rcases hN2 g hg with h3 | h3
   ·exact h.zone g (.inr (.inr h3))
   ·right;omega
 ·rw [hko.block g (by omega) (fun hm=>?_)]
  ·exact h.keep g hg
  ·simp only [List.mem_cons,List.mem_append,Option.mem_toList] at hm
   have:=h.zone g (by rcases hm with hm | hm | hm;exact .inl hm;exact .inr (.inl hm);exact .inr (.inr hm))
   omega
 ·refine h.on.then_ hko (fun g hm hg=>?_)
  simp only [List.mem_cons,List.mem_append,Option.mem_toList] at hm
  have:=h.zone g (by rcases hm with hm | hm | hm;exact .inl hm;exact .inr (.inl hm);exact .inr (.inr hm))
  omega
theorem PBf.out (h:PBf x m w m1 W M L D wr v1 v2 fs fd):Rd wr v1 L (v1.ownBlock.toList ++ fs.flatten)/\Rd wr v2 D v2.ownBlock.toList/\Fresh w.heap.size wr ((v1.ownBlock.toList ++ fs.flatten) ++ v2.ownBlock.toList):=by
 have h0:=h.fd0
 have h2:=h.dep.rd (by decide)
 rw [h0,List.append_nil] at h2
 have hf1:=h.acc.fresh h.fr
 have hf2:=h.dep.fresh (by rw [h0];exact Fresh.nil _ _)
 rw [h0,List.append_nil] at hf2
 refine ⟨h.acc.rd (by decide),h2,List.nodup_append.2 ⟨hf1.nd,hf2.nd,fun a ha b hb e=>?_⟩,fun b hb=>?_,hf1.own.append hf2.own⟩
 ·subst e
  have hb':v2.ownBlock = some a:=by simpa using hb
  rcases List.mem_append.1 ha with ha | ha
  ·exact (h.a2 a hb').1 (by simpa using ha)
  ·exact (h.a2 a hb').2.1 ha
 ·rcases List.mem_append.1 hb with hb | hb
  ·exact hf1.ge b hb
  ·exact hf2.ge b hb
theorem PBf.old (h:PBf x m w m1 W M L D wr v1 v2 fs fd) {β:Type} [Rp β] {cs:List Value} {y:β} {fp:List Nat} (hr:Rp.rep W cs y fp) (hf:∀ g∈fp,g < w.heap.size\/(m1<=g/\g < W.heap.size)):Rp.rep wr cs y fp:=
 Rp.frame hr fun g hg=>h.keep g (hf g hg)
end
theorem Zgw {P:Program} {α:Type} [Rp α] {ops:Array Oper} {o:Oper} {a:Act} {w:World} {Q:Exit->Act->World->Prop} {K:Act->World->Prop} {E:Prop} (hgd:o.guard = none) (s x:Operand) (t:TypeId)
  (ho:o.op = .call { callee:=.builtin .append,args:=#[s,x],argTypes:=#[t,t] })
  (B:Nat) (e:TypeId) (i:TypeInfo) (z:Value) (bytes:Nat) (ht:P.underlying t = some (.slice e)) (hi:P.info? e = some i) (hz:i.zero = some z)
  (hsize:i.size = Rp.size α) (hby:i.bytes = bytes) (hzs:z.cells.size = Rp.size α) (hsz:0 < Rp.size α) (hbb:bytes<=65536)
  (w0:World) (v:Value) (l:List α) (fs:List (List Nat)) (hs:a.eval s = v) (hA:Acc B e w0 v l fs) (hK0:Only [] w0 w) (hB:B<=w0.heap.size)
  (g c:Nat) (cs:List Value) (y:α) (fp:List Nat) (hx:a.eval x = .slice (some ⟨g,0,none⟩) 1 c) (hsrc:∀ j u,cs[j]? = some u->w.cell? ⟨g,j,none⟩ = some u) (hcs:∀ u∈cs,u.oneCell' = true)
  (hy:Rp.rep w cs y fp) (hap:∀ b∈fp,v.ownBlock ≠ some b) (hlen:l.length + 1<=1073741824)
  (h:∀ v' w',Acc B e w' v' (l ++ [y]) (fs ++ [fp])->Only v.ownBlock.toList w w'->(v'.ownBlock = v.ownBlock\/v'.ownBlock = some w.heap.size)->K (a.put o.dst v') w'):if Region.wanted o (yielded ops a.tmps) = true then Oper.wp P o a w K Q else E:=by
 rw [if_pos (by simp [Region.wanted,hgd])]
 exact Zeu s x t ho B e i z bytes ht hi hz hsize hby hzs hsz hbb w0 v l fs hs hA hK0 hB g c cs y fp hx hsrc hcs hy hap hlen fun v' w' h1 h2 _ _ h5=>h v' w' h1 h2 h5
theorem Acc.flat0 {B:Nat} {e:TypeId} {w:World} {v:Value} {l:List Int} {fs:List (List Nat)} (h:Acc B e w v l fs):fs.flatten = []:=by
 obtain ⟨css,ho,hcl,hr⟩:=h.own
 have hl:=h.fl
 have:fs = List.replicate fs.length []:=by
  apply List.ext_getElem (by simp)
  intro k h1 h2
  have:=(hr k (by omega) (by omega) h1).2.2
  simpa using this
 rw [this];exact flatten_nil _
def AccI (B:Nat) (e:TypeId) (w:World) (v:Value) (l:List Int):Prop:=∃ fs,Acc B e w v l fs
section
variable {w w':World} {B:Nat} {e:TypeId} {v:Value} {l:List Int}
theorem AccI.only {fp:List Nat} (h:AccI B e w v l) (ho:Only fp w w') (hv:∀ g,v.ownBlock = some g->g ∉ fp):AccI B e w' v l:=by
 obtain ⟨fs,h⟩:=h
 exact ⟨fs,h.only ho (by rw [h.flat0];simp) hv⟩
theorem AccI.keep (h:AccI B e w v l) (ho:Only [] w w'):AccI B e w' v l:=h.only ho (by simp)
theorem AccI.form (h:AccI B e w v l):∃ a c,v = .slice a l.length c:=by
 obtain ⟨fs,h⟩:=h;exact h.form
theorem AccI.rd (h:AccI B e w v l):Rd w v l v.ownBlock.toList:=by
 obtain ⟨fs,h⟩:=h
 have:=h.rd (by decide)
 rwa [h.flat0,List.append_nil] at this
theorem AccI.fresh (h:AccI B e w v l):Fresh B w v.ownBlock.toList:=by
 obtain ⟨fs,h⟩:=h
 have:=h.fresh (by rw [h.flat0];exact Fresh.nil _ _)
 rwa [h.flat0,List.append_nil] at this
theorem AccI.ownlt (h:AccI B e w v l):∀ g,v.ownBlock = some g->B<=g/\g < w.heap.size:=by
 obtain ⟨fs,h⟩:=h;exact h.ownlt
theorem AccI.nil (w:World) (B:Nat) (e:TypeId):AccI B e w (.slice none 0 0) []:=⟨[],Acc.nil w B e⟩
theorem AccI.made (w:World) (B:Nat) (e:TypeId) {g:Nat} (hg:g = w.heap.size) (hB:B<=g):AccI B e (w.alloc (.cells #[] e)) (.slice (some ⟨g,0,none⟩) 0 0) []:=⟨[],Acc.made w B e hg hB⟩
theorem AccI.one {n:Int} (hn:I64 n) (w:World) (B:Nat) (e:TypeId) {g:Nat} (hg:g = w.heap.size) (hB:B<=g):AccI B e (w.alloc (.cells #[.int .i64 n] e)) (.slice (some ⟨g,0,none⟩) 1 1) [n]:=
 ⟨[[]],Acc.one (cs:=[.int .i64 n]) B e (int_rd w hn) hg hB⟩
end
section
variable {P:Program} {ops:Array Oper} {rest:List Oper} {o:Oper} {a:Act} {w:World} {Q:Exit->Act->World->Prop} {K:Act->World->Prop}
theorem Zbj (hgd:o.guard = none) (s x:Operand) (t:TypeId)
  (ho:o.op = .call { callee:=.builtin .append,args:=#[s,x],argTypes:=#[t,t] })
  (B:Nat) (e:TypeId) (i:TypeInfo) (z:Value) (ht:P.underlying t = some (.slice e)) (hi:P.info? e = some i) (hz:i.zero = some z)
  (hsize:i.size = 1) (hby:i.bytes = 8) (hzs:z.cells.size = 1)
  (w0:World) (v:Value) (l:List Int) (hs:a.eval s = v) (hA:AccI B e w0 v l) (hK0:Only [] w0 w) (hB:B<=w0.heap.size)
  (g c:Nat) (n:Int) (hx:a.eval x = .slice (some ⟨g,0,none⟩) 1 c) (hsrc:w.cell? ⟨g,0,none⟩ = some (.int .i64 n)) (hn:I64 n) (hlen:l.length + 1<=1073741824)
  (h:∀ v' w',AccI B e w' v' (l ++ [n])->Only v.ownBlock.toList w w'->(∀ wz,Only [] wz w->wz.heap.size<=B->Only [] wz w')->(v'.ownBlock = v.ownBlock\/v'.ownBlock = some w.heap.size)->wpList P ops Q rest (a.put o.dst v') w'):wpList P ops Q (o :: rest) a w:=by
 obtain ⟨fs,hA⟩:=hA
 refine Zbt (α:=Int) hgd s x t ho B e i z 8 ht hi hz hsize hby hzs (by decide) (by decide) w0 v l fs hs hA hK0 hB g c [.int .i64 n] n [] hx ?_ (by intro u hu;simp at hu;subst hu;rfl) (int_rd w hn) (by simp) hlen fun v' w' h1 h2 h3 _ h5=>h v' w' ⟨_,h1⟩ h2 h3 h5
 intro j u hu
 cases j with
 | zero=>simp at hu;subst hu;exact hsrc
 | succ j=>simp at hu
theorem Zei {E:Prop} (hgd:o.guard = none) (s x:Operand) (t:TypeId)
  (ho:o.op = .call { callee:=.builtin .append,args:=#[s,x],argTypes:=#[t,t] })
  (B:Nat) (e:TypeId) (i:TypeInfo) (z:Value) (ht:P.underlying t = some (.slice e)) (hi:P.info? e = some i) (hz:i.zero = some z)
  (hsize:i.size = 1) (hby:i.bytes = 8) (hzs:z.cells.size = 1)
  (w0:World) (v:Value) (l:List Int) (hs:a.eval s = v) (hA:AccI B e w0 v l) (hK0:Only [] w0 w) (hB:B<=w0.heap.size)
  (g c:Nat) (n:Int) (hx:a.eval x = .slice (some ⟨g,0,none⟩) 1 c) (hsrc:w.cell? ⟨g,0,none⟩ = some (.int .i64 n)) (hn:I64 n) (hlen:l.length + 1<=1073741824)
  (h:∀ v' w',AccI B e w' v' (l ++ [n])->Only v.ownBlock.toList w w'->(v'.ownBlock = v.ownBlock\/v'.ownBlock = some w.heap.size)->K (a.put o.dst v') w'):if Region.wanted o (yielded ops a.tmps) = true then Oper.wp P o a w K Q else E:=by
 obtain ⟨fs,hA⟩:=hA
 refine Zgw (α:=Int) hgd s x t ho B e i z 8 ht hi hz hsize hby hzs (by decide) (by decide) w0 v l fs hs hA hK0 hB g c [.int .i64 n] n [] hx ?_ (by intro u hu;simp at hu;subst hu;rfl) (int_rd w hn) (by simp) hlen fun v' w' h1 h2 h5=>h v' w' ⟨_,h1⟩ h2 h5
 intro j u hu
 cases j with
 | zero=>simp at hu;subst hu;exact hsrc
 | succ j=>simp at hu
end
theorem lit1 (w:World) (u:Value) (e:TypeId) {g:Nat} (hg:g = w.heap.size):(w.alloc (.cells #[u] e)).cell? ⟨g,0,none⟩ = some u:=lit_src w [u] e hg 0 u rfl
theorem Zjd {v' v:Value} {w:World} {b:Nat} (hN:v'.ownBlock = v.ownBlock\/v'.ownBlock = some w.heap.size) (h1:v.ownBlock ≠ some b) (h2:b < w.heap.size):v'.ownBlock ≠ some b:=by
 rcases hN with e | e
 ·rw [e];exact h1
 ·rw [e];intro h;injection h with h;omega
section
variable {w W wr w' wa wb:World} {G:List Nat} {e:TypeId} {o o':Value} {l:List Int} {n:Int}
end
end Go.Proofs.YtjfmkolnleicnaaGreatDoor

namespace Go.Proofs.YtjfmkolnleicnaaGreatDoor
open Go.RowKit Go.Shelf Go.Sort Go.Proofs
set_option maxRecDepth 10000
theorem Zgm (l:List Int):(l.map fun x=>[Value.int .i64 x]).flatten = l.map (Value.int .i64):=by
 induction l with
 | nil=>rfl
 | cons x l ih=>simp only [List.map_cons,List.flatten_cons,ih,List.cons_append,List.nil_append]
theorem AccI.row {B:Nat} {e:TypeId} {w:World} {v:Value} {l:List Int} (h:AccI B e w v l):w.ownsRow B e 1 v l.length (l.map (Value.int .i64))/\∀ x∈l,I64 x:=by
 obtain ⟨fs,h⟩:=h
 obtain ⟨css,ho,hcl,hr⟩:=h.own
 have hfl:=h.fl
 have hc:css = l.map fun x=>[Value.int .i64 x]:=by
  apply List.ext_getElem (by simp [hcl])
  intro k h1 h2
  have hk:k < l.length:=by omega
  have:=(hr k h1 hk (by omega)).1
  rw [this];simp
 refine ⟨?_,fun x hx=>?_⟩
 ·rw [hc,Zgm] at ho;exact ho
 ·obtain ⟨k,hk,rfl⟩:=List.getElem_of_mem hx
  exact (hr k (by omega) hk (by omega)).2.1
theorem AccI.ofRow {B:Nat} {e:TypeId} {w:World} {v:Value} {l:List Int} (h:w.ownsRow B e 1 v l.length (l.map (Value.int .i64))) (hI:∀ x∈l,I64 x):AccI B e w v l:=by
 have hf:∀ n:Nat,(List.replicate n ([]:List Nat)).flatten = []:=fun n=>by induction n with | zero=>rfl | succ n ih=>simp [List.replicate_succ,ih]
 refine ⟨List.replicate l.length [],⟨l.map fun x=>[Value.int .i64 x],?_,by simp,fun k h1 h2 h3=>?_⟩,by simp,fun g _=>by rw [hf];simp⟩
 ·rw [Zgm];exact h
 ·exact ⟨by simp,hI _ (List.getElem_mem h2),by simp⟩
end Go.Proofs.YtjfmkolnleicnaaGreatDoor

namespace Go.Proofs.YtjfmkolnleicnaaGreatDoor
open Go.RowKit
set_option maxRecDepth 10000
def below (v:Int):List Int->Nat
 | []=>0
 | x :: l=>if x < v then below v l + 1 else 0
theorem Zgv (v:Value) (l:List Int) (fp:List Nat) (w:World) (h:Rd w v l fp) (hl:l.length<=1073741824) :
  Calls Tryz.prog 77 #[v] w fun e w'=>∃ v,e = .returned v/\AccI w.heap.size 2 w' v l/\Only [] w w':=by
 obtain ⟨a,cap,rfl,hI⟩:=h.ints
 obtain ⟨i0,hi,hz0,hz1,hz2⟩:=info_parts Tryz.info2
 obtain ⟨q1,q2⟩:=Zer (hI.keep ((Only.refl _ w).alloc (.cells #[] 2)))
 go_enter Tryz.func77,Tryz.ntmps77
 go_wp2_with (at_builtin;refine Zcs _ rfl _ _ 27 rfl w.heap.size 2 i0 _ 1 8 Tryz.underlying27 hi hz0 hz1 hz2 rfl (by omega) (.slice (some ⟨w.heap.size,0,none⟩) 0 0) 0 [] rfl (World.ownsRow_made w #[] 0 (Nat.le_refl _) (by unfold maxLen;omega) rfl) a l.length cap (l.map (Value.int .i64)) rfl (by simp) q1 q2 (Zfv l) (by unfold maxLen;omega) (by omega) (by simp) ?_;intro v1 w1 hO hg hb)
 rw [Nat.zero_add,List.nil_append] at hO
 have hK:Only [] w w1:=(zO.alloc _).grown hg (by simp [Value.ownBlock])
 have hA:AccI w.heap.size 2 w1 v1 l:=AccI.ofRow hO hI.wf
 have HA:=zH hA
 clear hO hg hb q1 q2 hA
 go_wp2
 go_ret
 exact ⟨_,rfl,HA.out,hK⟩
def Met16.ok (m:Nat) (s:Met16):Prop:=s.1.length = s.2.length/\s.1.length<=3000/\∀ q∈s.1,q.length = m
theorem Zuk {m:Nat} {s s':Met16} {d:Int} {y:List Int} (h:bMeet s d y = some s') (hs:s.ok m) (hy:y.length = m):s'.ok m:=by
 obtain ⟨a,b,-⟩:=Zob h hs.1 hs.2.1
 refine ⟨a,b,fun q hq=>?_⟩
 unfold bMeet at h
 split at h
 ·injection h with h;subst h;exact hs.2.2 q hq
 ·split at h
  ·cases h
  ·injection h with h;subst h
   rcases List.mem_append.1 hq with hq | hq
   ·exact hs.2.2 q hq
   ·simp at hq;subst hq;exact hy
theorem Zpw {x:Puzzle} {m:Nat} {q:List Int} {d:Int} (hq:q.length = m):∀ {ls:List Int} {s s':Met16},bLets x q d ls s = some s'->s.ok m->s'.ok m
 | [],s,s',h,hs=>by unfold bLets at h;injection h with h;subst h;exact hs
 | l :: ls,s,s',h,hs=>by
  unfold bLets at h
  rw [Option.bind_eq_some_iff] at h
  obtain ⟨s1,e1,e2⟩:=h
  exact Zpw hq e2 (Zuk e1 hs (by unfold nxt;rw [PM.Zan];exact hq))
theorem Zpq {x:Puzzle} {m:Nat}:∀ {n k:Nat} {s s':Met16},bFrom x n k s = some s'->s.ok m->s'.ok m
 | 0,_,s,s',h,hs=>by unfold bFrom at h;injection h with h;subst h;exact hs
 | n + 1,k,s,s',h,hs=>by
  unfold bFrom at h
  split at h
  ·rename_i hk
   rw [Option.bind_eq_some_iff] at h
   obtain ⟨s1,e1,e2⟩:=h
   refine Zpq e2 (Zpw ?_ e1 hs)
   rw [List.getD_eq_getElem?_getD,List.getElem?_eq_getElem hk]
   exact hs.2.2 _ (List.getElem_mem hk)
  ·injection h with h;subst h;exact hs
theorem Zhw {x:Puzzle} {tr:List Int} {t:Table} (h:bTab x tr = some t):validPz x = true/\trackB x.points tr = true/\t.tracked = tr/\bfs16 x tr = some (t.patterns,t.distances)/\Met16.ok tr.length (t.patterns,t.distances):=by
 unfold bTab at h
 rcases hb:bfs16 x tr with _ | s
 ·rw [hb] at h;cases h
 ·rw [hb] at h
  injection h with h
  subst h
  rcases hq:validPz x && trackB x.points tr
  ·rw [Zhj hq] at hb;cases hb
  ·obtain ⟨q1,q2⟩:=(Bool.and_eq_true _ _).mp hq
   refine ⟨q1,q2,rfl,rfl,?_⟩
   rw [Zdg hq] at hb
   exact Zpq hb ⟨rfl,by simp,by simp⟩
theorem Zqv {l:List (List Int)} {p:List Int} (h:0<=idxL l p):p∈l/\(idxL l p).toNat < l.length:=by
 rcases Zeo (fun q=>decide (q = p)) l with h1 | ⟨k,hk,h1,h2⟩
 ·unfold idxL at h;omega
 ·have:l[k] = p:=of_decide_eq_true h2
  unfold idxL
  rw [h1]
  exact ⟨by rw [<- this];exact List.getElem_mem hk,by simpa using hk⟩
def dK (x:Puzzle) (t:Table) (p:List Int) (d:Int):Int:=idxF (leads x t p d) (ltrs x.moves.length)
theorem Zrt {x:Puzzle} {t:Table} {p:List Int} {d:Int}:(dK x t p d = -1/\descL x t p d = 0)\/∃ k:Nat,∃ h:k < (ltrs x.moves.length).length,dK x t p d = k/\descL x t p d = (ltrs x.moves.length)[k]:=by
 unfold dK descL idxF
 cases hf:(ltrs x.moves.length).findIdx? (leads x t p d) with
 | none=>
  left
  rw [List.findIdx?_eq_none_iff] at hf
  rw [List.find?_eq_none.2 (fun a ha=>by simp [hf a ha])]
  exact ⟨rfl,rfl⟩
 | some k=>
  right
  obtain ⟨hk,hp,hlt⟩:=List.findIdx?_eq_some_iff_getElem.1 hf
  refine ⟨k,hk,rfl,?_⟩
  rw [List.find?_eq_some_iff_getElem.2 ⟨hp,k,hk,rfl,fun i hi=>by simpa using hlt i hi⟩]
  rfl
end Go.Proofs.YtjfmkolnleicnaaGreatDoor
