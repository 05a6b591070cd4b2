/- The reference's cycles of a permutation: cycleOf, isSmallest, allCycles, CycleType (laws 32, 44; the notation of cycles). -/
import Derived.Test.YthleokaeobdamaaGreatRowTableSolverG11
import Derived.Test.YthleokaeobdamaaGreatRowTableSolverG10
import Derived.Test.YthleokaeobdamaaGreatRowTableSolverG4
import Derived.Test.YthleokaeobdamaaGreatRowTableSolverG5
import Derived.Test.YthleokaeobdamaaGreatRowTableSolverG9
import Derived.Test.YthleokaeobdamaaGreatRowTableSolverG7
import Derived.Test.YthleokaeobdamaaGreatRowTableSolverG1
import Derived.Test.YthleokaeobdamaaGreatRowTableSolverG2
import Derived.Test.YthleokaeobdamaaGreatRowTableSolverG3
import Derived.Deep.RegionHeld3
import Derived.Deep.QuietTactic
namespace Go.Proofs.YthleokaeobdamaaGreat
open Go.RowKit
set_option maxRecDepth 10000
set_option maxHeartbeats 4000000 in
theorem Zqu (n:Nat) (v:Value) (p:List Int) (fp:List Nat) (x:Int) (w:World) (h:Rd w v p fp) (hp:PM.PN n p) (x0:0<=x) (x1:x < n) (hn:n<=1000) :
  Calls Tryz.prog 255 #[v,.int .i64 x] w fun e w'=>∃ v',e = .returned v'/\AccI w.heap.size 2 w' v' (PM.cyl p x)/\Only [] w w':=by
 obtain ⟨A,C,rfl,I⟩:=h.ints
 obtain ⟨i0,hi,hz0,hz1,hz2⟩:=info_parts Tryz.info2
 have hpl:=hp.1
 obtain ⟨q0,q1,q2,q3⟩:=PM.per_ok hp x0 x1
 obtain ⟨m,hm⟩:∃ m,m = PM.per p x:=⟨_,rfl⟩
 have hcy:PM.cyl p x = PM.cyT p x m:=by rw [hm];rfl
 rw [<- hm] at q0 q1 q2 q3
 obtain ⟨b,off,rfl,-,c0⟩:=I.at_pm x0 (by rw [hpl];omega)
 have hat:PM.at_ p x = PM.it p 1 x:=rfl
 rw [hat] at c0
 have x1l:x < (p.length:Int):=by rw [hpl];exact x1
 have hxI:I64 x:=by unfold I64;omega
 have Hcy:=zH hcy
 have Hpl:=zH hpl
 have Hq2:=zH q2
 have Hq3:=zH q3
 have Hp:=zH hp
 have HI:=zH hxI
 have A0:=AccI.one hxI w w.heap.size 2 rfl (Nat.le_refl _)
 have c0':=((Only.refl [] w).alloc (.cells #[.int .i64 x] 2)).cell (by simp) c0
 clear hcy hpl q2 q3 hp hxI hm hat
 go_enter Tryz.func255,Tryz.ntmps255
 go_wp2
 go_loopw [5,6] (fun o y wr=>∃ k:Nat,1<=k/\k<=m/\y = .int .i64 (PM.it p k x)/\AccI w.heap.size 2 wr o (PM.cyT p x k)/\Only [] w wr)
  (fun o _ _=>m - lenV o)
 case atStart=>exact ⟨1,Nat.le_refl _,q0,rfl,A0,zO.alloc _⟩
 case round=>
  obtain ⟨W2,hnew⟩:∃ W,W = wr:=⟨_,rfl⟩
  subst hnew
  obtain ⟨k,k1,hk,rfl,hA,hO⟩:=hrel
  obtain ⟨a5,c5,hf5⟩:=hA.form
  have hl5:lenV u5 = k:=by rw [hf5,PM.cyT_len];rfl
  have Hl5:=zH hl5
  clear hf5 hl5
  by_cases hlt:k < m
  ·obtain ⟨y,hy⟩:∃ y,y = PM.it p k x:=⟨_,rfl⟩
   have hyr:=PM.it_rng Hp.out x0 x1 k
   rw [<- hy] at hyr ⊢
   have hne:¬ (y = x):=by rw [hy];exact Hq3.out k (by omega) hlt
   obtain ⟨b2,off2,e2,-,c1⟩:=I.at_pm (x:=y) hyr.1 (by rw [Hpl.out];omega)
   injection e2 with e2;injection e2 with e21 e22;subst e21;subst e22
   have hnx:PM.at_ p y = PM.it p (k + 1) x:=by rw [hy];rfl
   rw [hnx] at c1
   have hst:PM.cyT p x (k + 1) = PM.cyT p x k ++ [y]:=by rw [PM.Zug,hy]
   have hyI:I64 y:=by unfold I64;omega
   have y0:0<=y:=hyr.1
   have y1:y < (p.length:Int):=by rw [Hpl.out];exact hyr.2
   have hlen:(PM.cyT p x k).length + 1<=1073741824:=by rw [PM.cyT_len];omega
   have hsz:=hO.size
   have Hst:=zH hst
   have HyI:=zH hyI
   have HA:=zH hA
   clear hy hyr hnx hst hyI hA
   go_wp2_with (first
    | (at_builtin;refine Zbi rfl _ _ 27 rfl w.heap.size 2 i0 _ Tryz.underlying27 hi hz0 hz1 hz2 rfl W2 u5 (PM.cyT p x k) rfl HA.out (zO.alloc _) hsz W2.heap.size 1 y rfl (lit1 W2 _ _ rfl) HyI.out hlen ?_;intro v3 w3 hA3 hO3 hP3 hN3;have k3:=hP3 w (hO.alloc _) (Nat.le_refl _);have c3:=k3.cell (by simp) c1;clear hO3 hP3 hN3)
    | fail)
   obtain ⟨a3,c3',hf3⟩:=hA3.form
   have hl3:lenV v3 = k + 1:=by rw [hf3];show (PM.cyT p x k ++ [y]).length = k + 1;rw [List.length_append,PM.cyT_len];rfl
   clear hf3
   go_roundw
   case rel=>exact ⟨k + 1,by omega,by omega,rfl,by rw [Hst.out];exact hA3,k3⟩
   case measure=>have:=Hl5.out;omega
  ·obtain rfl:k = m:=by omega
   have he:PM.it p k x = x:=Hq2.out
   rw [he]
   clear he
   go_wp2
   go_ret
   exact ⟨u5,rfl,by rw [Hcy.out];exact hA,hO⟩
def smB (l:List Int):Bool:=decide (∀ y∈l,l.getD 0 0<=y)
set_option maxHeartbeats 2000000 in
theorem Zgy (a:Option Addr) (c:Nat) (l:List Int) (f:List Nat) (w:World) (h:IntsA w a c l f) (hl:0 < l.length) :
  Calls Tryz.prog 256 #[.slice a l.length c] w fun e w'=>e = .returned (.bool (smB l))/\Only [] w w':=by
 have hb:=h.bound
 obtain ⟨z,hz⟩:∃ z,z = l.getD 0 0:=⟨_,rfl⟩
 obtain ⟨b,off,rfl,-,c0⟩:=h.at_ 0 hl
 have hz0:l[0] = z:=by rw [hz,List.getD_eq_getElem?_getD,List.getElem?_eq_getElem hl];rfl
 rw [hz0,Nat.add_zero] at c0
 have hsm:smB l = decide (∀ y∈l,z<=y):=by rw [hz];rfl
 rw [hsm]
 have Hz0:=zH hz0
 clear hz hz0 hsm
 go_enter Tryz.func256,Tryz.ntmps256
 go_wp2
 go_loopw [3] (fun y wr=>∃ j:Nat,1<=j/\j<=l.length/\y = .int .i64 j/\Hid (∀ q∈l.take j,z<=q)/\Only [] w wr)
  (fun y _=>l.length - (intOf y).toNat)
 case atStart=>exact ⟨1,Nat.le_refl _,hl,rfl,zH (fun q hq=>by
  have h1:l.take 1 = [l[0]]:=by rw [List.take_succ_eq_append_getElem hl];rfl
  rw [h1,Hz0.out] at hq
  rw [List.mem_singleton.1 hq];exact Int.le_refl _),Only.refl _ _⟩
 case round=>
  obtain ⟨W2,hnew⟩:∃ W,W = wr:=⟨_,rfl⟩
  subst hnew
  obtain ⟨j,j1,hj,rfl,hq,hO⟩:=hrel
  by_cases hlt:j < l.length
  ·have hltI:(j:Int) < (l.length:Int):=by omega
   obtain ⟨b2,off2,e2,-,c1⟩:=h.at_ j hlt
   injection e2 with e2;injection e2 with e21 e22;subst e21;subst e22
   obtain ⟨y,hy⟩:∃ y,y = l[j]:=⟨_,rfl⟩
   rw [<- hy] at c1
   have d0:=hO.cell (by simp) c0
   have d1:=hO.cell (by simp) c1
   have hl0:(0:Int) < (l.length:Int):=by omega
   have hj0:(0:Int)<=(j:Int):=by omega
   have Hy:=zH hy
   clear hy
   go_wp2
   go_quiet (fail)
   go_wp2
   ·rename_i hylt
    go_ret
    refine ⟨Zaa ?_,hO.drewN _⟩
    refine (decide_eq_false fun hall=>?_).symm
    have:=hall l[j] (List.getElem_mem hlt)
    rw [<- Hy.out] at this
    omega
   ·rename_i hyge
    go_roundw
    case rel=>exact ⟨j + 1,by omega,by omega,by go_num,zH (fun q hq2=>by
     rw [Zab l j hlt] at hq2
     rcases List.mem_append.1 hq2 with hq2 | hq2
     ·exact hq.out q hq2
     ·rw [List.mem_singleton.1 hq2,<- Hy.out];omega),hO.drewN _⟩
    case measure=>simp [intOf];omega
  ·have hge:¬ ((j:Int) < (l.length:Int)):=by omega
   go_wp2
   go_ret
   refine ⟨Zaa ?_,hO⟩
   have:=hq.out
   rw [List.take_of_length_le (by omega)] at this
   exact (decide_eq_true this).symm
theorem smB_cyl {n:Nat} {p:List Int} (hp:PM.PN n p) {x:Int} (x0:0<=x) (x1:x < n):smB (PM.cyl p x) = true ↔ PM.Mn p x:=by
 have h0:=(PM.per_ok hp x0 x1).1
 have h1:(PM.cyl p x).getD 0 0 = x:=by
  unfold PM.cyl PM.cyT
  rw [List.getD_eq_getElem?_getD,List.getElem?_map,List.getElem?_range h0]
  rfl
 unfold smB
 rw [decide_eq_true_iff,h1]
 rfl
set_option maxHeartbeats 4000000 in
theorem Zox (n:Nat) (v:Value) (p:List Int) (fp:List Nat) (w:World) (h:Rd w v p fp) (hp:PM.PN n p) (hn:n<=1000) :
  Calls Tryz.prog 252 #[v] w fun e w'=>∃ v' f,e = .returned v'/\Rd w' v' (PM.cycs p n) f/\Fresh w.heap.size w' f/\Only [] w w':=by
 obtain ⟨A,C,rfl,I⟩:=id h.ints
 obtain ⟨i0,hi,hz0,hz1,hz2⟩:=info_parts Tryz.info22
 have hpl:=hp.1
 have hb:=I.bound
 have Hp:=zH hp
 have Hpl:=zH hpl
 clear hp hpl
 go_enter Tryz.func252,Tryz.ntmps252
 go_wp2
 go_loopw [3,4] (fun o y wr=>∃ (k:Nat) (fs:List (List Nat)),k<=n/\y = .int .i64 k/\Acc w.heap.size 27 wr o (PM.cycs p k) fs/\Fresh w.heap.size wr fs.flatten/\Only [] w wr)
  (fun _ y _=>n - (intOf y).toNat)
 case atStart=>exact ⟨0,[],Nat.zero_le _,rfl,Acc.made w w.heap.size _ rfl (Nat.le_refl _),Fresh.nil _ _,zO.alloc _⟩
 case round=>
  obtain ⟨W2,hnew⟩:∃ W,W = wr:=⟨_,rfl⟩
  subst hnew
  obtain ⟨k,fs,hk,rfl,hA,hF,hO⟩:=hrel
  have hsz:=hO.size
  by_cases hlt:k < n
  ·have hltI:(k:Int) < (p.length:Int):=by rw [Hpl.out];omega
   have hcl:=PM.Zku p k
   have hlen:(PM.cycs p k).length + 1<=1073741824:=by omega
   obtain ⟨cy,hcy⟩:∃ cy,cy = PM.cyl p (k:Int):=⟨_,rfl⟩
   have HcC:=zH (Zqu n (.slice A p.length C) p fp (k:Int) W2 (zK h hO) Hp.out (by omega) (by omega) hn)
   have hsm:=smB_cyl Hp.out (x:=(k:Int)) (by omega) (by omega)
   have hcl0:0 < cy.length:=by rw [hcy,PM.cyl_len];exact (PM.per_ok Hp.out (x:=(k:Int)) (by omega) (by omega)).1
   rw [<- hcy] at HcC hsm
   have HA:=zH hA
   have Hcy:=zH hcy
   clear hcy hA hcl
   by_cases hmn:PM.Mn p (k:Int)
   ·have Hsb:=zH (hsm.2 hmn)
    have Hst:=zH (PM.Ztg hmn)
    clear hsm hmn
    go_wp2_with (first
     | (go_at_call 255;(with_reducible refine (HcC.out).mono ?_);rintro en w3 ⟨v3,rfl,A3,t3⟩;obtain ⟨a3,c3,rfl,I3⟩:=id A3.rd.ints)
     | (go_at_call 256;(with_reducible refine (Zgy a3 c3 cy _ w3 I3 hcl0).mono ?_);rintro en w4 ⟨he,t4⟩;rw [Hsb.out] at he;subst he)
     | (at_builtin;refine Zah rfl _ _ 24 rfl w.heap.size 27 i0 _ 24 Tryz.underlying24 hi hz0 hz1 hz2 rfl (by decide) (by decide) W2 u3 (PM.cycs p k) fs rfl HA.out hF ((t3.trans t4).alloc _) hsz w4.heap.size 1 [.slice a3 cy.length c3] cy _ rfl (lit_src w4 [.slice a3 cy.length c3] _ rfl) (by intro u hu;simp at hu;subst hu;rfl) (zK A3.rd (t4.alloc _)) (A3.fresh.keep (t4.alloc _)) hlen w (((hO.trans t3).trans t4).alloc _) (Nat.le_refl _) ?_;intro v5 w5 hA5 hF5 hK5 _)
     | fail)
    go_roundw
    case rel=>exact ⟨k + 1,_,by omega,by go_num,by rw [Hst.out,<- Hcy.out];exact hA5,hF5,hK5⟩
    case measure=>simp [intOf];omega
   ·have Hsb:Hid (smB cy = false):=zH (by rw [Bool.eq_false_iff];exact fun h=>hmn (hsm.1 h))
    have Hst:=zH (PM.cycs_no hmn)
    clear hsm hmn
    go_wp2_with (first
     | (go_at_call 255;(with_reducible refine (HcC.out).mono ?_);rintro en w3 ⟨v3,rfl,A3,t3⟩;obtain ⟨a3,c3,rfl,I3⟩:=id A3.rd.ints)
     | (go_at_call 256;(with_reducible refine (Zgy a3 c3 cy _ w3 I3 hcl0).mono ?_);rintro en w4 ⟨he,t4⟩;rw [Hsb.out] at he;subst he)
     | fail)
    go_roundw
    case rel=>exact ⟨k + 1,fs,by omega,by go_num,by rw [Hst.out];exact (HA.out.keep t3).keep t4,(hF.keep t3).keep t4,(hO.trans t3).trans t4⟩
    case measure=>simp [intOf];omega
  ·obtain rfl:k = n:=by omega
   have hge:¬ ((k:Int) < (p.length:Int)):=by rw [Hpl.out];omega
   have HA:=zH hA
   clear hA
   go_wp2
   go_ret
   exact ⟨_,rfl,_,HA.out.rd (by decide),HA.out.fresh hF,hO⟩
theorem Zsa (n:Int) (hn:I64 n):(bA (Lib.itoa n)).size<=21:=by
 rw [bA_size]
 unfold I64 at hn
 unfold Lib.itoa
 split
 ·rw [List.length_cons]
  have:=Lib.nDigits_le20 n.natAbs (by omega)
  rw [<- Lib.decDigits_length] at this
  omega
 ·have:=Lib.nDigits_le20 n.toNat (by omega)
  rw [<- Lib.decDigits_length] at this
  omega
set_option maxHeartbeats 4000000 in
theorem Zqc (v:Value) (L:List ByteArray) (fp:List Nat) (sp:ByteArray) (w:World) (h:Rd w v L fp) (hL:L.length<=100000) (hsp:sp.size<=10) (hs:∀ x∈L,x.size<=1000) :
  Calls Tryz.prog 254 #[v,.string sp] w fun e w'=>∃ s,e = .returned (.string s)/\s.size<=1010 * L.length/\Only [] w w':=by
 obtain ⟨a,c,ob,fps,rfl,-,S⟩:=h.open_
 have Hs:=zH hs
 clear hs
 go_enter Tryz.func254,Tryz.ntmps254
 go_wp2
 go_loopw [5,6] (fun sv iv wr=>∃ (i:Nat) (s:ByteArray),i<=L.length/\iv = .int .i64 i/\sv = .string s/\s.size<=1010 * i/\Only [] w wr)
  (fun _ iv _=>L.length - (intOf iv).toNat)
 case atStart=>exact ⟨0,_,Nat.zero_le _,rfl,rfl,by decide,Only.refl _ _⟩
 case round=>
  obtain ⟨W2,hnew⟩:∃ W,W = wr:=⟨_,rfl⟩
  subst hnew
  obtain ⟨i,s,hi1,rfl,rfl,hsz,hO⟩:=hrel
  by_cases hgo:i < L.length
  ·have hgoI:(i:Int) < (L.length:Int):=by omega
   have hi00:(0:Int)<=(i:Int):=by omega
   obtain ⟨b,off,rfl,hc0⟩:=S.strAt i hgo
   have hc:=hO.cell (by simp) hc0
   have hx:=Hs.out L[i] (List.getElem_mem hgo)
   obtain ⟨x,hxe⟩:∃ x,x = L[i]:=⟨_,rfl⟩
   rw [<- hxe] at hc hx
   clear hxe hc0
   by_cases hp:0 < i
   ·have hpI:(0:Int) < (i:Int):=by omega
    have z1:¬ 9223372036854775807 < s.size + sp.size:=by omega
    have z2:¬ 9223372036854775807 < (s ++ sp).size + x.size:=by rw [ByteArray.size_append];omega
    have z3:¬ 9223372036854775807 < s.size + sp.size + x.size:=by omega
    go_wp2
    go_roundw
    case rel=>exact ⟨i + 1,_,by omega,by go_num,rfl,by rw [ByteArray.size_append,ByteArray.size_append];omega,hO⟩
    case measure=>simp [intOf];omega
   ·have hpI:¬ (0:Int) < (i:Int):=by omega
    have z2:¬ 9223372036854775807 < s.size + x.size:=by omega
    go_wp2
    go_roundw
    case rel=>exact ⟨i + 1,_,by omega,by go_num,rfl,by rw [ByteArray.size_append];omega,hO⟩
    case measure=>simp [intOf];omega
  ·have hge:¬ (i:Int) < (L.length:Int):=by omega
   go_wp2
   go_ret
   exact ⟨s,rfl,by omega,hO⟩
set_option maxHeartbeats 4000000 in
theorem Zmf (v:Value) (l:List Int) (fp:List Nat) (w:World) (h:Rd w v l fp) (hl:l.length<=1000) :
  Calls Tryz.prog 249 #[v] w fun e w'=>∃ s,e = .returned (.string s)/\s.size<=1010 * l.length/\Only [] w w':=by
 obtain ⟨i0,hi,hz0,hz1,hz2⟩:=info_parts Tryz.infoStr
 obtain ⟨a,c,rfl,I⟩:=h.ints
 have hA0:=Acc.made (α:=ByteArray) w w.heap.size 9 rfl (Nat.le_refl _)
 have ho:Only [] w (w.alloc (.cells #[] 9)):=zO.alloc _
 have Hwf:=zH I.wf
 go_enter Tryz.func249,Tryz.ntmps249
 go_wp2
 go_loopw [3,4] (fun o iv wr=>∃ (i:Nat) (L:List ByteArray) (fs:List (List Nat)),i<=l.length/\iv = .int .i64 i/\Acc w.heap.size 9 wr o L fs/\Fresh w.heap.size wr fs.flatten/\Hid (L.length = i/\∀ x∈L,x.size<=1000)/\Only [] w wr)
  (fun _ iv _=>l.length - (intOf iv).toNat)
 case atStart=>exact ⟨0,[],[],Nat.zero_le _,rfl,hA0,Fresh.nil _ _,Lib.hid ⟨by simp,by simp⟩,ho⟩
 case round=>
  obtain ⟨W2,hnew⟩:∃ W,W = wr:=⟨_,rfl⟩
  subst hnew
  clear hA0 ho
  obtain ⟨i,L,fs,hi1,rfl,hA,hF,hL,hO⟩:=hrel
  have hsz:=hO.size
  by_cases hgo:i < l.length
  ·have hgoI:(i:Int) < (l.length:Int):=by omega
   have hi00:(0:Int)<=(i:Int):=by omega
   obtain ⟨b,off,rfl,-,hc0⟩:=I.at_ i hgo
   have hc:=hO.cell (by simp) hc0
   have hwf:=Hwf.out l[i] (List.getElem_mem hgo)
   have hlen:L.length + 1<=1073741824:=by have:=hL.out.1;omega
   obtain ⟨x,hxe⟩:∃ x,x = l[i]:=⟨_,rfl⟩
   rw [<- hxe] at hc hwf
   have Hwx:=zH hwf
   obtain ⟨t,hte⟩:∃ t,t = bA (Lib.itoa x):=⟨_,rfl⟩
   have hts:t.size<=21:=by rw [hte];exact Zsa x hwf
   have HcF:=zH (fun (W:World)=>Zoj x hwf W)
   rw [<- hte] at HcF
   clear hxe hc0 hwf hte
   go_wp2_with (first
    | (go_at_call 253;(with_reducible refine (HcF.out W2).mono ?_);rintro e w3 ⟨rfl,t3⟩;have k3:=hO.trans t3;have hA3:=hA.keep t3;have hF3:=hF.keep t3;have hsz3:=k3.size)
    | (at_builtin;refine Zah (α:=ByteArray) rfl _ _ 230 rfl w.heap.size 9 i0 _ 16 Tryz.underlying230 hi hz0 hz1 hz2 rfl (by decide) (by decide) w3 _ L fs rfl hA3 hF3 (zO.alloc _) hsz3 w3.heap.size 1 [.string t] t [] rfl (lit_src w3 [_] _ rfl) (by intro u hu;simp at hu;subst hu;rfl) (str_rd _ (by unfold maxLen;omega)) (Fresh.nil _ _) hlen w (k3.alloc _) (Nat.le_refl _) ?_;intro v4 w4 hA4 hF4 hK4 _)
    | fail)
   go_roundw
   case rel=>exact ⟨i + 1,_,_,by omega,by go_num,hA4,hF4,Lib.hid ⟨by rw [List.length_append,List.length_singleton,hL.out.1],fun y hy=>by
    rcases List.mem_append.1 hy with h | h
    ·exact hL.out.2 y h
    ·rw [List.mem_singleton.1 h];omega⟩,hK4⟩
   case measure=>simp [intOf];omega
  ·have hge:¬ (i:Int) < (l.length:Int):=by omega
   obtain ⟨a1,c1,rfl⟩:=hA.form
   have hLl:L.length<=1000:=by have:=hL.out.1;omega
   have HL1:=zH hL.out.1
   have hR:=hA.rd (by decide)
   have Hj:=zH (Zqc _ L _ ⟨#[32]⟩ W2 hR (by omega) (by decide) hL.out.2)
   clear hR
   go_wp2_with (first
    | (go_at_call 254;(with_reducible refine (Hj.out).mono ?_);rintro e w3 ⟨s,rfl,z3,t3⟩)
    | fail)
   go_ret
   exact ⟨s,rfl,by rw [<- show L.length = l.length by have:=HL1.out;omega];exact z3,hO.trans t3⟩
set_option maxHeartbeats 4000000 in
theorem Zls (v:Value) (p:List Int) (fp:List Nat) (w:World) (h:Rd w v p fp) :
  Calls Tryz.prog 248 #[v] w fun e w'=>∃ v' L f,e = .returned v'/\Rd w' v' (L:List (List Int)) f/\L.length<=20/\(∀ y∈L,y.length<=20)/\Only [] w w':=by
 obtain ⟨i0,hi,hz0,hz1,hz2⟩:=info_parts Tryz.info22
 have hA0:=Acc.made (α:=List Int) w w.heap.size 27 rfl (Nat.le_refl _)
 have ho:Only [] w (w.alloc (.cells #[] 27)):=zO.alloc _
 rcases hq:permB p
 ·have Hq:=zH hq
  clear hq
  go_enter Tryz.func248,Tryz.ntmps248
  go_wp2_with (first
   | (go_at_call 140;(with_reducible refine (Zbe v p fp _ (zK h ho)).mono ?_);rintro e w1 ⟨he,t1⟩;rw [Hq.out] at he;subst he;have t1:=t1.only [])
   | fail)
  go_ret
  exact ⟨_,[],_,rfl,(hA0.keep t1).rd (by decide),by simp,by simp,ho.trans t1⟩
 ·obtain ⟨⟨l1,l20⟩,hP⟩:=Zch.1 hq
  have hpn:PM.PN p.length p:=⟨rfl,hP⟩
  have Hq:=zH hq
  have HC:=zH (fun (W:World) (hr:Rd W v p fp)=>Zox p.length v p fp W hr hpn (by omega))
  have hcc:=PM.Zku p p.length
  have hcl:∀ y∈PM.cycs p p.length,y.length<=20:=by
   intro y hy
   unfold PM.cycs at hy
   obtain ⟨x,hx,rfl⟩:=List.mem_map.1 hy
   obtain ⟨⟨x0,x1⟩,-⟩:=PM.mem_mns.1 hx
   rw [PM.cyl_len]
   have:=(PM.per_ok hpn x0 x1).2.1
   omega
  obtain ⟨LL,hLL⟩:∃ LL,LL = PM.cycs p p.length:=⟨_,rfl⟩
  rw [<- hLL] at hcc hcl HC
  have Hcl:=zH hcl
  clear hq hP hpn hcl hLL
  go_enter Tryz.func248,Tryz.ntmps248
  go_wp2_with (first
   | (go_at_call 140;(with_reducible refine (Zbe v p fp _ (zK h ho)).mono ?_);rintro e w1 ⟨he,t1⟩;rw [Hq.out] at he;subst he;have t1:=t1.only [])
   | (go_at_call 252;(with_reducible refine (HC.out w1 (zK h (ho.trans t1))).mono ?_);rintro e w2 ⟨v2,f2,rfl,r2,F2,t2⟩;obtain ⟨A,C,ob,fps,rfl,hfe,S⟩:=id r2.open_)
   | fail)
  have hb:=S.bound
  have k2:=(ho.trans t1).trans t2
  have hs1:w.heap.size + 1<=w1.heap.size:=by have:=t1.size;simp at this;omega
  have hap0:∀ b∈f2,(Value.slice (some ⟨w.heap.size,0,none⟩) 0 0).ownBlock ≠ some b:=fun b hb he=>by
   have:=F2.ge b hb
   have e:w.heap.size = b:=by simpa [Value.ownBlock] using he
   omega
  have A2:=(hA0.keep t1).keep t2
  have Hfe:=zH hfe
  have hf2:=zH F2.lt
  have L20:LL.length<=20:=by omega
  clear hA0 hfe F2 hcc
  go_loopw [3,5] (fun o iv wr=>∃ (i:Nat) (L:List (List Int)) (fs:List (List Nat)),i<=LL.length/\iv = .int .i64 i/\Acc w.heap.size 27 wr o L fs/\Hid (L.length<=i/\(∀ y∈L,y.length<=20)/\∀ b∈f2,o.ownBlock ≠ some b)/\Rd wr (.slice A LL.length C) LL f2/\(∀ b∈f2,b < wr.heap.size)/\Only [] w wr)
   (fun _ iv _=>LL.length - (intOf iv).toNat)
  case atStart=>exact ⟨0,[],[],Nat.zero_le _,rfl,A2,Lib.hid ⟨by simp,by simp,hap0⟩,r2,hf2.out,k2⟩
  case round=>
   obtain ⟨W2,hnew⟩:∃ W,W = wr:=⟨_,rfl⟩
   subst hnew
   clear A2 hap0 k2 r2 S hf2
   obtain ⟨i,L,fs,hi1,rfl,hA,hL,hr,hfl,hO⟩:=hrel
   have hsz:=hO.size
   obtain ⟨A',C',ob',fps',e',hfe,S⟩:=id hr.open_
   injection e' with e1 _ e2
   subst e1
   subst e2
   have Hfe:=zH hfe
   clear hfe
   by_cases hgo:i < LL.length
   ·have hgoI:(i:Int) < (LL.length:Int):=by omega
    have hi00:(0:Int)<=(i:Int):=by omega
    obtain ⟨b,off,u,rfl,hob,hc,hu⟩:=S.atRow i hgo
    obtain ⟨au,cu,rfl,Iu⟩:=id hu.ints
    have hlb:=Iu.bound
    have hlen:L.length + 1<=1073741824:=by have:=hL.out.1;omega
    have hyl:=Hcl.out LL[i] (List.getElem_mem hgo)
    have hsub:∀ b∈fps'[i]'(by rw [S.nf];exact hgo),b∈f2:=fun b hb=>by rw [Hfe.out];exact List.mem_append_right _ (List.mem_flatten.2 ⟨_,List.getElem_mem _,hb⟩)
    have Hap:=zH (fun b hb=>hL.out.2.2 b (hsub b hb))
    have Hsub:=zH hsub
    obtain ⟨y,hye⟩:∃ y,y = LL[i]:=⟨_,rfl⟩
    rw [<- hye] at hc hu hyl hlb
    clear Iu hye hsub
    by_cases h1:1 < y.length
    ·have h1I:(1:Int) < (y.length:Int):=by omega
     go_wp2_with (first
      | (at_builtin;refine Zec rfl _ _ 24 rfl w.heap.size 27 i0 _ 24 Tryz.underlying24 hi hz0 hz1 hz2 rfl (by decide) (by decide) W2 u3 L fs rfl hA (zO.alloc _) hsz W2.heap.size 1 [.slice au y.length cu] y _ rfl (lit_src W2 [_] _ rfl) (by intro u hu;simp at hu;subst hu;rfl) (zK hu (zO.alloc _)) Hap.out hlen ?_;intro v4 w4 hA4 hO4 hN4)
      | fail)
     have k4:Only [] W2 (W2.alloc (.cells #[.slice au y.length cu] 27)):=zO.alloc _
     have hown:∀ b∈u3.ownBlock.toList,w.heap.size<=b:=fun b hb=>(hA.ownlt b (by simpa using hb)).1
     go_roundw
     case rel=>exact ⟨i + 1,_,_,by omega,by go_num,hA4,Lib.hid ⟨by rw [List.length_append,List.length_singleton];have:=hL.out.1;omega,fun y' hy=>by
      rcases List.mem_append.1 hy with h | h
      ·exact hL.out.2.1 y' h
      ·rw [List.mem_singleton.1 h];exact hyl,fun b hb=>Zga hN4 (hL.out.2.2 b hb) (by have:=hfl b hb;simp;omega)⟩,Rp.only (zK hr k4) hO4 (fun b hb hm=>hL.out.2.2 b hb (by simpa using hm)),fun b hb=>Nat.lt_of_lt_of_le (Nat.lt_of_lt_of_le (hfl b hb) k4.size) hO4.size,(hO.trans k4).then_ hO4 (fun b hb hl=>by have:=hown b hb;omega)⟩
     case measure=>simp [intOf];omega
    ·have h1I:¬ (1:Int) < (y.length:Int):=by omega
     go_wp2
     go_roundw
     case rel=>exact ⟨i + 1,L,fs,by omega,by go_num,hA,Lib.hid ⟨by have:=hL.out.1;omega,hL.out.2⟩,hr,hfl,hO⟩
     case measure=>simp [intOf];omega
   ·have hge:¬ (i:Int) < (LL.length:Int):=by omega
    go_wp2
    go_ret
    exact ⟨_,rfl,L,⟨_,hA.rd (by decide)⟩,by have:=hL.out.1;omega,hL.out.2.1,hO⟩
set_option maxHeartbeats 4000000 in
theorem Zff (v:Value) (p:List Int) (fp:List Nat) (w:World) (h:Rd w v p fp) :
  Calls Tryz.prog 244 #[v] w fun e w'=>∃ s,e = .returned (.string s)/\s.size<=500000/\Only [] w w':=by
 rcases hq:permB p
 ·have Hq:=zH hq
  clear hq
  go_enter Tryz.func244,Tryz.ntmps244
  go_wp2_with (first
   | (go_at_call 140;(with_reducible refine (Zbe v p fp _ h).mono ?_);rintro e w1 ⟨he,t1⟩;rw [Hq.out] at he;subst he;have t1:=t1.only [])
   | fail)
  go_ret
  exact ⟨_,rfl,by decide,t1⟩
 ·have Hq:=zH hq
  clear hq
  go_enter Tryz.func244,Tryz.ntmps244
  go_wp2_with (first
   | (go_at_call 140;(with_reducible refine (Zbe v p fp _ h).mono ?_);rintro e w1 ⟨he,t1⟩;rw [Hq.out] at he;subst he;have t1:=t1.only [])
   | (go_at_call 248;(with_reducible refine (Zls v p fp w1 (zK h t1)).mono ?_);rintro e w2 ⟨v2,LL,f2,rfl,r2,l20,hcl,t2⟩;obtain ⟨A,C,ob,fps,rfl,-,S⟩:=id r2.open_;have Hcl:=zH hcl;clear hcl)
   | fail)
  have hb:=S.bound
  have k2:=t1.trans t2
  go_loopw [4,5] (fun sv iv wr=>∃ (i:Nat) (s:ByteArray),i<=LL.length/\iv = .int .i64 i/\sv = .string s/\s.size<=20202 * i/\Only [] w2 wr)
   (fun _ iv _=>LL.length - (intOf iv).toNat)
  case atStart=>exact ⟨0,_,Nat.zero_le _,rfl,rfl,by decide,Only.refl _ _⟩
  case round=>
   obtain ⟨W2,hnew⟩:∃ W,W = wr:=⟨_,rfl⟩
   subst hnew
   obtain ⟨i,s,hi1,rfl,rfl,hsz,hO⟩:=hrel
   by_cases hgo:i < LL.length
   ·have hgoI:(i:Int) < (LL.length:Int):=by omega
    have hi00:(0:Int)<=(i:Int):=by omega
    obtain ⟨b,off,u,rfl,hob,hc0,hu⟩:=S.atRow i hgo
    have hc:=hO.cell (by simp) hc0
    obtain ⟨au,cu,rfl,Iu⟩:=id hu.ints
    have hyl:=Hcl.out LL[i] (List.getElem_mem hgo)
    obtain ⟨y,hye⟩:∃ y,y = LL[i]:=⟨_,rfl⟩
    rw [<- hye] at hc hu hyl
    clear Iu hye hc0
    go_wp2_with (first
     | (go_at_call 249;(with_reducible refine (Zmf _ y _ W2 (zK hu hO) (by omega)).mono ?_);rintro e w3 ⟨t,rfl,z3,t3⟩;have q1:¬ 9223372036854775807 < s.size + 1:=(by omega);have q2:¬ 9223372036854775807 < (s ++ (⟨#[40]⟩:ByteArray)).size + t.size:=(by rw [ByteArray.size_append];have:(⟨#[40]⟩:ByteArray).size = 1:=rfl;omega);have q3:¬ 9223372036854775807 < s.size + 1 + t.size:=(by omega);have q4:¬ 9223372036854775807 < ((s ++ (⟨#[40]⟩:ByteArray)) ++ t).size + 1:=(by rw [ByteArray.size_append,ByteArray.size_append];have:(⟨#[40]⟩:ByteArray).size = 1:=rfl;omega);have q5:¬ 9223372036854775807 < s.size + 1 + t.size + 1:=(by omega))
     | fail)
    go_roundw
    case rel=>exact ⟨i + 1,_,by omega,by go_num,rfl,by rw [ByteArray.size_append,ByteArray.size_append,ByteArray.size_append];have e1:(⟨#[40]⟩:ByteArray).size = 1:=rfl;have e2:(⟨#[41]⟩:ByteArray).size = 1:=rfl;omega,hO.trans t3⟩
    case measure=>simp [intOf];omega
   ·have hge:¬ (i:Int) < (LL.length:Int):=by omega
    go_wp2
    all_goals go_ret
    all_goals exact ⟨_,rfl,by first | decide | omega,k2.trans hO⟩
def PCy (eI:TypeId) (w:World) (e:Ending) (w':World):Prop:=∃ (v:Value) (l:List Int) (b:Bool),e = .returned (.tuple #[v,.bool b])/\AccI w.heap.size eI w' v l/\l.length<=20/\Only [] w w'
theorem PCy.mk {eI:TypeId} {w w':World} {v:Value} {l:List Int} {b:Bool} (h:AccI w.heap.size eI w' v l) (hl:l.length<=20) (k:Only [] w w'):PCy eI w (.returned (.tuple #[v,.bool b])) w':=⟨v,l,b,rfl,h,hl,k⟩
set_option maxHeartbeats 8000000 in
theorem Zlb (n:Nat) (s:ByteArray) (w:World) (hn:1<=n/\n<=20) (hs:2<=s.size/\s.size<=100) :
  Calls Tryz.prog 233 #[.int .i64 n,.string s] w (PCy 2 w):=by
 obtain ⟨n1,n20⟩:=hn
 obtain ⟨s2,s100⟩:=hs
 have hr:inR (n:Int) 1 20 = true:=by rw [inR_iff];omega
 have Hr:=zH hr
 clear hr
 have q1:¬ (s.size:Int) < 2:=by omega
 have q2:¬ (200:Int) < (s.size:Int):=by omega
 have q3:(0:Int) < (s.size:Int):=by omega
 have q4:IntKind.i64.wrap ((s.size:Int) - 1) = (s.size:Int) - 1:=by rw [IntKind.wrap_i64];omega
 have q5:(0:Int)<=(s.size:Int) - 1:=by omega
 have q6:(s.size:Int) - 1 < (s.size:Int):=by omega
 have q7:(1:Int)<=(s.size:Int) - 1:=by omega
 have q8:(s.size:Int) - 1<=(s.size:Int):=by omega
 have q9:((s.size:Int) - 1).toNat = s.size - 1:=by omega
 have hk:s.size - 1 < s.size:=by omega
 have hB0:∀ W:World,Only [] w W->PCy 2 w (.returned (.tuple #[.slice (some ⟨W.heap.size,0,none⟩) 0 0,.bool false])) (W.alloc (.cells #[] 2)):=fun W hW=>PCy.mk (AccI.made W w.heap.size 2 rfl hW.size) (by simp) (hW.alloc _)
 have HB:=zH hB0
 clear hB0
 obtain ⟨tx,htx⟩:∃ tx,tx = s.extract 1 (s.size - 1):=⟨_,rfl⟩
 have htl:tx.size<=100:=by rw [htx];have:=Zbh s 1 (s.size - 1);omega
 have Htx:=zH htx
 clear htx
 go_enter Tryz.func233,Tryz.ntmps233
 go_wp2_with (first
  | (go_at_call 53;(with_reducible refine (Zaj (n:Int) 1 20 w).mono ?_);rintro e w ⟨he,rfl⟩;rw [Hr.out] at he;subst he)
  | (go_at_call 74;(with_reducible refine (Zfj n w (by omega)).mono ?_);rintro e w2 ⟨v2,rfl,A2,t2⟩)
  | (go_at_call 242;(with_reducible refine (Zhu _ 41 w2 (by exact Nat.le_trans (Zbh _ _ _) (by omega))).mono ?_);rintro e w3 ⟨v3,L,fs3,rfl,A3,F3,l1,l2,t3⟩;obtain ⟨a3,c3,ob3,fps3,rfl,hob3,S3⟩:=(A3.rd (by decide)).open_)
  | fail)
 ·exact bodyPost_ret (v:=.tuple #[.slice (some ⟨w.heap.size,0,none⟩) 0 0,.bool false]) (by simp [results,Tryz.results233,go_sem]) rfl (HB.out w zO)
 rotate_left
 ·exact bodyPost_ret (v:=.tuple #[.slice (some ⟨w.heap.size,0,none⟩) 0 0,.bool false]) (by simp [results,Tryz.results233,go_sem]) rfl (HB.out w zO)
 have hb3:=S3.bound
 have hex:=Zbh s 1 (s.size - 1)
 have hL100:L.length<=101:=by omega
 have hx100:∀ x∈L,x.size<=100:=fun x hx=>Nat.le_trans (l2 x hx) (by omega)
 have Hx:=zH hx100
 have h3lt:∀ q,(Value.slice a3 L.length c3).ownBlock = some q->w2.heap.size<=q:=fun q hq=>(A3.ownlt q hq).1
 have hplt:∀ q,v2.ownBlock = some q->q < w2.heap.size:=fun q hq=>(A2.ownlt q hq).2
 have hge2:∀ q,v2.ownBlock = some q->w.heap.size<=q:=fun q hq=>(A2.ownlt q hq).1
 have hdis:∀ k (hk:k < L.length),∃ b off,a3 = some ⟨b,off,none⟩/\w3.cell? ⟨b,off + k,none⟩ = some (.string L[k])/\b ∉ v2.ownBlock.toList:=fun k hk=>by
  obtain ⟨b,off,e1,e2⟩:=S3.strAt k hk
  refine ⟨b,off,e1,e2,fun hm=>?_⟩
  have h1:=hplt b (by simpa using hm)
  have h2:=h3lt b (by rw [e1];rfl)
  omega
 have Hdis:=zH hdis
 have Hge2:=zH hge2
 have A2':=A2.keep t3
 have hpl:(PM.pts n).length = n:=PM.pts_len n
 have k3:=t2.trans t3
 clear hdis hplt h3lt hge2 hx100 l1 l2 hob3 S3 A3 F3 hex t2 t3 A2
 go_loopw [8] (fun iv wr=>∃ (j:Nat) (q:List Int),j<=L.length/\iv = .int .i64 j/\AccI w.heap.size 2 wr v2 q/\q.length = n/\Only v2.ownBlock.toList w3 wr)
  (fun iv _=>L.length - (intOf iv).toNat)
 case atStart=>exact ⟨0,_,Nat.zero_le _,rfl,A2',hpl,Only.refl _ _⟩
 case round=>
  obtain ⟨W4,hnew⟩:∃ W,W = wr:=⟨_,rfl⟩
  subst hnew
  clear A2' hpl
  obtain ⟨j,q,hj,rfl,hA,hql,hO⟩:=hrel
  have hOw:Only [] w W4:=k3.then_ hO (fun b hb hl=>by have:=Hge2.out b (by simpa using hb);omega)
  have HBj:=HB.out
  have Hql:=zH hql
  clear hql
  by_cases hlt:j < L.length
  ·have hltI:(j:Int) < (L.length:Int):=by omega
   have hj00:(0:Int)<=(j:Int):=by omega
   obtain ⟨b,off,rfl,hc0,hnb⟩:=Hdis.out j hlt
   have hc:=hO.cell hnb hc0
   have hxl:=Hx.out L[j] (List.getElem_mem hlt)
   obtain ⟨x,hxe⟩:∃ x,x = L[j]:=⟨_,rfl⟩
   rw [<- hxe] at hc hxl
   clear hxe hc0
   have hF:=Zff v2 q _ W4 hA.rd
   have HcP:=zH (fun (y:ByteArray) (hy:y.size<=100)=>Zmq w.heap.size v2 q y W4 hA (by rw [Hql.out];exact n20) (by omega))
   have hF':=zH hF
   have HA:=zH hA
   by_cases hj1:0 < j
   ·have hj1I:(0:Int) < (j:Int):=by omega
    rcases hx0:((x.size:Int) == 0)
    ·have hx1:0 < x.size:=by
      rcases Nat.eq_zero_or_pos x.size with e | e
      ·rw [e] at hx0;simp at hx0
      ·exact e
     have hx1I:(0:Int) < (x.size:Int):=by omega
     have hx2I:(1:Int)<=(x.size:Int):=by omega
     go_wp2_with (first
      | (go_at_call 244;(with_reducible refine (hF).mono ?_);rintro e w5 ⟨t,rfl,z5,t5⟩)
      | (go_at_call 243;(with_reducible refine (HcP.out _ (by first | omega | exact Nat.le_trans (Zbh _ _ _) (by omega))).mono ?_);rintro e w5 ⟨b5,q',rfl,A5,l5,t5⟩)
      | fail)
     all_goals first
      | (with_reducible refine ⟨⟨j + 1,q',by omega,by go_num,A5,l5.trans Hql.out,hO.trans t5⟩,?_⟩;simp [intOf];omega)
      | exact bodyPost_ret (v:=.tuple #[v2,.bool true]) (by simp [results,Tryz.results233,go_sem]) rfl (PCy.mk (hA.keep t5) (by rw [Hql.out];exact n20) (hOw.trans t5))
      | exact bodyPost_ret (v:=.tuple #[.slice (some ⟨w5.heap.size,0,none⟩) 0 0,.bool false]) (by simp [results,Tryz.results233,go_sem]) rfl (HBj w5 (hOw.trans t5))
      | exact bodyPost_ret (v:=.tuple #[.slice (some ⟨w5.heap.size,0,none⟩) 0 0,.bool false]) (by simp [results,Tryz.results233,go_sem]) rfl (HBj w5 (hOw.then_ t5 (fun b hb hl=>by have:=Hge2.out b (by simpa using hb);omega)))
      | exact bodyPost_ret (v:=.tuple #[.slice (some ⟨W4.heap.size,0,none⟩) 0 0,.bool false]) (by simp [results,Tryz.results233,go_sem]) rfl (HBj W4 hOw)
    ·go_wp2_with (first
      | (go_at_call 244;(with_reducible refine (hF).mono ?_);rintro e w5 ⟨t,rfl,z5,t5⟩)
      | (go_at_call 243;(with_reducible refine (HcP.out _ (by first | omega | exact Nat.le_trans (Zbh _ _ _) (by omega))).mono ?_);rintro e w5 ⟨b5,q',rfl,A5,l5,t5⟩)
      | fail)
     all_goals first
      | (with_reducible refine ⟨⟨j + 1,q',by omega,by go_num,A5,l5.trans Hql.out,hO.trans t5⟩,?_⟩;simp [intOf];omega)
      | exact bodyPost_ret (v:=.tuple #[v2,.bool true]) (by simp [results,Tryz.results233,go_sem]) rfl (PCy.mk (hA.keep t5) (by rw [Hql.out];exact n20) (hOw.trans t5))
      | exact bodyPost_ret (v:=.tuple #[.slice (some ⟨w5.heap.size,0,none⟩) 0 0,.bool false]) (by simp [results,Tryz.results233,go_sem]) rfl (HBj w5 (hOw.trans t5))
      | exact bodyPost_ret (v:=.tuple #[.slice (some ⟨w5.heap.size,0,none⟩) 0 0,.bool false]) (by simp [results,Tryz.results233,go_sem]) rfl (HBj w5 (hOw.then_ t5 (fun b hb hl=>by have:=Hge2.out b (by simpa using hb);omega)))
      | exact bodyPost_ret (v:=.tuple #[.slice (some ⟨W4.heap.size,0,none⟩) 0 0,.bool false]) (by simp [results,Tryz.results233,go_sem]) rfl (HBj W4 hOw)
   ·have hj1I:¬ (0:Int) < (j:Int):=by omega
    go_wp2_with (first
     | (go_at_call 244;(with_reducible refine (hF).mono ?_);rintro e w5 ⟨t,rfl,z5,t5⟩)
     | (go_at_call 243;(with_reducible refine (HcP.out _ (by first | omega | exact Nat.le_trans (Zbh _ _ _) (by omega))).mono ?_);rintro e w5 ⟨b5,q',rfl,A5,l5,t5⟩)
     | fail)
    all_goals first
     | (with_reducible refine ⟨⟨j + 1,q',by omega,by go_num,A5,l5.trans Hql.out,hO.trans t5⟩,?_⟩;simp [intOf];omega)
     | exact bodyPost_ret (v:=.tuple #[v2,.bool true]) (by simp [results,Tryz.results233,go_sem]) rfl (PCy.mk (hA.keep t5) (by rw [Hql.out];exact n20) (hOw.trans t5))
     | exact bodyPost_ret (v:=.tuple #[.slice (some ⟨w5.heap.size,0,none⟩) 0 0,.bool false]) (by simp [results,Tryz.results233,go_sem]) rfl (HBj w5 (hOw.trans t5))
     | exact bodyPost_ret (v:=.tuple #[.slice (some ⟨w5.heap.size,0,none⟩) 0 0,.bool false]) (by simp [results,Tryz.results233,go_sem]) rfl (HBj w5 (hOw.then_ t5 (fun b hb hl=>by have:=Hge2.out b (by simpa using hb);omega)))
     | exact bodyPost_ret (v:=.tuple #[.slice (some ⟨W4.heap.size,0,none⟩) 0 0,.bool false]) (by simp [results,Tryz.results233,go_sem]) rfl (HBj W4 hOw)
  ·have hge:¬ (j:Int) < (L.length:Int):=by omega
   have hF:=Zff v2 q _ W4 hA.rd
   go_wp2_with (first
    | (go_at_call 244;(with_reducible refine (hF).mono ?_);rintro e w5 ⟨t,rfl,z5,t5⟩)
    | fail)
   all_goals first
    | (with_reducible refine ⟨⟨j + 1,q',by omega,by go_num,A5,l5.trans Hql.out,hO.trans t5⟩,?_⟩;simp [intOf];omega)
    | exact bodyPost_ret (v:=.tuple #[v2,.bool true]) (by simp [results,Tryz.results233,go_sem]) rfl (PCy.mk (hA.keep t5) (by rw [Hql.out];exact n20) (hOw.trans t5))
    | exact bodyPost_ret (v:=.tuple #[.slice (some ⟨w5.heap.size,0,none⟩) 0 0,.bool false]) (by simp [results,Tryz.results233,go_sem]) rfl (HBj w5 (hOw.trans t5))
    | exact bodyPost_ret (v:=.tuple #[.slice (some ⟨w5.heap.size,0,none⟩) 0 0,.bool false]) (by simp [results,Tryz.results233,go_sem]) rfl (HBj w5 (hOw.then_ t5 (fun b hb hl=>by have:=Hge2.out b (by simpa using hb);omega)))
    | exact bodyPost_ret (v:=.tuple #[.slice (some ⟨W4.heap.size,0,none⟩) 0 0,.bool false]) (by simp [results,Tryz.results233,go_sem]) rfl (HBj W4 hOw)
def PzO (eS:TypeId) (B:Nat) (w:World) (n:Int) (nm:ByteArray) (vm:Value):Prop:=
 ∃ (gs:List (List Int)) (fs:List (List Nat)),Acc B eS w vm gs fs/\Fresh B w fs.flatten/\(0<=n/\n<=20)/\nm.size<=8/\gs.length<=8/\(∀ y:List Int,y∈gs->y.length<=30)
theorem PzO.mono {eS:TypeId} {B B':Nat} {w:World} {n:Int} {nm:ByteArray} {vm:Value} (h:PzO eS B w n nm vm) (hB:B'<=B):PzO eS B' w n nm vm:=by
 obtain ⟨gs,fs,a,b,c⟩:=h
 exact ⟨gs,fs,a.low3 hB,b.mono hB,c⟩
theorem PzO.only {eS:TypeId} {B:Nat} {w w':World} {n:Int} {nm:ByteArray} {vm:Value} {fp:List Nat} (h:PzO eS B w n nm vm) (ho:Only fp w w') (hd:∀ b∈fp,b < B\/w.heap.size<=b):PzO eS B w' n nm vm:=by
 obtain ⟨gs,fs,a,b,c⟩:=h
 have hf:∀ q∈fs.flatten,q ∉ fp:=fun q hq hm=>by
  have h1:=b.ge q hq
  have h2:=b.lt q hq
  rcases hd q hm with h3 | h3 <;> omega
 have hv:∀ q,vm.ownBlock = some q->q ∉ fp:=fun q hq hm=>by
  obtain ⟨h1,h2⟩:=a.ownlt q hq
  rcases hd q hm with h3 | h3 <;> omega
 exact ⟨gs,fs,a.only ho hf hv,b.only ho hf,c⟩
theorem PzO.keep {eS:TypeId} {B:Nat} {w w':World} {n:Int} {nm:ByteArray} {vm:Value} (h:PzO eS B w n nm vm) (ho:Only [] w w'):PzO eS B w' n nm vm:=h.only ho (by simp)
def PzE (eS:TypeId) (w:World) (e:Ending) (w':World):Prop:=∃ (n:Int) (nm:ByteArray) (vm:Value),e = .returned (.agg #[.int .i64 n,.string nm,vm])/\PzO eS w.heap.size w' n nm vm/\Only [] w w'
def PzE2 (eS:TypeId) (w:World) (e:Ending) (w':World):Prop:=∃ (n:Int) (nm:ByteArray) (vm:Value) (b:Bool),e = .returned (.tuple #[.agg #[.int .i64 n,.string nm,vm],.bool b])/\PzO eS w.heap.size w' n nm vm/\Only [] w w'
theorem PzE.mk {eS:TypeId} {w w':World} {n:Int} {nm:ByteArray} {vm:Value} (h:PzO eS w.heap.size w' n nm vm) (k:Only [] w w'):PzE eS w (.returned (.agg #[.int .i64 n,.string nm,vm])) w':=⟨n,nm,vm,rfl,h,k⟩
theorem PzE2.mk {eS:TypeId} {w w':World} {n:Int} {nm:ByteArray} {vm:Value} {b:Bool} (h:PzO eS w.heap.size w' n nm vm) (k:Only [] w w'):PzE2 eS w (.returned (.tuple #[.agg #[.int .i64 n,.string nm,vm],.bool b])) w':=⟨n,nm,vm,b,rfl,h,k⟩
theorem PzO.form {eS:TypeId} {B:Nat} {w:World} {n:Int} {nm:ByteArray} {vm:Value} (h:PzO eS B w n nm vm):∃ a k c,vm = .slice a k c:=by
 obtain ⟨gs,fs,a,-⟩:=h
 obtain ⟨a,c,e⟩:=a.form
 exact ⟨a,_,c,e⟩
theorem Zth (w:World) (L:List ByteArray) (e:TypeId) (h:∀ x∈L,x.size<=maxLen) (hl:L.length<=1000):Rd (w.alloc (.cells (L.map Value.string).toArray e)) (.slice (some ⟨w.heap.size,0,none⟩) L.length L.length) L [w.heap.size]:=by
 have S:SeqA (w.alloc (.cells (L.map Value.string).toArray e)) (some ⟨w.heap.size,0,none⟩) L.length L [w.heap.size] (List.replicate L.length []):=by
  refine ⟨Nat.le_refl _,by unfold maxLen;omega,by simp,fun k hk=>?_,fun b hb=>by simp at hb;simp;omega,by simp⟩
  refine ⟨w.heap.size,0,[.string L[k]],rfl,rfl,fun j u hu=>?_,rfl,h _ (List.getElem_mem hk),by simp⟩
  cases j with
  | zero=>
   simp at hu
   subst hu
   have:=lit_src w (L.map Value.string) e rfl k (.string L[k]) (by simp [hk])
   have e2:Rp.size ByteArray = 1:=rfl
   rw [e2,Nat.mul_one,Nat.add_zero,Nat.zero_add]
   exact this
  | succ j=>simp at hu
 have:=S.rd
 rwa [flatten_nil,List.append_nil] at this
set_option maxHeartbeats 8000000 in
theorem Zcb (n:Nat) (v:Value) (L:List ByteArray) (fp:List Nat) (w:World) (hn:1<=n/\n<=20) (h:Rd w v L fp) (hL:L.length<=8) (hs:∀ x∈L,2<=x.size/\x.size<=100) :
  Calls Tryz.prog 204 #[.int .i64 n,v] w (PzE 27 w):=by
 obtain ⟨i0,hi,hz0,hz1,hz2⟩:=info_parts Tryz.info22
 obtain ⟨a,c,ob,fps,rfl,-,S⟩:=h.open_
 have hb:=S.bound
 have Hs:=zH hs
 obtain ⟨n1,n20⟩:=hn
 clear hs
 have hLI:(L.length:Int)<=8:=by omega
 have hL0:(0:Int)<=(L.length:Int):=by omega
 obtain ⟨nm,hnm⟩:∃ nm,nm = (⟨#[65,66,67,68,69,70,71,72]⟩:ByteArray).extract 0 L.length:=⟨_,rfl⟩
 have hnl:nm.size<=8:=by rw [hnm];exact Zbh _ _ _
 have Hnm:=zH hnm
 clear hnm
 go_enter Tryz.func204,Tryz.ntmps204
 go_wp2
 rw [<- Hnm.out]
 have hB1:=Blk.new (w.alloc (.cells #[.int .i64 0,.string ⟨#[]⟩,.slice none 0 0] 26)) [.int .i64 n,.string nm,.slice none 0 0] 26
 have hB0:=(Blk.new w [.int .i64 0,.string ⟨#[]⟩,.slice none 0 0] 26).keep (zO.alloc (.cells #[.int .i64 n,.string nm,.slice none 0 0] 26))
 have hsz:(w.alloc (.cells #[.int .i64 0,.string ⟨#[]⟩,.slice none 0 0] 26)).heap.size = w.heap.size + 1:=by simp
 rw [hsz] at hB1
 clear hsz
 have hk:Only [] w ((w.alloc (.cells #[.int .i64 0,.string ⟨#[]⟩,.slice none 0 0] 26)).alloc (.cells #[.int .i64 n,.string nm,.slice none 0 0] 26)):=(zO.alloc _).alloc _
 have hA0:=Acc.nil (α:=List Int) ((w.alloc (.cells #[.int .i64 0,.string ⟨#[]⟩,.slice none 0 0] 26)).alloc (.cells #[.int .i64 n,.string nm,.slice none 0 0] 26)) (w.heap.size + 2) 27
 have hsz02:w.heap.size + 2<=((w.alloc (.cells #[.int .i64 0,.string ⟨#[]⟩,.slice none 0 0] 26)).alloc (.cells #[.int .i64 n,.string nm,.slice none 0 0] 26)).heap.size:=by simp
 go_loopw [6] (fun iv wr=>∃ (i:Nat) (vm:Value) (gs:List (List Int)) (fs:List (List Nat)),i<=L.length/\iv = .int .i64 i/\Blk wr w.heap.size [.int .i64 0,.string ⟨#[]⟩,.slice none 0 0]/\Blk wr (w.heap.size + 1) [.int .i64 n,.string nm,vm]/\Acc (w.heap.size + 2) 27 wr vm gs fs/\Fresh (w.heap.size + 2) wr fs.flatten/\gs.length<=i/\(∀ y:List Int,y∈gs->y.length<=30)/\w.heap.size + 2<=wr.heap.size/\Only [] w wr)
  (fun iv _=>L.length - (intOf iv).toNat)
 case atStart=>exact ⟨0,_,[],[],Nat.zero_le _,rfl,hB0,hB1,hA0,Fresh.nil _ _,by simp,by simp,hsz02,hk⟩
 case round=>
  obtain ⟨W2,hnew⟩:∃ W,W = wr:=⟨_,rfl⟩
  subst hnew
  clear hB0 hB1 hA0 hk hsz02
  obtain ⟨i,vm,gs,fs,hi1,rfl,hB0,hB1,hA,hF,hgl,hg30,hsz2,hO⟩:=hrel
  have Hg30:=zH hg30
  clear hg30
  by_cases hgo:i < L.length
  ·have hgoI:(i:Int) < (L.length:Int):=by omega
   have hi00:(0:Int)<=(i:Int):=by omega
   obtain ⟨b,off,rfl,hc0⟩:=S.strAt i hgo
   have hc:=hO.cell (by simp) hc0
   have hx:=Hs.out L[i] (List.getElem_mem hgo)
   obtain ⟨x,hxe⟩:∃ x,x = L[i]:=⟨_,rfl⟩
   rw [<- hxe] at hc hx
   clear hxe hc0
   have hlen:gs.length + 1<=1073741824:=by omega
   have Hno0:=zH (show w.heap.size ∉ vm.ownBlock.toList from fun hm=>by have:=(hA.ownlt _ (by simpa using hm)).1;omega)
   have Hno1:=zH (show w.heap.size + 1 ∉ vm.ownBlock.toList from fun hm=>by have:=(hA.ownlt _ (by simpa using hm)).1;omega)
   go_wp2_with (first
    | (go_at_call 233;(with_reducible refine (Zlb n x W2 ⟨n1,n20⟩ hx).mono ?_);rintro e w5 ⟨v5,q,b5,rfl,A5,q20,t5⟩;obtain ⟨a5,c5,rfl⟩:=A5.form;have B15:=hB1.keep t5;have B05:=hB0.keep t5;obtain ⟨y0,y1,y2⟩:=B15.c3;have p2:=B15.frozen 2;have k5:=hO.trans t5;have s5:=t5.size;have hs5:w.heap.size + 2<=w5.heap.size:=(by omega);have F5:=A5.fresh;have R5:=A5.rd;have HA5:=zH A5;clear A5)
    | (at_builtin;go_loud (refine Zah rfl _ _ 24 rfl (w.heap.size + 2) 27 i0 _ 24 Tryz.underlying24 hi hz0 hz1 hz2 rfl (by decide) (by decide) W2 vm gs fs rfl hA hF (t5.alloc _) hsz2 w5.heap.size 1 [.slice a5 q.length c5] q _ rfl (lit_src w5 [.slice a5 q.length c5] _ rfl) (by intro u hu;simp at hu;subst hu;rfl) (zK R5 (zO.alloc _)) (F5.keep (zO.alloc _)) hlen w (k5.alloc _) (by omega) ?_;intro v7 w7 hA7 hF7 hK7 hO7;obtain ⟨a7,c7,rfl⟩:=hA7.form;rw [List.length_append,List.length_singleton] at hA7;have B17:=(B15.keep (zO.alloc _)).only hO7 Hno1.out;have B07:=(B05.keep (zO.alloc _)).only hO7 Hno0.out;have x2:=B17.cell 2 rfl;have px2:=B17.frozen 2;have hs7:=Nat.le_trans hs5 (Nat.le_trans (show w5.heap.size<=(w5.alloc (.cells #[.slice a5 q.length c5] 27)).heap.size by simp) hO7.size)))
    | fail)
   have kst:Only [w.heap.size + 1] w7 (w7.setCell ⟨w.heap.size + 1,2,none⟩ (.slice a7 (gs.length + 1) c7)):=zO.setCell (by simp) _
   have B18:=B17.set 2 (.slice a7 (gs.length + 1) c7)
   simp only [List.set] at B18
   have B08:=B07.only kst (by simp)
   have hA8:=hA7.only kst (fun b hb hm=>by have:=hF7.ge b hb;simp at hm;omega) (fun b hb hm=>by have:=(hA7.ownlt b hb).1;simp at hm;omega)
   have hF8:=hF7.only kst (fun b hb hm=>by have:=hF7.ge b hb;simp at hm;omega)
   go_roundw
   case rel=>exact ⟨i + 1,_,gs ++ [q],_,by omega,by go_num,B08,B18,hA8,hF8,by rw [List.length_append,List.length_singleton];omega,fun y hy=>by
    rcases List.mem_append.1 hy with hy | hy
    ·exact Hg30.out y hy
    ·rw [List.mem_singleton.1 hy];omega,Nat.le_trans hs7 kst.size,hK7.then_ kst (fun b hb hl=>by simp at hb;omega)⟩
   case measure=>simp [intOf];omega
  ·have hge:¬ (i:Int) < (L.length:Int):=by omega
   obtain ⟨am,cm,rfl⟩:=hA.form
   obtain ⟨y0,y1,y2⟩:=hB1.c3
   obtain ⟨g0,g1,g2⟩:=hB0.c3
   obtain ⟨p0,p1,p2⟩:=hB0.f3
   have Yf:=((hB0.set 0 (.int .i64 n)).set 1 (.string nm)).set 2 (.slice am gs.length cm)
   simp only [List.set] at Yf
   obtain ⟨r0,r1,r2⟩:=Yf.c3
   have hP:PzO 27 (w.heap.size + 2) W2 n nm (.slice am gs.length cm):=⟨gs,fs,hA,hF,by omega,hnl,by omega,Hg30.out⟩
   have HP:=zH hP
   clear hP Yf hA hF
   go_wp2
   have kst:Only [w.heap.size] W2 (((W2.setCell ⟨w.heap.size,0,none⟩ (.int .i64 n)).setCell ⟨w.heap.size,1,none⟩ (.string nm)).setCell ⟨w.heap.size,2,none⟩ (.slice am gs.length cm)):=((zO.setCell (by simp) _).setCell (by simp) _).setCell (by simp) _
   exact bodyPost_ret (v:=.agg #[.int .i64 n,.string nm,.slice am gs.length cm]) (by simp [results,Tryz.results204,go_sem,r0,r1,r2]) rfl (PzE.mk ((HP.out.only kst (fun b hb=>by simp at hb;omega)).mono (by omega)) (hO.then_ kst (fun b hb hl=>by simp at hb;omega)))
end Go.Proofs.YthleokaeobdamaaGreat
