/- IsPermutation: the reference's and the program's. -/
import Derived.Test.YthleokaeobdamaaGreatRowTableSolverG1
import Derived.StillTailTactics
namespace Go.Proofs.YthleokaeobdamaaGreat
open Go.RowKit
set_option maxRecDepth 10000
theorem Zbk {P:Program} {f:FuncId} {args:Array Value} {w:World} {n:Nat} {v:Value}
  (h:Calls P f args (w.drewN n) fun e w'=>e = .returned v/\Drew (w.drewN n) w') :
  Calls P f args (w.drewN n) fun e w''=>e = .returned v/\∃ m,w'' = w.drewN m:=
 h.mono fun _ _ ⟨he,m,hm⟩=>⟨he,n + m,by rw [hm,World.drewN_drewN]⟩
theorem IntsA.take {w:World} {a:Option Addr} {cap:Nat} {l:List Int} {fp:List Nat} (h:IntsA w a cap l fp) (j:Nat):IntsA w a cap (l.take j) fp:=by
 refine ⟨Nat.le_trans (by simp;omega) h.len,h.cap,fun x hx=>h.wf x (List.mem_of_mem_take hx),fun k hk=>?_,h.lt,h.one⟩
 have hk':k < l.length:=by simp at hk;omega
 obtain ⟨b,off,e1,e2,e3⟩:=h.at_ k hk'
 exact ⟨b,off,e1,e2,by rw [e3];simp⟩
def permB (l:List Int):Bool:=inR l.length 1 20 && decide (PM.IsP l)
theorem Zch {l:List Int}:permB l = true ↔ (1<=l.length/\l.length<=20)/\PM.IsP l:=by
 simp [permB,inR];omega
theorem Zbr {l:List Int} {j:Nat} (h:j < l.length) {P:Int->Prop} (h1:∀ x∈l.take j,P x) (h2:P l[j]):∀ x∈l.take (j + 1),P x:=by
 rw [Zab l j h]
 intro x hx
 rcases List.mem_append.1 hx with hx | hx
 ·exact h1 x hx
 ·simp at hx;subst hx;exact h2
theorem Zlk {l:List Int} {j:Nat} (h:j < l.length) (h1:(l.take j).Nodup) (h2:l[j] ∉ l.take j):(l.take (j + 1)).Nodup:=by
 rw [Zab l j h]
 exact List.nodup_append.2 ⟨h1,by simp,by intro a ha b hb e;simp at hb;subst hb;subst e;exact h2 ha⟩
theorem Zha {l:List Int} {j:Nat} (h:j < l.length) (h2:l[j]∈l.take j):¬ l.Nodup:=by
 intro hn
 have h3:(l.take (j + 1)).Nodup:=List.Nodup.sublist (List.take_sublist _ _) hn
 rw [Zab l j h] at h3
 exact (List.nodup_append.1 h3).2.2 _ h2 _ (by simp) rfl
set_option maxHeartbeats 400000 in
theorem Zks (a:Option Addr) (cap:Nat) (l:List Int) (n:Int) (fp:List Nat) (w:World) (h:IntsA w a cap l fp) :
  Calls Tryz.prog 197 #[.slice a l.length cap,.int .i64 n] w fun e w'=>e = .returned (.bool (decide (n∈l)))/\Drew w w':=by
 have hb:=h.bound
 go_enter Tryz.func197,Tryz.ntmps197
 go_wp2
 go_loopw [5] (fun i wr=>∃ j:Nat,j<=l.length/\i = .int .i64 j/\n ∉ l.take j/\Drew w wr)
  (fun i _=>l.length - (intOf i).toNat)
 case atStart=>exact ⟨0,Nat.zero_le _,rfl,by simp,Drew.refl _⟩
 case round=>
  obtain ⟨j,hj,rfl,hr,k,rfl⟩:=hrel
  have Hr:=zH hr;clear hr
  by_cases hlt:j < l.length
  ·obtain ⟨b,off,rfl,-,hc⟩:=h.at_ j hlt
   by_cases hx:l[j] = n
   ·have hq:(l[j] == n) = true:=by simp [hx]
    have Hx:=zH hx;clear hx
    go_wp2
    go_ret
    exact ⟨Zaa (decide_eq_true (by rw [<- Hx.out];exact List.getElem_mem _)).symm,⟨_,rfl⟩⟩
   ·have hq:(l[j] == n) = false:=by simp [hx]
    have Hx:=zH hx;clear hx
    go_wp2
    go_roundw
    case rel=>exact ⟨j + 1,by omega,by go_num,by
     rw [Zab l j hlt];intro hm
     rcases List.mem_append.1 hm with hm | hm
     ·exact Hr.out hm
     ·simp at hm;exact Hx.out hm.symm,⟨_,rfl⟩⟩
    case measure=>simp [intOf];omega
  ·go_wp2
   go_ret
   exact ⟨Zaa (decide_eq_false (by have:=Hr.out;rwa [List.take_of_length_le (by omega)] at this)).symm,⟨_,rfl⟩⟩
theorem Zkk (a:Option Addr) (cap:Nat) (l:List Int) (j:Nat) (n:Int) (fp:List Nat) (w:World) (h:IntsA w a cap l fp) (hj:j<=l.length) :
  Calls Tryz.prog 197 #[.slice a j cap,.int .i64 n] w fun e w'=>e = .returned (.bool (decide (n∈l.take j)))/\Drew w w':=by
 have:=Zks a cap (l.take j) n fp w (h.take j)
 rwa [show (l.take j).length = j by simp;omega] at this
theorem Zdo (x lo hi:Int) (w:World) :
  Calls Tryz.prog 53 #[.int .i64 x,.int .i64 lo,.int .i64 hi] w fun e w'=>e = .returned (.bool (inR x lo hi))/\Drew w w':=
 (Zaj x lo hi w).mono fun _ _ ⟨h1,h2⟩=>⟨h1,by rw [h2];exact Drew.refl _⟩
set_option maxHeartbeats 1000000 in
theorem Zmr (a:Option Addr) (cap:Nat) (l:List Int) (fp:List Nat) (w:World) (h:IntsA w a cap l fp) :
  Calls Tryz.prog 140 #[.slice a l.length cap] w fun e w'=>e = .returned (.bool (permB l))/\Drew w w':=by
 have hb:=h.bound
 rcases hq:inR l.length 1 20
 ·go_enter Tryz.func140,Tryz.ntmps140
  go_wp2_with ((go_at_call 53;(with_reducible refine (Zaj l.length 1 20 _).mono ?_);rintro e w1 ⟨rfl,rfl⟩))
  go_ret
  exact ⟨Zaa (by unfold permB;rw [hq];rfl),Drew.refl _⟩
 have hfin:permB l = decide (PM.IsP l):=by unfold permB;rw [hq];rfl
 have Hfin:=zH hfin;clear hfin
 obtain ⟨g1,g2⟩:=inR_iff.1 hq
 go_enter Tryz.func140,Tryz.ntmps140
 go_wp2_with ((go_at_call 53;(with_reducible refine (Zaj l.length 1 20 _).mono ?_);rintro e w ⟨rfl,rfl⟩))
 go_loopw [4] (fun i wr=>∃ j:Nat,j<=l.length/\i = .int .i64 j/\(∀ x∈l.take j,0<=x/\x < l.length)/\(l.take j).Nodup/\Drew w wr)
  (fun i _=>l.length - (intOf i).toNat)
 case atStart=>exact ⟨0,Nat.zero_le _,rfl,by simp,by simp,Drew.refl _⟩
 case round=>
  obtain ⟨j,hj,rfl,hr,hn,k,rfl⟩:=hrel
  have Hr:=zH hr;clear hr
  have Hn:=zH hn;clear hn
  by_cases hlt:j < l.length
  ·obtain ⟨b,off,rfl,-,hc⟩:=h.at_ j hlt
   have hcap:=h.len
   have hi1:(0:Int)<=(j:Int):=by omega
   have hi2:(j:Int) < (l.length:Int):=by omega
   rcases c1:inR l[j] 0 (l.length - 1)
   ·go_wp2
    go_quiet ((go_at_call 53;exact Zay (Zdo l[j] 0 (l.length - 1) _)))
    go_wp2
    go_ret
    exact ⟨Zaa (by rw [Hfin.out,eq_comm,decide_eq_false_iff_not];intro hp;have:=hp.1 l[j] (List.getElem_mem _);rw [inR_not] at c1;omega),((Drew.refl _).drewN _).drewN _⟩
   have hx:=inR_iff.1 c1
   have Hx:=zH hx;clear hx
   rcases c2:decide (l[j]∈l.take j)
   all_goals go_wp2
   all_goals go_quiet (first
    | (go_at_call 53;exact Zay (Zdo l[j] 0 (l.length - 1) _))
    | (go_at_call 197;exact Zay (Zkk (some ⟨b,off,none⟩) cap l j l[j] fp _ (h.keep (Only.ofDrewN _ _ _)) hj)))
   ·have C2:=zH (of_decide_eq_false c2);clear c2
    go_wp2
    go_roundw
    case rel=>exact ⟨j + 1,by omega,by go_num,Zbr hlt Hr.out (by have:=Hx.out;omega),Zlk hlt Hn.out C2.out,⟨_,rfl⟩⟩
    case measure=>simp [intOf];omega
   ·have C2:=zH (of_decide_eq_true c2);clear c2
    go_wp2
    go_ret
    exact ⟨Zaa (by rw [Hfin.out,eq_comm,decide_eq_false_iff_not];intro hp;exact Zha hlt C2.out hp.2),((Drew.refl _).drewN _).drewN _⟩
  ·go_wp2
   go_ret
   exact ⟨Zaa (by rw [Hfin.out,eq_comm,decide_eq_true_iff];have h1:=Hr.out;have h2:=Hn.out;rw [List.take_of_length_le (by omega)] at h1 h2;exact ⟨h1,h2⟩),⟨_,rfl⟩⟩
theorem Zbe (v:Value) (l:List Int) (fp:List Nat) (w:World) (h:Rd w v l fp) :
  Calls Tryz.prog 140 #[v] w fun e w'=>e = .returned (.bool (permB l))/\Drew w w':=by
 obtain ⟨a,cap,rfl,hI⟩:=h.ints
 exact Zmr a cap l fp w hI
theorem Zhs (v:Value) (l:List (List Int)) (fp:List Nat) (w:World) (h:Rd w v l fp) :
  Calls Tryz.prog 51 #[v] w fun e w'=>e = .returned (.int .i64 l.length)/\w' = w:=by
 obtain ⟨a,cap,ob,fps,rfl,-,hs⟩:=h.open_
 have hb:=hs.bound
 go_enter Tryz.func51,Tryz.ntmps51
 go_wp2
 go_ret
 exact ⟨rfl,rfl⟩
theorem Zbj (v:Value) (l:List Int) (fp:List Nat) (w:World) (h:Rd w v l fp) :
  Calls Tryz.prog 41 #[v] w fun e w'=>e = .returned (.int .i64 l.length)/\w' = w:=by
 obtain ⟨a,cap,rfl,hI⟩:=h.ints
 have hb:=hI.bound
 go_enter Tryz.func41,Tryz.ntmps41
 go_wp2
 go_ret
 exact ⟨rfl,rfl⟩
theorem Zdz (n:Int) (h0:0<=n) (h1:n < 9223372036854775808):wrap64 n = n:=by
 unfold wrap64;omega
theorem Zmz {k:Nat} (h:k<=20):(2:Int) ^ k<=1048576/\1<=(2:Int) ^ k:=by
 have h1:2 ^ k<=2 ^ 20:=Nat.pow_le_pow_right (by decide) h
 have h2:1<=2 ^ k:=Nat.one_le_two_pow
 have e:((2:Int) ^ k) = ((2 ^ k:Nat):Int):=by simp
 rw [e]
 constructor
 ·have:(2:Nat) ^ 20 = 1048576:=by decide
  omega
 ·omega
theorem or_step (m:Nat) (hm:m < 2 ^ 20) (x:Int) (h0:0<=x) (h1:x<=19):bits BinOp.or IntKind.i64 (m:Int) (wrap64 (2 ^ x.toNat)) = ((m ||| 2 ^ x.toNat:Nat):Int):=by
 have hp:=Zmz (k:=x.toNat) (by omega)
 rw [Zdz _ (by omega) (by omega)]
 have e:((2:Int) ^ x.toNat) = ((2 ^ x.toNat:Nat):Int):=by simp
 rw [e]
 refine (bits_nat .i64 20 (by decide) ?_ m (2 ^ x.toNat) hm (Nat.pow_lt_pow_right (by decide) (by omega))).2
 intro n hn0 hn1
 have:(2:Int) ^ 20 = 1048576:=by decide
 rw [IntKind.wrap_i64];omega
theorem Zts (l:List Int) (h:∀ x∈l,0<=x/\x < l.length) (hl:l.length<=20):((PM.mask l:Int) == wrap64 (wrap64 (2 ^ l.length) - 1)) = decide (PM.IsP l):=by
 have hp:=Zmz hl
 rw [Zdz (2 ^ l.length) (by omega) (by omega),Zdz _ (by omega) (by omega)]
 have h1:1<=2 ^ l.length:=Nat.one_le_two_pow
 have e:((2:Int) ^ l.length) - 1 = ((2 ^ l.length - 1:Nat):Int):=by
  rw [Int.natCast_sub h1];simp
 rw [e]
 by_cases hm:PM.IsP l
 ·rw [decide_eq_true hm,(PM.Znk l h).2 hm];simp
 ·rw [decide_eq_false hm]
  have:PM.mask l ≠ 2 ^ l.length - 1:=fun he=>hm ((PM.Znk l h).1 he)
  simp only [beq_eq_false_iff_ne,ne_eq]
  omega
set_option maxHeartbeats 1000000 in
theorem Zmb (a:Option Addr) (cap:Nat) (l:List Int) (fp:List Nat) (w:World) (h:IntsA w a cap l fp) :
  Calls Tryz.prog 190 #[.slice a l.length cap] w fun e w'=>e = .returned (.bool (permB l))/\Drew w w':=by
 have hb:=h.bound
 rcases hq:inR l.length 1 20
 ·go_enter Tryz.func190,Tryz.ntmps190
  go_wp2_with (first | (go_at_call 41;(with_reducible refine (Zbj _ l fp _ h.rd).mono ?_);rintro e w ⟨rfl,rfl⟩) | (go_at_call 50;(with_reducible refine (Zai l.length 1 20 _).mono ?_);rintro e w ⟨rfl,rfl⟩))
  go_ret
  exact ⟨Zaa (by unfold permB;rw [hq];rfl),Drew.refl _⟩
 have hfin:permB l = decide (PM.IsP l):=by unfold permB;rw [hq];rfl
 have Hfin:=zH hfin;clear hfin
 obtain ⟨g1,g2⟩:=inR_iff.1 hq
 go_enter Tryz.func190,Tryz.ntmps190
 go_wp2_with (first | (go_at_call 41;(with_reducible refine (Zbj _ l fp _ h.rd).mono ?_);rintro e w ⟨rfl,rfl⟩) | (go_at_call 50;(with_reducible refine (Zai l.length 1 20 _).mono ?_);rintro e w ⟨rfl,rfl⟩))
 go_loopw [3,12] (fun sn i wr=>∃ j:Nat,j<=l.length/\i = .int .i64 j/\sn = .int .i64 (PM.mask (l.take j):Nat)/\(∀ x∈l.take j,0<=x/\x < l.length)/\Drew w wr)
  (fun _ i _=>l.length - (intOf i).toNat)
 case atStart=>exact ⟨0,Nat.zero_le _,rfl,rfl,by simp,Drew.refl _⟩
 case round=>
  obtain ⟨j,hj,rfl,rfl,hr,k,rfl⟩:=hrel
  have Hr:=zH hr;clear hr
  by_cases hlt:j < l.length
  ·obtain ⟨b,off,ha,-,hc⟩:=h.at_ j hlt
   subst ha
   rcases c1:inR l[j] 0 (l.length - 1)
   ·go_wp2_with (first | (go_at_call 41;(with_reducible refine (Zbj _ l fp _ (zK h.rd (Only.ofDrewN _ _ _))).mono ?_);rintro e w1 ⟨rfl,rfl⟩) | (go_at_call 50;(with_reducible refine (Zai l[j] 0 (l.length - 1) _).mono ?_);rintro e w1 ⟨rfl,rfl⟩))
    go_ret
    exact ⟨Zaa (by rw [Hfin.out,eq_comm,decide_eq_false_iff_not];intro hp;have:=hp.1 l[j] (List.getElem_mem _);rw [inR_not] at c1;omega),⟨_,rfl⟩⟩
   have hx:=inR_iff.1 c1
   have Hx:=zH hx;clear hx
   have hx0:0<=l[j]:=Hx.out.1
   have hx1:l[j]<=19:=by have:=Hx.out;omega
   have hm:=or_step (PM.mask (l.take j)) (Nat.lt_of_lt_of_le (PM.mask_lt _ l.length Hr.out) (Nat.pow_le_pow_right (by decide) (by omega))) l[j] hx0 hx1
   have Hm:=zH hm;clear hm
   go_wp2_with (first | (go_at_call 41;(with_reducible refine (Zbj _ l fp _ (zK h.rd (Only.ofDrewN _ _ _))).mono ?_);rintro e w1 ⟨rfl,rfl⟩) | (go_at_call 50;(with_reducible refine (Zai l[j] 0 (l.length - 1) _).mono ?_);rintro e w1 ⟨rfl,rfl⟩))
   refine ⟨⟨j + 1,by omega,by go_num,?_,Zbr hlt Hr.out (by have:=Hx.out;omega),⟨_,rfl⟩⟩,by simp [intOf];omega⟩
   rw [Zab l j hlt,PM.Zqx,Hm.out]
  ·go_wp2
   go_ret
   exact ⟨Zaa (by have h1:=Hr.out;rw [List.take_of_length_le (by omega)] at h1 ⊢;rw [Hfin.out];exact Zts l h1 (by omega)),⟨_,rfl⟩⟩
theorem Zdi (v:Value) (l:List Int) (fp:List Nat) (w:World) (h:Rd w v l fp) :
  Calls Tryz.prog 190 #[v] w fun e w'=>e = .returned (.bool (permB l))/\Drew w w':=by
 obtain ⟨a,cap,rfl,hI⟩:=h.ints
 exact Zmb a cap l fp w hI
set_option maxHeartbeats 400000 in
theorem Zmi (f:FuncId) (caps:Array Value) (pr:List Int->Bool) (hcf:∀ args w,(callFunc f args).run Tryz.prog w = .ok (.enter f args) w)
  (v:Value) (l:List (List Int)) (fp:List Nat) (w:World) (h:Rd w v l fp)
  (hc:∀ x∈l,∀ u f' w',Only [] w w'->Rd w' u x f'->Calls Tryz.prog f (#[u] ++ caps) w' fun e w''=>e = .returned (.bool (pr x))/\Only [] w' w'') :
  Calls Tryz.prog 241 #[v,.func (.func f) #[] caps] w fun e w'=>e = .returned (.int .i64 (idxF pr l))/\Only [] w w':=by
 obtain ⟨a,cap,ob,fps,rfl,-,hI⟩:=h.open_
 have hb:=hI.bound
 have HC:=zH hc
 clear hc
 go_enter Tryz.func241,Tryz.ntmps241
 go_wp2
 go_loopw [5,8] (fun i t wr=>∃ j:Nat,j<=l.length/\t = .int .i64 j/\(∀ x∈l.take j,pr x = false)/\Only [] w wr)
  (fun _ t _=>l.length - (intOf t).toNat)
 case atStart=>exact ⟨0,Nat.zero_le _,rfl,by simp,Only.refl _ _⟩
 case round=>
  obtain ⟨j,hj,rfl,hr,hK⟩:=hrel
  have Hr:=zH hr;clear hr
  by_cases hlt:j < l.length
  ·obtain ⟨b,off,u,rfl,-,hc0,hv0⟩:=hI.atRow j hlt
   have hc:=hK.cell (by simp) hc0
   have hv:=zK hv0 hK
   clear hc0 hv0
   rcases hp:pr l[j]
   all_goals go_wp2_with (with_reducible refine (HC.out l[j] (List.getElem_mem _) u _ wr hK hv).mono ?_;rintro e w1 ⟨rfl,hk1⟩)
   ·go_roundw
    case rel=>exact ⟨j + 1,by omega,by go_num,by
     rw [Zab l j hlt];intro x hx
     rcases List.mem_append.1 hx with hx | hx
     ·exact Hr.out x hx
     ·simp at hx;subst hx;exact hp,hK.trans hk1⟩
    case measure=>simp [intOf];omega
   ·go_ret
    exact ⟨ret_int (Zel hlt Hr.out hp).symm,hK.trans hk1⟩
  ·go_wp2
   go_ret
   exact ⟨ret_int (Zfw (by have:=Hr.out;rwa [List.take_of_length_le (by omega)] at this)).symm,hK⟩
set_option maxHeartbeats 400000 in
theorem Zim (f:FuncId) (caps:Array Value) (pr:List Int->Bool) (hcf:∀ args w,(callFunc f args).run Tryz.prog w = .ok (.enter f args) w)
  (v:Value) (l:List (List Int)) (fp:List Nat) (w:World) (h:Rd w v l fp)
  (hc:∀ x∈l,∀ u f' w',Only [] w w'->Rd w' u x f'->Calls Tryz.prog f (#[u] ++ caps) w' fun e w''=>e = .returned (.bool (pr x))/\Only [] w' w'') :
  Calls Tryz.prog 229 #[v,.func (.func f) #[] caps] w fun e w'=>e = .returned (.bool (l.any pr))/\Only [] w w':=by
 have HC:=zH hc
 clear hc
 go_enter Tryz.func229,Tryz.ntmps229
 go_wp2_with ((go_at_call 241;(with_reducible refine (Zmi f caps pr hcf v l _ w h HC.out).mono ?_);rintro e w1 ⟨rfl,hk⟩))
 go_ret
 exact ⟨Zaa idxF_ge,hk⟩
def genB (n:Int) (g:List Int):Bool:=decide ((g.length:Int) = n) && permB g
def gensB (n:Int) (gens:List (List Int)):Bool:=inR n 1 20 && decide (gens.length<=8) && gens.all (genB n)
set_option maxHeartbeats 1000000 in
theorem Zlw (n:Int) (a:Option Addr) (cap:Nat) (l:List (List Int)) (ob:List Nat) (fps:List (List Nat)) (w:World) (h:SeqA w a cap l ob fps) :
  Calls Tryz.prog 139 #[.int .i64 n,.slice a l.length cap] w fun e w'=>e = .returned (.bool (gensB n l))/\Drew w w':=by
 have hb:=h.bound
 rcases hq:inR n 1 20
 ·go_enter Tryz.func139,Tryz.ntmps139
  go_wp2_with ((go_at_call 53;(with_reducible refine (Zaj n 1 20 _).mono ?_);rintro e w ⟨rfl,rfl⟩))
  go_ret
  exact ⟨Zaa (by unfold gensB;rw [hq];rfl),Drew.refl _⟩
 by_cases hl:8 < l.length
 ·go_enter Tryz.func139,Tryz.ntmps139
  go_wp2_with ((go_at_call 53;(with_reducible refine (Zaj n 1 20 _).mono ?_);rintro e w ⟨rfl,rfl⟩))
  go_ret
  exact ⟨Zaa (by unfold gensB;rw [hq,decide_eq_false (by omega)];rfl),Drew.refl _⟩
 have hfin:gensB n l = l.all (genB n):=by unfold gensB;rw [hq,decide_eq_true (by omega)];rfl
 have Hfin:=zH hfin;clear hfin
 go_enter Tryz.func139,Tryz.ntmps139
 go_wp2_with ((go_at_call 53;(with_reducible refine (Zaj n 1 20 _).mono ?_);rintro e w ⟨rfl,rfl⟩))
 go_loopw [5] (fun i wr=>∃ j:Nat,j<=l.length/\i = .int .i64 j/\(∀ x∈l.take j,genB n x = true)/\Drew w wr)
  (fun i _=>l.length - (intOf i).toNat)
 case atStart=>exact ⟨0,Nat.zero_le _,rfl,by simp,Drew.refl _⟩
 case round=>
  obtain ⟨j,hj,rfl,hr,k,rfl⟩:=hrel
  have Hr:=zH hr;clear hr
  by_cases hlt:j < l.length
  ·obtain ⟨b,off,v,rfl,-,hc,hv⟩:=h.atRow j hlt
   obtain ⟨a2,c2,rfl,hI⟩:=hv.ints
   have hb2:=hI.bound
   by_cases c1:(l[j].length:Int) = n
   ·have d1:((l[j].length:Int) != n) = false:=by simp [c1]
    have C1:=zH c1;clear c1
    rcases c2:permB l[j]
    all_goals go_wp2_with ((go_at_call 140;(with_reducible refine (Zbe _ l[j] _ _ (zK hv (Only.ofDrewN _ _ _))).mono ?_);rintro e w1 ⟨rfl,n1,rfl⟩))
    ·go_ret
     exact ⟨Zaa (by rw [Hfin.out,eq_comm,List.all_eq_false];exact ⟨l[j],List.getElem_mem _,by simp [genB,c2]⟩),⟨_,rfl⟩⟩
    ·go_roundw
     case rel=>exact ⟨j + 1,by omega,by go_num,by
      rw [Zab l j hlt];intro x hx
      rcases List.mem_append.1 hx with hx | hx
      ·exact Hr.out x hx
      ·simp at hx;subst hx;simp [genB,c2,C1.out],⟨_,rfl⟩⟩
     case measure=>simp [intOf];omega
   ·have d1:((l[j].length:Int) != n) = true:=by simp [c1]
    have C1:=zH c1;clear c1
    go_wp2
    go_ret
    exact ⟨Zaa (by rw [Hfin.out,eq_comm,List.all_eq_false];exact ⟨l[j],List.getElem_mem _,by simp [genB,C1.out]⟩),⟨_,rfl⟩⟩
  ·go_wp2
   go_ret
   exact ⟨Zaa (by rw [Hfin.out,eq_comm,List.all_eq_true];have:=Hr.out;rwa [List.take_of_length_le (by omega)] at this),⟨_,rfl⟩⟩
theorem Zcn (n:Int) (v:Value) (l:List (List Int)) (fp:List Nat) (w:World) (h:Rd w v l fp) :
  Calls Tryz.prog 139 #[.int .i64 n,v] w fun e w'=>e = .returned (.bool (gensB n l))/\Drew w w':=by
 obtain ⟨a,cap,ob,fps,rfl,-,hs⟩:=h.open_
 exact Zlw n a cap l ob fps w hs
theorem Zco (v:Value) (l:List Int) (fp:List Nat) (w:World) (h:Rd w v l fp) :
  Calls Tryz.prog 41 #[v] w fun e w'=>e = .returned (.int .i64 l.length)/\Drew w w':=
 (Zbj v l fp w h).mono fun _ _ ⟨h1,h2⟩=>⟨h1,by rw [h2];exact Drew.refl _⟩
set_option maxHeartbeats 1000000 in
theorem Zmg (n:Int) (u:Value) (x:List Int) (fp:List Nat) (b:Nat) (w:World) (h:Rd w u x fp) (hc:w.cell? ⟨b,0,none⟩ = some (.int .i64 n)) :
  Calls Tryz.prog 230 #[u,.pointer (some ⟨b,0,none⟩)] w fun e w'=>e = .returned (.bool (!genB n x))/\Only [] w w':=by
 obtain ⟨a,cap,rfl,hI⟩:=h.ints
 have hb:=hI.bound
 by_cases c1:(x.length:Int) = n
 ·have d1:((x.length:Int) != n) = false:=by simp [c1]
  have hg:genB n x = permB x:=by simp [genB,c1]
  have Hg:=zH hg;clear hg c1
  rcases c2:permB x
  all_goals go_enter Tryz.func230,Tryz.ntmps230
  all_goals go_wp2
  all_goals go_quiet (first
   | (go_at_call 41;exact Zbk (Zco _ x fp _ (zK h (Only.ofDrewN _ _ _))))
   | (go_at_call 190;exact Zbk (Zdi _ x fp _ (zK h (Only.ofDrewN _ _ _)))))
  all_goals go_wp2
  all_goals go_ret
  all_goals exact ⟨Zaa (by rw [Hg.out,c2];rfl),Only.ofDrewN _ _ _⟩
 ·have d1:((x.length:Int) != n) = true:=by simp [c1]
  have hg:genB n x = false:=by simp [genB,c1]
  have Hg:=zH hg;clear hg c1
  go_enter Tryz.func230,Tryz.ntmps230
  go_wp2
  go_quiet (first
   | (go_at_call 41;exact Zbk (Zco _ x fp _ (zK h (Only.ofDrewN _ _ _))))
   | (go_at_call 190;exact Zbk (Zdi _ x fp _ (zK h (Only.ofDrewN _ _ _)))))
  go_wp2
  go_ret
  exact ⟨Zaa (by rw [Hg.out];rfl),Only.ofDrewN _ _ _⟩
set_option maxHeartbeats 1000000 in
theorem Zoa (n:Int) (v:Value) (l:List (List Int)) (fp:List Nat) (w:World) (h:Rd w v l fp) :
  Calls Tryz.prog 188 #[.int .i64 n,v] w fun e w'=>e = .returned (.bool (gensB n l))/\Only [] w w':=by
 obtain ⟨a,cap,ob,fps,rfl,-,hs⟩:=h.open_
 have hb:=hs.bound
 rcases hq:inR n 1 20
 ·go_enter Tryz.func188,Tryz.ntmps188
  go_wp2_with ((go_at_call 50;(with_reducible refine (Zai n 1 20 _).mono ?_);rintro e w1 ⟨rfl,rfl⟩))
  go_ret
  exact ⟨Zaa (by unfold gensB;rw [hq];rfl),zA⟩
 by_cases hl:l.length<=8
 ·have hfin:gensB n l = !(l.any fun x=>!genB n x):=by unfold gensB;rw [hq,decide_eq_true hl,List.not_any_eq_all_not];simp
  have Hfin:=zH hfin;clear hfin
  have Hc:=zH (Zim 230 #[.pointer (some ⟨w.heap.size,0,none⟩)] (fun x=>!genB n x) Tryz.call230 (.slice a l.length cap) l _ (w.alloc (.cells #[.int .i64 n] 2)) (zK h zA)
   (fun x _ u f' w' hw hu=>Zmg n u x f' w.heap.size w' hu (hw.cell (by simp) (by simp))))
  rcases hany:l.any fun x=>!genB n x
  all_goals go_enter Tryz.func188,Tryz.ntmps188
  all_goals go_wp2_with (first | (go_at_call 50;refine (Zai n 1 20 _).mono ?_;rintro e w1 ⟨rfl,rfl⟩) | (go_at_call 229;(with_reducible refine (Hc.out).mono ?_);rintro e w1 ⟨rfl,hk⟩))
  all_goals go_ret
  all_goals exact ⟨Zaa (by rw [Hfin.out,hany];rfl),zA⟩
 ·go_enter Tryz.func188,Tryz.ntmps188
  go_wp2_with ((go_at_call 50;(with_reducible refine (Zai n 1 20 _).mono ?_);rintro e w1 ⟨rfl,rfl⟩))
  go_ret
  exact ⟨Zaa (by unfold gensB;rw [hq,decide_eq_false hl];rfl),zA⟩
theorem and_of {a b:Prop} (h:a) (k:a->b):a/\b:=⟨h,k h⟩
def Blk (w:World) (g:Nat) (cs:List Value):Prop:=∃ t,w.heap[g]? = some (.cells cs.toArray t (0,0))
theorem Blk.lt {w:World} {g:Nat} {cs:List Value} (h:Blk w g cs):g < w.heap.size:=by
 obtain ⟨t,h⟩:=h;exact (Array.getElem?_eq_some_iff.1 h).1
theorem Blk.new (w:World) (cs:List Value) (t:TypeId):Blk (w.alloc (.cells cs.toArray t)) w.heap.size cs:=⟨t,heap_alloc_new w _⟩
theorem Blk.new_at {w:World} {cs:List Value} {t:TypeId} {g:Nat} (h:g = w.heap.size):Blk (w.alloc (.cells cs.toArray t)) g cs:=by subst h;exact Blk.new _ _ _
theorem Blk.only {w w':World} {g:Nat} {cs:List Value} {fp:List Nat} (h:Blk w g cs) (ho:Only fp w w') (hn:g ∉ fp):Blk w' g cs:=by
 have:=h.lt
 obtain ⟨t,h⟩:=h;exact ⟨t,(ho.block g this hn).trans h⟩
theorem Blk.keep {w w':World} {g:Nat} {cs:List Value} (h:Blk w g cs) (ho:Only [] w w'):Blk w' g cs:=h.only ho (by simp)
theorem Blk.cell {w:World} {g:Nat} {cs:List Value} (h:Blk w g cs) (i:Nat) {v:Value} (hv:cs[i]? = some v):w.cell? ⟨g,i,none⟩ = some v:=by
 obtain ⟨t,h⟩:=h
 rw [cell_of_row w g i _ t (0,0) h];simpa using hv
theorem Blk.c2 {w : World} {b : Nat} {v0 v1 : Value} {r : List Value} (h : Blk w b (v0 :: v1 :: r)) : w.cell? ⟨b, 0, none⟩ = some v0 /\ w.cell? ⟨b, 1, none⟩ = some v1 := ⟨h.cell 0 rfl, h.cell 1 rfl⟩
theorem Blk.c3 {w : World} {b : Nat} {v0 v1 v2 : Value} {r : List Value} (h : Blk w b (v0 :: v1 :: v2 :: r)) : w.cell? ⟨b, 0, none⟩ = some v0 /\ w.cell? ⟨b, 1, none⟩ = some v1 /\ w.cell? ⟨b, 2, none⟩ = some v2 := ⟨h.cell 0 rfl, h.cell 1 rfl, h.cell 2 rfl⟩
theorem Blk.c4 {w : World} {b : Nat} {v0 v1 v2 v3 : Value} {r : List Value} (h : Blk w b (v0 :: v1 :: v2 :: v3 :: r)) : w.cell? ⟨b, 0, none⟩ = some v0 /\ w.cell? ⟨b, 1, none⟩ = some v1 /\ w.cell? ⟨b, 2, none⟩ = some v2 /\ w.cell? ⟨b, 3, none⟩ = some v3 := ⟨h.cell 0 rfl, h.cell 1 rfl, h.cell 2 rfl, h.cell 3 rfl⟩
theorem Blk.c5 {w : World} {b : Nat} {v0 v1 v2 v3 v4 : Value} {r : List Value} (h : Blk w b (v0 :: v1 :: v2 :: v3 :: v4 :: r)) : w.cell? ⟨b, 0, none⟩ = some v0 /\ w.cell? ⟨b, 1, none⟩ = some v1 /\ w.cell? ⟨b, 2, none⟩ = some v2 /\ w.cell? ⟨b, 3, none⟩ = some v3 /\ w.cell? ⟨b, 4, none⟩ = some v4 := ⟨h.cell 0 rfl, h.cell 1 rfl, h.cell 2 rfl, h.cell 3 rfl, h.cell 4 rfl⟩
theorem Blk.c6 {w : World} {b : Nat} {v0 v1 v2 v3 v4 v5 : Value} {r : List Value} (h : Blk w b (v0 :: v1 :: v2 :: v3 :: v4 :: v5 :: r)) : w.cell? ⟨b, 0, none⟩ = some v0 /\ w.cell? ⟨b, 1, none⟩ = some v1 /\ w.cell? ⟨b, 2, none⟩ = some v2 /\ w.cell? ⟨b, 3, none⟩ = some v3 /\ w.cell? ⟨b, 4, none⟩ = some v4 /\ w.cell? ⟨b, 5, none⟩ = some v5 := ⟨h.cell 0 rfl, h.cell 1 rfl, h.cell 2 rfl, h.cell 3 rfl, h.cell 4 rfl, h.cell 5 rfl⟩
structure Table where
 tracked:List Int
 patterns:List (List Int)
 distances:List Int
instance:Rp Table where
 size:=3
 rep w cs x fp:=∃ v0 v1 v2 f0 f1 f2,cs = [v0] ++ [v1] ++ [v2]/\fp = f0 ++ (f1 ++ f2)/\Rd w v0 x.tracked f0/\Rd w v1 x.patterns f1/\Rd w v2 x.distances f2
 len h:=by
  obtain ⟨v0,v1,v2,f0,f1,f2,rfl,-,h0,h1,h2⟩:=h
  rfl
 frame h hf:=by
  obtain ⟨v0,v1,v2,f0,f1,f2,hcs,rfl,h0,h1,h2⟩:=h
  exact ⟨v0,v1,v2,f0,f1,f2,hcs,rfl,Rp.frame h0 fun b hb=>hf b (by simp [hb]),Rp.frame h1 fun b hb=>hf b (by simp [hb]),Rp.frame h2 fun b hb=>hf b (by simp [hb])⟩
 lt h:=by
  obtain ⟨v0,v1,v2,f0,f1,f2,hcs,rfl,h0,h1,h2⟩:=h
  intro b hb
  simp only [List.mem_append] at hb
  rcases hb with hb | hb | hb
  ·exact Rp.lt h0 b hb
  ·exact Rp.lt h1 b hb
  ·exact Rp.lt h2 b hb
instance:Sm Table where
 sm x:=Sm.sm x.tracked/\Sm.sm x.patterns/\Sm.sm x.distances
theorem Table.eq_iff {x y:Table}:x = y ↔ x.tracked = y.tracked/\x.patterns = y.patterns/\x.distances = y.distances:=by
 cases x;cases y;simp
theorem SeqA.at3 {w:World} {a:Option Addr} {cap:Nat} {xs:List Table} {ob:List Nat} {fps:List (List Nat)} (h:SeqA w a cap xs ob fps) (k:Nat) (hk:k < xs.length) :
  ∃ b off v1 v2 v3,a = some ⟨b,off,none⟩/\ob = [b]/\w.cell? ⟨b,off + k * 3,none⟩ = some v1/\w.cell? ⟨b,off + k * 3 + 1,none⟩ = some v2/\w.cell? ⟨b,off + k * 3 + 2,none⟩ = some v3/\Rp.rep w [v1,v2,v3] xs[k] (fps[k]'(by rw [h.nf];exact hk)):=by
 obtain ⟨b,off,cs,ha,hob,hc,hr⟩:=h.at_ k hk
 have hl:=Rp.len hr
 match cs,hl with
 | [v1,v2,v3],_=>exact ⟨b,off,v1,v2,v3,ha,hob,hc 0 v1 rfl,hc 1 v2 rfl,hc 2 v3 rfl,hr⟩
section
variable {α:Type} [Rp α] {w w':World} {B:Nat} {css:List (List Value)} {xs:List α} {fps:List (List Nat)}
end
theorem Tryz.infoTable:(Tryz.prog.info? 41).map (fun i=>(i.zero,i.size,i.bytes)) = some (some (.agg #[.slice none 0 0,.slice none 0 0,.slice none 0 0]),3,72):=by kernel_rfl
structure Puzzle where
 points:Int
 names:ByteArray
 moves:List (List Int)
instance:Rp Puzzle where
 size:=3
 rep w cs x fp:=∃ v2,cs = [Value.int .i64 x.points] ++ [Value.string x.names] ++ [v2]/\I64 x.points/\x.names.size<=maxLen/\Rd w v2 x.moves fp
 len h:=by
  obtain ⟨v2,rfl,p0,p1,h2⟩:=h
  rfl
 frame h hf:=by
  obtain ⟨v2,hcs,p0,p1,h2⟩:=h
  exact ⟨v2,hcs,p0,p1,Rp.frame h2 fun b hb=>hf b (by simp [hb])⟩
 lt h:=by
  obtain ⟨v2,hcs,p0,p1,h2⟩:=h
  intro b hb
  exact Rp.lt h2 b hb
instance:Sm Puzzle where
 sm x:=Sm.sm x.moves
def bl (s:ByteArray):List Int:=s.data.toList.map fun b=>(b.toNat:Int)
theorem bl_len (s:ByteArray):(bl s).length = s.size:=by
 unfold bl;rw [List.length_map,Array.length_toList];rfl
theorem bl_get (s:ByteArray) (i:Nat) (h:i < s.size) (h':i < (bl s).length):(bl s)[i] = (s[i].toNat:Int):=by
 simp [bl];rfl
def moveNameB (L:List Int) (i:Nat):Bool:=match L[i]? with
 | some b=>inR b 65 90 && decide (b ∉ L.take i)
 | none=>false
theorem Zdu {L:List Int} {i:Nat} (h:i < L.length):moveNameB L i = (inR L[i] 65 90 && decide (L[i] ∉ L.take i)):=by
 simp [moveNameB,h]
def namesB (s:ByteArray):Bool:=inR s.size 1 8 && ((bl s).all (fun b=>inR b 65 90) && decide (bl s).Nodup)
def validPz (p:Puzzle):Bool:=gensB p.points p.moves && (namesB p.names && decide (p.names.size = p.moves.length))
theorem Zpe {L:List Int}:(L.all (fun b=>inR b 65 90) && decide L.Nodup) = true ↔ (∀ x∈L,inR x 65 90 = true)/\L.Nodup:=by simp
set_option maxHeartbeats 1000000 in
theorem Zmw (s:ByteArray) (i:Nat) (w:World) (hs:s.size<=maxLen) (hi:i < s.size) :
  Calls Tryz.prog 192 #[.string s,.int .i64 i] w fun e w'=>e = .returned (.bool (moveNameB (bl s) i))/\Drew w w':=by
 unfold maxLen at hs
 have hi1:(0:Int)<=(i:Int):=by omega
 have hi2:(i:Int) < (s.size:Int):=by omega
 have hL:i < (bl s).length:=by rw [bl_len];exact hi
 have hfin:moveNameB (bl s) i = (inR (s[i].toNat:Int) 65 90 && decide ((s[i].toNat:Int) ∉ (bl s).take i)):=by rw [Zdu hL,bl_get s i hi hL]
 have Hfin:=zH hfin;clear hfin
 by_cases c1:(s[i].toNat:Int) < 65
 ·go_enter Tryz.func192,Tryz.ntmps192
  go_wp2
  go_ret
  exact ⟨Zaa (by rw [Hfin.out,show inR (s[i].toNat:Int) 65 90 = false by rw [inR_not];omega];rfl),⟨0,rfl⟩⟩
 by_cases c2:90 < (s[i].toNat:Int)
 ·go_enter Tryz.func192,Tryz.ntmps192
  go_wp2
  go_ret
  exact ⟨Zaa (by rw [Hfin.out,show inR (s[i].toNat:Int) 65 90 = false by rw [inR_not];omega];rfl),⟨0,rfl⟩⟩
 have hR:moveNameB (bl s) i = decide ((s[i].toNat:Int) ∉ (bl s).take i):=by rw [Hfin.out,show inR (s[i].toNat:Int) 65 90 = true by rw [inR_iff];omega];rfl
 have HR:=zH hR;clear hR Hfin
 go_enter Tryz.func192,Tryz.ntmps192
 go_wp2
 go_loopw [5] (fun t wr=>∃ j:Nat,j<=i/\t = .int .i64 j/\(s[i].toNat:Int) ∉ (bl s).take j/\Drew w wr)
  (fun t _=>i - (intOf t).toNat)
 case atStart=>exact ⟨0,Nat.zero_le _,rfl,by simp,Drew.refl _⟩
 case round=>
  obtain ⟨j,hj,rfl,hr,k,rfl⟩:=hrel
  have Hr:=zH hr;clear hr
  by_cases hlt:j < i
  ·have hjs:j < s.size:=by omega
   have hj1:(0:Int)<=(j:Int):=by omega
   have hj2:(j:Int) < (s.size:Int):=by omega
   have hbj:(bl s)[j]'(by rw [bl_len];exact hjs) = (s[j].toNat:Int):=bl_get s j hjs _
   have Hbj:=zH hbj;clear hbj
   by_cases hx:(s[j].toNat:Int) = (s[i].toNat:Int)
   ·have hq:((s[j].toNat:Int) == (s[i].toNat:Int)) = true:=by simp [hx]
    have Hx:=zH hx;clear hx
    go_wp2
    go_quiet (fail)
    go_wp2
    go_ret
    exact ⟨Zaa (by rw [HR.out,eq_comm,decide_eq_false_iff_not,Classical.not_not,<- Hx.out,<- Hbj.out];exact List.mem_take_iff_getElem.2 ⟨j,by rw [bl_len];omega,rfl⟩),((Drew.refl _).drewN _).drewN _⟩
   ·have hq:((s[j].toNat:Int) == (s[i].toNat:Int)) = false:=by simpa using hx
    have Hx:=zH hx;clear hx
    go_wp2
    go_quiet (fail)
    go_wp2
    go_roundw
    case rel=>exact ⟨j + 1,by omega,by go_num,by
     rw [Zab (bl s) j (by rw [bl_len];exact hjs)];intro hm
     rcases List.mem_append.1 hm with hm | hm
     ·exact Hr.out hm
     ·simp at hm;rw [Hbj.out] at hm;exact Hx.out hm.symm,⟨_,rfl⟩⟩
    case measure=>simp [intOf];omega
  ·go_wp2
   go_ret
   exact ⟨Zaa (by rw [HR.out,eq_comm,decide_eq_true_iff];have:=Hr.out;have e:j = i:=(by omega);rwa [e] at this),⟨_,rfl⟩⟩
theorem Zkw {L:List Int} (h:∀ k,k < L.length->moveNameB L k = true):(L.all (fun b=>inR b 65 90) && decide L.Nodup) = true:=by
 rw [Zpe]
 have hk:∀ k (hk:k < L.length),inR L[k] 65 90 = true/\L[k] ∉ L.take k:=by
  intro k hk
  have:=h k hk
  rw [Zdu hk] at this
  simpa using this
 refine ⟨fun x hx=>?_,?_⟩
 ·obtain ⟨k,hk',rfl⟩:=List.getElem_of_mem hx
  exact (hk k hk').1
 ·rw [List.nodup_iff_pairwise_ne,List.pairwise_iff_getElem]
  intro i j hi hj hij he
  exact (hk j hj).2 (List.mem_take_iff_getElem.2 ⟨i,by omega,he⟩)
theorem Zno {L:List Int} {k:Nat} (hk:k < L.length) (h:moveNameB L k = false):(L.all (fun b=>inR b 65 90) && decide L.Nodup) = false:=by
 rw [<- Bool.not_eq_true,Zpe]
 rintro ⟨h1,h2⟩
 rw [Zdu hk,h1 _ (List.getElem_mem _)] at h
 simp at h
 exact Zha hk h h2
set_option maxHeartbeats 2000000 in
theorem Zan (cs:List Value) (x:Puzzle) (fp:List Nat) (w:World) (h:Rp.rep w cs x fp) :
  Calls Tryz.prog 131 #[.agg cs.toArray] w fun e w'=>e = .returned (.bool (validPz x))/\Only [] w w':=by
 obtain ⟨v2,rfl,p0,p1,h2⟩:=h
 obtain ⟨A2,C2,ob,fps,rfl,-,hs⟩:=h2.open_
 have hb:=hs.bound
 have hm:=p1;unfold maxLen at hm
 by_cases c1:x.moves.length = 0
 ·have hf:validPz x = false:=by
   unfold validPz namesB
   rw [Bool.and_eq_false_iff,Bool.and_eq_false_iff,Bool.and_eq_false_iff]
   right
   by_cases hz:x.names.size = x.moves.length
   ·left;left;rw [inR_not];omega
   ·right;exact decide_eq_false hz
  have Hf:=zH hf;clear hf
  have d1:((x.moves.length:Int) == 0) = true:=by simp [c1]
  have C1:=zH c1;clear c1
  go_enter Tryz.func131,Tryz.ntmps131
  go_wp2
  go_ret
  exact ⟨Zaa Hf.out.symm,zA⟩
 have d1:((x.moves.length:Int) == 0) = false:=by rw [beq_eq_false_iff_ne];omega
 by_cases c2:x.names.size = x.moves.length
 ·have d2:((x.names.size:Int) != (x.moves.length:Int)) = false:=by simp [c2]
  rcases c3:gensB x.points x.moves
  ·have hf:validPz x = false:=by unfold validPz;rw [c3];rfl
   have Hf:=zH hf;clear hf
   have C2':=zH c2;clear c2
   have C1:=zH c1;clear c1
   go_enter Tryz.func131,Tryz.ntmps131
   go_wp2_with ((go_at_call 139;(with_reducible refine (Zcn x.points _ x.moves _ _ (zK h2 zA)).mono ?_);rintro e w1 ⟨rfl,n1,rfl⟩))
   go_ret
   exact ⟨Zaa Hf.out.symm,zA⟩
  have hl8:x.moves.length<=8:=by
   unfold gensB at c3;simp only [Bool.and_eq_true,decide_eq_true_eq] at c3;exact c3.1.2
  have hf:validPz x = ((bl x.names).all (fun b=>inR b 65 90) && decide (bl x.names).Nodup):=by
   unfold validPz namesB;rw [c3,decide_eq_true c2,show inR x.names.size 1 8 = true by rw [inR_iff];omega];simp
  have Hf:=zH hf;clear hf
  have C2':=zH c2;clear c2
  have C1:=zH c1;clear c1
  go_enter Tryz.func131,Tryz.ntmps131
  go_wp2_with ((go_at_call 139;(with_reducible refine (Zcn x.points _ x.moves _ _ (zK h2 zA)).mono ?_);rintro e w1 ⟨rfl,n1,rfl⟩))
  go_loopw [3] (fun i wr=>∃ j:Nat,j<=x.names.size/\i = .int .i64 j/\(∀ k,k < j->moveNameB (bl x.names) k = true)/\Drew ((w.alloc (.cells #[.int .i64 x.points,.string x.names,.slice A2 x.moves.length C2] 26))) wr)
   (fun i _=>x.names.size - (intOf i).toNat)
  case atStart=>exact ⟨0,Nat.zero_le _,rfl,by simp,⟨_,rfl⟩⟩
  case round=>
   obtain ⟨j,hj,rfl,hr,k,rfl⟩:=hrel
   have Hr:=zH hr;clear hr
   by_cases hlt:j < x.names.size
   ·rcases c4:moveNameB (bl x.names) j
    all_goals go_wp2_with ((go_at_call 192;(with_reducible refine (Zmw x.names j _ p1 hlt).mono ?_);rintro e w1 ⟨rfl,n1,rfl⟩))
    ·go_ret
     exact ⟨Zaa (by rw [Hf.out,Zno (by rw [bl_len];exact hlt) c4]),zA⟩
    ·go_roundw
     case rel=>exact ⟨j + 1,by omega,by go_num,fun k hk=>by
      by_cases hkj:k = j
      ·subst hkj;exact c4
      ·exact Hr.out k (by omega),⟨_,rfl⟩⟩
     case measure=>simp [intOf];omega
   ·go_wp2
    go_ret
    exact ⟨Zaa (by rw [Hf.out,Zkw (fun k hk=>Hr.out k (by rw [bl_len] at hk;omega))]),zA⟩
 ·have d2:((x.names.size:Int) != (x.moves.length:Int)) = true:=by simp only [bne_iff_ne,ne_eq];omega
  have hf:validPz x = false:=by unfold validPz;rw [decide_eq_false c2];simp
  have Hf:=zH hf;clear hf
  have C2':=zH c2;clear c2
  have C1:=zH c1;clear c1
  go_enter Tryz.func131,Tryz.ntmps131
  go_wp2
  go_ret
  exact ⟨Zaa Hf.out.symm,zA⟩
set_option maxHeartbeats 2000000 in
theorem Zgo (s:ByteArray) (w:World) (hs:s.size<=maxLen) :
  Calls Tryz.prog 189 #[.string s] w fun e w'=>e = .returned (.bool (namesB s))/\Drew w w':=by
 unfold maxLen at hs
 have hno:∀ k,k < s.size->moveNameB (bl s) k = false->namesB s = false:=by
  intro k hk h
  unfold namesB
  rw [Zno (by rw [bl_len];exact hk) h];simp
 have hyes:(∀ k,k < s.size->moveNameB (bl s) k = true)->namesB s = inR s.size 1 8:=by
  intro h
  unfold namesB
  rw [Zkw (fun k hk=>h k (by rw [bl_len] at hk;exact hk))];simp
 have Hno:=zH hno;clear hno
 have Hyes:=zH hyes;clear hyes
 go_enter Tryz.func189,Tryz.ntmps189
 go_wp2
 go_loopw [7] (fun i wr=>∃ j:Nat,j<=s.size/\i = .int .i64 j/\(∀ k,k < j->moveNameB (bl s) k = true)/\Drew w wr)
  (fun i _=>s.size - (intOf i).toNat)
 case atStart=>exact ⟨0,Nat.zero_le _,rfl,by simp,Drew.refl _⟩
 case round=>
  obtain ⟨j,hj,rfl,hr,k,rfl⟩:=hrel
  have Hr:=zH hr;clear hr
  by_cases hlt:j < s.size
  ·have hi1:(0:Int)<=(j:Int):=by omega
   have hi2:(j:Int) < (s.size:Int):=by omega
   have hL:j < (bl s).length:=by rw [bl_len];exact hlt
   have hbj:(bl s)[j] = (s[j].toNat:Int):=bl_get s j hlt _
   have hmn:moveNameB (bl s) j = (inR (s[j].toNat:Int) 65 90 && decide ((s[j].toNat:Int) ∉ (bl s).take j)):=by rw [Zdu hL,hbj]
   have Hmn:=zH hmn;clear hmn hbj hL
   have hw:wrap64 (s[j].toNat:Int) = (s[j].toNat:Int):=Zdz _ (by omega) (by have:=UInt8.toNat_lt s[j];omega)
   rcases c1:inR (s[j].toNat:Int) 65 90
   ·go_wp2_with ((go_at_call 50;(with_reducible refine (Zai (s[j].toNat:Int) 65 90 _).mono ?_);rintro e w1 ⟨rfl,rfl⟩))
    go_ret
    exact ⟨Zaa (Hno.out j hlt (by rw [Hmn.out,c1];rfl)).symm,⟨_,rfl⟩⟩
   go_wp2_with ((go_at_call 50;(with_reducible refine (Zai (s[j].toNat:Int) 65 90 _).mono ?_);rintro e w1 ⟨rfl,rfl⟩))
   go_loopw [17] (fun i wr=>∃ q:Nat,q<=j/\i = .int .i64 q/\(s[j].toNat:Int) ∉ (bl s).take q/\Drew w wr)
    (fun i _=>j - (intOf i).toNat)
   case atStart=>exact ⟨0,Nat.zero_le _,rfl,by simp,⟨_,rfl⟩⟩
   case round=>
    obtain ⟨q,hq,rfl,hu,k2,rfl⟩:=hrel
    have Hu:=zH hu;clear hu
    by_cases hlq:q < j
    ·have hqs:q < s.size:=by omega
     have hq1:(0:Int)<=(q:Int):=by omega
     have hq2:(q:Int) < (s.size:Int):=by omega
     have hbq:(bl s)[q]'(by rw [bl_len];exact hqs) = (s[q].toNat:Int):=bl_get s q hqs _
     have Hbq:=zH hbq;clear hbq
     by_cases hx:(s[q].toNat:Int) = (s[j].toNat:Int)
     ·have hqq:((s[q].toNat:Int) == (s[j].toNat:Int)) = true:=by simp [hx]
      have Hx:=zH hx;clear hx
      go_wp2
      go_quiet (fail)
      go_wp2
      go_ret
      exact ⟨Zaa (Hno.out j hlt (by rw [Hmn.out,c1,decide_eq_false (by rw [Classical.not_not,<- Hx.out,<- Hbq.out];exact List.mem_take_iff_getElem.2 ⟨q,by rw [bl_len];omega,rfl⟩)];rfl)).symm,((Drew.refl _).drewN _).drewN _⟩
     ·have hqq:((s[q].toNat:Int) == (s[j].toNat:Int)) = false:=by simpa using hx
      have Hx:=zH hx;clear hx
      go_wp2
      go_quiet (fail)
      go_wp2
      go_roundw
      case rel=>exact ⟨q + 1,by omega,by go_num,by
       rw [Zab (bl s) q (by rw [bl_len];exact hqs)];intro hm
       rcases List.mem_append.1 hm with hm | hm
       ·exact Hu.out hm
       ·simp at hm;rw [Hbq.out] at hm;exact Hx.out hm.symm,⟨_,rfl⟩⟩
      case measure=>simp [intOf];omega
    ·have hqj:q = j:=by omega
     have Hqj:=zH hqj;clear hqj
     go_wp2
     go_roundw
     case rel=>exact ⟨j + 1,by omega,by go_num,fun z hz=>by
      by_cases hzj:z = j
      ·subst hzj;rw [Hmn.out,c1,decide_eq_true (by have:=Hu.out;rwa [Hqj.out] at this)];rfl
      ·exact Hr.out z (by omega),⟨_,rfl⟩⟩
     case measure=>simp [intOf];omega
  ·rcases c5:inR s.size 1 8
   all_goals go_wp2_with ((go_at_call 50;(with_reducible refine (Zai s.size 1 8 _).mono ?_);rintro e w1 ⟨rfl,rfl⟩))
   all_goals go_ret
   all_goals exact ⟨Zaa (by rw [Hyes.out (fun z hz=>Hr.out z (by omega)),c5]),⟨_,rfl⟩⟩
set_option maxHeartbeats 2000000 in
theorem Zav (cs:List Value) (x:Puzzle) (fp:List Nat) (w:World) (h:Rp.rep w cs x fp) :
  Calls Tryz.prog 128 #[.agg cs.toArray] w fun e w'=>e = .returned (.bool (validPz x))/\Only [] w w':=by
 obtain ⟨v2,rfl,p0,p1,h2⟩:=h
 obtain ⟨A2,C2,ob,fps,rfl,-,hs⟩:=h2.open_
 have hb:=hs.bound
 have hm:=p1;unfold maxLen at hm
 have G:∀ w',Only [] w w'->Calls Tryz.prog 188 #[.int .i64 x.points,.slice A2 x.moves.length C2] w' fun e w''=>e = .returned (.bool (gensB x.points x.moves))/\Only [] w' w'':=
  fun w' hw=>Zoa x.points _ x.moves _ w' (zK h2 hw)
 have HG:=zH G;clear G
 rcases c3:gensB x.points x.moves
 ·have hf:validPz x = false:=by unfold validPz;rw [c3];rfl
  have Hf:=zH hf;clear hf
  go_enter Tryz.func128,Tryz.ntmps128
  go_wp2_with ((go_at_call 188;(with_reducible refine (HG.out _ zA).mono ?_);rintro e w1 ⟨rfl,t1⟩;have y1:=t1.cells_eq w.heap.size (by simp) (by simp)))
  go_ret
  exact ⟨Zaa Hf.out.symm,zA⟩
 rcases c4:namesB x.names
 ·have hf:validPz x = false:=by unfold validPz;rw [c3,c4];rfl
  have Hf:=zH hf;clear hf
  go_enter Tryz.func128,Tryz.ntmps128
  go_wp2_with (first | (go_at_call 188;(with_reducible refine (HG.out _ zA).mono ?_);rintro e w1 ⟨rfl,t1⟩;have y1:=t1.cells_eq w.heap.size (by simp) (by simp)) | (go_at_call 189;(with_reducible refine (Zgo x.names _ p1).mono ?_);rintro e w2 ⟨rfl,n2,rfl⟩))
  go_ret
  exact ⟨Zaa Hf.out.symm,zA⟩
 have hf:validPz x = decide (x.names.size = x.moves.length):=by unfold validPz;rw [c3,c4];rfl
 have Hf:=zH hf;clear hf
 by_cases c5:x.names.size = x.moves.length
 ·have d5:((x.names.size:Int) == (x.moves.length:Int)) = true:=by simp [c5]
  have C5:=zH c5;clear c5
  go_enter Tryz.func128,Tryz.ntmps128
  go_wp2_with (first | (go_at_call 188;(with_reducible refine (HG.out _ zA).mono ?_);rintro e w1 ⟨rfl,t1⟩;have y1:=t1.cells_eq w.heap.size (by simp) (by simp)) | (go_at_call 189;(with_reducible refine (Zgo x.names _ p1).mono ?_);rintro e w2 ⟨rfl,n2,rfl⟩))
  go_ret
  exact ⟨Zaa (by rw [Hf.out,decide_eq_true C5.out]),zA⟩
 ·have d5:((x.names.size:Int) == (x.moves.length:Int)) = false:=by rw [beq_eq_false_iff_ne];omega
  have C5:=zH c5;clear c5
  go_enter Tryz.func128,Tryz.ntmps128
  go_wp2_with (first | (go_at_call 188;(with_reducible refine (HG.out _ zA).mono ?_);rintro e w1 ⟨rfl,t1⟩;have y1:=t1.cells_eq w.heap.size (by simp) (by simp)) | (go_at_call 189;(with_reducible refine (Zgo x.names _ p1).mono ?_);rintro e w2 ⟨rfl,n2,rfl⟩))
  go_ret
  exact ⟨Zaa (by rw [Hf.out,decide_eq_false C5.out]),zA⟩
set_option maxHeartbeats 400000 in
theorem Zov (a a':Option Addr) (cap cap':Nat) (l l':List Int) (fp fp':List Nat) (w:World) (h:IntsA w a cap l fp) (h':IntsA w a' cap' l' fp') :
  Calls Tryz.prog 56 #[.slice a l.length cap,.slice a' l'.length cap'] w fun e w'=>e = .returned (.bool (eqV l l'))/\Drew w w':=by
 have hb:=h.bound
 have hb':=h'.bound
 by_cases hl:l.length = l'.length
 ·have hne:((l.length:Int) != (l'.length:Int)) = false:=by simp [hl]
  have Hl:=zH hl;clear hl
  go_enter Tryz.func56,Tryz.ntmps56
  go_wp2
  go_loopw [5] (fun i wr=>∃ j:Nat,j<=l.length/\i = .int .i64 j/\l.take j = l'.take j/\Drew w wr)
   (fun i _=>l.length - (intOf i).toNat)
  case atStart=>exact ⟨0,Nat.zero_le _,rfl,rfl,Drew.refl _⟩
  case round=>
   obtain ⟨j,hj,rfl,hr,n,rfl⟩:=hrel
   have Hr:=zH hr;clear hr
   by_cases hlt:j < l.length
   ·have hlt':j < l'.length:=by have:=Hl.out;omega
    obtain ⟨b,off,ha,-,hc⟩:=h.at_ j hlt
    obtain ⟨b',off',ha',-,hc'⟩:=h'.at_ j hlt'
    go_wp2
    go_quiet (fail)
    go_wp2
    ·have hne:(l[j] != l'[j]) = true:=by assumption
     go_ret
     exact ⟨Zaa (Znb hlt hlt' hne).symm,((Drew.refl _).drewN _).drewN _⟩
    ·have heq:(l[j] != l'[j]) = false:=by assumption
     go_roundw
     case rel=>exact ⟨j + 1,by omega,by go_num,Ziz hlt hlt' heq Hr.out,⟨_,rfl⟩⟩
     case measure=>simp [intOf];omega
   ·go_wp2
    go_ret
    exact ⟨Zaa (eqL_yes Hl.out hlt Hr.out).symm,(Drew.refl _).drewN n⟩
 ·have hne:((l.length:Int) != (l'.length:Int)) = true:=by simp;omega
  go_enter Tryz.func56,Tryz.ntmps56
  go_wp2
  go_ret
  exact ⟨Zaa (eqL_len hne).symm,Drew.refl _⟩
theorem Zar (v v':Value) (l l':List Int) (fp fp':List Nat) (w:World) (h:Rd w v l fp) (h':Rd w v' l' fp') :
  Calls Tryz.prog 56 #[v,v'] w fun e w'=>e = .returned (.bool (eqV l l'))/\Drew w w':=by
 obtain ⟨a,cap,rfl,hI⟩:=h.ints
 obtain ⟨a',cap',rfl,hI'⟩:=h'.ints
 exact Zov a a' cap cap' l l' fp fp' w hI hI'
set_option maxHeartbeats 400000 in
theorem Zta (a a':Option Addr) (cap cap':Nat) (l l':List Int) (fp fp':List Nat) (w:World) (h:IntsA w a cap l fp) (h':IntsA w a' cap' l' fp') :
  Calls Tryz.prog 245 #[.slice a l.length cap,.slice a' l'.length cap'] w fun e w'=>e = .returned (.bool (eqV l l'))/\Drew w w':=by
 have hb:=h.bound
 have hb':=h'.bound
 by_cases hl:l.length = l'.length
 ·have hne:((l.length:Int) != (l'.length:Int)) = false:=by simp [hl]
  have Hl:=zH hl;clear hl
  go_enter Tryz.func245,Tryz.ntmps245
  go_wp2
  go_loopw [5,13] (fun _ i wr=>∃ j:Nat,j<=l.length/\i = .int .i64 j/\l.take j = l'.take j/\Drew w wr)
   (fun _ i _=>l.length - (intOf i).toNat)
  case atStart=>exact ⟨0,Nat.zero_le _,rfl,rfl,Drew.refl _⟩
  case round=>
   obtain ⟨j,hj,rfl,hr,n,rfl⟩:=hrel
   have Hr:=zH hr;clear hr
   by_cases hlt:j < l.length
   ·have hlt':j < l'.length:=by have:=Hl.out;omega
    obtain ⟨b,off,ha,-,hc⟩:=h.at_ j hlt
    obtain ⟨b',off',ha',-,hc'⟩:=h'.at_ j hlt'
    go_wp2
    go_quiet (fail)
    go_wp2
    ·have hne:(l[j] != l'[j]) = true:=by assumption
     go_ret
     exact ⟨Zaa (Znb hlt hlt' hne).symm,((Drew.refl _).drewN _).drewN _⟩
    ·have heq:(l[j] != l'[j]) = false:=by assumption
     go_roundw
     case rel=>exact ⟨j + 1,by omega,by go_num,Ziz hlt hlt' heq Hr.out,⟨_,rfl⟩⟩
     case measure=>simp [intOf];omega
   ·go_wp2
    go_ret
    exact ⟨Zaa (eqL_yes Hl.out hlt Hr.out).symm,(Drew.refl _).drewN n⟩
 ·have hne:((l.length:Int) != (l'.length:Int)) = true:=by simp;omega
  go_enter Tryz.func245,Tryz.ntmps245
  go_wp2
  go_ret
  exact ⟨Zaa (eqL_len hne).symm,Drew.refl _⟩
theorem Zfc (v v':Value) (l l':List Int) (fp fp':List Nat) (w:World) (h:Rd w v l fp) (h':Rd w v' l' fp') :
  Calls Tryz.prog 245 #[v,v'] w fun e w'=>e = .returned (.bool (eqV l l'))/\Drew w w':=by
 obtain ⟨a,cap,rfl,hI⟩:=h.ints
 obtain ⟨a',cap',rfl,hI'⟩:=h'.ints
 exact Zta a a' cap cap' l l' fp fp' w hI hI'
set_option maxHeartbeats 1000000 in
theorem Zlr (f:FuncId) (caps:Array Value) (hcf:∀ args w,(callFunc f args).run Tryz.prog w = .ok (.enter f args) w)
  (v v':Value) (l l':List (List Int)) (fp fp':List Nat) (w:World) (h:Rd w v l fp) (h':Rd w v' l' fp')
  (hc:∀ (u u':Value) (x x':List Int) (f1 f1':List Nat) (w':World),Rd w' u x f1->Rd w' u' x' f1'->Calls Tryz.prog f (#[u,u'] ++ caps) w' fun e w''=>e = .returned (.bool (eqV x x'))/\Only [] w' w'') :
  Calls Tryz.prog 250 #[v,v',.func (.func f) #[] caps] w fun e w'=>e = .returned (.bool (eqV l l'))/\Only [] w w':=by
 obtain ⟨a,cap,ob,fps,rfl,-,hs⟩:=h.open_
 obtain ⟨a',cap',ob',fps',rfl,-,hs'⟩:=h'.open_
 have hb:=hs.bound
 have hb':=hs'.bound
 have HC:=zH hc
 clear hc
 by_cases hl:l.length = l'.length
 ·have hne:((l.length:Int) != (l'.length:Int)) = false:=by simp [hl]
  have Hl:=zH hl;clear hl
  go_enter Tryz.func250,Tryz.ntmps250
  go_wp2
  go_loopw [7,8,9,17] (fun _ _ _ i wr=>∃ j:Nat,j<=l.length/\i = .int .i64 j/\l.take j = l'.take j/\Only [] w wr)
   (fun _ _ _ i _=>l.length - (intOf i).toNat)
  case atStart=>exact ⟨0,Nat.zero_le _,rfl,rfl,Only.refl _ _⟩
  case round=>
   obtain ⟨j,hj,rfl,hr,hK⟩:=hrel
   have Hr:=zH hr;clear hr
   by_cases hlt:j < l.length
   ·have hlt':j < l'.length:=by have:=Hl.out;omega
    obtain ⟨b,off,u,rfl,-,c0,hv⟩:=hs.atRow j hlt
    obtain ⟨b',off',u',rfl,-,c0',hv'⟩:=hs'.atRow j hlt'
    have c:=hK.cell (by simp) c0
    have c':=hK.cell (by simp) c0'
    clear c0 c0'
    rcases hq:eqV l[j] l'[j]
    all_goals go_wp2_with (with_reducible refine (HC.out u u' l[j] l'[j] _ _ wr (zK hv hK) (zK hv' hK)).mono ?_;rintro e w1 ⟨rfl,hk1⟩)
    ·go_ret
     exact ⟨Zaa (eqL_no hlt hlt' hq).symm,hK.trans hk1⟩
    ·go_roundw
     case rel=>exact ⟨j + 1,by omega,by go_num,Zpj hlt hlt' hq Hr.out,hK.trans hk1⟩
     case measure=>simp [intOf];omega
   ·go_wp2
    go_ret
    exact ⟨Zaa (eqL_yes Hl.out hlt Hr.out).symm,hK⟩
 ·have hne:((l.length:Int) != (l'.length:Int)) = true:=by simp;omega
  go_enter Tryz.func250,Tryz.ntmps250
  go_wp2
  go_ret
  exact ⟨Zaa (eqL_len hne).symm,Only.refl _ _⟩
theorem Zhb (u u':Value) (x x':List Int) (f1 f1':List Nat) (w:World) (h:Rd w u x f1) (h':Rd w u' x' f1') :
  Calls Tryz.prog 251 #[u,u'] w fun e w'=>e = .returned (.bool (eqV x x'))/\Only [] w w':=by
 go_enter Tryz.func251,Tryz.ntmps251
 go_wp2_with ((go_at_call 245;(with_reducible refine (Zfc u u' x x' _ _ _ h h').mono ?_);rintro e w1 ⟨rfl,d1⟩))
 go_ret
 exact ⟨rfl,d1.only _⟩
theorem Zfn (v v':Value) (l l':List (List Int)) (fp fp':List Nat) (w:World) (h:Rd w v l fp) (h':Rd w v' l' fp') :
  Calls Tryz.prog 246 #[v,v'] w fun e w'=>e = .returned (.bool (eqV l l'))/\Only [] w w':=by
 have Hc:=zH (Zlr 251 #[] Tryz.call251 v v' l l' fp fp' w h h' (fun u u' x x' f1 f1' w' r r'=>Zhb u u' x x' f1 f1' w' r r'))
 go_enter Tryz.func246,Tryz.ntmps246
 go_wp2_with ((go_at_call 250;(with_reducible refine (Hc.out).mono ?_);rintro e w1 ⟨rfl,t1⟩))
 go_ret
 exact ⟨rfl,t1⟩
theorem Table.ne1 {t t':Table} (h:eqV t.tracked t'.tracked = false):eqV t t' = false:=eqV_no fun he=>(eqV_iff'.1 h) (by rw [he])
theorem Table.ne2 {t t':Table} (h:eqV t.patterns t'.patterns = false):eqV t t' = false:=eqV_no fun he=>(eqV_iff'.1 h) (by rw [he])
theorem Table.ne3 {t t':Table} (h:eqV t.distances t'.distances = false):eqV t t' = false:=eqV_no fun he=>(eqV_iff'.1 h) (by rw [he])
theorem Table.eq3 {t t':Table} (h1:eqV t.tracked t'.tracked = true) (h2:eqV t.patterns t'.patterns = true) (h3:eqV t.distances t'.distances = true):eqV t t' = true:=
 eqV_yes (Table.eq_iff.2 ⟨eqV_iff.1 h1,eqV_iff.1 h2,eqV_iff.1 h3⟩)
set_option maxHeartbeats 1000000 in
theorem Ziu (cs cs':List Value) (t t':Table) (fp fp':List Nat) (w:World) (h:Rp.rep w cs t fp) (h':Rp.rep w cs' t' fp') :
  Calls Tryz.prog 235 #[.agg cs.toArray,.agg cs'.toArray] w fun e w'=>e = .returned (.bool (eqV t t'))/\Only [] w w':=by
 obtain ⟨v0,v1,v2,f0,f1,f2,rfl,rfl,h0,h1,h2⟩:=h
 obtain ⟨v0',v1',v2',f0',f1',f2',rfl,rfl,h0',h1',h2'⟩:=h'
 rcases q0:eqV t.tracked t'.tracked
 ·go_enter Tryz.func235,Tryz.ntmps235
  go_wp2_with ((go_at_call 245;(with_reducible refine (Zfc v0 v0' t.tracked t'.tracked _ _ _ (zK h0 zA) (zK h0' zA)).mono ?_);rintro e w1 ⟨rfl,n1,rfl⟩))
  go_ret
  exact ⟨Zaa (Table.ne1 q0).symm,zA⟩
 rcases q1:eqV t.patterns t'.patterns
 ·go_enter Tryz.func235,Tryz.ntmps235
  go_wp2_with (first
   | (go_at_call 245;(with_reducible refine (Zfc v0 v0' t.tracked t'.tracked _ _ _ (zK h0 zA) (zK h0' zA)).mono ?_);rintro e w1 ⟨rfl,n1,rfl⟩)
   | (go_at_call 246;(with_reducible refine (Zfn v1 v1' t.patterns t'.patterns _ _ _ (zK h1 zA) (zK h1' zA)).mono ?_);rintro e w2 ⟨rfl,t2⟩))
  go_ret
  exact ⟨Zaa (Table.ne2 q1).symm,zA⟩
 rcases q2:eqV t.distances t'.distances
 all_goals go_enter Tryz.func235,Tryz.ntmps235
 all_goals go_wp2_with (first
   | (go_at_call 245;(with_reducible refine (Zfc v0 v0' t.tracked t'.tracked _ _ _ (zK h0 zA) (zK h0' zA)).mono ?_);rintro e w1 ⟨rfl,n1,rfl⟩)
   | (go_at_call 246;(with_reducible refine (Zfn v1 v1' t.patterns t'.patterns _ _ _ (zK h1 zA) (zK h1' zA)).mono ?_);rintro e w2 ⟨rfl,t2⟩;have y0:=t2.cells_eq w.heap.size (by simp;try omega) (by simp);have y1:=t2.cells_eq (w.heap.size + 1) (by simp) (by simp))
   | (go_at_call 245;(with_reducible refine (Zfc v2 v2' t.distances t'.distances _ _ _ (zK h2 zA) (zK h2' zA)).mono ?_);rintro e w3 ⟨rfl,n3,rfl⟩))
 ·go_ret
  exact ⟨Zaa (Table.ne3 q2).symm,zA⟩
 ·go_ret
  exact ⟨Zaa (Table.eq3 q0 q1 q2).symm,zA⟩
set_option maxHeartbeats 1000000 in
theorem Zeu (cs cs':List Value) (t t':Table) (fp fp':List Nat) (w:World) (h:Rp.rep w cs t fp) (h':Rp.rep w cs' t' fp') :
  Calls Tryz.prog 15 #[.agg cs.toArray,.agg cs'.toArray] w fun e w'=>e = .returned (.bool (eqV t t'))/\Only [] w w':=by
 obtain ⟨v0,v1,v2,f0,f1,f2,rfl,rfl,h0,h1,h2⟩:=h
 obtain ⟨v0',v1',v2',f0',f1',f2',rfl,rfl,h0',h1',h2'⟩:=h'
 rcases q0:eqV t.tracked t'.tracked
 ·go_enter Tryz.func15,Tryz.ntmps15
  go_wp2_with ((go_at_call 56;(with_reducible refine (Zar v0 v0' t.tracked t'.tracked _ _ _ (zK h0 zA) (zK h0' zA)).mono ?_);rintro e w1 ⟨rfl,n1,rfl⟩))
  go_ret
  exact ⟨Zaa (Table.ne1 q0).symm,zA⟩
 rcases q2:eqV t.distances t'.distances
 ·go_enter Tryz.func15,Tryz.ntmps15
  go_wp2_with (first
   | (go_at_call 56;(with_reducible refine (Zar v0 v0' t.tracked t'.tracked _ _ _ (zK h0 zA) (zK h0' zA)).mono ?_);rintro e w1 ⟨rfl,n1,rfl⟩)
   | (go_at_call 56;(with_reducible refine (Zar v2 v2' t.distances t'.distances _ _ _ (zK h2 zA) (zK h2' zA)).mono ?_);rintro e w3 ⟨rfl,n3,rfl⟩))
  go_ret
  exact ⟨Zaa (Table.ne3 q2).symm,zA⟩
 generalize hl:t.patterns = l at *
 generalize hl':t'.patterns = l' at *
 have L1:=zH hl
 have L2:=zH hl'
 clear hl hl'
 obtain ⟨a,cap,ob,fps,rfl,rfl,hs⟩:=h1.open_
 obtain ⟨a',cap',ob',fps',rfl,rfl,hs'⟩:=h1'.open_
 have hb:=hs.bound
 have hb':=hs'.bound
 by_cases hlen:l.length ≠ l'.length
 ·have hne:((l.length:Int) != (l'.length:Int)) = true:=by simp;omega
  go_enter Tryz.func15,Tryz.ntmps15
  go_wp2_with (first
   | (go_at_call 56;(with_reducible refine (Zar v0 v0' t.tracked t'.tracked _ _ _ (zK h0 zA) (zK h0' zA)).mono ?_);rintro e w1 ⟨rfl,n1,rfl⟩)
   | (go_at_call 56;(with_reducible refine (Zar v2 v2' t.distances t'.distances _ _ _ (zK h2 zA) (zK h2' zA)).mono ?_);rintro e w3 ⟨rfl,n3,rfl⟩))
  go_ret
  exact ⟨Zaa (Table.ne2 (by rw [L1.out,L2.out];exact eqL_len hne)).symm,zA⟩
 have hlen:=Classical.not_not.1 hlen
 have hne:((l.length:Int) != (l'.length:Int)) = false:=by simp [hlen]
 have Hl:=zH hlen;clear hlen
 go_enter Tryz.func15,Tryz.ntmps15
 go_wp2_with (first
   | (go_at_call 56;(with_reducible refine (Zar v0 v0' t.tracked t'.tracked _ _ _ (zK h0 zA) (zK h0' zA)).mono ?_);rintro e w1 ⟨rfl,n1,rfl⟩)
   | (go_at_call 56;(with_reducible refine (Zar v2 v2' t.distances t'.distances _ _ _ (zK h2 zA) (zK h2' zA)).mono ?_);rintro e w3 ⟨rfl,n3,rfl⟩))
 go_loopw [5] (fun i wr=>∃ j:Nat,j<=l.length/\i = .int .i64 j/\l.take j = l'.take j/\Drew ((w.alloc (.cells #[v0,.slice a l.length cap,v2] 41)).alloc (.cells #[v0',.slice a' l'.length cap',v2'] 41)) wr)
  (fun i _=>l.length - (intOf i).toNat)
 case atStart=>exact ⟨0,Nat.zero_le _,rfl,rfl,⟨_,rfl⟩⟩
 case round=>
  obtain ⟨j,hj,rfl,hr,n,rfl⟩:=hrel
  have Hr:=zH hr;clear hr
  by_cases hlt:j < l.length
  ·have hlt':j < l'.length:=by have:=Hl.out;omega
   obtain ⟨b,off,u,rfl,-,c0,hv⟩:=hs.atRow j hlt
   obtain ⟨b',off',u',rfl,-,c0',hv'⟩:=hs'.atRow j hlt'
   have k0:=World.block_lt_of_cell? w _ c0
   have k0':=World.block_lt_of_cell? w _ c0'
   simp only at k0 k0'
   have l0:b < w.heap.size + 1:=by omega
   have l0':b' < w.heap.size + 1:=by omega
   rcases hq:eqV l[j] l'[j]
   all_goals go_wp2
   all_goals go_quiet ((go_at_call 56;exact Zay (Zar u u' l[j] l'[j] _ _ _ (zK hv ((((Only.refl [] w).alloc _).alloc _).drewN _)) (zK hv' ((((Only.refl [] w).alloc _).alloc _).drewN _)))))
   all_goals go_wp2
   ·go_ret
    exact ⟨Zaa (Table.ne2 (by rw [L1.out,L2.out];exact eqL_no hlt hlt' hq)).symm,zA⟩
   ·go_roundw
    case rel=>exact ⟨j + 1,by omega,by go_num,Zpj hlt hlt' hq Hr.out,⟨_,rfl⟩⟩
    case measure=>simp [intOf];omega
  ·go_wp2
   go_ret
   exact ⟨Zaa (Table.eq3 q0 (by rw [L1.out,L2.out];exact eqL_yes Hl.out hlt Hr.out) q2).symm,zA⟩
def Inc (n:Int) (l:List Int):Prop:=(∀ x∈l,0<=x/\x < n)/\l.Pairwise (· < ·)
instance (n:Int) (l:List Int):Decidable (Inc n l):=inferInstanceAs (Decidable (_/\_))
def Dis (n:Int) (l:List Int):Prop:=(∀ x∈l,0<=x/\x < n)/\l.Nodup
instance (n:Int) (l:List Int):Decidable (Dis n l):=inferInstanceAs (Decidable (_/\_))
def trackB (n:Int) (l:List Int):Bool:=decide (0 < l.length) && decide (Inc n l)
def patB (n:Int) (k:Nat) (l:List Int):Bool:=decide (l.length = k) && decide (Dis n l)
theorem Zed {l:List Int} {j:Nat} (h:j < l.length) (h1:(l.take j).Pairwise (· < ·)) (h2:∀ i (hi:i + 1 = j),l[i]'(by omega) < l[j]):(l.take (j + 1)).Pairwise (· < ·):=by
 rw [Zab l j h]
 refine List.pairwise_append.2 ⟨h1,by simp,fun a ha b hb=>?_⟩
 simp at hb;subst hb
 rcases Nat.eq_zero_or_pos j with h0 | h0
 ·subst h0;simp at ha
 ·obtain ⟨i,rfl⟩:∃ i,j = i + 1:=⟨j - 1,by omega⟩
  have hi:i < l.length:=by omega
  have h3:=h2 i rfl
  obtain ⟨k,hk,rfl⟩:=List.mem_take_iff_getElem.1 ha
  rcases Nat.lt_or_ge k i with hki | hki
  ·rw [Zab l i hi] at h1
   have:=(List.pairwise_append.1 h1).2.2 l[k] (List.mem_take_iff_getElem.2 ⟨k,by omega,rfl⟩) l[i] (by simp)
   omega
  ·have:k = i:=by omega
   subst this;exact h3
theorem Ziv {l:List Int} {i:Nat} (h:i + 1 < l.length) (h2:¬ l[i] < l[i + 1]):¬ l.Pairwise (· < ·):=by
 intro hp
 exact h2 (List.pairwise_iff_getElem.1 hp i (i + 1) (by omega) h (by omega))
theorem inc_ge {l:List Int} (h0:∀ x∈l,0<=x) (hp:l.Pairwise (· < ·)):∀ k (hk:k < l.length),(k:Int)<=l[k]:=by
 intro k
 induction k with
 | zero=>intro hk;have:=h0 _ (List.getElem_mem hk);omega
 | succ k ih=>
  intro hk
  have h1:=ih (by omega)
  have h2:=List.pairwise_iff_getElem.1 hp k (k + 1) (by omega) hk (by omega)
  omega
theorem Inc.len {n:Int} {l:List Int} (h:Inc n l):(l.length:Int)<=n\/l.length = 0:=by
 rcases Nat.eq_zero_or_pos l.length with h0 | h0
 ·exact .inr h0
 ·left
  have h1:=inc_ge (fun x hx=>(h.1 x hx).1) h.2 (l.length - 1) (by omega)
  have h2:=(h.1 l[l.length - 1] (List.getElem_mem _)).2
  omega
theorem Ztw {l:List Int} (h:l.Pairwise (· < ·)):l.Nodup:=by
 rw [List.nodup_iff_pairwise_ne]
 exact h.imp fun h=>Int.ne_of_lt h
theorem Inc.dis {n:Int} {l:List Int} (h:Inc n l):Dis n l:=⟨h.1,Ztw h.2⟩
theorem Zbb {n:Int} {l:List Int}:trackB n l = true ↔ 0 < l.length/\Inc n l:=by simp [trackB]
theorem Zaz {n:Int} {k:Nat} {l:List Int}:patB n k l = true ↔ l.length = k/\Dis n l:=by simp [patB]
theorem Znr {n:Int} {l:List Int} (h:¬ Inc n l):trackB n l = false:=by simp [trackB,h]
theorem Zev {n:Int} {l:List Int} (h:trackB n l = true):patB n l.length l = true:=Zaz.2 ⟨rfl,(Zbb.1 h).2.dis⟩
theorem Zjb (i:Nat) (h:i < 9223372036854775807):wrap64 (((i + 1:Nat):Int) - 1) = (i:Int):=by unfold wrap64;omega
set_option maxHeartbeats 1000000 in
theorem Zld (n:Int) (a:Option Addr) (cap:Nat) (l:List Int) (fp:List Nat) (w:World) (h:IntsA w a cap l fp) (n0:0<=n) (n1:n<=1000) :
  Calls Tryz.prog 185 #[.int .i64 n,.slice a l.length cap] w fun e w'=>e = .returned (.bool (trackB n l))/\Drew w w':=by
 have hb:=h.bound
 rcases hq:inR l.length 1 n
 ·go_enter Tryz.func185,Tryz.ntmps185
  go_wp2_with ((go_at_call 53;(with_reducible refine (Zaj l.length 1 n _).mono ?_);rintro e w1 ⟨rfl,rfl⟩))
  go_ret
  exact ⟨Zaa (by
   rw [eq_comm,<- Bool.not_eq_true,Zbb];rintro ⟨h0,h1⟩
   rw [inR_not] at hq;have:=h1.len;omega),Drew.refl _⟩
 obtain ⟨g1,g2⟩:=inR_iff.1 hq
 have hfin:trackB n l = decide (Inc n l):=by unfold trackB;rw [decide_eq_true (by omega)];rfl
 have Hfin:=zH hfin;clear hfin
 go_enter Tryz.func185,Tryz.ntmps185
 go_wp2_with ((go_at_call 53;(with_reducible refine (Zaj l.length 1 n _).mono ?_);rintro e w ⟨rfl,rfl⟩))
 go_loopw [5] (fun i wr=>∃ j:Nat,j<=l.length/\i = .int .i64 j/\(∀ x∈l.take j,0<=x/\x < n)/\(l.take j).Pairwise (· < ·)/\Drew w wr)
  (fun i _=>l.length - (intOf i).toNat)
 case atStart=>exact ⟨0,Nat.zero_le _,rfl,by simp,by simp,Drew.refl _⟩
 case round=>
  obtain ⟨j,hj,rfl,hr,hn,k,rfl⟩:=hrel
  have Hr:=zH hr;clear hr
  have Hn:=zH hn;clear hn
  by_cases hlt:j < l.length
  ·rcases c1:inR l[j] 0 (n - 1)
   ·obtain ⟨b,off,rfl,-,hc⟩:=h.at_ j hlt
    go_wp2
    go_quiet ((go_at_call 53;exact Zay (Zdo l[j] 0 (n - 1) _)))
    go_wp2
    go_ret
    exact ⟨Zaa (by rw [Hfin.out,eq_comm,decide_eq_false_iff_not];intro hp;have:=hp.1 l[j] (List.getElem_mem _);rw [inR_not] at c1;omega),((Drew.refl _).drewN _).drewN _⟩
   have hx:=inR_iff.1 c1
   have Hx:=zH hx;clear hx
   rcases Nat.eq_zero_or_pos j with hj0 | hj0
   ·subst hj0
    obtain ⟨b,off,rfl,-,hc⟩:=h.at_ 0 hlt
    rw [Nat.add_zero] at hc
    go_wp2
    go_quiet ((go_at_call 53;exact Zay (Zdo l[0] 0 (n - 1) _)))
    go_wp2
    go_roundw
    case rel=>exact ⟨1,by omega,by go_num,Zbr hlt Hr.out (by have:=Hx.out;omega),Zed hlt Hn.out (by intro i hi;omega),⟨_,rfl⟩⟩
    case measure=>simp [intOf];omega
   ·obtain ⟨i,rfl⟩:∃ i,j = i + 1:=⟨j - 1,by omega⟩
    have hi:i < l.length:=by omega
    have hw:=Zjb i (by omega)
    have hgt:decide ((((i + 1:Nat):Int)) > 0) = true:=decide_eq_true (by omega)
    obtain ⟨b,off,rfl,-,hc⟩:=h.at_ (i + 1) hlt
    obtain ⟨b2,off2,he,-,hc2⟩:=h.at_ i hi
    obtain ⟨rfl,rfl⟩:b = b2/\off = off2:=by simpa using he
    by_cases c2:l[i + 1]<=l[i]
    ·have d2:decide (l[i + 1]<=l[i]) = true:=decide_eq_true c2
     have C2:=zH c2;clear c2
     go_wp2
     go_quiet ((go_at_call 53;exact Zay (Zdo l[i + 1] 0 (n - 1) _)))
     go_wp2
     go_ret
     exact ⟨Zaa (by rw [Hfin.out,eq_comm,decide_eq_false_iff_not];intro hp;exact Ziv hlt (by have:=C2.out;omega) hp.2),((Drew.refl _).drewN _).drewN _⟩
    ·have d2:decide (l[i + 1]<=l[i]) = false:=decide_eq_false c2
     have C2:=zH c2;clear c2
     go_wp2
     go_quiet ((go_at_call 53;exact Zay (Zdo l[i + 1] 0 (n - 1) _)))
     go_wp2
     go_roundw
     case rel=>exact ⟨i + 2,by omega,by go_num,Zbr hlt Hr.out (by have:=Hx.out;omega),Zed hlt Hn.out (by
      intro q hq;have:q = i:=(by omega);subst this;have:=C2.out;omega),⟨_,rfl⟩⟩
     case measure=>simp [intOf];omega
  ·go_wp2
   go_ret
   exact ⟨Zaa (by rw [Hfin.out,eq_comm,decide_eq_true_iff];have h1:=Hr.out;have h2:=Hn.out;rw [List.take_of_length_le (by omega)] at h1 h2;exact ⟨h1,h2⟩),⟨_,rfl⟩⟩
theorem Zmk (n:Int) (v:Value) (l:List Int) (fp:List Nat) (w:World) (h:Rd w v l fp) (n0:0<=n) (n1:n<=1000) :
  Calls Tryz.prog 185 #[.int .i64 n,v] w fun e w'=>e = .returned (.bool (trackB n l))/\Drew w w':=by
 obtain ⟨a,cap,rfl,hI⟩:=h.ints
 exact Zld n a cap l fp w hI n0 n1
theorem Zfu (n x:Int) (w:World) (n0:0<=n) (n1:n<=1000) :
  Calls Tryz.prog 225 #[.int .i64 n,.int .i64 x] w fun e w'=>e = .returned (.bool (inR x 0 (n - 1)))/\Drew w w':=by
 go_enter Tryz.func225,Tryz.ntmps225
 go_wp2_with ((go_at_call 50;(with_reducible refine (Zai x 0 (n - 1) _).mono ?_);rintro e w1 ⟨rfl,rfl⟩))
 go_ret
 exact ⟨rfl,Drew.refl _⟩
set_option maxHeartbeats 1000000 in
theorem Zos (n:Int) (a:Option Addr) (cap:Nat) (l:List Int) (fp:List Nat) (w:World) (h:IntsA w a cap l fp) (n0:0<=n) (n1:n<=1000) :
  Calls Tryz.prog 175 #[.int .i64 n,.slice a l.length cap] w fun e w'=>e = .returned (.bool (trackB n l))/\Drew w w':=by
 have hb:=h.bound
 go_enter Tryz.func175,Tryz.ntmps175
 go_wp2
 go_loopw [9] (fun i wr=>∃ j:Nat,j<=l.length/\i = .int .i64 j/\(∀ x∈l.take j,0<=x/\x < n)/\(l.take j).Pairwise (· < ·)/\Drew w wr)
  (fun i _=>l.length - (intOf i).toNat)
 case atStart=>exact ⟨0,Nat.zero_le _,rfl,by simp,by simp,Drew.refl _⟩
 case round=>
  obtain ⟨j,hj,rfl,hr,hn,k,rfl⟩:=hrel
  have Hr:=zH hr;clear hr
  have Hn:=zH hn;clear hn
  by_cases hlt:j < l.length
  ·rcases c1:inR l[j] 0 (n - 1)
   ·obtain ⟨b,off,rfl,-,hc⟩:=h.at_ j hlt
    go_wp2_with ((go_at_call 225;(with_reducible refine (Zfu n l[j] _ n0 n1).mono ?_);rintro e w1 ⟨rfl,m,rfl⟩))
    go_ret
    exact ⟨Zaa (by rw [eq_comm];exact Znr fun hp=>by have:=hp.1 l[j] (List.getElem_mem _);rw [inR_not] at c1;omega),⟨_,rfl⟩⟩
   have hx:=inR_iff.1 c1
   have Hx:=zH hx;clear hx
   rcases Nat.eq_zero_or_pos j with hj0 | hj0
   ·subst hj0
    obtain ⟨b,off,rfl,-,hc⟩:=h.at_ 0 hlt
    rw [Nat.add_zero] at hc
    go_wp2_with ((go_at_call 225;(with_reducible refine (Zfu n l[0] _ n0 n1).mono ?_);rintro e w1 ⟨rfl,m,rfl⟩))
    go_roundw
    case rel=>exact ⟨1,by omega,by go_num,Zbr hlt Hr.out (by have:=Hx.out;omega),Zed hlt Hn.out (by intro i hi;omega),⟨_,rfl⟩⟩
    case measure=>simp [intOf];omega
   ·obtain ⟨i,rfl⟩:∃ i,j = i + 1:=⟨j - 1,by omega⟩
    have hi:i < l.length:=by omega
    have hw:=Zjb i (by omega)
    have hgt:decide ((((i + 1:Nat):Int)) > 0) = true:=decide_eq_true (by omega)
    obtain ⟨b,off,rfl,-,hc⟩:=h.at_ (i + 1) hlt
    obtain ⟨b2,off2,he,-,hc2⟩:=h.at_ i hi
    obtain ⟨rfl,rfl⟩:b = b2/\off = off2:=by simpa using he
    by_cases c2:l[i + 1]<=l[i]
    ·have d2:decide (l[i] ≥ l[i + 1]) = true:=decide_eq_true c2
     have C2:=zH c2;clear c2
     go_wp2_with ((go_at_call 225;(with_reducible refine (Zfu n l[i + 1] _ n0 n1).mono ?_);rintro e w1 ⟨rfl,m,rfl⟩))
     go_ret
     exact ⟨Zaa (by rw [eq_comm];exact Znr fun hp=>Ziv hlt (by have:=C2.out;omega) hp.2),⟨_,rfl⟩⟩
    ·have d2:decide (l[i] ≥ l[i + 1]) = false:=decide_eq_false c2
     have C2:=zH c2;clear c2
     go_wp2_with ((go_at_call 225;(with_reducible refine (Zfu n l[i + 1] _ n0 n1).mono ?_);rintro e w1 ⟨rfl,m,rfl⟩))
     go_roundw
     case rel=>exact ⟨i + 2,by omega,by go_num,Zbr hlt Hr.out (by have:=Hx.out;omega),Zed hlt Hn.out (by
      intro q hq;have:q = i:=(by omega);subst this;have:=C2.out;omega),⟨_,rfl⟩⟩
     case measure=>simp [intOf];omega
  ·go_wp2
   go_ret
   refine ⟨Zaa ?_,⟨_,rfl⟩⟩
   have h1:=Hr.out;have h2:=Hn.out;rw [List.take_of_length_le (by omega)] at h1 h2
   unfold trackB
   rw [decide_eq_true (show Inc n l from ⟨h1,h2⟩)];simp
theorem Zqa (n:Int) (v:Value) (l:List Int) (fp:List Nat) (w:World) (h:Rd w v l fp) (n0:0<=n) (n1:n<=1000) :
  Calls Tryz.prog 175 #[.int .i64 n,v] w fun e w'=>e = .returned (.bool (trackB n l))/\Drew w w':=by
 obtain ⟨a,cap,rfl,hI⟩:=h.ints
 exact Zos n a cap l fp w hI n0 n1
end Go.Proofs.YthleokaeobdamaaGreat
