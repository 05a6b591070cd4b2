/- Ranges, words: the program's and the reference's tests on them. -/
import Derived.Test.YtclhblofchfglaaGreatRowSolveWithTablesG1
namespace Go.Proofs.YtclhblofchfglaaGreat
open Go.RowKit
set_option maxRecDepth 10000
def inR (x lo hi:Int):Bool:=decide (lo<=x) && decide (x<=hi)
theorem inR_iff {x lo hi:Int}:inR x lo hi = true ↔ lo<=x/\x<=hi:=by simp [inR]
theorem inR_not {x lo hi:Int}:inR x lo hi = false ↔ ¬ (lo<=x/\x<=hi):=by rw [<- inR_iff];simp
theorem Zah (x lo hi:Int) (w:World) :
  Calls Tryz.prog 88 #[.int .i64 x,.int .i64 lo,.int .i64 hi] w fun e w'=>e = .returned (.bool (inR x lo hi))/\w' = w:=by
 by_cases h1:lo<=x
 ·by_cases h2:x<=hi
  ·go_enter Tryz.func88,Tryz.ntmps88
   go_wp2
   go_ret
   exact ⟨Zaa (by simp [inR,h1,h2]),rfl⟩
  ·go_enter Tryz.func88,Tryz.ntmps88
   go_wp2
   go_ret
   exact ⟨Zaa (by simp [inR,h2]),rfl⟩
 ·go_enter Tryz.func88,Tryz.ntmps88
  go_wp2
  go_ret
  exact ⟨Zaa (by simp [inR];omega),rfl⟩
theorem Zaj (x lo hi:Int) (w:World) :
  Calls Tryz.prog 96 #[.int .i64 x,.int .i64 lo,.int .i64 hi] w fun e w'=>e = .returned (.bool (inR x lo hi))/\w' = w:=by
 by_cases h1:lo<=x
 ·by_cases h2:x<=hi
  ·go_enter Tryz.func96,Tryz.ntmps96
   go_wp2
   go_ret
   exact ⟨Zaa (by simp [inR,h1,h2]),rfl⟩
  ·go_enter Tryz.func96,Tryz.ntmps96
   go_wp2
   go_ret
   exact ⟨Zaa (by simp [inR,h2]),rfl⟩
 ·go_enter Tryz.func96,Tryz.ntmps96
  go_wp2
  go_ret
  exact ⟨Zaa (by simp [inR];omega),rfl⟩
def okLetter (g x:Int):Bool:=decide (x ≠ 0) && inR x (-(min g 8)) (min g 8)
def validW (g:Int) (l:List Int):Bool:=decide (l.length<=200) && l.all (okLetter g)
theorem Zha {g x:Int}:okLetter g x = true ↔ x ≠ 0/\-(min g 8)<=x/\x<=min g 8:=by simp [okLetter,inR_iff]
theorem Zcg {g x:Int}:okLetter g x = false ↔ ¬ (x ≠ 0/\-(min g 8)<=x/\x<=min g 8):=by rw [<- Zha];simp
theorem Zfa {g:Int} {l:List Int} {j:Nat} (hj:j < l.length) (h:okLetter g l[j] = false):validW g l = false:=by
 unfold validW
 have:l.all (okLetter g) = false:=by
  rw [List.all_eq_false];exact ⟨l[j],List.getElem_mem _,by simp [h]⟩
 rw [this];simp
theorem Zfv {g:Int} {l:List Int} (h:200 < l.length):validW g l = false:=by
 unfold validW
 have:decide (l.length<=200) = false:=by simp;omega
 rw [this];rfl
theorem Zpx {g:Int} {l:List Int} (h:l.length<=200) (h2:∀ x∈l,okLetter g x = true):validW g l = true:=by
 unfold validW
 simp only [h,decide_true,Bool.true_and,List.all_eq_true]
 exact h2
theorem Zcs {g:Int} {l:List Int} (h:validW g l = true):l.length<=200:=by
 unfold validW at h;simp at h;exact h.1
theorem Zrc {pr:Int->Bool} {l:List Int} {j:Nat} (hj:j < l.length) (h:∀ x∈l.take j,pr x = true) (hp:pr l[j] = true):∀ x∈l.take (j + 1),pr x = true:=by
 rw [Zab l j hj];intro x hx
 rcases List.mem_append.1 hx with hx | hx
 ·exact h x hx
 ·simp at hx;subst hx;exact hp
set_option maxHeartbeats 1000000 in
theorem Zpl (g:Int) (v:Value) (l:List Int) (fp:List Nat) (w:World) (h:Rd w v l fp) (g0:0<=g) (g1:g<=4611686018427387904) :
  Calls Tryz.prog 111 #[.int .i64 g,v] w fun e w'=>e = .returned (.bool (validW g l))/\Drew w w':=by
 obtain ⟨a,cap,rfl,hI⟩:=h.ints
 have hb:=hI.bound
 by_cases hlen:200 < l.length
 ·go_enter Tryz.func111,Tryz.ntmps111
  go_wp2
  go_ret
  exact ⟨Zaa (Zfv hlen).symm,Drew.refl _⟩
 go_enter Tryz.func111,Tryz.ntmps111
 go_wp2
 go_loopw [5] (fun i wr=>∃ j:Nat,j<=l.length/\i = .int .i64 j/\(∀ x∈l.take j,okLetter g x = true)/\Drew w wr)
  (fun i _=>l.length - (intOf i).toNat)
 case atStart=>exact ⟨0,Nat.zero_le _,rfl,by simp,Drew.refl _⟩
 case round=>
  obtain ⟨j,hj,rfl,hr,n,rfl⟩:=hrel
  have Hr:=zH hr;clear hr
  by_cases hlt:j < l.length
  ·obtain ⟨b,off,rfl,-,hc⟩:=hI.at_ j hlt
   generalize hx:l[j] = x at *
   have Hx:=zH hx
   clear hx
   by_cases c0:x = 0
   ·have t0:(x == 0) = true:=by simpa using c0
    have C0:=zH c0;clear c0
    go_wp2
    go_ret
    exact ⟨Zaa (Zfa hlt (by rw [Hx.out,Zcg];exact fun hh=>hh.1 C0.out)).symm,⟨_,rfl⟩⟩
   have t0:(x == 0) = false:=by simpa using c0
   have C0:=zH c0;clear c0
   rcases c1:inR x (-8) 8
   ·go_wp2_with ((go_at_call 88;(with_reducible refine (Zah x (-8) 8 _).mono ?_);rintro e w1 ⟨rfl,rfl⟩))
    go_ret
    exact ⟨Zaa (Zfa hlt (by rw [Hx.out,Zcg];rw [inR_not] at c1;omega)).symm,⟨_,rfl⟩⟩
   have c2:=inR_iff.1 c1
   obtain ⟨c2,c3⟩:=c2
   by_cases c4:g < x
   ·go_wp2_with ((go_at_call 88;(with_reducible refine (Zah x (-8) 8 _).mono ?_);rintro e w1 ⟨rfl,rfl⟩))
    go_ret
    exact ⟨Zaa (Zfa hlt (by rw [Hx.out,Zcg];omega)).symm,⟨_,rfl⟩⟩
   by_cases c5:g < -x
   ·go_wp2_with ((go_at_call 88;(with_reducible refine (Zah x (-8) 8 _).mono ?_);rintro e w1 ⟨rfl,rfl⟩))
    go_ret
    exact ⟨Zaa (Zfa hlt (by rw [Hx.out,Zcg];omega)).symm,⟨_,rfl⟩⟩
   go_wp2_with ((go_at_call 88;(with_reducible refine (Zah x (-8) 8 _).mono ?_);rintro e w1 ⟨rfl,rfl⟩))
   go_roundw
   case rel=>exact ⟨j + 1,by omega,by go_num,Zrc hlt Hr.out (by rw [Hx.out,Zha];exact ⟨C0.out,by omega,by omega⟩),⟨_,rfl⟩⟩
   case measure=>simp [intOf];omega
  ·go_wp2
   go_ret
   exact ⟨Zaa (Zpx (by omega) (by have:=Hr.out;rwa [List.take_of_length_le (by omega)] at this)).symm,⟨_,rfl⟩⟩
theorem Zbu (v:Value) (l:List Int) (fp:List Nat) (w:World) (h:Rd w v l fp) :
  Calls Tryz.prog 62 #[v] w fun e w'=>e = .returned (.bool (validW 8 l))/\Drew w w':=by
 go_enter Tryz.func62,Tryz.ntmps62
 go_wp2_with ((go_at_call 111;(with_reducible refine (Zpl 8 v l _ _ h (by omega) (by omega)).mono ?_);rintro e w1 ⟨rfl,n1,rfl⟩))
 go_ret
 exact ⟨rfl,⟨_,rfl⟩⟩
set_option maxHeartbeats 1000000 in
theorem Zdu (x m:Int) (m0:0<=m) (m1:m<=8) (b:Nat) (w:World) (hc:w.cell? ⟨b,0,none⟩ = some (.int .i64 m)) :
  Calls Tryz.prog 187 #[.int .i64 x,.pointer (some ⟨b,0,none⟩)] w fun e w'=>e = .returned (.bool (!okLetter m x))/\Only [] w w':=by
 by_cases c0:x = 0
 ·have t0:(x == 0) = true:=by simpa using c0
  have C0:=zH c0;clear c0
  go_enter Tryz.func187,Tryz.ntmps187
  go_wp2
  go_ret
  exact ⟨Zaa (by have:okLetter m x = false:=(by rw [Zcg];exact fun hh=>hh.1 C0.out);rw [this];rfl),Only.refl _ _⟩
 have t0:(x == 0) = false:=by simpa using c0
 have C0:=zH c0;clear c0
 go_enter Tryz.func187,Tryz.ntmps187
 go_wp2_with ((go_at_call 96;(with_reducible refine (Zaj x (-m) m _).mono ?_);rintro e w1 ⟨rfl,rfl⟩))
 go_ret
 refine ⟨Zaa ?_,Only.refl _ _⟩
 have h1:min m 8 = m:=by omega
 have:=C0.out
 simp [okLetter,h1,this]
set_option maxHeartbeats 400000 in
theorem Zek (f:FuncId) (caps:Array Value) (pr:Int->Bool) (hcf:∀ args w,(callFunc f args).run Tryz.prog w = .ok (.enter f args) w)
  (v:Value) (l:List Int) (fp:List Nat) (w:World) (h:Rd w v l fp)
  (hc:∀ x∈l,∀ w',Only [] w w'->Calls Tryz.prog f (#[.int .i64 x] ++ caps) w' fun e w''=>e = .returned (.bool (pr x))/\Only [] w' w'') :
  Calls Tryz.prog 115 #[v,.func (.func f) #[] caps] w fun e w'=>e = .returned (.bool (l.any pr))/\Only [] w w':=by
 have HC:=zH hc
 clear hc
 go_enter Tryz.func115,Tryz.ntmps115
 go_wp2_with ((go_at_call 119;(with_reducible refine (Zkx f caps pr hcf v l _ w h HC.out).mono ?_);rintro e w1 ⟨rfl,hk⟩))
 go_ret
 exact ⟨Zaa idxF_ge,hk⟩
set_option maxHeartbeats 400000 in
theorem Zkj (g:Int) (v:Value) (l:List Int) (fp:List Nat) (w:World) (h:Rd w v l fp) (g0:0<=g) (g1:g<=4611686018427387904) :
  Calls Tryz.prog 152 #[.int .i64 g,v] w fun e w'=>e = .returned (.bool (validW g l))/\Only [] w w':=by
 obtain ⟨a,cap,rfl,hI⟩:=h.ints
 have hb:=hI.bound
 by_cases hlen:200 < l.length
 ·by_cases h8:g<=8
  ·go_enter Tryz.func152,Tryz.ntmps152
   go_wp2
   go_ret
   exact ⟨Zaa (Zfv hlen).symm,zA⟩
  ·go_enter Tryz.func152,Tryz.ntmps152
   go_wp2
   go_ret
   exact ⟨Zaa (Zfv hlen).symm,zA⟩
 have hend:∀ m,m = min g 8->(!(l.any fun x=>!okLetter m x)) = validW g l:=by
  intro m hm
  have he:okLetter m = okLetter g:=by
   funext x;unfold okLetter;rw [hm];have:min (min g 8) 8 = min g 8:=by omega
   rw [this]
  unfold validW
  rw [he,List.not_any_eq_all_not]
  have h1:decide (l.length<=200) = true:=by simp;omega
  rw [h1,Bool.true_and]
  simp
 have HE:=zH hend
 clear hend
 by_cases h8:g<=8
 ·have Hc:=zH (Zek 187 #[.pointer (some ⟨w.heap.size,0,none⟩)] (fun x=>!okLetter g x) Tryz.call187 (.slice a l.length cap) l fp (w.alloc (.cells #[.int .i64 g] 2)) (zK h zA)
   (fun x _ w' hw=>Zdu x g g0 h8 w.heap.size w' (hw.cell (by simp) (by simp))))
  go_enter Tryz.func152,Tryz.ntmps152
  go_wp2_with ((go_at_call 115;(with_reducible refine (Hc.out).mono ?_);rintro e w1 ⟨rfl,hk⟩))
  go_ret
  exact ⟨Zaa (HE.out g (by omega)),zA⟩
 ·have Hc:=zH (Zek 187 #[.pointer (some ⟨w.heap.size,0,none⟩)] (fun x=>!okLetter 8 x) Tryz.call187 (.slice a l.length cap) l fp (w.alloc (.cells #[.int .i64 8] 2)) (zK h zA)
   (fun x _ w' hw=>Zdu x 8 (by omega) (by omega) w.heap.size w' (hw.cell (by simp) (by simp))))
  go_enter Tryz.func152,Tryz.ntmps152
  go_wp2_with ((go_at_call 115;(with_reducible refine (Hc.out).mono ?_);rintro e w1 ⟨rfl,hk⟩))
  go_ret
  exact ⟨Zaa (HE.out 8 (by omega)),zA⟩
theorem Zbw (v:Value) (l:List Int) (fp:List Nat) (w:World) (h:Rd w v l fp) :
  Calls Tryz.prog 103 #[v] w fun e w'=>e = .returned (.bool (validW 8 l))/\Only [] w w':=by
 go_enter Tryz.func103,Tryz.ntmps103
 go_wp2_with ((go_at_call 152;(with_reducible refine (Zkj 8 v l _ _ h (by omega) (by omega)).mono ?_);rintro e w1 ⟨rfl,hk⟩))
 go_ret
 exact ⟨rfl,hk⟩
structure Acc {α:Type} [Rp α] (B:Nat) (e:TypeId) (w:World) (v:Value) (l:List α) (fs:List (List Nat)):Prop where
 own:∃ css:List (List Value),w.ownsRow B e (Rp.size α) v l.length css.flatten/\css.length = l.length/\∀ k (h1:k < css.length) (h2:k < l.length) (h3:k < fs.length),Rp.rep w css[k] l[k] fs[k]
 fl:fs.length = l.length
 apart:∀ g,v.ownBlock = some g->g ∉ fs.flatten
section
variable {α:Type} [Rp α] {w w':World} {B:Nat} {e:TypeId} {v:Value} {l:List α} {fs:List (List Nat)}
theorem Acc.own_ne {g:Nat} (h:Acc B e w v l fs) (hg:w.heap.size<=g):g ∉ v.ownBlock.toList:=by
 intro hm
 have:v.ownBlock = some g:=by simpa using hm
 obtain ⟨css,ho,-,-⟩:=h.own
 have:=(ho.lt g this).2
 omega
theorem Acc.nil (w:World) (B:Nat) (e:TypeId):Acc B e w (.slice none 0 0) ([]:List α) []:=
 ⟨⟨[],World.ownsRow_nil w B e _,rfl,by simp⟩,rfl,by simp⟩
theorem Acc.made (w:World) (B:Nat) (e:TypeId) {g:Nat} (hg:g = w.heap.size) (hB:B<=g):Acc B e (w.alloc (.cells #[] e)) (.slice (some ⟨g,0,none⟩) 0 0) ([]:List α) []:=by
 subst hg
 exact ⟨⟨[],World.ownsRow_made w #[] 0 hB (by unfold maxLen;omega) (by simp),rfl,by simp⟩,rfl,by simp⟩
theorem Acc.lt (h:Acc B e w v l fs):∀ b∈fs.flatten,b < w.heap.size:=by
 intro b hb
 obtain ⟨f,hf,hb⟩:=List.mem_flatten.1 hb
 obtain ⟨k,hk,rfl⟩:=List.getElem_of_mem hf
 obtain ⟨css,-,hcl,hr⟩:=h.own
 have:=h.fl
 exact Rp.lt (hr k (by omega) (by omega) hk) b hb
theorem Acc.ownlt (h:Acc B e w v l fs):∀ g,v.ownBlock = some g->B<=g/\g < w.heap.size:=by
 obtain ⟨css,ho,-,-⟩:=h.own
 exact ho.lt
theorem Acc.only {fp:List Nat} (h:Acc B e w v l fs) (ho:Only fp w w') (hd:∀ b∈fs.flatten,b ∉ fp) (hv:∀ g,v.ownBlock = some g->g ∉ fp):Acc B e w' v l fs:=by
 obtain ⟨css,hr,hcl,hre⟩:=h.own
 refine ⟨⟨css,?_,hcl,fun k h1 h2 h3=>Rp.only (hre k h1 h2 h3) ho fun b hb hm=>hd b (List.mem_flatten.2 ⟨_,List.getElem_mem _,hb⟩) hm⟩,h.fl,h.apart⟩
 refine ⟨hr.1,?_⟩
 rcases hr.2 with ⟨rfl,h0⟩ | ⟨g,cp,cur,rfl,hb,hg,hrest⟩
 ·exact .inl ⟨rfl,h0⟩
 ·exact .inr ⟨g,cp,cur,rfl,hb,by rw [ho.block g (Array.getElem?_eq_some_iff.1 hg).1 (hv g rfl)];exact hg,hrest⟩
theorem Acc.keep (h:Acc B e w v l fs) (ho:Only [] w w'):Acc B e w' v l fs:=h.only ho (by simp) (by simp)
theorem Acc.form (h:Acc B e w v l fs):∃ a c,v = .slice a l.length c:=by
 obtain ⟨css,ho,-,-⟩:=h.own
 rcases ho.2 with ⟨rfl,h0⟩ | ⟨g,cp,cur,rfl,-⟩
 ·exact ⟨none,0,by rw [h0]⟩
 ·exact ⟨_,_,rfl⟩
theorem Acc.rd (h:Acc B e w v l fs) (hs:0 < Rp.size α):Rd w v l (v.ownBlock.toList ++ fs.flatten):=by
 obtain ⟨css,ho,hcl,hr⟩:=h.own
 obtain ⟨a,c,hv,-,hI⟩:=own_seq (xs:=l) (fps:=fs) ho hs hcl h.fl hr
 have:=hI.rd
 rw [<- hv] at this;exact this
theorem Acc.fresh (h:Acc B e w v l fs) (hf:Fresh B w fs.flatten):Fresh B w (v.ownBlock.toList ++ fs.flatten):=by
 obtain ⟨css,ho,-,-⟩:=h.own
 have h1:=Zbl ho
 refine ⟨List.nodup_append.2 ⟨h1.nd,hf.nd,fun a ha b hb hab=>?_⟩,fun b hb=>?_,h1.own.append hf.own⟩
 ·subst hab
  have:v.ownBlock = some a:=by simpa using ha
  exact h.apart a this hb
 ·rcases List.mem_append.1 hb with hb | hb
  ·exact h1.ge b hb
  ·exact hf.ge b hb
end
theorem lit_src (w:World) (cs:List Value) (e:TypeId) {g:Nat} (hg:g = w.heap.size):∀ j u,cs[j]? = some u->(w.alloc (.cells cs.toArray e)).cell? ⟨g,j,none⟩ = some u:=by
 subst hg
 intro j u hu
 rw [cell_of_row _ _ _ _ _ _ (heap_alloc_new w _)]
 simpa using hu
section
variable {P:Program} {α:Type} [Rp α] {ops:Array Oper} {rest:List Oper} {o:Oper} {a:Act} {w:World} {Q:Exit->Act->World->Prop} {K:Act->World->Prop}
theorem wp_push (s x:Operand) (t:TypeId)
  (ho:o.op = .call { callee:=.builtin .append,args:=#[s,x],argTypes:=#[t,t] })
  (B:Nat) (e:TypeId) (i:TypeInfo) (z:Value) (bytes:Nat) (ht:P.underlying t = some (.slice e)) (hi:P.info? e = some i) (hz:i.zero = some z)
  (hsize:i.size = Rp.size α) (hby:i.bytes = bytes) (hzs:z.cells.size = Rp.size α) (hsz:0 < Rp.size α) (hbb:bytes<=65536)
  (w0:World) (v:Value) (l:List α) (fs:List (List Nat)) (hs:a.eval s = v) (hA:Acc B e w0 v l fs) (hK0:Only [] w0 w) (hB:B<=w0.heap.size)
  (g c:Nat) (cs:List Value) (y:α) (fp:List Nat) (hx:a.eval x = .slice (some ⟨g,0,none⟩) 1 c) (hsrc:∀ j u,cs[j]? = some u->w.cell? ⟨g,j,none⟩ = some u) (hcs:∀ u∈cs,u.oneCell' = true)
  (hy:Rp.rep w cs y fp) (hap:∀ b∈fp,v.ownBlock ≠ some b) (hlen:l.length + 1<=1073741824)
  (h:∀ v' w',Acc B e w' v' (l ++ [y]) (fs ++ [fp])->Only v.ownBlock.toList w w'->(∀ wz,Only [] wz w->wz.heap.size<=B->Only [] wz w') ->
   (Fresh B w0 fs.flatten->Fresh w0.heap.size w fp->Fresh B w' (fs ++ [fp]).flatten)->K (a.put o.dst v') w'):o.wp P a w K Q:=by
 obtain ⟨css,hown,hcl,hre⟩:=(hA.keep hK0).own
 have hcsl:cs.length = 1 * Rp.size α:=by rw [Nat.one_mul];exact Rp.len hy
 have hfl:=hA.fl
 have hbytes:(l.length + 1) * bytes<=140737488355328:=by
  have:=Nat.mul_le_mul hlen hbb;omega
 refine wp_app w s x t ho B e i z (Rp.size α) bytes ht hi hz hsize hby hzs hsz v l.length css.flatten hs hown (some ⟨g,0,none⟩) 1 c cs hx hcsl ?_ (by simp) hcs (by unfold maxLen;omega) hbytes (Nat.le_trans hB hK0.size) ?_
 ·intro ad had j u hu
  injection had with had;subst had
  have hadd:(⟨g,0,none⟩:Addr).add j = ⟨g,j,none⟩:=by unfold Addr.add;split <;> simp_all
  rw [hadd];exact hsrc j u hu
 intro v' w' hO hg hb
 have hW:Only v.ownBlock.toList w w':=zO.grown hg (by intro k hk _;simp [hk])
 have hlt:=(hA.keep hK0).lt
 have hap':∀ b∈fp,b ∉ v.ownBlock.toList:=fun b hb hm=>hap b hb (by simpa using hm)
 have hfs:∀ b∈fs.flatten,b ∉ v.ownBlock.toList:=fun b hb hm=>hA.apart b (by simpa using hm) hb
 refine h v' w' ⟨⟨css ++ [cs],?_,by simp [hcl],fun k h1 h2 h3=>?_⟩,by simp [hfl],?_⟩ hW ?_ ?_
 ·rw [List.length_append,List.flatten_append];simpa using hO
 ·by_cases hk:k < l.length
  ·rw [List.getElem_append_left (by rw [hcl];exact hk),List.getElem_append_left hk,List.getElem_append_left (by rw [hfl];exact hk)]
   exact Rp.only (hre k (by omega) hk (by omega)) hW fun b hb=>hfs b (List.mem_flatten.2 ⟨_,List.getElem_mem _,hb⟩)
  ·have:k = l.length:=by simp at h2;omega
   subst this
   rw [List.getElem_append_right (by rw [hcl];omega),List.getElem_append_right (by omega),List.getElem_append_right (by rw [hfl];omega)]
   simpa [hcl,hfl] using Rp.only hy hW hap'
 ·intro g' hg' hm
  rw [List.flatten_append] at hm
  simp only [List.flatten_cons,List.flatten_nil,List.append_nil] at hm
  rcases hb with hb | hb
  ·rw [hb] at hg'
   rcases List.mem_append.1 hm with hm | hm
   ·exact hA.apart g' hg' hm
   ·exact hap g' hm hg'
  ·rw [hb] at hg';injection hg' with hg';subst hg'
   rcases List.mem_append.1 hm with hm | hm
   ·exact absurd (hlt _ hm) (by omega)
   ·exact absurd (Rp.lt hy _ hm) (by omega)
 ·intro wz hz hzB
  refine hz.then_ hW fun b hm hb=>?_
  have hm':v.ownBlock = some b:=by simpa using hm
  have:=(hA.ownlt b hm').1
  omega
 ·intro hF hFy
  rw [List.flatten_append]
  simp only [List.flatten_cons,List.flatten_nil,List.append_nil]
  have hF':=(hF.keep hK0)
  refine ((Fresh.append hF' hFy hB fun b hb=>hF.lt b hb)).only hW fun b hm=>?_
  rcases List.mem_append.1 hm with hm | hm
  ·exact hfs b hm
  ·exact hap' b hm
theorem Zol (s x:Operand) (t:TypeId)
  (ho:o.op = .call { callee:=.builtin .append,args:=#[s,x],argTypes:=#[t,t] })
  (B:Nat) (e:TypeId) (i:TypeInfo) (z:Value) (bytes:Nat) (ht:P.underlying t = some (.slice e)) (hi:P.info? e = some i) (hz:i.zero = some z)
  (hsize:i.size = Rp.size α) (hby:i.bytes = bytes) (hzs:z.cells.size = Rp.size α) (hsz:0 < Rp.size α) (hbb:bytes<=65536)
  (w0:World) (v:Value) (l:List α) (fs:List (List Nat)) (hs:a.eval s = v) (hA:Acc B e w0 v l fs) (hF:Fresh B w0 fs.flatten) (hK0:Only [] w0 w) (hB:B<=w0.heap.size)
  (g c:Nat) (cs:List Value) (y:α) (fp:List Nat) (hx:a.eval x = .slice (some ⟨g,0,none⟩) 1 c) (hsrc:∀ j u,cs[j]? = some u->w.cell? ⟨g,j,none⟩ = some u) (hcs:∀ u∈cs,u.oneCell' = true)
  (hy:Rp.rep w cs y fp) (hFy:Fresh w0.heap.size w fp) (hlen:l.length + 1<=1073741824) (wz:World) (hz0:Only [] wz w) (hzB:wz.heap.size<=B)
  (h:∀ v' w',Acc B e w' v' (l ++ [y]) (fs ++ [fp])->Fresh B w' (fs ++ [fp]).flatten->Only [] wz w'->Only v.ownBlock.toList w w'->K (a.put o.dst v') w'):o.wp P a w K Q:=
 wp_push s x t ho B e i z bytes ht hi hz hsize hby hzs hsz hbb w0 v l fs hs hA hK0 hB g c cs y fp hx hsrc hcs hy
  (fun b hb hv=>by have:=(hA.ownlt b hv).2;have:=hFy.ge b hb;omega) hlen fun v' w' h1 h2 h3 h4=>h v' w' h1 (h4 hF hFy) (h3 wz hz0 hzB) h2
theorem Zoy (hgd:o.guard = none) (s x:Operand) (t:TypeId)
  (ho:o.op = .call { callee:=.builtin .append,args:=#[s,x],argTypes:=#[t,t] })
  (B:Nat) (e:TypeId) (i:TypeInfo) (z:Value) (bytes:Nat) (ht:P.underlying t = some (.slice e)) (hi:P.info? e = some i) (hz:i.zero = some z)
  (hsize:i.size = Rp.size α) (hby:i.bytes = bytes) (hzs:z.cells.size = Rp.size α) (hsz:0 < Rp.size α) (hbb:bytes<=65536)
  (w0:World) (v:Value) (l:List α) (fs:List (List Nat)) (hs:a.eval s = v) (hA:Acc B e w0 v l fs) (hK0:Only [] w0 w) (hB:B<=w0.heap.size)
  (g c:Nat) (cs:List Value) (y:α) (fp:List Nat) (hx:a.eval x = .slice (some ⟨g,0,none⟩) 1 c) (hsrc:∀ j u,cs[j]? = some u->w.cell? ⟨g,j,none⟩ = some u) (hcs:∀ u∈cs,u.oneCell' = true)
  (hy:Rp.rep w cs y fp) (hap:∀ b∈fp,v.ownBlock ≠ some b) (hlen:l.length + 1<=1073741824)
  (h:∀ v' w',Acc B e w' v' (l ++ [y]) (fs ++ [fp])->Only v.ownBlock.toList w w'->(∀ wz,Only [] wz w->wz.heap.size<=B->Only [] wz w') ->
   (Fresh B w0 fs.flatten->Fresh w0.heap.size w fp->Fresh B w' (fs ++ [fp]).flatten)->wpList P ops Q rest (a.put o.dst v') w'):wpList P ops Q (o :: rest) a w:=
 wpList_plain hgd fun _ hK=>wp_push s x t ho B e i z bytes ht hi hz hsize hby hzs hsz hbb w0 v l fs hs hA hK0 hB g c cs y fp hx hsrc hcs hy hap hlen fun v' w' h1 h2 h3 h4=>hK _ _ (h v' w' h1 h2 h3 h4)
theorem Zar (hgd:o.guard = none) (s x:Operand) (t:TypeId)
  (ho:o.op = .call { callee:=.builtin .append,args:=#[s,x],argTypes:=#[t,t] })
  (B:Nat) (e:TypeId) (i:TypeInfo) (z:Value) (bytes:Nat) (ht:P.underlying t = some (.slice e)) (hi:P.info? e = some i) (hz:i.zero = some z)
  (hsize:i.size = Rp.size α) (hby:i.bytes = bytes) (hzs:z.cells.size = Rp.size α) (hsz:0 < Rp.size α) (hbb:bytes<=65536)
  (w0:World) (v:Value) (l:List α) (fs:List (List Nat)) (hs:a.eval s = v) (hA:Acc B e w0 v l fs) (hF:Fresh B w0 fs.flatten) (hK0:Only [] w0 w) (hB:B<=w0.heap.size)
  (g c:Nat) (cs:List Value) (y:α) (fp:List Nat) (hx:a.eval x = .slice (some ⟨g,0,none⟩) 1 c) (hsrc:∀ j u,cs[j]? = some u->w.cell? ⟨g,j,none⟩ = some u) (hcs:∀ u∈cs,u.oneCell' = true)
  (hy:Rp.rep w cs y fp) (hFy:Fresh w0.heap.size w fp) (hlen:l.length + 1<=1073741824) (wz:World) (hz0:Only [] wz w) (hzB:wz.heap.size<=B)
  (h:∀ v' w',Acc B e w' v' (l ++ [y]) (fs ++ [fp])->Fresh B w' (fs ++ [fp]).flatten->Only [] wz w'->Only v.ownBlock.toList w w'->wpList P ops Q rest (a.put o.dst v') w'):wpList P ops Q (o :: rest) a w:=
 wpList_plain hgd fun _ hK=>Zol s x t ho B e i z bytes ht hi hz hsize hby hzs hsz hbb w0 v l fs hs hA hF hK0 hB g c cs y fp hx hsrc hcs hy hFy hlen wz hz0 hzB fun v' w' h1 h2 h3 h4=>hK _ _ (h v' w' h1 h2 h3 h4)
theorem Zen {E:Prop} (hgd:o.guard = none) (s x:Operand) (t:TypeId)
  (ho:o.op = .call { callee:=.builtin .append,args:=#[s,x],argTypes:=#[t,t] })
  (B:Nat) (e:TypeId) (i:TypeInfo) (z:Value) (bytes:Nat) (ht:P.underlying t = some (.slice e)) (hi:P.info? e = some i) (hz:i.zero = some z)
  (hsize:i.size = Rp.size α) (hby:i.bytes = bytes) (hzs:z.cells.size = Rp.size α) (hsz:0 < Rp.size α) (hbb:bytes<=65536)
  (w0:World) (v:Value) (l:List α) (fs:List (List Nat)) (hs:a.eval s = v) (hA:Acc B e w0 v l fs) (hF:Fresh B w0 fs.flatten) (hK0:Only [] w0 w) (hB:B<=w0.heap.size)
  (g c:Nat) (cs:List Value) (y:α) (fp:List Nat) (hx:a.eval x = .slice (some ⟨g,0,none⟩) 1 c) (hsrc:∀ j u,cs[j]? = some u->w.cell? ⟨g,j,none⟩ = some u) (hcs:∀ u∈cs,u.oneCell' = true)
  (hy:Rp.rep w cs y fp) (hFy:Fresh w0.heap.size w fp) (hlen:l.length + 1<=1073741824) (wz:World) (hz0:Only [] wz w) (hzB:wz.heap.size<=B)
  (h:∀ v' w',Acc B e w' v' (l ++ [y]) (fs ++ [fp])->Fresh B w' (fs ++ [fp]).flatten->Only [] wz w'->Only v.ownBlock.toList w w'->K (a.put o.dst v') w'):if Region.wanted o (yielded ops a.tmps) = true then Oper.wp P o a w K Q else E:=by
 rw [if_pos (by simp [Region.wanted,hgd])]
 exact Zol s x t ho B e i z bytes ht hi hz hsize hby hzs hsz hbb w0 v l fs hs hA hF hK0 hB g c cs y fp hx hsrc hcs hy hFy hlen wz hz0 hzB h
end
set_option maxHeartbeats 400000 in
theorem Zdb (v:Value) (l:List Int) (fp:List Nat) (w:World) (h:Rd w v l fp) (hl:l.length<=1073741824) :
  Calls Tryz.prog 105 #[v] w fun e w'=>∃ v fp',e = .returned v/\Rd w' v l fp'/\Fresh w.heap.size w' fp'/\Only [] w w':=by
 obtain ⟨a,cap,rfl,hI⟩:=h.ints
 rcases a with _ | ad
 ·have h0:l.length = 0:=(Zgj hI).2 rfl
  have:l = []:=List.eq_nil_of_length_eq_zero h0
  subst this
  have hnil:=fun W=>Lib.run_eql_slice_nil (P:=Tryz.prog) W 25 2 none 0 cap 0 0 Tryz.underlying25
  go_enter Tryz.func105,Tryz.ntmps105
  go_wp2
  go_ret
  exact ⟨_,[],rfl,(IntsA.nil w none (cap:=0) (by simp [maxLen])).rd,Fresh.nil _ _,zA⟩
 ·obtain ⟨i0,hi,hz0,hz1,hz2⟩:=info_parts Tryz.info2
  obtain ⟨q1,q2⟩:=Zgj (hI.keep ((Only.refl _ w).alloc (.cells #[] 2)))
  have hnil:=fun W=>Lib.run_eql_slice_nil (P:=Tryz.prog) W 25 2 (some ad) l.length cap 0 0 Tryz.underlying25
  go_enter Tryz.func105,Tryz.ntmps105
  go_wp2_with (at_builtin;refine Zbr _ rfl _ _ 25 rfl w.heap.size 2 i0 _ 1 8 Tryz.underlying25 hi hz0 hz1 hz2 rfl (by omega) (.slice (some ⟨w.heap.size,0,none⟩) 0 0) 0 [] rfl (World.ownsRow_made w #[] 0 (Nat.le_refl _) (by unfold maxLen;omega) rfl) (some ad) l.length cap (l.map (Value.int .i64)) rfl (by simp) q1 q2 (Zgg l) (by unfold maxLen;omega) (by omega) (by simp) ?_;intro v1 w1 hO hg hb)
  rw [Nat.zero_add,List.nil_append] at hO
  obtain ⟨a',cap',hv,-,hI',hF⟩:=Zaq hO hI.wf
  have Hv:=zH hv
  have hK:Only [] w w1:=(zO.alloc _).grown hg (by simp [Value.ownBlock])
  clear hO hg hb hv q1 q2
  go_wp2
  go_ret
  refine ⟨_,_,rfl,?_,hF,hK⟩
  have hr:=hI'.rd
  rw [<- Hv.out] at hr;exact hr
theorem nil_rd {α:Type} [Rp α] (w:World):Rd w (.slice none 0 0) ([]:List α) []:=⟨none,0,[],[],rfl,rfl,SeqA.nil w none (by simp [maxLen])⟩
theorem int_rd {n:Int} (w:World) (h:I64 n):Rd w (.int .i64 n) n []:=⟨rfl,h,rfl⟩
theorem one_rd {α:Type} [Rp α] {w:World} {v:Value} {x:α} {fp:List Nat} (h:Rd w v x fp) (e:TypeId) (B:Nat) (hF:Fresh B w fp) {g:Nat} (hgs:g = w.heap.size) (hB:B<=g) :
  Rd (w.alloc (.cells #[v] e)) (.slice (some ⟨g,0,none⟩) 1 1) [x] (g :: fp)/\Fresh B (w.alloc (.cells #[v] e)) (g :: fp):=by
 subst hgs
 have hK:Only [] w (w.alloc (.cells #[v] e)):=zO.alloc _
 have hg:(w.alloc (.cells #[v] e)).heap[w.heap.size]? = some (.cells #[v] e (0,0)):=heap_alloc_new w _
 constructor
 ·refine ⟨some ⟨w.heap.size,0,none⟩,1,[w.heap.size],[fp],rfl,by simp,⟨by simp,by simp [maxLen],rfl,fun k hk=>?_,by simp,by simp⟩⟩
  have:k = 0:=by simpa using hk
  subst this
  refine ⟨w.heap.size,0,[v],rfl,rfl,fun j u hu=>?_,zK h hK⟩
  cases j with
  | zero=>simp at hu;subst hu;rw [cell_of_row _ _ _ _ _ _ hg];simp
  | succ j=>simp at hu
 ·refine ⟨List.nodup_cons.2 ⟨fun hm=>by have:=hF.lt _ hm;omega,hF.nd⟩,fun b hb=>?_,fun b hb=>?_⟩
  ·rcases List.mem_cons.1 hb with rfl | hb
   ·exact hB
   ·exact hF.ge b hb
  ·rcases List.mem_cons.1 hb with rfl | hb
   ·exact ⟨_,_,hg⟩
   ·exact (hF.own.keep hK) b hb
end Go.Proofs.YtclhblofchfglaaGreat

namespace PM
section
variable {α:Type} [DecidableEq α]
theorem Zej:∀ {l1 l2:List α},l1.Nodup->l1 ⊆ l2->l1.length<=l2.length:=by
 intro l1
 induction l1 with
 | nil=>intro l2 _ _;simp
 | cons a t ih=>
  intro l2 hn hs
  obtain ⟨ha,ht⟩:=List.nodup_cons.1 hn
  have ham:a∈l2:=hs (by simp)
  have h1:t ⊆ l2.erase a:=by
   intro x hx
   refine (List.mem_erase_of_ne ?_).2 (hs (by simp [hx]))
   intro e;subst e;exact ha hx
  have h2:=ih ht h1
  have h3:=List.length_erase_of_mem ham
  have h4:0 < l2.length:=List.length_pos_of_mem ham
  simp only [List.length_cons]
  omega
theorem Zef {l1 l2:List α} (hn:l1.Nodup) (hs:l1 ⊆ l2) (hl:l2.length<=l1.length):l2 ⊆ l1:=by
 intro x hx
 apply Classical.byContradiction
 intro hxn
 have h:=Zej (List.nodup_cons.2 ⟨hxn,hn⟩) (l2:=l2) (by
  intro y hy
  rcases List.mem_cons.1 hy with rfl | hy
  ·exact hx
  ·exact hs hy)
 simp at h
 omega
theorem Zoo:∀ {l1 l2:List α},l1.Nodup->l1 ⊆ l2->l2.length<=l1.length->l2.Nodup:=by
 intro l1
 induction l1 with
 | nil=>
  intro l2 _ _ hl
  have:l2 = []:=List.eq_nil_of_length_eq_zero (by simpa using hl)
  subst this;exact List.nodup_nil
 | cons a t ih=>
  intro l2 hn hs hl
  obtain ⟨ha,ht⟩:=List.nodup_cons.1 hn
  have ham:a∈l2:=hs (by simp)
  have h1:t ⊆ l2.erase a:=by
   intro x hx
   refine (List.mem_erase_of_ne ?_).2 (hs (by simp [hx]))
   intro e;subst e;exact ha hx
  have h3:=List.length_erase_of_mem ham
  have h4:0 < l2.length:=List.length_pos_of_mem ham
  simp only [List.length_cons] at hl
  have h5:=ih ht h1 (by omega)
  have h6:a ∉ l2.erase a:=by
   intro hm
   have:=Zej hn (l2:=l2.erase a) (by
    intro y hy
    rcases List.mem_cons.1 hy with rfl | hy
    ·exact hm
    ·exact h1 hy)
   simp at this
   omega
  exact (List.perm_cons_erase ham).nodup_iff.2 (List.nodup_cons.2 ⟨h6,h5⟩)
end
def pts (n:Nat):List Int:=(List.range n).map (fun k:Nat=>(k:Int))
theorem pts_len (n:Nat):(pts n).length = n:=by simp [pts]
theorem mem_pts {n:Nat} {x:Int}:x∈pts n ↔ 0<=x/\x < n:=by
 simp only [pts,List.mem_map,List.mem_range]
 constructor
 ·rintro ⟨k,hk,rfl⟩;omega
 ·intro ⟨h1,h2⟩;exact ⟨x.toNat,by omega,by omega⟩
theorem Zfo (n:Nat):(pts n).Nodup:=by
 exact List.Pairwise.map _ (fun a b (h:a ≠ b) hab=>h (by omega)) List.nodup_range
theorem pts_get (n k:Nat) (h:k < (pts n).length):(pts n)[k] = (k:Int):=by simp [pts]
def IsP (p:List Int):Prop:=(∀ x∈p,0<=x/\x < p.length)/\p.Nodup
instance (p:List Int):Decidable (IsP p):=by unfold IsP;exact inferInstance
theorem IsP.sub {p:List Int} (h:IsP p):p ⊆ pts p.length:=fun x hx=>mem_pts.2 (h.1 x hx)
theorem IsP.all {p:List Int} (h:IsP p):pts p.length ⊆ p:=Zef h.2 h.sub (by rw [pts_len];exact Nat.le_refl _)
theorem Zqa {p:List Int} (h1:∀ x∈p,0<=x/\x < p.length) (h2:pts p.length ⊆ p):IsP p:=
 ⟨h1,Zoo (Zfo _) h2 (by rw [pts_len];exact Nat.le_refl _)⟩
def mask:List Int->Nat
 | []=>0
 | x :: l=>2 ^ x.toNat ||| mask l
theorem Zpc (l:List Int) (x:Int):mask (l ++ [x]) = mask l ||| 2 ^ x.toNat:=by
 induction l with
 | nil=>simp [mask]
 | cons y l ih=>simp [mask,ih,Nat.or_assoc]
theorem Znm (l:List Int) (h:∀ x∈l,0<=x) (k:Nat):(mask l).testBit k = decide ((k:Int)∈l):=by
 induction l with
 | nil=>simp [mask]
 | cons x l ih=>
  rw [mask,Nat.testBit_or,ih (fun y hy=>h y (by simp [hy])),Nat.testBit_two_pow]
  have hx:=h x (by simp)
  have:(x.toNat = k) ↔ ((k:Int) = x):=by omega
  simp [this]
theorem mask_lt (l:List Int) (n:Nat) (h:∀ x∈l,0<=x/\x < n):mask l < 2 ^ n:=by
 induction l with
 | nil=>simp [mask];exact Nat.pow_pos (by decide)
 | cons x l ih=>
  have hx:=h x (by simp)
  exact Nat.or_lt_two_pow (Nat.pow_lt_pow_right (by decide) (by omega)) (ih fun y hy=>h y (by simp [hy]))
theorem Zml (p:List Int) (h:∀ x∈p,0<=x/\x < p.length):mask p = 2 ^ p.length - 1 ↔ IsP p:=by
 constructor
 ·intro hm
  refine Zqa h fun x hx=>?_
  obtain ⟨h0,h1⟩:=mem_pts.1 hx
  have hb:=Znm p (fun y hy=>(h y hy).1) x.toNat
  rw [hm,Nat.testBit_two_pow_sub_one] at hb
  have:decide (x.toNat < p.length) = true:=decide_eq_true (by omega)
  rw [this] at hb
  have:=of_decide_eq_true hb.symm
  have e:(x.toNat:Int) = x:=by omega
  rwa [e] at this
 ·intro hp
  apply Nat.eq_of_testBit_eq
  intro k
  rw [Znm p (fun y hy=>(h y hy).1),Nat.testBit_two_pow_sub_one]
  have:((k:Int)∈p) ↔ k < p.length:=by
   constructor
   ·intro hk;have:=h _ hk;omega
   ·intro hk;exact hp.all (mem_pts.2 (by omega))
  simp [this]
end PM

namespace Go.Proofs.YtclhblofchfglaaGreat
open Go.RowKit
set_option maxRecDepth 10000
theorem Zbc {P:Program} {f:FuncId} {args:Array Value} {w:World} {n:Nat} {v:Value}
  (h:Calls P f args (w.drewN n) fun e w'=>e = .returned v/\Drew (w.drewN n) w') :
  Calls P f args (w.drewN n) fun e w''=>e = .returned v/\∃ m,w'' = w.drewN m:=
 h.mono fun _ _ ⟨he,m,hm⟩=>⟨he,n + m,by rw [hm,World.drewN_drewN]⟩
theorem IntsA.take {w:World} {a:Option Addr} {cap:Nat} {l:List Int} {fp:List Nat} (h:IntsA w a cap l fp) (j:Nat):IntsA w a cap (l.take j) fp:=by
 refine ⟨Nat.le_trans (by simp;omega) h.len,h.cap,fun x hx=>h.wf x (List.mem_of_mem_take hx),fun k hk=>?_,h.lt,h.one⟩
 have hk':k < l.length:=by simp at hk;omega
 obtain ⟨b,off,e1,e2,e3⟩:=h.at_ k hk'
 exact ⟨b,off,e1,e2,by rw [e3];simp⟩
def permB (l:List Int):Bool:=inR l.length 1 20 && decide (PM.IsP l)
theorem Zcd {l:List Int}:permB l = true ↔ (1<=l.length/\l.length<=20)/\PM.IsP l:=by
 simp [permB,inR];omega
theorem Zbk {l:List Int} {j:Nat} (h:j < l.length) {P:Int->Prop} (h1:∀ x∈l.take j,P x) (h2:P l[j]):∀ x∈l.take (j + 1),P x:=by
 rw [Zab l j h]
 intro x hx
 rcases List.mem_append.1 hx with hx | hx
 ·exact h1 x hx
 ·simp at hx;subst hx;exact h2
theorem Zki {l:List Int} {j:Nat} (h:j < l.length) (h1:(l.take j).Nodup) (h2:l[j] ∉ l.take j):(l.take (j + 1)).Nodup:=by
 rw [Zab l j h]
 exact List.nodup_append.2 ⟨h1,by simp,by intro a ha b hb e;simp at hb;subst hb;subst e;exact h2 ha⟩
theorem Zge {l:List Int} {j:Nat} (h:j < l.length) (h2:l[j]∈l.take j):¬ l.Nodup:=by
 intro hn
 have h3:(l.take (j + 1)).Nodup:=List.Nodup.sublist (List.take_sublist _ _) hn
 rw [Zab l j h] at h3
 exact (List.nodup_append.1 h3).2.2 _ h2 _ (by simp) rfl
set_option maxHeartbeats 400000 in
theorem Zjl (a:Option Addr) (cap:Nat) (l:List Int) (n:Int) (fp:List Nat) (w:World) (h:IntsA w a cap l fp) :
  Calls Tryz.prog 154 #[.slice a l.length cap,.int .i64 n] w fun e w'=>e = .returned (.bool (decide (n∈l)))/\Drew w w':=by
 have hb:=h.bound
 go_enter Tryz.func154,Tryz.ntmps154
 go_wp2
 go_loopw [5] (fun i wr=>∃ j:Nat,j<=l.length/\i = .int .i64 j/\n ∉ l.take j/\Drew w wr)
  (fun i _=>l.length - (intOf i).toNat)
 case atStart=>exact ⟨0,Nat.zero_le _,rfl,by simp,Drew.refl _⟩
 case round=>
  obtain ⟨j,hj,rfl,hr,k,rfl⟩:=hrel
  have Hr:=zH hr;clear hr
  by_cases hlt:j < l.length
  ·obtain ⟨b,off,rfl,-,hc⟩:=h.at_ j hlt
   by_cases hx:l[j] = n
   ·have hq:(l[j] == n) = true:=by simp [hx]
    have Hx:=zH hx;clear hx
    go_wp2
    go_ret
    exact ⟨Zaa (decide_eq_true (by rw [<- Hx.out];exact List.getElem_mem _)).symm,⟨_,rfl⟩⟩
   ·have hq:(l[j] == n) = false:=by simp [hx]
    have Hx:=zH hx;clear hx
    go_wp2
    go_roundw
    case rel=>exact ⟨j + 1,by omega,by go_num,by
     rw [Zab l j hlt];intro hm
     rcases List.mem_append.1 hm with hm | hm
     ·exact Hr.out hm
     ·simp at hm;exact Hx.out hm.symm,⟨_,rfl⟩⟩
    case measure=>simp [intOf];omega
  ·go_wp2
   go_ret
   exact ⟨Zaa (decide_eq_false (by have:=Hr.out;rwa [List.take_of_length_le (by omega)] at this)).symm,⟨_,rfl⟩⟩
theorem Zjn (a:Option Addr) (cap:Nat) (l:List Int) (j:Nat) (n:Int) (fp:List Nat) (w:World) (h:IntsA w a cap l fp) (hj:j<=l.length) :
  Calls Tryz.prog 154 #[.slice a j cap,.int .i64 n] w fun e w'=>e = .returned (.bool (decide (n∈l.take j)))/\Drew w w':=by
 have:=Zjl a cap (l.take j) n fp w (h.take j)
 rwa [show (l.take j).length = j by simp;omega] at this
theorem Zdf (x lo hi:Int) (w:World) :
  Calls Tryz.prog 88 #[.int .i64 x,.int .i64 lo,.int .i64 hi] w fun e w'=>e = .returned (.bool (inR x lo hi))/\Drew w w':=
 (Zah x lo hi w).mono fun _ _ ⟨h1,h2⟩=>⟨h1,by rw [h2];exact Drew.refl _⟩
set_option maxHeartbeats 1000000 in
theorem Zkn (a:Option Addr) (cap:Nat) (l:List Int) (fp:List Nat) (w:World) (h:IntsA w a cap l fp) :
  Calls Tryz.prog 133 #[.slice a l.length cap] w fun e w'=>e = .returned (.bool (permB l))/\Drew w w':=by
 have hb:=h.bound
 rcases hq:inR l.length 1 20
 ·go_enter Tryz.func133,Tryz.ntmps133
  go_wp2_with ((go_at_call 88;(with_reducible refine (Zah l.length 1 20 _).mono ?_);rintro e w1 ⟨rfl,rfl⟩))
  go_ret
  exact ⟨Zaa (by unfold permB;rw [hq];rfl),Drew.refl _⟩
 have hfin:permB l = decide (PM.IsP l):=by unfold permB;rw [hq];rfl
 have Hfin:=zH hfin;clear hfin
 obtain ⟨g1,g2⟩:=inR_iff.1 hq
 go_enter Tryz.func133,Tryz.ntmps133
 go_wp2_with ((go_at_call 88;(with_reducible refine (Zah l.length 1 20 _).mono ?_);rintro e w ⟨rfl,rfl⟩))
 go_loopw [4] (fun i wr=>∃ j:Nat,j<=l.length/\i = .int .i64 j/\(∀ x∈l.take j,0<=x/\x < l.length)/\(l.take j).Nodup/\Drew w wr)
  (fun i _=>l.length - (intOf i).toNat)
 case atStart=>exact ⟨0,Nat.zero_le _,rfl,by simp,by simp,Drew.refl _⟩
 case round=>
  obtain ⟨j,hj,rfl,hr,hn,k,rfl⟩:=hrel
  have Hr:=zH hr;clear hr
  have Hn:=zH hn;clear hn
  by_cases hlt:j < l.length
  ·obtain ⟨b,off,rfl,-,hc⟩:=h.at_ j hlt
   have hcap:=h.len
   have hi1:(0:Int)<=(j:Int):=by omega
   have hi2:(j:Int) < (l.length:Int):=by omega
   rcases c1:inR l[j] 0 (l.length - 1)
   ·go_wp2
    go_quiet ((go_at_call 88;exact Zan (Zdf l[j] 0 (l.length - 1) _)))
    go_wp2
    go_ret
    exact ⟨Zaa (by rw [Hfin.out,eq_comm,decide_eq_false_iff_not];intro hp;have:=hp.1 l[j] (List.getElem_mem _);rw [inR_not] at c1;omega),((Drew.refl _).drewN _).drewN _⟩
   have hx:=inR_iff.1 c1
   have Hx:=zH hx;clear hx
   rcases c2:decide (l[j]∈l.take j)
   all_goals go_wp2
   all_goals go_quiet (first
    | (go_at_call 88;exact Zan (Zdf l[j] 0 (l.length - 1) _))
    | (go_at_call 154;exact Zan (Zjn (some ⟨b,off,none⟩) cap l j l[j] fp _ (h.keep (Only.ofDrewN _ _ _)) hj)))
   ·have C2:=zH (of_decide_eq_false c2);clear c2
    go_wp2
    go_roundw
    case rel=>exact ⟨j + 1,by omega,by go_num,Zbk hlt Hr.out (by have:=Hx.out;omega),Zki hlt Hn.out C2.out,⟨_,rfl⟩⟩
    case measure=>simp [intOf];omega
   ·have C2:=zH (of_decide_eq_true c2);clear c2
    go_wp2
    go_ret
    exact ⟨Zaa (by rw [Hfin.out,eq_comm,decide_eq_false_iff_not];intro hp;exact Zge hlt C2.out hp.2),((Drew.refl _).drewN _).drewN _⟩
  ·go_wp2
   go_ret
   exact ⟨Zaa (by rw [Hfin.out,eq_comm,decide_eq_true_iff];have h1:=Hr.out;have h2:=Hn.out;rw [List.take_of_length_le (by omega)] at h1 h2;exact ⟨h1,h2⟩),⟨_,rfl⟩⟩
theorem Zcz (v:Value) (l:List Int) (fp:List Nat) (w:World) (h:Rd w v l fp) :
  Calls Tryz.prog 133 #[v] w fun e w'=>e = .returned (.bool (permB l))/\Drew w w':=by
 obtain ⟨a,cap,rfl,hI⟩:=h.ints
 exact Zkn a cap l fp w hI
theorem Zgu (v:Value) (l:List (List Int)) (fp:List Nat) (w:World) (h:Rd w v l fp) :
  Calls Tryz.prog 97 #[v] w fun e w'=>e = .returned (.int .i64 l.length)/\w' = w:=by
 obtain ⟨a,cap,ob,fps,rfl,-,hs⟩:=h.open_
 have hb:=hs.bound
 go_enter Tryz.func97,Tryz.ntmps97
 go_wp2
 go_ret
 exact ⟨rfl,rfl⟩
theorem Zbd (v:Value) (l:List Int) (fp:List Nat) (w:World) (h:Rd w v l fp) :
  Calls Tryz.prog 47 #[v] w fun e w'=>e = .returned (.int .i64 l.length)/\w' = w:=by
 obtain ⟨a,cap,rfl,hI⟩:=h.ints
 have hb:=hI.bound
 go_enter Tryz.func47,Tryz.ntmps47
 go_wp2
 go_ret
 exact ⟨rfl,rfl⟩
theorem Zdi (n:Int) (h0:0<=n) (h1:n < 9223372036854775808):wrap64 n = n:=by
 unfold wrap64;omega
theorem Zlw {k:Nat} (h:k<=20):(2:Int) ^ k<=1048576/\1<=(2:Int) ^ k:=by
 have h1:2 ^ k<=2 ^ 20:=Nat.pow_le_pow_right (by decide) h
 have h2:1<=2 ^ k:=Nat.one_le_two_pow
 have e:((2:Int) ^ k) = ((2 ^ k:Nat):Int):=by simp
 rw [e]
 constructor
 ·have:(2:Nat) ^ 20 = 1048576:=by decide
  omega
 ·omega
theorem or_step (m:Nat) (hm:m < 2 ^ 20) (x:Int) (h0:0<=x) (h1:x<=19):bits BinOp.or IntKind.i64 (m:Int) (wrap64 (2 ^ x.toNat)) = ((m ||| 2 ^ x.toNat:Nat):Int):=by
 have hp:=Zlw (k:=x.toNat) (by omega)
 rw [Zdi _ (by omega) (by omega)]
 have e:((2:Int) ^ x.toNat) = ((2 ^ x.toNat:Nat):Int):=by simp
 rw [e]
 refine (bits_nat .i64 20 (by decide) ?_ m (2 ^ x.toNat) hm (Nat.pow_lt_pow_right (by decide) (by omega))).2
 intro n hn0 hn1
 have:(2:Int) ^ 20 = 1048576:=by decide
 rw [IntKind.wrap_i64];omega
theorem Zrm (l:List Int) (h:∀ x∈l,0<=x/\x < l.length) (hl:l.length<=20):((PM.mask l:Int) == wrap64 (wrap64 (2 ^ l.length) - 1)) = decide (PM.IsP l):=by
 have hp:=Zlw hl
 rw [Zdi (2 ^ l.length) (by omega) (by omega),Zdi _ (by omega) (by omega)]
 have h1:1<=2 ^ l.length:=Nat.one_le_two_pow
 have e:((2:Int) ^ l.length) - 1 = ((2 ^ l.length - 1:Nat):Int):=by
  rw [Int.natCast_sub h1];simp
 rw [e]
 by_cases hm:PM.IsP l
 ·rw [decide_eq_true hm,(PM.Zml l h).2 hm];simp
 ·rw [decide_eq_false hm]
  have:PM.mask l ≠ 2 ^ l.length - 1:=fun he=>hm ((PM.Zml l h).1 he)
  simp only [beq_eq_false_iff_ne,ne_eq]
  omega
set_option maxHeartbeats 1000000 in
theorem Zld (a:Option Addr) (cap:Nat) (l:List Int) (fp:List Nat) (w:World) (h:IntsA w a cap l fp) :
  Calls Tryz.prog 137 #[.slice a l.length cap] w fun e w'=>e = .returned (.bool (permB l))/\Drew w w':=by
 have hb:=h.bound
 rcases hq:inR l.length 1 20
 ·go_enter Tryz.func137,Tryz.ntmps137
  go_wp2_with (first | (go_at_call 47;(with_reducible refine (Zbd _ l fp _ h.rd).mono ?_);rintro e w ⟨rfl,rfl⟩) | (go_at_call 96;(with_reducible refine (Zaj l.length 1 20 _).mono ?_);rintro e w ⟨rfl,rfl⟩))
  go_ret
  exact ⟨Zaa (by unfold permB;rw [hq];rfl),Drew.refl _⟩
 have hfin:permB l = decide (PM.IsP l):=by unfold permB;rw [hq];rfl
 have Hfin:=zH hfin;clear hfin
 obtain ⟨g1,g2⟩:=inR_iff.1 hq
 go_enter Tryz.func137,Tryz.ntmps137
 go_wp2_with (first | (go_at_call 47;(with_reducible refine (Zbd _ l fp _ h.rd).mono ?_);rintro e w ⟨rfl,rfl⟩) | (go_at_call 96;(with_reducible refine (Zaj l.length 1 20 _).mono ?_);rintro e w ⟨rfl,rfl⟩))
 go_loopw [3,12] (fun sn i wr=>∃ j:Nat,j<=l.length/\i = .int .i64 j/\sn = .int .i64 (PM.mask (l.take j):Nat)/\(∀ x∈l.take j,0<=x/\x < l.length)/\Drew w wr)
  (fun _ i _=>l.length - (intOf i).toNat)
 case atStart=>exact ⟨0,Nat.zero_le _,rfl,rfl,by simp,Drew.refl _⟩
 case round=>
  obtain ⟨j,hj,rfl,rfl,hr,k,rfl⟩:=hrel
  have Hr:=zH hr;clear hr
  by_cases hlt:j < l.length
  ·obtain ⟨b,off,ha,-,hc⟩:=h.at_ j hlt
   subst ha
   rcases c1:inR l[j] 0 (l.length - 1)
   ·go_wp2_with (first | (go_at_call 47;(with_reducible refine (Zbd _ l fp _ (zK h.rd (Only.ofDrewN _ _ _))).mono ?_);rintro e w1 ⟨rfl,rfl⟩) | (go_at_call 96;(with_reducible refine (Zaj l[j] 0 (l.length - 1) _).mono ?_);rintro e w1 ⟨rfl,rfl⟩))
    go_ret
    exact ⟨Zaa (by rw [Hfin.out,eq_comm,decide_eq_false_iff_not];intro hp;have:=hp.1 l[j] (List.getElem_mem _);rw [inR_not] at c1;omega),⟨_,rfl⟩⟩
   have hx:=inR_iff.1 c1
   have Hx:=zH hx;clear hx
   have hx0:0<=l[j]:=Hx.out.1
   have hx1:l[j]<=19:=by have:=Hx.out;omega
   have hm:=or_step (PM.mask (l.take j)) (Nat.lt_of_lt_of_le (PM.mask_lt _ l.length Hr.out) (Nat.pow_le_pow_right (by decide) (by omega))) l[j] hx0 hx1
   have Hm:=zH hm;clear hm
   go_wp2_with (first | (go_at_call 47;(with_reducible refine (Zbd _ l fp _ (zK h.rd (Only.ofDrewN _ _ _))).mono ?_);rintro e w1 ⟨rfl,rfl⟩) | (go_at_call 96;(with_reducible refine (Zaj l[j] 0 (l.length - 1) _).mono ?_);rintro e w1 ⟨rfl,rfl⟩))
   refine ⟨⟨j + 1,by omega,by go_num,?_,Zbk hlt Hr.out (by have:=Hx.out;omega),⟨_,rfl⟩⟩,by simp [intOf];omega⟩
   rw [Zab l j hlt,PM.Zpc,Hm.out]
  ·go_wp2
   go_ret
   exact ⟨Zaa (by have h1:=Hr.out;rw [List.take_of_length_le (by omega)] at h1 ⊢;rw [Hfin.out];exact Zrm l h1 (by omega)),⟨_,rfl⟩⟩
theorem Zcx (v:Value) (l:List Int) (fp:List Nat) (w:World) (h:Rd w v l fp) :
  Calls Tryz.prog 137 #[v] w fun e w'=>e = .returned (.bool (permB l))/\Drew w w':=by
 obtain ⟨a,cap,rfl,hI⟩:=h.ints
 exact Zld a cap l fp w hI
set_option maxHeartbeats 400000 in
theorem Zku (f:FuncId) (caps:Array Value) (pr:List Int->Bool) (hcf:∀ args w,(callFunc f args).run Tryz.prog w = .ok (.enter f args) w)
  (v:Value) (l:List (List Int)) (fp:List Nat) (w:World) (h:Rd w v l fp)
  (hc:∀ x∈l,∀ u f' w',Only [] w w'->Rd w' u x f'->Calls Tryz.prog f (#[u] ++ caps) w' fun e w''=>e = .returned (.bool (pr x))/\Only [] w' w'') :
  Calls Tryz.prog 196 #[v,.func (.func f) #[] caps] w fun e w'=>e = .returned (.int .i64 (idxF pr l))/\Only [] w w':=by
 obtain ⟨a,cap,ob,fps,rfl,-,hI⟩:=h.open_
 have hb:=hI.bound
 have HC:=zH hc
 clear hc
 go_enter Tryz.func196,Tryz.ntmps196
 go_wp2
 go_loopw [5,8] (fun i t wr=>∃ j:Nat,j<=l.length/\t = .int .i64 j/\(∀ x∈l.take j,pr x = false)/\Only [] w wr)
  (fun _ t _=>l.length - (intOf t).toNat)
 case atStart=>exact ⟨0,Nat.zero_le _,rfl,by simp,Only.refl _ _⟩
 case round=>
  obtain ⟨j,hj,rfl,hr,hK⟩:=hrel
  have Hr:=zH hr;clear hr
  by_cases hlt:j < l.length
  ·obtain ⟨b,off,u,rfl,-,hc0,hv0⟩:=hI.atRow j hlt
   have hc:=hK.cell (by simp) hc0
   have hv:=zK hv0 hK
   clear hc0 hv0
   rcases hp:pr l[j]
   all_goals go_wp2_with (with_reducible refine (HC.out l[j] (List.getElem_mem _) u _ wr hK hv).mono ?_;rintro e w1 ⟨rfl,hk1⟩)
   ·go_roundw
    case rel=>exact ⟨j + 1,by omega,by go_num,by
     rw [Zab l j hlt];intro x hx
     rcases List.mem_append.1 hx with hx | hx
     ·exact Hr.out x hx
     ·simp at hx;subst hx;exact hp,hK.trans hk1⟩
    case measure=>simp [intOf];omega
   ·go_ret
    exact ⟨ret_int (Zec hlt Hr.out hp).symm,hK.trans hk1⟩
  ·go_wp2
   go_ret
   exact ⟨ret_int (Zfk (by have:=Hr.out;rwa [List.take_of_length_le (by omega)] at this)).symm,hK⟩
set_option maxHeartbeats 400000 in
theorem Zho (f:FuncId) (caps:Array Value) (pr:List Int->Bool) (hcf:∀ args w,(callFunc f args).run Tryz.prog w = .ok (.enter f args) w)
  (v:Value) (l:List (List Int)) (fp:List Nat) (w:World) (h:Rd w v l fp)
  (hc:∀ x∈l,∀ u f' w',Only [] w w'->Rd w' u x f'->Calls Tryz.prog f (#[u] ++ caps) w' fun e w''=>e = .returned (.bool (pr x))/\Only [] w' w'') :
  Calls Tryz.prog 171 #[v,.func (.func f) #[] caps] w fun e w'=>e = .returned (.bool (l.any pr))/\Only [] w w':=by
 have HC:=zH hc
 clear hc
 go_enter Tryz.func171,Tryz.ntmps171
 go_wp2_with ((go_at_call 196;(with_reducible refine (Zku f caps pr hcf v l _ w h HC.out).mono ?_);rintro e w1 ⟨rfl,hk⟩))
 go_ret
 exact ⟨Zaa idxF_ge,hk⟩
def genB (n:Int) (g:List Int):Bool:=decide ((g.length:Int) = n) && permB g
def gensB (n:Int) (gens:List (List Int)):Bool:=inR n 1 20 && decide (gens.length<=8) && gens.all (genB n)
set_option maxHeartbeats 1000000 in
theorem Zkk (n:Int) (a:Option Addr) (cap:Nat) (l:List (List Int)) (ob:List Nat) (fps:List (List Nat)) (w:World) (h:SeqA w a cap l ob fps) :
  Calls Tryz.prog 131 #[.int .i64 n,.slice a l.length cap] w fun e w'=>e = .returned (.bool (gensB n l))/\Drew w w':=by
 have hb:=h.bound
 rcases hq:inR n 1 20
 ·go_enter Tryz.func131,Tryz.ntmps131
  go_wp2_with ((go_at_call 88;(with_reducible refine (Zah n 1 20 _).mono ?_);rintro e w ⟨rfl,rfl⟩))
  go_ret
  exact ⟨Zaa (by unfold gensB;rw [hq];rfl),Drew.refl _⟩
 by_cases hl:8 < l.length
 ·go_enter Tryz.func131,Tryz.ntmps131
  go_wp2_with ((go_at_call 88;(with_reducible refine (Zah n 1 20 _).mono ?_);rintro e w ⟨rfl,rfl⟩))
  go_ret
  exact ⟨Zaa (by unfold gensB;rw [hq,decide_eq_false (by omega)];rfl),Drew.refl _⟩
 have hfin:gensB n l = l.all (genB n):=by unfold gensB;rw [hq,decide_eq_true (by omega)];rfl
 have Hfin:=zH hfin;clear hfin
 go_enter Tryz.func131,Tryz.ntmps131
 go_wp2_with ((go_at_call 88;(with_reducible refine (Zah n 1 20 _).mono ?_);rintro e w ⟨rfl,rfl⟩))
 go_loopw [5] (fun i wr=>∃ j:Nat,j<=l.length/\i = .int .i64 j/\(∀ x∈l.take j,genB n x = true)/\Drew w wr)
  (fun i _=>l.length - (intOf i).toNat)
 case atStart=>exact ⟨0,Nat.zero_le _,rfl,by simp,Drew.refl _⟩
 case round=>
  obtain ⟨j,hj,rfl,hr,k,rfl⟩:=hrel
  have Hr:=zH hr;clear hr
  by_cases hlt:j < l.length
  ·obtain ⟨b,off,v,rfl,-,hc,hv⟩:=h.atRow j hlt
   obtain ⟨a2,c2,rfl,hI⟩:=hv.ints
   have hb2:=hI.bound
   by_cases c1:(l[j].length:Int) = n
   ·have d1:((l[j].length:Int) != n) = false:=by simp [c1]
    have C1:=zH c1;clear c1
    rcases c2:permB l[j]
    all_goals go_wp2_with ((go_at_call 133;(with_reducible refine (Zcz _ l[j] _ _ (zK hv (Only.ofDrewN _ _ _))).mono ?_);rintro e w1 ⟨rfl,n1,rfl⟩))
    ·go_ret
     exact ⟨Zaa (by rw [Hfin.out,eq_comm,List.all_eq_false];exact ⟨l[j],List.getElem_mem _,by simp [genB,c2]⟩),⟨_,rfl⟩⟩
    ·go_roundw
     case rel=>exact ⟨j + 1,by omega,by go_num,by
      rw [Zab l j hlt];intro x hx
      rcases List.mem_append.1 hx with hx | hx
      ·exact Hr.out x hx
      ·simp at hx;subst hx;simp [genB,c2,C1.out],⟨_,rfl⟩⟩
     case measure=>simp [intOf];omega
   ·have d1:((l[j].length:Int) != n) = true:=by simp [c1]
    have C1:=zH c1;clear c1
    go_wp2
    go_ret
    exact ⟨Zaa (by rw [Hfin.out,eq_comm,List.all_eq_false];exact ⟨l[j],List.getElem_mem _,by simp [genB,C1.out]⟩),⟨_,rfl⟩⟩
  ·go_wp2
   go_ret
   exact ⟨Zaa (by rw [Hfin.out,eq_comm,List.all_eq_true];have:=Hr.out;rwa [List.take_of_length_le (by omega)] at this),⟨_,rfl⟩⟩
theorem Zeg (n:Int) (v:Value) (l:List (List Int)) (fp:List Nat) (w:World) (h:Rd w v l fp) :
  Calls Tryz.prog 131 #[.int .i64 n,v] w fun e w'=>e = .returned (.bool (gensB n l))/\Drew w w':=by
 obtain ⟨a,cap,ob,fps,rfl,-,hs⟩:=h.open_
 exact Zkk n a cap l ob fps w hs
theorem Zbx (v:Value) (l:List Int) (fp:List Nat) (w:World) (h:Rd w v l fp) :
  Calls Tryz.prog 47 #[v] w fun e w'=>e = .returned (.int .i64 l.length)/\Drew w w':=
 (Zbd v l fp w h).mono fun _ _ ⟨h1,h2⟩=>⟨h1,by rw [h2];exact Drew.refl _⟩
set_option maxHeartbeats 1000000 in
theorem Zkm (n:Int) (u:Value) (x:List Int) (fp:List Nat) (b:Nat) (w:World) (h:Rd w u x fp) (hc:w.cell? ⟨b,0,none⟩ = some (.int .i64 n)) :
  Calls Tryz.prog 172 #[u,.pointer (some ⟨b,0,none⟩)] w fun e w'=>e = .returned (.bool (!genB n x))/\Only [] w w':=by
 obtain ⟨a,cap,rfl,hI⟩:=h.ints
 have hb:=hI.bound
 by_cases c1:(x.length:Int) = n
 ·have d1:((x.length:Int) != n) = false:=by simp [c1]
  have hg:genB n x = permB x:=by simp [genB,c1]
  have Hg:=zH hg;clear hg c1
  rcases c2:permB x
  all_goals go_enter Tryz.func172,Tryz.ntmps172
  all_goals go_wp2
  all_goals go_quiet (first
   | (go_at_call 47;exact Zbc (Zbx _ x fp _ (zK h (Only.ofDrewN _ _ _))))
   | (go_at_call 137;exact Zbc (Zcx _ x fp _ (zK h (Only.ofDrewN _ _ _)))))
  all_goals go_wp2
  all_goals go_ret
  all_goals exact ⟨Zaa (by rw [Hg.out,c2];rfl),Only.ofDrewN _ _ _⟩
 ·have d1:((x.length:Int) != n) = true:=by simp [c1]
  have hg:genB n x = false:=by simp [genB,c1]
  have Hg:=zH hg;clear hg c1
  go_enter Tryz.func172,Tryz.ntmps172
  go_wp2
  go_quiet (first
   | (go_at_call 47;exact Zbc (Zbx _ x fp _ (zK h (Only.ofDrewN _ _ _))))
   | (go_at_call 137;exact Zbc (Zcx _ x fp _ (zK h (Only.ofDrewN _ _ _)))))
  go_wp2
  go_ret
  exact ⟨Zaa (by rw [Hg.out];rfl),Only.ofDrewN _ _ _⟩
set_option maxHeartbeats 1000000 in
theorem Znc (n:Int) (v:Value) (l:List (List Int)) (fp:List Nat) (w:World) (h:Rd w v l fp) :
  Calls Tryz.prog 135 #[.int .i64 n,v] w fun e w'=>e = .returned (.bool (gensB n l))/\Only [] w w':=by
 obtain ⟨a,cap,ob,fps,rfl,-,hs⟩:=h.open_
 have hb:=hs.bound
 rcases hq:inR n 1 20
 ·go_enter Tryz.func135,Tryz.ntmps135
  go_wp2_with ((go_at_call 96;(with_reducible refine (Zaj n 1 20 _).mono ?_);rintro e w1 ⟨rfl,rfl⟩))
  go_ret
  exact ⟨Zaa (by unfold gensB;rw [hq];rfl),zA⟩
 by_cases hl:l.length<=8
 ·have hfin:gensB n l = !(l.any fun x=>!genB n x):=by unfold gensB;rw [hq,decide_eq_true hl,List.not_any_eq_all_not];simp
  have Hfin:=zH hfin;clear hfin
  have Hc:=zH (Zho 172 #[.pointer (some ⟨w.heap.size,0,none⟩)] (fun x=>!genB n x) Tryz.call172 (.slice a l.length cap) l _ (w.alloc (.cells #[.int .i64 n] 2)) (zK h zA)
   (fun x _ u f' w' hw hu=>Zkm n u x f' w.heap.size w' hu (hw.cell (by simp) (by simp))))
  rcases hany:l.any fun x=>!genB n x
  all_goals go_enter Tryz.func135,Tryz.ntmps135
  all_goals go_wp2_with (first | (go_at_call 96;refine (Zaj n 1 20 _).mono ?_;rintro e w1 ⟨rfl,rfl⟩) | (go_at_call 171;(with_reducible refine (Hc.out).mono ?_);rintro e w1 ⟨rfl,hk⟩))
  all_goals go_ret
  all_goals exact ⟨Zaa (by rw [Hfin.out,hany];rfl),zA⟩
 ·go_enter Tryz.func135,Tryz.ntmps135
  go_wp2_with ((go_at_call 96;(with_reducible refine (Zaj n 1 20 _).mono ?_);rintro e w1 ⟨rfl,rfl⟩))
  go_ret
  exact ⟨Zaa (by unfold gensB;rw [hq,decide_eq_false hl];rfl),zA⟩
class MkL (α:Type) [Mk α]:Prop where
 idem:∀ (k:Int) (x:α),Mk.mark k (Mk.mark k x) = Mk.mark k x
 cnt:∀ (k:Int) (x:α),Mk.cnt (Mk.mark k x) = Mk.cnt x
instance:MkL Int:=⟨fun _ _=>rfl,fun _ _=>rfl⟩
theorem Zdc {α:Type} [Mk α] [MkL α] (k:Int) (l:List α):cntL (markL k l) = cntL l:=by
 induction l generalizing k with
 | nil=>rfl
 | cons x l ih=>simp [markL,cntL,ih,MkL.cnt]
theorem Zeo {α:Type} [Mk α] [MkL α] (k:Int) (l:List α):markL k (markL k l) = markL k l:=by
 induction l generalizing k with
 | nil=>rfl
 | cons x l ih=>simp [markL,ih,MkL.cnt,MkL.idem]
instance {α:Type} [Mk α] [MkL α]:MkL (List α):=⟨Zeo,Zdc⟩
theorem Zkb {α:Type} [Mk α] [MkL α] (k:Int) (x:α):heldV k (Mk.mark k x) = k + (Mk.cnt x:Nat):=by
 rw [Zdg (MkL.idem k x).symm,MkL.cnt]
class CntSz (α:Type) [Mk α] [Sz α]:Prop where
 le:∀ x:α,Mk.cnt x<=Sz.sz x
instance:CntSz (List Int):=⟨fun l=>by simp [Mk.cnt,Zav,Sz.sz]⟩
theorem Zrf {α:Type} [Mk α] [Sz α] [CntSz α] (l:List α):cntL l<=szL l:=by
 induction l with
 | nil=>simp [cntL]
 | cons x l ih=>have:=CntSz.le x;simp only [cntL,szL];omega
instance {α:Type} [Mk α] [Sz α] [CntSz α]:CntSz (List α):=⟨fun l=>by have:=Zrf l;show cntL l<=l.length + szL l;omega⟩
theorem str_ne {a b:ByteArray} (h:a ≠ b):(a.toList == b.toList) = false:=by
 rw [beq_eq_false_iff_ne]
 intro e
 rw [ByteArray.toList_eq,ByteArray.toList_eq] at e
 exact h (ByteArray.ext (Array.toList_inj.1 e))
theorem str_eq {a b:ByteArray} (h:a = b):(a.toList == b.toList) = true:=by subst h;simp
theorem and_of {a b:Prop} (h:a) (k:a->b):a/\b:=⟨h,k h⟩
def Blk (w:World) (g:Nat) (cs:List Value):Prop:=∃ t,w.heap[g]? = some (.cells cs.toArray t (0,0))
theorem Blk.lt {w:World} {g:Nat} {cs:List Value} (h:Blk w g cs):g < w.heap.size:=by
 obtain ⟨t,h⟩:=h;exact (Array.getElem?_eq_some_iff.1 h).1
theorem Blk.new (w:World) (cs:List Value) (t:TypeId):Blk (w.alloc (.cells cs.toArray t)) w.heap.size cs:=⟨t,heap_alloc_new w _⟩
theorem Blk.new_at {w:World} {cs:List Value} {t:TypeId} {g:Nat} (h:g = w.heap.size):Blk (w.alloc (.cells cs.toArray t)) g cs:=by subst h;exact Blk.new _ _ _
theorem Blk.only {w w':World} {g:Nat} {cs:List Value} {fp:List Nat} (h:Blk w g cs) (ho:Only fp w w') (hn:g ∉ fp):Blk w' g cs:=by
 have:=h.lt
 obtain ⟨t,h⟩:=h;exact ⟨t,(ho.block g this hn).trans h⟩
theorem Blk.keep {w w':World} {g:Nat} {cs:List Value} (h:Blk w g cs) (ho:Only [] w w'):Blk w' g cs:=h.only ho (by simp)
theorem Blk.cell {w:World} {g:Nat} {cs:List Value} (h:Blk w g cs) (i:Nat) {v:Value} (hv:cs[i]? = some v):w.cell? ⟨g,i,none⟩ = some v:=by
 obtain ⟨t,h⟩:=h
 rw [cell_of_row w g i _ t (0,0) h];simpa using hv
theorem Blk.c2 {w : World} {b : Nat} {v0 v1 : Value} {r : List Value} (h : Blk w b (v0 :: v1 :: r)) : w.cell? ⟨b, 0, none⟩ = some v0 /\ w.cell? ⟨b, 1, none⟩ = some v1 := ⟨h.cell 0 rfl, h.cell 1 rfl⟩
theorem Blk.c3 {w : World} {b : Nat} {v0 v1 v2 : Value} {r : List Value} (h : Blk w b (v0 :: v1 :: v2 :: r)) : w.cell? ⟨b, 0, none⟩ = some v0 /\ w.cell? ⟨b, 1, none⟩ = some v1 /\ w.cell? ⟨b, 2, none⟩ = some v2 := ⟨h.cell 0 rfl, h.cell 1 rfl, h.cell 2 rfl⟩
theorem Blk.c4 {w : World} {b : Nat} {v0 v1 v2 v3 : Value} {r : List Value} (h : Blk w b (v0 :: v1 :: v2 :: v3 :: r)) : w.cell? ⟨b, 0, none⟩ = some v0 /\ w.cell? ⟨b, 1, none⟩ = some v1 /\ w.cell? ⟨b, 2, none⟩ = some v2 /\ w.cell? ⟨b, 3, none⟩ = some v3 := ⟨h.cell 0 rfl, h.cell 1 rfl, h.cell 2 rfl, h.cell 3 rfl⟩
theorem Blk.c5 {w : World} {b : Nat} {v0 v1 v2 v3 v4 : Value} {r : List Value} (h : Blk w b (v0 :: v1 :: v2 :: v3 :: v4 :: r)) : w.cell? ⟨b, 0, none⟩ = some v0 /\ w.cell? ⟨b, 1, none⟩ = some v1 /\ w.cell? ⟨b, 2, none⟩ = some v2 /\ w.cell? ⟨b, 3, none⟩ = some v3 /\ w.cell? ⟨b, 4, none⟩ = some v4 := ⟨h.cell 0 rfl, h.cell 1 rfl, h.cell 2 rfl, h.cell 3 rfl, h.cell 4 rfl⟩
theorem Blk.c6 {w : World} {b : Nat} {v0 v1 v2 v3 v4 v5 : Value} {r : List Value} (h : Blk w b (v0 :: v1 :: v2 :: v3 :: v4 :: v5 :: r)) : w.cell? ⟨b, 0, none⟩ = some v0 /\ w.cell? ⟨b, 1, none⟩ = some v1 /\ w.cell? ⟨b, 2, none⟩ = some v2 /\ w.cell? ⟨b, 3, none⟩ = some v3 /\ w.cell? ⟨b, 4, none⟩ = some v4 /\ w.cell? ⟨b, 5, none⟩ = some v5 := ⟨h.cell 0 rfl, h.cell 1 rfl, h.cell 2 rfl, h.cell 3 rfl, h.cell 4 rfl, h.cell 5 rfl⟩
structure Table where
 tracked:List Int
 patterns:List (List Int)
 distances:List Int
instance:Rp Table where
 size:=3
 rep w cs x fp:=∃ v0 v1 v2 f0 f1 f2,cs = [v0] ++ [v1] ++ [v2]/\fp = f0 ++ (f1 ++ f2)/\Rd w v0 x.tracked f0/\Rd w v1 x.patterns f1/\Rd w v2 x.distances f2
 len h:=by
  obtain ⟨v0,v1,v2,f0,f1,f2,rfl,-,h0,h1,h2⟩:=h
  rfl
 frame h hf:=by
  obtain ⟨v0,v1,v2,f0,f1,f2,hcs,rfl,h0,h1,h2⟩:=h
  exact ⟨v0,v1,v2,f0,f1,f2,hcs,rfl,Rp.frame h0 fun b hb=>hf b (by simp [hb]),Rp.frame h1 fun b hb=>hf b (by simp [hb]),Rp.frame h2 fun b hb=>hf b (by simp [hb])⟩
 lt h:=by
  obtain ⟨v0,v1,v2,f0,f1,f2,hcs,rfl,h0,h1,h2⟩:=h
  intro b hb
  simp only [List.mem_append] at hb
  rcases hb with hb | hb | hb
  ·exact Rp.lt h0 b hb
  ·exact Rp.lt h1 b hb
  ·exact Rp.lt h2 b hb
instance:Mk Table where
 mark k x:=⟨Mk.mark (k) x.tracked,Mk.mark (k + (Mk.cnt x.tracked:Nat)) x.patterns,Mk.mark (k + (Mk.cnt x.tracked:Nat) + (Mk.cnt x.patterns:Nat)) x.distances⟩
 cnt x:=Mk.cnt x.tracked + Mk.cnt x.patterns + Mk.cnt x.distances
instance:Sz Table where
 sz x:=Sz.sz x.tracked + Sz.sz x.patterns + Sz.sz x.distances
instance:Sm Table where
 sm x:=Sm.sm x.tracked/\Sm.sm x.patterns/\Sm.sm x.distances
instance:SzSm Table:=⟨fun x h=>by
 have h':Sz.sz x.tracked + Sz.sz x.patterns + Sz.sz x.distances<=2097152:=h
 exact ⟨SzSm.of_ _ (by omega),SzSm.of_ _ (by omega),SzSm.of_ _ (by omega)⟩⟩
instance:CntSz Table:=⟨fun x=>by
 have h':Mk.cnt x.tracked + Mk.cnt x.patterns + Mk.cnt x.distances<=Sz.sz x.tracked + Sz.sz x.patterns + Sz.sz x.distances:=by have:=CntSz.le x.tracked;have:=CntSz.le x.patterns;have:=CntSz.le x.distances;omega
 exact h'⟩
instance:MkL Table:=⟨fun k x=>by simp [Mk.mark,Mk.cnt,Zeo,Zdc],fun k x=>by simp [Mk.mark,Mk.cnt,Zdc]⟩
theorem Table.eq_iff {x y:Table}:x = y ↔ x.tracked = y.tracked/\x.patterns = y.patterns/\x.distances = y.distances:=by
 cases x;cases y;simp
set_option maxHeartbeats 1000000 in
theorem Zoz (cs cs':List Value) (x y:Table) (fp fp':List Nat) (w:World) (h:Rp.rep w cs x fp) (h':Rp.rep w cs' y fp') :
  Calls Tryz.prog 69 #[.agg cs.toArray,.agg cs'.toArray] w fun e w'=>e = .returned (.bool (eqV x y))/\Only [] w w':=by
 obtain ⟨v0,v1,v2,f0,f1,f2,rfl,rfl,h0,h1,h2⟩:=h
 obtain ⟨v0',v1',v2',f0',f1',f2',rfl,rfl,h0',h1',h2'⟩:=h'
 rcases q0:eqV x.tracked y.tracked
 ·go_enter Tryz.func69,Tryz.ntmps69
  go_wp2_with (first | (go_at_call 17;(with_reducible refine (Zal v0 v0' x.tracked y.tracked _ _ _ (zK h0 zA) (zK h0' zA)).mono ?_);rintro e w0 ⟨rfl,n0,rfl⟩) | (go_at_call 16;(with_reducible refine (Zai v1 v1' x.patterns y.patterns _ _ _ (zK h1 zA) (zK h1' zA)).mono ?_);rintro e w1 ⟨rfl,n1,rfl⟩) | (go_at_call 17;(with_reducible refine (Zal v2 v2' x.distances y.distances _ _ _ (zK h2 zA) (zK h2' zA)).mono ?_);rintro e w2 ⟨rfl,n2,rfl⟩))
  go_ret
  exact ⟨Zaa (eqV_no (fun he=>(eqV_iff'.1 q0) (Table.eq_iff.1 he).1)).symm,zA⟩
 rcases q1:eqV x.patterns y.patterns
 ·go_enter Tryz.func69,Tryz.ntmps69
  go_wp2_with (first | (go_at_call 17;(with_reducible refine (Zal v0 v0' x.tracked y.tracked _ _ _ (zK h0 zA) (zK h0' zA)).mono ?_);rintro e w0 ⟨rfl,n0,rfl⟩) | (go_at_call 16;(with_reducible refine (Zai v1 v1' x.patterns y.patterns _ _ _ (zK h1 zA) (zK h1' zA)).mono ?_);rintro e w1 ⟨rfl,n1,rfl⟩) | (go_at_call 17;(with_reducible refine (Zal v2 v2' x.distances y.distances _ _ _ (zK h2 zA) (zK h2' zA)).mono ?_);rintro e w2 ⟨rfl,n2,rfl⟩))
  go_ret
  exact ⟨Zaa (eqV_no (fun he=>(eqV_iff'.1 q1) (Table.eq_iff.1 he).2.1)).symm,zA⟩
 rcases q2:eqV x.distances y.distances
 ·go_enter Tryz.func69,Tryz.ntmps69
  go_wp2_with (first | (go_at_call 17;(with_reducible refine (Zal v0 v0' x.tracked y.tracked _ _ _ (zK h0 zA) (zK h0' zA)).mono ?_);rintro e w0 ⟨rfl,n0,rfl⟩) | (go_at_call 16;(with_reducible refine (Zai v1 v1' x.patterns y.patterns _ _ _ (zK h1 zA) (zK h1' zA)).mono ?_);rintro e w1 ⟨rfl,n1,rfl⟩) | (go_at_call 17;(with_reducible refine (Zal v2 v2' x.distances y.distances _ _ _ (zK h2 zA) (zK h2' zA)).mono ?_);rintro e w2 ⟨rfl,n2,rfl⟩))
  go_ret
  exact ⟨Zaa (eqV_no (fun he=>(eqV_iff'.1 q2) (Table.eq_iff.1 he).2.2)).symm,zA⟩
 go_enter Tryz.func69,Tryz.ntmps69
 go_wp2_with (first | (go_at_call 17;(with_reducible refine (Zal v0 v0' x.tracked y.tracked _ _ _ (zK h0 zA) (zK h0' zA)).mono ?_);rintro e w0 ⟨rfl,n0,rfl⟩) | (go_at_call 16;(with_reducible refine (Zai v1 v1' x.patterns y.patterns _ _ _ (zK h1 zA) (zK h1' zA)).mono ?_);rintro e w1 ⟨rfl,n1,rfl⟩) | (go_at_call 17;(with_reducible refine (Zal v2 v2' x.distances y.distances _ _ _ (zK h2 zA) (zK h2' zA)).mono ?_);rintro e w2 ⟨rfl,n2,rfl⟩))
 go_ret
 exact ⟨Zaa (eqV_yes (Table.eq_iff.2 ⟨eqV_iff.1 q0,eqV_iff.1 q1,eqV_iff.1 q2⟩)).symm,zA⟩
end Go.Proofs.YtclhblofchfglaaGreat
