/- Words for the memory that the laws read and make: values that read as plain data; what a call leaves alone. -/
import Derived.Test.YtclhblofchfglaaGreatRows
import Derived.WalkKit
import Derived.WalkSpells
import Derived.WalkLawsBesides
import Derived.Lib.Hide
import Derived.Deep.Draws
import Derived.Deep.QuietTactic
import Derived.BigQuiet
import Derived.Maps.AppendAt
import Derived.Lib.SlBytesConst
namespace Go.Proofs.YtclhblofchfglaaGreat
open Go.RowKit
set_option maxRecDepth 10000
structure Only (fp:List Nat) (w w':World):Prop where
 os:w'.os = w.os
 tape:w'.tape = w.tape
 output:w'.output = w.output
 size:w.heap.size<=w'.heap.size
 block:∀ k,k < w.heap.size->k ∉ fp->w'.heap[k]? = w.heap[k]?
theorem Only.refl (fp:List Nat) (w:World):Only fp w w:=⟨rfl,rfl,rfl,Nat.le_refl _,fun _ _ _=>rfl⟩
theorem Only.mono {fp fp':List Nat} {w w':World} (h:Only fp w w') (hs:∀ b∈fp,b < w.heap.size->b∈fp'):Only fp' w w':=
 ⟨h.os,h.tape,h.output,h.size,fun k hk hn=>h.block k hk fun hm=>hn (hs k hm hk)⟩
theorem Only.trans {fp:List Nat} {a b c:World} (h:Only fp a b) (k:Only fp b c):Only fp a c:=
 ⟨k.os.trans h.os,k.tape.trans h.tape,k.output.trans h.output,Nat.le_trans h.size k.size,
  fun i hi hn=>(k.block i (Nat.lt_of_lt_of_le hi h.size) hn).trans (h.block i hi hn)⟩
theorem Only.then_ {fp fp':List Nat} {a b c:World} (h:Only fp a b) (k:Only fp' b c) (hs:∀ x∈fp',x < a.heap.size->x∈fp):Only fp a c:=
 ⟨k.os.trans h.os,k.tape.trans h.tape,k.output.trans h.output,Nat.le_trans h.size k.size,
  fun i hi hn=>(k.block i (Nat.lt_of_lt_of_le hi h.size) fun hm=>hn (hs i hm hi)).trans (h.block i hi hn)⟩
theorem Only.keepThen {fp:List Nat} {a b c:World} (h:Only fp a b) (k:Only [] b c):Only fp a c:=h.then_ k (by simp)
theorem Only.weaken {a b:World} (h:Only [] a b) (fp:List Nat):Only fp a b:=h.mono (by simp)
theorem Only.drew {fp:List Nat} {a w:World} (h:Only fp a w):Only fp a w.drew:=⟨h.os,h.tape,h.output,h.size,h.block⟩
theorem Only.drewN {fp:List Nat} {a w:World} (h:Only fp a w) (n:Nat):Only fp a (w.drewN n):=⟨h.os,h.tape,h.output,h.size,h.block⟩
theorem Only.alloc {fp:List Nat} {a w:World} (h:Only fp a w) (o:Obj):Only fp a (w.alloc o):=
 h.trans ⟨rfl,rfl,rfl,by simp,fun k hk _=>Below.heap_alloc _ _ _ hk⟩
theorem Only.setCell {fp:List Nat} {a w:World} (h:Only fp a w) {p:Addr} (hp:p.block < a.heap.size->p.block∈fp) (u:Value):Only fp a (w.setCell p u):=
 h.then_ (fp':=[p.block]) ⟨rfl,rfl,rfl,by simp [World.setCell],fun k hk hn=>Below.heap_setCell _ _ _ _ (by simpa using hn)⟩ (by simpa using hp)
theorem Only.grown {fp:List Nat} {a w w':World} {row:Option Nat} (h:Only fp a w) (hg:w.grownBy w' row) (hr:∀ k,row = some k->k < a.heap.size->k∈fp):Only fp a w':=
 h.then_ (fp':=row.toList) ⟨hg.os,hg.tape,hg.output,hg.size,fun k hk hn=>hg.block k hk (fun e=>hn (by simp [<- e]))⟩ (by
  intro x hx;exact hr x (by simpa using hx))
theorem Only.below {fp:List Nat} {w w':World} {B:Nat} (h:Only fp w w') (hB:B<=w.heap.size) (hf:∀ b∈fp,B<=b):Below B w w':=
 ⟨h.os,h.tape,h.output,h.size,fun k hk=>h.block k (Nat.lt_of_lt_of_le hk hB) fun hm=>by have:=hf k hm;omega⟩
theorem Only.ofDrewN (w:World) (n:Nat) (fp:List Nat):Only fp w (w.drewN n):=(Only.refl fp w).drewN n
theorem Only.cell {fp:List Nat} {w w':World} (h:Only fp w w') {p:Addr} (hn:p.block ∉ fp) {v:Value} (hc:w.cell? p = some v):w'.cell? p = some v:=
 (World.cell?_of_block (h.block p.block (World.block_lt_of_cell? w p hc) hn)).trans hc
def Drew (w w':World):Prop:=∃ n,w' = w.drewN n
theorem Drew.refl (w:World):Drew w w:=⟨0,rfl⟩
theorem Drew.drewN {a w:World} (h:Drew a w) (n:Nat):Drew a (w.drewN n):=by
 obtain ⟨m,rfl⟩:=h;exact ⟨m + n,by rw [World.drewN_drewN]⟩
theorem Drew.only {a b:World} (h:Drew a b) (fp:List Nat):Only fp a b:=by
 obtain ⟨m,rfl⟩:=h;exact Only.ofDrewN a m fp
def Own (w:World) (fp:List Nat):Prop:=∀ b∈fp,∃ c e,w.heap[b]? = some (.cells c e (0,0))
theorem Own.nil (w:World):Own w []:=by intro b hb;cases hb
theorem Own.lt {w:World} {fp:List Nat} (h:Own w fp):∀ b∈fp,b < w.heap.size:=by
 intro b hb
 obtain ⟨c,e,he⟩:=h b hb
 exact (Array.getElem?_eq_some_iff.1 he).1
theorem Own.frame {w w':World} {fp:List Nat} (h:Own w fp) (hf:∀ b∈fp,w'.heap[b]? = w.heap[b]?):Own w' fp:=by
 intro b hb;rw [hf b hb];exact h b hb
theorem Own.only {w w':World} {fp fp':List Nat} (h:Own w fp) (ho:Only fp' w w') (hd:∀ b∈fp,b ∉ fp'):Own w' fp:=
 h.frame fun b hb=>ho.block b (h.lt b hb) (hd b hb)
theorem Own.keep {w w':World} {fp:List Nat} (h:Own w fp) (ho:Only [] w w'):Own w' fp:=h.only ho (by simp)
theorem Own.append {w:World} {fp fp':List Nat} (h:Own w fp) (h':Own w fp'):Own w (fp ++ fp'):=by
 intro b hb;rcases List.mem_append.1 hb with hb | hb
 ·exact h b hb
 ·exact h' b hb
theorem Own.sub {w:World} {fp fp':List Nat} (h:Own w fp) (hs:∀ b∈fp',b∈fp):Own w fp':=fun b hb=>h b (hs b hb)
theorem Own.left {w:World} {fp fp':List Nat} (h:Own w (fp ++ fp')):Own w fp:=fun b hb=>h b (List.mem_append_left _ hb)
theorem Own.right {w:World} {fp fp':List Nat} (h:Own w (fp ++ fp')):Own w fp':=fun b hb=>h b (List.mem_append_right _ hb)
theorem Own.frozen {w:World} {fp:List Nat} (h:Own w fp) {b off:Nat} (hb:b∈fp):w.frozen? ⟨b,off,none⟩ = false:=by
 obtain ⟨c,e,he⟩:=h b hb
 simp [World.frozen?,he]
theorem Own.setCell {w:World} {fp:List Nat} (h:Own w fp) (p:Addr) (u:Value):Own (w.setCell p u) fp:=by
 intro b hb
 obtain ⟨c,e,he⟩:=h b hb
 by_cases hp:p.block = b
 ·subst hp
  exact ⟨if p.spot.isSome = true then c else c.setIfInBounds p.off u,e,by simp [World.setCell,Array.getElem?_modify,he]⟩
 ·exact ⟨c,e,by rw [Below.heap_setCell _ _ _ _ (fun e=>hp e.symm)];exact he⟩
structure Fresh (B:Nat) (w:World) (fp:List Nat):Prop where
 nd:fp.Nodup
 ge:∀ b∈fp,B<=b
 own:Own w fp
theorem Fresh.nil (B:Nat) (w:World):Fresh B w []:=⟨List.nodup_nil,by simp,Own.nil w⟩
theorem Fresh.keep {B:Nat} {w w':World} {fp:List Nat} (h:Fresh B w fp) (ho:Only [] w w'):Fresh B w' fp:=⟨h.nd,h.ge,h.own.keep ho⟩
theorem Fresh.only {B:Nat} {w w':World} {fp fp':List Nat} (h:Fresh B w fp) (ho:Only fp' w w') (hd:∀ b∈fp,b ∉ fp'):Fresh B w' fp:=⟨h.nd,h.ge,h.own.only ho hd⟩
theorem Fresh.mono {B B':Nat} {w:World} {fp:List Nat} (h:Fresh B w fp) (hB:B'<=B):Fresh B' w fp:=⟨h.nd,fun b hb=>Nat.le_trans hB (h.ge b hb),h.own⟩
theorem Fresh.lt {B:Nat} {w:World} {fp:List Nat} (h:Fresh B w fp):∀ b∈fp,b < w.heap.size:=h.own.lt
theorem Fresh.append {B B':Nat} {w:World} {fp fp':List Nat} (h:Fresh B w fp) (h':Fresh B' w fp') (hB:B<=B') (hlt:∀ b∈fp,b < B'):Fresh B w (fp ++ fp'):=
 ⟨List.nodup_append.2 ⟨h.nd,h'.nd,fun a ha b hb e=>by have:=hlt a ha;have:=h'.ge b hb;omega⟩,
  fun b hb=>(List.mem_append.1 hb).elim (h.ge b) fun hb=>Nat.le_trans hB (h'.ge b hb),h.own.append h'.own⟩
theorem Fresh.left {B:Nat} {w:World} {fp fp':List Nat} (h:Fresh B w (fp ++ fp')):Fresh B w fp:=
 ⟨(List.nodup_append.1 h.nd).1,fun b hb=>h.ge b (List.mem_append_left _ hb),h.own.left⟩
theorem Fresh.right {B:Nat} {w:World} {fp fp':List Nat} (h:Fresh B w (fp ++ fp')):Fresh B w fp':=
 ⟨(List.nodup_append.1 h.nd).2.1,fun b hb=>h.ge b (List.mem_append_right _ hb),h.own.right⟩
theorem ret_int {k:IntKind} {a b:Int} (h:a = b):Ending.returned (.int k a) = .returned (.int k b):=by rw [h]
theorem Zaa {a b:Bool} (h:a = b):Ending.returned (.bool a) = .returned (.bool b):=by rw [h]
def I64 (n:Int):Prop:=-9223372036854775808<=n/\n<=9223372036854775807
class Rp (α:Type) where
 size:Nat
 rep:World->List Value->α->List Nat->Prop
 len:∀ {w cs x fp},rep w cs x fp->cs.length = size
 frame:∀ {w w':World} {cs x fp},rep w cs x fp->(∀ b∈fp,w'.heap[b]? = w.heap[b]?)->rep w' cs x fp
 lt:∀ {w cs x fp},rep w cs x fp->∀ b∈fp,b < w.heap.size
theorem Rp.only {α:Type} [Rp α] {w w':World} {cs:List Value} {x:α} {fp fp':List Nat} (h:Rp.rep w cs x fp) (ho:Only fp' w w') (hd:∀ b∈fp,b ∉ fp'):Rp.rep w' cs x fp:=
 Rp.frame h fun b hb=>ho.block b (Rp.lt h b hb) (hd b hb)
theorem Rp.keep {α:Type} [Rp α] {w w':World} {cs:List Value} {x:α} {fp:List Nat} (h:Rp.rep w cs x fp) (ho:Only [] w w'):Rp.rep w' cs x fp:=Rp.only h ho (by simp)
instance:Rp Int where
 size:=1
 rep _ cs n fp:=cs = [.int .i64 n]/\I64 n/\fp = []
 len h:=by rw [h.1];rfl
 frame h _:=h
 lt h:=by rw [h.2.2];simp
structure SeqA {α:Type} [Rp α] (w:World) (a:Option Addr) (cap:Nat) (xs:List α) (ob:List Nat) (fps:List (List Nat)):Prop where
 len:xs.length<=cap
 cap:cap<=maxLen
 nf:fps.length = xs.length
 at_:∀ k (h:k < xs.length),∃ b off cs,a = some ⟨b,off,none⟩/\ob = [b]/\(∀ j u,cs[j]? = some u->w.cell? ⟨b,off + k * Rp.size α + j,none⟩ = some u)/\Rp.rep w cs (xs[k]) (fps[k]'(by omega))
 lt:∀ b∈ob,b < w.heap.size
 one:ob.length<=1
section
variable {α:Type} [Rp α] {w w':World} {a:Option Addr} {cap:Nat} {xs:List α} {ob:List Nat} {fps:List (List Nat)}
theorem SeqA.nil (w:World) (a:Option Addr) {cap:Nat} (h:cap<=maxLen):SeqA w a cap ([]:List α) [] []:=⟨Nat.zero_le _,h,rfl,by simp,by simp,by simp⟩
theorem SeqA.bound (h:SeqA w a cap xs ob fps):xs.length<=9223372036854775807:=by
 have h1:=h.len;have h2:=h.cap;unfold maxLen at h2;omega
theorem SeqA.lt_all (h:SeqA w a cap xs ob fps):∀ b∈ob ++ fps.flatten,b < w.heap.size:=by
 intro b hb
 rcases List.mem_append.1 hb with hb | hb
 ·exact h.lt b hb
 ·obtain ⟨f,hf,hb⟩:=List.mem_flatten.1 hb
  obtain ⟨k,hk,rfl⟩:=List.getElem_of_mem hf
  obtain ⟨_,_,_,_,_,_,hr⟩:=h.at_ k (by have:=h.nf;omega)
  exact Rp.lt hr b hb
theorem SeqA.frame (h:SeqA w a cap xs ob fps) (hf:∀ b∈ob ++ fps.flatten,w'.heap[b]? = w.heap[b]?):SeqA w' a cap xs ob fps:=by
 refine ⟨h.len,h.cap,h.nf,fun k hk=>?_,fun b hb=>?_,h.one⟩
 ·obtain ⟨b,off,cs,ha,hob,hc,hr⟩:=h.at_ k hk
  refine ⟨b,off,cs,ha,hob,fun j u hu=>?_,Rp.frame hr fun b hb=>hf b (List.mem_append_right _ (List.mem_flatten.2 ⟨_,List.getElem_mem _,hb⟩))⟩
  rw [World.cell?_of_block (w:=w) (hf b (by simp [hob]))]
  exact hc j u hu
 ·have:=hf b (List.mem_append_left _ hb)
  rw [Array.getElem?_eq_getElem (h.lt b hb)] at this
  exact (Array.getElem?_eq_some_iff.1 this).1
end
instance {α:Type} [Rp α]:Rp (List α) where
 size:=1
 rep w cs xs fp:=∃ a cap ob fps,cs = [.slice a xs.length cap]/\fp = ob ++ fps.flatten/\SeqA w a cap xs ob fps
 len h:=by obtain ⟨_,_,_,_,rfl,_⟩:=h;rfl
 frame h hf:=by
  obtain ⟨a,cap,ob,fps,hcs,hfp,hs⟩:=h
  exact ⟨a,cap,ob,fps,hcs,hfp,hs.frame fun b hb=>hf b (by rw [hfp];exact hb)⟩
 lt h:=by
  obtain ⟨a,cap,ob,fps,hcs,hfp,hs⟩:=h
  rw [hfp];exact hs.lt_all
abbrev Rd {α:Type} [Rp α] (w:World) (v:Value) (x:α) (fp:List Nat):Prop:=Rp.rep w [v] x fp
section
variable {α:Type} [Rp α] {w w':World} {v:Value} {xs:List α} {fp:List Nat}
theorem Rd.open_ (h:Rd w v xs fp):∃ a cap ob fps,v = .slice a xs.length cap/\fp = ob ++ fps.flatten/\SeqA w a cap xs ob fps:=by
 obtain ⟨a,cap,ob,fps,hcs,r⟩:=h
 exact ⟨a,cap,ob,fps,by simpa using hcs,r⟩
theorem SeqA.rd {a:Option Addr} {cap:Nat} {ob:List Nat} {fps:List (List Nat)} (h:SeqA w a cap xs ob fps):Rd w (.slice a xs.length cap) xs (ob ++ fps.flatten):=
 ⟨a,cap,ob,fps,rfl,rfl,h⟩
end
structure IntsA (w:World) (a:Option Addr) (cap:Nat) (l:List Int) (fp:List Nat):Prop where
 len:l.length<=cap
 cap:cap<=maxLen
 wf:∀ x∈l,I64 x
 at_:∀ k (h:k < l.length),∃ b off,a = some ⟨b,off,none⟩/\fp = [b]/\w.cell? ⟨b,off + k,none⟩ = some (.int .i64 l[k])
 lt:∀ b∈fp,b < w.heap.size
 one:fp.length<=1
section
variable {w w':World} {a:Option Addr} {cap:Nat} {l:List Int} {fp:List Nat}
theorem flatten_nil (n:Nat):(List.replicate n ([]:List Nat)).flatten = []:=by
 induction n with
 | zero=>rfl
 | succ n ih=>simp [List.replicate_succ]
theorem SeqA.ints {ob:List Nat} {fps:List (List Nat)} (h:SeqA w a cap l ob fps):IntsA w a cap l ob/\fps.flatten = []:=by
 have hE:∀ k (hk:k < l.length),∃ b off,a = some ⟨b,off,none⟩/\ob = [b]/\w.cell? ⟨b,off + k,none⟩ = some (.int .i64 l[k])/\I64 l[k]/\fps[k]'(by have:=h.nf;omega) = []:=by
  intro k hk
  obtain ⟨b,off,cs,ha,hob,hc,rfl,hi,hf⟩:=h.at_ k hk
  have:=hc 0 _ rfl
  exact ⟨b,off,ha,hob,by simpa [Rp.size] using this,hi,hf⟩
 refine ⟨⟨h.len,h.cap,fun x hx=>?_,fun k hk=>?_,h.lt,h.one⟩,?_⟩
 ·obtain ⟨k,hk,rfl⟩:=List.getElem_of_mem hx
  obtain ⟨_,_,_,_,_,hi,_⟩:=hE k hk
  exact hi
 ·obtain ⟨b,off,ha,hob,hc,_⟩:=hE k hk
  exact ⟨b,off,ha,hob,hc⟩
 ·have:fps = List.replicate fps.length []:=by
   apply List.ext_getElem (by simp)
   intro k h1 h2
   obtain ⟨_,_,_,_,_,_,hf⟩:=hE k (by have:=h.nf;omega)
   simpa using hf
  rw [this];exact flatten_nil _
theorem IntsA.seq (h:IntsA w a cap l fp):SeqA w a cap l fp (List.replicate l.length []):=by
 refine ⟨h.len,h.cap,by simp,fun k hk=>?_,h.lt,h.one⟩
 obtain ⟨b,off,ha,hf,hc⟩:=h.at_ k hk
 refine ⟨b,off,[.int .i64 l[k]],ha,hf,fun j u hu=>?_,rfl,h.wf _ (List.getElem_mem _),by simp⟩
 cases j with
 | zero=>simp at hu;subst hu;simpa [Rp.size] using hc
 | succ j=>simp at hu
theorem IntsA.rd (h:IntsA w a cap l fp):Rd w (.slice a l.length cap) l fp:=
 ⟨a,cap,fp,_,rfl,by rw [flatten_nil];simp,h.seq⟩
theorem Rd.ints {v:Value} (h:Rd w v l fp):∃ a cap,v = .slice a l.length cap/\IntsA w a cap l fp:=by
 obtain ⟨a,cap,ob,fps,rfl,rfl,hs⟩:=h.open_
 obtain ⟨h1,h2⟩:=hs.ints
 exact ⟨a,cap,rfl,by rw [h2];simpa using h1⟩
theorem IntsA.nil (w:World) (a:Option Addr) {cap:Nat} (h:cap<=maxLen):IntsA w a cap [] []:=⟨Nat.zero_le _,h,by simp,by simp,by simp,by simp⟩
theorem IntsA.bound (h:IntsA w a cap l fp):l.length<=9223372036854775807:=by
 have h1:=h.len;have h2:=h.cap;unfold maxLen at h2;omega
theorem IntsA.frame (h:IntsA w a cap l fp) (hf:∀ b∈fp,w'.heap[b]? = w.heap[b]?):IntsA w' a cap l fp:=by
 refine ⟨h.len,h.cap,h.wf,fun k hk=>?_,fun b hb=>?_,h.one⟩
 ·obtain ⟨b,off,ha,hfp,hc⟩:=h.at_ k hk
  refine ⟨b,off,ha,hfp,?_⟩
  rw [World.cell?_of_block (w:=w) (hf b (by simp [hfp]))]
  exact hc
 ·have:=hf b hb
  rw [Array.getElem?_eq_getElem (h.lt b hb)] at this
  exact (Array.getElem?_eq_some_iff.1 this).1
theorem IntsA.only (h:IntsA w a cap l fp) {fp':List Nat} (ho:Only fp' w w') (hd:∀ b∈fp,b ∉ fp'):IntsA w' a cap l fp:=
 h.frame fun b hb=>ho.block b (h.lt b hb) (hd b hb)
theorem IntsA.keep (h:IntsA w a cap l fp) (ho:Only [] w w'):IntsA w' a cap l fp:=h.only ho (by simp)
theorem IntsA.set {b off j:Nat} {x:Int} (h:IntsA w (some ⟨b,off,none⟩) cap l fp) (hx:I64 x) :
  IntsA (w.setCell ⟨b,off + j,none⟩ (.int .i64 x)) (some ⟨b,off,none⟩) cap (l.set j x) fp:=by
 refine ⟨by simpa using h.len,h.cap,?_,?_,fun b hb=>by simpa [World.setCell] using h.lt b hb,h.one⟩
 ·intro y hy
  rcases List.mem_or_eq_of_mem_set hy with hy | rfl
  ·exact h.wf y hy
  ·exact hx
 ·intro k hk
  have hk':k < l.length:=by simpa using hk
  obtain ⟨b',off',ha,hf,hc⟩:=h.at_ k hk'
  injection ha with ha;injection ha with hb ho;subst hb;subst ho
  refine ⟨b,off,rfl,hf,?_⟩
  by_cases hkj:j = k
  ·subst hkj
   rw [World.cell?_setCell_same _ _ _ hc];simp
  ·rw [World.cell?_setCell_other _ _ _ _ (by simp),hc]
   simp [hkj]
end
class Mk (α:Type) where
 mark:Int->α->α
 cnt:α->Nat
instance:Mk Int:=⟨fun k _=>k,fun _=>1⟩
def markL {α:Type} [Mk α]:Int->List α->List α
 | _,[]=>[]
 | k,x :: xs=>Mk.mark k x :: markL (k + (Mk.cnt x:Nat)) xs
def cntL {α:Type} [Mk α]:List α->Nat
 | []=>0
 | x :: xs=>Mk.cnt x + cntL xs
instance {α:Type} [Mk α]:Mk (List α):=⟨markL,cntL⟩
open Classical in
noncomputable def heldV {α:Type} [Mk α] (k:Int) (x:α):Int:=if x = Mk.mark k x then k + (Mk.cnt x:Nat) else -1
open Classical in
noncomputable def eqV {α:Type} (x y:α):Bool:=decide (x = y)
theorem Zdg {α:Type} [Mk α] {k:Int} {x:α} (h:x = Mk.mark k x):heldV k x = k + (Mk.cnt x:Nat):=by unfold heldV;rw [if_pos h]
theorem Zbq {α:Type} [Mk α] {k:Int} {x:α} (h:x ≠ Mk.mark k x):heldV k x = -1:=by unfold heldV;rw [if_neg h]
theorem eqV_yes {α:Type} {x y:α} (h:x = y):eqV x y = true:=by unfold eqV;simp [h]
theorem eqV_no {α:Type} {x y:α} (h:x ≠ y):eqV x y = false:=by unfold eqV;simp [h]
theorem eqV_iff {α:Type} {x y:α}:eqV x y = true ↔ x = y:=by unfold eqV;simp
theorem eqV_iff' {α:Type} {x y:α}:eqV x y = false ↔ x ≠ y:=by unfold eqV;simp
section
variable {α:Type} [Mk α]
theorem Zgz (k:Int) (xs ys:List α):markL k (xs ++ ys) = markL k xs ++ markL (k + (cntL xs:Nat)) ys:=by
 induction xs generalizing k with
 | nil=>simp [markL,cntL]
 | cons x xs ih=>simp [markL,cntL,ih,Int.add_assoc]
theorem Zhy (xs ys:List α):cntL (xs ++ ys) = cntL xs + cntL ys:=by
 induction xs with
 | nil=>simp [cntL]
 | cons x xs ih=>simp [cntL,ih];omega
theorem Zaf (k:Int) (xs:List α):(markL k xs).length = xs.length:=by
 induction xs generalizing k with
 | nil=>rfl
 | cons x xs ih=>simp [markL,ih]
theorem Zab {β:Type} (l:List β) (j:Nat) (h:j < l.length):l.take (j + 1) = l.take j ++ [l[j]]:=by
 rw [List.take_succ_eq_append_getElem h]
theorem Zdt (xs:List α) (j:Nat):cntL (xs.take j)<=cntL xs:=by
 have h:cntL (xs.take j ++ xs.drop j) = cntL (xs.take j) + cntL (xs.drop j):=Zhy _ _
 rw [List.take_append_drop] at h
 omega
theorem Zcr (xs:List α) (j:Nat) (h:j < xs.length):cntL (xs.take (j + 1)) = cntL (xs.take j) + Mk.cnt xs[j]:=by
 rw [Zab xs j h,Zhy];simp [cntL]
theorem Zfg (k:Int) (xs:List α) (j:Nat) (h:j < xs.length):markL k (xs.take (j + 1)) = markL k (xs.take j) ++ [Mk.mark (k + (cntL (xs.take j):Nat)) xs[j]]:=by
 rw [Zab xs j h,Zgz];simp [markL]
theorem Zhi (k:Int) (xs:List α) (j:Nat) (h:j < xs.length) :
  (markL k (xs.take j) ++ xs.drop j).set j (Mk.mark (k + (cntL (xs.take j):Nat)) xs[j]) = markL k (xs.take (j + 1)) ++ xs.drop (j + 1):=by
 rw [Zfg k xs j h,List.set_append_right _ _ (by simp [Zaf];omega)]
 have:j - (markL k (xs.take j)).length = 0:=by simp [Zaf];omega
 rw [this,List.drop_eq_getElem_cons h]
 simp [List.set]
theorem Zhh {k:Int} {xs:List α} {j:Nat} (h:j < xs.length) (hr:xs.take j = markL k (xs.take j)) (he:xs[j] = Mk.mark (k + (cntL (xs.take j):Nat)) xs[j]) :
  xs.take (j + 1) = markL k (xs.take (j + 1)):=by
 rw [Zfg k xs j h,<- hr,<- he,Zab xs j h]
theorem Zex {k:Int} {xs:List α} {j:Nat} (h:j < xs.length) (he:xs[j] ≠ Mk.mark (k + (cntL (xs.take j):Nat)) xs[j]):xs ≠ markL k xs:=by
 intro hx
 have h1:xs.take j ++ xs.drop j = markL k (xs.take j) ++ markL (k + (cntL (xs.take j):Nat)) (xs.drop j):=by
  rw [<- Zgz,List.take_append_drop];exact hx
 have h2:=List.append_inj_right h1 (by simp [Zaf])
 rw [List.drop_eq_getElem_cons h,markL] at h2
 injection h2 with h2 _
 exact he h2
end
theorem Zav (l:List Int):cntL l = l.length:=by
 induction l with
 | nil=>rfl
 | cons x l ih=>simp [cntL,ih,Mk.cnt];omega
theorem zA {w w':World} {fp:List Nat} (h:Only fp w w':=by with_reducible repeat (first | exact Only.refl _ _ | assumption | refine Only.drewN ?_ _ | refine Only.drew ?_ | refine Only.alloc ?_ _ | refine Only.setCell ?_ (by intro hh;exfalso;simp at hh;try omega) _ | refine Only.trans ?_ (by assumption))):Only fp w w':=h
theorem zV {w w':World} {fp:List Nat} (h:Only fp w w':=by with_reducible repeat (first | assumption | exact .refl _ _ | refine .drew ?_ | refine .alloc ?_ _ | refine .trans ?_ (by assumption))):Only fp w w':=h
theorem zC {w w':World} {fp:List Nat} (h:Only fp w w':=by with_reducible repeat (first | exact Only.refl _ _ | assumption | refine Only.drewN ?_ _ | refine Only.drew ?_ | refine Only.alloc ?_ _ | refine Only.trans ?_ (by assumption))):Only fp w w':=h
theorem zB {w w':World} {fp:List Nat} (h:Only fp w w':=by with_reducible repeat (first | exact Only.refl _ _ | assumption | refine Only.drewN ?_ _ | refine Only.drew ?_ | refine Only.alloc ?_ _ | refine Only.setCell ?_ (by intro _;simp) _ | refine Only.trans ?_ (Only.weaken (by assumption) _))):Only fp w w':=h
theorem zH {p:Prop} (h:p):Hid p:=Lib.hid h
theorem zO {fp:List Nat} {w:World}:Only fp w w:=Only.refl _ _
theorem Only.ce {w w':World} (h:Only [] w w') {p:Addr} {v:Value} (hc:w.cell? p = some v):w'.cell? p = some v:=h.cell (by simp) hc
theorem zK {α:Type} [Rp α] {w w':World} {cs:List Value} {x:α} {fp:List Nat} (h:Rp.rep w cs x fp) (k:Only [] w w'):Rp.rep w' cs x fp:=Rp.keep h k
theorem Zpf {k:Int} {l:List Int} {j:Nat} (hj:j < l.length) (h:(l[j] != k + (j:Int)) = true):heldV k l = -1:=by
 apply Zbq
 apply Zex hj
 rw [Zav]
 simp only [Mk.mark,List.length_take,Nat.min_eq_left (Nat.le_of_lt hj)]
 simpa using h
theorem Znn {k:Int} {l:List Int} {j:Nat} (hj:¬ j < l.length) (hj':j<=l.length) (h:l.take j = markL k (l.take j)):heldV k l = k + j:=by
 have:j = l.length:=by omega
 subst this
 rw [Zdg (by show l = markL k l;simpa using h)]
 simp [Mk.cnt,Zav]
theorem Zmt {k:Int} {l:List Int} {j:Nat} (hj:j < l.length) (h:(l[j] != k + (j:Int)) = false) (hr:l.take j = markL k (l.take j)):l.take (j + 1) = markL k (l.take (j + 1)):=by
 apply Zhh hj hr
 rw [Zav]
 simp only [Mk.mark,List.length_take,Nat.min_eq_left (Nat.le_of_lt hj)]
 simpa using h
theorem Zcm {α:Type} [Mk α] (k:Int) (x:α):(heldV k x = -1/\x ≠ Mk.mark k x)\/(heldV k x = k + (Mk.cnt x:Nat)/\x = Mk.mark k x):=by
 by_cases hx:x = Mk.mark k x
 ·exact .inr ⟨Zdg hx,hx⟩
 ·exact .inl ⟨Zbq hx,hx⟩
set_option maxHeartbeats 400000 in
theorem Zlf (a:Option Addr) (cap:Nat) (l:List Int) (fp:List Nat) (k:Int) (w:World) (h:IntsA w a cap l fp) (h0:0<=k) (h1:k + l.length<=9223372036854775807) :
  Calls Tryz.prog 27 #[.slice a l.length cap,.int .i64 k] w fun e w'=>e = .returned (.int .i64 (heldV k l))/\Drew w w':=by
 go_enter Tryz.func27,Tryz.ntmps27
 go_wp2
 go_loop [1,5] (fun q i=>∃ j:Nat,j<=l.length/\q = .int .i64 (k + j)/\i = .int .i64 j/\l.take j = markL k (l.take j))
  (fun _ i=>l.length - (intOf i).toNat)
 case atStart=>exact ⟨0,Nat.zero_le _,by simp,rfl,rfl⟩
 case round=>
  obtain ⟨j,hj,rfl,rfl,hr⟩:=hrel
  have Hr:=zH hr;clear hr
  by_cases hlt:j < l.length
  ·obtain ⟨b,off,ha,-,hc⟩:=h.at_ j hlt
   go_wp2
   ·have hne:(l[j] != k + (j:Int)) = true:=by assumption
    go_ret
    exact ⟨ret_int (Zpf hlt hne).symm,Drew.refl _⟩
   ·have heq:(l[j] != k + (j:Int)) = false:=by assumption
    go_round
    case rel=>exact ⟨j + 1,by omega,by go_num,by go_num,Zmt hlt heq Hr.out⟩
    case measure=>simp [intOf];omega
  ·go_wp2
   go_ret
   exact ⟨ret_int (Znn hlt hj Hr.out).symm,Drew.refl _⟩
theorem eqL_len {α:Type} {l l':List α} (h:((l.length:Int) != (l'.length:Int)) = true):eqV l l' = false:=by
 apply eqV_no;rintro rfl;simp at h
theorem Zhk {l l':List Int} {j:Nat} (h1:j < l.length) (h2:j < l'.length) (h:(l[j] != l'[j]) = true):eqV l l' = false:=by
 apply eqV_no;rintro rfl;simp at h
theorem eqL_no {α:Type} {l l':List α} {j:Nat} (h1:j < l.length) (h2:j < l'.length) (h:eqV l[j] l'[j] = false):eqV l l' = false:=by
 apply eqV_no;rintro rfl;rw [eqV_iff'] at h;exact h rfl
theorem eqL_yes {α:Type} {l l':List α} {j:Nat} (hl:l.length = l'.length) (hj:¬ j < l.length) (h:l.take j = l'.take j):eqV l l' = true:=by
 apply eqV_yes
 rw [List.take_of_length_le (by omega),List.take_of_length_le (by omega)] at h
 exact h
theorem Zft {l l':List Int} {j:Nat} (h1:j < l.length) (h2:j < l'.length) (h:(l[j] != l'[j]) = false) (hr:l.take j = l'.take j):l.take (j + 1) = l'.take (j + 1):=by
 rw [Zab l j h1,Zab l' j h2,hr]
 simp at h;rw [h]
theorem Zgq {α:Type} {l l':List α} {j:Nat} (h1:j < l.length) (h2:j < l'.length) (h:eqV l[j] l'[j] = true) (hr:l.take j = l'.take j):l.take (j + 1) = l'.take (j + 1):=by
 rw [Zab l j h1,Zab l' j h2,hr]
 rw [eqV_iff] at h;rw [h]
set_option maxHeartbeats 400000 in
theorem Zos (a a':Option Addr) (cap cap':Nat) (l l':List Int) (fp fp':List Nat) (w:World) (h:IntsA w a cap l fp) (h':IntsA w a' cap' l' fp') :
  Calls Tryz.prog 17 #[.slice a l.length cap,.slice a' l'.length cap'] w fun e w'=>e = .returned (.bool (eqV l l'))/\Drew w w':=by
 have hb:=h.bound
 have hb':=h'.bound
 by_cases hl:l.length = l'.length
 ·have hne:((l.length:Int) != (l'.length:Int)) = false:=by simp [hl]
  have Hl:=zH hl;clear hl
  go_enter Tryz.func17,Tryz.ntmps17
  go_wp2
  go_loopw [5] (fun i wr=>∃ j:Nat,j<=l.length/\i = .int .i64 j/\l.take j = l'.take j/\Drew w wr)
   (fun i _=>l.length - (intOf i).toNat)
  case atStart=>exact ⟨0,Nat.zero_le _,rfl,rfl,Drew.refl _⟩
  case round=>
   obtain ⟨j,hj,rfl,hr,n,rfl⟩:=hrel
   have Hr:=zH hr;clear hr
   by_cases hlt:j < l.length
   ·have hlt':j < l'.length:=by have:=Hl.out;omega
    obtain ⟨b,off,ha,-,hc⟩:=h.at_ j hlt
    obtain ⟨b',off',ha',-,hc'⟩:=h'.at_ j hlt'
    go_wp2
    go_quiet (fail)
    go_wp2
    ·have hne:(l[j] != l'[j]) = true:=by assumption
     go_ret
     exact ⟨Zaa (Zhk hlt hlt' hne).symm,((Drew.refl _).drewN _).drewN _⟩
    ·have heq:(l[j] != l'[j]) = false:=by assumption
     go_roundw
     case rel=>exact ⟨j + 1,by omega,by go_num,Zft hlt hlt' heq Hr.out,⟨_,rfl⟩⟩
     case measure=>simp [intOf];omega
   ·go_wp2
    go_ret
    exact ⟨Zaa (eqL_yes Hl.out hlt Hr.out).symm,(Drew.refl _).drewN n⟩
 ·have hne:((l.length:Int) != (l'.length:Int)) = true:=by simp;omega
  go_enter Tryz.func17,Tryz.ntmps17
  go_wp2
  go_ret
  exact ⟨Zaa (eqL_len hne).symm,Drew.refl _⟩
theorem i64_of {n:Int} (h0:0<=n) (h1:n<=9223372036854775807):I64 n:=⟨by omega,h1⟩
set_option maxHeartbeats 400000 in
theorem Zll (a:Option Addr) (cap:Nat) (l:List Int) (fp:List Nat) (k:Int) (w:World) (h:IntsA w a cap l fp) (ho:Own w fp) (h0:0<=k) (h1:k + l.length<=9223372036854775807) :
  Calls Tryz.prog 20 #[.slice a l.length cap,.int .i64 k] w fun e w'=>
   e = .returned (.int .i64 (k + l.length))/\IntsA w' a cap (markL k l) fp/\Own w' fp/\Only fp w w':=by
 go_enter Tryz.func20,Tryz.ntmps20
 go_wp2
 go_loopw [1,5] (fun q i wr=>∃ j:Nat,j<=l.length/\q = .int .i64 (k + j)/\i = .int .i64 j/\IntsA wr a cap (markL k (l.take j) ++ l.drop j) fp/\Own wr fp/\Only fp w wr)
  (fun _ i _=>l.length - (intOf i).toNat)
 case atStart=>exact ⟨0,Nat.zero_le _,by simp,rfl,by simpa [markL] using h,ho,Only.refl _ _⟩
 case round=>
  obtain ⟨j,hj,rfl,rfl,hI,hO,hK⟩:=hrel
  by_cases hlt:j < l.length
  ·obtain ⟨b,off,ha,hf,hc⟩:=hI.at_ j (by simp [Zaf];omega)
   have hfz:=hO.frozen (b:=b) (off:=off + j) (by simp [hf])
   rw [ha] at hI
   have hI2:=hI.set (j:=j) (x:=k + j) (i64_of (by omega) (by omega))
   have hset:=Zhi k l j hlt
   rw [Zav] at hset
   simp only [Mk.mark,List.length_take,Nat.min_eq_left (Nat.le_of_lt hlt)] at hset
   rw [hset,<- ha] at hI2
   have hO2:=hO.setCell ⟨b,off + j,none⟩ (.int .i64 (k + j))
   have hK2:=hK.setCell (p:=⟨b,off + j,none⟩) (fun _=>by simp [hf]) (.int .i64 (k + j))
   have HI:=zH hI2
   clear hset hI hI2
   go_wp2
   go_roundw
   case rel=>exact ⟨j + 1,by omega,by go_num,by go_num,HI.out,hO2,hK2⟩
   case measure=>simp [intOf];omega
  ·have hjl:j = l.length:=by omega
   have hI':=hI
   rw [hjl] at hI'
   simp only [List.take_length,List.drop_length,List.append_nil] at hI'
   have Hj:=zH hjl
   clear hI hjl
   go_wp2
   go_ret
   exact ⟨ret_int (by rw [Hj.out]),hI',hO,hK⟩
theorem Tryz.info2:(Tryz.prog.info? 2).map (fun i=>(i.zero,i.size,i.bytes)) = some (some (.int .i64 0),1,8):=by kernel_rfl
theorem madeInts (n:Nat):(madeCells (Value.cells (.int .i64 0)) n).toList = List.replicate n (.int .i64 0):=by
 apply List.ext_getElem (by simp [madeCells])
 intro i h1 h2
 simp [madeCells,Value.cells,Nat.mod_one]
theorem Zaq {w:World} {base:Nat} {e:TypeId} {v:Value} {n:Nat} {l:List Int} (h:w.ownsRow base e 1 v n (l.map (.int .i64))) (hl:∀ x∈l,I64 x) :
  ∃ a cap,v = .slice a l.length cap/\n = l.length/\IntsA w a cap l v.ownBlock.toList/\Fresh base w v.ownBlock.toList:=by
 obtain ⟨h1,h2⟩:=h
 have hn:n = l.length:=by simpa using h1.symm
 subst hn
 rcases h2 with ⟨rfl,h0⟩ | ⟨g,cap,cur,rfl,hb,hg,hnc,hcm,hcs,htake⟩
 ·have:l = []:=List.eq_nil_of_length_eq_zero h0
  subst this
  exact ⟨none,0,rfl,rfl,IntsA.nil w none (by simp [maxLen]),Fresh.nil _ _⟩
 ·refine ⟨some ⟨g,0,none⟩,cap,rfl,rfl,⟨hnc,hcm,hl,fun k hk=>⟨g,0,rfl,rfl,?_⟩,?_,by simp [Value.ownBlock]⟩,⟨by simp [Value.ownBlock],by simpa [Value.ownBlock] using hb,?_⟩⟩
  ·have hh:(l.map (Value.int .i64))[k]? = some (.int .i64 l[k]):=by simp [hk]
   rw [<- htake,List.getElem?_take] at hh
   split at hh
   ·rw [cell_of_row w g _ cur e (0,0) hg];simpa using hh
   ·cases hh
  ·intro b hb'
   simp [Value.ownBlock] at hb';subst hb'
   exact (Array.getElem?_eq_some_iff.1 hg).1
  ·intro b hb'
   simp [Value.ownBlock] at hb';subst hb'
   exact ⟨_,_,hg⟩
theorem Zqw (l:List Int) (j:Nat) (h:j < l.length) :
  ((l.take j).map (Value.int .i64) ++ List.replicate (l.length - j) (Value.int .i64 0)).set j (.int .i64 l[j]) = (l.take (j + 1)).map (Value.int .i64) ++ List.replicate (l.length - (j + 1)) (.int .i64 0):=by
 rw [Zab l j h,List.set_append_right _ _ (by simp;omega)]
 have h1:j - ((l.take j).map (Value.int .i64)).length = 0:=by simp;omega
 have h2:l.length - j = (l.length - (j + 1)) + 1:=by omega
 rw [h1,h2,List.replicate_succ]
 simp only [List.set,List.map_append,List.map_cons,List.map_nil,List.append_assoc,List.cons_append,List.nil_append]
set_option maxHeartbeats 400000 in
theorem Znj (a:Option Addr) (cap:Nat) (l:List Int) (fp:List Nat) (w:World) (h:IntsA w a cap l fp) (hl:l.length<=2097152) :
  Calls Tryz.prog 12 #[.slice a l.length cap] w fun e w'=>∃ v fp',e = .returned v/\Rd w' v l fp'/\Fresh w.heap.size w' fp'/\Only [] w w':=by
 obtain ⟨i0,hi,hz0,hz1,hz2⟩:=info_parts Tryz.info2
 go_enter Tryz.func12,Tryz.ntmps12
 go_wp2_with (at_make;refine wpList_make_full _ rfl _ _ 25 rfl w.heap.size 2 i0 _ 1 Tryz.underlying25 hi hz0 hz1 _ _ _ _ l.length rfl rfl rfl rfl (by rw [hz2];omega) (by unfold maxLen;omega) (Nat.le_refl _) ?_;intro w1 hown hg)
 rw [madeInts,Nat.mul_one] at hown
 have hs1:=hg.size
 go_loopw [4] (fun i wr=>∃ j:Nat,j<=l.length/\i = .int .i64 j /\
   wr.ownsRow w.heap.size 2 1 (.slice (some ⟨w.heap.size,0,none⟩) l.length l.length) l.length ((l.take j).map (Value.int .i64) ++ List.replicate (l.length - j) (.int .i64 0))/\Only [] w wr)
  (fun i _=>l.length - (intOf i).toNat)
 case atStart=>exact ⟨0,Nat.zero_le _,rfl,by simpa using hown,zO.grown hg (by simp)⟩
 case round=>
  obtain ⟨j,hj,rfl,hO,hK⟩:=hrel
  by_cases hlt:j < l.length
  ·obtain ⟨b,off,ha,-,hc⟩:=(h.keep hK).at_ j hlt
   obtain ⟨hO2,hg2⟩:=hO.stored j (.int .i64 l[j])
   rw [Zqw l j hlt] at hO2
   have hc2:wr.cell? ⟨w.heap.size,j,none⟩ = some (.int .i64 0):=by
    rw [hO.cellAt j (by omega),List.getElem?_append_right (by simp;omega),List.getElem?_replicate,if_pos (by simp;omega)]
   have hf2:=hO.frozenAt j
   have hK2:=hK.setCell (p:=⟨w.heap.size,j,none⟩) (by simp) (.int .i64 l[j])
   have HO:=zH hO2
   clear hO hO2 hg hg2 hown
   go_wp2
   go_roundw
   case rel=>exact ⟨j + 1,by omega,by go_num,HO.out,hK2⟩
   case measure=>simp [intOf];omega
  ·have hjl:j = l.length:=by omega
   rw [hjl] at hO
   simp only [List.take_length,Nat.sub_self,List.replicate_zero,List.append_nil] at hO
   obtain ⟨a',cap',hv,-,hI,hF⟩:=Zaq hO h.wf
   have HI:=zH hI
   have Hv:=zH hv
   clear hjl hO hv hown hI
   go_wp2
   go_ret
   refine ⟨_,_,rfl,?_,hF,hK⟩
   have hr:=HI.out.rd
   rw [<- Hv.out] at hr;exact hr
theorem Zas (v:Value) (l:List Int) (fp:List Nat) (k:Int) (w:World) (h:Rd w v l fp) (h0:0<=k) (h1:k + (Mk.cnt l:Nat)<=4611686018427387904) :
  Calls Tryz.prog 27 #[v,.int .i64 k] w fun e w'=>e = .returned (.int .i64 (heldV k l))/\Drew w w':=by
 obtain ⟨a,cap,rfl,hI⟩:=h.ints
 exact Zlf a cap l fp k w hI h0 (by simp only [Mk.cnt,Zav] at h1;omega)
theorem Zal (v v':Value) (l l':List Int) (fp fp':List Nat) (w:World) (h:Rd w v l fp) (h':Rd w v' l' fp') :
  Calls Tryz.prog 17 #[v,v'] w fun e w'=>e = .returned (.bool (eqV l l'))/\Drew w w':=by
 obtain ⟨a,cap,rfl,hI⟩:=h.ints
 obtain ⟨a',cap',rfl,hI'⟩:=h'.ints
 exact Zos a a' cap cap' l l' fp fp' w hI hI'
theorem Zbs (v:Value) (l:List Int) (fp:List Nat) (k:Int) (w:World) (h:Rd w v l fp) (ho:Own w fp) (h0:0<=k) (h1:k + (Mk.cnt l:Nat)<=4611686018427387904) :
  Calls Tryz.prog 20 #[v,.int .i64 k] w fun e w'=>e = .returned (.int .i64 (k + (Mk.cnt l:Nat)))/\Rd w' v (Mk.mark k l) fp/\Own w' fp/\Only fp w w':=by
 obtain ⟨a,cap,rfl,hI⟩:=h.ints
 simp only [Mk.cnt,Zav] at h1 ⊢
 refine (Zll a cap l fp k w hI ho h0 (by omega)).mono ?_
 rintro e w' ⟨he,hI',ho',hk⟩
 refine ⟨he,?_,ho',hk⟩
 have:=hI'.rd
 rw [Zaf] at this
 exact this
theorem Zic (v:Value) (l:List Int) (fp:List Nat) (w:World) (h:Rd w v l fp) (hl:l.length<=2097152) :
  Calls Tryz.prog 12 #[v] w fun e w'=>∃ v fp',e = .returned v/\Rd w' v l fp'/\Fresh w.heap.size w' fp'/\Only [] w w':=by
 obtain ⟨a,cap,rfl,hI⟩:=h.ints
 exact Znj a cap l fp w hI hl
class Sz (α:Type) where
 sz:α->Nat
instance:Sz Int:=⟨fun _=>0⟩
def szL {α:Type} [Sz α]:List α->Nat
 | []=>0
 | x :: xs=>Sz.sz x + szL xs
instance {α:Type} [Sz α]:Sz (List α):=⟨fun l=>l.length + szL l⟩
def szV {α:Type} [Sz α] (left:Int) (x:α):Int:=if (Sz.sz x:Int)<=left then left - (Sz.sz x:Nat) else -1
theorem Zru (l:List Int):szL l = 0:=by
 induction l with
 | nil=>rfl
 | cons x l ih=>simp [szL,ih,Sz.sz]
theorem Zke {α:Type} [Sz α] (l l':List α):szL (l ++ l') = szL l + szL l':=by
 induction l with
 | nil=>simp [szL]
 | cons x l ih=>simp [szL,ih];omega
theorem Zmp {α:Type} [Sz α] (l:List α) (j:Nat) (h:j < l.length):szL (l.take (j + 1)) = szL (l.take j) + Sz.sz l[j]:=by
 rw [Zab l j h,Zke];simp [szL]
theorem Zow {α:Type} [Sz α] (l:List α) (j:Nat):szL (l.take j)<=szL l:=by
 have h:szL (l.take j ++ l.drop j) = szL (l.take j) + szL (l.drop j):=Zke _ _
 rw [List.take_append_drop] at h;omega
theorem Zfj {α:Type} [Sz α] (left:Int) (x:α):(szV left x = -1/\left < (Sz.sz x:Nat))\/(szV left x = left - (Sz.sz x:Nat)/\0<=szV left x/\(Sz.sz x:Int)<=left):=by
 unfold szV;split
 ·right;omega
 ·left;omega
theorem szV_no {α:Type} [Sz α] {left:Int} {x:α} (h:left < (Sz.sz x:Nat)):szV left x = -1:=by unfold szV;rw [if_neg (by omega)]
theorem szV_yes {α:Type} [Sz α] {left:Int} {x:α} (h:(Sz.sz x:Int)<=left):szV left x = left - (Sz.sz x:Nat):=by unfold szV;rw [if_pos h]
set_option maxHeartbeats 400000 in
theorem Zpb (v:Value) (l:List Int) (fp:List Nat) (k:Int) (w:World) (h:Rd w v l fp) (h0:0<=k) (h1:k<=2147483648) :
  Calls Tryz.prog 30 #[v,.int .i64 k] w fun e w'=>e = .returned (.int .i64 (szV k l))/\Drew w w':=by
 obtain ⟨a,cap,rfl,hI⟩:=h.ints
 have hb:=hI.bound
 have hs:Sz.sz l = l.length:=by simp [Sz.sz,Zru]
 have Hs:=zH hs;clear hs
 by_cases hlt:k - l.length < 0
 ·go_enter Tryz.func30,Tryz.ntmps30
  go_wp2
  go_ret
  exact ⟨ret_int (szV_no (by have:=Hs.out;omega)).symm,Drew.refl _⟩
 ·go_enter Tryz.func30,Tryz.ntmps30
  go_wp2
  go_ret
  exact ⟨ret_int (by rw [szV_yes (by have:=Hs.out;omega),Hs.out]),Drew.refl _⟩
section
variable {α:Type} [Rp α] {w:World} {a:Option Addr} {cap:Nat} {xs:List (List α)} {ob:List Nat} {fps:List (List Nat)}
theorem SeqA.atRow (h:SeqA w a cap xs ob fps) (k:Nat) (hk:k < xs.length) :
  ∃ b off v,a = some ⟨b,off,none⟩/\ob = [b]/\w.cell? ⟨b,off + k,none⟩ = some v/\Rd w v xs[k] (fps[k]'(by rw [h.nf];exact hk)):=by
 obtain ⟨b,off,cs,ha,hob,hc,hr⟩:=h.at_ k hk
 have hl:=Rp.len hr
 match cs,hl with
 | [v],_=>exact ⟨b,off,v,ha,hob,by have:=hc 0 v rfl;simpa [Rp.size] using this,hr⟩
end
set_option maxHeartbeats 400000 in
theorem Zjw (a:Option Addr) (cap:Nat) (l:List (List Int)) (ob:List Nat) (fps:List (List Nat)) (k:Int) (w:World) (h:SeqA w a cap l ob fps) (h0:0<=k) (h1:k + (cntL l:Nat)<=4611686018427387904) :
  Calls Tryz.prog 38 #[.slice a l.length cap,.int .i64 k] w fun e w'=>e = .returned (.int .i64 (heldV k l))/\Drew w w':=by
 have hb:=h.bound
 go_enter Tryz.func38,Tryz.ntmps38
 go_wp2
 go_loopw [1,5] (fun q i wr=>∃ j:Nat,j<=l.length/\q = .int .i64 (k + (cntL (l.take j):Nat))/\i = .int .i64 j/\l.take j = markL k (l.take j)/\Drew w wr)
  (fun _ i _=>l.length - (intOf i).toNat)
 case atStart=>exact ⟨0,Nat.zero_le _,by simp [cntL],rfl,rfl,Drew.refl _⟩
 case round=>
  obtain ⟨j,hj,rfl,rfl,hr,n,rfl⟩:=hrel
  have Hr:=zH hr;clear hr
  by_cases hlt:j < l.length
  ·obtain ⟨b,off,v,rfl,-,hc,hv⟩:=h.atRow j hlt
   have hcnt:=Zcr l j hlt
   have hle:=Zdt l (j + 1)
   have Hcnt:=zH hcnt
   rcases Zcm (k + (cntL (l.take j):Nat)) l[j] with ⟨he,hm⟩ | ⟨he,hm⟩
   all_goals have Hm:=zH hm
   all_goals clear hm hcnt
   all_goals go_wp2_with (go_at_call 27;refine (Zas v l[j] _ (k + (cntL (l.take j):Nat)) _ (zK hv (Only.ofDrewN _ _ _)) (by omega) (by have:=Hcnt.out;omega)).mono ?_;rintro e w1 ⟨rfl,n1,rfl⟩)
   ·go_ret
    exact ⟨ret_int (Zbq (Zex hlt Hm.out)).symm,⟨_,rfl⟩⟩
   ·go_roundw
    case rel=>exact ⟨j + 1,by omega,by rw [Hcnt.out];go_num,by go_num,Zhh hlt Hr.out Hm.out,⟨_,rfl⟩⟩
    case measure=>simp [intOf];omega
  ·have Hj:Hid (j = l.length):=(by omega:j = l.length)
   go_wp2
   go_ret
   have hjl:=Hj.out
   subst hjl
   refine ⟨ret_int ?_,(Drew.refl _).drewN n⟩
   have hr:=Hr.out
   rw [List.take_length] at hr ⊢
   exact (Zdg hr).symm
theorem Zbf (v:Value) (l:List (List Int)) (fp:List Nat) (k:Int) (w:World) (h:Rd w v l fp) (h0:0<=k) (h1:k + (Mk.cnt l:Nat)<=4611686018427387904) :
  Calls Tryz.prog 38 #[v,.int .i64 k] w fun e w'=>e = .returned (.int .i64 (heldV k l))/\Drew w w':=by
 obtain ⟨a,cap,ob,fps,rfl,-,hs⟩:=h.open_
 exact Zjw a cap l ob fps k w hs h0 h1
theorem Zan {P:Program} {f:FuncId} {args:Array Value} {w:World} {a n:Nat} {v:Value}
  (h:Calls P f args (w.drewN (a + n)) fun e w'=>e = .returned v/\Drew (w.drewN (a + n)) w') :
  Calls P f args (w.drewN (a + n)) fun e w''=>e = .returned v/\∃ m,w'' = w.drewN (a + m):=
 h.mono fun _ _ ⟨he,m,hm⟩=>⟨he,n + m,by rw [hm,World.drewN_drewN,Nat.add_assoc]⟩
set_option maxHeartbeats 400000 in
theorem Zng (a a':Option Addr) (cap cap':Nat) (l l':List (List Int)) (ob ob':List Nat) (fps fps':List (List Nat)) (w:World) (h:SeqA w a cap l ob fps) (h':SeqA w a' cap' l' ob' fps') :
  Calls Tryz.prog 16 #[.slice a l.length cap,.slice a' l'.length cap'] w fun e w'=>e = .returned (.bool (eqV l l'))/\Drew w w':=by
 have hb:=h.bound
 have hb':=h'.bound
 by_cases hl:l.length = l'.length
 ·have hne:((l.length:Int) != (l'.length:Int)) = false:=by simp [hl]
  have Hl:=zH hl;clear hl
  go_enter Tryz.func16,Tryz.ntmps16
  go_wp2
  go_loopw [5] (fun i wr=>∃ j:Nat,j<=l.length/\i = .int .i64 j/\l.take j = l'.take j/\Drew w wr)
   (fun i _=>l.length - (intOf i).toNat)
  case atStart=>exact ⟨0,Nat.zero_le _,rfl,rfl,Drew.refl _⟩
  case round=>
   obtain ⟨j,hj,rfl,hr,n,rfl⟩:=hrel
   have Hr:=zH hr;clear hr
   by_cases hlt:j < l.length
   ·have hlt':j < l'.length:=by have:=Hl.out;omega
    obtain ⟨b,off,v,rfl,-,hc,hv⟩:=h.atRow j hlt
    obtain ⟨b',off',v',rfl,-,hc',hv'⟩:=h'.atRow j hlt'
    rcases hq:eqV l[j] l'[j]
    all_goals go_wp2
    all_goals go_quiet ((go_at_call 17;exact Zan (Zal v v' l[j] l'[j] _ _ _ (zK hv (Only.ofDrewN _ _ _)) (zK hv' (Only.ofDrewN _ _ _)))))
    all_goals go_wp2
    ·go_ret
     exact ⟨Zaa (eqL_no hlt hlt' hq).symm,((Drew.refl _).drewN _).drewN _⟩
    ·go_roundw
     case rel=>exact ⟨j + 1,by omega,by go_num,Zgq hlt hlt' hq Hr.out,⟨_,rfl⟩⟩
     case measure=>simp [intOf];omega
   ·go_wp2
    go_ret
    exact ⟨Zaa (eqL_yes Hl.out hlt Hr.out).symm,(Drew.refl _).drewN n⟩
 ·have hne:((l.length:Int) != (l'.length:Int)) = true:=by simp;omega
  go_enter Tryz.func16,Tryz.ntmps16
  go_wp2
  go_ret
  exact ⟨Zaa (eqL_len hne).symm,Drew.refl _⟩
theorem Zai (v v':Value) (l l':List (List Int)) (fp fp':List Nat) (w:World) (h:Rd w v l fp) (h':Rd w v' l' fp') :
  Calls Tryz.prog 16 #[v,v'] w fun e w'=>e = .returned (.bool (eqV l l'))/\Drew w w':=by
 obtain ⟨a,cap,ob,fps,rfl,-,hs⟩:=h.open_
 obtain ⟨a',cap',ob',fps',rfl,-,hs'⟩:=h'.open_
 exact Zng a a' cap cap' l l' ob ob' fps fps' w hs hs'
set_option maxHeartbeats 400000 in
theorem Zms (a:Option Addr) (cap:Nat) (l:List (List Int)) (ob:List Nat) (fps:List (List Nat)) (k:Int) (w:World) (h:SeqA w a cap l ob fps) (h0:0<=k) (h1:k<=2147483648) :
  Calls Tryz.prog 8 #[.slice a l.length cap,.int .i64 k] w fun e w'=>e = .returned (.int .i64 (szV k l))/\Drew w w':=by
 have hb:=h.bound
 have hs:Sz.sz l = l.length + szL l:=rfl
 have Hs:=zH hs;clear hs
 by_cases hneg:k - l.length < 0
 ·go_enter Tryz.func8,Tryz.ntmps8
  go_wp2
  go_ret
  exact ⟨ret_int (szV_no (by have:=Hs.out;omega)).symm,Drew.refl _⟩
 ·go_enter Tryz.func8,Tryz.ntmps8
  go_wp2
  go_loopw [1,5] (fun q i wr=>∃ j:Nat,j<=l.length/\q = .int .i64 (k - l.length - (szL (l.take j):Nat))/\i = .int .i64 j/\(l.length + szL (l.take j):Int)<=k/\Drew w wr)
   (fun _ i _=>l.length - (intOf i).toNat)
  case atStart=>exact ⟨0,Nat.zero_le _,by simp [szL],rfl,by simp [szL];omega,Drew.refl _⟩
  case round=>
   obtain ⟨j,hj,rfl,rfl,hr,n,rfl⟩:=hrel
   by_cases hlt:j < l.length
   ·obtain ⟨b,off,v,rfl,-,hc,hv⟩:=h.atRow j hlt
    have hcnt:=Zmp l j hlt
    have hle:=Zow l (j + 1)
    have Hcnt:=zH hcnt
    clear hcnt
    rcases Zfj (k - l.length - (szL (l.take j):Nat)) l[j] with ⟨he,hm⟩ | ⟨he,hp,hm⟩
    all_goals go_wp2_with (go_at_call 30;refine (Zpb v l[j] _ (k - l.length - (szL (l.take j):Nat)) _ (zK hv (Only.ofDrewN _ _ _)) (by omega) (by omega)).mono ?_;rintro e w1 ⟨rfl,n1,rfl⟩)
    ·go_ret
     exact ⟨ret_int (szV_no (by have:=Hs.out;have:=Hcnt.out;omega)).symm,⟨_,rfl⟩⟩
    ·go_roundw
     case rel=>exact ⟨j + 1,by omega,by rw [Hcnt.out];go_num,by go_num,by rw [Hcnt.out];omega,⟨_,rfl⟩⟩
     case measure=>simp [intOf];omega
   ·have Hj:Hid (j = l.length):=(by omega:j = l.length)
    go_wp2
    go_ret
    have hjl:=Hj.out
    subst hjl
    refine ⟨ret_int ?_,(Drew.refl _).drewN n⟩
    rw [List.take_length] at hr ⊢
    rw [szV_yes (by have:=Hs.out;omega),Hs.out]
    omega
theorem Zca (v:Value) (l:List (List Int)) (fp:List Nat) (k:Int) (w:World) (h:Rd w v l fp) (h0:0<=k) (h1:k<=2147483648) :
  Calls Tryz.prog 8 #[v,.int .i64 k] w fun e w'=>e = .returned (.int .i64 (szV k l))/\Drew w w':=by
 obtain ⟨a,cap,ob,fps,rfl,-,hs⟩:=h.open_
 exact Zms a cap l ob fps k w hs h0 h1
section
variable {α:Type} [Rp α] {w w':World} {a:Option Addr} {cap:Nat} {xs:List α} {ob:List Nat} {fps:List (List Nat)}
theorem Zmx {fps:List (List Nat)} (h:fps.flatten.Nodup) {i j:Nat} (hi:i < fps.length) (hj:j < fps.length) (hne:i ≠ j):∀ b∈fps[i],b ∉ fps[j]:=by
 rw [List.nodup_iff_pairwise_ne,List.pairwise_flatten] at h
 have hp:=List.pairwise_iff_getElem.1 h.2
 intro b hb hb'
 rcases Nat.lt_or_gt_of_ne hne with hlt | hlt
 ·exact hp i j hi hj hlt b hb b hb' rfl
 ·exact hp j i hj hi hlt b hb' b hb rfl
theorem Zak {fps:List (List Nat)} {j:Nat} (hj:j < fps.length) {b:Nat} (hb:b∈fps[j]):b∈fps.flatten:=List.mem_flatten.2 ⟨_,List.getElem_mem _,hb⟩
theorem SeqA.touch (h:SeqA w a cap xs ob fps) (hnd:(ob ++ fps.flatten).Nodup) {j b off:Nat} {cs:List Value} {x':α} (hj:j < xs.length) (hj':j < fps.length) (ha:a = some ⟨b,off,none⟩)
  (hl:cs.length = Rp.size α) (hc:∀ i u,cs[i]? = some u->w.cell? ⟨b,off + j * Rp.size α + i,none⟩ = some u) (ho:Only fps[j] w w') (hr:Rp.rep w' cs x' fps[j]) :
  SeqA w' a cap (xs.set j x') ob fps:=by
 obtain ⟨h1,h2,h3⟩:=List.nodup_append.1 hnd
 refine ⟨by simpa using h.len,h.cap,by simpa using h.nf,fun k hk=>?_,fun b hb=>Nat.lt_of_lt_of_le (h.lt b hb) ho.size,h.one⟩
 have hk':k < xs.length:=by simpa using hk
 obtain ⟨b',off',cs',ha',hob,hc',hr'⟩:=h.at_ k hk'
 rw [ha] at ha'
 injection ha' with ha';injection ha' with hb ho';subst hb;subst ho'
 have hout:b ∉ fps[j]:=fun hm=>h3 b (by simp [hob]) b (Zak hj' hm) rfl
 have hkeep:∀ i u,cs'[i]? = some u->w'.cell? ⟨b,off + k * Rp.size α + i,none⟩ = some u:=fun i u hu=>ho.cell (p:=⟨b,off + k * Rp.size α + i,none⟩) hout (hc' i u hu)
 by_cases hkj:k = j
 ·subst hkj
  have hcs:cs' = cs:=by
   apply List.ext_getElem (by rw [hl,Rp.len hr'])
   intro i h1 h2
   have e1:=hc' i _ (List.getElem?_eq_getElem h1)
   have e2:=hc i _ (List.getElem?_eq_getElem h2)
   rw [e1] at e2;injection e2
  subst hcs
  exact ⟨b,off,cs',ha,hob,hkeep,by simpa using hr⟩
 ·refine ⟨b,off,cs',ha,hob,hkeep,?_⟩
  rw [List.getElem_set_ne (fun e=>hkj e.symm)]
  exact Rp.only hr' ho (Zmx h2 _ hj' hkj)
theorem Zpy {s:Nat} (css:List (List Value)) (h:∀ c∈css,c.length = s) (k j:Nat) (hj:j < s) (hk:k < css.length):css.flatten[k * s + j]? = (css[k])[j]?:=by
 induction css generalizing k with
 | nil=>simp at hk
 | cons c css ih=>
  have hc:=h c (by simp)
  cases k with
  | zero=>simp [List.getElem?_append,hc,hj]
  | succ k=>
   rw [List.flatten_cons,List.getElem?_append_right (by rw [hc,Nat.succ_mul];omega)]
   have:(k + 1) * s + j - c.length = k * s + j:=by rw [hc,Nat.succ_mul];omega
   rw [this,ih (fun c' hc'=>h c' (by simp [hc'])) k (by simpa using hk)]
   simp
theorem own_seq {base:Nat} {e:TypeId} {v:Value} {n:Nat} {css:List (List Value)} (h:w.ownsRow base e (Rp.size α) v n css.flatten) (hs:0 < Rp.size α)
  (hl:css.length = xs.length) (hf:fps.length = xs.length) (hr:∀ k (h1:k < css.length) (h2:k < xs.length) (h3:k < fps.length),Rp.rep w css[k] xs[k] fps[k]) :
  ∃ a cap,v = .slice a xs.length cap/\n = xs.length/\SeqA w a cap xs v.ownBlock.toList fps:=by
 have hcl:∀ c∈css,c.length = Rp.size α:=by
  intro c hc
  obtain ⟨k,hk,rfl⟩:=List.getElem_of_mem hc
  exact Rp.len (hr k hk (by omega) (by omega))
 obtain ⟨h1,h2⟩:=h
 have hlen:css.flatten.length = css.length * Rp.size α:=by
  clear h1 h2 hl hr
  induction css with
  | nil=>simp
  | cons c css ih=>rw [List.flatten_cons,List.length_append,hcl c (by simp),ih (fun c' hc'=>hcl c' (by simp [hc'])),List.length_cons,Nat.succ_mul];omega
 have hn:n = xs.length:=by
  rw [hlen,hl] at h1
  exact (Nat.eq_of_mul_eq_mul_right hs h1).symm
 subst hn
 rcases h2 with ⟨rfl,h0⟩ | ⟨g,cp,cur,rfl,hb,hg,hnc,hcm,hcs,htake⟩
 ·have:xs = []:=List.eq_nil_of_length_eq_zero h0
  subst this
  have:fps = []:=List.eq_nil_of_length_eq_zero hf
  subst this
  exact ⟨none,0,rfl,rfl,SeqA.nil w none (by simp [maxLen])⟩
 ·refine ⟨some ⟨g,0,none⟩,cp,rfl,rfl,⟨hnc,hcm,hf,fun k hk=>⟨g,0,css[k],rfl,rfl,fun j u hu=>?_,hr k (by omega) hk (by omega)⟩,?_,by simp [Value.ownBlock]⟩⟩
  ·have hj:j < Rp.size α:=by
    rw [<- hcl _ (List.getElem_mem (by omega:k < css.length))]
    exact (List.getElem?_eq_some_iff.1 hu).1
   have hh:=Zpy css hcl k j hj (by omega)
   rw [hu,<- htake,List.getElem?_take] at hh
   split at hh
   ·rw [cell_of_row w g _ cur e (0,0) hg]
    simpa using hh
   ·cases hh
  ·intro b hb'
   simp [Value.ownBlock] at hb';subst hb'
   exact (Array.getElem?_eq_some_iff.1 hg).1
theorem Zbl {base:Nat} {e:TypeId} {size:Nat} {v:Value} {n:Nat} {cs:List Value} (h:w.ownsRow base e size v n cs):Fresh base w v.ownBlock.toList:=by
 rcases h.2 with ⟨rfl,h0⟩ | ⟨g,cp,cur,rfl,hb,hg,_⟩
 ·exact Fresh.nil _ _
 ·exact ⟨by simp [Value.ownBlock],by simpa [Value.ownBlock] using hb,by intro b hb';simp [Value.ownBlock] at hb';subst hb';exact ⟨_,_,hg⟩⟩
end
set_option maxHeartbeats 400000 in
theorem Zjs (a:Option Addr) (cap:Nat) (l:List (List Int)) (ob:List Nat) (fps:List (List Nat)) (k:Int) (w:World) (h:SeqA w a cap l ob fps) (hnd:(ob ++ fps.flatten).Nodup) (ho:Own w (ob ++ fps.flatten)) (h0:0<=k) (h1:k + (cntL l:Nat)<=4611686018427387904) :
  Calls Tryz.prog 19 #[.slice a l.length cap,.int .i64 k] w fun e w'=>
   e = .returned (.int .i64 (k + (cntL l:Nat)))/\SeqA w' a cap (markL k l) ob fps/\Own w' (ob ++ fps.flatten)/\Only (ob ++ fps.flatten) w w':=by
 have hb:=h.bound
 have hnf:=h.nf
 go_enter Tryz.func19,Tryz.ntmps19
 have Hnf:=zH hnf
 clear hnf
 go_wp2
 go_loopw [1,5] (fun q i wr=>∃ j:Nat,j<=l.length/\q = .int .i64 (k + (cntL (l.take j):Nat))/\i = .int .i64 j/\SeqA wr a cap (markL k (l.take j) ++ l.drop j) ob fps/\Own wr (ob ++ fps.flatten)/\Only (ob ++ fps.flatten) w wr)
  (fun _ i _=>l.length - (intOf i).toNat)
 case atStart=>exact ⟨0,Nat.zero_le _,by simp [cntL],rfl,by simpa [markL] using h,ho,Only.refl _ _⟩
 case round=>
  obtain ⟨j,hj,rfl,rfl,hI,hO,hK⟩:=hrel
  by_cases hlt:j < l.length
  ·have hjm:(markL k (l.take j) ++ l.drop j).length = l.length:=by simp [Zaf];omega
   have hjf:j < fps.length:=by have:=Hnf.out;omega
   obtain ⟨b,off,v,rfl,hob,hc,hv0⟩:=hI.atRow j (by omega)
   have hx:(markL k (l.take j) ++ l.drop j)[j]'(by omega) = l[j]:=by
    rw [List.getElem_append_right (by simp [Zaf];omega)]
    simp [Zaf,Nat.min_eq_left hj]
   have hv:Rd wr v l[j] fps[j]:=by rw [hx] at hv0;exact hv0
   have hcnt:=Zcr l j hlt
   have hle:=Zdt l (j + 1)
   have Hcnt:=zH hcnt
   have Hs:=zH (Zhi k l j hlt)
   have Hob:=zH hob
   clear hcnt hv0 hx hjm hob
   go_wp2_with (go_at_call 20;refine (Zbs v l[j] _ (k + (cntL (l.take j):Nat)) _ hv (hO.sub (fun b hb=>List.mem_append_right _ (Zak hjf hb))) (by omega) (by have:=Hcnt.out;omega)).mono ?_;rintro e w1 ⟨rfl,hv1,ho1,hk1⟩)
   have hI1:=hI.touch (w':=w1) hnd (j:=j) (b:=b) (off:=off) (cs:=[v]) (x':=Mk.mark (k + (cntL (l.take j):Nat)) l[j]) (by simp [Zaf];omega) hjf rfl rfl
    (by intro i u hu;cases i with
      | zero=>simp at hu;subst hu;simpa [Rp.size] using hc
      | succ i=>simp at hu) hk1 hv1
   rw [Hs.out] at hI1
   have hK1:Only (ob ++ fps.flatten) wr w1:=hk1.mono (fun b hb _=>List.mem_append_right _ (Zak hjf hb))
   have hO1:Own w1 (ob ++ fps.flatten):=by
    intro b hb
    by_cases hm:b∈fps[j]
    ·exact ho1 b hm
    ·rw [hk1.block b (hO.lt b hb) hm];exact hO b hb
   have HI:=zH hI1
   clear hI hI1
   go_roundw
   case rel=>exact ⟨j + 1,by omega,by rw [Hcnt.out];go_num,by go_num,HI.out,hO1,hK.trans hK1⟩
   case measure=>simp [intOf];omega
  ·have hjl:j = l.length:=by omega
   have hI':=hI
   rw [hjl] at hI'
   simp only [List.take_length,List.drop_length,List.append_nil] at hI'
   have Hj:=zH hjl
   clear hI hjl
   go_wp2
   go_ret
   exact ⟨ret_int (by rw [Hj.out,List.take_length]),hI',hO,hK⟩
theorem Zcp (v:Value) (l:List (List Int)) (fp:List Nat) (k:Int) (w:World) (h:Rd w v l fp) (hnd:fp.Nodup) (ho:Own w fp) (h0:0<=k) (h1:k + (Mk.cnt l:Nat)<=4611686018427387904) :
  Calls Tryz.prog 19 #[v,.int .i64 k] w fun e w'=>e = .returned (.int .i64 (k + (Mk.cnt l:Nat)))/\Rd w' v (Mk.mark k l) fp/\Own w' fp/\Only fp w w':=by
 obtain ⟨a,cap,ob,fps,rfl,rfl,hs⟩:=h.open_
 refine (Zjs a cap l ob fps k w hs hnd ho h0 h1).mono ?_
 rintro e w' ⟨he,hI',ho',hk⟩
 refine ⟨he,?_,ho',hk⟩
 have:=hI'.rd
 rw [Zaf] at this
 exact this
theorem Tryz.info22:(Tryz.prog.info? 25).map (fun i=>(i.zero,i.size,i.bytes)) = some (some (.slice none 0 0),1,24):=by kernel_rfl
theorem madeNils (n:Nat):(madeCells (Value.cells (.slice none 0 0)) n).toList = List.replicate n (.slice none 0 0):=by
 apply List.ext_getElem (by simp [madeCells])
 intro i h1 h2
 simp [madeCells,Value.cells,Nat.mod_one]
theorem Zqy (vs:List Value) (n j:Nat) (z v:Value) (h:j < n) (hv:vs.length = j) :
  (vs ++ List.replicate (n - j) z).set j v = (vs ++ [v]) ++ List.replicate (n - (j + 1)) z:=by
 rw [List.set_append_right _ _ (by omega)]
 have h1:j - vs.length = 0:=by omega
 have h2:n - j = (n - (j + 1)) + 1:=by omega
 rw [h1,h2,List.replicate_succ]
 simp only [List.set,List.append_assoc,List.cons_append,List.nil_append]
theorem Zkh (vs:List Value):(vs.map fun v=>[v]).flatten = vs:=by
 induction vs with
 | nil=>rfl
 | cons v vs ih=>simp [ih]
theorem Zay {w w':World} {base:Nat} {e:TypeId} {size:Nat} {v:Value} {n:Nat} {cs:List Value} {fp:List Nat} (h:w.ownsRow base e size v n cs) (ho:Only fp w w') (hn:∀ g,v.ownBlock = some g->g ∉ fp):w'.ownsRow base e size v n cs:=by
 refine ⟨h.1,?_⟩
 rcases h.2 with h0 | ⟨g,cp,cur,rfl,hb,hg,r⟩
 ·exact .inl h0
 ·exact .inr ⟨g,cp,cur,rfl,hb,by rw [ho.block g (Array.getElem?_eq_some_iff.1 hg).1 (hn g rfl)];exact hg,r⟩
theorem Zbb {w w':World} {base:Nat} {e:TypeId} {size:Nat} {v:Value} {n:Nat} {cs:List Value} (h:w.ownsRow base e size v n cs) (ho:Only [] w w'):w'.ownsRow base e size v n cs:=
 Zay h ho (by simp)
structure Reads {α:Type} [Rp α] (w:World) (B:Nat) (vs:List Value) (xs:List α) (fps:List (List Nat)):Prop where
 vl:vs.length = xs.length
 fl:fps.length = xs.length
 at_:∀ k (h1:k < vs.length) (h2:k < xs.length) (h3:k < fps.length),Rp.rep w [vs[k]] xs[k] fps[k]
 fresh:Fresh B w fps.flatten
section
variable {α:Type} [Rp α] {w w':World} {B:Nat} {vs:List Value} {xs:List α} {fps:List (List Nat)}
theorem Reads.nil (w:World) (B:Nat):Reads w B [] ([]:List α) []:=⟨rfl,rfl,by simp,Fresh.nil _ _⟩
theorem Reads.only {fp:List Nat} (h:Reads w B vs xs fps) (ho:Only fp w w') (hd:∀ b∈fp,b < B\/w.heap.size<=b):Reads w' B vs xs fps:=
 ⟨h.vl,h.fl,fun k h1 h2 h3=>Rp.only (h.at_ k h1 h2 h3) ho (fun b hb hm=>by
   have h4:=h.fresh.ge b (Zak h3 hb);have h5:=h.fresh.lt b (Zak h3 hb);have:=hd b hm;omega),
  h.fresh.only ho (fun b hb hm=>by have h4:=h.fresh.ge b hb;have h5:=h.fresh.lt b hb;have:=hd b hm;omega)⟩
theorem Reads.snoc {v:Value} {x:α} {fp:List Nat} (h:Reads w B vs xs fps) (hv:Rd w v x fp) (hf:Fresh w'.heap.size w fp) (hB:B<=w'.heap.size) (hlt:∀ b∈fps.flatten,b < w'.heap.size) :
  Reads w B (vs ++ [v]) (xs ++ [x]) (fps ++ [fp]):=by
 refine ⟨by simp [h.vl],by simp [h.fl],fun k h1 h2 h3=>?_,?_⟩
 ·by_cases hk:k < xs.length
  ·rw [List.getElem_append_left (by rw [h.vl];exact hk),List.getElem_append_left hk,List.getElem_append_left (by rw [h.fl];exact hk)]
   exact h.at_ k _ _ _
  ·have:k = xs.length:=by simp at h2;omega
   subst this
   rw [List.getElem_append_right (by rw [h.vl];omega),List.getElem_append_right (by omega),List.getElem_append_right (by rw [h.fl];omega)]
   simpa [h.vl,h.fl] using hv
 ·rw [List.flatten_append]
  simp only [List.flatten_cons,List.flatten_nil,List.append_nil]
  exact h.fresh.append hf hB hlt
end
set_option maxHeartbeats 400000 in
theorem Zmz (a:Option Addr) (cap:Nat) (l:List (List Int)) (ob:List Nat) (fps:List (List Nat)) (w:World) (h:SeqA w a cap l ob fps) (hl:l.length<=2097152) (hl2:∀ x∈l,x.length<=2097152) :
  Calls Tryz.prog 11 #[.slice a l.length cap] w fun e w'=>∃ v fp',e = .returned v/\Rd w' v l fp'/\Fresh w.heap.size w' fp'/\Only [] w w':=by
 obtain ⟨i0,hi,hz0,hz1,hz2⟩:=info_parts Tryz.info22
 go_enter Tryz.func11,Tryz.ntmps11
 go_wp2_with (at_make;refine wpList_make_full _ rfl _ _ 22 rfl w.heap.size 25 i0 _ 1 Tryz.underlying22 hi hz0 hz1 _ _ _ _ l.length rfl rfl rfl rfl (by rw [hz2];omega) (by unfold maxLen;omega) (Nat.le_refl _) ?_;intro w1 hown hg)
 rw [madeNils,Nat.mul_one] at hown
 have hs1:=hg.size
 have hgl:=(hown.lt w.heap.size rfl).2
 go_loopw [4] (fun i wr=>∃ (j:Nat) (vs:List Value) (fs:List (List Nat)),j<=l.length/\i = .int .i64 j/\Reads wr (w.heap.size + 1) vs (l.take j) fs /\
   wr.ownsRow w.heap.size 25 1 (.slice (some ⟨w.heap.size,0,none⟩) l.length l.length) l.length (vs ++ List.replicate (l.length - j) (.slice none 0 0))/\Only [] w wr/\w.heap.size + 1<=wr.heap.size)
  (fun i _=>l.length - (intOf i).toNat)
 case atStart=>exact ⟨0,[],[],Nat.zero_le _,rfl,Reads.nil _ _,by simpa using hown,zO.grown hg (by simp),hgl⟩
 case round=>
  obtain ⟨j,vs,fs,hj,rfl,hR,hO,hK,hsz⟩:=hrel
  by_cases hlt:j < l.length
  ·obtain ⟨b,off,v,rfl,-,hc0,hv0⟩:=h.atRow j hlt
   have hc:=hK.cell (by simp) hc0
   have hv:=zK hv0 hK
   have hlen:=hl2 l[j] (List.getElem_mem _)
   have hvl:=hR.vl
   have Hvl:=zH hvl
   clear hg hgl hown hc0 hv0 hvl
   go_wp2_with (go_at_call 12;refine (Zic v l[j] _ _ hv hlen).mono ?_;rintro e w2 ⟨v2,fp2,rfl,hv2,hF2,hK2⟩;have hq:=hv2.open_;obtain ⟨a2,c2,_,_,rfl,-⟩:=hq;have hO2:=Zbb hO hK2;have hc2:w2.cell? ⟨w.heap.size,j,none⟩ = some (.slice none 0 0):=(by rw [hO2.cellAt j (by omega),List.getElem?_append_right (by have:=Hvl.out;simp at this;omega),List.getElem?_replicate,if_pos (by have:=Hvl.out;simp at this;omega)]);have hf2:=hO2.frozenAt j)
   obtain ⟨hO3,hg3⟩:=hO2.stored j (.slice a2 l[j].length c2)
   rw [Zqy vs l.length j _ _ hlt (by have:=Hvl.out;simp at this;omega)] at hO3
   have hK3:Only [] w (w2.setCell ⟨w.heap.size,j,none⟩ (.slice a2 l[j].length c2)):=(hK.trans hK2).setCell (by simp) _
   have hK4:Only [w.heap.size] w2 (w2.setCell ⟨w.heap.size,j,none⟩ (.slice a2 l[j].length c2)):=zO.setCell (by simp) _
   have hR2:Reads w2 (w.heap.size + 1) vs (l.take j) fs:=hR.only hK2 (by simp)
   have hR3:=hR2.snoc (w':=wr) hv2 hF2 hsz (fun b hb=>hR.fresh.lt b hb)
   rw [<- Zab l j hlt] at hR3
   have hR4:=hR3.only hK4 (by simp)
   have hs4:=hK2.size
   go_roundw
   case rel=>exact ⟨j + 1,_,_,by omega,by go_num,hR4,hO3,hK3,by simp [World.setCell];omega⟩
   case measure=>simp [intOf];omega
  ·have hjl:j = l.length:=by omega
   rw [hjl] at hO hR
   simp only [List.take_length,Nat.sub_self,List.replicate_zero,List.append_nil] at hO hR
   have hO':=hO
   rw [<- Zkh vs] at hO'
   have hF:=Zbl hO
   obtain ⟨a',cap',hv,-,hI⟩:=own_seq (α:=List Int) (xs:=l) (fps:=fs) hO' (Nat.one_pos) (by simp [hR.vl]) hR.fl (fun k h1 h2 h3=>by simpa using hR.at_ k (by simpa using h1) h2 h3)
   have HI:=zH hI
   have Hv:=zH hv
   have hF2:Fresh w.heap.size wr ([w.heap.size] ++ fs.flatten):=hF.append hR.fresh (by omega) (by simp [Value.ownBlock])
   clear hjl hO hO' hv hown hI
   go_wp2
   go_ret
   refine ⟨_,_,rfl,?_,hF2,hK⟩
   have hr:=HI.out.rd
   rw [<- Hv.out] at hr;exact hr
theorem Zof (v:Value) (l:List (List Int)) (fp:List Nat) (w:World) (h:Rd w v l fp) (hl:l.length<=2097152) (hl2:∀ x∈l,x.length<=2097152) :
  Calls Tryz.prog 11 #[v] w fun e w'=>∃ v fp',e = .returned v/\Rd w' v l fp'/\Fresh w.heap.size w' fp'/\Only [] w w':=by
 obtain ⟨a,cap,ob,fps,rfl,-,hs⟩:=h.open_
 exact Zmz a cap l ob fps w hs hl hl2
theorem nd_app {a b:List Nat} (h:(a ++ b).Nodup):a.Nodup/\b.Nodup/\(∀ x∈a,x ∉ b)/\(∀ x∈b,x ∉ a):=by
 obtain ⟨h1,h2,h3⟩:=List.nodup_append.1 h
 exact ⟨h1,h2,fun x hx hb=>h3 x hx x hb rfl,fun x hx ha=>h3 x ha x hx rfl⟩
theorem Only.cells_eq {fp:List Nat} {w w':World} (h:Only fp w w') (b:Nat) (hb:b < w.heap.size) (hn:b ∉ fp):∀ o,w'.cell? ⟨b,o,none⟩ = w.cell? ⟨b,o,none⟩:=
 fun _=>World.cell?_of_block (h.block b hb hn)
theorem Only.frozen_eq {fp:List Nat} {w w':World} (h:Only fp w w') (b:Nat) (hb:b < w.heap.size) (hn:b ∉ fp):∀ o,w'.frozen? ⟨b,o,none⟩ = w.frozen? ⟨b,o,none⟩:=
 fun _=>World.frozen?_of_block (h.block b hb hn)
class Sm (α:Type) where
 sm:α->Prop
instance:Sm Int:=⟨fun _=>True⟩
instance {α:Type} [Sm α]:Sm (List α):=⟨fun l=>l.length<=2097152/\∀ x∈l,Sm.sm x⟩
theorem szL_mem {α:Type} [Sz α] {l:List α} {x:α} (h:x∈l):Sz.sz x<=szL l:=by
 induction l with
 | nil=>cases h
 | cons y l ih=>
  simp only [szL]
  cases List.mem_cons.1 h with
  | inl e=>subst e;omega
  | inr e=>have:=ih e;omega
class SzSm (α:Type) [Sz α] [Sm α]:Prop where
 of_:∀ x:α,Sz.sz x<=2097152->Sm.sm x
instance:SzSm Int:=⟨fun _ _=>trivial⟩
instance {α:Type} [Sz α] [Sm α] [SzSm α]:SzSm (List α):=⟨fun l h=>by
 have h':l.length + szL l<=2097152:=h
 exact ⟨by omega,fun x hx=>SzSm.of_ x (by have:=szL_mem hx;omega)⟩⟩
theorem Zdw (v:Value) (l:List Int) (fp:List Nat) (w:World) (h:Rd w v l fp) (hl:Sm.sm l) :
  Calls Tryz.prog 12 #[v] w fun e w'=>∃ v fp',e = .returned v/\Rd w' v l fp'/\Fresh w.heap.size w' fp'/\Only [] w w':=Zic v l fp w h hl.1
theorem Zcc (v:Value) (l:List (List Int)) (fp:List Nat) (w:World) (h:Rd w v l fp) (hl:Sm.sm l) :
  Calls Tryz.prog 11 #[v] w fun e w'=>∃ v fp',e = .returned v/\Rd w' v l fp'/\Fresh w.heap.size w' fp'/\Only [] w w':=Zof v l fp w h hl.1 (fun x hx=>(hl.2 x hx).1)
section
variable {P:Program} (w:World)
theorem Zoe (base:Nat) (t ty e:TypeId) (i:TypeInfo) (size:Nat) (ht:P.underlying t = some (.slice e)) (hi:P.info? e = some i)
  (v:Value) (n:Nat) (xs:List Value) (hown:w.ownsRow base e size v n xs) (c:Nat):(Builtin.append_ #[t,t] ty #[v,.slice none 0 c]).run P w = .ok v w:=by
 rcases hown.2 with ⟨rfl,rfl⟩ | ⟨g,cap,cur,rfl,_,_,hnc,_⟩
 ·simp [Builtin.append_,run_underlying ht,sizeOf,typeInfo,hi,Builtin.lenOf,Builtin.firstCells]
 ·simp [Builtin.append_,run_underlying ht,sizeOf,typeInfo,hi,Builtin.lenOf,Builtin.firstCells,hnc,storeCells]
theorem run_app (base:Nat) (t ty e:TypeId) (i:TypeInfo) (z:Value) (size bytes:Nat) (ht:P.underlying t = some (.slice e)) (hi:P.info? e = some i) (hz:i.zero = some z)
  (hsize:i.size = size) (hby:i.bytes = bytes) (hzs:z.cells.size = size) (hsz:0 < size)
  (v:Value) (n:Nat) (xs:List Value) (hown:w.ownsRow base e size v n xs)
  (A:Option Addr) (m c:Nat) (news:List Value) (hl:news.length = m * size) (hsrc:∀ ad,A = some ad->∀ j u,news[j]? = some u->w.cell? (ad.add j) = some u) (hA:A = none->m = 0) (h1:∀ u∈news,u.oneCell' = true)
  (h63:n + m<=maxLen) (hbytes:(n + m) * bytes<=140737488355328) (hbase:base<=w.heap.size) :
  ∃ v' w',(Builtin.append_ #[t,t] ty #[v,.slice A m c]).run P w = .ok v' w'/\w'.ownsRow base e size v' (n + m) (xs ++ news)/\w.grownBy w' v.ownBlock /\
   (v'.ownBlock = v.ownBlock\/v'.ownBlock = some w.heap.size):=by
 rcases A with _ | ad
 ·have hm:=hA rfl
  subst hm
  have hn:news = []:=List.eq_nil_of_length_eq_zero (by simpa using hl)
  subst hn
  exact ⟨v,w,Zoe w base t ty e i size ht hi v n xs hown c,by simpa using hown,⟨rfl,rfl,rfl,Nat.le_refl _,fun _ _ _=>rfl⟩,.inl rfl⟩
 ·obtain ⟨v',w',hrun,h2,h3,_,h5⟩:=run_append_own_at (P:=P) w base t ty e i z size bytes ht hi hz hsize hby hzs hsz v n xs hown ad m c news hl (hsrc ad rfl) h1 h63 hbytes hbase
  exact ⟨v',w',hrun,h2,h3,h5⟩
theorem wp_app {o:Oper} {a:Act} {K:Act->World->Prop} {Q:Exit->Act->World->Prop} (s x:Operand) (t:TypeId)
  (ho:o.op = .call { callee:=.builtin .append,args:=#[s,x],argTypes:=#[t,t] })
  (base:Nat) (e:TypeId) (i:TypeInfo) (z:Value) (size bytes:Nat) (ht:P.underlying t = some (.slice e)) (hi:P.info? e = some i) (hz:i.zero = some z)
  (hsize:i.size = size) (hby:i.bytes = bytes) (hzs:z.cells.size = size) (hsz:0 < size)
  (v:Value) (n:Nat) (xs:List Value) (hs:a.eval s = v) (hown:w.ownsRow base e size v n xs)
  (A:Option Addr) (m c:Nat) (news:List Value) (hx:a.eval x = .slice A m c) (hl:news.length = m * size) (hsrc:∀ ad,A = some ad->∀ j u,news[j]? = some u->w.cell? (ad.add j) = some u) (hA:A = none->m = 0) (h1:∀ u∈news,u.oneCell' = true)
  (h63:n + m<=maxLen) (hbytes:(n + m) * bytes<=140737488355328) (hbase:base<=w.heap.size)
  (h:∀ v' w',w'.ownsRow base e size v' (n + m) (xs ++ news)->w.grownBy w' v.ownBlock->(v'.ownBlock = v.ownBlock\/v'.ownBlock = some w.heap.size)->K (a.put o.dst v') w'):o.wp P a w K Q:=by
 obtain ⟨v',w',hrun,h2,h3,h4⟩:=run_app (P:=P) w base t o.type e i z size bytes ht hi hz hsize hby hzs hsz v n xs hown A m c news hl hsrc hA h1 h63 hbytes hbase
 unfold Oper.wp execOp
 simp only [ho,resolve,invoke,builtin,Sem.run_bind,Sem.run_pure,Result.andThen_ok,List.map_toArray,List.map_cons,List.map_nil,hs,hx,hrun]
 exact h v' w' h2 h3 h4
theorem Zbr {ops:Array Oper} {rest:List Oper} {o:Oper} {a:Act} {Q:Exit->Act->World->Prop} (hgd:o.guard = none) (s x:Operand) (t:TypeId)
  (ho:o.op = .call { callee:=.builtin .append,args:=#[s,x],argTypes:=#[t,t] })
  (base:Nat) (e:TypeId) (i:TypeInfo) (z:Value) (size bytes:Nat) (ht:P.underlying t = some (.slice e)) (hi:P.info? e = some i) (hz:i.zero = some z)
  (hsize:i.size = size) (hby:i.bytes = bytes) (hzs:z.cells.size = size) (hsz:0 < size)
  (v:Value) (n:Nat) (xs:List Value) (hs:a.eval s = v) (hown:w.ownsRow base e size v n xs)
  (A:Option Addr) (m c:Nat) (news:List Value) (hx:a.eval x = .slice A m c) (hl:news.length = m * size) (hsrc:∀ ad,A = some ad->∀ j u,news[j]? = some u->w.cell? (ad.add j) = some u) (hA:A = none->m = 0) (h1:∀ u∈news,u.oneCell' = true)
  (h63:n + m<=maxLen) (hbytes:(n + m) * bytes<=140737488355328) (hbase:base<=w.heap.size)
  (h:∀ v' w',w'.ownsRow base e size v' (n + m) (xs ++ news)->w.grownBy w' v.ownBlock->(v'.ownBlock = v.ownBlock\/v'.ownBlock = some w.heap.size)->wpList P ops Q rest (a.put o.dst v') w'):wpList P ops Q (o :: rest) a w:=
 wpList_plain hgd fun _ hK=>wp_app w s x t ho base e i z size bytes ht hi hz hsize hby hzs hsz v n xs hs hown A m c news hx hl hsrc hA h1 h63 hbytes hbase fun v' w' h2 h3 h4=>hK _ _ (h v' w' h2 h3 h4)
end
theorem Zgj {w:World} {a:Option Addr} {cap:Nat} {l:List Int} {fp:List Nat} (h:IntsA w a cap l fp) :
  (∀ ad,a = some ad->∀ j u,(l.map (Value.int .i64))[j]? = some u->w.cell? (ad.add j) = some u)/\(a = none->l.length = 0):=by
 constructor
 ·intro ad ha j u hu
  have hj:j < l.length:=by
   have:=(List.getElem?_eq_some_iff.1 hu).1;simpa using this
  obtain ⟨b,off,ha',-,hc⟩:=h.at_ j hj
  rw [ha] at ha';injection ha' with ha';subst ha'
  have hadd:(⟨b,off,none⟩:Addr).add j = ⟨b,off + j,none⟩:=by unfold Addr.add;split <;> simp_all
  rw [hadd,hc]
  simpa [hj] using hu
 ·intro ha
  rcases Nat.eq_zero_or_pos l.length with h0 | h0
  ·exact h0
  ·obtain ⟨b,off,ha',-,-⟩:=h.at_ 0 h0
   rw [ha] at ha';cases ha'
theorem Zgg (l:List Int):∀ u∈l.map (Value.int .i64),u.oneCell' = true:=by
 intro u hu
 obtain ⟨x,-,rfl⟩:=List.mem_map.1 hu
 rfl
set_option maxHeartbeats 400000 in
theorem Zaw (v:Value) (l:List Int) (fp:List Nat) (w:World) (h:Rd w v l fp) (hl:l.length<=1073741824) :
  Calls Tryz.prog 63 #[v] w fun e w'=>∃ v fp',e = .returned v/\Rd w' v l fp'/\Fresh w.heap.size w' fp'/\Only [] w w':=by
 obtain ⟨a,cap,rfl,hI⟩:=h.ints
 obtain ⟨i0,hi,hz0,hz1,hz2⟩:=info_parts Tryz.info2
 obtain ⟨q1,q2⟩:=Zgj (hI.keep ((Only.refl _ w).alloc (.cells #[] 2)))
 go_enter Tryz.func63,Tryz.ntmps63
 go_wp2_with (at_builtin;refine Zbr _ rfl _ _ 25 rfl w.heap.size 2 i0 _ 1 8 Tryz.underlying25 hi hz0 hz1 hz2 rfl (by omega) (.slice (some ⟨w.heap.size,0,none⟩) 0 0) 0 [] rfl (World.ownsRow_made w #[] 0 (Nat.le_refl _) (by unfold maxLen;omega) rfl) a l.length cap (l.map (Value.int .i64)) rfl (by simp) q1 q2 (Zgg l) (by unfold maxLen;omega) (by omega) (by simp) ?_;intro v1 w1 hO hg hb)
 rw [Nat.zero_add,List.nil_append] at hO
 obtain ⟨a',cap',hv,-,hI',hF⟩:=Zaq hO hI.wf
 have Hv:=zH hv
 have hK:Only [] w w1:=(zO.alloc _).grown hg (by simp [Value.ownBlock])
 clear hO hg hb hv q1 q2
 go_wp2
 go_ret
 refine ⟨_,_,rfl,?_,hF,hK⟩
 have hr:=hI'.rd
 rw [<- Hv.out] at hr;exact hr
def idxF {α:Type} (pr:α->Bool) (l:List α):Int:=match l.findIdx? pr with
 | some i=>i
 | none=>-1
theorem Zec {α:Type} {pr:α->Bool} {l:List α} {j:Nat} (hj:j < l.length) (h:∀ x∈l.take j,pr x = false) (hp:pr l[j] = true):idxF pr l = j:=by
 have:l.findIdx? pr = some j:=by
  rw [List.findIdx?_eq_some_iff_getElem]
  refine ⟨hj,hp,fun i hi=>?_⟩
  have:=h l[i] (by rw [List.mem_take_iff_getElem];exact ⟨i,by omega,rfl⟩)
  simp [this]
 unfold idxF;rw [this]
theorem Zfk {α:Type} {pr:α->Bool} {l:List α} (h:∀ x∈l,pr x = false):idxF pr l = -1:=by
 have:l.findIdx? pr = none:=by
  rw [List.findIdx?_eq_none_iff];intro x hx;simp [h x hx]
 unfold idxF;rw [this]
theorem idxF_ge {α:Type} {pr:α->Bool} {l:List α}:decide (0<=idxF pr l) = l.any pr:=by
 unfold idxF
 cases h:l.findIdx? pr with
 | some i=>
  have hh:=(List.findIdx?_eq_some_iff_getElem.1 h)
  obtain ⟨hi,hp,-⟩:=hh
  have:l.any pr = true:=List.any_eq_true.2 ⟨_,List.getElem_mem hi,hp⟩
  rw [this];simp
 | none=>
  rw [List.findIdx?_eq_none_iff] at h
  have:l.any pr = false:=by rw [List.any_eq_false];intro x hx;simp [h x hx]
  rw [this];simp
set_option maxHeartbeats 400000 in
theorem Zkx (f:FuncId) (caps:Array Value) (pr:Int->Bool) (hcf:∀ args w,(callFunc f args).run Tryz.prog w = .ok (.enter f args) w)
  (v:Value) (l:List Int) (fp:List Nat) (w:World) (h:Rd w v l fp)
  (hc:∀ x∈l,∀ w',Only [] w w'->Calls Tryz.prog f (#[.int .i64 x] ++ caps) w' fun e w''=>e = .returned (.bool (pr x))/\Only [] w' w'') :
  Calls Tryz.prog 119 #[v,.func (.func f) #[] caps] w fun e w'=>e = .returned (.int .i64 (idxF pr l))/\Only [] w w':=by
 obtain ⟨a,cap,rfl,hI⟩:=h.ints
 have hb:=hI.bound
 have HC:=zH hc
 clear hc
 go_enter Tryz.func119,Tryz.ntmps119
 go_wp2
 go_loopw [5,8] (fun i t wr=>∃ j:Nat,j<=l.length/\t = .int .i64 j/\(∀ x∈l.take j,pr x = false)/\Only [] w wr)
  (fun _ t _=>l.length - (intOf t).toNat)
 case atStart=>exact ⟨0,Nat.zero_le _,rfl,by simp,Only.refl _ _⟩
 case round=>
  obtain ⟨j,hj,rfl,hr,hK⟩:=hrel
  have Hr:=zH hr;clear hr
  by_cases hlt:j < l.length
  ·obtain ⟨b,off,rfl,-,hc0⟩:=hI.at_ j hlt
   have hc:=hK.cell (by simp) hc0
   clear hc0
   rcases hp:pr l[j]
   all_goals go_wp2_with (with_reducible refine (HC.out l[j] (List.getElem_mem _) wr hK).mono ?_;rintro e w1 ⟨rfl,hk1⟩)
   ·go_roundw
    case rel=>exact ⟨j + 1,by omega,by go_num,by
     rw [Zab l j hlt];intro x hx
     rcases List.mem_append.1 hx with hx | hx
     ·exact Hr.out x hx
     ·simp at hx;subst hx;exact hp,hK.trans hk1⟩
    case measure=>simp [intOf];omega
   ·go_ret
    exact ⟨ret_int (Zec hlt Hr.out hp).symm,hK.trans hk1⟩
  ·go_wp2
   go_ret
   exact ⟨ret_int (Zfk (by have:=Hr.out;rwa [List.take_of_length_le (by omega)] at this)).symm,hK⟩
end Go.Proofs.YtclhblofchfglaaGreat
