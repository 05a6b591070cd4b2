/- Words for the memory that the laws read and make: values that read as plain data; what a call leaves alone. -/
import Derived.Test.YthleokaeobdamaaGreatRows
import Derived.WalkKit
import Derived.WalkSpells
import Derived.WalkLawsBesides
import Derived.Lib.Hide
import Derived.Deep.Draws
import Derived.Deep.QuietTactic
import Derived.BigQuiet
import Derived.Maps.AppendAt
import Derived.Lib.SlBytesConst
namespace Go.Proofs.YthleokaeobdamaaGreat
open Go.RowKit
set_option maxRecDepth 10000
structure Only (fp:List Nat) (w w':World):Prop where
 os:w'.os = w.os
 tape:w'.tape = w.tape
 output:w'.output = w.output
 size:w.heap.size<=w'.heap.size
 block:∀ k,k < w.heap.size->k ∉ fp->w'.heap[k]? = w.heap[k]?
theorem Only.refl (fp:List Nat) (w:World):Only fp w w:=⟨rfl,rfl,rfl,Nat.le_refl _,fun _ _ _=>rfl⟩
theorem Only.mono {fp fp':List Nat} {w w':World} (h:Only fp w w') (hs:∀ b∈fp,b < w.heap.size->b∈fp'):Only fp' w w':=
 ⟨h.os,h.tape,h.output,h.size,fun k hk hn=>h.block k hk fun hm=>hn (hs k hm hk)⟩
theorem Only.trans {fp:List Nat} {a b c:World} (h:Only fp a b) (k:Only fp b c):Only fp a c:=
 ⟨k.os.trans h.os,k.tape.trans h.tape,k.output.trans h.output,Nat.le_trans h.size k.size,
  fun i hi hn=>(k.block i (Nat.lt_of_lt_of_le hi h.size) hn).trans (h.block i hi hn)⟩
theorem Only.then_ {fp fp':List Nat} {a b c:World} (h:Only fp a b) (k:Only fp' b c) (hs:∀ x∈fp',x < a.heap.size->x∈fp):Only fp a c:=
 ⟨k.os.trans h.os,k.tape.trans h.tape,k.output.trans h.output,Nat.le_trans h.size k.size,
  fun i hi hn=>(k.block i (Nat.lt_of_lt_of_le hi h.size) fun hm=>hn (hs i hm hi)).trans (h.block i hi hn)⟩
theorem Only.keepThen {fp:List Nat} {a b c:World} (h:Only fp a b) (k:Only [] b c):Only fp a c:=h.then_ k (by simp)
theorem Only.weaken {a b:World} (h:Only [] a b) (fp:List Nat):Only fp a b:=h.mono (by simp)
theorem Only.drew {fp:List Nat} {a w:World} (h:Only fp a w):Only fp a w.drew:=⟨h.os,h.tape,h.output,h.size,h.block⟩
theorem Only.drewN {fp:List Nat} {a w:World} (h:Only fp a w) (n:Nat):Only fp a (w.drewN n):=⟨h.os,h.tape,h.output,h.size,h.block⟩
theorem Only.alloc {fp:List Nat} {a w:World} (h:Only fp a w) (o:Obj):Only fp a (w.alloc o):=
 h.trans ⟨rfl,rfl,rfl,by simp,fun k hk _=>Below.heap_alloc _ _ _ hk⟩
theorem Only.setCell {fp:List Nat} {a w:World} (h:Only fp a w) {p:Addr} (hp:p.block < a.heap.size->p.block∈fp) (u:Value):Only fp a (w.setCell p u):=
 h.then_ (fp':=[p.block]) ⟨rfl,rfl,rfl,by simp [World.setCell],fun k hk hn=>Below.heap_setCell _ _ _ _ (by simpa using hn)⟩ (by simpa using hp)
theorem Only.grown {fp:List Nat} {a w w':World} {row:Option Nat} (h:Only fp a w) (hg:w.grownBy w' row) (hr:∀ k,row = some k->k < a.heap.size->k∈fp):Only fp a w':=
 h.then_ (fp':=row.toList) ⟨hg.os,hg.tape,hg.output,hg.size,fun k hk hn=>hg.block k hk (fun e=>hn (by simp [<- e]))⟩ (by
  intro x hx;exact hr x (by simpa using hx))
theorem Only.below {fp:List Nat} {w w':World} {B:Nat} (h:Only fp w w') (hB:B<=w.heap.size) (hf:∀ b∈fp,B<=b):Below B w w':=
 ⟨h.os,h.tape,h.output,h.size,fun k hk=>h.block k (Nat.lt_of_lt_of_le hk hB) fun hm=>by have:=hf k hm;omega⟩
theorem Only.ofDrewN (w:World) (n:Nat) (fp:List Nat):Only fp w (w.drewN n):=(Only.refl fp w).drewN n
theorem Only.cell {fp:List Nat} {w w':World} (h:Only fp w w') {p:Addr} (hn:p.block ∉ fp) {v:Value} (hc:w.cell? p = some v):w'.cell? p = some v:=
 (World.cell?_of_block (h.block p.block (World.block_lt_of_cell? w p hc) hn)).trans hc
def Drew (w w':World):Prop:=∃ n,w' = w.drewN n
theorem Drew.refl (w:World):Drew w w:=⟨0,rfl⟩
theorem Drew.drewN {a w:World} (h:Drew a w) (n:Nat):Drew a (w.drewN n):=by
 obtain ⟨m,rfl⟩:=h;exact ⟨m + n,by rw [World.drewN_drewN]⟩
theorem Drew.only {a b:World} (h:Drew a b) (fp:List Nat):Only fp a b:=by
 obtain ⟨m,rfl⟩:=h;exact Only.ofDrewN a m fp
def Own (w:World) (fp:List Nat):Prop:=∀ b∈fp,∃ c e,w.heap[b]? = some (.cells c e (0,0))
theorem Own.nil (w:World):Own w []:=by intro b hb;cases hb
theorem Own.lt {w:World} {fp:List Nat} (h:Own w fp):∀ b∈fp,b < w.heap.size:=by
 intro b hb
 obtain ⟨c,e,he⟩:=h b hb
 exact (Array.getElem?_eq_some_iff.1 he).1
theorem Own.frame {w w':World} {fp:List Nat} (h:Own w fp) (hf:∀ b∈fp,w'.heap[b]? = w.heap[b]?):Own w' fp:=by
 intro b hb;rw [hf b hb];exact h b hb
theorem Own.only {w w':World} {fp fp':List Nat} (h:Own w fp) (ho:Only fp' w w') (hd:∀ b∈fp,b ∉ fp'):Own w' fp:=
 h.frame fun b hb=>ho.block b (h.lt b hb) (hd b hb)
theorem Own.keep {w w':World} {fp:List Nat} (h:Own w fp) (ho:Only [] w w'):Own w' fp:=h.only ho (by simp)
theorem Own.append {w:World} {fp fp':List Nat} (h:Own w fp) (h':Own w fp'):Own w (fp ++ fp'):=by
 intro b hb;rcases List.mem_append.1 hb with hb | hb
 ·exact h b hb
 ·exact h' b hb
theorem Own.sub {w:World} {fp fp':List Nat} (h:Own w fp) (hs:∀ b∈fp',b∈fp):Own w fp':=fun b hb=>h b (hs b hb)
theorem Own.left {w:World} {fp fp':List Nat} (h:Own w (fp ++ fp')):Own w fp:=fun b hb=>h b (List.mem_append_left _ hb)
theorem Own.right {w:World} {fp fp':List Nat} (h:Own w (fp ++ fp')):Own w fp':=fun b hb=>h b (List.mem_append_right _ hb)
theorem Own.frozen {w:World} {fp:List Nat} (h:Own w fp) {b off:Nat} (hb:b∈fp):w.frozen? ⟨b,off,none⟩ = false:=by
 obtain ⟨c,e,he⟩:=h b hb
 simp [World.frozen?,he]
theorem Own.setCell {w:World} {fp:List Nat} (h:Own w fp) (p:Addr) (u:Value):Own (w.setCell p u) fp:=by
 intro b hb
 obtain ⟨c,e,he⟩:=h b hb
 by_cases hp:p.block = b
 ·subst hp
  exact ⟨if p.spot.isSome = true then c else c.setIfInBounds p.off u,e,by simp [World.setCell,Array.getElem?_modify,he]⟩
 ·exact ⟨c,e,by rw [Below.heap_setCell _ _ _ _ (fun e=>hp e.symm)];exact he⟩
structure Fresh (B:Nat) (w:World) (fp:List Nat):Prop where
 nd:fp.Nodup
 ge:∀ b∈fp,B<=b
 own:Own w fp
theorem Fresh.nil (B:Nat) (w:World):Fresh B w []:=⟨List.nodup_nil,by simp,Own.nil w⟩
theorem Fresh.keep {B:Nat} {w w':World} {fp:List Nat} (h:Fresh B w fp) (ho:Only [] w w'):Fresh B w' fp:=⟨h.nd,h.ge,h.own.keep ho⟩
theorem Fresh.only {B:Nat} {w w':World} {fp fp':List Nat} (h:Fresh B w fp) (ho:Only fp' w w') (hd:∀ b∈fp,b ∉ fp'):Fresh B w' fp:=⟨h.nd,h.ge,h.own.only ho hd⟩
theorem Fresh.mono {B B':Nat} {w:World} {fp:List Nat} (h:Fresh B w fp) (hB:B'<=B):Fresh B' w fp:=⟨h.nd,fun b hb=>Nat.le_trans hB (h.ge b hb),h.own⟩
theorem Fresh.lt {B:Nat} {w:World} {fp:List Nat} (h:Fresh B w fp):∀ b∈fp,b < w.heap.size:=h.own.lt
theorem Fresh.append {B B':Nat} {w:World} {fp fp':List Nat} (h:Fresh B w fp) (h':Fresh B' w fp') (hB:B<=B') (hlt:∀ b∈fp,b < B'):Fresh B w (fp ++ fp'):=
 ⟨List.nodup_append.2 ⟨h.nd,h'.nd,fun a ha b hb e=>by have:=hlt a ha;have:=h'.ge b hb;omega⟩,
  fun b hb=>(List.mem_append.1 hb).elim (h.ge b) fun hb=>Nat.le_trans hB (h'.ge b hb),h.own.append h'.own⟩
theorem Fresh.left {B:Nat} {w:World} {fp fp':List Nat} (h:Fresh B w (fp ++ fp')):Fresh B w fp:=
 ⟨(List.nodup_append.1 h.nd).1,fun b hb=>h.ge b (List.mem_append_left _ hb),h.own.left⟩
theorem Fresh.right {B:Nat} {w:World} {fp fp':List Nat} (h:Fresh B w (fp ++ fp')):Fresh B w fp':=
 ⟨(List.nodup_append.1 h.nd).2.1,fun b hb=>h.ge b (List.mem_append_right _ hb),h.own.right⟩
theorem ret_int {k:IntKind} {a b:Int} (h:a = b):Ending.returned (.int k a) = .returned (.int k b):=by rw [h]
theorem Zaa {a b:Bool} (h:a = b):Ending.returned (.bool a) = .returned (.bool b):=by rw [h]
def I64 (n:Int):Prop:=-9223372036854775808<=n/\n<=9223372036854775807
class Rp (α:Type) where
 size:Nat
 rep:World->List Value->α->List Nat->Prop
 len:∀ {w cs x fp},rep w cs x fp->cs.length = size
 frame:∀ {w w':World} {cs x fp},rep w cs x fp->(∀ b∈fp,w'.heap[b]? = w.heap[b]?)->rep w' cs x fp
 lt:∀ {w cs x fp},rep w cs x fp->∀ b∈fp,b < w.heap.size
theorem Rp.only {α:Type} [Rp α] {w w':World} {cs:List Value} {x:α} {fp fp':List Nat} (h:Rp.rep w cs x fp) (ho:Only fp' w w') (hd:∀ b∈fp,b ∉ fp'):Rp.rep w' cs x fp:=
 Rp.frame h fun b hb=>ho.block b (Rp.lt h b hb) (hd b hb)
theorem Rp.keep {α:Type} [Rp α] {w w':World} {cs:List Value} {x:α} {fp:List Nat} (h:Rp.rep w cs x fp) (ho:Only [] w w'):Rp.rep w' cs x fp:=Rp.only h ho (by simp)
instance:Rp Int where
 size:=1
 rep _ cs n fp:=cs = [.int .i64 n]/\I64 n/\fp = []
 len h:=by rw [h.1];rfl
 frame h _:=h
 lt h:=by rw [h.2.2];simp
structure SeqA {α:Type} [Rp α] (w:World) (a:Option Addr) (cap:Nat) (xs:List α) (ob:List Nat) (fps:List (List Nat)):Prop where
 len:xs.length<=cap
 cap:cap<=maxLen
 nf:fps.length = xs.length
 at_:∀ k (h:k < xs.length),∃ b off cs,a = some ⟨b,off,none⟩/\ob = [b]/\(∀ j u,cs[j]? = some u->w.cell? ⟨b,off + k * Rp.size α + j,none⟩ = some u)/\Rp.rep w cs (xs[k]) (fps[k]'(by omega))
 lt:∀ b∈ob,b < w.heap.size
 one:ob.length<=1
section
variable {α:Type} [Rp α] {w w':World} {a:Option Addr} {cap:Nat} {xs:List α} {ob:List Nat} {fps:List (List Nat)}
theorem SeqA.nil (w:World) (a:Option Addr) {cap:Nat} (h:cap<=maxLen):SeqA w a cap ([]:List α) [] []:=⟨Nat.zero_le _,h,rfl,by simp,by simp,by simp⟩
theorem SeqA.bound (h:SeqA w a cap xs ob fps):xs.length<=9223372036854775807:=by
 have h1:=h.len;have h2:=h.cap;unfold maxLen at h2;omega
theorem SeqA.lt_all (h:SeqA w a cap xs ob fps):∀ b∈ob ++ fps.flatten,b < w.heap.size:=by
 intro b hb
 rcases List.mem_append.1 hb with hb | hb
 ·exact h.lt b hb
 ·obtain ⟨f,hf,hb⟩:=List.mem_flatten.1 hb
  obtain ⟨k,hk,rfl⟩:=List.getElem_of_mem hf
  obtain ⟨_,_,_,_,_,_,hr⟩:=h.at_ k (by have:=h.nf;omega)
  exact Rp.lt hr b hb
theorem SeqA.frame (h:SeqA w a cap xs ob fps) (hf:∀ b∈ob ++ fps.flatten,w'.heap[b]? = w.heap[b]?):SeqA w' a cap xs ob fps:=by
 refine ⟨h.len,h.cap,h.nf,fun k hk=>?_,fun b hb=>?_,h.one⟩
 ·obtain ⟨b,off,cs,ha,hob,hc,hr⟩:=h.at_ k hk
  refine ⟨b,off,cs,ha,hob,fun j u hu=>?_,Rp.frame hr fun b hb=>hf b (List.mem_append_right _ (List.mem_flatten.2 ⟨_,List.getElem_mem _,hb⟩))⟩
  rw [World.cell?_of_block (w:=w) (hf b (by simp [hob]))]
  exact hc j u hu
 ·have:=hf b (List.mem_append_left _ hb)
  rw [Array.getElem?_eq_getElem (h.lt b hb)] at this
  exact (Array.getElem?_eq_some_iff.1 this).1
end
instance {α:Type} [Rp α]:Rp (List α) where
 size:=1
 rep w cs xs fp:=∃ a cap ob fps,cs = [.slice a xs.length cap]/\fp = ob ++ fps.flatten/\SeqA w a cap xs ob fps
 len h:=by obtain ⟨_,_,_,_,rfl,_⟩:=h;rfl
 frame h hf:=by
  obtain ⟨a,cap,ob,fps,hcs,hfp,hs⟩:=h
  exact ⟨a,cap,ob,fps,hcs,hfp,hs.frame fun b hb=>hf b (by rw [hfp];exact hb)⟩
 lt h:=by
  obtain ⟨a,cap,ob,fps,hcs,hfp,hs⟩:=h
  rw [hfp];exact hs.lt_all
abbrev Rd {α:Type} [Rp α] (w:World) (v:Value) (x:α) (fp:List Nat):Prop:=Rp.rep w [v] x fp
section
variable {α:Type} [Rp α] {w w':World} {v:Value} {xs:List α} {fp:List Nat}
theorem Rd.open_ (h:Rd w v xs fp):∃ a cap ob fps,v = .slice a xs.length cap/\fp = ob ++ fps.flatten/\SeqA w a cap xs ob fps:=by
 obtain ⟨a,cap,ob,fps,hcs,r⟩:=h
 exact ⟨a,cap,ob,fps,by simpa using hcs,r⟩
theorem SeqA.rd {a:Option Addr} {cap:Nat} {ob:List Nat} {fps:List (List Nat)} (h:SeqA w a cap xs ob fps):Rd w (.slice a xs.length cap) xs (ob ++ fps.flatten):=
 ⟨a,cap,ob,fps,rfl,rfl,h⟩
end
structure IntsA (w:World) (a:Option Addr) (cap:Nat) (l:List Int) (fp:List Nat):Prop where
 len:l.length<=cap
 cap:cap<=maxLen
 wf:∀ x∈l,I64 x
 at_:∀ k (h:k < l.length),∃ b off,a = some ⟨b,off,none⟩/\fp = [b]/\w.cell? ⟨b,off + k,none⟩ = some (.int .i64 l[k])
 lt:∀ b∈fp,b < w.heap.size
 one:fp.length<=1
section
variable {w w':World} {a:Option Addr} {cap:Nat} {l:List Int} {fp:List Nat}
theorem flatten_nil (n:Nat):(List.replicate n ([]:List Nat)).flatten = []:=by
 induction n with
 | zero=>rfl
 | succ n ih=>simp [List.replicate_succ]
theorem SeqA.ints {ob:List Nat} {fps:List (List Nat)} (h:SeqA w a cap l ob fps):IntsA w a cap l ob/\fps.flatten = []:=by
 have hE:∀ k (hk:k < l.length),∃ b off,a = some ⟨b,off,none⟩/\ob = [b]/\w.cell? ⟨b,off + k,none⟩ = some (.int .i64 l[k])/\I64 l[k]/\fps[k]'(by have:=h.nf;omega) = []:=by
  intro k hk
  obtain ⟨b,off,cs,ha,hob,hc,rfl,hi,hf⟩:=h.at_ k hk
  have:=hc 0 _ rfl
  exact ⟨b,off,ha,hob,by simpa [Rp.size] using this,hi,hf⟩
 refine ⟨⟨h.len,h.cap,fun x hx=>?_,fun k hk=>?_,h.lt,h.one⟩,?_⟩
 ·obtain ⟨k,hk,rfl⟩:=List.getElem_of_mem hx
  obtain ⟨_,_,_,_,_,hi,_⟩:=hE k hk
  exact hi
 ·obtain ⟨b,off,ha,hob,hc,_⟩:=hE k hk
  exact ⟨b,off,ha,hob,hc⟩
 ·have:fps = List.replicate fps.length []:=by
   apply List.ext_getElem (by simp)
   intro k h1 h2
   obtain ⟨_,_,_,_,_,_,hf⟩:=hE k (by have:=h.nf;omega)
   simpa using hf
  rw [this];exact flatten_nil _
theorem IntsA.seq (h:IntsA w a cap l fp):SeqA w a cap l fp (List.replicate l.length []):=by
 refine ⟨h.len,h.cap,by simp,fun k hk=>?_,h.lt,h.one⟩
 obtain ⟨b,off,ha,hf,hc⟩:=h.at_ k hk
 refine ⟨b,off,[.int .i64 l[k]],ha,hf,fun j u hu=>?_,rfl,h.wf _ (List.getElem_mem _),by simp⟩
 cases j with
 | zero=>simp at hu;subst hu;simpa [Rp.size] using hc
 | succ j=>simp at hu
theorem IntsA.rd (h:IntsA w a cap l fp):Rd w (.slice a l.length cap) l fp:=
 ⟨a,cap,fp,_,rfl,by rw [flatten_nil];simp,h.seq⟩
theorem Rd.ints {v:Value} (h:Rd w v l fp):∃ a cap,v = .slice a l.length cap/\IntsA w a cap l fp:=by
 obtain ⟨a,cap,ob,fps,rfl,rfl,hs⟩:=h.open_
 obtain ⟨h1,h2⟩:=hs.ints
 exact ⟨a,cap,rfl,by rw [h2];simpa using h1⟩
theorem IntsA.nil (w:World) (a:Option Addr) {cap:Nat} (h:cap<=maxLen):IntsA w a cap [] []:=⟨Nat.zero_le _,h,by simp,by simp,by simp,by simp⟩
theorem IntsA.bound (h:IntsA w a cap l fp):l.length<=9223372036854775807:=by
 have h1:=h.len;have h2:=h.cap;unfold maxLen at h2;omega
theorem IntsA.frame (h:IntsA w a cap l fp) (hf:∀ b∈fp,w'.heap[b]? = w.heap[b]?):IntsA w' a cap l fp:=by
 refine ⟨h.len,h.cap,h.wf,fun k hk=>?_,fun b hb=>?_,h.one⟩
 ·obtain ⟨b,off,ha,hfp,hc⟩:=h.at_ k hk
  refine ⟨b,off,ha,hfp,?_⟩
  rw [World.cell?_of_block (w:=w) (hf b (by simp [hfp]))]
  exact hc
 ·have:=hf b hb
  rw [Array.getElem?_eq_getElem (h.lt b hb)] at this
  exact (Array.getElem?_eq_some_iff.1 this).1
theorem IntsA.only (h:IntsA w a cap l fp) {fp':List Nat} (ho:Only fp' w w') (hd:∀ b∈fp,b ∉ fp'):IntsA w' a cap l fp:=
 h.frame fun b hb=>ho.block b (h.lt b hb) (hd b hb)
theorem IntsA.keep (h:IntsA w a cap l fp) (ho:Only [] w w'):IntsA w' a cap l fp:=h.only ho (by simp)
end
open Classical in
noncomputable def eqV {α:Type} (x y:α):Bool:=decide (x = y)
theorem eqV_yes {α:Type} {x y:α} (h:x = y):eqV x y = true:=by unfold eqV;simp [h]
theorem eqV_no {α:Type} {x y:α} (h:x ≠ y):eqV x y = false:=by unfold eqV;simp [h]
theorem eqV_iff {α:Type} {x y:α}:eqV x y = true ↔ x = y:=by unfold eqV;simp
theorem eqV_iff' {α:Type} {x y:α}:eqV x y = false ↔ x ≠ y:=by unfold eqV;simp
section
theorem Zab {β:Type} (l:List β) (j:Nat) (h:j < l.length):l.take (j + 1) = l.take j ++ [l[j]]:=by
 rw [List.take_succ_eq_append_getElem h]
end
theorem zA {w w':World} {fp:List Nat} (h:Only fp w w':=by with_reducible repeat (first | exact Only.refl _ _ | assumption | refine Only.drewN ?_ _ | refine Only.drew ?_ | refine Only.alloc ?_ _ | refine Only.setCell ?_ (by intro hh;exfalso;simp at hh;try omega) _ | refine Only.trans ?_ (by assumption))):Only fp w w':=h
theorem zV {w w':World} {fp:List Nat} (h:Only fp w w':=by with_reducible repeat (first | assumption | exact .refl _ _ | refine .drew ?_ | refine .alloc ?_ _ | refine .trans ?_ (by assumption))):Only fp w w':=h
theorem zC {w w':World} {fp:List Nat} (h:Only fp w w':=by with_reducible repeat (first | exact Only.refl _ _ | assumption | refine Only.drewN ?_ _ | refine Only.drew ?_ | refine Only.alloc ?_ _ | refine Only.trans ?_ (by assumption))):Only fp w w':=h
theorem zB {w w':World} {fp:List Nat} (h:Only fp w w':=by with_reducible repeat (first | exact Only.refl _ _ | assumption | refine Only.drewN ?_ _ | refine Only.drew ?_ | refine Only.alloc ?_ _ | refine Only.setCell ?_ (by intro _;simp) _ | refine Only.trans ?_ (Only.weaken (by assumption) _))):Only fp w w':=h
theorem zH {p:Prop} (h:p):Hid p:=Lib.hid h
theorem zO {fp:List Nat} {w:World}:Only fp w w:=Only.refl _ _
theorem Only.ce {w w':World} (h:Only [] w w') {p:Addr} {v:Value} (hc:w.cell? p = some v):w'.cell? p = some v:=h.cell (by simp) hc
theorem zK {α:Type} [Rp α] {w w':World} {cs:List Value} {x:α} {fp:List Nat} (h:Rp.rep w cs x fp) (k:Only [] w w'):Rp.rep w' cs x fp:=Rp.keep h k
theorem eqL_len {α:Type} {l l':List α} (h:((l.length:Int) != (l'.length:Int)) = true):eqV l l' = false:=by
 apply eqV_no;rintro rfl;simp at h
theorem Znb {l l':List Int} {j:Nat} (h1:j < l.length) (h2:j < l'.length) (h:(l[j] != l'[j]) = true):eqV l l' = false:=by
 apply eqV_no;rintro rfl;simp at h
theorem eqL_no {α:Type} {l l':List α} {j:Nat} (h1:j < l.length) (h2:j < l'.length) (h:eqV l[j] l'[j] = false):eqV l l' = false:=by
 apply eqV_no;rintro rfl;rw [eqV_iff'] at h;exact h rfl
theorem eqL_yes {α:Type} {l l':List α} {j:Nat} (hl:l.length = l'.length) (hj:¬ j < l.length) (h:l.take j = l'.take j):eqV l l' = true:=by
 apply eqV_yes
 rw [List.take_of_length_le (by omega),List.take_of_length_le (by omega)] at h
 exact h
theorem Ziz {l l':List Int} {j:Nat} (h1:j < l.length) (h2:j < l'.length) (h:(l[j] != l'[j]) = false) (hr:l.take j = l'.take j):l.take (j + 1) = l'.take (j + 1):=by
 rw [Zab l j h1,Zab l' j h2,hr]
 simp at h;rw [h]
theorem Zpj {α:Type} {l l':List α} {j:Nat} (h1:j < l.length) (h2:j < l'.length) (h:eqV l[j] l'[j] = true) (hr:l.take j = l'.take j):l.take (j + 1) = l'.take (j + 1):=by
 rw [Zab l j h1,Zab l' j h2,hr]
 rw [eqV_iff] at h;rw [h]
theorem Tryz.info2:(Tryz.prog.info? 2).map (fun i=>(i.zero,i.size,i.bytes)) = some (some (.int .i64 0),1,8):=by kernel_rfl
theorem madeInts (n:Nat):(madeCells (Value.cells (.int .i64 0)) n).toList = List.replicate n (.int .i64 0):=by
 apply List.ext_getElem (by simp [madeCells])
 intro i h1 h2
 simp [madeCells,Value.cells,Nat.mod_one]
theorem Zba {w:World} {base:Nat} {e:TypeId} {v:Value} {n:Nat} {l:List Int} (h:w.ownsRow base e 1 v n (l.map (.int .i64))) (hl:∀ x∈l,I64 x) :
  ∃ a cap,v = .slice a l.length cap/\n = l.length/\IntsA w a cap l v.ownBlock.toList/\Fresh base w v.ownBlock.toList:=by
 obtain ⟨h1,h2⟩:=h
 have hn:n = l.length:=by simpa using h1.symm
 subst hn
 rcases h2 with ⟨rfl,h0⟩ | ⟨g,cap,cur,rfl,hb,hg,hnc,hcm,hcs,htake⟩
 ·have:l = []:=List.eq_nil_of_length_eq_zero h0
  subst this
  exact ⟨none,0,rfl,rfl,IntsA.nil w none (by simp [maxLen]),Fresh.nil _ _⟩
 ·refine ⟨some ⟨g,0,none⟩,cap,rfl,rfl,⟨hnc,hcm,hl,fun k hk=>⟨g,0,rfl,rfl,?_⟩,?_,by simp [Value.ownBlock]⟩,⟨by simp [Value.ownBlock],by simpa [Value.ownBlock] using hb,?_⟩⟩
  ·have hh:(l.map (Value.int .i64))[k]? = some (.int .i64 l[k]):=by simp [hk]
   rw [<- htake,List.getElem?_take] at hh
   split at hh
   ·rw [cell_of_row w g _ cur e (0,0) hg];simpa using hh
   ·cases hh
  ·intro b hb'
   simp [Value.ownBlock] at hb';subst hb'
   exact (Array.getElem?_eq_some_iff.1 hg).1
  ·intro b hb'
   simp [Value.ownBlock] at hb';subst hb'
   exact ⟨_,_,hg⟩
section
variable {α:Type} [Rp α] {w:World} {a:Option Addr} {cap:Nat} {xs:List (List α)} {ob:List Nat} {fps:List (List Nat)}
theorem SeqA.atRow (h:SeqA w a cap xs ob fps) (k:Nat) (hk:k < xs.length) :
  ∃ b off v,a = some ⟨b,off,none⟩/\ob = [b]/\w.cell? ⟨b,off + k,none⟩ = some v/\Rd w v xs[k] (fps[k]'(by rw [h.nf];exact hk)):=by
 obtain ⟨b,off,cs,ha,hob,hc,hr⟩:=h.at_ k hk
 have hl:=Rp.len hr
 match cs,hl with
 | [v],_=>exact ⟨b,off,v,ha,hob,by have:=hc 0 v rfl;simpa [Rp.size] using this,hr⟩
end
theorem Zay {P:Program} {f:FuncId} {args:Array Value} {w:World} {a n:Nat} {v:Value}
  (h:Calls P f args (w.drewN (a + n)) fun e w'=>e = .returned v/\Drew (w.drewN (a + n)) w') :
  Calls P f args (w.drewN (a + n)) fun e w''=>e = .returned v/\∃ m,w'' = w.drewN (a + m):=
 h.mono fun _ _ ⟨he,m,hm⟩=>⟨he,n + m,by rw [hm,World.drewN_drewN,Nat.add_assoc]⟩
section
variable {α:Type} [Rp α] {w w':World} {a:Option Addr} {cap:Nat} {xs:List α} {ob:List Nat} {fps:List (List Nat)}
theorem Zeb {fps:List (List Nat)} {j:Nat} (hj:j < fps.length) {b:Nat} (hb:b∈fps[j]):b∈fps.flatten:=List.mem_flatten.2 ⟨_,List.getElem_mem _,hb⟩
theorem Zrw {s:Nat} (css:List (List Value)) (h:∀ c∈css,c.length = s) (k j:Nat) (hj:j < s) (hk:k < css.length):css.flatten[k * s + j]? = (css[k])[j]?:=by
 induction css generalizing k with
 | nil=>simp at hk
 | cons c css ih=>
  have hc:=h c (by simp)
  cases k with
  | zero=>simp [List.getElem?_append,hc,hj]
  | succ k=>
   rw [List.flatten_cons,List.getElem?_append_right (by rw [hc,Nat.succ_mul];omega)]
   have:(k + 1) * s + j - c.length = k * s + j:=by rw [hc,Nat.succ_mul];omega
   rw [this,ih (fun c' hc'=>h c' (by simp [hc'])) k (by simpa using hk)]
   simp
theorem own_seq {base:Nat} {e:TypeId} {v:Value} {n:Nat} {css:List (List Value)} (h:w.ownsRow base e (Rp.size α) v n css.flatten) (hs:0 < Rp.size α)
  (hl:css.length = xs.length) (hf:fps.length = xs.length) (hr:∀ k (h1:k < css.length) (h2:k < xs.length) (h3:k < fps.length),Rp.rep w css[k] xs[k] fps[k]) :
  ∃ a cap,v = .slice a xs.length cap/\n = xs.length/\SeqA w a cap xs v.ownBlock.toList fps:=by
 have hcl:∀ c∈css,c.length = Rp.size α:=by
  intro c hc
  obtain ⟨k,hk,rfl⟩:=List.getElem_of_mem hc
  exact Rp.len (hr k hk (by omega) (by omega))
 obtain ⟨h1,h2⟩:=h
 have hlen:css.flatten.length = css.length * Rp.size α:=by
  clear h1 h2 hl hr
  induction css with
  | nil=>simp
  | cons c css ih=>rw [List.flatten_cons,List.length_append,hcl c (by simp),ih (fun c' hc'=>hcl c' (by simp [hc'])),List.length_cons,Nat.succ_mul];omega
 have hn:n = xs.length:=by
  rw [hlen,hl] at h1
  exact (Nat.eq_of_mul_eq_mul_right hs h1).symm
 subst hn
 rcases h2 with ⟨rfl,h0⟩ | ⟨g,cp,cur,rfl,hb,hg,hnc,hcm,hcs,htake⟩
 ·have:xs = []:=List.eq_nil_of_length_eq_zero h0
  subst this
  have:fps = []:=List.eq_nil_of_length_eq_zero hf
  subst this
  exact ⟨none,0,rfl,rfl,SeqA.nil w none (by simp [maxLen])⟩
 ·refine ⟨some ⟨g,0,none⟩,cp,rfl,rfl,⟨hnc,hcm,hf,fun k hk=>⟨g,0,css[k],rfl,rfl,fun j u hu=>?_,hr k (by omega) hk (by omega)⟩,?_,by simp [Value.ownBlock]⟩⟩
  ·have hj:j < Rp.size α:=by
    rw [<- hcl _ (List.getElem_mem (by omega:k < css.length))]
    exact (List.getElem?_eq_some_iff.1 hu).1
   have hh:=Zrw css hcl k j hj (by omega)
   rw [hu,<- htake,List.getElem?_take] at hh
   split at hh
   ·rw [cell_of_row w g _ cur e (0,0) hg]
    simpa using hh
   ·cases hh
  ·intro b hb'
   simp [Value.ownBlock] at hb';subst hb'
   exact (Array.getElem?_eq_some_iff.1 hg).1
theorem Zcg {base:Nat} {e:TypeId} {size:Nat} {v:Value} {n:Nat} {cs:List Value} (h:w.ownsRow base e size v n cs):Fresh base w v.ownBlock.toList:=by
 rcases h.2 with ⟨rfl,h0⟩ | ⟨g,cp,cur,rfl,hb,hg,_⟩
 ·exact Fresh.nil _ _
 ·exact ⟨by simp [Value.ownBlock],by simpa [Value.ownBlock] using hb,by intro b hb';simp [Value.ownBlock] at hb';subst hb';exact ⟨_,_,hg⟩⟩
end
theorem Tryz.info22:(Tryz.prog.info? 27).map (fun i=>(i.zero,i.size,i.bytes)) = some (some (.slice none 0 0),1,24):=by kernel_rfl
theorem madeNils (n:Nat):(madeCells (Value.cells (.slice none 0 0)) n).toList = List.replicate n (.slice none 0 0):=by
 apply List.ext_getElem (by simp [madeCells])
 intro i h1 h2
 simp [madeCells,Value.cells,Nat.mod_one]
theorem Zbd {w w':World} {base:Nat} {e:TypeId} {size:Nat} {v:Value} {n:Nat} {cs:List Value} {fp:List Nat} (h:w.ownsRow base e size v n cs) (ho:Only fp w w') (hn:∀ g,v.ownBlock = some g->g ∉ fp):w'.ownsRow base e size v n cs:=by
 refine ⟨h.1,?_⟩
 rcases h.2 with h0 | ⟨g,cp,cur,rfl,hb,hg,r⟩
 ·exact .inl h0
 ·exact .inr ⟨g,cp,cur,rfl,hb,by rw [ho.block g (Array.getElem?_eq_some_iff.1 hg).1 (hn g rfl)];exact hg,r⟩
theorem Zbl {w w':World} {base:Nat} {e:TypeId} {size:Nat} {v:Value} {n:Nat} {cs:List Value} (h:w.ownsRow base e size v n cs) (ho:Only [] w w'):w'.ownsRow base e size v n cs:=
 Zbd h ho (by simp)
section
variable {α:Type} [Rp α] {w w':World} {B:Nat} {vs:List Value} {xs:List α} {fps:List (List Nat)}
end
theorem Only.cells_eq {fp:List Nat} {w w':World} (h:Only fp w w') (b:Nat) (hb:b < w.heap.size) (hn:b ∉ fp):∀ o,w'.cell? ⟨b,o,none⟩ = w.cell? ⟨b,o,none⟩:=
 fun _=>World.cell?_of_block (h.block b hb hn)
theorem Only.frozen_eq {fp:List Nat} {w w':World} (h:Only fp w w') (b:Nat) (hb:b < w.heap.size) (hn:b ∉ fp):∀ o,w'.frozen? ⟨b,o,none⟩ = w.frozen? ⟨b,o,none⟩:=
 fun _=>World.frozen?_of_block (h.block b hb hn)
class Sm (α:Type) where
 sm:α->Prop
instance:Sm Int:=⟨fun _=>True⟩
instance {α:Type} [Sm α]:Sm (List α):=⟨fun l=>l.length<=2097152/\∀ x∈l,Sm.sm x⟩
section
variable {P:Program} (w:World)
theorem Zqk (base:Nat) (t ty e:TypeId) (i:TypeInfo) (size:Nat) (ht:P.underlying t = some (.slice e)) (hi:P.info? e = some i)
  (v:Value) (n:Nat) (xs:List Value) (hown:w.ownsRow base e size v n xs) (c:Nat):(Builtin.append_ #[t,t] ty #[v,.slice none 0 c]).run P w = .ok v w:=by
 rcases hown.2 with ⟨rfl,rfl⟩ | ⟨g,cap,cur,rfl,_,_,hnc,_⟩
 ·simp [Builtin.append_,run_underlying ht,sizeOf,typeInfo,hi,Builtin.lenOf,Builtin.firstCells]
 ·simp [Builtin.append_,run_underlying ht,sizeOf,typeInfo,hi,Builtin.lenOf,Builtin.firstCells,hnc,storeCells]
theorem run_app (base:Nat) (t ty e:TypeId) (i:TypeInfo) (z:Value) (size bytes:Nat) (ht:P.underlying t = some (.slice e)) (hi:P.info? e = some i) (hz:i.zero = some z)
  (hsize:i.size = size) (hby:i.bytes = bytes) (hzs:z.cells.size = size) (hsz:0 < size)
  (v:Value) (n:Nat) (xs:List Value) (hown:w.ownsRow base e size v n xs)
  (A:Option Addr) (m c:Nat) (news:List Value) (hl:news.length = m * size) (hsrc:∀ ad,A = some ad->∀ j u,news[j]? = some u->w.cell? (ad.add j) = some u) (hA:A = none->m = 0) (h1:∀ u∈news,u.oneCell' = true)
  (h63:n + m<=maxLen) (hbytes:(n + m) * bytes<=140737488355328) (hbase:base<=w.heap.size) :
  ∃ v' w',(Builtin.append_ #[t,t] ty #[v,.slice A m c]).run P w = .ok v' w'/\w'.ownsRow base e size v' (n + m) (xs ++ news)/\w.grownBy w' v.ownBlock /\
   (v'.ownBlock = v.ownBlock\/v'.ownBlock = some w.heap.size):=by
 rcases A with _ | ad
 ·have hm:=hA rfl
  subst hm
  have hn:news = []:=List.eq_nil_of_length_eq_zero (by simpa using hl)
  subst hn
  exact ⟨v,w,Zqk w base t ty e i size ht hi v n xs hown c,by simpa using hown,⟨rfl,rfl,rfl,Nat.le_refl _,fun _ _ _=>rfl⟩,.inl rfl⟩
 ·obtain ⟨v',w',hrun,h2,h3,_,h5⟩:=run_append_own_at (P:=P) w base t ty e i z size bytes ht hi hz hsize hby hzs hsz v n xs hown ad m c news hl (hsrc ad rfl) h1 h63 hbytes hbase
  exact ⟨v',w',hrun,h2,h3,h5⟩
theorem wp_app {o:Oper} {a:Act} {K:Act->World->Prop} {Q:Exit->Act->World->Prop} (s x:Operand) (t:TypeId)
  (ho:o.op = .call { callee:=.builtin .append,args:=#[s,x],argTypes:=#[t,t] })
  (base:Nat) (e:TypeId) (i:TypeInfo) (z:Value) (size bytes:Nat) (ht:P.underlying t = some (.slice e)) (hi:P.info? e = some i) (hz:i.zero = some z)
  (hsize:i.size = size) (hby:i.bytes = bytes) (hzs:z.cells.size = size) (hsz:0 < size)
  (v:Value) (n:Nat) (xs:List Value) (hs:a.eval s = v) (hown:w.ownsRow base e size v n xs)
  (A:Option Addr) (m c:Nat) (news:List Value) (hx:a.eval x = .slice A m c) (hl:news.length = m * size) (hsrc:∀ ad,A = some ad->∀ j u,news[j]? = some u->w.cell? (ad.add j) = some u) (hA:A = none->m = 0) (h1:∀ u∈news,u.oneCell' = true)
  (h63:n + m<=maxLen) (hbytes:(n + m) * bytes<=140737488355328) (hbase:base<=w.heap.size)
  (h:∀ v' w',w'.ownsRow base e size v' (n + m) (xs ++ news)->w.grownBy w' v.ownBlock->(v'.ownBlock = v.ownBlock\/v'.ownBlock = some w.heap.size)->K (a.put o.dst v') w'):o.wp P a w K Q:=by
 obtain ⟨v',w',hrun,h2,h3,h4⟩:=run_app (P:=P) w base t o.type e i z size bytes ht hi hz hsize hby hzs hsz v n xs hown A m c news hl hsrc hA h1 h63 hbytes hbase
 unfold Oper.wp execOp
 simp only [ho,resolve,invoke,builtin,Sem.run_bind,Sem.run_pure,Result.andThen_ok,List.map_toArray,List.map_cons,List.map_nil,hs,hx,hrun]
 exact h v' w' h2 h3 h4
theorem Zbx {ops:Array Oper} {rest:List Oper} {o:Oper} {a:Act} {Q:Exit->Act->World->Prop} (hgd:o.guard = none) (s x:Operand) (t:TypeId)
  (ho:o.op = .call { callee:=.builtin .append,args:=#[s,x],argTypes:=#[t,t] })
  (base:Nat) (e:TypeId) (i:TypeInfo) (z:Value) (size bytes:Nat) (ht:P.underlying t = some (.slice e)) (hi:P.info? e = some i) (hz:i.zero = some z)
  (hsize:i.size = size) (hby:i.bytes = bytes) (hzs:z.cells.size = size) (hsz:0 < size)
  (v:Value) (n:Nat) (xs:List Value) (hs:a.eval s = v) (hown:w.ownsRow base e size v n xs)
  (A:Option Addr) (m c:Nat) (news:List Value) (hx:a.eval x = .slice A m c) (hl:news.length = m * size) (hsrc:∀ ad,A = some ad->∀ j u,news[j]? = some u->w.cell? (ad.add j) = some u) (hA:A = none->m = 0) (h1:∀ u∈news,u.oneCell' = true)
  (h63:n + m<=maxLen) (hbytes:(n + m) * bytes<=140737488355328) (hbase:base<=w.heap.size)
  (h:∀ v' w',w'.ownsRow base e size v' (n + m) (xs ++ news)->w.grownBy w' v.ownBlock->(v'.ownBlock = v.ownBlock\/v'.ownBlock = some w.heap.size)->wpList P ops Q rest (a.put o.dst v') w'):wpList P ops Q (o :: rest) a w:=
 wpList_plain hgd fun _ hK=>wp_app w s x t ho base e i z size bytes ht hi hz hsize hby hzs hsz v n xs hs hown A m c news hx hl hsrc hA h1 h63 hbytes hbase fun v' w' h2 h3 h4=>hK _ _ (h v' w' h2 h3 h4)
end
theorem Zdl {w:World} {a:Option Addr} {cap:Nat} {l:List Int} {fp:List Nat} (h:IntsA w a cap l fp) :
  (∀ ad,a = some ad->∀ j u,(l.map (Value.int .i64))[j]? = some u->w.cell? (ad.add j) = some u)/\(a = none->l.length = 0):=by
 constructor
 ·intro ad ha j u hu
  have hj:j < l.length:=by
   have:=(List.getElem?_eq_some_iff.1 hu).1;simpa using this
  obtain ⟨b,off,ha',-,hc⟩:=h.at_ j hj
  rw [ha] at ha';injection ha' with ha';subst ha'
  have hadd:(⟨b,off,none⟩:Addr).add j = ⟨b,off + j,none⟩:=by unfold Addr.add;split <;> simp_all
  rw [hadd,hc]
  simpa [hj] using hu
 ·intro ha
  rcases Nat.eq_zero_or_pos l.length with h0 | h0
  ·exact h0
  ·obtain ⟨b,off,ha',-,-⟩:=h.at_ 0 h0
   rw [ha] at ha';cases ha'
theorem Zef (l:List Int):∀ u∈l.map (Value.int .i64),u.oneCell' = true:=by
 intro u hu
 obtain ⟨x,-,rfl⟩:=List.mem_map.1 hu
 rfl
set_option maxHeartbeats 400000 in
theorem Zbc (v:Value) (l:List Int) (fp:List Nat) (w:World) (h:Rd w v l fp) (hl:l.length<=1073741824) :
  Calls Tryz.prog 100 #[v] w fun e w'=>∃ v fp',e = .returned v/\Rd w' v l fp'/\Fresh w.heap.size w' fp'/\Only [] w w':=by
 obtain ⟨a,cap,rfl,hI⟩:=h.ints
 obtain ⟨i0,hi,hz0,hz1,hz2⟩:=info_parts Tryz.info2
 obtain ⟨q1,q2⟩:=Zdl (hI.keep ((Only.refl _ w).alloc (.cells #[] 2)))
 go_enter Tryz.func100,Tryz.ntmps100
 go_wp2_with (at_builtin;refine Zbx _ rfl _ _ 27 rfl w.heap.size 2 i0 _ 1 8 Tryz.underlying27 hi hz0 hz1 hz2 rfl (by omega) (.slice (some ⟨w.heap.size,0,none⟩) 0 0) 0 [] rfl (World.ownsRow_made w #[] 0 (Nat.le_refl _) (by unfold maxLen;omega) rfl) a l.length cap (l.map (Value.int .i64)) rfl (by simp) q1 q2 (Zef l) (by unfold maxLen;omega) (by omega) (by simp) ?_;intro v1 w1 hO hg hb)
 rw [Nat.zero_add,List.nil_append] at hO
 obtain ⟨a',cap',hv,-,hI',hF⟩:=Zba hO hI.wf
 have Hv:=zH hv
 have hK:Only [] w w1:=(zO.alloc _).grown hg (by simp [Value.ownBlock])
 clear hO hg hb hv q1 q2
 go_wp2
 go_ret
 refine ⟨_,_,rfl,?_,hF,hK⟩
 have hr:=hI'.rd
 rw [<- Hv.out] at hr;exact hr
def idxF {α:Type} (pr:α->Bool) (l:List α):Int:=match l.findIdx? pr with
 | some i=>i
 | none=>-1
theorem Zel {α:Type} {pr:α->Bool} {l:List α} {j:Nat} (hj:j < l.length) (h:∀ x∈l.take j,pr x = false) (hp:pr l[j] = true):idxF pr l = j:=by
 have:l.findIdx? pr = some j:=by
  rw [List.findIdx?_eq_some_iff_getElem]
  refine ⟨hj,hp,fun i hi=>?_⟩
  have:=h l[i] (by rw [List.mem_take_iff_getElem];exact ⟨i,by omega,rfl⟩)
  simp [this]
 unfold idxF;rw [this]
theorem Zfw {α:Type} {pr:α->Bool} {l:List α} (h:∀ x∈l,pr x = false):idxF pr l = -1:=by
 have:l.findIdx? pr = none:=by
  rw [List.findIdx?_eq_none_iff];intro x hx;simp [h x hx]
 unfold idxF;rw [this]
theorem idxF_ge {α:Type} {pr:α->Bool} {l:List α}:decide (0<=idxF pr l) = l.any pr:=by
 unfold idxF
 cases h:l.findIdx? pr with
 | some i=>
  have hh:=(List.findIdx?_eq_some_iff_getElem.1 h)
  obtain ⟨hi,hp,-⟩:=hh
  have:l.any pr = true:=List.any_eq_true.2 ⟨_,List.getElem_mem hi,hp⟩
  rw [this];simp
 | none=>
  rw [List.findIdx?_eq_none_iff] at h
  have:l.any pr = false:=by rw [List.any_eq_false];intro x hx;simp [h x hx]
  rw [this];simp
set_option maxHeartbeats 400000 in
theorem Zlv (f:FuncId) (caps:Array Value) (pr:Int->Bool) (hcf:∀ args w,(callFunc f args).run Tryz.prog w = .ok (.enter f args) w)
  (v:Value) (l:List Int) (fp:List Nat) (w:World) (h:Rd w v l fp)
  (hc:∀ x∈l,∀ w',Only [] w w'->Calls Tryz.prog f (#[.int .i64 x] ++ caps) w' fun e w''=>e = .returned (.bool (pr x))/\Only [] w' w'') :
  Calls Tryz.prog 170 #[v,.func (.func f) #[] caps] w fun e w'=>e = .returned (.int .i64 (idxF pr l))/\Only [] w w':=by
 obtain ⟨a,cap,rfl,hI⟩:=h.ints
 have hb:=hI.bound
 have HC:=zH hc
 clear hc
 go_enter Tryz.func170,Tryz.ntmps170
 go_wp2
 go_loopw [5,8] (fun i t wr=>∃ j:Nat,j<=l.length/\t = .int .i64 j/\(∀ x∈l.take j,pr x = false)/\Only [] w wr)
  (fun _ t _=>l.length - (intOf t).toNat)
 case atStart=>exact ⟨0,Nat.zero_le _,rfl,by simp,Only.refl _ _⟩
 case round=>
  obtain ⟨j,hj,rfl,hr,hK⟩:=hrel
  have Hr:=zH hr;clear hr
  by_cases hlt:j < l.length
  ·obtain ⟨b,off,rfl,-,hc0⟩:=hI.at_ j hlt
   have hc:=hK.cell (by simp) hc0
   clear hc0
   rcases hp:pr l[j]
   all_goals go_wp2_with (with_reducible refine (HC.out l[j] (List.getElem_mem _) wr hK).mono ?_;rintro e w1 ⟨rfl,hk1⟩)
   ·go_roundw
    case rel=>exact ⟨j + 1,by omega,by go_num,by
     rw [Zab l j hlt];intro x hx
     rcases List.mem_append.1 hx with hx | hx
     ·exact Hr.out x hx
     ·simp at hx;subst hx;exact hp,hK.trans hk1⟩
    case measure=>simp [intOf];omega
   ·go_ret
    exact ⟨ret_int (Zel hlt Hr.out hp).symm,hK.trans hk1⟩
  ·go_wp2
   go_ret
   exact ⟨ret_int (Zfw (by have:=Hr.out;rwa [List.take_of_length_le (by omega)] at this)).symm,hK⟩
def inR (x lo hi:Int):Bool:=decide (lo<=x) && decide (x<=hi)
theorem inR_iff {x lo hi:Int}:inR x lo hi = true ↔ lo<=x/\x<=hi:=by simp [inR]
theorem inR_not {x lo hi:Int}:inR x lo hi = false ↔ ¬ (lo<=x/\x<=hi):=by rw [<- inR_iff];simp
theorem Zaj (x lo hi:Int) (w:World) :
  Calls Tryz.prog 53 #[.int .i64 x,.int .i64 lo,.int .i64 hi] w fun e w'=>e = .returned (.bool (inR x lo hi))/\w' = w:=by
 by_cases h1:lo<=x
 ·by_cases h2:x<=hi
  ·go_enter Tryz.func53,Tryz.ntmps53
   go_wp2
   go_ret
   exact ⟨Zaa (by simp [inR,h1,h2]),rfl⟩
  ·go_enter Tryz.func53,Tryz.ntmps53
   go_wp2
   go_ret
   exact ⟨Zaa (by simp [inR,h2]),rfl⟩
 ·go_enter Tryz.func53,Tryz.ntmps53
  go_wp2
  go_ret
  exact ⟨Zaa (by simp [inR];omega),rfl⟩
theorem Zai (x lo hi:Int) (w:World) :
  Calls Tryz.prog 50 #[.int .i64 x,.int .i64 lo,.int .i64 hi] w fun e w'=>e = .returned (.bool (inR x lo hi))/\w' = w:=by
 by_cases h1:lo<=x
 ·by_cases h2:x<=hi
  ·go_enter Tryz.func50,Tryz.ntmps50
   go_wp2
   go_ret
   exact ⟨Zaa (by simp [inR,h1,h2]),rfl⟩
  ·go_enter Tryz.func50,Tryz.ntmps50
   go_wp2
   go_ret
   exact ⟨Zaa (by simp [inR,h2]),rfl⟩
 ·go_enter Tryz.func50,Tryz.ntmps50
  go_wp2
  go_ret
  exact ⟨Zaa (by simp [inR];omega),rfl⟩
def okLetter (g x:Int):Bool:=decide (x ≠ 0) && inR x (-(min g 8)) (min g 8)
def validW (g:Int) (l:List Int):Bool:=decide (l.length<=200) && l.all (okLetter g)
theorem Zea {g x:Int}:okLetter g x = true ↔ x ≠ 0/\-(min g 8)<=x/\x<=min g 8:=by simp [okLetter,inR_iff]
theorem Zcu {g x:Int}:okLetter g x = false ↔ ¬ (x ≠ 0/\-(min g 8)<=x/\x<=min g 8):=by rw [<- Zea];simp
theorem Zgb {g:Int} {l:List Int} {j:Nat} (hj:j < l.length) (h:okLetter g l[j] = false):validW g l = false:=by
 unfold validW
 have:l.all (okLetter g) = false:=by
  rw [List.all_eq_false];exact ⟨l[j],List.getElem_mem _,by simp [h]⟩
 rw [this];simp
theorem Zgs {g:Int} {l:List Int} (h:200 < l.length):validW g l = false:=by
 unfold validW
 have:decide (l.length<=200) = false:=by simp;omega
 rw [this];rfl
theorem Zrt {g:Int} {l:List Int} (h:l.length<=200) (h2:∀ x∈l,okLetter g x = true):validW g l = true:=by
 unfold validW
 simp only [h,decide_true,Bool.true_and,List.all_eq_true]
 exact h2
theorem Zex {g:Int} {l:List Int} (h:validW g l = true):l.length<=200:=by
 unfold validW at h;simp at h;exact h.1
theorem Zua {pr:Int->Bool} {l:List Int} {j:Nat} (hj:j < l.length) (h:∀ x∈l.take j,pr x = true) (hp:pr l[j] = true):∀ x∈l.take (j + 1),pr x = true:=by
 rw [Zab l j hj];intro x hx
 rcases List.mem_append.1 hx with hx | hx
 ·exact h x hx
 ·simp at hx;subst hx;exact hp
set_option maxHeartbeats 1000000 in
theorem Zgk (g:Int) (v:Value) (l:List Int) (fp:List Nat) (w:World) (h:Rd w v l fp) (g0:0<=g) (g1:g<=4611686018427387904) :
  Calls Tryz.prog 78 #[.int .i64 g,v] w fun e w'=>e = .returned (.bool (validW g l))/\Drew w w':=by
 obtain ⟨a,cap,rfl,hI⟩:=h.ints
 have hb:=hI.bound
 by_cases hlen:200 < l.length
 ·go_enter Tryz.func78,Tryz.ntmps78
  go_wp2
  go_ret
  exact ⟨Zaa (Zgs hlen).symm,Drew.refl _⟩
 go_enter Tryz.func78,Tryz.ntmps78
 go_wp2
 go_loopw [5] (fun i wr=>∃ j:Nat,j<=l.length/\i = .int .i64 j/\(∀ x∈l.take j,okLetter g x = true)/\Drew w wr)
  (fun i _=>l.length - (intOf i).toNat)
 case atStart=>exact ⟨0,Nat.zero_le _,rfl,by simp,Drew.refl _⟩
 case round=>
  obtain ⟨j,hj,rfl,hr,n,rfl⟩:=hrel
  have Hr:=zH hr;clear hr
  by_cases hlt:j < l.length
  ·obtain ⟨b,off,rfl,-,hc⟩:=hI.at_ j hlt
   generalize hx:l[j] = x at *
   have Hx:=zH hx
   clear hx
   by_cases c0:x = 0
   ·have t0:(x == 0) = true:=by simpa using c0
    have C0:=zH c0;clear c0
    go_wp2
    go_ret
    exact ⟨Zaa (Zgb hlt (by rw [Hx.out,Zcu];exact fun hh=>hh.1 C0.out)).symm,⟨_,rfl⟩⟩
   have t0:(x == 0) = false:=by simpa using c0
   have C0:=zH c0;clear c0
   rcases c1:inR x (-8) 8
   ·go_wp2_with ((go_at_call 53;(with_reducible refine (Zaj x (-8) 8 _).mono ?_);rintro e w1 ⟨rfl,rfl⟩))
    go_ret
    exact ⟨Zaa (Zgb hlt (by rw [Hx.out,Zcu];rw [inR_not] at c1;omega)).symm,⟨_,rfl⟩⟩
   have c2:=inR_iff.1 c1
   obtain ⟨c2,c3⟩:=c2
   by_cases c4:g < x
   ·go_wp2_with ((go_at_call 53;(with_reducible refine (Zaj x (-8) 8 _).mono ?_);rintro e w1 ⟨rfl,rfl⟩))
    go_ret
    exact ⟨Zaa (Zgb hlt (by rw [Hx.out,Zcu];omega)).symm,⟨_,rfl⟩⟩
   by_cases c5:g < -x
   ·go_wp2_with ((go_at_call 53;(with_reducible refine (Zaj x (-8) 8 _).mono ?_);rintro e w1 ⟨rfl,rfl⟩))
    go_ret
    exact ⟨Zaa (Zgb hlt (by rw [Hx.out,Zcu];omega)).symm,⟨_,rfl⟩⟩
   go_wp2_with ((go_at_call 53;(with_reducible refine (Zaj x (-8) 8 _).mono ?_);rintro e w1 ⟨rfl,rfl⟩))
   go_roundw
   case rel=>exact ⟨j + 1,by omega,by go_num,Zua hlt Hr.out (by rw [Hx.out,Zea];exact ⟨C0.out,by omega,by omega⟩),⟨_,rfl⟩⟩
   case measure=>simp [intOf];omega
  ·go_wp2
   go_ret
   exact ⟨Zaa (Zrt (by omega) (by have:=Hr.out;rwa [List.take_of_length_le (by omega)] at this)).symm,⟨_,rfl⟩⟩
theorem Zcl (v:Value) (l:List Int) (fp:List Nat) (w:World) (h:Rd w v l fp) :
  Calls Tryz.prog 98 #[v] w fun e w'=>e = .returned (.bool (validW 8 l))/\Drew w w':=by
 go_enter Tryz.func98,Tryz.ntmps98
 go_wp2_with ((go_at_call 78;(with_reducible refine (Zgk 8 v l _ _ h (by omega) (by omega)).mono ?_);rintro e w1 ⟨rfl,n1,rfl⟩))
 go_ret
 exact ⟨rfl,⟨_,rfl⟩⟩
set_option maxHeartbeats 1000000 in
theorem Zee (x m:Int) (m0:0<=m) (m1:m<=8) (b:Nat) (w:World) (hc:w.cell? ⟨b,0,none⟩ = some (.int .i64 m)) :
  Calls Tryz.prog 212 #[.int .i64 x,.pointer (some ⟨b,0,none⟩)] w fun e w'=>e = .returned (.bool (!okLetter m x))/\Only [] w w':=by
 by_cases c0:x = 0
 ·have t0:(x == 0) = true:=by simpa using c0
  have C0:=zH c0;clear c0
  go_enter Tryz.func212,Tryz.ntmps212
  go_wp2
  go_ret
  exact ⟨Zaa (by have:okLetter m x = false:=(by rw [Zcu];exact fun hh=>hh.1 C0.out);rw [this];rfl),Only.refl _ _⟩
 have t0:(x == 0) = false:=by simpa using c0
 have C0:=zH c0;clear c0
 go_enter Tryz.func212,Tryz.ntmps212
 go_wp2_with ((go_at_call 50;(with_reducible refine (Zai x (-m) m _).mono ?_);rintro e w1 ⟨rfl,rfl⟩))
 go_ret
 refine ⟨Zaa ?_,Only.refl _ _⟩
 have h1:min m 8 = m:=by omega
 have:=C0.out
 simp [okLetter,h1,this]
set_option maxHeartbeats 400000 in
theorem Zet (f:FuncId) (caps:Array Value) (pr:Int->Bool) (hcf:∀ args w,(callFunc f args).run Tryz.prog w = .ok (.enter f args) w)
  (v:Value) (l:List Int) (fp:List Nat) (w:World) (h:Rd w v l fp)
  (hc:∀ x∈l,∀ w',Only [] w w'->Calls Tryz.prog f (#[.int .i64 x] ++ caps) w' fun e w''=>e = .returned (.bool (pr x))/\Only [] w' w'') :
  Calls Tryz.prog 176 #[v,.func (.func f) #[] caps] w fun e w'=>e = .returned (.bool (l.any pr))/\Only [] w w':=by
 have HC:=zH hc
 clear hc
 go_enter Tryz.func176,Tryz.ntmps176
 go_wp2_with ((go_at_call 170;(with_reducible refine (Zlv f caps pr hcf v l _ w h HC.out).mono ?_);rintro e w1 ⟨rfl,hk⟩))
 go_ret
 exact ⟨Zaa idxF_ge,hk⟩
set_option maxHeartbeats 400000 in
theorem Zmx (g:Int) (v:Value) (l:List Int) (fp:List Nat) (w:World) (h:Rd w v l fp) (g0:0<=g) (g1:g<=4611686018427387904) :
  Calls Tryz.prog 154 #[.int .i64 g,v] w fun e w'=>e = .returned (.bool (validW g l))/\Only [] w w':=by
 obtain ⟨a,cap,rfl,hI⟩:=h.ints
 have hb:=hI.bound
 by_cases hlen:200 < l.length
 ·by_cases h8:g<=8
  ·go_enter Tryz.func154,Tryz.ntmps154
   go_wp2
   go_ret
   exact ⟨Zaa (Zgs hlen).symm,zA⟩
  ·go_enter Tryz.func154,Tryz.ntmps154
   go_wp2
   go_ret
   exact ⟨Zaa (Zgs hlen).symm,zA⟩
 have hend:∀ m,m = min g 8->(!(l.any fun x=>!okLetter m x)) = validW g l:=by
  intro m hm
  have he:okLetter m = okLetter g:=by
   funext x;unfold okLetter;rw [hm];have:min (min g 8) 8 = min g 8:=by omega
   rw [this]
  unfold validW
  rw [he,List.not_any_eq_all_not]
  have h1:decide (l.length<=200) = true:=by simp;omega
  rw [h1,Bool.true_and]
  simp
 have HE:=zH hend
 clear hend
 by_cases h8:g<=8
 ·have Hc:=zH (Zet 212 #[.pointer (some ⟨w.heap.size,0,none⟩)] (fun x=>!okLetter g x) Tryz.call212 (.slice a l.length cap) l fp (w.alloc (.cells #[.int .i64 g] 2)) (zK h zA)
   (fun x _ w' hw=>Zee x g g0 h8 w.heap.size w' (hw.cell (by simp) (by simp))))
  go_enter Tryz.func154,Tryz.ntmps154
  go_wp2_with ((go_at_call 176;(with_reducible refine (Hc.out).mono ?_);rintro e w1 ⟨rfl,hk⟩))
  go_ret
  exact ⟨Zaa (HE.out g (by omega)),zA⟩
 ·have Hc:=zH (Zet 212 #[.pointer (some ⟨w.heap.size,0,none⟩)] (fun x=>!okLetter 8 x) Tryz.call212 (.slice a l.length cap) l fp (w.alloc (.cells #[.int .i64 8] 2)) (zK h zA)
   (fun x _ w' hw=>Zee x 8 (by omega) (by omega) w.heap.size w' (hw.cell (by simp) (by simp))))
  go_enter Tryz.func154,Tryz.ntmps154
  go_wp2_with ((go_at_call 176;(with_reducible refine (Hc.out).mono ?_);rintro e w1 ⟨rfl,hk⟩))
  go_ret
  exact ⟨Zaa (HE.out 8 (by omega)),zA⟩
theorem Zcm (v:Value) (l:List Int) (fp:List Nat) (w:World) (h:Rd w v l fp) :
  Calls Tryz.prog 90 #[v] w fun e w'=>e = .returned (.bool (validW 8 l))/\Only [] w w':=by
 go_enter Tryz.func90,Tryz.ntmps90
 go_wp2_with ((go_at_call 154;(with_reducible refine (Zmx 8 v l _ _ h (by omega) (by omega)).mono ?_);rintro e w1 ⟨rfl,hk⟩))
 go_ret
 exact ⟨rfl,hk⟩
structure Acc {α:Type} [Rp α] (B:Nat) (e:TypeId) (w:World) (v:Value) (l:List α) (fs:List (List Nat)):Prop where
 own:∃ css:List (List Value),w.ownsRow B e (Rp.size α) v l.length css.flatten/\css.length = l.length/\∀ k (h1:k < css.length) (h2:k < l.length) (h3:k < fs.length),Rp.rep w css[k] l[k] fs[k]
 fl:fs.length = l.length
 apart:∀ g,v.ownBlock = some g->g ∉ fs.flatten
section
variable {α:Type} [Rp α] {w w':World} {B:Nat} {e:TypeId} {v:Value} {l:List α} {fs:List (List Nat)}
theorem Acc.own_ne {g:Nat} (h:Acc B e w v l fs) (hg:w.heap.size<=g):g ∉ v.ownBlock.toList:=by
 intro hm
 have:v.ownBlock = some g:=by simpa using hm
 obtain ⟨css,ho,-,-⟩:=h.own
 have:=(ho.lt g this).2
 omega
theorem Acc.nil (w:World) (B:Nat) (e:TypeId):Acc B e w (.slice none 0 0) ([]:List α) []:=
 ⟨⟨[],World.ownsRow_nil w B e _,rfl,by simp⟩,rfl,by simp⟩
theorem Acc.made (w:World) (B:Nat) (e:TypeId) {g:Nat} (hg:g = w.heap.size) (hB:B<=g):Acc B e (w.alloc (.cells #[] e)) (.slice (some ⟨g,0,none⟩) 0 0) ([]:List α) []:=by
 subst hg
 exact ⟨⟨[],World.ownsRow_made w #[] 0 hB (by unfold maxLen;omega) (by simp),rfl,by simp⟩,rfl,by simp⟩
theorem Acc.lt (h:Acc B e w v l fs):∀ b∈fs.flatten,b < w.heap.size:=by
 intro b hb
 obtain ⟨f,hf,hb⟩:=List.mem_flatten.1 hb
 obtain ⟨k,hk,rfl⟩:=List.getElem_of_mem hf
 obtain ⟨css,-,hcl,hr⟩:=h.own
 have:=h.fl
 exact Rp.lt (hr k (by omega) (by omega) hk) b hb
theorem Acc.ownlt (h:Acc B e w v l fs):∀ g,v.ownBlock = some g->B<=g/\g < w.heap.size:=by
 obtain ⟨css,ho,-,-⟩:=h.own
 exact ho.lt
theorem Acc.only {fp:List Nat} (h:Acc B e w v l fs) (ho:Only fp w w') (hd:∀ b∈fs.flatten,b ∉ fp) (hv:∀ g,v.ownBlock = some g->g ∉ fp):Acc B e w' v l fs:=by
 obtain ⟨css,hr,hcl,hre⟩:=h.own
 refine ⟨⟨css,?_,hcl,fun k h1 h2 h3=>Rp.only (hre k h1 h2 h3) ho fun b hb hm=>hd b (List.mem_flatten.2 ⟨_,List.getElem_mem _,hb⟩) hm⟩,h.fl,h.apart⟩
 refine ⟨hr.1,?_⟩
 rcases hr.2 with ⟨rfl,h0⟩ | ⟨g,cp,cur,rfl,hb,hg,hrest⟩
 ·exact .inl ⟨rfl,h0⟩
 ·exact .inr ⟨g,cp,cur,rfl,hb,by rw [ho.block g (Array.getElem?_eq_some_iff.1 hg).1 (hv g rfl)];exact hg,hrest⟩
theorem Acc.keep (h:Acc B e w v l fs) (ho:Only [] w w'):Acc B e w' v l fs:=h.only ho (by simp) (by simp)
theorem Acc.form (h:Acc B e w v l fs):∃ a c,v = .slice a l.length c:=by
 obtain ⟨css,ho,-,-⟩:=h.own
 rcases ho.2 with ⟨rfl,h0⟩ | ⟨g,cp,cur,rfl,-⟩
 ·exact ⟨none,0,by rw [h0]⟩
 ·exact ⟨_,_,rfl⟩
theorem Acc.rd (h:Acc B e w v l fs) (hs:0 < Rp.size α):Rd w v l (v.ownBlock.toList ++ fs.flatten):=by
 obtain ⟨css,ho,hcl,hr⟩:=h.own
 obtain ⟨a,c,hv,-,hI⟩:=own_seq (xs:=l) (fps:=fs) ho hs hcl h.fl hr
 have:=hI.rd
 rw [<- hv] at this;exact this
theorem Acc.fresh (h:Acc B e w v l fs) (hf:Fresh B w fs.flatten):Fresh B w (v.ownBlock.toList ++ fs.flatten):=by
 obtain ⟨css,ho,-,-⟩:=h.own
 have h1:=Zcg ho
 refine ⟨List.nodup_append.2 ⟨h1.nd,hf.nd,fun a ha b hb hab=>?_⟩,fun b hb=>?_,h1.own.append hf.own⟩
 ·subst hab
  have:v.ownBlock = some a:=by simpa using ha
  exact h.apart a this hb
 ·rcases List.mem_append.1 hb with hb | hb
  ·exact h1.ge b hb
  ·exact hf.ge b hb
end
theorem lit_src (w:World) (cs:List Value) (e:TypeId) {g:Nat} (hg:g = w.heap.size):∀ j u,cs[j]? = some u->(w.alloc (.cells cs.toArray e)).cell? ⟨g,j,none⟩ = some u:=by
 subst hg
 intro j u hu
 rw [cell_of_row _ _ _ _ _ _ (heap_alloc_new w _)]
 simpa using hu
section
variable {P:Program} {α:Type} [Rp α] {ops:Array Oper} {rest:List Oper} {o:Oper} {a:Act} {w:World} {Q:Exit->Act->World->Prop} {K:Act->World->Prop}
theorem wp_push (s x:Operand) (t:TypeId)
  (ho:o.op = .call { callee:=.builtin .append,args:=#[s,x],argTypes:=#[t,t] })
  (B:Nat) (e:TypeId) (i:TypeInfo) (z:Value) (bytes:Nat) (ht:P.underlying t = some (.slice e)) (hi:P.info? e = some i) (hz:i.zero = some z)
  (hsize:i.size = Rp.size α) (hby:i.bytes = bytes) (hzs:z.cells.size = Rp.size α) (hsz:0 < Rp.size α) (hbb:bytes<=65536)
  (w0:World) (v:Value) (l:List α) (fs:List (List Nat)) (hs:a.eval s = v) (hA:Acc B e w0 v l fs) (hK0:Only [] w0 w) (hB:B<=w0.heap.size)
  (g c:Nat) (cs:List Value) (y:α) (fp:List Nat) (hx:a.eval x = .slice (some ⟨g,0,none⟩) 1 c) (hsrc:∀ j u,cs[j]? = some u->w.cell? ⟨g,j,none⟩ = some u) (hcs:∀ u∈cs,u.oneCell' = true)
  (hy:Rp.rep w cs y fp) (hap:∀ b∈fp,v.ownBlock ≠ some b) (hlen:l.length + 1<=1073741824)
  (h:∀ v' w',Acc B e w' v' (l ++ [y]) (fs ++ [fp])->Only v.ownBlock.toList w w'->(∀ wz,Only [] wz w->wz.heap.size<=B->Only [] wz w') ->
   (Fresh B w0 fs.flatten->Fresh w0.heap.size w fp->Fresh B w' (fs ++ [fp]).flatten)->K (a.put o.dst v') w'):o.wp P a w K Q:=by
 obtain ⟨css,hown,hcl,hre⟩:=(hA.keep hK0).own
 have hcsl:cs.length = 1 * Rp.size α:=by rw [Nat.one_mul];exact Rp.len hy
 have hfl:=hA.fl
 have hbytes:(l.length + 1) * bytes<=140737488355328:=by
  have:=Nat.mul_le_mul hlen hbb;omega
 refine wp_app w s x t ho B e i z (Rp.size α) bytes ht hi hz hsize hby hzs hsz v l.length css.flatten hs hown (some ⟨g,0,none⟩) 1 c cs hx hcsl ?_ (by simp) hcs (by unfold maxLen;omega) hbytes (Nat.le_trans hB hK0.size) ?_
 ·intro ad had j u hu
  injection had with had;subst had
  have hadd:(⟨g,0,none⟩:Addr).add j = ⟨g,j,none⟩:=by unfold Addr.add;split <;> simp_all
  rw [hadd];exact hsrc j u hu
 intro v' w' hO hg hb
 have hW:Only v.ownBlock.toList w w':=zO.grown hg (by intro k hk _;simp [hk])
 have hlt:=(hA.keep hK0).lt
 have hap':∀ b∈fp,b ∉ v.ownBlock.toList:=fun b hb hm=>hap b hb (by simpa using hm)
 have hfs:∀ b∈fs.flatten,b ∉ v.ownBlock.toList:=fun b hb hm=>hA.apart b (by simpa using hm) hb
 refine h v' w' ⟨⟨css ++ [cs],?_,by simp [hcl],fun k h1 h2 h3=>?_⟩,by simp [hfl],?_⟩ hW ?_ ?_
 ·rw [List.length_append,List.flatten_append];simpa using hO
 ·by_cases hk:k < l.length
  ·rw [List.getElem_append_left (by rw [hcl];exact hk),List.getElem_append_left hk,List.getElem_append_left (by rw [hfl];exact hk)]
   exact Rp.only (hre k (by omega) hk (by omega)) hW fun b hb=>hfs b (List.mem_flatten.2 ⟨_,List.getElem_mem _,hb⟩)
  ·have:k = l.length:=by simp at h2;omega
   subst this
   rw [List.getElem_append_right (by rw [hcl];omega),List.getElem_append_right (by omega),List.getElem_append_right (by rw [hfl];omega)]
   simpa [hcl,hfl] using Rp.only hy hW hap'
 ·intro g' hg' hm
  rw [List.flatten_append] at hm
  simp only [List.flatten_cons,List.flatten_nil,List.append_nil] at hm
  rcases hb with hb | hb
  ·rw [hb] at hg'
   rcases List.mem_append.1 hm with hm | hm
   ·exact hA.apart g' hg' hm
   ·exact hap g' hm hg'
  ·rw [hb] at hg';injection hg' with hg';subst hg'
   rcases List.mem_append.1 hm with hm | hm
   ·exact absurd (hlt _ hm) (by omega)
   ·exact absurd (Rp.lt hy _ hm) (by omega)
 ·intro wz hz hzB
  refine hz.then_ hW fun b hm hb=>?_
  have hm':v.ownBlock = some b:=by simpa using hm
  have:=(hA.ownlt b hm').1
  omega
 ·intro hF hFy
  rw [List.flatten_append]
  simp only [List.flatten_cons,List.flatten_nil,List.append_nil]
  have hF':=(hF.keep hK0)
  refine ((Fresh.append hF' hFy hB fun b hb=>hF.lt b hb)).only hW fun b hm=>?_
  rcases List.mem_append.1 hm with hm | hm
  ·exact hfs b hm
  ·exact hap' b hm
theorem Zpw (s x:Operand) (t:TypeId)
  (ho:o.op = .call { callee:=.builtin .append,args:=#[s,x],argTypes:=#[t,t] })
  (B:Nat) (e:TypeId) (i:TypeInfo) (z:Value) (bytes:Nat) (ht:P.underlying t = some (.slice e)) (hi:P.info? e = some i) (hz:i.zero = some z)
  (hsize:i.size = Rp.size α) (hby:i.bytes = bytes) (hzs:z.cells.size = Rp.size α) (hsz:0 < Rp.size α) (hbb:bytes<=65536)
  (w0:World) (v:Value) (l:List α) (fs:List (List Nat)) (hs:a.eval s = v) (hA:Acc B e w0 v l fs) (hF:Fresh B w0 fs.flatten) (hK0:Only [] w0 w) (hB:B<=w0.heap.size)
  (g c:Nat) (cs:List Value) (y:α) (fp:List Nat) (hx:a.eval x = .slice (some ⟨g,0,none⟩) 1 c) (hsrc:∀ j u,cs[j]? = some u->w.cell? ⟨g,j,none⟩ = some u) (hcs:∀ u∈cs,u.oneCell' = true)
  (hy:Rp.rep w cs y fp) (hFy:Fresh w0.heap.size w fp) (hlen:l.length + 1<=1073741824) (wz:World) (hz0:Only [] wz w) (hzB:wz.heap.size<=B)
  (h:∀ v' w',Acc B e w' v' (l ++ [y]) (fs ++ [fp])->Fresh B w' (fs ++ [fp]).flatten->Only [] wz w'->Only v.ownBlock.toList w w'->K (a.put o.dst v') w'):o.wp P a w K Q:=
 wp_push s x t ho B e i z bytes ht hi hz hsize hby hzs hsz hbb w0 v l fs hs hA hK0 hB g c cs y fp hx hsrc hcs hy
  (fun b hb hv=>by have:=(hA.ownlt b hv).2;have:=hFy.ge b hb;omega) hlen fun v' w' h1 h2 h3 h4=>h v' w' h1 (h4 hF hFy) (h3 wz hz0 hzB) h2
theorem Zqy (hgd:o.guard = none) (s x:Operand) (t:TypeId)
  (ho:o.op = .call { callee:=.builtin .append,args:=#[s,x],argTypes:=#[t,t] })
  (B:Nat) (e:TypeId) (i:TypeInfo) (z:Value) (bytes:Nat) (ht:P.underlying t = some (.slice e)) (hi:P.info? e = some i) (hz:i.zero = some z)
  (hsize:i.size = Rp.size α) (hby:i.bytes = bytes) (hzs:z.cells.size = Rp.size α) (hsz:0 < Rp.size α) (hbb:bytes<=65536)
  (w0:World) (v:Value) (l:List α) (fs:List (List Nat)) (hs:a.eval s = v) (hA:Acc B e w0 v l fs) (hK0:Only [] w0 w) (hB:B<=w0.heap.size)
  (g c:Nat) (cs:List Value) (y:α) (fp:List Nat) (hx:a.eval x = .slice (some ⟨g,0,none⟩) 1 c) (hsrc:∀ j u,cs[j]? = some u->w.cell? ⟨g,j,none⟩ = some u) (hcs:∀ u∈cs,u.oneCell' = true)
  (hy:Rp.rep w cs y fp) (hap:∀ b∈fp,v.ownBlock ≠ some b) (hlen:l.length + 1<=1073741824)
  (h:∀ v' w',Acc B e w' v' (l ++ [y]) (fs ++ [fp])->Only v.ownBlock.toList w w'->(∀ wz,Only [] wz w->wz.heap.size<=B->Only [] wz w') ->
   (Fresh B w0 fs.flatten->Fresh w0.heap.size w fp->Fresh B w' (fs ++ [fp]).flatten)->wpList P ops Q rest (a.put o.dst v') w'):wpList P ops Q (o :: rest) a w:=
 wpList_plain hgd fun _ hK=>wp_push s x t ho B e i z bytes ht hi hz hsize hby hzs hsz hbb w0 v l fs hs hA hK0 hB g c cs y fp hx hsrc hcs hy hap hlen fun v' w' h1 h2 h3 h4=>hK _ _ (h v' w' h1 h2 h3 h4)
theorem Zah (hgd:o.guard = none) (s x:Operand) (t:TypeId)
  (ho:o.op = .call { callee:=.builtin .append,args:=#[s,x],argTypes:=#[t,t] })
  (B:Nat) (e:TypeId) (i:TypeInfo) (z:Value) (bytes:Nat) (ht:P.underlying t = some (.slice e)) (hi:P.info? e = some i) (hz:i.zero = some z)
  (hsize:i.size = Rp.size α) (hby:i.bytes = bytes) (hzs:z.cells.size = Rp.size α) (hsz:0 < Rp.size α) (hbb:bytes<=65536)
  (w0:World) (v:Value) (l:List α) (fs:List (List Nat)) (hs:a.eval s = v) (hA:Acc B e w0 v l fs) (hF:Fresh B w0 fs.flatten) (hK0:Only [] w0 w) (hB:B<=w0.heap.size)
  (g c:Nat) (cs:List Value) (y:α) (fp:List Nat) (hx:a.eval x = .slice (some ⟨g,0,none⟩) 1 c) (hsrc:∀ j u,cs[j]? = some u->w.cell? ⟨g,j,none⟩ = some u) (hcs:∀ u∈cs,u.oneCell' = true)
  (hy:Rp.rep w cs y fp) (hFy:Fresh w0.heap.size w fp) (hlen:l.length + 1<=1073741824) (wz:World) (hz0:Only [] wz w) (hzB:wz.heap.size<=B)
  (h:∀ v' w',Acc B e w' v' (l ++ [y]) (fs ++ [fp])->Fresh B w' (fs ++ [fp]).flatten->Only [] wz w'->Only v.ownBlock.toList w w'->wpList P ops Q rest (a.put o.dst v') w'):wpList P ops Q (o :: rest) a w:=
 wpList_plain hgd fun _ hK=>Zpw s x t ho B e i z bytes ht hi hz hsize hby hzs hsz hbb w0 v l fs hs hA hF hK0 hB g c cs y fp hx hsrc hcs hy hFy hlen wz hz0 hzB fun v' w' h1 h2 h3 h4=>hK _ _ (h v' w' h1 h2 h3 h4)
theorem Zew {E:Prop} (hgd:o.guard = none) (s x:Operand) (t:TypeId)
  (ho:o.op = .call { callee:=.builtin .append,args:=#[s,x],argTypes:=#[t,t] })
  (B:Nat) (e:TypeId) (i:TypeInfo) (z:Value) (bytes:Nat) (ht:P.underlying t = some (.slice e)) (hi:P.info? e = some i) (hz:i.zero = some z)
  (hsize:i.size = Rp.size α) (hby:i.bytes = bytes) (hzs:z.cells.size = Rp.size α) (hsz:0 < Rp.size α) (hbb:bytes<=65536)
  (w0:World) (v:Value) (l:List α) (fs:List (List Nat)) (hs:a.eval s = v) (hA:Acc B e w0 v l fs) (hF:Fresh B w0 fs.flatten) (hK0:Only [] w0 w) (hB:B<=w0.heap.size)
  (g c:Nat) (cs:List Value) (y:α) (fp:List Nat) (hx:a.eval x = .slice (some ⟨g,0,none⟩) 1 c) (hsrc:∀ j u,cs[j]? = some u->w.cell? ⟨g,j,none⟩ = some u) (hcs:∀ u∈cs,u.oneCell' = true)
  (hy:Rp.rep w cs y fp) (hFy:Fresh w0.heap.size w fp) (hlen:l.length + 1<=1073741824) (wz:World) (hz0:Only [] wz w) (hzB:wz.heap.size<=B)
  (h:∀ v' w',Acc B e w' v' (l ++ [y]) (fs ++ [fp])->Fresh B w' (fs ++ [fp]).flatten->Only [] wz w'->Only v.ownBlock.toList w w'->K (a.put o.dst v') w'):if Region.wanted o (yielded ops a.tmps) = true then Oper.wp P o a w K Q else E:=by
 rw [if_pos (by simp [Region.wanted,hgd])]
 exact Zpw s x t ho B e i z bytes ht hi hz hsize hby hzs hsz hbb w0 v l fs hs hA hF hK0 hB g c cs y fp hx hsrc hcs hy hFy hlen wz hz0 hzB h
end
set_option maxHeartbeats 400000 in
theorem Zdm (v:Value) (l:List Int) (fp:List Nat) (w:World) (h:Rd w v l fp) (hl:l.length<=1073741824) :
  Calls Tryz.prog 92 #[v] w fun e w'=>∃ v fp',e = .returned v/\Rd w' v l fp'/\Fresh w.heap.size w' fp'/\Only [] w w':=by
 obtain ⟨a,cap,rfl,hI⟩:=h.ints
 rcases a with _ | ad
 ·have h0:l.length = 0:=(Zdl hI).2 rfl
  have:l = []:=List.eq_nil_of_length_eq_zero h0
  subst this
  have hnil:=fun W=>Lib.run_eql_slice_nil (P:=Tryz.prog) W 27 2 none 0 cap 0 0 Tryz.underlying27
  go_enter Tryz.func92,Tryz.ntmps92
  go_wp2
  go_ret
  exact ⟨_,[],rfl,(IntsA.nil w none (cap:=0) (by simp [maxLen])).rd,Fresh.nil _ _,zA⟩
 ·obtain ⟨i0,hi,hz0,hz1,hz2⟩:=info_parts Tryz.info2
  obtain ⟨q1,q2⟩:=Zdl (hI.keep ((Only.refl _ w).alloc (.cells #[] 2)))
  have hnil:=fun W=>Lib.run_eql_slice_nil (P:=Tryz.prog) W 27 2 (some ad) l.length cap 0 0 Tryz.underlying27
  go_enter Tryz.func92,Tryz.ntmps92
  go_wp2_with (at_builtin;refine Zbx _ rfl _ _ 27 rfl w.heap.size 2 i0 _ 1 8 Tryz.underlying27 hi hz0 hz1 hz2 rfl (by omega) (.slice (some ⟨w.heap.size,0,none⟩) 0 0) 0 [] rfl (World.ownsRow_made w #[] 0 (Nat.le_refl _) (by unfold maxLen;omega) rfl) (some ad) l.length cap (l.map (Value.int .i64)) rfl (by simp) q1 q2 (Zef l) (by unfold maxLen;omega) (by omega) (by simp) ?_;intro v1 w1 hO hg hb)
  rw [Nat.zero_add,List.nil_append] at hO
  obtain ⟨a',cap',hv,-,hI',hF⟩:=Zba hO hI.wf
  have Hv:=zH hv
  have hK:Only [] w w1:=(zO.alloc _).grown hg (by simp [Value.ownBlock])
  clear hO hg hb hv q1 q2
  go_wp2
  go_ret
  refine ⟨_,_,rfl,?_,hF,hK⟩
  have hr:=hI'.rd
  rw [<- Hv.out] at hr;exact hr
theorem nil_rd {α:Type} [Rp α] (w:World):Rd w (.slice none 0 0) ([]:List α) []:=⟨none,0,[],[],rfl,rfl,SeqA.nil w none (by simp [maxLen])⟩
theorem int_rd {n:Int} (w:World) (h:I64 n):Rd w (.int .i64 n) n []:=⟨rfl,h,rfl⟩
theorem one_rd {α:Type} [Rp α] {w:World} {v:Value} {x:α} {fp:List Nat} (h:Rd w v x fp) (e:TypeId) (B:Nat) (hF:Fresh B w fp) {g:Nat} (hgs:g = w.heap.size) (hB:B<=g) :
  Rd (w.alloc (.cells #[v] e)) (.slice (some ⟨g,0,none⟩) 1 1) [x] (g :: fp)/\Fresh B (w.alloc (.cells #[v] e)) (g :: fp):=by
 subst hgs
 have hK:Only [] w (w.alloc (.cells #[v] e)):=zO.alloc _
 have hg:(w.alloc (.cells #[v] e)).heap[w.heap.size]? = some (.cells #[v] e (0,0)):=heap_alloc_new w _
 constructor
 ·refine ⟨some ⟨w.heap.size,0,none⟩,1,[w.heap.size],[fp],rfl,by simp,⟨by simp,by simp [maxLen],rfl,fun k hk=>?_,by simp,by simp⟩⟩
  have:k = 0:=by simpa using hk
  subst this
  refine ⟨w.heap.size,0,[v],rfl,rfl,fun j u hu=>?_,zK h hK⟩
  cases j with
  | zero=>simp at hu;subst hu;rw [cell_of_row _ _ _ _ _ _ hg];simp
  | succ j=>simp at hu
 ·refine ⟨List.nodup_cons.2 ⟨fun hm=>by have:=hF.lt _ hm;omega,hF.nd⟩,fun b hb=>?_,fun b hb=>?_⟩
  ·rcases List.mem_cons.1 hb with rfl | hb
   ·exact hB
   ·exact hF.ge b hb
  ·rcases List.mem_cons.1 hb with rfl | hb
   ·exact ⟨_,_,hg⟩
   ·exact (hF.own.keep hK) b hb
end Go.Proofs.YthleokaeobdamaaGreat

namespace PM
section
variable {α:Type} [DecidableEq α]
theorem Zdh:∀ {l1 l2:List α},l1.Nodup->l1 ⊆ l2->l1.length<=l2.length:=by
 intro l1
 induction l1 with
 | nil=>intro l2 _ _;simp
 | cons a t ih=>
  intro l2 hn hs
  obtain ⟨ha,ht⟩:=List.nodup_cons.1 hn
  have ham:a∈l2:=hs (by simp)
  have h1:t ⊆ l2.erase a:=by
   intro x hx
   refine (List.mem_erase_of_ne ?_).2 (hs (by simp [hx]))
   intro e;subst e;exact ha hx
  have h2:=ih ht h1
  have h3:=List.length_erase_of_mem ham
  have h4:0 < l2.length:=List.length_pos_of_mem ham
  simp only [List.length_cons]
  omega
theorem Zeq {l1 l2:List α} (hn:l1.Nodup) (hs:l1 ⊆ l2) (hl:l2.length<=l1.length):l2 ⊆ l1:=by
 intro x hx
 apply Classical.byContradiction
 intro hxn
 have h:=Zdh (List.nodup_cons.2 ⟨hxn,hn⟩) (l2:=l2) (by
  intro y hy
  rcases List.mem_cons.1 hy with rfl | hy
  ·exact hx
  ·exact hs hy)
 simp at h
 omega
theorem Zph:∀ {l1 l2:List α},l1.Nodup->l1 ⊆ l2->l2.length<=l1.length->l2.Nodup:=by
 intro l1
 induction l1 with
 | nil=>
  intro l2 _ _ hl
  have:l2 = []:=List.eq_nil_of_length_eq_zero (by simpa using hl)
  subst this;exact List.nodup_nil
 | cons a t ih=>
  intro l2 hn hs hl
  obtain ⟨ha,ht⟩:=List.nodup_cons.1 hn
  have ham:a∈l2:=hs (by simp)
  have h1:t ⊆ l2.erase a:=by
   intro x hx
   refine (List.mem_erase_of_ne ?_).2 (hs (by simp [hx]))
   intro e;subst e;exact ha hx
  have h3:=List.length_erase_of_mem ham
  have h4:0 < l2.length:=List.length_pos_of_mem ham
  simp only [List.length_cons] at hl
  have h5:=ih ht h1 (by omega)
  have h6:a ∉ l2.erase a:=by
   intro hm
   have:=Zdh hn (l2:=l2.erase a) (by
    intro y hy
    rcases List.mem_cons.1 hy with rfl | hy
    ·exact hm
    ·exact h1 hy)
   simp at this
   omega
  exact (List.perm_cons_erase ham).nodup_iff.2 (List.nodup_cons.2 ⟨h6,h5⟩)
end
def pts (n:Nat):List Int:=(List.range n).map (fun k:Nat=>(k:Int))
theorem pts_len (n:Nat):(pts n).length = n:=by simp [pts]
theorem mem_pts {n:Nat} {x:Int}:x∈pts n ↔ 0<=x/\x < n:=by
 simp only [pts,List.mem_map,List.mem_range]
 constructor
 ·rintro ⟨k,hk,rfl⟩;omega
 ·intro ⟨h1,h2⟩;exact ⟨x.toNat,by omega,by omega⟩
theorem Zfr (n:Nat):(pts n).Nodup:=by
 exact List.Pairwise.map _ (fun a b (h:a ≠ b) hab=>h (by omega)) List.nodup_range
theorem pts_get (n k:Nat) (h:k < (pts n).length):(pts n)[k] = (k:Int):=by simp [pts]
def IsP (p:List Int):Prop:=(∀ x∈p,0<=x/\x < p.length)/\p.Nodup
instance (p:List Int):Decidable (IsP p):=by unfold IsP;exact inferInstance
theorem IsP.sub {p:List Int} (h:IsP p):p ⊆ pts p.length:=fun x hx=>mem_pts.2 (h.1 x hx)
theorem IsP.all {p:List Int} (h:IsP p):pts p.length ⊆ p:=Zeq h.2 h.sub (by rw [pts_len];exact Nat.le_refl _)
theorem Zri {p:List Int} (h1:∀ x∈p,0<=x/\x < p.length) (h2:pts p.length ⊆ p):IsP p:=
 ⟨h1,Zph (Zfr _) h2 (by rw [pts_len];exact Nat.le_refl _)⟩
def mask:List Int->Nat
 | []=>0
 | x :: l=>2 ^ x.toNat ||| mask l
theorem Zqx (l:List Int) (x:Int):mask (l ++ [x]) = mask l ||| 2 ^ x.toNat:=by
 induction l with
 | nil=>simp [mask]
 | cons y l ih=>simp [mask,ih,Nat.or_assoc]
theorem Zpn (l:List Int) (h:∀ x∈l,0<=x) (k:Nat):(mask l).testBit k = decide ((k:Int)∈l):=by
 induction l with
 | nil=>simp [mask]
 | cons x l ih=>
  rw [mask,Nat.testBit_or,ih (fun y hy=>h y (by simp [hy])),Nat.testBit_two_pow]
  have hx:=h x (by simp)
  have:(x.toNat = k) ↔ ((k:Int) = x):=by omega
  simp [this]
theorem mask_lt (l:List Int) (n:Nat) (h:∀ x∈l,0<=x/\x < n):mask l < 2 ^ n:=by
 induction l with
 | nil=>simp [mask];exact Nat.pow_pos (by decide)
 | cons x l ih=>
  have hx:=h x (by simp)
  exact Nat.or_lt_two_pow (Nat.pow_lt_pow_right (by decide) (by omega)) (ih fun y hy=>h y (by simp [hy]))
theorem Znk (p:List Int) (h:∀ x∈p,0<=x/\x < p.length):mask p = 2 ^ p.length - 1 ↔ IsP p:=by
 constructor
 ·intro hm
  refine Zri h fun x hx=>?_
  obtain ⟨h0,h1⟩:=mem_pts.1 hx
  have hb:=Zpn p (fun y hy=>(h y hy).1) x.toNat
  rw [hm,Nat.testBit_two_pow_sub_one] at hb
  have:decide (x.toNat < p.length) = true:=decide_eq_true (by omega)
  rw [this] at hb
  have:=of_decide_eq_true hb.symm
  have e:(x.toNat:Int) = x:=by omega
  rwa [e] at this
 ·intro hp
  apply Nat.eq_of_testBit_eq
  intro k
  rw [Zpn p (fun y hy=>(h y hy).1),Nat.testBit_two_pow_sub_one]
  have:((k:Int)∈p) ↔ k < p.length:=by
   constructor
   ·intro hk;have:=h _ hk;omega
   ·intro hk;exact hp.all (mem_pts.2 (by omega))
  simp [this]
end PM
