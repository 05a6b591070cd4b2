/- From the row's own reading of an argument to 'rep'. -/
import Derived.Test.YtclhblofchfglaaGreatRowSolveWithTablesG1
import Derived.ProofKit
import Derived.OpenShut
import Derived.Deep.Slices
import Derived.Test.YtclhblofchfglaaGreatRowSolveWithTablesG3
import Derived.Test.YtclhblofchfglaaGreatRowSolveWithTablesG15
namespace Go.Proofs.YtclhblofchfglaaGreat
open Go.RowKit Go.ChangeShapes Go.WideShapes Go.ChangeAt Go.Deep
set_option maxRecDepth 10000
theorem Zok {w:World} {a:Addr} {v:Value} (h:w.cell? a = some v):a.spot = none:=by
 unfold World.cell? at h
 split at h
 ·split at h
  ·cases h
  ·rename_i hs;simpa using hs
 ·cases h
section
variable {H:Type} {enc:TypeId × Value->H} {P:Program} {W:World} {sp:Nat->Bool} {hd:Bool}
theorem Zrw {t:TypeId} (ht:P.underlying t = some (.int .i64)) (fuel:Nat) (cs:List Value) (x:DataW H × List MemPlace) (h:DataW.trod enc P W 0 sp hd fuel t cs = some x) :
  ∃ (d:Int) (fp:List Nat),Rp.rep W cs d fp:=by
 obtain ⟨n,rfl,-,hw⟩:=DataW.trod_int ht h
 refine ⟨n,[],rfl,?_,rfl⟩
 have:(-9223372036854775808:Int)<=n/\n<=9223372036854775807:=by simpa [Lit.wf,IntKind.min,IntKind.max,IntKind.signed,IntKind.bits] using hw
 exact this
theorem Zje {t e:TypeId} {α:Type} [Rp α] [Inhabited α] (ht:P.underlying t = some (.slice e)) (hs:P.cellsOf e = Rp.size α) (hp:0 < Rp.size α)
  (hE:∀ fuel cs x,DataW.trod enc P W 0 sp hd fuel e cs = some x->∃ (d:α) (fp:List Nat),Rp.rep W cs d fp)
  (fuel:Nat) (cs:List Value) (x:DataW H × List MemPlace) (h:DataW.trod enc P W 0 sp hd fuel t cs = some x) :
  ∃ (l:List α) (fp:List Nat),Rp.rep W cs l fp:=by
 rcases open_slice ht h with ⟨rfl,-⟩ | ⟨a,len,cap,m,n,D,Pl,rfl,-,hl,hm,hmm,-,hi⟩
 ·exact ⟨[],[],none,0,[],[],rfl,rfl,SeqA.nil W none (by simp [maxLen])⟩
 ·have hml:len<=m:=by rw [hmm];split <;> omega
  have hch:∀ i,∃ p:α × List Nat,i < len->∃ cs',W.cells? 0 (a.add (i * P.cellsOf e)) (P.cellsOf e) = some cs'/\Rp.rep W cs' p.1 p.2:=by
   intro i
   by_cases hlt:i < len
   ·obtain ⟨cs',hc,ht'⟩:=hi i (by omega)
    obtain ⟨d,fp,hr⟩:=hE _ _ _ ht'
    exact ⟨(d,fp),fun _=>⟨cs',hc,hr⟩⟩
   ·exact ⟨(default,[]),fun hh=>absurd hh hlt⟩
  obtain ⟨f,hf⟩:=Classical.axiomOfChoice hch
  rcases Nat.eq_zero_or_pos len with h0 | h0
  ·subst h0
   exact ⟨[],[],some a,cap,[],[],rfl,rfl,SeqA.nil W _ hm⟩
  ·obtain ⟨cs0,hc0,-⟩:=hf 0 h0
   obtain ⟨-,-,hcell0⟩:=World.cells?_some hc0
   rw [hs] at hcell0 hc0
   have hz:=hcell0 0 hp
   have hadd0:(a.add (0 * Rp.size α)).add 0 = a:=by simp [Addr.add]
   rw [hadd0] at hz
   obtain ⟨-,hlen0,-⟩:=World.cells?_some hc0
   rw [List.getElem?_eq_getElem (by omega)] at hz
   have hspot:=Zok hz
   have hblk:=World.block_lt_of_cell? W a hz
   obtain ⟨b,off,spot⟩:=a
   simp only at hspot
   subst hspot
   refine ⟨(List.range len).map fun i=>(f i).1,_,some ⟨b,off,none⟩,cap,[b],(List.range len).map fun i=>(f i).2,by simp,rfl,⟨by simpa using hl,hm,by simp,fun k hk=>?_,by simpa using hblk,by simp⟩⟩
   have hk':k < len:=by simpa using hk
   obtain ⟨cs',hc',hr⟩:=hf k hk'
   obtain ⟨-,hlen',hcell⟩:=World.cells?_some hc'
   rw [hs] at hcell hlen'
   refine ⟨b,off,cs',rfl,rfl,fun j u hu=>?_,by simpa using hr⟩
   have hj:j < Rp.size α:=by rw [<- hlen'];exact (List.getElem?_eq_some_iff.1 hu).1
   have h3:=hcell j hj
   have hadd:((⟨b,off,none⟩:Addr).add (k * Rp.size α)).add j = ⟨b,off + k * Rp.size α + j,none⟩:=by
    unfold Addr.add
    split <;> split <;> simp_all
   rw [hadd] at h3
   rw [h3];exact hu
end
section
variable {H:Type} {enc:TypeId × Value->H} {W:World} {sp:Nat->Bool} {hd:Bool}
theorem Zlz (fuel:Nat) (cs:List Value) (x:DataW H × List MemPlace) (h:DataW.trod enc Tryz.prog W 0 sp hd fuel 25 cs = some x) :
  ∃ (l:List Int) (fp:List Nat),Rp.rep W cs l fp:=
 Zje Tryz.underlying25 (by kernel_rfl) (by decide) (Zrw Tryz.underlying2) fuel cs x h
end
section
variable {H:Type} {enc:TypeId × Value->H} {W:World} {sp:Nat->Bool} {hd:Bool}
theorem Zmd (fuel:Nat) (cs:List Value) (x:DataW H × List MemPlace) (h:DataW.trod enc Tryz.prog W 0 sp hd fuel 22 cs = some x) :
  ∃ (l:List (List Int)) (fp:List Nat),Rp.rep W cs l fp:=
 Zje Tryz.underlying22 (by kernel_rfl) (by decide) Zlz fuel cs x h
end
end Go.Proofs.YtclhblofchfglaaGreat

namespace Go.Proofs.YtclhblofchfglaaGreat
open Go.RowKit Go.ChangeShapes Go.WideShapes Go.ChangeAt Go.Deep
set_option maxRecDepth 10000
instance:Inhabited Puzzle:=⟨⟨0,ByteArray.empty,[]⟩⟩
section
variable {H:Type} {enc:TypeId × Value->H} {W:World} {sp:Nat->Bool} {hd:Bool}
theorem Zpg (fuel:Nat) (cs:List Value) (x:DataW H × List MemPlace) (h:DataW.trod enc Tryz.prog W 0 sp hd fuel 24 cs = some x) :
  ∃ (d:Puzzle) (fp:List Nat),Rp.rep W cs d fp:=by
 obtain ⟨xs,n,-,rfl,hl,hlen,hg⟩:=DataW.trod_struct Tryz.underlying24 h
 have hl':cs.length = 3:=hl.trans (by kernel_rfl)
 have hx:xs.length = 3:=hlen
 match cs,hl' with
 | [a0,a1,a2],_=>
  have g0:=(hg 0 _ rfl).trans (List.getElem?_eq_getElem (by omega:0 < xs.length))
  have z0:Tryz.prog.cellsOf 2 = 1:=by kernel_rfl
  obtain ⟨n0,q0,-,w0⟩:=DataW.trod_int Tryz.underlying2 g0
  have q0':[a0] = [Value.int .i64 n0]:=by have q:List.take (Tryz.prog.cellsOf 2) (List.drop 0 [a0,a1,a2]) = _:=q0;rw [z0] at q;exact q
  have b0:I64 n0:=id (α:=(-9223372036854775808:Int)<=n0/\n0<=9223372036854775807) (by simpa [Lit.wf,IntKind.min,IntKind.max,IntKind.signed,IntKind.bits] using w0)
  injection q0' with q0';subst q0'
  have g1:=(hg 1 _ rfl).trans (List.getElem?_eq_getElem (by omega:1 < xs.length))
  have z1:Tryz.prog.cellsOf 9 = 1:=by kernel_rfl
  obtain ⟨n1,q1,-,w1⟩:=DataW.trod_string Tryz.underlying9 g1
  have q1':[a1] = [Value.string n1]:=by have q:List.take (Tryz.prog.cellsOf 9) (List.drop 1 [Value.int .i64 n0,a1,a2]) = _:=q1;rw [z1] at q;exact q
  injection q1' with q1';subst q1'
  have g2:=(hg 2 _ rfl).trans (List.getElem?_eq_getElem (by omega:2 < xs.length))
  have z2:Tryz.prog.cellsOf 22 = 1:=by kernel_rfl
  obtain ⟨d2,f2,r2⟩:=Zmd _ _ _ g2
  have r2':Rp.rep W [a2] d2 f2:=by have q:Rp.rep W (List.take (Tryz.prog.cellsOf 22) (List.drop 2 [Value.int .i64 n0,Value.string n1,a2])) _ _:=r2;rw [z2] at q;exact q
  exact ⟨⟨n0,n1,d2⟩,_,a2,rfl,b0,w1,r2'⟩
end
instance:Inhabited Table:=⟨⟨[],[],[]⟩⟩
section
variable {H:Type} {enc:TypeId × Value->H} {W:World} {sp:Nat->Bool} {hd:Bool}
end
section
variable {H:Type} {enc:TypeId × Value->H} {W:World} {sp:Nat->Bool} {hd:Bool}
end
instance:Inhabited Certificate:=⟨⟨0,[],[],[]⟩⟩
section
variable {H:Type} {enc:TypeId × Value->H} {W:World} {sp:Nat->Bool} {hd:Bool}
end
end Go.Proofs.YtclhblofchfglaaGreat
