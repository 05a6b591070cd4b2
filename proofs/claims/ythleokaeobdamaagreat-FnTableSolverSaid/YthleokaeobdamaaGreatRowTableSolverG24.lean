/- From the row's own reading of an argument to 'rep'. -/
import Derived.Test.YthleokaeobdamaaGreatRowTableSolverG1
import Derived.ProofKit
import Derived.OpenShut
import Derived.Deep.Slices
import Derived.Test.YthleokaeobdamaaGreatRowTableSolverG9
namespace Go.Proofs.YthleokaeobdamaaGreat
open Go.RowKit Go.ChangeShapes Go.WideShapes Go.ChangeAt Go.Deep
set_option maxRecDepth 10000
theorem Zpi {w:World} {a:Addr} {v:Value} (h:w.cell? a = some v):a.spot = none:=by
 unfold World.cell? at h
 split at h
 ·split at h
  ·cases h
  ·rename_i hs;simpa using hs
 ·cases h
section
variable {H:Type} {enc:TypeId × Value->H} {P:Program} {W:World} {sp:Nat->Bool} {hd:Bool}
theorem Zrz {t e:TypeId} {α:Type} [Rp α] [Inhabited α] (ht:P.underlying t = some (.slice e)) (hs:P.cellsOf e = Rp.size α) (hp:0 < Rp.size α)
  (hE:∀ fuel cs x,DataW.trod enc P W 0 sp hd fuel e cs = some x->∃ (d:α) (fp:List Nat),Rp.rep W cs d fp)
  (fuel:Nat) (cs:List Value) (x:DataW H × List MemPlace) (h:DataW.trod enc P W 0 sp hd fuel t cs = some x) :
  ∃ (l:List α) (fp:List Nat),Rp.rep W cs l fp:=by
 rcases open_slice ht h with ⟨rfl,-⟩ | ⟨a,len,cap,m,n,D,Pl,rfl,-,hl,hm,hmm,-,hi⟩
 ·exact ⟨[],[],none,0,[],[],rfl,rfl,SeqA.nil W none (by simp [maxLen])⟩
 ·have hml:len<=m:=by rw [hmm];split <;> omega
  have hch:∀ i,∃ p:α × List Nat,i < len->∃ cs',W.cells? 0 (a.add (i * P.cellsOf e)) (P.cellsOf e) = some cs'/\Rp.rep W cs' p.1 p.2:=by
   intro i
   by_cases hlt:i < len
   ·obtain ⟨cs',hc,ht'⟩:=hi i (by omega)
    obtain ⟨d,fp,hr⟩:=hE _ _ _ ht'
    exact ⟨(d,fp),fun _=>⟨cs',hc,hr⟩⟩
   ·exact ⟨(default,[]),fun hh=>absurd hh hlt⟩
  obtain ⟨f,hf⟩:=Classical.axiomOfChoice hch
  rcases Nat.eq_zero_or_pos len with h0 | h0
  ·subst h0
   exact ⟨[],[],some a,cap,[],[],rfl,rfl,SeqA.nil W _ hm⟩
  ·obtain ⟨cs0,hc0,-⟩:=hf 0 h0
   obtain ⟨-,-,hcell0⟩:=World.cells?_some hc0
   rw [hs] at hcell0 hc0
   have hz:=hcell0 0 hp
   have hadd0:(a.add (0 * Rp.size α)).add 0 = a:=by simp [Addr.add]
   rw [hadd0] at hz
   obtain ⟨-,hlen0,-⟩:=World.cells?_some hc0
   rw [List.getElem?_eq_getElem (by omega)] at hz
   have hspot:=Zpi hz
   have hblk:=World.block_lt_of_cell? W a hz
   obtain ⟨b,off,spot⟩:=a
   simp only at hspot
   subst hspot
   refine ⟨(List.range len).map fun i=>(f i).1,_,some ⟨b,off,none⟩,cap,[b],(List.range len).map fun i=>(f i).2,by simp,rfl,⟨by simpa using hl,hm,by simp,fun k hk=>?_,by simpa using hblk,by simp⟩⟩
   have hk':k < len:=by simpa using hk
   obtain ⟨cs',hc',hr⟩:=hf k hk'
   obtain ⟨-,hlen',hcell⟩:=World.cells?_some hc'
   rw [hs] at hcell hlen'
   refine ⟨b,off,cs',rfl,rfl,fun j u hu=>?_,by simpa using hr⟩
   have hj:j < Rp.size α:=by rw [<- hlen'];exact (List.getElem?_eq_some_iff.1 hu).1
   have h3:=hcell j hj
   have hadd:((⟨b,off,none⟩:Addr).add (k * Rp.size α)).add j = ⟨b,off + k * Rp.size α + j,none⟩:=by
    unfold Addr.add
    split <;> split <;> simp_all
   rw [hadd] at h3
   rw [h3];exact hu
end
section
variable {H:Type} {enc:TypeId × Value->H} {W:World} {sp:Nat->Bool} {hd:Bool}
end
section
variable {H:Type} {enc:TypeId × Value->H} {W:World} {sp:Nat->Bool} {hd:Bool}
end
end Go.Proofs.YthleokaeobdamaaGreat

namespace Go.Proofs.YthleokaeobdamaaGreat
open Go.RowKit Go.ChangeShapes Go.WideShapes Go.ChangeAt Go.Deep
set_option maxRecDepth 10000
section
variable {H:Type} {enc:TypeId × Value->H} {P:Program} {W:World} {sp:Nat->Bool} {hd:Bool}
theorem conv_u8 {t:TypeId} (ht:P.underlying t = some (.int .u8)) (fuel:Nat) (cs:List Value) (x:DataW H × List MemPlace) (h:DataW.trod enc P W 0 sp hd fuel t cs = some x) :
  ∃ (d:UInt8) (fp:List Nat),Rp.rep W cs d fp:=by
 obtain ⟨n,rfl,-,hw⟩:=DataW.trod_int ht h
 have:(0:Int)<=n/\n<=255:=by simpa [Lit.wf,IntKind.min,IntKind.max,IntKind.signed,IntKind.bits] using hw
 refine ⟨UInt8.ofNat n.toNat,[],?_,rfl⟩
 have e:(UInt8.ofNat n.toNat).toNat = n.toNat:=by
  rw [UInt8.toNat_ofNat']
  omega
 rw [e]
 have:((n.toNat:Nat):Int) = n:=by omega
 rw [this]
end
section
variable {H:Type} {enc:TypeId × Value->H} {W:World} {sp:Nat->Bool} {hd:Bool}
theorem Zrq (fuel:Nat) (cs:List Value) (x:DataW H × List MemPlace) (h:DataW.trod enc Tryz.prog W 0 sp hd fuel 22 cs = some x) :
  ∃ (l:List UInt8) (fp:List Nat),Rp.rep W cs l fp:=
 Zrz Tryz.underlying22 (by kernel_rfl) (by decide) (conv_u8 Tryz.underlying5) fuel cs x h
end
end Go.Proofs.YthleokaeobdamaaGreat
