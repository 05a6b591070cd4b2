/- FnAcceptedClaims: for every argument that can be read, the call returns true, and the arguments read afterwards as before; the tables that it reads are tied to the program's text. (Printed by mkrowlaid.py.) -/
import Derived.Test.YtjfmkolnleicnaaGreatDoorRowAcceptedClaimsG24
import Derived.Test.YtjfmkolnleicnaaGreatDoorRowAcceptedClaimsG25
import Derived.Test.YtjfmkolnleicnaaGreatDoorTie
import Derived.Test.YtjfmkolnleicnaaGreatDoorCards
import Derived.ShutString
import Derived.ChangeOld
import Derived.ProofKit
import Derived.LaidMore
import Derived.OpenShut
import Derived.Stop.Joined
import Derived.SevenTiedAt
import Derived.Lib.LaidTab
import Derived.Stop.LaidErr
namespace Go.Proofs.YtjfmkolnleicnaaGreatDoor
open Go.RowKit Go.ChangeShapes Go.WideShapes Go.ChangeAt
set_option maxRecDepth 10000
open Go.ChangeMaps (open_string shut_string)
namespace fnAcceptedClaims
theorem own:ownKnob Tryz.prog.godebug = none:=by kernel_rfl
theorem Zvm (os:Os) (args:Array Value):laidMetH Tryz.prog Rows.fnAcceptedClaimsRow.laid ((World.doorLaid Tryz.prog 400 os).forCall (fun _ _=>0) ⟨#[],args,[]⟩).memory:=
 laidMetH_of_parts3 (fuel:=8) (laidMet_of_run' 8 (by kernel_rfl) (by kernel_rfl)) (by kernel_rfl) (by kernel_rfl)
theorem Zud {W:World} (h:laidMetH Tryz.prog Rows.fnAcceptedClaimsRow.laid W):Pow10 W:=by
 rw [MakeChecks.laidMetH_plain _ _ _ (by kernel_rfl)] at h
 have e:Rows.fnAcceptedClaimsRow.laid = ("math/bits.deBruijn32tab",Rows.laid_math_bits_deBruijn32tab) :: ("math/bits.deBruijn64tab",Rows.laid_math_bits_deBruijn64tab) :: ("internal/strconv.uint64pow10",Lib.tabData .u64 Lib.pow10Tab) :: []:=by kernel_rfl
 rw [e] at h
 exact Lib.tabIs_of_head (g:=0) (t:=189) (e:=172) (n:=20) (by kernel_rfl) (by kernel_rfl) Tryz.underlying189 Tryz.underlying172 (by kernel_rfl) (by kernel_rfl) h.tail.tail
theorem laidOut:laidOutB Tryz.prog = true:=by kernel_rfl
set_option maxRecDepth 100000 in
theorem lifted (os:Os) (started:os.Started) (H:Type) (enc:TypeId × Value->H) :
  ReturnsInHanded {} Tryz.checked os 3 .any (fun w args=>(Rows.fnAcceptedClaimsSpec.pre enc Tryz.prog Tryz.f3 [] false w args/\laidMetH Tryz.prog Rows.fnAcceptedClaimsRow.laid w)/\sizedMet enc Tryz.prog Tryz.f3 (OpenSpec.ofChange Rows.fnAcceptedClaimsSpec) false w args) (Rows.fnAcceptedClaimsSpec.post enc Tryz.prog Tryz.f3 false true false false):=by
 refine returnsInHanded_of_change_and (C:=Tryz.checked) (X:=fun w _=>laidMetH Tryz.prog Rows.fnAcceptedClaimsRow.laid w) (fun _ _ _ hh h=>h.of_heap hh) own started (by kernel_rfl) Tryz.func3
  (ChangeSpec.witness_shaped (enc:=enc) (C:=Tryz.checked) (os:=os) (X:=fun w _=>laidMetH Tryz.prog Rows.fnAcceptedClaimsRow.laid w) false (World.doorLaid Tryz.prog 400 os) #[.slice none 0 0] 8 rfl (World.shaped_of_RefB (by kernel_rfl) (by kernel_rfl)) (by kernel_rfl) (by kernel_rfl) (by kernel_rfl) (Zvm os _)) ?_
 intro W base args ds gs before hval0 hW _ _ hL _
 have hP10:=Zud hL
 have hval:∀ (j:Nat) t v,Tryz.f3.params[j]? = some t->args[j]? = some v->Value.okWide Tryz.prog W .any base t v:=hval0
 have hW':=hW
 obtain ⟨p,q,hA0,hV,rfl,hfz,hnd⟩:=hW
 have hA:DataW.TrodAll enc Tryz.prog W 0 (fun _=>true) true Tryz.f3.params.toList args.toList ds p:=hA0
 rw [Tryz.params3] at hA hval
 obtain ⟨v0,vs0,d0,ds0,p0,q0,hargs,rfl,rfl,h0,r0⟩:=trodAll_cons hA
 obtain ⟨rfl,rfl,rfl⟩:=trodAll_nil r0
 obtain rfl:args = #[v0]:=by cases args;simp_all
 obtain ⟨rfl,rfl⟩:=trodVars_none hV
 obtain ⟨a0,len0,cap0,rfl⟩:=okWide_slice Tryz.underlying22 (hval 0 22 v0 rfl rfl)
 have k0:=h0
 have lt0:∀ x∈p0,x.block < W.heap.size:=by obtain ⟨m,hm⟩:=k0;exact DataW.trod_lt m _ _ _ hm
 obtain ⟨l0,fp0,rp0⟩:∃ l fp,Rd (α:=List UInt8) W (.slice a0 len0 cap0) l fp:=by obtain ⟨fuel,hf⟩:=h0;exact Zsh fuel _ _ hf
 clear hA0 hval0
 refine (Zia W (.slice a0 len0 cap0) l0 fp0 rp0 hP10).mono fun e W' ⟨he,hk⟩=>?_
 subst he
 have bel:Below W.heap.size W W':=hk.below (Nat.le_refl _) (by simp)
 exact ⟨_,rfl,_,_,_,[],_,[],hW',trodAll_mk1 (shut_bool Tryz.underlying4 _),(trodAll_cons_mk (Below.trod laidOut (by kernel_rfl) (of_decide_eq_true (by kernel_rfl)) k0 bel lt0) trodAll_mk0),rfl,bel.frame _,fun h=>by cases h⟩
theorem over:Rows.fnAcceptedClaimsRow.holds Tryz.pinned (OpenSpec.ofChange Rows.fnAcceptedClaimsSpec):=
 OpenClaim.holds_of_wide 3 Tryz.f3 rfl rfl rfl rfl rfl rfl rfl ⟨rfl,rfl,rfl,rfl,rfl⟩ rfl rfl rfl rfl rfl (by kernel_rfl) Tryz.func3 (by kernel_rfl)
  (of_decide_eq_true (by kernel_rfl)) (by unfold Func.isWrapper;first | (rw [if_pos (by decide +kernel)];kernel_rfl) | (rw [if_neg (by decide +kernel)];exact ⟨rfl,rfl⟩))
  (fun os started H enc _=>lifted os started H enc)
theorem proved:Rows.FnAcceptedClaimsCardSaid:=
 Claim7.holds_tied_plain_at .later [] [.data,.data,.data] true (true, "9288c3dd8629bc2865351ec0c179dcaaf01fcc1017579248a2560fac4606a893") false
  over (fun _ h=>by cases h) (by kernel_rfl) (fun _ h=>by cases h) fnAcceptedClaims_row_tie rfl ⟨rfl,rfl⟩ (by kernel_rfl) rfl
  (fun f fn hf hfn=>by
   obtain rfl:f = 3:=Option.some.inj ((show Tryz.prog.funcNamed "loop.example/g00855/laws.FnAcceptedClaims" = some 3 by kernel_rfl).symm.trans hf) |>.symm
   obtain rfl:fn = Tryz.f3:=(Option.some.inj (Tryz.func3.symm.trans hfn)).symm
   exact ⟨by kernel_rfl,fun j t ht=>by
    rw [Tryz.params3] at ht
    have hm:t∈[22]:=by simpa using Array.mem_of_getElem? ht
    have hall:([22].all fun u=>!Tryz.prog.wantsStandIn u) = true:=by kernel_rfl
    exact (show Tryz.prog.wantsStandIn t = false by simpa using List.all_eq_true.1 hall t hm)⟩)
  (by kernel_rfl)
end fnAcceptedClaims
end Go.Proofs.YtjfmkolnleicnaaGreatDoor
