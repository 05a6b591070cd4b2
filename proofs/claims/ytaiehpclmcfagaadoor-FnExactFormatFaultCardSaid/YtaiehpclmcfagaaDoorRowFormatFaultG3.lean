/- FnExactFormatFault: for every argument that can be read, the call returns true, and the arguments read afterwards as before; the tables that it reads are tied to the program's text. (Printed by mkrowlaid.py.) -/
import Derived.Test.YtaiehpclmcfagaaDoorRowFormatFaultG2
import Derived.Test.YtaiehpclmcfagaaDoorTie
import Derived.Test.YtaiehpclmcfagaaDoorCards
import Derived.ShutString
import Derived.ChangeOld
import Derived.ChangeVars
import Derived.OpenVars
import Derived.ProofKit
import Derived.LaidMore
import Derived.OpenShut
import Derived.Stop.Joined
import Derived.SevenTiedAt
import Derived.Lib.LaidTab
import Derived.Stop.LaidErr
namespace Go.Proofs.YtaiehpclmcfagaaDoor
open Go.RowKit Go.ChangeShapes Go.WideShapes Go.ChangeAt
set_option maxRecDepth 10000
open Go.ChangeMaps (open_string shut_string)

namespace fnExactFormatFault
theorem own : ownKnob Tryd.prog.godebug = none := by kernel_rfl
theorem door_met (os : Os) (args : Array Value) : laidMetH Tryd.prog Rows.fnExactFormatFaultRow.laid ((World.doorLaid Tryd.prog 400 os).forCall (fun _ _ => 0) ⟨#[], args, []⟩).memory :=
  laidMetH_of_parts3 (fuel := 8) (laidMet_of_run' 8 (by kernel_rfl) (by kernel_rfl)) (by kernel_rfl) (by kernel_rfl)
theorem pow10_of {W : World} (h : laidMetH Tryd.prog Rows.fnExactFormatFaultRow.laid W) : Pow10 W := by
  rw [MakeChecks.laidMetH_plain _ _ _ (by kernel_rfl)] at h
  have e : Rows.fnExactFormatFaultRow.laid = ("math/bits.deBruijn32tab", Rows.laid_math_bits_deBruijn32tab) :: ("math/bits.deBruijn64tab", Rows.laid_math_bits_deBruijn64tab) :: ("internal/strconv.uint64pow10", Lib.tabData .u64 Lib.pow10Tab) :: [("loop.example/g00855/impl.faultTexts", Rows.laid_loop_example_g00855_impl_faultTexts)] := by kernel_rfl
  rw [e] at h
  exact Lib.tabIs_of_head (g := 1) (t := 49) (e := 42) (n := 20) (by kernel_rfl) (by kernel_rfl) Tryd.underlying49 Tryd.underlying42 (by kernel_rfl) (by kernel_rfl) h.tail.tail
theorem ftt_of {W : World} (h : laidMetH Tryd.prog Rows.fnExactFormatFaultRow.laid W) : FtT W := by
  rw [MakeChecks.laidMetH_plain _ _ _ (by kernel_rfl)] at h
  have h4 : laidMet Tryd.prog [("loop.example/g00855/impl.faultTexts", Rows.laid_loop_example_g00855_impl_faultTexts)] W := h.tail.tail.tail
  obtain ⟨ps, ⟨g', t', cs, fuel, p, q, hg', ht', hvar, hd, _, _⟩, _⟩ := h4
  have gP : Tryd.prog.globalNamed "loop.example/g00855/impl.faultTexts" = some 0 := by kernel_rfl
  have tP : (Tryd.prog.globals[0]?).map (·.type) = some 37 := by kernel_rfl
  obtain rfl := Option.some.inj (gP.symm.trans hg')
  obtain rfl := Option.some.inj (tP.symm.trans ht')
  obtain ⟨xs, m1, -, hx1, hlen, hn3, hel⟩ := DataW.trod_array Tryd.underlying37 hd
  intro j hj
  rw [World.var?_cell hg' hvar (j + 1)]
  have c9 : Tryd.prog.cellsOf 9 = 1 := by kernel_rfl
  have hmap : xs.map (·.1) = [.lit (.string []), .lit (.string [115, 116, 97, 114, 116]), .lit (.string [100, 117, 112, 108, 105, 99, 97, 116, 101]), .lit (.string [122, 101, 114, 111]), .lit (.string [109, 105, 115, 115, 105, 110, 103]), .lit (.string [106, 117, 109, 112]), .lit (.string [110, 111, 32, 100, 101, 115, 99, 101, 110, 116])] := by
    have h0 := congrArg Prod.fst hx1
    unfold Rows.laid_loop_example_g00855_impl_faultTexts at h0
    injection h0 with h0
    exact h0.symm
  have hl : j + 1 < xs.length := by omega
  have e1 := hel (j + 1) (by omega)
  rw [c9, Nat.mul_one, List.getElem?_eq_getElem hl] at e1
  obtain ⟨s, es, ex, -⟩ := DataW.trod_string Tryd.underlying9 e1
  have e2 : (xs.map (·.1))[j + 1]? = some (.lit (.string s.data.toList)) := by rw [List.getElem?_map, List.getElem?_eq_getElem hl, ex]; rfl
  rw [hmap] at e2
  have e3 : cs.toList[j + 1]? = some (.string s) := by
    have := congrArg (·[0]?) es
    simpa [List.getElem?_take, List.getElem?_drop] using this
  have key : ∀ l : List UInt8, l = s.data.toList → s = ⟨l.toArray⟩ := by
    intro l h
    subst h
    cases s
    simp
  have hs : s = ftN.getD j ⟨#[]⟩ := by
    rcases j with _ | _ | _ | _ | _ | _ | j
    · injection e2 with e2; injection e2 with e2; injection e2 with e2; exact key _ e2
    · injection e2 with e2; injection e2 with e2; injection e2 with e2; exact key _ e2
    · injection e2 with e2; injection e2 with e2; injection e2 with e2; exact key _ e2
    · injection e2 with e2; injection e2 with e2; injection e2 with e2; exact key _ e2
    · injection e2 with e2; injection e2 with e2; injection e2 with e2; exact key _ e2
    · injection e2 with e2; injection e2 with e2; injection e2 with e2; exact key _ e2
    · omega
  rw [← hs]
  simpa using e3
theorem laidOut : laidOutB Tryd.prog = true := by kernel_rfl
set_option maxRecDepth 100000 in
theorem lifted (os : Os) (started : os.Started) (H : Type) (enc : TypeId × Value → H) :
    ReturnsInHanded {} Tryd.checked os 3 .any (fun w args => (Rows.fnExactFormatFaultSpec.pre enc Tryd.prog Tryd.f3 [] false w args ∧ laidMetH Tryd.prog Rows.fnExactFormatFaultRow.laid w) ∧ sizedMet enc Tryd.prog Tryd.f3 (OpenSpec.ofChange Rows.fnExactFormatFaultSpec) false w args) (Rows.fnExactFormatFaultSpec.post enc Tryd.prog Tryd.f3 false true false false) := by
  refine returnsInHanded_of_change_and (C := Tryd.checked) (X := fun w _ => laidMetH Tryd.prog Rows.fnExactFormatFaultRow.laid w) (fun _ _ _ hh h => h.of_heap hh) own started (by kernel_rfl) Tryd.func3
    (ChangeSpec.witness_shaped (enc := enc) (C := Tryd.checked) (os := os) (X := fun w _ => laidMetH Tryd.prog Rows.fnExactFormatFaultRow.laid w) false (World.doorLaid Tryd.prog 400 os) #[.agg #[.int .i64 0, .int .i64 0, .int .i64 0]] 8 rfl (World.shaped_of_RefB (by kernel_rfl) (by kernel_rfl)) (by kernel_rfl) (by kernel_rfl) (by kernel_rfl) (door_met os _)) ?_
  intro W base args ds gs before hval0 hW _ _ hL _
  have hP10 := pow10_of hL
  have hFt := ftt_of hL
  have hval : ∀ (j : Nat) t v, Tryd.f3.params[j]? = some t → args[j]? = some v → Value.okWide Tryd.prog W .any base t v := hval0
  have hW' := hW
  obtain ⟨p, q, hA0, hV, rfl, hfz, hnd⟩ := hW
  have hA : DataW.TrodAll enc Tryd.prog W 0 (fun _ => true) true Tryd.f3.params.toList args.toList ds p := hA0
  rw [Tryd.params3] at hA hval
  obtain ⟨v0, vs0, d0, ds0, p0, q0, hargs, rfl, rfl, h0, r0⟩ := trodAll_cons hA
  obtain ⟨rfl, rfl, rfl⟩ := trodAll_nil r0
  obtain rfl : args = #[v0] := by cases args; simp_all
  have hV0 := hV
  obtain ⟨gv, tv, csv, fv, dv0, pv0, rfl, -, -, -, -, -⟩ := trodVars_one hV
  obtain ⟨⟨c0⟩, rfl, -⟩ := okWide_struct Tryd.underlying23 (hval 0 23 v0 rfl rfl)
  have k0 := h0
  have lt0 : ∀ x ∈ p0, x.block < W.heap.size := by obtain ⟨m, hm⟩ := k0; exact DataW.trod_lt m _ _ _ hm
  obtain ⟨l0, fp0, rp0⟩ : ∃ l fp, Rp.rep (α := TableFault) W c0 l fp := by obtain ⟨fuel, hf⟩ := h0; exact conv_TableFault fuel _ _ hf
  clear hA0 hval0
  refine (FnExactFormatFault_any W c0 l0 fp0 rp0 hP10 hFt).mono fun e W' ⟨he, hk⟩ => ?_
  subst he
  have bel : Below W.heap.size W W' := hk.below (Nat.le_refl _) (by simp)
  exact ⟨_, rfl, _, _, _, [], _, _, hW', trodAll_mk1 (shut_bool Tryd.underlying4 _), (trodAll_cons_mk (Below.trod laidOut (by kernel_rfl) (of_decide_eq_true (by kernel_rfl)) k0 bel lt0) trodAll_mk0), Below.trodVars laidOut bel (by kernel_rfl) hV0, bel.frame _, fun h => by cases h⟩

theorem over : Rows.fnExactFormatFaultRow.holds Tryd.pinned (OpenSpec.ofChange Rows.fnExactFormatFaultSpec) :=
  OpenClaim.holds_of_wide 3 Tryd.f3 rfl rfl rfl rfl rfl rfl rfl ⟨rfl, rfl, rfl, rfl, rfl⟩ rfl rfl rfl rfl rfl (by kernel_rfl) Tryd.func3 (by kernel_rfl)
    (of_decide_eq_true (by kernel_rfl)) (by unfold Func.isWrapper; first | (rw [if_pos (by decide +kernel)]; kernel_rfl) | (rw [if_neg (by decide +kernel)]; exact ⟨rfl, rfl⟩))
    (fun os started H enc _ => lifted os started H enc)

theorem proved : Rows.FnExactFormatFaultCardSaid :=
  Claim7.holds_tied_plain_at .later [] [.data, .data, .data, .data] true (true, "d22eadfc0ac05d1fb37bad3594d5f689c4d4f829292dd507a1ef7ce6e9d2a85d") false
    over (fun _ h => by cases h) (by kernel_rfl) (fun _ h => by cases h) fnExactFormatFault_row_tie rfl ⟨rfl, rfl⟩ (by kernel_rfl) rfl
    (fun f fn hf hfn => by
      obtain rfl : f = 3 := Option.some.inj ((show Tryd.prog.funcNamed "loop.example/g00855/laws.FnExactFormatFault" = some 3 by kernel_rfl).symm.trans hf) |>.symm
      obtain rfl : fn = Tryd.f3 := (Option.some.inj (Tryd.func3.symm.trans hfn)).symm
      exact ⟨by kernel_rfl, fun j t ht => by
        rw [Tryd.params3] at ht
        have hm : t ∈ [23] := by simpa using Array.mem_of_getElem? ht
        have hall : ([23].all fun u => !Tryd.prog.wantsStandIn u) = true := by kernel_rfl
        exact (show Tryd.prog.wantsStandIn t = false by simpa using List.all_eq_true.1 hall t hm)⟩)
    (by kernel_rfl)
end fnExactFormatFault
end Go.Proofs.YtaiehpclmcfagaaDoor
