/- The reference's orbit sizes, chain order, members per choice (laws 33, 34, ..). The reference's chain order, members per choice, MemberAt (laws 33, 34, ..). Maps from int64 to int64 that a call makes. (Printed by mkmapv.py out of XMap.) The program's walk down a chain: values, take, from (laws 33, 47). The program's walk down a chain: sorted, from; its generator (laws 33, 47). The program's RandomMember (laws 35, 47). The program's memberAt: the member of a rank (laws 33, 34, ..). The reference's allMembers and Members; the program's members and Members (laws 32, 36, 44). -/
import Derived.Test.YtpcamkmoabhlhaaRowCountMembersOfTypeG10
import Derived.Test.YtpcamkmoabhlhaaRowCountMembersOfTypeG9
import Derived.Maps.RangeWalk
import Derived.Test.YtpcamkmoabhlhaaRowCountMembersOfTypeG4
import Derived.Test.YtpcamkmoabhlhaaRowCountMembersOfTypeG8
import Derived.Deep.RegionLaw
import Derived.Deep.QuietTactic
import Derived.Test.YtpcamkmoabhlhaaRowCountMembersOfTypeG3
import Derived.Deep.RegionHeld3
namespace Go.Proofs.Ytpcamkmoabhlhaa
open Go.RowKit
set_option maxRecDepth 10000

/-- the sizes of the first levels -/
def orbL (n : Nat) (T : PM.Rows) (j : Nat) : List Int := (List.range j).map fun k => (PM.cntR n T k : Int)
theorem orbL_succ (n : Nat) (T : PM.Rows) (j : Nat) : orbL n T (j + 1) = orbL n T j ++ [(PM.cntR n T j : Int)] := by
  unfold orbL; rw [List.range_succ, List.map_append]; rfl
theorem orbL_len (n : Nat) (T : PM.Rows) (j : Nat) : (orbL n T j).length = j := by unfold orbL; simp
theorem orbL_get {n : Nat} {T : PM.Rows} {j k : Nat} (h : k < (orbL n T j).length) : (orbL n T j)[k] = (PM.cntR n T k : Int) := by simp only [orbL, List.getElem_map, List.getElem_range]
theorem orbTo_n (n : Nat) (T : PM.Rows) (k : Nat) : (orbTo n T k).length = PM.cntR n T k := rfl
theorem boolToInt_any (b : Bool) (w : World) :
    Calls Try.prog 28 #[.bool b] w fun e w' => e = .returned (.int .i64 (if b then 1 else 0)) ∧ w' = w := by
  cases b
  · go_enter Try.func28, Try.ntmps28
    go_wp2
    go_ret
    exact ⟨rfl, rfl⟩
  · go_enter Try.func28, Try.ntmps28
    go_wp2
    go_ret
    exact ⟨rfl, rfl⟩
set_option maxHeartbeats 4000000 in
theorem orbitSizes_any {e : TypeId} {B : Nat} {L : Lay} {gv : Nat → Value} {n : Nat} {G : PM.Gens} {T : PM.Rows} {M F : List Nat} (w : World) (hC : Ch e B w L gv n G T M F) (hT : L.oT = 1) :
    Calls Try.prog 43 #[.pointer (some ⟨L.g, 0, none⟩)] w fun e w' => ∃ v, e = .returned v ∧ AccI w.heap.size 2 w' v (orbL n T n) ∧ Only [] w w' := by
  obtain ⟨i0, hii, hz0, hz1, hz2⟩ := info_parts Try.info2
  have hn20 := hC.le
  have cn := hC.cn
  have ct := hC.ct
  rw [hT] at ct
  have HC := Lib.hid hC
  clear hC
  go_enter Try.func43, Try.ntmps43
  go_wp2
  go_loopw [3, 4] (fun o y wr => ∃ (i : Nat) (l : List Int), i ≤ n ∧ y = .int .i64 i ∧ Hid (l = orbL n T i) ∧ AccI w.heap.size 2 wr o l ∧ Only [] w wr)
    (fun _ y _ => n - (intOf y).toNat)
  case atStart => exact ⟨0, [], Nat.zero_le _, rfl, Lib.hid rfl, AccI.made w _ _ rfl (Nat.le_refl _), (Only.refl _ _).alloc _⟩
  case round =>
    obtain ⟨W2, hnew⟩ : ∃ W, W = wr := ⟨_, rfl⟩
    subst hnew
    obtain ⟨i, l, hi, rfl, hl, hA, hO⟩ := hrel
    have y0 := hO.cell (by simp) cn
    have hll : l.length ≤ 1000 := by rw [hl.out, orbL_len]; omega
    have hsz := hO.size
    by_cases hlt : i < n
    · have yt := hO.cell (by simp) ct
      have yr := hO.cell (by simp) (HC.out.row i hlt)
      have hltI : (i : Int) < (n : Int) := by omega
      have hC2 := Lib.hid (HC.out.keep hO)
      go_wp2_with fail
      go_loopw [5, 6] (fun s y wr => ∃ (j : Nat), j ≤ n ∧ y = .int .i64 j ∧ s = .int .i64 ((orbTo j T i).length : Nat) ∧ wr = W2)
        (fun _ y _ => n - (intOf y).toNat)
      case atStart => exact ⟨0, Nat.zero_le _, rfl, rfl, rfl⟩
      case round =>
        obtain ⟨j, hj, rfl, rfl, hww⟩ := hrel
        subst hww
        have hol := orbTo_len j T i
        by_cases hjl : j < n
        · have hsu := orbTo_succ j T i
          have hltJ : (j : Int) < (n : Int) := by omega
          by_cases ht : PM.tr T i (j : Int) = []
          · have c4 := hC2.out.at_nil hlt (y := (j : Int)) (by omega) (by omega) ht
            simp only [Int.toNat_natCast] at c4
            rw [if_pos ht] at hsu
            have Hsu := Lib.hid hsu
            obtain ⟨s, hs⟩ : ∃ s, s = (orbTo j T i).length := ⟨_, rfl⟩
            rw [← hs] at hol ⊢
            have Hs := Lib.hid hs
            clear ht hsu hs
            go_wp2_with (first
              | (go_at_call 28; (with_reducible refine (boolToInt_any false _).mono ?_); rintro en w5 ⟨rfl, h5⟩; rw [h5]; clear h5)
              | fail "no arm")
            go_roundw
            case rel => exact ⟨j + 1, by omega, by go_num, by rw [Hsu.out, ← Hs.out], trivial⟩
            case measure => simp [intOf]; omega
          · obtain ⟨b4, off4, cap4, f4, c4, -, -⟩ := hC2.out.at_some hlt (y := (j : Int)) (by omega) (by omega) ht
            simp only [Int.toNat_natCast] at c4
            have hpos : (0 : Int) < ((PM.tr T i (j : Int)).length : Int) := by have := List.length_pos_iff.2 ht; omega
            have hposN : 0 < (PM.tr T i (j : Int)).length := List.length_pos_iff.2 ht
            rw [if_neg ht] at hsu
            have hsl : (orbTo (j + 1) T i).length = (orbTo j T i).length + 1 := by rw [hsu]; simp
            have Hsl := Lib.hid hsl
            obtain ⟨s, hs⟩ : ∃ s, s = (orbTo j T i).length := ⟨_, rfl⟩
            rw [← hs] at hol ⊢
            have Hs := Lib.hid hs
            clear ht hsu hs hsl
            go_wp2_with (first
              | (go_at_call 28; (with_reducible refine (boolToInt_any true _).mono ?_); rintro en w5 ⟨rfl, h5⟩; rw [h5]; clear h5)
              | fail "no arm")
            go_roundw
            case rel => exact ⟨j + 1, by omega, by go_num, by rw [Hsl.out, ← Hs.out]; go_num, trivial⟩
            case measure => simp [intOf]; omega
        · obtain rfl : j = n := by omega
          have hge : ¬ ((j : Int) < (j : Int)) := by omega
          have hcs : (orbTo j T i).length = PM.cntR j T i := orbTo_n j T i
          have hcl := PM.cntR_le j T i
          have HI := Lib.hid (show I64 ((PM.cntR j T i : Nat) : Int) by unfold I64; omega)
          rw [hcs]
          clear hcs hol
          go_wp2_with (first
            | (at_builtin; refine wpList_pushI rfl _ _ 23 rfl w.heap.size 2 i0 _ Try.underlying23 hii hz0 hz1 hz2 rfl wr u3 l rfl hA ((Only.refl _ _).alloc _) hsz wr.heap.size 1 ((PM.cntR j T i : Nat) : Int) rfl (lit1 wr _ _ rfl) HI.out (by omega) ?_; intro v3 w3 hA3 hO3 hP3 hN3)
            | fail "no arm")
          go_roundw
          case rel => exact ⟨i + 1, _, by omega, by go_num, Lib.hid (by rw [orbL_succ, ← hl.out]), hA3, hP3 w (hO.alloc _) (Nat.le_refl _)⟩
          case measure => simp [intOf]; omega
    · obtain rfl : i = n := by omega
      have hge : ¬ ((i : Int) < (i : Int)) := by omega
      have hfl : l = orbL i T i := hl.out
      have Hfl := Lib.hid hfl
      clear hfl hl
      go_wp2
      go_ret
      exact ⟨u3, rfl, by rw [← Hfl.out]; exact hA, hO⟩
end Go.Proofs.Ytpcamkmoabhlhaa

namespace Go.Proofs.Ytpcamkmoabhlhaa
open Go.RowKit
set_option maxRecDepth 10000
theorem AccI.low2 {B B' : Nat} {e : TypeId} {w : World} {v : Value} {l : List Int} (h : AccI B e w v l) (hB : B' ≤ B) : AccI B' e w v l := by
  obtain ⟨h1, h2⟩ := h.row
  refine AccI.ofRow ⟨h1.1, ?_⟩ h2
  rcases h1.2 with h3 | ⟨g, cap, cur, h3, h4, h5⟩
  · exact .inl h3
  · exact .inr ⟨g, cap, cur, h3, Nat.le_trans hB h4, h5⟩
set_option maxHeartbeats 2000000 in
theorem chainOrder_any {e : TypeId} {B : Nat} {L : Lay} {gv : Nat → Value} {n : Nat} {G : PM.Gens} {T : PM.Rows} {M F : List Nat} (w : World) (hC : Ch e B w L gv n G T M F) (hw : PM.WF n T) (hT : L.oT = 1) :
    Calls Try.prog 41 #[.pointer (some ⟨L.g, 0, none⟩)] w fun e w' => e = .returned (.int .i64 (PM.ordM T n n : Nat)) ∧ Only [] w w' := by
  have hn20 := hC.le
  have HcS := Lib.hid (orbitSizes_any w hC hT)
  obtain ⟨sz, hsz⟩ : ∃ sz, sz = orbL n T n := ⟨_, rfl⟩
  rw [← hsz] at HcS
  have hszl : sz.length = n := by rw [hsz, orbL_len]
  have Hszl := Lib.hid hszl
  have Hsz := Lib.hid hsz
  have Hw := Lib.hid hw
  clear hC hw hsz hszl
  go_enter Try.func41, Try.ntmps41
  go_wp2_with (first
    | (go_at_call 43; (with_reducible refine (HcS.out).mono ?_); rintro en w1 ⟨v1, rfl, hA, t1⟩; obtain ⟨a1, c1, rfl, I1⟩ := hA.rd.ints)
    | fail "no arm")
  go_loopw [3, 5] (fun o i wr => ∃ (j m : Nat), j ≤ n ∧ i = .int .i64 j ∧ o = .int .i64 (m : Nat) ∧ 1 ≤ m ∧ m * PM.ordM T n (n - j) = PM.ordM T n n ∧ wr = w1)
    (fun _ i _ => n - (intOf i).toNat)
  case atStart => exact ⟨0, 1, Nat.zero_le _, rfl, rfl, Nat.le_refl _, by rw [Nat.one_mul, Nat.sub_zero], rfl⟩
  case round =>
    obtain ⟨j, m, hj, rfl, rfl, hm1, hm, hww⟩ := hrel
    have Hm := Lib.hid hm
    clear hm
    by_cases hlt : j < n
    · have hjs : j < sz.length := by rw [Hszl.out]; exact hlt
      have hjI : (j : Int) < (sz.length : Int) := by omega
      obtain ⟨b2, o2, rfl, -, c2⟩ := I1.at_ j hjs
      have hg : sz[j] = (PM.cntR n T j : Int) := by have h1 := Hsz.out; subst h1; exact orbL_get hjs
      rw [hg] at c2
      have hstep := ord_step (T := T) hlt
      have hcp := PM.cntR_pos Hw.out hlt
      have hor := PM.ordM_rng Hw.out (n - (j + 1)) (by omega)
      have hmul : (m * PM.cntR n T j) * PM.ordM T n (n - (j + 1)) = PM.ordM T n n := by rw [Nat.mul_assoc, ← hstep]; exact Hm.out
      have hle : m * PM.cntR n T j ≤ 2432902008176640000 := by
        have h1 := PM.ordM_le Hw.out hn20 (m := n) (Nat.le_refl _)
        have h2 : m * PM.cntR n T j ≤ (m * PM.cntR n T j) * PM.ordM T n (n - (j + 1)) := Nat.le_mul_of_pos_right _ hor.1
        omega
      have hpos : 1 ≤ m * PM.cntR n T j := Nat.mul_le_mul hm1 hcp
      obtain ⟨cn, hcnn⟩ : ∃ cn, cn = PM.cntR n T j := ⟨_, rfl⟩
      rw [← hcnn] at hmul hle hpos c2
      have Hmul := Lib.hid hmul
      have hwr : IntKind.i64.wrap ((m : Int) * (cn : Int)) = ((m * cn : Nat) : Int) := by rw [IntKind.wrap_i64]; push_cast; omega
      subst hww
      clear hstep hor hmul hcnn hcp hg
      go_wp2
      go_roundw
      case rel => exact ⟨j + 1, m * cn, by omega, by go_num, rfl, hpos, Hmul.out, trivial⟩
      case measure => simp [intOf]; omega
    · have he : j = n := by omega
      have hend := ord_end (T := T) (n := n) (i := j) (by omega)
      have hfin : m = PM.ordM T n n := by have := Hm.out; rw [hend, Nat.mul_one] at this; exact this
      have Hfin := Lib.hid hfin
      have hjI : ¬ ((j : Int) < (sz.length : Int)) := by rw [Hszl.out]; omega
      subst hww
      clear he hend hfin
      go_wp2
      go_ret
      exact ⟨ret_int (by rw [Hfin.out]), t1⟩

end Go.Proofs.Ytpcamkmoabhlhaa

namespace Go.Proofs.Ytpcamkmoabhlhaa
open Go.RowKit
set_option maxRecDepth 10000
open Go.Maps (Keyed)

theorem Try.lawI64 : Keyed Try.prog 2 := Go.Maps.int_keyed Try.underlying2
theorem Try.zeroV64 (w : World) : (zeroValue 2).run Try.prog w = .ok (.int .i64 0) w := by kernel_rfl
/-- block M is a map of at most k entries; g: what lies at a key -/
def Mpv (w : World) (M k : Nat) (g : Int → Option Int) : Prop :=
  ∃ D : DataW Unit, w.ownsMap Try.prog 2 (plainElem Try.prog 2) M k D ∧ ∀ s : Int, I64 s →
    Go.Maps.has D (.int .i64 s) = (g s).isSome ∧ ∀ n, g s = some n → D.atKey (.int .i64 s) (.lit (.int .i64 0)) = .lit (.int .i64 n)
theorem Mpv.lt {w : World} {M k : Nat} {g : Int → Option Int} (h : Mpv w M k g) : M < w.heap.size := by
  obtain ⟨D, h1, -⟩ := h; exact h1.lt
theorem Mpv.frame {w w' : World} {M k : Nat} {g : Int → Option Int} (h : Mpv w M k g) (hf : w'.heap[M]? = w.heap[M]?) : Mpv w' M k g := by
  obtain ⟨D, ⟨es, c, h1, h2⟩, h3⟩ := h
  exact ⟨D, ⟨es, c, by rw [hf]; exact h1, h2⟩, h3⟩
theorem Mpv.only {w w' : World} {fp : List Nat} {M k : Nat} {g : Int → Option Int} (h : Mpv w M k g) (ho : Only fp w w') (hn : M ∉ fp) : Mpv w' M k g := h.frame (ho.block M h.lt hn)
theorem Mpv.keep {w w' : World} {M k : Nat} {g : Int → Option Int} (h : Mpv w M k g) (ho : Only [] w w') : Mpv w' M k g := h.only ho (by simp)
theorem Mpv.made (w : World) {M : Nat} (hM : M = w.heap.size) : Mpv (w.alloc (.map #[] 0)) M 0 (fun _ => none) := by
  subst hM
  exact ⟨.map [], World.ownsMap_made _ _ _ _, fun s _ => ⟨rfl, by simp⟩⟩
theorem Mpv.congr {w : World} {M k : Nat} {g g' : Int → Option Int} (h : Mpv w M k g) (hg : ∀ s, g s = g' s) : Mpv w M k g' := by
  have : g = g' := funext hg
  rw [← this]; exact h
section
variable {w : World} {M k : Nat} {g : Int → Option Int}
/-- v, ok := m[k], as an equation -/
theorem Mpv.run_ok (h : Mpv w M k g) {s : Int} (hs : I64 s) : (Instr.lookup 100 (.map (some M)) (.int .i64 s) true).run Try.prog w = .ok (.tuple #[.int .i64 ((g s).getD 0), .bool (g s).isSome]) w := by
  obtain ⟨D, hown, hg⟩ := h
  obtain ⟨h1, h2⟩ := hg s hs
  obtain ⟨v, ps, hrun, hv⟩ := hown.look_ok Try.lawI64 Try.underlying100 (Try.zeroV64 w) (plainElem_int Try.underlying2 (by decide)) (Go.Maps.keyOf_int_mk Try.underlying2 (WalkArith.wf_i64 hs))
  obtain ⟨c, rfl, hc, -⟩ := plainElem_int_inv Try.underlying2 hv
  have hc1 : D.atKey (.int .i64 s) (.lit (.int .i64 0)) = .lit (.int .i64 c) := congrArg Prod.fst hc
  have hcv : c = (g s).getD 0 := by
    cases hgs : g s with
    | none =>
      rw [hgs] at h1
      rw [Go.Maps.atKey_of_not_has h1] at hc1
      injection hc1 with hc1; injection hc1 with _ hc1; simp [hc1]
    | some n =>
      rw [h2 n hgs] at hc1
      injection hc1 with hc1; injection hc1 with _ hc1; simp [hc1]
  rw [hrun, hcv, h1]
theorem Mpv.run_yes (h : Mpv w M k g) {s : Int} (hs : I64 s) {n : Int} (hg : g s = some n) : (Instr.lookup 100 (.map (some M)) (.int .i64 s) true).run Try.prog w = .ok (.tuple #[.int .i64 n, .bool true]) w := by
  rw [h.run_ok hs, hg]; rfl
/-- m[k] = v -/
theorem Mpv.run_put (h : Mpv w M k g) {s : Int} (hs : I64 s) {n : Int} (hn : I64 n) (hk : k < maxLen) :
    ∃ w', (Instr.mapUpdate 100 (.map (some M)) (.int .i64 s) (.int .i64 n)).run Try.prog w = .ok () w' ∧ Mpv w' M (k + 1) (fun s' => if s' = s then some n else g s') ∧ Only [M] w w' := by
  obtain ⟨D, hown, hg⟩ := h
  have hwf : (Lit.int .i64 n).wf = true := WalkArith.wf_i64 hn
  obtain ⟨w', hrun, r1, r2⟩ := hown.store Try.lawI64 Try.underlying100 hk (Go.Maps.keyOf_int_mk Try.underlying2 (WalkArith.wf_i64 hs)) (plainElem_int Try.underlying2 hwf)
  have hmap := hown.isMap
  refine ⟨w', hrun, ⟨_, r1, fun s' hs' => ?_⟩, ?_⟩
  · by_cases he : s' = s
    · subst he
      have hkl : WideAt.IsKeyLit (Lit.int .i64 s') := trivial
      exact ⟨by rw [Go.Maps.has_put_same hmap hkl]; simp, fun m' hm' => by
        rw [Go.Maps.atKey_put_same hmap hkl]; simp at hm'; rw [hm']⟩
    · have hne : (Lit.int .i64 s') ≠ .int .i64 s := by
        intro e; injection e with _ e; exact he e
      obtain ⟨h1, h2⟩ := hg s' hs'
      exact ⟨by rw [Go.Maps.has_put_other hne, h1]; simp [he], fun m' hm' => by
        rw [Go.Maps.atKey_put_other hne]; simp [he] at hm'; exact h2 m' hm'⟩
  · exact (Only.refl _ _).grown r2.grown (by intro j hj _; injection hj with hj; subst hj; simp)
end
end Go.Proofs.Ytpcamkmoabhlhaa

namespace Go.Proofs.Ytpcamkmoabhlhaa
open Go.RowKit
set_option maxRecDepth 10000

/-- a value's point -/
def gV (m ys : List Int) (x : Int) : Option Int := if x ∈ PM.choO m ys then some (PM.at_ (PM.inv m) x) else none
theorem gV_nil (m : List Int) (x : Int) : gV m [] x = none := rfl
theorem gV_snoc {n : Nat} {m : List Int} (hm : PM.PN n m) {ys : List Int} {y : Int} (h0 : 0 ≤ y) (h1 : y < n) (x : Int) : (if x = PM.at_ m y then some y else gV m ys x) = gV m (ys ++ [y]) x := by
  unfold gV
  rw [PM.choO_snoc]
  by_cases hx : x = PM.at_ m y
  · rw [if_pos hx, if_pos (PM.mem_insU.2 (Or.inl hx)), hx, PM.at_inv hm h0 h1]
  · rw [if_neg hx]
    by_cases hm2 : x ∈ PM.choO m ys
    · rw [if_pos hm2, if_pos (PM.mem_insU.2 (Or.inr hm2))]
    · rw [if_neg hm2, if_neg (fun h => (PM.mem_insU.1 h).elim hx hm2)]
theorem Mpv.mono {w : World} {M k k' : Nat} {g : Int → Option Int} (h : Mpv w M k g) (hk : k ≤ k') : Mpv w M k' g := by
  obtain ⟨D, h1, h2⟩ := h
  exact ⟨D, h1.mono hk, h2⟩
set_option maxHeartbeats 2000000 in
theorem values_any {e : TypeId} {B : Nat} {L : Lay} {gv : Nat → Value} {n : Nat} {G : PM.Gens} {T : PM.Rows} {M F : List Nat} (w : World) (hC : Ch e B w L gv n G T M F) (hT : L.oT = 2) (b i : Nat) (hi : i < n) (v : Value) (m : List Int) (fm : List Nat)
    (hb : Blk w b [.pointer (some ⟨L.g, 0, none⟩), .int .i64 i, v]) (hv : Rd w v m fm) (hm : PM.PN n m) :
    Calls Try.prog 93 #[.pointer (some ⟨b, 0, none⟩)] w fun e w' => ∃ K, e = .returned (.map (some K)) ∧ w.heap.size ≤ K ∧ Mpv w' K 1000 (gV m (orb n T i)) ∧ Only [] w w' := by
  obtain ⟨A, C, rfl, IM⟩ := hv.ints
  have hn20 := hC.le
  have hml := hm.1
  have ct := hC.ct
  rw [hT] at ct
  have cr := hC.row i hi
  have kA : Only [] w (w.alloc (.map #[] 0)) := (Only.refl _ _).alloc _
  have z0 := kA.cell (by simp) (hb.cell 0 rfl)
  have z1 := kA.cell (by simp) (hb.cell 1 rfl)
  have zt := kA.cell (by simp) ct
  have zr := kA.cell (by simp) cr
  have y2 := hb.cell 2 rfl
  have hmm := @run_makeMap Try.prog
  have M0 := (Mpv.made w rfl).congr (fun x => (gV_nil m x).symm)
  obtain ⟨ys, hys⟩ : ∃ ys, ys = orb n T i := ⟨_, rfl⟩
  have hyr : ∀ y ∈ ys, 0 ≤ y ∧ y < n := fun y hy => by rw [hys] at hy; exact (mem_orb.1 hy).1
  have hyl : ys.length ≤ 20 := by
    rw [hys]
    have h1 : (orb n T i).length ≤ (PM.pts n).length := PM.nodup_sub_len (orb_nodup n T i) fun y hy => PM.mem_pts.2 (mem_orb.1 hy).1
    rw [PM.pts_len] at h1
    omega
  rw [← hys]
  have Hys := Lib.hid hys
  have HC := Lib.hid hC
  have Hm := Lib.hid hm
  have HIM := Lib.hid IM
  have HM0 := Lib.hid M0
  have Hyr := Lib.hid hyr
  have Hml := Lib.hid hml
  clear hC hm M0 hT hys hyr IM hml ct cr
  go_enter Try.func93, Try.ntmps93
  go_wp2_with fail
  go_region_held3 (fun w' => Only [] (w.alloc (.map #[] 0)) w' ∧ w'.cell? ⟨b, 0, none⟩ = some (.pointer (some ⟨L.g, 0, none⟩)) ∧ w'.cell? ⟨b, 1, none⟩ = some (.int .i64 i) ∧ w'.cell? ⟨L.g, 2, none⟩ = some (.slice (some ⟨L.bt, 0, none⟩) n L.cT) ∧ w'.cell? ⟨L.bt, i, none⟩ = some (.slice (some ⟨L.rb i, 0, none⟩) n n)) (((refine and_of ?_ (fun h__ => ⟨h__.cell (by simp) z0, h__.cell (by simp) z1, h__.cell (by simp) zt, h__.cell (by simp) zr⟩)); first | exact (Only.refl _ _).drew | exact ((Only.refl _ _).drewN _).drew | exact Only.trans (And.left (by assumption)) (by assumption) | exact Only.alloc (And.left (by assumption)) _ | assumption)) (first | (go_at_call 40; (with_reducible refine (orbitOf_any _ (HC.out.keep (kA.trans (And.left (by assumption)))) i hi).mono ?_); rintro e w1 ⟨vo, fo, rfl, A1, F1, t1⟩; rw [← Hys.out] at A1; have kX : Only [] (w.alloc (.map #[] 0)) w1 := Only.trans (And.left (by assumption)) t1; have kB := Only.trans kA kX; have r1 := A1.rd (by decide); have F2 := A1.fresh F1; obtain ⟨ao, co, rfl, IO⟩ := r1.ints) | fail "no arm")
  have hge : ∀ b ∈ ((Value.slice ao ys.length co).ownBlock.toList ++ fo.flatten), w.heap.size < b := fun b hb => by
    have := F2.ge b hb
    simp at this
    omega
  have HIO := Lib.hid IO
  have Hge := Lib.hid hge
  clear A1 F1 F2 r1 IO hge z0 z1 zt zr t1
  go_wp2_with fail
  go_loopw [22] (fun i wr => ∃ j : Nat, j ≤ ys.length ∧ i = .int .i64 j ∧ Mpv wr w.heap.size j (gV m (ys.take j)) ∧ Only [w.heap.size] w1 wr)
    (fun i _ => ys.length - (intOf i).toNat)
  case atStart => exact ⟨0, Nat.zero_le _, rfl, HM0.out.keep kX, Only.refl _ _⟩
  case round =>
    obtain ⟨W2, hnew⟩ : ∃ W, W = wr := ⟨_, rfl⟩
    subst hnew
    obtain ⟨j, hj, rfl, hM, hO⟩ := hrel
    have KO : Only [] w W2 := kB.then_ hO (fun b hb hl => by simp at hb; omega)
    by_cases hlt : j < ys.length
    · obtain ⟨y, hy⟩ : ∃ y, y = ys[j] := ⟨_, rfl⟩
      have hyr := Hyr.out y (by rw [hy]; exact List.getElem_mem hlt)
      obtain ⟨b2, o2, rfl, -, c2⟩ := (HIO.out.only hO (fun b hb hm => by have := Hge.out b hb; simp at hm; omega)).at_ j hlt
      rw [← hy] at c2
      obtain ⟨b3, o3, rfl, -, c3⟩ := (HIM.out.keep KO).at_pm (x := y) hyr.1 (by rw [Hml.out]; exact hyr.2)
      have y2' := KO.cell (by simp) y2
      have hym : y < (m.length : Int) := by rw [Hml.out]; exact hyr.2
      have hy0 := hyr.1
      have hmr := Hm.out.rng hyr.1 hyr.2
      obtain ⟨w3, hrun3, hM3, hO3⟩ := hM.run_put (s := PM.at_ m y) (by unfold I64; omega) (n := y) (by unfold I64; omega) (by unfold maxLen; omega)
      have htk : ys.take (j + 1) = ys.take j ++ [y] := by rw [take_succ_get ys j hlt, hy]
      have Htk := Lib.hid htk
      clear htk hy
      go_wp2
      go_roundw
      case rel => exact ⟨j + 1, by omega, by go_num, hM3.congr (fun x => by rw [Htk.out]; exact gV_snoc Hm.out hyr.1 hyr.2 x), hO.trans hO3⟩
      case measure => simp [intOf]; omega
    · have hfin : Mpv W2 w.heap.size 1000 (gV m ys) := by
        rw [List.take_of_length_le (by omega)] at hM
        exact hM.mono (by omega)
      go_wp2
      go_ret
      exact ⟨w.heap.size, rfl, Nat.le_refl _, hfin, KO⟩
theorem gV_yes {n : Nat} {T : PM.Rows} {i : Nat} {m : List Int} {vv : Int} (h : vv ∈ PM.cho n T i m) : gV m (orb n T i) vv = some (PM.at_ (PM.inv m) vv) := if_pos h
theorem gV_no {n : Nat} {T : PM.Rows} {i : Nat} {m : List Int} {vv : Int} (h : vv ∉ PM.cho n T i m) : gV m (orb n T i) vv = none := if_neg h
/-- the walk has taken a value: q is chosen, the level is still i -/
def TK (w : World) (L : Lay) (b i : Nat) (q : List Int) (wx : World) : Prop :=
  ∃ a c f', Blk wx b [.pointer (some ⟨L.g, 0, none⟩), .int .i64 i, .slice a q.length c] ∧ Rd wx (.slice a q.length c) q f' ∧ Fresh w.heap.size wx f' ∧ Only [b] w wx
theorem TK.of {w w1 w5 w6 : World} {L : Lay} {b i : Nat} {q : List Int} {a : Option Addr} {c : Nat} {f' : List Nat} {v : Value} (t1 : Only [] w w1) (k5 : Only [] w1 w5) (Y5 : Blk w5 b [.pointer (some ⟨L.g, 0, none⟩), .int .i64 i, v]) (hb : b < w.heap.size)
    (r5 : Rd w5 (.slice a q.length c) q f') (F5 : Fresh w1.heap.size w5 f') (h6 : w6 = w5.setCell ⟨b, 2, none⟩ (.slice a q.length c)) : TK w L b i q w6 := by
  subst h6
  have hs : Only [b] w5 (w5.setCell ⟨b, 2, none⟩ (.slice a q.length c)) := (Only.refl _ _).setCell (by simp) _
  have hsz := t1.size
  have hd : ∀ z ∈ f', z ∉ [b] := fun z hz hm => by have := F5.ge z hz; simp at hm; omega
  have hB := Y5.set 2 (.slice a q.length c)
  simp only [List.set] at hB
  exact ⟨a, c, f', hB, Rp.only r5 hs hd, (F5.mono hsz).only hs hd, ((t1.trans k5).weaken _).trans hs⟩
set_option maxHeartbeats 4000000 in
theorem take_yes {e : TypeId} {B : Nat} {L : Lay} {gv : Nat → Value} {n : Nat} {G : PM.Gens} {T : PM.Rows} {M F : List Nat} (w : World) (hC : Ch e B w L gv n G T M F) (hw : PM.WF n T) (hT : L.oT = 2) (b i : Nat) (hi : i < n) (v : Value) (m : List Int) (fm : List Nat)
    (hb : Blk w b [.pointer (some ⟨L.g, 0, none⟩), .int .i64 i, v]) (hv : Rd w v m fm) (hm : PM.PN n m) (vv : Int) (hvv : vv ∈ PM.cho n T i m) :
    Calls Try.prog 84 #[.pointer (some ⟨b, 0, none⟩), .int .i64 vv] w fun e w' => e = .returned (.bool true) ∧ (∃ v' f', Blk w' b [.pointer (some ⟨L.g, 0, none⟩), .int .i64 ((i : Int) + 1), v'] ∧ Rd w' v' (PM.putV T i m vv) f' ∧ Fresh w.heap.size w' f') ∧ Only [b] w w' := by
  have hn20 := hC.le
  obtain ⟨hv0, hv1, hp0, hp1, hp2, hp3⟩ := PM.cho_pre hm hvv
  have hI : I64 vv := by unfold I64; omega
  have HcV := Lib.hid (values_any w hC hT b i hi v m fm hb hv hm)
  have Hyes := Lib.hid (gV_yes hvv)
  obtain ⟨A, C, rfl, IM⟩ := hv.ints
  obtain ⟨y, hy⟩ : ∃ y, y = PM.at_ (PM.inv m) vv := ⟨_, rfl⟩
  rw [← hy] at Hyes hp0 hp1 hp2 hp3
  have hput : PM.putV T i m vv = PM.comp (PM.tr T i y) m := by unfold PM.putV; rw [← hy]
  have ct := hC.ct
  rw [hT] at ct
  have cr := hC.row i hi
  obtain ⟨bt, ot, capt, ft, crt, hrt, -⟩ := hC.at_some hi hp0 hp1 hp2
  have htp := hw.pn i y hi hp2
  have hlt := Lib.hid htp.1
  have HC := Lib.hid hC
  have Hm := Lib.hid hm
  have Hp := Lib.hid hput
  have Htp := Lib.hid htp
  have HI := Lib.hid hI
  have y0 := hb.cell 0 rfl
  have y1 := hb.cell 1 rfl
  have y2 := hb.cell 2 rfl
  have hblt := hb.lt
  clear hC hm hvv hI hy hput hp2 hp3 htp hv0 hv1 IM
  go_enter Try.func84, Try.ntmps84
  go_upto_region 4 with (first
    | (go_at_call 93; (with_reducible refine (HcV.out).mono ?_); rintro en w1 ⟨K, rfl, hK, hM, t1⟩; have hrun := hM.run_yes HI.out Hyes.out)
    | fail "no arm")
  have x0 := t1.cell (by simp) y0
  have x1 := t1.cell (by simp) y1
  have x2 := t1.cell (by simp) y2
  have xt := t1.cell (by simp) ct
  have xr := t1.cell (by simp) cr
  have xy := t1.cell (by simp) crt
  clear y0 y1 y2 ct cr crt hrun hM
  have kd : Only [] w1 w1.drew := (Only.refl _ _).drew
  have d0 := kd.cell (by simp) x0
  have d1 := kd.cell (by simp) x1
  have d2 := kd.cell (by simp) x2
  have dt := kd.cell (by simp) xt
  have dr := kd.cell (by simp) xr
  have dy := kd.cell (by simp) xy
  have HcC := Lib.hid (fun (W : World) (hW : Only [] w1 W) => implCompose_rd n _ _ (PM.tr T i y) m _ _ W (Rp.keep hrt (Only.trans t1 hW)) (Rp.keep hv (Only.trans t1 hW)) Htp.out Hm.out (by omega))
  have Hb := Lib.hid (fun (W : World) (hW : Only [] w1 W) => hb.keep (t1.trans hW))
  clear kd
  go_cut [] (fun wx => TK w L b i (PM.comp (PM.tr T i y) m) wx)
  case first =>
   go_region_law (first
    | (go_simp; go_at_call 80; (with_reducible refine (HcC.out _ (by with_reducible repeat (first | exact Only.refl _ _ | refine Only.drew ?_))).mono ?_); rintro e w5 ⟨v5, f5, rfl, r5, F5, t5⟩; have k5 : Only [] w1 w5 := Only.trans (by with_reducible repeat (first | exact Only.refl _ _ | refine Only.drew ?_)) t5; have Y5 := Hb.out _ k5; have x5 := Y5.cell 2 rfl; have q5 := Y5.frozen 2; have r50 := r5; obtain ⟨a5, c5, rfl, _⟩ := r5.ints)
    | fail "no arm")
   all_goals go_wp2_with fail
   all_goals go_meet
   all_goals exact TK.of t1 k5 Y5 hblt r50 (F5.mono (by simp)) rfl
  case rest =>
    obtain ⟨a6, c6, f6, B6, r6, F6, O6⟩ := hcut
    obtain ⟨W2, hnew⟩ : ∃ W, W = wc := ⟨_, rfl⟩
    subst hnew
    have z1 := B6.cell 1 rfl
    have p1 := B6.frozen 1
    have hs : Only [b] W2 (W2.setCell ⟨b, 1, none⟩ (.int .i64 ((i : Int) + 1))) := (Only.refl _ _).setCell (by simp) _
    have hd : ∀ z ∈ f6, z ∉ [b] := fun z hz hm => by have := F6.ge z hz; simp at hm; omega
    have hB := B6.set 1 (.int .i64 ((i : Int) + 1))
    simp only [List.set] at hB
    have hfin := (⟨⟨_, _, hB, Rp.only r6 hs hd, F6.only hs hd⟩, O6.trans hs⟩ : (∃ v' f', Blk (W2.setCell ⟨b, 1, none⟩ (.int .i64 ((i : Int) + 1))) b [.pointer (some ⟨L.g, 0, none⟩), .int .i64 ((i : Int) + 1), v'] ∧ Rd (W2.setCell ⟨b, 1, none⟩ (.int .i64 ((i : Int) + 1))) v' (PM.comp (PM.tr T i y) m) f' ∧ Fresh w.heap.size (W2.setCell ⟨b, 1, none⟩ (.int .i64 ((i : Int) + 1))) f') ∧ Only [b] w (W2.setCell ⟨b, 1, none⟩ (.int .i64 ((i : Int) + 1))))
    have hwi : IntKind.i64.wrap ((i : Int) + 1) = (i : Int) + 1 := by rw [IntKind.wrap_i64]; omega
    have Hfin := Lib.hid hfin
    clear hfin hB hs hd r6 F6 O6
    go_wp2
    go_ret
    rw [Hp.out]
    exact ⟨rfl, Hfin.out⟩
end Go.Proofs.Ytpcamkmoabhlhaa

namespace Go.Proofs.Ytpcamkmoabhlhaa
open Go.RowKit
set_option maxRecDepth 10000

theorem ranges_frame {P : Program} {k : TypeId} {R : Value → Option (DataW Unit × List MemPlace)} {b r n cnt : Nat} {D : DataW Unit} {left : Lit → Bool} {w w' : World} (h : w.ranges P k R b r n D left cnt) (hb : w'.heap[b]? = w.heap[b]?) (hr : w'.heap[r]? = w.heap[r]?) : w'.ranges P k R b r n D left cnt := by
  obtain ⟨es, clock, since, seen, c0, h1, F, hs, hD, h2, rest⟩ := h
  exact ⟨es, clock, since, seen, c0, hb.trans h1, F, hs, hD, hr.trans h2, rest⟩
theorem AccI.low {B B' : Nat} {e : TypeId} {w : World} {v : Value} {l : List Int} (h : AccI B e w v l) (hB : B' ≤ B) : AccI B' e w v l := by
  obtain ⟨h1, h2⟩ := h.row
  refine AccI.ofRow ⟨h1.1, ?_⟩ h2
  rcases h1.2 with h3 | ⟨g, cap, cur, h3, h4, h5⟩
  · exact .inl h3
  · exact .inr ⟨g, cap, cur, h3, Nat.le_trans hB h4, h5⟩
theorem same_int (a b : Int) : (Lit.int .i64 a).sameKey (.int .i64 b) = decide (a = b) := by
  show decide (IntKind.i64 = IntKind.i64 ∧ a = b) = _
  by_cases h : a = b <;> simp [h]
/-- the keys met so far: l; those to come: left -/
structure KL (C : List Int) (left : Lit → Bool) (l : List Int) : Prop where
  nd : l.Nodup
  iff : ∀ x, I64 x → (x ∈ l ↔ x ∈ C ∧ left (.int .i64 x) = false)
  big : ∀ x ∈ l, I64 x
  dom : ∀ x, I64 x → left (.int .i64 x) = true → x ∈ C
theorem KL.step {C : List Int} {left : Lit → Bool} {l : List Int} (h : KL C left l) {x : Int} (hx : I64 x) (hl : left (.int .i64 x) = true) : KL C (fun z => left z && !z.sameKey (.int .i64 x)) (l ++ [x]) := by
  have hn : x ∉ l := fun hm => by have := ((h.iff x hx).1 hm).2; rw [hl] at this; cases this
  refine ⟨?_, fun y hy => ?_, fun y hy => ?_, fun y hy hl2 => ?_⟩
  · rw [List.nodup_append]
    exact ⟨h.nd, by simp, fun a ha b hb => by simp at hb; subst hb; intro e; subst e; exact hn ha⟩
  · rw [List.mem_append, h.iff y hy]
    simp only [List.mem_singleton, same_int]
    by_cases he : y = x
    · subst he; simp [h.dom _ hx hl]
    · simp [he]
  · rcases List.mem_append.1 hy with hy | hy
    · exact h.big y hy
    · simp at hy; subst hy; exact hx
  · simp only [same_int, Bool.and_eq_true] at hl2
    exact h.dom y hy hl2.1
theorem KL.end_ {C : List Int} {left : Lit → Bool} {l : List Int} (h : KL C left l) (hl : ∀ z, left z = false) (hC : PM.Asc C) (hCb : ∀ x ∈ C, I64 x) : (l.mergeSort fun x y => decide (x ≤ y)) = C := by
  refine PM.asc_ext (sorted_asc h.nd) hC fun x => ?_
  rw [sorted_mem]
  constructor
  · intro hx; exact ((h.iff x (h.big x hx)).1 hx).1
  · intro hx; exact (h.iff x (hCb x hx)).2 ⟨hx, hl _⟩
set_option maxHeartbeats 4000000 in
theorem walkSorted_any {e : TypeId} {B : Nat} {L : Lay} {gv : Nat → Value} {n : Nat} {G : PM.Gens} {T : PM.Rows} {M F : List Nat} (w : World) (hC : Ch e B w L gv n G T M F) (hw : PM.WF n T) (hT : L.oT = 2) (b i : Nat) (hi : i < n) (v : Value) (m : List Int) (fm : List Nat)
    (hb : Blk w b [.pointer (some ⟨L.g, 0, none⟩), .int .i64 i, v]) (hv : Rd w v m fm) (hm : PM.PN n m) :
    Calls Try.prog 83 #[.pointer (some ⟨b, 0, none⟩)] w fun e w' => ∃ v', e = .returned v' ∧ AccI w.heap.size 2 w' v' (PM.cho n T i m) ∧ Only [] w w' := by
  obtain ⟨i0, hii, hz0, hz1, hz2⟩ := info_parts Try.info2
  have HcV := Lib.hid (values_any w hC hT b i hi v m fm hb hv hm)
  obtain ⟨C, hCd⟩ : ∃ C, C = PM.cho n T i m := ⟨_, rfl⟩
  have hn20 := hC.le
  have hAs : PM.Asc C := by rw [hCd]; exact PM.choO_asc _ _
  have hCb : ∀ x ∈ C, I64 x := fun x hx => by rw [hCd] at hx; have := PM.cho_pre hm hx; unfold I64; omega
  have hCl : C.length ≤ 1000 := by rw [hCd, PM.cho_len hm]; have := PM.cntR_le n T i; omega
  have hCne : C ≠ [] := fun hc => by
    have h1 := PM.cho_len (T := T) (i := i) hm
    rw [← hCd, hc] at h1
    have h2 := PM.cntR_pos hw hi
    simp at h1; omega
  have hgC : ∀ x, (gV m (orb n T i) x).isSome = decide (x ∈ C) := fun x => by
    rw [hCd]
    by_cases hx : x ∈ PM.cho n T i m
    · rw [gV_yes hx]; simp [hx]
    · rw [gV_no hx]; simp [hx]
  rw [← hCd]
  have HAs := Lib.hid hAs
  have HCb := Lib.hid hCb
  have HCne := Lib.hid hCne
  have HgC := Lib.hid hgC
  clear hC hm hb hv hw hAs hCb hCne hgC hCd
  go_enter Try.func83, Try.ntmps83
  go_wp2_with (first
    | (go_at_call 93; (with_reducible refine (HcV.out).mono ?_); rintro en w1 ⟨K, rfl, hK, hM, t1⟩; obtain ⟨D, hown, hg⟩ := hM)
    | (at_range; refine wpList_range_own _ rfl _ 100 rfl 2 2 Try.lawI64 Try.underlying100 _ K 1000 D rfl hown ?_; intro w0 hrg0 hg0 hs0)
    | fail "no arm")
  go_frame
  have hKl := hown.lt
  have k01 : Only [] w1 w0 := (Only.refl _ _).grown hg0 (by intro j hj; cases hj)
  have kw0 : Only [] w w0 := t1.trans k01
  have hl0 : KL C (Go.Maps.has D) [] := ⟨List.nodup_nil, fun x hx => by
      rw [(hg x hx).1, HgC.out]
      by_cases hm : x ∈ C <;> simp [hm], by simp, fun x hx hl => by rw [(hg x hx).1, HgC.out] at hl; simpa using hl⟩
  clear hg hg0 hown t1 k01
  go_loopw [3] (fun o wr => ∃ (left : Lit → Bool) (cnt : Nat) (l : List Int), wr.ranges Try.prog 2 (plainElem Try.prog 2) K w1.heap.size 1000 D left cnt ∧ AccI (w1.heap.size + 1) 2 wr o l ∧ KL C left l ∧ Only [] w wr ∧ w1.heap.size + 1 ≤ wr.heap.size)
    (fun _ wr => wr.rangeLeft K w1.heap.size)
  case atStart => exact ⟨_, _, [], hrg0, AccI.nil _ _ _, hl0, kw0, by omega⟩
  case round =>
    obtain ⟨W2, hnew⟩ : ∃ W, W = wr := ⟨_, rfl⟩
    subst hnew
    obtain ⟨left, cnt, l, hrg, hA, hKL, hO, hsz⟩ := hrel
    have hll : l.length ≤ 1000 := Nat.le_trans (PM.nodup_sub_len hKL.nd fun x hx => ((hKL.iff x (hKL.big x hx)).1 hx).1) hCl
    have hlow : w.heap.size ≤ w1.heap.size + 1 := by have := kw0.size; omega
    go_wp2_with (first
      | (at_next; refine wpList_next_ranges_ii _ rfl _ rfl 2 2 .i64 .i64 Try.lawI64 Try.underlying2 Try.underlying2 K w1.heap.size 1000 _ _ _ rfl hrg ?_ ?_)
      | fail "no arm")
    · intro _ hl0
      have hfin := hKL.end_ hl0 HAs.out HCb.out
      have hlne : l ≠ [] := fun hc => HCne.out (by rw [← hfin, hc]; simp)
      have Hfin := Lib.hid hfin
      obtain ⟨a, c, ho⟩ := hA.form
      subst ho
      clear hfin hl0
      go_wp2_with (first
        | (go_at_call 86; (with_reducible refine (sort_accI W2 _ l hA hlne hll).mono ?_); rintro en w3 ⟨rfl, hA3, hO3⟩; rw [Hfin.out] at hA3)
        | fail "no arm")
      go_ret
      exact ⟨_, rfl, hA3.low hlow, hO.then_ hO3 (fun z hz hl => by have := (hA.ownlt z (by simpa using hz)).1; omega)⟩
    · intro x c w2 cnt1 hwx hwc hlx hat hrg1 hlt hg1 hs1 hen
      have hxI : I64 x := by have h9 := hwx; simp [Lit.wf, IntKind.min, IntKind.max, IntKind.signed, IntKind.bits] at h9; unfold I64; omega
      have k2 : Only [w1.heap.size] W2 w2 := (Only.refl _ _).grown hg1 (by intro j hj _; injection hj with hj; subst hj; simp)
      have hA2 := hA.only k2 (fun g hg hm => by have := (hA.ownlt g hg).1; simp at hm; omega)
      have hO2 : Only [] w w2 := hO.then_ k2 (fun z hz hl => by simp at hz; have := kw0.size; omega)
      have hK2 := hKL.step hxI hlx
      have HXI := Lib.hid hxI
      have hsB : w1.heap.size + 1 ≤ w2.heap.size := by omega
      have Hs1 := Lib.hid hs1
      clear hs1
      clear hKL hxI hat hwx hwc hlx
      go_wp2_with (first
        | (at_builtin; refine wpList_pushI rfl _ _ 23 rfl (w1.heap.size + 1) 2 i0 _ Try.underlying23 hii hz0 hz1 hz2 rfl w2 u3 l rfl hA2 ((Only.refl _ _).alloc _) hsB w2.heap.size 1 x rfl (lit1 w2 _ _ rfl) HXI.out (by omega) ?_; intro v3 w3 hA3 hO3 hP3 hN3)
        | fail "no arm")
      have hsz2 : w2.heap.size = W2.heap.size := Hs1.out
      have hne : ∀ g, g ≤ w1.heap.size → w3.heap[g]? = w2.heap[g]? := fun g hg => by
        have h1 : g < w2.heap.size := by omega
        have h2 := hO3.block g (by simp; omega) (fun hm => by have := (hA2.ownlt g (by simpa using hm)).1; omega)
        have h3 := ((Only.refl [] w2).alloc (.cells #[.int .i64 x] 2)).block g h1 (by simp)
        exact h2.trans h3
      have hrg3 := ranges_frame hrg1 (hne K (by omega)) (hne _ (Nat.le_refl _))
      have hsz3 := hO3.size
      simp at hsz3
      go_roundw
      case rel => exact ⟨_, cnt1, l ++ [x], hrg3, hA3, hK2, hP3 w (hO2.alloc _) hlow, by omega⟩
      case measure => rw [hrg3.left_eq, hrg.left_eq]; exact hlt
end Go.Proofs.Ytpcamkmoabhlhaa

namespace Go.Proofs.Ytpcamkmoabhlhaa
open Go.RowKit
set_option maxRecDepth 10000

theorem from_any (g : Nat) (v : Value) (m : List Int) (f : List Nat) (w : World) (hv : Rd w v m f) :
    Calls Try.prog 82 #[.pointer (some ⟨g, 0, none⟩), v] w fun e w' => e = .returned (.pointer (some ⟨w.heap.size, 0, none⟩)) ∧ Blk w' w.heap.size [.pointer (some ⟨g, 0, none⟩), .int .i64 (0 : Nat), v] ∧ Only [] w w' ∧ w'.heap.size = w.heap.size + 1 := by
  obtain ⟨A, C, rfl, -⟩ := hv.ints
  go_enter Try.func82, Try.ntmps82
  go_wp2
  go_ret
  exact ⟨rfl, Blk.new _ _ _, (Only.refl _ _).alloc _, by simp⟩


end Go.Proofs.Ytpcamkmoabhlhaa

namespace Go.Proofs.Ytpcamkmoabhlhaa
open Go.RowKit
set_option maxRecDepth 10000

set_option maxHeartbeats 4000000 in
theorem memberAt_yes (n : Nat) {B : Nat} {L : Lay} {gv : Nat → Value} {gens : List (List Int)} {G : PM.Gens} {T : PM.Rows} {M F : List Nat} (k : Nat) (w : World) (hC : Ch 23 B w L gv n G T M F) (hCh : PM.Chain n gens G T) (hT : L.oT = 2) (hpn : ∀ g ∈ gens, PM.PN n g) (hk : k < ordC n gens n) :
    Calls Try.prog 60 #[.pointer (some ⟨L.g, 0, none⟩), .int .i64 k] w fun e w' => ∃ v f, e = .returned (.tuple #[v, .bool true]) ∧ Rd w' v (memAt n gens k) f ∧ Fresh w.heap.size w' f ∧ Only [] w w' := by
  have hn : 0 < n := hC.pos
  have hn20 : n ≤ 20 := hC.le
  have Hpn := Lib.hid hpn
  obtain ⟨R, hR⟩ : ∃ R, R = memAt n gens k := ⟨_, rfl⟩
  rw [← hR]
  have HR := Lib.hid hR
  clear hR hpn
  have hOE : ∀ j, j ≤ n → PM.ordM T n j = ordC n gens j := fun j hj => ordC_eq hCh hn Hpn.out hj
  have hole := ordC_le hCh hn Hpn.out hn20 (j := n) (Nat.le_refl _)
  have hRng : inR (k : Int) 0 ((ordC n gens n : Nat) - 1 : Int) = true := inR_iff.2 (by omega)
  have HOE := Lib.hid hOE
  have hst : ∀ i, i < n → k % ordC n gens (n - i) % ordC n gens (n - (i + 1)) = k % ordC n gens (n - (i + 1)) := fun i hi => mod_step hCh hn Hpn.out k hi
  have hgood := msel_good hCh hn Hpn.out k
  have hpos : ∀ j, j ≤ n → 1 ≤ ordC n gens j := fun j hj => ordC_pos hCh hn Hpn.out hj
  have hle : ∀ j, j ≤ n → ordC n gens j ≤ 2432902008176640000 := fun j hj => ordC_le hCh hn Hpn.out hn20 hj
  have hk0 : k % ordC n gens (n - 0) = k := by rw [Nat.sub_zero]; exact Nat.mod_eq_of_lt hk
  have Hst := Lib.hid hst
  have Hgood := Lib.hid hgood
  have Hpos := Lib.hid hpos
  have Hle := Lib.hid hle
  have Hk0 := Lib.hid hk0
  have HC := Lib.hid hC
  have hwf := hCh.inv.wf
  have Hwf := Lib.hid hwf
  have HoT := Lib.hid hT
  have hR0 : R = PM.desc T n (msel n gens k) (n - 0) 0 (PM.pts n) := by rw [HR.out, Nat.sub_zero]; exact (hCh.descG hn Hpn.out (msel n gens k) hgood).symm
  have HR0 := Lib.hid hR0
  have HCh := Lib.hid hCh
  have hcn := hC.cn
  obtain ⟨od, hod⟩ : ∃ od, od = ordC n gens n := ⟨_, rfl⟩
  rw [← hod] at hole hRng
  have HRng := Lib.hid hRng
  have HcO : Hid (Calls Try.prog 38 #[.pointer (some ⟨L.g, 0, none⟩), .int .i64 0] w fun e w' => e = .returned (.int .i64 (od : Nat)) ∧ Only [] w w') := Lib.hid (by
    rw [hod, ← hOE n (Nat.le_refl _)]
    exact implOrder0 hC hwf hT)
  have hwo : IntKind.i64.wrap ((od : Int) - 1) = (od : Int) - 1 := by rw [IntKind.wrap_i64]; omega
  have hbM0 := hC.lM
  have hbF0 := hC.lF
  clear hOE hRng hst hgood hpos hle hk0 hC hwf hT hR0 hCh hod
  go_enter Try.func60, Try.ntmps60
  go_wp2_with (first
    | (go_at_call 38; (with_reducible refine (HcO.out).mono ?_); rintro en w1 ⟨rfl, t1⟩; have c1n := t1.cell (by simp) hcn)
    | (go_at_call 54; (with_reducible refine (within_any (k : Int) 0 ((od : Int) - 1) _).mono ?_); rintro e w1' ⟨he, h1⟩; rw [HRng.out] at he; subst he; rw [h1]; clear h1)
    | (go_at_call 58; (with_reducible refine (implIdentity_any n w1 (by omega)).mono ?_); rintro en w4 ⟨v4, f4, rfl, r4, F4, t4⟩)
    | (go_at_call 82; (with_reducible refine (from_any L.g v4 (PM.pts n) f4 w4 r4).mono ?_); rintro en w5 ⟨rfl, hB5, t5, hs5⟩)
    | fail "no arm")
  have z1 := t1.size
  have z4 := t4.size
  have k5 : Only [] w w5 := (t1.trans t4).trans t5
  have hC5 := HC.out.keep k5
  have r5 := Rp.keep r4 t5
  have F5 : Fresh w.heap.size w5 f4 := (F4.keep t5).mono z1
  have hbM : ∀ z ∈ [w4.heap.size], z ∉ M := fun z hz hm => by have := hbM0 z hm; simp at hz; omega
  have hbF : ∀ z ∈ [w4.heap.size], z ∉ F := fun z hz hm => by have := hbF0 z hm; simp at hz; omega
  have HbM := Lib.hid hbM
  have HbF := Lib.hid hbF
  clear hbM hbF t1 t4 t5 r4 F4 hs5 c1n hbM0 hbF0 HcO
  go_loopw [1] (fun kv wr => ∃ (i : Nat) (v : Value) (m : List Int) (f : List Nat), i ≤ n ∧ kv = .int .i64 (k % ordC n gens (n - i) : Nat) ∧ Blk wr w4.heap.size [.pointer (some ⟨L.g, 0, none⟩), .int .i64 i, v] ∧ Rd wr v m f ∧ Fresh w.heap.size wr f ∧ Ch 23 B wr L gv n G T M F ∧ PM.Grp n gens m ∧ Hid (R = PM.desc T n (msel n gens k) (n - i) i m) ∧ Only [] w wr)
    (fun _ wr => n - (intOf ((wr.cell? ⟨w4.heap.size, 1, none⟩).getD undef)).toNat)
  case atStart => exact ⟨0, v4, PM.pts n, f4, Nat.zero_le _, by rw [Hk0.out], hB5, r5, F5, hC5, .id, HR0, k5⟩
  case round =>
    obtain ⟨W2, hnew⟩ : ∃ W, W = wr := ⟨_, rfl⟩
    subst hnew
    clear hB5 r5 F5 hC5 k5
    obtain ⟨i, v, m, f, hi, rfl, hB, hr, hF, hC, hgr, hRR, hO⟩ := hrel
    have y1 := hB.cell 1 rfl
    have yn := hC.cn
    go_upto_region 4 with fail
    go_quiet (fail)
    obtain ⟨W3, hW3⟩ : ∃ W, W = W2.drewN nq := ⟨_, rfl⟩
    have kq : Only [] W2 W3 := by rw [hW3]; exact (Only.refl _ _).drewN _
    rw [← hW3]
    have hB3 := hB.keep kq
    have hC3 := hC.keep kq
    have hr3 := Rp.keep hr kq
    have hF3 := hF.keep kq
    have hO3 := hO.trans kq
    have y13 := hB3.cell 1 rfl
    have hO2 := hO3.size
    have hbW := hB3.lt
    clear hW3
    by_cases hlt : i < n
    · have hpm : PM.PN n m := hgr.pn Hpn.out
      have hwf := Hwf.out
      obtain ⟨C, hCd⟩ : ∃ C, C = PM.cho n T i m := ⟨_, rfl⟩
      have hCl : C.length = PM.cntR n T i := by rw [hCd, PM.cho_len hpm]
      have hCl2 : C.length ≤ 20 := by rw [hCl]; have := PM.cntR_le n T i; omega
      obtain ⟨r, hrr⟩ : ∃ r, r = ordC n gens (n - (i + 1)) := ⟨_, rfl⟩
      obtain ⟨kk, hkk⟩ : ∃ kk, kk = k % ordC n gens (n - i) := ⟨_, rfl⟩
      obtain ⟨q, hq⟩ : ∃ q, q = kk / r := ⟨_, rfl⟩
      have hqs : q = msel n gens k i C.length := by rw [hq, hkk, hrr]; rfl
      have hql : q < C.length := by
        have h1 := Hgood.out i hlt
        rw [hCl]
        have h2 : msel n gens k i C.length = msel n gens k i (PM.cntR n T i) := rfl
        rw [hqs, h2]; exact h1
      have hkm : C[q] ∈ PM.cho n T i m := by rw [← hCd]; exact List.getElem_mem hql
      have hgr2 := HCh.out.putV hn Hpn.out hlt hgr hkm
      have hRR2 : R = PM.desc T n (msel n gens k) (n - (i + 1)) (i + 1) (PM.putV T i m C[q]) := by
        subst hCd
        rw [hRR.out]
        exact PM.desc_step hlt m hqs hql
      have hrp : 1 ≤ r := by rw [hrr]; exact Hpos.out _ (by omega)
      have hrl : r ≤ 2432902008176640000 := by rw [hrr]; exact Hle.out _ (by omega)
      have hkkl : kk ≤ 2432902008176640000 := by
        rw [hkk]
        have h1 := Nat.mod_lt k (show 0 < ordC n gens (n - i) from Hpos.out _ (by omega))
        have h2 := Hle.out (n - i) (by omega)
        omega
      have hdiv : Int.tdiv (kk : Int) (r : Int) = (q : Int) := by rw [tdiv_nat, hq]
      have hmod : Int.tmod (kk : Int) (r : Int) = ((k % ordC n gens (n - (i + 1)) : Nat) : Int) := by rw [tmod_nat, hkk, hrr, Hst.out i hlt]
      have hr0 : ¬ ((r : Int) = 0) := by omega
      have HcO : Hid (Calls Try.prog 38 #[.pointer (some ⟨L.g, 0, none⟩), .int .i64 ((i : Int) + 1)] W3 fun e w' => e = .returned (.int .i64 (r : Nat)) ∧ Only [] W3 w') := Lib.hid (by
        rw [hrr, ← HOE.out _ (by omega)]
        exact implOrder_any W3 hC3 hwf HoT.out (i + 1) (by omega))
      have HcS := Lib.hid (fun (V : World) (hV : Only [] W3 V) => walkSorted_any V (hC3.keep hV) hwf HoT.out w4.heap.size i hlt v m f (hB3.keep hV) (Rp.keep hr3 hV) hpm)
      rw [← hCd] at HcS
      obtain ⟨k2, hk2⟩ : ∃ k2, k2 = k % ordC n gens (n - (i + 1)) := ⟨_, rfl⟩
      rw [← hk2] at hmod
      rw [← hkk]
      have Hk2 := Lib.hid hk2
      have HRR2 := Lib.hid hRR2
      have Hgr2 := Lib.hid hgr2
      have Hkm := Lib.hid hkm
      have Hpm := Lib.hid hpm
      have HC3 := Lib.hid hC3
      have HB3 := Lib.hid hB3
      have hltI : (i : Int) < (n : Int) := by omega
      have hwi : IntKind.i64.wrap ((i : Int) + 1) = (i : Int) + 1 := by rw [IntKind.wrap_i64]; omega
      clear hCd hCl hrr hkk hq hqs hRR2 hgr2 hkm hpm hwf hC hC3 hB hB3 hgr hRR hk2 yn kq
      go_wp2_with (first
        | (go_at_call 38; (with_reducible refine (HcO.out).mono ?_); rintro en w6 ⟨rfl, t6⟩; have y16 := t6.cell (by simp) y13)
        | (go_at_call 83; (with_reducible refine (HcS.out w6 t6).mono ?_); rintro en w7 ⟨v7, rfl, hA7, t7⟩; obtain ⟨a7, c7, rfl, I7⟩ := hA7.rd.ints; obtain ⟨b8, o8, rfl, -, c8⟩ := I7.at_ q hql; have k37 := t6.trans t7)
        | (go_at_call 84; (with_reducible refine (take_yes w7 (HC3.out.keep k37) Hwf.out HoT.out w4.heap.size i hlt v m f (HB3.out.keep k37) (Rp.keep hr3 k37) Hpm.out C[q] Hkm.out).mono ?_); rintro en w9 ⟨rfl, ⟨v9, f9, B9, r9, F9⟩, O9⟩)
        | fail "no arm")
      have k29 : Only [] w w9 := (hO3.trans k37).then_ O9 (fun z hz hl => by simp at hz; omega)
      have HC9 := (HC3.out.keep k37).only O9 HbM.out HbF.out
      have F9' : Fresh w.heap.size w9 f9 := F9.mono (by have := k37.size; omega)
      have y9 := B9.cell 1 rfl
      go_roundw
      case rel => exact ⟨i + 1, v9, _, f9, by omega, by rw [Hk2.out], B9, r9, F9', HC9, Hgr2.out, HRR2, k29⟩
      case measure => rw [y9, y1]; simp [intOf]; omega
    · obtain rfl : i = n := by omega
      have hfin : R = m := by rw [hRR.out]; exact PM.desc_end (Nat.le_refl _) m
      have hge : ¬ ((i : Int) < (i : Int)) := by omega
      have y2 := hB3.cell 2 rfl
      have Hfin := Lib.hid hfin
      clear hfin hRR
      go_wp2
      exact bodyPost_ret (v := .tuple #[v, .bool true]) (by simp [results, Try.results60, go_sem]) rfl ⟨v, rfl, f, by rw [Hfin.out]; exact hr3, hF3, hO3⟩
end Go.Proofs.Ytpcamkmoabhlhaa

namespace PM
theorem lvA_len {T : Rows} {n : Nat} (hw : WF n T) {i : Nat} (h : i < n) : (lvA T n (i + 1)).length = (lvA T n i).length * cntR n T i := by
  show ((lvA T n i).flatMap fun m => (cho n T i m).map (putV T i m)).length = _
  have hp := lvA_pn hw i (by omega)
  generalize lvA T n i = L at hp
  induction L with
  | nil => simp
  | cons m L ih =>
    rw [List.flatMap_cons, List.length_append, List.length_map, cho_len (hp m (by simp)), ih fun x hx => hp x (List.mem_cons_of_mem _ hx), List.length_cons, Nat.succ_mul]
    omega
theorem lvA_mono {T : Rows} {n : Nat} (hw : WF n T) : ∀ d i, i + d = n → (lvA T n i).length ≤ (lvA T n n).length
  | 0, i, h => by rw [show i = n by omega]; exact Nat.le_refl _
  | d + 1, i, h => by
    refine Nat.le_trans ?_ (lvA_mono hw d (i + 1) (by omega))
    rw [lvA_len hw (by omega)]
    have := cntR_pos hw (show i < n by omega)
    exact Nat.le_mul_of_pos_right _ this
theorem lvA_le {T : Rows} {n : Nat} (hw : WF n T) {i : Nat} (h : i ≤ n) : (lvA T n i).length ≤ ordM T n n := by
  have h1 := lvA_mono hw (n - i) i (by omega)
  rw [lvA_all hw, List.length_map, List.length_range] at h1
  exact h1
/-- what stands behind a member at a level -/
def ups (T : Rows) (n i : Nat) (m : List Int) : List (List Int) := (cho n T i m).map (putV T i m)
theorem lvA_succ (T : Rows) (n i : Nat) : lvA T n (i + 1) = (lvA T n i).flatMap (ups T n i) := rfl
theorem fm_take_succ {α β : Type} (f : α → List β) (l : List α) (k : Nat) (h : k < l.length) : (l.take (k + 1)).flatMap f = (l.take k).flatMap f ++ f l[k] := by
  rw [List.take_succ_eq_append_getElem h, List.flatMap_append]; simp
theorem fm_part_le {α β : Type} (f : α → List β) (l : List α) (k : Nat) (h : k < l.length) (j : Nat) : ((l.take k).flatMap f ++ (f l[k]).take j).length ≤ (l.flatMap f).length := by
  have e : l.flatMap f = (l.take (k + 1)).flatMap f ++ (l.drop (k + 1)).flatMap f := by rw [← List.flatMap_append, List.take_append_drop]
  rw [e, fm_take_succ f l k h, List.length_append, List.length_append, List.length_append, List.length_take]
  omega
theorem ups_take_succ (T : Rows) (n i : Nat) (m : List Int) (j : Nat) (h : j < (cho n T i m).length) : (ups T n i m).take (j + 1) = (ups T n i m).take j ++ [putV T i m (cho n T i m)[j]] := by
  unfold ups
  rw [← List.map_take, ← List.map_take, List.take_succ_eq_append_getElem h, List.map_append]; rfl
theorem ups_len (T : Rows) (n i : Nat) (m : List Int) : (ups T n i m).length = (cho n T i m).length := by unfold ups; simp
end PM
namespace Go.Proofs.Ytpcamkmoabhlhaa
open Go.RowKit
set_option maxRecDepth 10000

theorem seq_lit1 {w : World} {v : Value} {x : List Int} {f : List Nat} (e : TypeId) (h : Rd w v x f) : SeqA (w.alloc (.cells #[v] e)) (some ⟨w.heap.size, 0, none⟩) 1 [x] [w.heap.size] [f] := by
  refine ⟨Nat.le_refl _, by unfold maxLen; omega, rfl, fun k hk => ?_, by simp, by simp⟩
  obtain rfl : k = 0 := by simp at hk; omega
  exact ⟨w.heap.size, 0, [v], rfl, rfl, fun j u hu => by simpa [Rp.size] using lit_src w [v] e rfl j u hu, Rp.keep h ((Only.refl _ _).alloc _)⟩
theorem fresh_lit {B : Nat} {w : World} {v : Value} {e : TypeId} {f : List Nat} (h : Fresh B w f) (hB : B ≤ w.heap.size) : Fresh B (w.alloc (.cells #[v] e)) ([w.heap.size] ++ [f].flatten) := by
  have h2 := h.keep ((Only.refl [] w).alloc (.cells #[v] e))
  have hb := heap_alloc_new w (.cells #[v] e)
  refine ⟨?_, ?_, ?_⟩
  · simp only [List.flatten_cons, List.flatten_nil, List.append_nil, List.singleton_append]
    refine List.nodup_cons.2 ⟨fun hm => ?_, h.nd⟩
    have := h.lt _ hm; omega
  · intro b hm
    simp only [List.flatten_cons, List.flatten_nil, List.append_nil, List.singleton_append] at hm
    rcases List.mem_cons.1 hm with rfl | hm
    · exact hB
    · exact h.ge b hm
  · simp only [List.flatten_cons, List.flatten_nil, List.append_nil, List.singleton_append]
    intro b hm
    rcases List.mem_cons.1 hm with rfl | hm
    · exact ⟨_, _, hb⟩
    · exact h2.own b hm
section
variable {α : Type} [Rp α] {w0 W wx : World} {B : Nat} {e : TypeId} {G : List Nat} {v : Value} {l : List α}
/-- nothing is held any more -/
theorem AccK.drop (h : AccK w0 B e G W wx v l) (W' : World) : AccK w0 B e [] W' wx v l := by
  obtain ⟨fs, a, b, c, d, f, g⟩ := h
  exact ⟨fs, a, b, c, by simp, by simp, by simp⟩
theorem AccK.apart (h : AccK w0 B e G W wx v l) : (∀ b ∈ G, b ∉ v.ownBlock.toList) ∧ ∀ b ∈ v.ownBlock.toList, B ≤ b := by
  obtain ⟨fs, a, b, c, d, f, g⟩ := h
  exact ⟨g, fun x hx => (a.ownlt x (by simpa using hx)).1⟩
theorem AccK.begin (W : World) (e : TypeId) : AccK W W.heap.size e [] W (W.alloc (.cells #[] e)) (.slice (some ⟨W.heap.size, 0, none⟩) 0 0) ([] : List α) :=
  ⟨[], Acc.made W W.heap.size _ rfl (Nat.le_refl _), Fresh.nil _ _, (Only.refl _ _).alloc _, by simp, by simp, by simp⟩
end
/-- the members that are listed -/
noncomputable def lsM (n : Nat) (gens : List (List Int)) : List (List Int) := if 3000 < ordC n gens n then [] else allMem n gens
set_option maxHeartbeats 8000000 in
theorem allMembers_any (n : Nat) (vg : Value) (gens : List (List Int)) (fpg : List Nat) (w : World) (hg : Rd w vg gens fpg) (hgs : gensB n gens = true) :
    Calls Try.prog 27 #[.int .i64 n, vg] w fun e w' => ∃ v f, e = .returned v ∧ Rd w' v (lsM n gens) f ∧ Fresh w.heap.size w' f ∧ Only [] w w' := by
  obtain ⟨⟨n1, n20⟩, hgl, hpn⟩ := gensB_iff.1 hgs
  have hpn' : ∀ g ∈ gens, PM.PN n g := by simpa using hpn
  have hn : 0 < n := by omega
  have hn20 : n ≤ 20 := by omega
  have Hpn := Lib.hid hpn'
  clear hpn hpn' hgs
  obtain ⟨i0, hi, hz0, hz1, hz2⟩ := info_parts Try.info22
  obtain ⟨R, hR⟩ : ∃ R, R = lsM n gens := ⟨_, rfl⟩
  rw [← hR]
  have HR := Lib.hid hR
  clear hR
  go_enter Try.func27, Try.ntmps27
  go_wp2_with (first
    | (go_at_call 42; (with_reducible refine (buildChain_any n hn hn20 vg gens fpg w hg Hpn.out (by omega)).mono ?_); rintro en w3 ⟨L, gv, G, T, M, F, rfl, hoG, hoT, hC, hCh, t3⟩; have hoe := ordC_eq hCh hn Hpn.out (Nat.le_refl n); obtain ⟨od, hod⟩ : ∃ od, od = ordC n gens n := ⟨_, rfl⟩; rw [← hod] at hoe; have Hod := Lib.hid hod; have Hoe := Lib.hid hoe; clear hod hoe; have HC := Lib.hid hC; have HCh := Lib.hid hCh; have HoT := Lib.hid hoT; clear hC hCh hoT)
    | (go_at_call 41; (with_reducible refine (chainOrder_any w3 HC.out HCh.out.inv.wf HoT.out).mono ?_); rintro en w4 ⟨he, t4⟩; rw [Hoe.out] at he; subst he)
    | (go_at_call 50; (with_reducible refine (specIdentity_any n w4 (by omega)).mono ?_); rintro en w5 ⟨v5, f5, rfl, r5, F5, t5⟩; obtain ⟨a5, c5, rfl, -⟩ := id r5.ints)
    | fail "no arm")
  · have hlt : 3000 < ordC n gens n := by have := Hod.out; omega
    go_ret
    refine ⟨.slice (some ⟨w4.heap.size, 0, none⟩) 0 0, [], rfl, ?_, Fresh.nil _ _, ((t3.trans t4).alloc _)⟩
    rw [HR.out]
    unfold lsM
    rw [if_pos hlt]
    exact (SeqA.nil (α := List Int) _ _ (by simp [maxLen])).rd
  have hod3 : od ≤ 3000 := by omega
  have hRl : R = PM.lvA T n n := by rw [HR.out, lv_allMem HCh.out hn Hpn.out]; unfold lsM; rw [if_neg (by have := Hod.out; omega)]
  have hlv : ∀ i, i ≤ n → (PM.lvA T n i).length ≤ 3000 := fun i hi => by have := PM.lvA_le HCh.out.inv.wf hi; rw [Hoe.out] at this; omega
  have HRl := Lib.hid hRl
  have Hlv := Lib.hid hlv
  have kk := (t3.trans t4).trans t5
  have hk5 := kk.size
  have hC5 := Lib.hid ((HC.out.keep t4).keep t5)
  have kw5 : Only [] w w5 := kk
  have hF5 : Fresh w.heap.size w5 f5 := F5.mono (by have := (t3.trans t4).size; omega)
  have S5 := seq_lit1 23 r5
  clear hRl hlv t3 t4 t5 kk F5
  go_loopw [6, 7] (fun o i wr => ∃ (j : Nat) (l : List (List Int)) (f : List Nat), j ≤ n ∧ i = .int .i64 j ∧ Hid (l = PM.lvA T n j) ∧ Rd wr o l f ∧ Fresh w.heap.size wr f ∧ Only [] w5 wr)
    (fun _ i _ => n - (intOf i).toNat)
  case atStart => exact ⟨0, [PM.pts n], _, Nat.zero_le _, rfl, Lib.hid rfl, S5.rd, fresh_lit hF5 hk5, (Only.refl _ _).alloc _⟩
  case round =>
    obtain ⟨W2, hnew⟩ : ∃ W, W = wr := ⟨_, rfl⟩
    subst hnew
    obtain ⟨j, l, f, hj, rfl, hl, hr, hF, hO⟩ := hrel
    obtain ⟨A, C, ob, fps, rfl, -, hS⟩ := id hr.open_
    have hb := hS.bound
    have hll : l.length ≤ 3000 := by rw [hl.out]; exact Hlv.out j hj
    by_cases hlt : j < n
    · have hltI : (j : Int) < (n : Int) := by omega
      have hpl : ∀ m ∈ l, PM.PN n m := by rw [hl.out]; exact PM.lvA_pn HCh.out.inv.wf j hj
      have hnx : (l.flatMap (PM.ups T n j)).length ≤ 3000 := by
        have := Hlv.out (j + 1) (by omega)
        rw [PM.lvA_succ, ← hl.out] at this
        exact this
      have hnl : PM.lvA T n (j + 1) = l.flatMap (PM.ups T n j) := by rw [PM.lvA_succ, ← hl.out]
      have HC2 := Lib.hid (hC5.out.keep hO)
      have Hpl := Lib.hid hpl
      have Hnx := Lib.hid hnx
      have Hnl := Lib.hid hnl
      have hw2 : w.heap.size ≤ W2.heap.size := by have := kw5.size; have := hO.size; omega
      have X0 := AccK.begin (α := List Int) W2 23
      clear hpl hnx hnl hr
      go_wp2
      go_loopw [8, 9] (fun o y wr => ∃ (k : Nat), k ≤ l.length ∧ y = .int .i64 k ∧ AccK W2 W2.heap.size 23 [] W2 wr o ((l.take k).flatMap (PM.ups T n j)))
        (fun _ y _ => l.length - (intOf y).toNat)
      case atStart => exact ⟨0, Nat.zero_le _, rfl, X0⟩
      case round =>
        obtain ⟨W4, hnew⟩ : ∃ W, W = wr := ⟨_, rfl⟩
        subst hnew
        obtain ⟨k, hk, rfl, hA⟩ := hrel
        have hO4 := hA.only
        by_cases hlk : k < l.length
        · have hlkI : (k : Int) < (l.length : Int) := by omega
          obtain ⟨b, off, u, rfl, -, hc0, hu0⟩ := hS.atRow k hlk
          have hc := hO4.cell (by simp) hc0
          have hpm := Hpl.out l[k] (List.getElem_mem hlk)
          obtain ⟨mm, hmm⟩ : ∃ mm, mm = l[k] := ⟨_, rfl⟩
          rw [← hmm] at hpm hu0
          obtain ⟨Cc, hCc⟩ : ∃ Cc, Cc = PM.cho n T j mm := ⟨_, rfl⟩
          have hCcl : Cc.length ≤ 20 := by rw [hCc, PM.cho_len hpm]; have := PM.cntR_le n T j; omega
          have HcS := Lib.hid (fun (W : World) (hW : Only [] W2 W) => choicesAt_any W (HC2.out.keep hW) HoT.out j hlt u mm _ (Rp.keep hu0 hW) hpm)
          rw [← hCc] at HcS
          have HCc := Lib.hid hCc
          have Hpm := Lib.hid hpm
          have Hmm := Lib.hid hmm
          have Hu0 := Lib.hid hu0
          have HX := Lib.hid hA
          clear hCc hpm hmm hu0 hA
          go_wp2_with (first
            | (go_at_call 51; (with_reducible refine (HcS.out _ hO4).mono ?_); rintro en w6 ⟨b6, o6, c6, f6, rfl, I6, F6, t6⟩)
            | fail "no arm")
          have X6 := HX.out.hold t6 F6.lt F6.ge
          clear hc
          go_loopw [8, 11] (fun o y wr => ∃ (q : Nat), q ≤ Cc.length ∧ y = .int .i64 q ∧ AccK W2 W2.heap.size 23 ([] ++ f6) w6 wr o ((l.take k).flatMap (PM.ups T n j) ++ (PM.ups T n j mm).take q))
            (fun _ y _ => Cc.length - (intOf y).toNat)
          case atStart => exact ⟨0, Nat.zero_le _, rfl, by rw [List.take_zero, List.append_nil]; exact X6⟩
          case round =>
            obtain ⟨W6, hnew⟩ : ∃ W, W = wr := ⟨_, rfl⟩
            subst hnew
            obtain ⟨q, hq, rfl, hA⟩ := hrel
            have hO6 := hA.only
            by_cases hlq : q < Cc.length
            · have hlqI : (q : Int) < (Cc.length : Int) := by omega
              obtain ⟨b8, o8, e8, hf8, c8⟩ := I6.at_ q hlq
              injection e8 with e8; injection e8 with e81 e82; subst e81; subst e82
              have cc := hA.cell c8 (by rw [hf8]; simp)
              have cl := hO6.cell (by simp) hc0
              have hmem : Cc[q] ∈ PM.cho n T j mm := by have := List.getElem_mem hlq; rw [← HCc.out]; exact this
              have hlen : ((l.take k).flatMap (PM.ups T n j) ++ (PM.ups T n j mm).take q).length + 1 ≤ 1073741824 := by
                have := PM.fm_part_le (PM.ups T n j) l k hlk q
                have h2 := Hnx.out
                rw [← Hmm.out] at this
                omega
              have hst : (PM.ups T n j mm).take (q + 1) = (PM.ups T n j mm).take q ++ [PM.putV T j mm Cc[q]] := by
                have h := PM.ups_take_succ T n j mm q (by rw [← HCc.out]; exact hlq)
                have e : Cc[q] = (PM.cho n T j mm)[q]'(by rw [← HCc.out]; exact hlq) := by simp only [HCc.out]
                rw [h, e]
              have HcW := Lib.hid (fun (W : World) (hW : Only [] W2 W) => withEntry_any W (HC2.out.keep hW) HCh.out.inv.wf HoT.out j hlt u mm _ (Rp.keep Hu0.out hW) Hpm.out Cc[q] hmem)
              have hap := hA.apart
              have nb : b6 ∉ u8.ownBlock.toList := hap.1 b6 (by rw [hf8]; simp)
              have hbl := World.block_lt_of_cell? _ _ hc0
              have ng : b ∉ u8.ownBlock.toList := fun hm => by have := hap.2 b hm; simp at hbl; omega
              have Hth := Lib.hid (fun (W : World) (hW : Only u8.ownBlock.toList W6 W) => hO6.then_ hW (fun x hx hl => by have := hap.2 x hx; omega))
              have Hst := Lib.hid hst
              have HA := Lib.hid hA
              clear hap hbl
              have hz6 := hO6.size
              have hi0 : (0 : Int) ≤ (k : Int) := by omega
              have hi1 : (0 : Int) ≤ (q : Int) := by omega
              obtain ⟨y, hy⟩ : ∃ y, y = Cc[q] := ⟨_, rfl⟩
              rw [← hy] at cc HcW
              have Hy := Lib.hid hy
              clear hmem hst hA c8 hy
              go_upto_region 16 with fail
              go_region_held3 (fun w' => Only u8.ownBlock.toList W6 w' ∧ w'.cell? ⟨b, off + k, none⟩ = some u ∧ w'.cell? ⟨b6, o6 + q, none⟩ = some (.int .i64 y)) ((refine and_of ?_ (fun h__ => ⟨h__.cell ng cl, h__.cell nb cc⟩); first | with_reducible exact (Only.refl _ _).drew | with_reducible exact Only.keepThen (And.left (by assumption)) (by assumption) | with_reducible exact Only.trans (And.left (by assumption)) (by assumption) | with_reducible exact Only.alloc (And.left (by assumption)) _ | assumption)) (first
                | (go_at_call 52; (with_reducible refine (HcW.out _ (Hth.out _ (And.left (by assumption)))).mono ?_); rintro x1 w7 ⟨v7, f7, rfl, r7, F7, y1⟩; obtain ⟨a7, c7, rfl, I7⟩ := id r7.ints)
                | (refine step_pushK (v := u8) rfl _ _ 22 rfl 23 i0 _ 24 Try.underlying22 hi hz0 hz1 hz2 rfl (by decide) (by decide) rfl HA.out (((Only.refl [] W6).drew.trans y1).alloc _) (Nat.le_refl _) hz6 w7.heap.size 1 [_] _ f7 rfl (lit_src w7 [_] _ rfl) (by intro u hu; simp at hu; subst hu; rfl) (Rp.keep r7 ((Only.refl [] w7).alloc _)) (F7.keep ((Only.refl [] w7).alloc _)) hlen ?_; intro v9 w9 hA9 hW9)
                | fail "no arm")
              go_wp2
              go_roundw
              case rel => exact ⟨q + 1, by omega, by go_num, by rw [Hst.out, ← List.append_assoc, ← Hy.out]; exact hA9⟩
              case measure => simp [intOf]; omega
            · obtain rfl : q = Cc.length := by omega
              have hge : ¬ ((Cc.length : Int) < (Cc.length : Int)) := by omega
              have hfin : (l.take (k + 1)).flatMap (PM.ups T n j) = (l.take k).flatMap (PM.ups T n j) ++ (PM.ups T n j mm).take Cc.length := by
                rw [PM.fm_take_succ _ l k hlk, ← Hmm.out, List.take_of_length_le (l := PM.ups T n j mm) (by rw [PM.ups_len, ← HCc.out]; exact Nat.le_refl _)]
              have HA := Lib.hid (hA.drop W2)
              rw [← hfin] at HA
              clear hA hfin
              go_wp2
              go_roundw
              case rel => exact ⟨k + 1, by omega, by go_num, HA.out⟩
              case measure => simp [intOf]; omega
        · obtain rfl : k = l.length := by omega
          have hge : ¬ ((l.length : Int) < (l.length : Int)) := by omega
          obtain ⟨f9, r9, F9⟩ := hA.rd (by decide)
          rw [List.take_length] at r9
          have Hr9 := Lib.hid r9
          clear r9 hA
          go_wp2
          go_roundw
          case rel => exact ⟨j + 1, _, f9, by omega, by go_num, Lib.hid Hnl.out.symm, Hr9.out, F9.mono hw2, hO.trans hO4⟩
          case measure => simp [intOf]; omega
    · obtain rfl : j = n := by omega
      have hge : ¬ ((j : Int) < (j : Int)) := by omega
      have hRR : R = l := by rw [HRl.out, hl.out]
      have HRR := Lib.hid hRR
      clear hRR hl
      go_wp2
      go_ret
      exact ⟨_, rfl, f, by rw [HRR.out]; exact hr, hF, kw5.trans hO⟩
end Go.Proofs.Ytpcamkmoabhlhaa
