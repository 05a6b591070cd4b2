/- The program's walk down a chain: sorted, from; its generator (laws 33, 47). The program's RandomMember (laws 35, 47). The program's memberAt: the member of a rank (laws 33, 34, ..). RandomState, of the reference and of the program (law 33). The smallest optimal word of a state, in plain words (laws 20, 38). Maps from strings to int64 that a call makes. (Printed by mkmapi.py out of XMap.) The first pattern with a key, in plain words. A family of memory parts of a call's own: all apart from each other; what a write to one of them leaves of the others. -/
import Derived.Test.YtccdicgnolkepaaGreatRowStateScrambleG13
import Derived.Test.YtccdicgnolkepaaGreatRowStateScrambleG11
import Derived.Test.YtccdicgnolkepaaGreatRowStateScrambleG9
import Derived.Deep.QuietTactic
import Derived.Test.YtccdicgnolkepaaGreatRowStateScrambleG8
import Derived.Deep.RegionHeld3
import Derived.Test.YtccdicgnolkepaaGreatRowStateScrambleG2
namespace Go.Proofs.YtccdicgnolkepaaGreat
open Go.RowKit
set_option maxRecDepth 10000

theorem ranges_frame {P : Program} {k : TypeId} {R : Value → Option (DataW Unit × List MemPlace)} {b r n cnt : Nat} {D : DataW Unit} {left : Lit → Bool} {w w' : World} (h : w.ranges P k R b r n D left cnt) (hb : w'.heap[b]? = w.heap[b]?) (hr : w'.heap[r]? = w.heap[r]?) : w'.ranges P k R b r n D left cnt := by
  obtain ⟨es, clock, since, seen, c0, h1, F, hs, hD, h2, rest⟩ := h
  exact ⟨es, clock, since, seen, c0, hb.trans h1, F, hs, hD, hr.trans h2, rest⟩
theorem AccI.low {B B' : Nat} {e : TypeId} {w : World} {v : Value} {l : List Int} (h : AccI B e w v l) (hB : B' ≤ B) : AccI B' e w v l := by
  obtain ⟨h1, h2⟩ := h.row
  refine AccI.ofRow ⟨h1.1, ?_⟩ h2
  rcases h1.2 with h3 | ⟨g, cap, cur, h3, h4, h5⟩
  · exact .inl h3
  · exact .inr ⟨g, cap, cur, h3, Nat.le_trans hB h4, h5⟩
theorem same_int (a b : Int) : (Lit.int .i64 a).sameKey (.int .i64 b) = decide (a = b) := by
  show decide (IntKind.i64 = IntKind.i64 ∧ a = b) = _
  by_cases h : a = b <;> simp [h]
/-- the keys met so far: l; those to come: left -/
structure KL (C : List Int) (left : Lit → Bool) (l : List Int) : Prop where
  nd : l.Nodup
  iff : ∀ x, I64 x → (x ∈ l ↔ x ∈ C ∧ left (.int .i64 x) = false)
  big : ∀ x ∈ l, I64 x
  dom : ∀ x, I64 x → left (.int .i64 x) = true → x ∈ C
theorem KL.step {C : List Int} {left : Lit → Bool} {l : List Int} (h : KL C left l) {x : Int} (hx : I64 x) (hl : left (.int .i64 x) = true) : KL C (fun z => left z && !z.sameKey (.int .i64 x)) (l ++ [x]) := by
  have hn : x ∉ l := fun hm => by have := ((h.iff x hx).1 hm).2; rw [hl] at this; cases this
  refine ⟨?_, fun y hy => ?_, fun y hy => ?_, fun y hy hl2 => ?_⟩
  · rw [List.nodup_append]
    exact ⟨h.nd, by simp, fun a ha b hb => by simp at hb; subst hb; intro e; subst e; exact hn ha⟩
  · rw [List.mem_append, h.iff y hy]
    simp only [List.mem_singleton, same_int]
    by_cases he : y = x
    · subst he; simp [h.dom _ hx hl]
    · simp [he]
  · rcases List.mem_append.1 hy with hy | hy
    · exact h.big y hy
    · simp at hy; subst hy; exact hx
  · simp only [same_int, Bool.and_eq_true] at hl2
    exact h.dom y hy hl2.1
theorem KL.end_ {C : List Int} {left : Lit → Bool} {l : List Int} (h : KL C left l) (hl : ∀ z, left z = false) (hC : PM.Asc C) (hCb : ∀ x ∈ C, I64 x) : (l.mergeSort fun x y => decide (x ≤ y)) = C := by
  refine PM.asc_ext (sorted_asc h.nd) hC fun x => ?_
  rw [sorted_mem]
  constructor
  · intro hx; exact ((h.iff x (h.big x hx)).1 hx).1
  · intro hx; exact (h.iff x (hCb x hx)).2 ⟨hx, hl _⟩
set_option maxHeartbeats 4000000 in
theorem walkSorted_any {e : TypeId} {B : Nat} {L : Lay} {gv : Nat → Value} {n : Nat} {G : PM.Gens} {T : PM.Rows} {M F : List Nat} (w : World) (hC : Ch e B w L gv n G T M F) (hw : PM.WF n T) (hT : L.oT = 2) (b i : Nat) (hi : i < n) (v : Value) (m : List Int) (fm : List Nat)
    (hb : Blk w b [.pointer (some ⟨L.g, 0, none⟩), .int .i64 i, v]) (hv : Rd w v m fm) (hm : PM.PN n m) :
    Calls Tryz.prog 61 #[.pointer (some ⟨b, 0, none⟩)] w fun e w' => ∃ v', e = .returned v' ∧ AccI w.heap.size 2 w' v' (PM.cho n T i m) ∧ Only [] w w' := by
  obtain ⟨i0, hii, hz0, hz1, hz2⟩ := info_parts Tryz.info2
  have HcV := Lib.hid (values_any w hC hT b i hi v m fm hb hv hm)
  obtain ⟨C, hCd⟩ : ∃ C, C = PM.cho n T i m := ⟨_, rfl⟩
  have hn20 := hC.le
  have hAs : PM.Asc C := by rw [hCd]; exact PM.choO_asc _ _
  have hCb : ∀ x ∈ C, I64 x := fun x hx => by rw [hCd] at hx; have := PM.cho_pre hm hx; unfold I64; omega
  have hCl : C.length ≤ 1000 := by rw [hCd, PM.cho_len hm]; have := PM.cntR_le n T i; omega
  have hCne : C ≠ [] := fun hc => by
    have h1 := PM.cho_len (T := T) (i := i) hm
    rw [← hCd, hc] at h1
    have h2 := PM.cntR_pos hw hi
    simp at h1; omega
  have hgC : ∀ x, (gV m (orb n T i) x).isSome = decide (x ∈ C) := fun x => by
    rw [hCd]
    by_cases hx : x ∈ PM.cho n T i m
    · rw [gV_yes hx]; simp [hx]
    · rw [gV_no hx]; simp [hx]
  rw [← hCd]
  have HAs := Lib.hid hAs
  have HCb := Lib.hid hCb
  have HCne := Lib.hid hCne
  have HgC := Lib.hid hgC
  clear hC hm hb hv hw hAs hCb hCne hgC hCd
  go_enter Tryz.func61, Tryz.ntmps61
  go_wp2_with (first
    | (go_at_call 91; (with_reducible refine (HcV.out).mono ?_); rintro en w1 ⟨K, rfl, hK, hM, t1⟩; obtain ⟨D, hown, hg⟩ := hM)
    | (at_range; refine wpList_range_own _ rfl _ 108 rfl 2 2 Tryz.lawI64 Tryz.underlying108 _ K 1000 D rfl hown ?_; intro w0 hrg0 hg0 hs0)
    | fail "no arm")
  go_frame
  have hKl := hown.lt
  have k01 : Only [] w1 w0 := (Only.refl _ _).grown hg0 (by intro j hj; cases hj)
  have kw0 : Only [] w w0 := t1.trans k01
  have hl0 : KL C (Go.Maps.has D) [] := ⟨List.nodup_nil, fun x hx => by
      rw [(hg x hx).1, HgC.out]
      by_cases hm : x ∈ C <;> simp [hm], by simp, fun x hx hl => by rw [(hg x hx).1, HgC.out] at hl; simpa using hl⟩
  clear hg hg0 hown t1 k01
  go_loopw [3] (fun o wr => ∃ (left : Lit → Bool) (cnt : Nat) (l : List Int), wr.ranges Tryz.prog 2 (plainElem Tryz.prog 2) K w1.heap.size 1000 D left cnt ∧ AccI (w1.heap.size + 1) 2 wr o l ∧ KL C left l ∧ Only [] w wr ∧ w1.heap.size + 1 ≤ wr.heap.size)
    (fun _ wr => wr.rangeLeft K w1.heap.size)
  case atStart => exact ⟨_, _, [], hrg0, AccI.nil _ _ _, hl0, kw0, by omega⟩
  case round =>
    obtain ⟨W2, hnew⟩ : ∃ W, W = wr := ⟨_, rfl⟩
    subst hnew
    obtain ⟨left, cnt, l, hrg, hA, hKL, hO, hsz⟩ := hrel
    have hll : l.length ≤ 1000 := Nat.le_trans (PM.nodup_sub_len hKL.nd fun x hx => ((hKL.iff x (hKL.big x hx)).1 hx).1) hCl
    have hlow : w.heap.size ≤ w1.heap.size + 1 := by have := kw0.size; omega
    go_wp2_with (first
      | (at_next; refine wpList_next_ranges_ii _ rfl _ rfl 2 2 .i64 .i64 Tryz.lawI64 Tryz.underlying2 Tryz.underlying2 K w1.heap.size 1000 _ _ _ rfl hrg ?_ ?_)
      | fail "no arm")
    · intro _ hl0
      have hfin := hKL.end_ hl0 HAs.out HCb.out
      have hlne : l ≠ [] := fun hc => HCne.out (by rw [← hfin, hc]; simp)
      have Hfin := Lib.hid hfin
      obtain ⟨a, c, ho⟩ := hA.form
      subst ho
      clear hfin hl0
      go_wp2_with (first
        | (go_at_call 92; (with_reducible refine (sort_accI W2 _ l hA hlne hll).mono ?_); rintro en w3 ⟨rfl, hA3, hO3⟩; rw [Hfin.out] at hA3)
        | fail "no arm")
      go_ret
      exact ⟨_, rfl, hA3.low hlow, hO.then_ hO3 (fun z hz hl => by have := (hA.ownlt z (by simpa using hz)).1; omega)⟩
    · intro x c w2 cnt1 hwx hwc hlx hat hrg1 hlt hg1 hs1 hen
      have hxI : I64 x := by have h9 := hwx; simp [Lit.wf, IntKind.min, IntKind.max, IntKind.signed, IntKind.bits] at h9; unfold I64; omega
      have k2 : Only [w1.heap.size] W2 w2 := (Only.refl _ _).grown hg1 (by intro j hj _; injection hj with hj; subst hj; simp)
      have hA2 := hA.only k2 (fun g hg hm => by have := (hA.ownlt g hg).1; simp at hm; omega)
      have hO2 : Only [] w w2 := hO.then_ k2 (fun z hz hl => by simp at hz; have := kw0.size; omega)
      have hK2 := hKL.step hxI hlx
      have HXI := Lib.hid hxI
      have hsB : w1.heap.size + 1 ≤ w2.heap.size := by omega
      have Hs1 := Lib.hid hs1
      clear hs1
      clear hKL hxI hat hwx hwc hlx
      go_wp2_with (first
        | (at_builtin; refine wpList_pushI rfl _ _ 26 rfl (w1.heap.size + 1) 2 i0 _ Tryz.underlying26 hii hz0 hz1 hz2 rfl w2 u3 l rfl hA2 ((Only.refl _ _).alloc _) hsB w2.heap.size 1 x rfl (lit1 w2 _ _ rfl) HXI.out (by omega) ?_; intro v3 w3 hA3 hO3 hP3 hN3)
        | fail "no arm")
      have hsz2 : w2.heap.size = W2.heap.size := Hs1.out
      have hne : ∀ g, g ≤ w1.heap.size → w3.heap[g]? = w2.heap[g]? := fun g hg => by
        have h1 : g < w2.heap.size := by omega
        have h2 := hO3.block g (by simp; omega) (fun hm => by have := (hA2.ownlt g (by simpa using hm)).1; omega)
        have h3 := ((Only.refl [] w2).alloc (.cells #[.int .i64 x] 2)).block g h1 (by simp)
        exact h2.trans h3
      have hrg3 := ranges_frame hrg1 (hne K (by omega)) (hne _ (Nat.le_refl _))
      have hsz3 := hO3.size
      simp at hsz3
      go_roundw
      case rel => exact ⟨_, cnt1, l ++ [x], hrg3, hA3, hK2, hP3 w (hO2.alloc _) hlow, by omega⟩
      case measure => rw [hrg3.left_eq, hrg.left_eq]; exact hlt
end Go.Proofs.YtccdicgnolkepaaGreat

namespace Go.Proofs.YtccdicgnolkepaaGreat
open Go.RowKit
set_option maxRecDepth 10000

theorem from_any (g : Nat) (v : Value) (m : List Int) (f : List Nat) (w : World) (hv : Rd w v m f) :
    Calls Tryz.prog 60 #[.pointer (some ⟨g, 0, none⟩), v] w fun e w' => e = .returned (.pointer (some ⟨w.heap.size, 0, none⟩)) ∧ Blk w' w.heap.size [.pointer (some ⟨g, 0, none⟩), .int .i64 (0 : Nat), v] ∧ Only [] w w' ∧ w'.heap.size = w.heap.size + 1 := by
  obtain ⟨A, C, rfl, -⟩ := hv.ints
  go_enter Tryz.func60, Tryz.ntmps60
  go_wp2
  go_ret
  exact ⟨rfl, Blk.new _ _ _, (Only.refl _ _).alloc _, by simp⟩


end Go.Proofs.YtccdicgnolkepaaGreat

namespace Go.Proofs.YtccdicgnolkepaaGreat
open Go.RowKit
set_option maxRecDepth 10000

set_option maxHeartbeats 4000000 in
theorem memberAt_yes (n : Nat) {B : Nat} {L : Lay} {gv : Nat → Value} {gens : List (List Int)} {G : PM.Gens} {T : PM.Rows} {M F : List Nat} (k : Nat) (w : World) (hC : Ch 26 B w L gv n G T M F) (hCh : PM.Chain n gens G T) (hT : L.oT = 2) (hpn : ∀ g ∈ gens, PM.PN n g) (hk : k < ordC n gens n) :
    Calls Tryz.prog 36 #[.pointer (some ⟨L.g, 0, none⟩), .int .i64 k] w fun e w' => ∃ v f, e = .returned (.tuple #[v, .bool true]) ∧ Rd w' v (memAt n gens k) f ∧ Fresh w.heap.size w' f ∧ Only [] w w' := by
  have hn : 0 < n := hC.pos
  have hn20 : n ≤ 20 := hC.le
  have Hpn := Lib.hid hpn
  obtain ⟨R, hR⟩ : ∃ R, R = memAt n gens k := ⟨_, rfl⟩
  rw [← hR]
  have HR := Lib.hid hR
  clear hR hpn
  have hOE : ∀ j, j ≤ n → PM.ordM T n j = ordC n gens j := fun j hj => ordC_eq hCh hn Hpn.out hj
  have hole := ordC_le hCh hn Hpn.out hn20 (j := n) (Nat.le_refl _)
  have hRng : inR (k : Int) 0 ((ordC n gens n : Nat) - 1 : Int) = true := inR_iff.2 (by omega)
  have HOE := Lib.hid hOE
  have hst : ∀ i, i < n → k % ordC n gens (n - i) % ordC n gens (n - (i + 1)) = k % ordC n gens (n - (i + 1)) := fun i hi => mod_step hCh hn Hpn.out k hi
  have hgood := msel_good hCh hn Hpn.out k
  have hpos : ∀ j, j ≤ n → 1 ≤ ordC n gens j := fun j hj => ordC_pos hCh hn Hpn.out hj
  have hle : ∀ j, j ≤ n → ordC n gens j ≤ 2432902008176640000 := fun j hj => ordC_le hCh hn Hpn.out hn20 hj
  have hk0 : k % ordC n gens (n - 0) = k := by rw [Nat.sub_zero]; exact Nat.mod_eq_of_lt hk
  have Hst := Lib.hid hst
  have Hgood := Lib.hid hgood
  have Hpos := Lib.hid hpos
  have Hle := Lib.hid hle
  have Hk0 := Lib.hid hk0
  have HC := Lib.hid hC
  have hwf := hCh.inv.wf
  have Hwf := Lib.hid hwf
  have HoT := Lib.hid hT
  have hR0 : R = PM.desc T n (msel n gens k) (n - 0) 0 (PM.pts n) := by rw [HR.out, Nat.sub_zero]; exact (hCh.descG hn Hpn.out (msel n gens k) hgood).symm
  have HR0 := Lib.hid hR0
  have HCh := Lib.hid hCh
  have hcn := hC.cn
  obtain ⟨od, hod⟩ : ∃ od, od = ordC n gens n := ⟨_, rfl⟩
  rw [← hod] at hole hRng
  have HRng := Lib.hid hRng
  have HcO : Hid (Calls Tryz.prog 37 #[.pointer (some ⟨L.g, 0, none⟩), .int .i64 0] w fun e w' => e = .returned (.int .i64 (od : Nat)) ∧ Only [] w w') := Lib.hid (by
    rw [hod, ← hOE n (Nat.le_refl _)]
    exact implOrder0 hC hwf hT)
  have hwo : IntKind.i64.wrap ((od : Int) - 1) = (od : Int) - 1 := by rw [IntKind.wrap_i64]; omega
  have hbM0 := hC.lM
  have hbF0 := hC.lF
  clear hOE hRng hst hgood hpos hle hk0 hC hwf hT hR0 hCh hod
  go_enter Tryz.func36, Tryz.ntmps36
  go_wp2_with (first
    | (go_at_call 37; (with_reducible refine (HcO.out).mono ?_); rintro en w1 ⟨rfl, t1⟩; have c1n := t1.cell (by simp) hcn)
    | (go_at_call 58; (with_reducible refine (within_any (k : Int) 0 ((od : Int) - 1) _).mono ?_); rintro e w1' ⟨he, h1⟩; rw [HRng.out] at he; subst he; rw [h1]; clear h1)
    | (go_at_call 20; (with_reducible refine (implIdentity_any n w1 (by omega)).mono ?_); rintro en w4 ⟨v4, f4, rfl, r4, F4, t4⟩)
    | (go_at_call 60; (with_reducible refine (from_any L.g v4 (PM.pts n) f4 w4 r4).mono ?_); rintro en w5 ⟨rfl, hB5, t5, hs5⟩)
    | fail "no arm")
  have z1 := t1.size
  have z4 := t4.size
  have k5 : Only [] w w5 := (t1.trans t4).trans t5
  have hC5 := HC.out.keep k5
  have r5 := Rp.keep r4 t5
  have F5 : Fresh w.heap.size w5 f4 := (F4.keep t5).mono z1
  have hbM : ∀ z ∈ [w4.heap.size], z ∉ M := fun z hz hm => by have := hbM0 z hm; simp at hz; omega
  have hbF : ∀ z ∈ [w4.heap.size], z ∉ F := fun z hz hm => by have := hbF0 z hm; simp at hz; omega
  have HbM := Lib.hid hbM
  have HbF := Lib.hid hbF
  clear hbM hbF t1 t4 t5 r4 F4 hs5 c1n hbM0 hbF0 HcO
  go_loopw [1] (fun kv wr => ∃ (i : Nat) (v : Value) (m : List Int) (f : List Nat), i ≤ n ∧ kv = .int .i64 (k % ordC n gens (n - i) : Nat) ∧ Blk wr w4.heap.size [.pointer (some ⟨L.g, 0, none⟩), .int .i64 i, v] ∧ Rd wr v m f ∧ Fresh w.heap.size wr f ∧ Ch 26 B wr L gv n G T M F ∧ PM.Grp n gens m ∧ Hid (R = PM.desc T n (msel n gens k) (n - i) i m) ∧ Only [] w wr)
    (fun _ wr => n - (intOf ((wr.cell? ⟨w4.heap.size, 1, none⟩).getD undef)).toNat)
  case atStart => exact ⟨0, v4, PM.pts n, f4, Nat.zero_le _, by rw [Hk0.out], hB5, r5, F5, hC5, .id, HR0, k5⟩
  case round =>
    obtain ⟨W2, hnew⟩ : ∃ W, W = wr := ⟨_, rfl⟩
    subst hnew
    clear hB5 r5 F5 hC5 k5
    obtain ⟨i, v, m, f, hi, rfl, hB, hr, hF, hC, hgr, hRR, hO⟩ := hrel
    have y1 := hB.cell 1 rfl
    have yn := hC.cn
    go_upto_region 4 with fail
    go_quiet (fail)
    obtain ⟨W3, hW3⟩ : ∃ W, W = W2.drewN nq := ⟨_, rfl⟩
    have kq : Only [] W2 W3 := by rw [hW3]; exact (Only.refl _ _).drewN _
    rw [← hW3]
    have hB3 := hB.keep kq
    have hC3 := hC.keep kq
    have hr3 := Rp.keep hr kq
    have hF3 := hF.keep kq
    have hO3 := hO.trans kq
    have y13 := hB3.cell 1 rfl
    have hO2 := hO3.size
    have hbW := hB3.lt
    clear hW3
    by_cases hlt : i < n
    · have hpm : PM.PN n m := hgr.pn Hpn.out
      have hwf := Hwf.out
      obtain ⟨C, hCd⟩ : ∃ C, C = PM.cho n T i m := ⟨_, rfl⟩
      have hCl : C.length = PM.cntR n T i := by rw [hCd, PM.cho_len hpm]
      have hCl2 : C.length ≤ 20 := by rw [hCl]; have := PM.cntR_le n T i; omega
      obtain ⟨r, hrr⟩ : ∃ r, r = ordC n gens (n - (i + 1)) := ⟨_, rfl⟩
      obtain ⟨kk, hkk⟩ : ∃ kk, kk = k % ordC n gens (n - i) := ⟨_, rfl⟩
      obtain ⟨q, hq⟩ : ∃ q, q = kk / r := ⟨_, rfl⟩
      have hqs : q = msel n gens k i C.length := by rw [hq, hkk, hrr]; rfl
      have hql : q < C.length := by
        have h1 := Hgood.out i hlt
        rw [hCl]
        have h2 : msel n gens k i C.length = msel n gens k i (PM.cntR n T i) := rfl
        rw [hqs, h2]; exact h1
      have hkm : C[q] ∈ PM.cho n T i m := by rw [← hCd]; exact List.getElem_mem hql
      have hgr2 := HCh.out.putV hn Hpn.out hlt hgr hkm
      have hRR2 : R = PM.desc T n (msel n gens k) (n - (i + 1)) (i + 1) (PM.putV T i m C[q]) := by
        subst hCd
        rw [hRR.out]
        exact PM.desc_step hlt m hqs hql
      have hrp : 1 ≤ r := by rw [hrr]; exact Hpos.out _ (by omega)
      have hrl : r ≤ 2432902008176640000 := by rw [hrr]; exact Hle.out _ (by omega)
      have hkkl : kk ≤ 2432902008176640000 := by
        rw [hkk]
        have h1 := Nat.mod_lt k (show 0 < ordC n gens (n - i) from Hpos.out _ (by omega))
        have h2 := Hle.out (n - i) (by omega)
        omega
      have hdiv : Int.tdiv (kk : Int) (r : Int) = (q : Int) := by rw [tdiv_nat, hq]
      have hmod : Int.tmod (kk : Int) (r : Int) = ((k % ordC n gens (n - (i + 1)) : Nat) : Int) := by rw [tmod_nat, hkk, hrr, Hst.out i hlt]
      have hr0 : ¬ ((r : Int) = 0) := by omega
      have HcO : Hid (Calls Tryz.prog 37 #[.pointer (some ⟨L.g, 0, none⟩), .int .i64 ((i : Int) + 1)] W3 fun e w' => e = .returned (.int .i64 (r : Nat)) ∧ Only [] W3 w') := Lib.hid (by
        rw [hrr, ← HOE.out _ (by omega)]
        exact implOrder_any W3 hC3 hwf HoT.out (i + 1) (by omega))
      have HcS := Lib.hid (fun (V : World) (hV : Only [] W3 V) => walkSorted_any V (hC3.keep hV) hwf HoT.out w4.heap.size i hlt v m f (hB3.keep hV) (Rp.keep hr3 hV) hpm)
      rw [← hCd] at HcS
      obtain ⟨k2, hk2⟩ : ∃ k2, k2 = k % ordC n gens (n - (i + 1)) := ⟨_, rfl⟩
      rw [← hk2] at hmod
      rw [← hkk]
      have Hk2 := Lib.hid hk2
      have HRR2 := Lib.hid hRR2
      have Hgr2 := Lib.hid hgr2
      have Hkm := Lib.hid hkm
      have Hpm := Lib.hid hpm
      have HC3 := Lib.hid hC3
      have HB3 := Lib.hid hB3
      have hltI : (i : Int) < (n : Int) := by omega
      have hwi : IntKind.i64.wrap ((i : Int) + 1) = (i : Int) + 1 := by rw [IntKind.wrap_i64]; omega
      clear hCd hCl hrr hkk hq hqs hRR2 hgr2 hkm hpm hwf hC hC3 hB hB3 hgr hRR hk2 yn kq
      go_wp2_with (first
        | (go_at_call 37; (with_reducible refine (HcO.out).mono ?_); rintro en w6 ⟨rfl, t6⟩; have y16 := t6.cell (by simp) y13)
        | (go_at_call 61; (with_reducible refine (HcS.out w6 t6).mono ?_); rintro en w7 ⟨v7, rfl, hA7, t7⟩; obtain ⟨a7, c7, rfl, I7⟩ := hA7.rd.ints; obtain ⟨b8, o8, rfl, -, c8⟩ := I7.at_ q hql; have k37 := t6.trans t7)
        | (go_at_call 62; (with_reducible refine (take_yes w7 (HC3.out.keep k37) Hwf.out HoT.out w4.heap.size i hlt v m f (HB3.out.keep k37) (Rp.keep hr3 k37) Hpm.out C[q] Hkm.out).mono ?_); rintro en w9 ⟨rfl, ⟨v9, f9, B9, r9, F9⟩, O9⟩)
        | fail "no arm")
      have k29 : Only [] w w9 := (hO3.trans k37).then_ O9 (fun z hz hl => by simp at hz; omega)
      have HC9 := (HC3.out.keep k37).only O9 HbM.out HbF.out
      have F9' : Fresh w.heap.size w9 f9 := F9.mono (by have := k37.size; omega)
      have y9 := B9.cell 1 rfl
      go_roundw
      case rel => exact ⟨i + 1, v9, _, f9, by omega, by rw [Hk2.out], B9, r9, F9', HC9, Hgr2.out, HRR2, k29⟩
      case measure => rw [y9, y1]; simp [intOf]; omega
    · obtain rfl : i = n := by omega
      have hfin : R = m := by rw [hRR.out]; exact PM.desc_end (Nat.le_refl _) m
      have hge : ¬ ((i : Int) < (i : Int)) := by omega
      have y2 := hB3.cell 2 rfl
      have Hfin := Lib.hid hfin
      clear hfin hRR
      go_wp2
      exact bodyPost_ret (v := .tuple #[v, .bool true]) (by simp [results, Tryz.results36, go_sem]) rfl ⟨v, rfl, f, by rw [Hfin.out]; exact hr3, hF3, hO3⟩
end Go.Proofs.YtccdicgnolkepaaGreat

namespace Go.Proofs.YtccdicgnolkepaaGreat
open Go.RowKit
set_option maxRecDepth 10000

/-- the rank of a seed's random state -/
noncomputable def rstK (n : Nat) (gens : List (List Int)) (seed : Int) : Nat := ((nxR seed * 2147483647 + nxR (nxR seed)) % (ordC n gens n : Int)).toNat
noncomputable def rndS (x : Puzzle) (seed : Int) : List Int × Bool :=
  if validPz x = true ∧ inR seed 0 2147483646 = true then (memAt x.points.toNat x.moves (rstK x.points.toNat x.moves seed), true) else ([], false)
theorem rstK_lt {n : Nat} {gens : List (List Int)} {seed : Int} (h : 1 ≤ ordC n gens n) : rstK n gens seed < ordC n gens n := by
  unfold rstK
  have h1 := Int.emod_lt_of_pos (nxR seed * 2147483647 + nxR (nxR seed)) (show (0 : Int) < (ordC n gens n : Int) by omega)
  have h2 := Int.emod_nonneg (nxR seed * 2147483647 + nxR (nxR seed)) (show (ordC n gens n : Int) ≠ 0 by omega)
  omega
theorem rstK_mod {n : Nat} {gens : List (List Int)} {seed : Int} (h : 1 ≤ ordC n gens n) : Int.tmod (nxR seed * 2147483647 + nxR (nxR seed)) (ordC n gens n : Int) = (rstK n gens seed : Int) := by
  have h1 := nxR_rng seed
  have h2 := nxR_rng (nxR seed)
  rw [Int.tmod_eq_emod_of_nonneg (by omega)]
  unfold rstK
  have h3 := Int.emod_nonneg (nxR seed * 2147483647 + nxR (nxR seed)) (show (ordC n gens n : Int) ≠ 0 by omega)
  omega
set_option maxHeartbeats 1000000 in
theorem specGroupOrder_yes (n : Nat) (vg : Value) (gens : List (List Int)) (fpg : List Nat) (w : World) (hg : Rd w vg gens fpg) (hgs : gensB n gens = true) :
    Calls Tryz.prog 43 #[.int .i64 n, vg] w fun e w' => e = .returned (.int .i64 (ordC n gens n : Nat)) ∧ 1 ≤ ordC n gens n ∧ ordC n gens n ≤ 2432902008176640000 ∧ Only [] w w' := by
  obtain ⟨⟨n1, n20⟩, hgl, hpn⟩ := gensB_iff.1 hgs
  have hpn' : ∀ g ∈ gens, PM.PN n g := by simpa using hpn
  have hn : 0 < n := by omega
  have hn20 : n ≤ 20 := by omega
  have Hgs := Lib.hid hgs
  have Hpn := Lib.hid hpn'
  clear hpn hpn' hgs
  go_enter Tryz.func43, Tryz.ntmps43
  go_wp2_with (first
    | (go_at_call 40; (with_reducible refine (specIsGens_rd n vg gens fpg w hg).mono ?_); rintro en w1 ⟨he, t1⟩; rw [Hgs.out] at he; subst he; have t1 := t1.only [])
    | (go_at_call 44; (with_reducible refine (buildChain_any n hn hn20 vg gens fpg w1 (Rp.keep hg t1) Hpn.out (by omega)).mono ?_); rintro en w3 ⟨L, gv, G, T, M, F, rfl, hoG, hoT, hC, hCh, t3⟩; have HC := Lib.hid hC; have HCh := Lib.hid hCh; have HoT := Lib.hid hoT; clear hC hCh hoT hoG)
    | (go_at_call 45; (with_reducible refine (chainOrder_any w3 HC.out HCh.out.inv.wf HoT.out).mono ?_); rintro en w4 ⟨he, t4⟩; rw [ordC_eq HCh.out hn Hpn.out (Nat.le_refl _)] at he; subst he)
    | fail "no arm")
  go_ret
  exact ⟨rfl, ordC_pos HCh.out hn Hpn.out (Nat.le_refl _), ordC_le HCh.out hn Hpn.out hn20 (Nat.le_refl _), (t1.trans t3).trans t4⟩
theorem specGroupOrder_i (n : Int) (vg : Value) (gens : List (List Int)) (fpg : List Nat) (w : World) (hg : Rd w vg gens fpg) (hgs : gensB n gens = true) :
    Calls Tryz.prog 43 #[.int .i64 n, vg] w fun e w' => e = .returned (.int .i64 (ordC n.toNat gens n.toNat : Nat)) ∧ 1 ≤ ordC n.toNat gens n.toNat ∧ ordC n.toNat gens n.toNat ≤ 2432902008176640000 ∧ Only [] w w' := by
  obtain ⟨⟨n1, n20⟩, -, -⟩ := gensB_iff.1 hgs
  obtain ⟨m, rfl⟩ := Int.eq_ofNat_of_zero_le (by omega : 0 ≤ n)
  exact specGroupOrder_yes m vg gens fpg w hg hgs
theorem specMemberAt_i (n : Int) (vg : Value) (gens : List (List Int)) (fpg : List Nat) (k : Nat) (w : World) (hg : Rd w vg gens fpg) (hgs : gensB n gens = true) (hk : k < ordC n.toNat gens n.toNat) :
    Calls Tryz.prog 28 #[.int .i64 n, vg, .int .i64 k] w fun e w' => ∃ v f, e = .returned (.tuple #[v, .bool true]) ∧ Rd w' v (memAt n.toNat gens k) f ∧ Fresh w.heap.size w' f ∧ Only [] w w' := by
  obtain ⟨⟨n1, n20⟩, -, -⟩ := gensB_iff.1 hgs
  obtain ⟨m, rfl⟩ := Int.eq_ofNat_of_zero_le (by omega : 0 ≤ n)
  exact specMemberAt_yes m vg gens fpg k w hg hgs hk
theorem specStateCount_yes (cs : List Value) (x : Puzzle) (fp : List Nat) (w : World) (h : Rp.rep w cs x fp) (hv : validPz x = true) :
    Calls Tryz.prog 27 #[.agg cs.toArray] w fun e w' => e = .returned (.int .i64 (ordC x.points.toNat x.moves x.points.toNat : Nat)) ∧ 1 ≤ ordC x.points.toNat x.moves x.points.toNat ∧ ordC x.points.toNat x.moves x.points.toNat ≤ 2432902008176640000 ∧ Only [] w w' := by
  have h0 := h
  obtain ⟨v2, rfl, p0, p1, h2⟩ := h
  obtain ⟨A2, C2, ob, fps, rfl, -, -⟩ := h2.open_
  have Hgs := Lib.hid (validPz_gensB hv)
  go_enter Tryz.func27, Tryz.ntmps27
  go_wp2_with (first
    | (go_at_call 24; (with_reducible refine (specIsValidPuzzle_any [.int .i64 x.points, .string x.names, .slice A2 x.moves.length C2] x _ _ (Rp.keep h0 (by with_reducible repeat (first | exact Only.refl _ _ | assumption | refine Only.drewN ?_ _ | refine Only.drew ?_ | refine Only.alloc ?_ _ | refine Only.setCell ?_ (by intro hh; exfalso; simp at hh; try omega) _ | refine Only.trans ?_ (by assumption))))).mono ?_); rintro e w1 ⟨he, t1⟩; rw [hv] at he; subst he; have y1 := t1.cells_eq w.heap.size (by simp) (by simp); have k1 : Only [] w w1 := (by with_reducible repeat (first | exact Only.refl _ _ | assumption | refine Only.drewN ?_ _ | refine Only.drew ?_ | refine Only.alloc ?_ _ | refine Only.setCell ?_ (by intro hh; exfalso; simp at hh; try omega) _ | refine Only.trans ?_ (by assumption))))
    | (go_at_call 43; (with_reducible refine (specGroupOrder_i x.points _ x.moves _ w1 (Rp.keep h2 k1) Hgs.out).mono ?_); rintro en w3 ⟨rfl, o1, o2, t3⟩)
    | fail "no arm")
  go_ret
  exact ⟨rfl, o1, o2, k1.trans t3⟩
set_option maxHeartbeats 4000000 in
theorem specRandomState_any (cs : List Value) (x : Puzzle) (fp : List Nat) (seed : Int) (w : World) (h : Rp.rep w cs x fp) :
    Calls Tryz.prog 14 #[.agg cs.toArray, .int .i64 seed] w fun e w' => ∃ v f, e = .returned (.tuple #[v, .bool (rndS x seed).2]) ∧ Rd w' v (rndS x seed).1 f ∧ Fresh w.heap.size w' f ∧ Only [] w w' := by
  have h0 := h
  obtain ⟨v2, rfl, p0, p1, h2⟩ := h
  obtain ⟨A2, C2, ob, fps, rfl, -, -⟩ := h2.open_
  obtain ⟨st, hst⟩ : ∃ st, st = rndS x seed := ⟨_, rfl⟩
  rw [← hst]
  have HS := Lib.hid hst
  clear hst p0 p1
  rcases hq : validPz x
  · have hp : st = ([], false) := by rw [HS.out]; unfold rndS; rw [if_neg (by rw [hq]; simp)]
    have Hp := Lib.hid hp; clear hp
    go_enter Tryz.func14, Tryz.ntmps14
    go_wp2_with (first
      | (go_at_call 24; (with_reducible refine (specIsValidPuzzle_any [.int .i64 x.points, .string x.names, .slice A2 x.moves.length C2] x _ _ (Rp.keep h0 (by with_reducible repeat (first | exact Only.refl _ _ | assumption | refine Only.drewN ?_ _ | refine Only.drew ?_ | refine Only.alloc ?_ _ | refine Only.setCell ?_ (by intro hh; exfalso; simp at hh; try omega) _ | refine Only.trans ?_ (by assumption))))).mono ?_); rintro e w1 ⟨he, t1⟩; rw [hq] at he; subst he; have k1 : Only [] w w1 := (by with_reducible repeat (first | exact Only.refl _ _ | assumption | refine Only.drewN ?_ _ | refine Only.drew ?_ | refine Only.alloc ?_ _ | refine Only.setCell ?_ (by intro hh; exfalso; simp at hh; try omega) _ | refine Only.trans ?_ (by assumption))))
      | fail "no arm")
    exact bodyPost_ret (v := .tuple #[.slice (some ⟨w1.heap.size, 0, none⟩) 0 0, .bool false]) (by simp [results, Tryz.results14, go_sem]) rfl ⟨.slice (some ⟨w1.heap.size, 0, none⟩) 0 0, [], by rw [Hp.out], by rw [Hp.out]; exact (IntsA.nil _ _ (by simp [maxLen])).rd, Fresh.nil _ _, k1.alloc _⟩
  have Hgs := Lib.hid (validPz_gensB hq)
  rcases hr : inR seed 0 2147483646
  · have hp : st = ([], false) := by rw [HS.out]; unfold rndS; rw [if_neg (by rw [hr]; simp)]
    have Hp := Lib.hid hp; clear hp
    go_enter Tryz.func14, Tryz.ntmps14
    go_wp2_with (first
      | (go_at_call 24; (with_reducible refine (specIsValidPuzzle_any [.int .i64 x.points, .string x.names, .slice A2 x.moves.length C2] x _ _ (Rp.keep h0 (by with_reducible repeat (first | exact Only.refl _ _ | assumption | refine Only.drewN ?_ _ | refine Only.drew ?_ | refine Only.alloc ?_ _ | refine Only.setCell ?_ (by intro hh; exfalso; simp at hh; try omega) _ | refine Only.trans ?_ (by assumption))))).mono ?_); rintro e w1 ⟨he, t1⟩; rw [hq] at he; subst he; have k1 : Only [] w w1 := (by with_reducible repeat (first | exact Only.refl _ _ | assumption | refine Only.drewN ?_ _ | refine Only.drew ?_ | refine Only.alloc ?_ _ | refine Only.setCell ?_ (by intro hh; exfalso; simp at hh; try omega) _ | refine Only.trans ?_ (by assumption))))
      | (go_at_call 25; (with_reducible refine (specIsSeed_any seed _).mono ?_); rintro e w2 ⟨he, h1⟩; rw [hr] at he; subst he; rw [h1]; clear h1)
      | fail "no arm")
    exact bodyPost_ret (v := .tuple #[.slice (some ⟨w1.heap.size, 0, none⟩) 0 0, .bool false]) (by simp [results, Tryz.results14, go_sem]) rfl ⟨.slice (some ⟨w1.heap.size, 0, none⟩) 0 0, [], by rw [Hp.out], by rw [Hp.out]; exact (IntsA.nil _ _ (by simp [maxLen])).rd, Fresh.nil _ _, k1.alloc _⟩
  obtain ⟨od, hod⟩ : ∃ od, od = ordC x.points.toNat x.moves x.points.toNat := ⟨_, rfl⟩
  obtain ⟨k, hk⟩ : ∃ k, k = rstK x.points.toNat x.moves seed := ⟨_, rfl⟩
  have hp : st = (memAt x.points.toNat x.moves k, true) := by rw [HS.out]; unfold rndS; rw [if_pos ⟨hq, hr⟩, ← hk]
  have hx1 := nxR_rng seed
  have hy1 := nxR_rng (nxR seed)
  have hmd : 1 ≤ od → Int.tmod (nxR seed * 2147483647 + nxR (nxR seed)) (od : Int) = (k : Int) := fun h => by rw [hk, hod]; exact rstK_mod (by rw [← hod]; exact h)
  have hkl : 1 ≤ od → k < ordC x.points.toNat x.moves x.points.toNat := fun h => by rw [hk]; exact rstK_lt (by rw [← hod]; exact h)
  obtain ⟨a, ha⟩ : ∃ a, a = nxR seed := ⟨_, rfl⟩
  obtain ⟨b, hb⟩ : ∃ b, b = nxR a := ⟨_, rfl⟩
  rw [← ha] at hx1 hy1 hmd
  rw [← hb] at hy1 hmd
  have hwm : IntKind.i64.wrap (a * 2147483647) = a * 2147483647 := by rw [IntKind.wrap_i64]; omega
  have hwa : IntKind.i64.wrap (a * 2147483647 + b) = a * 2147483647 + b := by rw [IntKind.wrap_i64]; omega
  have Hp := Lib.hid hp
  have Hod := Lib.hid hod
  have Hmd := Lib.hid hmd
  have Hkl := Lib.hid hkl
  have Ha := Lib.hid ha
  have Hb := Lib.hid hb
  have HX : Hid (∀ V : World, Only [] w V → Calls Tryz.prog 27 #[.agg [.int .i64 x.points, .string x.names, .slice A2 x.moves.length C2].toArray] V fun e w' => e = .returned (.int .i64 (od : Nat)) ∧ 1 ≤ od ∧ od ≤ 2432902008176640000 ∧ Only [] V w') := Lib.hid (fun V hV => by
    rw [hod]; exact specStateCount_yes _ x _ V (Rp.keep h0 hV) hq)
  clear hp hod hk hmd hkl ha hb
  go_enter Tryz.func14, Tryz.ntmps14
  go_upto_region 4 with (first
    | (go_at_call 24; (with_reducible refine (specIsValidPuzzle_any [.int .i64 x.points, .string x.names, .slice A2 x.moves.length C2] x _ _ (Rp.keep h0 (by with_reducible repeat (first | exact Only.refl _ _ | assumption | refine Only.drewN ?_ _ | refine Only.drew ?_ | refine Only.alloc ?_ _ | refine Only.setCell ?_ (by intro hh; exfalso; simp at hh; try omega) _ | refine Only.trans ?_ (by assumption))))).mono ?_); rintro e w1 ⟨he, t1⟩; rw [hq] at he; subst he; have k1 : Only [] w w1 := (by with_reducible repeat (first | exact Only.refl _ _ | assumption | refine Only.drewN ?_ _ | refine Only.drew ?_ | refine Only.alloc ?_ _ | refine Only.setCell ?_ (by intro hh; exfalso; simp at hh; try omega) _ | refine Only.trans ?_ (by assumption))); have hB := Blk.keep (Blk.new_at (t := 29) (cs := [.int .i64 x.points, .string x.names, .slice A2 x.moves.length C2]) rfl) t1)
    | (go_at_call 25; (with_reducible refine (specIsSeed_any seed _).mono ?_); rintro e w2 ⟨he, h1⟩; rw [hr] at he; subst he; rw [h1]; clear h1)
    | (go_at_call 26; (with_reducible refine (specNextRandom_any seed _).mono ?_); rintro e w2 ⟨he, h1⟩; rw [← Ha.out] at he; subst he; rw [h1]; clear h1)
    | fail "no arm")
  have x0 := hB.cell 0 rfl
  have x1 := hB.cell 1 rfl
  have x2 := hB.cell 2 rfl
  go_region_held3 (fun w' => Only [] w1 w' ∧ w'.cell? ⟨w.heap.size, 0, none⟩ = some (.int .i64 x.points) ∧ w'.cell? ⟨w.heap.size, 1, none⟩ = some (.string x.names) ∧ w'.cell? ⟨w.heap.size, 2, none⟩ = some (.slice A2 x.moves.length C2)) (((refine and_of ?_ (fun h__ => ⟨h__.cell (by simp) x0, h__.cell (by simp) x1, h__.cell (by simp) x2⟩)); first | exact (Only.refl _ _).drew | exact ((Only.refl _ _).drewN _).drew | exact Only.trans (And.left (by assumption)) (by assumption) | exact Only.alloc (And.left (by assumption)) _ | assumption)) (first | (go_at_call 26; (with_reducible refine (specNextRandom_any a _).mono ?_); rintro e w2 ⟨he, h1⟩; rw [← Hb.out] at he; subst he; rw [h1]; clear h1) | (go_at_call 27; (with_reducible refine (HX.out _ (Only.trans k1 (And.left (by assumption)))).mono ?_); rintro e w3 ⟨rfl, o1, o2, t3⟩; have k3 : Only [] w1 w3 := Only.trans (And.left (by assumption)) t3; have hr0 : ¬ (od = 0) := (by omega); have hmd := Hmd.out o1) | fail "no arm")
  rename_i hHd
  obtain ⟨k4, z0, z1, z2⟩ := hHd
  go_wp2_with (first
    | (go_at_call 28; (with_reducible refine (specMemberAt_i x.points _ x.moves _ k w3 (Rp.keep h2 (k1.trans k4)) Hgs.out (Hkl.out o1)).mono ?_); rintro e w5 ⟨v, f, rfl, r5, F5, t5⟩)
    | fail "no arm")
  have k5 : Only [] w w5 := (k1.trans k4).trans t5
  have hsz := (k1.trans k4).size
  exact bodyPost_ret (v := .tuple #[v, .bool true]) (by simp [results, Tryz.results14, go_sem]) rfl ⟨v, f, by rw [Hp.out], by rw [Hp.out]; exact r5, F5.mono hsz, k5⟩
theorem rsChain_i (n : Int) (vg : Value) (gens : List (List Int)) (fpg : List Nat) (w : World) (hg : Rd w vg gens fpg) (hgs : gensB n gens = true) :
    Calls Tryz.prog 34 #[.int .i64 n, vg] w fun e w' => ∃ (L : Lay) (gv : Nat → Value) (G : PM.Gens) (T : PM.Rows) (M F : List Nat), e = .returned (.pointer (some ⟨L.g, 0, none⟩)) ∧ L.oG = 1 ∧ L.oT = 2 ∧ Ch 26 w.heap.size w' L gv n.toNat G T M F ∧ PM.Chain n.toNat gens G T ∧ Only [] w w' := by
  obtain ⟨⟨n1, n20⟩, hgl, hpn⟩ := gensB_iff.1 hgs
  obtain ⟨m, rfl⟩ := Int.eq_ofNat_of_zero_le (by omega : 0 ≤ n)
  exact implNewChain_any m (by omega) (by omega) vg gens fpg w hg hpn (by omega)
theorem implOrder_ord (n : Nat) {B : Nat} {L : Lay} {gv : Nat → Value} {gens : List (List Int)} {G : PM.Gens} {T : PM.Rows} {M F : List Nat} (w : World) (hC : Ch 26 B w L gv n G T M F) (hCh : PM.Chain n gens G T) (hT : L.oT = 2) (hpn : ∀ g ∈ gens, PM.PN n g) :
    Calls Tryz.prog 37 #[.pointer (some ⟨L.g, 0, none⟩), .int .i64 0] w fun e w' => e = .returned (.int .i64 (ordC n gens n : Nat)) ∧ 1 ≤ ordC n gens n ∧ ordC n gens n ≤ 2432902008176640000 ∧ Only [] w w' := by
  refine (implOrder0 hC hCh.inv.wf hT).mono ?_
  rintro e w' ⟨he, t⟩
  rw [ordC_eq hCh hC.pos hpn (Nat.le_refl _)] at he
  exact ⟨he, ordC_pos hCh hC.pos hpn (Nat.le_refl _), ordC_le hCh hC.pos hpn hC.le (Nat.le_refl _), t⟩
set_option maxHeartbeats 4000000 in
theorem implRandomState_any (cs : List Value) (x : Puzzle) (fp : List Nat) (seed : Int) (w : World) (h : Rp.rep w cs x fp) :
    Calls Tryz.prog 18 #[.agg cs.toArray, .int .i64 seed] w fun e w' => ∃ v f, e = .returned (.tuple #[v, .bool (rndS x seed).2]) ∧ Rd w' v (rndS x seed).1 f ∧ Fresh w.heap.size w' f ∧ Only [] w w' := by
  have h0 := h
  obtain ⟨v2, rfl, p0, p1, h2⟩ := h
  obtain ⟨A2, C2, ob, fps, rfl, -, -⟩ := h2.open_
  obtain ⟨st, hst⟩ : ∃ st, st = rndS x seed := ⟨_, rfl⟩
  rw [← hst]
  have HS := Lib.hid hst
  clear hst p0 p1
  rcases hq : validPz x
  · have hp : st = ([], false) := by rw [HS.out]; unfold rndS; rw [if_neg (by rw [hq]; simp)]
    have Hp := Lib.hid hp; clear hp
    go_enter Tryz.func18, Tryz.ntmps18
    go_wp2_with (first
      | (go_at_call 32; (with_reducible refine (implIsValidPuzzle_any [.int .i64 x.points, .string x.names, .slice A2 x.moves.length C2] x _ _ (Rp.keep h0 (by with_reducible repeat (first | exact Only.refl _ _ | assumption | refine Only.drewN ?_ _ | refine Only.drew ?_ | refine Only.alloc ?_ _ | refine Only.setCell ?_ (by intro hh; exfalso; simp at hh; try omega) _ | refine Only.trans ?_ (by assumption))))).mono ?_); rintro e w1 ⟨he, t1⟩; rw [hq] at he; subst he; have k1 : Only [] w w1 := (by with_reducible repeat (first | exact Only.refl _ _ | assumption | refine Only.drewN ?_ _ | refine Only.drew ?_ | refine Only.alloc ?_ _ | refine Only.setCell ?_ (by intro hh; exfalso; simp at hh; try omega) _ | refine Only.trans ?_ (by assumption))))
      | fail "no arm")
    exact bodyPost_ret (v := .tuple #[.slice none 0 0, .bool false]) (by simp [results, Tryz.results18, go_sem]) rfl ⟨.slice none 0 0, [], by rw [Hp.out], by rw [Hp.out]; exact nil_rd _, Fresh.nil _ _, k1⟩
  have Hgs := Lib.hid (validPz_gensB hq)
  rcases hr : inR seed 0 2147483646
  · have hp : st = ([], false) := by rw [HS.out]; unfold rndS; rw [if_neg (by rw [hr]; simp)]
    have Hp := Lib.hid hp; clear hp
    go_enter Tryz.func18, Tryz.ntmps18
    go_wp2_with (first
      | (go_at_call 32; (with_reducible refine (implIsValidPuzzle_any [.int .i64 x.points, .string x.names, .slice A2 x.moves.length C2] x _ _ (Rp.keep h0 (by with_reducible repeat (first | exact Only.refl _ _ | assumption | refine Only.drewN ?_ _ | refine Only.drew ?_ | refine Only.alloc ?_ _ | refine Only.setCell ?_ (by intro hh; exfalso; simp at hh; try omega) _ | refine Only.trans ?_ (by assumption))))).mono ?_); rintro e w1 ⟨he, t1⟩; rw [hq] at he; subst he; have k1 : Only [] w w1 := (by with_reducible repeat (first | exact Only.refl _ _ | assumption | refine Only.drewN ?_ _ | refine Only.drew ?_ | refine Only.alloc ?_ _ | refine Only.setCell ?_ (by intro hh; exfalso; simp at hh; try omega) _ | refine Only.trans ?_ (by assumption))))
      | (go_at_call 33; (with_reducible refine (implIsSeed_any seed _).mono ?_); rintro e w2 ⟨he, h1⟩; rw [hr] at he; subst he; rw [h1]; clear h1)
      | fail "no arm")
    exact bodyPost_ret (v := .tuple #[.slice none 0 0, .bool false]) (by simp [results, Tryz.results18, go_sem]) rfl ⟨.slice none 0 0, [], by rw [Hp.out], by rw [Hp.out]; exact nil_rd _, Fresh.nil _ _, k1⟩
  have hpn := (gensB_iff.1 Hgs.out).2.2
  have Hpn := Lib.hid hpn
  obtain ⟨k, hk⟩ : ∃ k, k = rstK x.points.toNat x.moves seed := ⟨_, rfl⟩
  obtain ⟨od, hod⟩ : ∃ od, od = ordC x.points.toNat x.moves x.points.toNat := ⟨_, rfl⟩
  have hp : st = (memAt x.points.toNat x.moves k, true) := by rw [HS.out]; unfold rndS; rw [if_pos ⟨hq, hr⟩, ← hk]
  have hx1 := nxR_rng seed
  have hy1 := nxR_rng (nxR seed)
  have hmd : 1 ≤ od → Int.tmod (nxR seed * 2147483647 + nxR (nxR seed)) (od : Int) = (k : Int) := fun h => by rw [hk, hod]; exact rstK_mod (by rw [← hod]; exact h)
  have hkl : 1 ≤ od → k < ordC x.points.toNat x.moves x.points.toNat := fun h => by rw [hk]; exact rstK_lt (by rw [← hod]; exact h)
  obtain ⟨a, ha⟩ : ∃ a, a = nxR seed := ⟨_, rfl⟩
  obtain ⟨b, hb⟩ : ∃ b, b = nxR a := ⟨_, rfl⟩
  rw [← ha] at hx1 hy1 hmd
  rw [← hb] at hy1 hmd
  have hwm : IntKind.i64.wrap (a * 2147483647) = a * 2147483647 := by rw [IntKind.wrap_i64]; omega
  have hwa : IntKind.i64.wrap (a * 2147483647 + b) = a * 2147483647 + b := by rw [IntKind.wrap_i64]; omega
  have Hp := Lib.hid hp
  have Hod := Lib.hid hod
  have Hmd := Lib.hid hmd
  have Hkl := Lib.hid hkl
  have Ha := Lib.hid ha
  have Hb := Lib.hid hb
  clear hp hod hk hmd hkl ha hb hpn
  go_enter Tryz.func18, Tryz.ntmps18
  go_wp2_with (first
    | (go_at_call 32; (with_reducible refine (implIsValidPuzzle_any [.int .i64 x.points, .string x.names, .slice A2 x.moves.length C2] x _ _ (Rp.keep h0 (by with_reducible repeat (first | exact Only.refl _ _ | assumption | refine Only.drewN ?_ _ | refine Only.drew ?_ | refine Only.alloc ?_ _ | refine Only.setCell ?_ (by intro hh; exfalso; simp at hh; try omega) _ | refine Only.trans ?_ (by assumption))))).mono ?_); rintro e w1 ⟨he, t1⟩; rw [hq] at he; subst he; have k1 : Only [] w w1 := (by with_reducible repeat (first | exact Only.refl _ _ | assumption | refine Only.drewN ?_ _ | refine Only.drew ?_ | refine Only.alloc ?_ _ | refine Only.setCell ?_ (by intro hh; exfalso; simp at hh; try omega) _ | refine Only.trans ?_ (by assumption))); have hB := Blk.keep (Blk.new_at (t := 29) (cs := [.int .i64 x.points, .string x.names, .slice A2 x.moves.length C2]) rfl) t1; have x0 := hB.cell 0 rfl; have x2 := hB.cell 2 rfl)
    | (go_at_call 33; (with_reducible refine (implIsSeed_any seed _).mono ?_); rintro e w2 ⟨he, h1⟩; rw [hr] at he; subst he; rw [h1]; clear h1)
    | (go_at_call 34; (with_reducible refine (rsChain_i x.points _ x.moves _ w1 (Rp.keep h2 k1) Hgs.out).mono ?_); rintro e w3 ⟨L, gv, G, T, M, F, rfl, -, hoT, hC, hCh, t3⟩; have HC := Lib.hid hC; have HCh := Lib.hid hCh; have HoT := Lib.hid hoT; clear hC hCh hoT)
    | (go_at_call 35; (with_reducible refine (implNextRandom_any seed _).mono ?_); rintro e w2 ⟨he, h1⟩; rw [← Ha.out] at he; subst he; rw [h1]; clear h1)
    | (go_at_call 35; (with_reducible refine (implNextRandom_any a _).mono ?_); rintro e w2 ⟨he, h1⟩; rw [← Hb.out] at he; subst he; rw [h1]; clear h1)
    | (go_at_call 37; (with_reducible refine (implOrder_ord x.points.toNat w3 HC.out HCh.out HoT.out Hpn.out).mono ?_); rintro e w4 ⟨he, o1, o2, t4⟩; rw [← Hod.out] at he o1 o2; subst he; have hr0 : ¬ ((od : Int) = 0) := (by omega); have hmd := Hmd.out o1)
    | (go_at_call 36; (with_reducible refine (memberAt_yes x.points.toNat k w4 (HC.out.keep t4) HCh.out HoT.out Hpn.out (Hkl.out o1)).mono ?_); rintro e w5 ⟨v, f, rfl, r5, F5, t5⟩)
    | fail "no arm")
  have k5 : Only [] w w5 := ((k1.trans t3).trans t4).trans t5
  have hsz := ((k1.trans t3).trans t4).size
  exact bodyPost_ret (v := .tuple #[v, .bool true]) (by simp [results, Tryz.results18, go_sem]) rfl ⟨v, f, by rw [Hp.out], by rw [Hp.out]; exact r5, F5.mono hsz, k5⟩
end Go.Proofs.YtccdicgnolkepaaGreat

namespace Go.Proofs.YtccdicgnolkepaaGreat
open Go.RowKit
set_option maxRecDepth 10000

/-- n letters, each the first that leads closer -/
def oW (x : Puzzle) (t : Table) : Nat → List Int → List Int
  | 0, _ => []
  | n + 1, p => descL x t p n :: oW x t n (nxt x p (descL x t p n))
theorem oW_len (x : Puzzle) (t : Table) : ∀ (n : Nat) (p : List Int), (oW x t n p).length = n
  | 0, _ => rfl
  | n + 1, p => by unfold oW; rw [List.length_cons, oW_len x t n]
/-- one letter of the way down -/
structure Down (x : Puzzle) (t : Table) (i : Nat) (n : Nat) (k : Nat) (j : Nat) : Prop where
  hk : k < (ltrs x.moves.length).length
  l : descL x t (t.patterns.getD i []) n = (ltrs x.moves.length)[k]
  hj : j < t.patterns.length
  nx : t.patterns.getD j [] = nxt x (t.patterns.getD i []) (ltrs x.moves.length)[k]
  ds : t.distances.getD j 0 = n
  no : ∀ m (hm : m < k), ∀ i', i' < t.patterns.length → t.patterns.getD i' [] = nxt x (t.patterns.getD i []) ((ltrs x.moves.length)[m]'(Nat.lt_trans hm hk)) → t.distances.getD i' 0 ≠ n ∧ ¬ t.distances.getD i' 0 < (n : Int) + 1
section
variable {x : Puzzle} {t : Table}
theorem Built.mem_of (_ : Built x t) {i : Nat} (hi : i < t.patterns.length) : t.patterns.getD i [] ∈ t.patterns := by rw [getD_get hi]; exact List.getElem_mem hi
theorem Built.down (h : Built x t) {i : Nat} (hi : i < t.patterns.length) {n : Nat} (hd : t.distances.getD i 0 = (n : Int) + 1) : ∃ k j, Down x t i n k j := by
  have hg := ent_nil.1 (h.good i hi)
  have hda : atD t i - 1 = (n : Int) := by rw [atD_nat, hd]; omega
  have hne : descL x t (t.patterns.getD i []) (atD t i - 1) ≠ 0 := hg.2.2.2.2 (by rw [atD_nat, hd]; omega)
  rw [hda] at hne
  rcases @descL_of_dK x t (t.patterns.getD i []) n with ⟨-, h1⟩ | ⟨k, hk, h1, h2⟩
  · exact absurd h1 hne
  · obtain ⟨-, hlead⟩ := descL_leads hne
    obtain ⟨a1, a2⟩ := leads_iffD.1 hlead
    rw [h2] at a1 a2
    have hlt := (idxL_lt (l := t.patterns) (p := nxt x (t.patterns.getD i []) (ltrs x.moves.length)[k])).2
    obtain ⟨j, hj⟩ : ∃ j : Nat, nextI x t (t.patterns.getD i []) (ltrs x.moves.length)[k] = j := ⟨_, (Int.toNat_of_nonneg a1).symm⟩
    have hjl : j < t.patterns.length := by unfold nextI at hj; omega
    have hn := idxL_getD a1
    unfold nextI at hj
    rw [hj, Int.toNat_natCast] at hn
    refine ⟨k, j, hk, h2, hjl, hn, ?_, ?_⟩
    · unfold nextI at a2; rw [hj, atD_nat] at a2; exact a2
    · intro m hm i' hi' e
      have hml : (ltrs x.moves.length)[m]'(Nat.lt_trans hm hk) ∈ ltrs x.moves.length := List.getElem_mem _
      have hne2 : t.distances.getD i' 0 ≠ n := by
        intro e2
        have hl : leads x t (t.patterns.getD i []) n ((ltrs x.moves.length)[m]'(Nat.lt_trans hm hk)) = true := by
          rw [leads_iffD]
          unfold nextI
          rw [← e, h.idx hi', atD_nat]
          exact ⟨by omega, e2⟩
        have hno : ∀ q ∈ (ltrs x.moves.length).take k, leads x t (t.patterns.getD i []) n q = false := by
          have hf : dK x t (t.patterns.getD i []) n = k := h1
          unfold dK idxF at hf
          cases hq : (ltrs x.moves.length).findIdx? (leads x t (t.patterns.getD i []) n) with
          | none => rw [hq] at hf; simp at hf
          | some k' =>
            rw [hq] at hf
            have hf2 : (k' : Int) = k := hf
            have : k' = k := by omega
            subst this
            obtain ⟨_, _, hall⟩ := List.findIdx?_eq_some_iff_getElem.1 hq
            intro q hqm
            rw [List.mem_take_iff_getElem] at hqm
            obtain ⟨m', hm', rfl⟩ := hqm
            simpa using hall m' (by omega)
        have := hno _ (List.mem_take_iff_getElem.2 ⟨m, by omega, rfl⟩)
        rw [hl] at this; cases this
      refine ⟨hne2, fun hlt2 => hne2 ?_⟩
      obtain ⟨i2, b1, b2, b3, b4⟩ := h.step hi hml
      have : i2 = i' := by
        have e3 := b2.trans e.symm
        rw [getD_get b1, getD_get hi'] at e3
        have hnd : t.patterns.Nodup := h.bi.nd
        exact nodup_at hnd b1 hi' e3
      subst this
      omega
theorem Down.oW_ {i n k j : Nat} (h : Down x t i n k j) : oW x t (n + 1) (t.patterns.getD i []) = (ltrs x.moves.length)[k]'h.hk :: oW x t n (t.patterns.getD j []) := by
  show descL x t (t.patterns.getD i []) n :: oW x t n (nxt x (t.patterns.getD i []) (descL x t (t.patterns.getD i []) n)) = _
  rw [h.l, h.nx]
end
theorem expl_pat {x : Puzzle} {t : Table} (he : expl x = some t) {i : Nat} (hi : i < t.patterns.length) : patB x.points x.points.toNat (t.patterns.getD i []) = true := by
  obtain ⟨hb, ht⟩ := expl_built he
  have := hb.bi.pat (t.patterns.getD i []) (hb.mem_of hi)
  rwa [ht, PM.pts_len] at this
theorem expl_len1 {x : Puzzle} {t : Table} (he : expl x = some t) {i : Nat} (hi : i < t.patterns.length) : (t.patterns.getD i []).length = x.points.toNat := (patB_iff.1 (expl_pat he hi)).1
/-- the smallest optimal word, if it is not too long -/
noncomputable def optX (x : Puzzle) (s : List Int) : Option (List Int) := if 0 ≤ distX x s ∧ distX x s ≤ 200 then some (oW x ((expl x).getD noTab) (distX x s).toNat s) else none
theorem optX_no {x : Puzzle} {s : List Int} (h : ¬ (0 ≤ distX x s ∧ distX x s ≤ 200)) : optX x s = none := by unfold optX; rw [if_neg h]
theorem optX_yes {x : Puzzle} {s : List Int} {t : Table} (ht : expl x = some t) (h : 0 ≤ distX x s ∧ distX x s ≤ 200) : optX x s = some (oW x t (distX x s).toNat s) := by unfold optX; rw [if_pos h, ht]; rfl
theorem optX_len {x : Puzzle} {s w : List Int} (h : optX x s = some w) : (w.length : Int) = distX x s ∧ w.length ≤ 200 := by
  unfold optX at h
  split at h
  · rename_i hc
    injection h with h
    subst h
    rw [oW_len]
    omega
  · cases h
end Go.Proofs.YtccdicgnolkepaaGreat

namespace Go.Proofs.YtccdicgnolkepaaGreat
open Go.RowKit
set_option maxRecDepth 10000
open Go.Maps (Keyed)

theorem Tryz.zeroInt64 (w : World) : (zeroValue 2).run Tryz.prog w = .ok (.int .i64 0) w := by kernel_rfl
/-- block M is a map of at most k entries; g: what lies at a key -/
def Mq (w : World) (M k : Nat) (g : ByteArray → Option Int) : Prop :=
  ∃ D : DataW Unit, w.ownsMap Tryz.prog 9 (plainElem Tryz.prog 2) M k D ∧ ∀ s : ByteArray, s.size ≤ maxLen →
    Go.Maps.has D (.string s.data.toList) = (g s).isSome ∧ ∀ n, g s = some n → D.atKey (.string s.data.toList) (.lit (.int .i64 0)) = .lit (.int .i64 n)
theorem Mq.lt {w : World} {M k : Nat} {g : ByteArray → Option Int} (h : Mq w M k g) : M < w.heap.size := by
  obtain ⟨D, h1, -⟩ := h; exact h1.lt
theorem Mq.frame {w w' : World} {M k : Nat} {g : ByteArray → Option Int} (h : Mq w M k g) (hf : w'.heap[M]? = w.heap[M]?) : Mq w' M k g := by
  obtain ⟨D, ⟨es, c, h1, h2⟩, h3⟩ := h
  exact ⟨D, ⟨es, c, by rw [hf]; exact h1, h2⟩, h3⟩
theorem Mq.only {w w' : World} {fp : List Nat} {M k : Nat} {g : ByteArray → Option Int} (h : Mq w M k g) (ho : Only fp w w') (hn : M ∉ fp) : Mq w' M k g := h.frame (ho.block M h.lt hn)
theorem Mq.keep {w w' : World} {M k : Nat} {g : ByteArray → Option Int} (h : Mq w M k g) (ho : Only [] w w') : Mq w' M k g := h.only ho (by simp)
theorem Mq.made (w : World) {M : Nat} (hM : M = w.heap.size) : Mq (w.alloc (.map #[] 0)) M 0 (fun _ => none) := by
  subst hM
  exact ⟨.map [], World.ownsMap_made _ _ _ _, fun s _ => ⟨rfl, by simp⟩⟩
theorem Mq.congr {w : World} {M k : Nat} {g g' : ByteArray → Option Int} (h : Mq w M k g) (hg : ∀ s, g s = g' s) : Mq w M k g' := by
  have : g = g' := funext hg
  rw [← this]; exact h
section
variable {w : World} {M k : Nat} {g : ByteArray → Option Int}
/-- v, ok := m[k], as an equation -/
theorem Mq.run_ok (h : Mq w M k g) {s : ByteArray} (hs : s.size ≤ maxLen) : (Instr.lookup 91 (.map (some M)) (.string s) true).run Tryz.prog w = .ok (.tuple #[.int .i64 ((g s).getD 0), .bool (g s).isSome]) w := by
  obtain ⟨D, hown, hg⟩ := h
  obtain ⟨h1, h2⟩ := hg s hs
  obtain ⟨v, ps, hrun, hv⟩ := hown.look_ok Tryz.lawStr Tryz.underlying91 (Tryz.zeroInt64 w) (plainElem_int Tryz.underlying2 (by decide)) (Go.WideMaps.keyOf_string_mk Tryz.underlying9 hs)
  obtain ⟨c, rfl, hc, -⟩ := plainElem_int_inv Tryz.underlying2 hv
  have hc1 : D.atKey (.string s.data.toList) (.lit (.int .i64 0)) = .lit (.int .i64 c) := congrArg Prod.fst hc
  have hcv : c = (g s).getD 0 := by
    cases hgs : g s with
    | none =>
      rw [hgs] at h1
      rw [Go.Maps.atKey_of_not_has h1] at hc1
      injection hc1 with hc1; injection hc1 with _ hc1; simp [hc1]
    | some n =>
      rw [h2 n hgs] at hc1
      injection hc1 with hc1; injection hc1 with _ hc1; simp [hc1]
  rw [hrun, hcv, h1]
theorem Mq.run_no (h : Mq w M k g) {s : ByteArray} (hs : s.size ≤ maxLen) (hg : g s = none) : (Instr.lookup 91 (.map (some M)) (.string s) true).run Tryz.prog w = .ok (.tuple #[.int .i64 0, .bool false]) w := by
  rw [h.run_ok hs, hg]; rfl
theorem Mq.run_yes (h : Mq w M k g) {s : ByteArray} (hs : s.size ≤ maxLen) {n : Int} (hg : g s = some n) : (Instr.lookup 91 (.map (some M)) (.string s) true).run Tryz.prog w = .ok (.tuple #[.int .i64 n, .bool true]) w := by
  rw [h.run_ok hs, hg]; rfl
/-- m[k] -/
theorem Mq.run_at (h : Mq w M k g) {s : ByteArray} (hs : s.size ≤ maxLen) : (Instr.lookup 91 (.map (some M)) (.string s) false).run Tryz.prog w = .ok (.int .i64 ((g s).getD 0)) w := by
  obtain ⟨D, hown, hg⟩ := h
  obtain ⟨h1, h2⟩ := hg s hs
  obtain ⟨c, hrun, hc1, -⟩ := hown.lookup_int Tryz.lawStr Tryz.underlying91 Tryz.underlying2 (Tryz.zeroInt64 w) (Go.WideMaps.keyOf_string_mk Tryz.underlying9 hs)
  have hcv : c = (g s).getD 0 := by
    cases hgs : g s with
    | none =>
      rw [hgs] at h1
      rw [Go.Maps.atKey_of_not_has h1] at hc1
      injection hc1 with hc1; injection hc1 with _ hc1; simp [hc1]
    | some n =>
      rw [h2 n hgs] at hc1
      injection hc1 with hc1; injection hc1 with _ hc1; simp [hc1]
  rw [hrun, hcv]
theorem Mq.run_at_yes (h : Mq w M k g) {s : ByteArray} (hs : s.size ≤ maxLen) {n : Int} (hg : g s = some n) : (Instr.lookup 91 (.map (some M)) (.string s) false).run Tryz.prog w = .ok (.int .i64 n) w := by
  rw [h.run_at hs, hg]; rfl
/-- m[k] = v -/
theorem Mq.run_put (h : Mq w M k g) {s : ByteArray} (hs : s.size ≤ maxLen) {n : Int} (hn : I64 n) (hk : k < maxLen) :
    ∃ w', (Instr.mapUpdate 91 (.map (some M)) (.string s) (.int .i64 n)).run Tryz.prog w = .ok () w' ∧ Mq w' M (k + 1) (fun s' => if s' = s then some n else g s') ∧ Only [M] w w' := by
  obtain ⟨D, hown, hg⟩ := h
  have hwf : (Lit.int .i64 n).wf = true := WalkArith.wf_i64 hn
  obtain ⟨w', hrun, r1, r2⟩ := hown.store Tryz.lawStr Tryz.underlying91 hk (Go.WideMaps.keyOf_string_mk Tryz.underlying9 hs) (plainElem_int Tryz.underlying2 hwf)
  have hmap := hown.isMap
  refine ⟨w', hrun, ⟨_, r1, fun s' hs' => ?_⟩, ?_⟩
  · by_cases he : s' = s
    · subst he
      have hkl : WideAt.IsKeyLit (Lit.string s'.data.toList) := trivial
      exact ⟨by rw [Go.Maps.has_put_same hmap hkl]; simp, fun m' hm' => by
        rw [Go.Maps.atKey_put_same hmap hkl]; simp at hm'; rw [hm']⟩
    · have hne : (Lit.string s'.data.toList) ≠ .string s.data.toList := by
        intro e; injection e with e
        apply he
        have : s'.data = s.data := Array.toList_inj.1 e
        cases s'; cases s; simp at this; rw [this]
      obtain ⟨h1, h2⟩ := hg s' hs'
      exact ⟨by rw [Go.Maps.has_put_other hne, h1]; simp [he], fun m' hm' => by
        rw [Go.Maps.atKey_put_other hne]; simp [he] at hm'; exact h2 m' hm'⟩
  · exact (Only.refl _ _).grown r2.grown (by intro j hj _; injection hj with hj; subst hj; simp)
end
theorem Mq.mono {w : World} {M k k' : Nat} {g : ByteArray → Option Int} (h : Mq w M k g) (hk : k ≤ k') : Mq w M k' g := by
  obtain ⟨D, h1, h2⟩ := h
  exact ⟨D, h1.mono hk, h2⟩
/-- a map as a value in memory: its entries -/
structure KM where
  g : ByteArray → Option Int
instance : Rp KM where
  size := 1
  rep w cs x fp := ∃ M k, cs = [.map (some M)] ∧ fp = [M] ∧ Mq w M k x.g
  len h := by obtain ⟨_, _, rfl, _⟩ := h; rfl
  frame h hf := by
    obtain ⟨M, k, h1, h2, h3⟩ := h
    subst h2
    exact ⟨M, k, h1, rfl, h3.frame (hf M (by simp))⟩
  lt h := by
    obtain ⟨M, k, h1, h2, h3⟩ := h
    subst h2
    intro b hb
    simp at hb; subst hb; exact h3.lt
end Go.Proofs.YtccdicgnolkepaaGreat

namespace Go.Proofs.YtccdicgnolkepaaGreat
open Go.RowKit
set_option maxRecDepth 10000

/-- where the first pattern with this key lies -/
def firstG (l : List (List Int)) (s : ByteArray) : Option Int := (l.findIdx? fun p => kB p = s).map fun i : Nat => (i : Int)
theorem firstG_nil (s : ByteArray) : firstG [] s = none := rfl
theorem firstG_snoc (l : List (List Int)) (p : List Int) (s : ByteArray) : firstG (l ++ [p]) s = match firstG l s with | some i => some i | none => if s = kB p then some (l.length : Int) else none := by
  unfold firstG
  rw [List.findIdx?_append]
  cases h : l.findIdx? (fun p => decide (kB p = s)) with
  | some i => simp
  | none =>
    by_cases hp : kB p = s
    · simp [hp]
    · have : ¬ s = kB p := fun e => hp e.symm
      simp [hp, this]
def Byt (l : List Int) : Prop := ∀ x ∈ l, 0 ≤ x ∧ x < 256
theorem firstG_idx {l : List (List Int)} (h : ∀ p ∈ l, Byt p) {q : List Int} (hq : Byt q) : firstG l (kB q) = if 0 ≤ idxL l q then some (idxL l q) else none := by
  have hfun : l.findIdx? (fun p => decide (kB p = kB q)) = l.findIdx? (fun p => decide (p = q)) := by
    induction l with
    | nil => rfl
    | cons p l ih =>
      rw [List.findIdx?_cons, List.findIdx?_cons, ih (fun r hr => h r (by simp [hr]))]
      have : decide (kB p = kB q) = decide (p = q) := by
        rw [decide_eq_decide]; exact kB_eq (h p (by simp)) hq
      rw [this]
  unfold firstG idxL idxF
  rw [hfun]
  cases l.findIdx? (fun p => decide (p = q)) with
  | some i => simp
  | none => simp
theorem patB_byt {n : Int} {k : Nat} {l : List Int} (h : patB n k l = true) (hn : n ≤ 256) : Byt l := fun x hx => by
  have := (patB_iff.1 h).2.1 x hx; omega
end Go.Proofs.YtccdicgnolkepaaGreat

namespace Go.Proofs.YtccdicgnolkepaaGreat
open Go.RowKit
set_option maxRecDepth 10000

/-- parts of memory, all from B on, all apart -/
structure Fam (B : Nat) (w : World) (cs : List (List Nat)) : Prop where
  nd : cs.flatten.Nodup
  rng : ∀ c ∈ cs, ∀ b ∈ c, B ≤ b ∧ b < w.heap.size
theorem Fam.keep {B : Nat} {w w' : World} {cs : List (List Nat)} (h : Fam B w cs) (hs : w.heap.size ≤ w'.heap.size) : Fam B w' cs := ⟨h.nd, fun c hc b hb => by have := h.rng c hc b hb; omega⟩
theorem Fam.ge {B : Nat} {w : World} {cs : List (List Nat)} (h : Fam B w cs) (i : Nat) {c : List Nat} (hi : cs[i]? = some c) {b : Nat} (hb : b ∈ c) : B ≤ b := (h.rng c (List.mem_of_getElem? hi) b hb).1
theorem Fam.lt {B : Nat} {w : World} {cs : List (List Nat)} (h : Fam B w cs) (i : Nat) {c : List Nat} (hi : cs[i]? = some c) {b : Nat} (hb : b ∈ c) : b < w.heap.size := (h.rng c (List.mem_of_getElem? hi) b hb).2
theorem flat_disj : ∀ {cs : List (List Nat)}, cs.flatten.Nodup → ∀ {i j : Nat} {c d : List Nat}, i < j → cs[i]? = some c → cs[j]? = some d → ∀ b ∈ c, b ∉ d
  | [], _, i, j, c, d, _, hi, _ => by simp at hi
  | a :: cs, hn, 0, j, c, d, hij, hi, hj => by
    rw [List.flatten_cons, List.nodup_append] at hn
    simp at hi; subst hi
    intro b hb hm
    obtain ⟨k, rfl⟩ : ∃ k, j = k + 1 := ⟨j - 1, by omega⟩
    rw [List.getElem?_cons_succ] at hj
    exact hn.2.2 b hb b (List.mem_flatten.2 ⟨d, List.mem_of_getElem? hj, hm⟩) rfl
  | a :: cs, hn, i + 1, j, c, d, hij, hi, hj => by
    rw [List.flatten_cons, List.nodup_append] at hn
    obtain ⟨k, rfl⟩ : ∃ k, j = k + 1 := ⟨j - 1, by omega⟩
    rw [List.getElem?_cons_succ] at hi hj
    exact flat_disj hn.2.1 (by omega) hi hj
theorem Fam.disj {B : Nat} {w : World} {cs : List (List Nat)} (h : Fam B w cs) (i j : Nat) (hij : i ≠ j) {c d : List Nat} (hi : cs[i]? = some c) (hj : cs[j]? = some d) : ∀ b ∈ c, b ∉ d := by
  intro b hb hm
  rcases Nat.lt_or_gt_of_ne hij with h1 | h1
  · exact flat_disj h.nd h1 hi hj b hb hm
  · exact flat_disj h.nd h1 hj hi b hm hb
theorem flat_set : ∀ {cs : List (List Nat)} {i : Nat} {c : List Nat}, cs.flatten.Nodup → c.Nodup → (∀ b ∈ c, b ∉ (cs.set i []).flatten) → i < cs.length → (cs.set i c).flatten.Nodup
  | [], i, c, _, _, _, hi => by simp at hi
  | a :: cs, 0, c, hn, hc, hd, _ => by
    rw [List.flatten_cons, List.nodup_append] at hn
    rw [List.set_cons_zero, List.flatten_cons, List.nodup_append]
    refine ⟨hc, hn.2.1, fun x hx y hy e => ?_⟩
    subst e
    exact hd x hx (by rw [List.set_cons_zero, List.flatten_cons]; exact List.mem_append_right _ hy)
  | a :: cs, i + 1, c, hn, hc, hd, hi => by
    rw [List.flatten_cons, List.nodup_append] at hn
    rw [List.set_cons_succ, List.flatten_cons, List.nodup_append]
    have hd' : ∀ b ∈ c, b ∉ (cs.set i []).flatten := fun b hb hm => hd b hb (by rw [List.set_cons_succ, List.flatten_cons]; exact List.mem_append_right _ hm)
    refine ⟨hn.1, flat_set hn.2.1 hc hd' (by simpa using hi), fun x hx y hy e => ?_⟩
    subst e
    obtain ⟨d, hdm, hxd⟩ := List.mem_flatten.1 hy
    rcases List.mem_or_eq_of_mem_set hdm with h1 | rfl
    · exact hn.2.2 x hx x (List.mem_flatten.2 ⟨d, h1, hxd⟩) rfl
    · exact hd x hxd (by rw [List.set_cons_succ, List.flatten_cons]; exact List.mem_append_left _ hx)
/-- one part anew: what it was, or new memory -/
theorem Fam.set {B : Nat} {w w' : World} {cs : List (List Nat)} (h : Fam B w cs) (hs : w.heap.size ≤ w'.heap.size) (hB : B ≤ w.heap.size) (i : Nat) {c : List Nat} (hi : cs[i]? = some c) {c' : List Nat} (hn : c'.Nodup) (hc : ∀ b ∈ c', b ∈ c ∨ (w.heap.size ≤ b ∧ b < w'.heap.size)) : Fam B w' (cs.set i c') := by
  have hil : i < cs.length := (List.getElem?_eq_some_iff.1 hi).1
  refine ⟨flat_set h.nd hn (fun b hb hm => ?_) hil, fun d hd b hb => ?_⟩
  · obtain ⟨d, hdm, hbd⟩ := List.mem_flatten.1 hm
    obtain ⟨j, hj⟩ := List.getElem?_of_mem hdm
    have hjl : j < cs.length := by have := (List.getElem?_eq_some_iff.1 hj).1; simpa using this
    by_cases hij : i = j
    · subst hij
      rw [List.getElem?_set_self hil] at hj
      injection hj with hj; subst hj; cases hbd
    · rw [List.getElem?_set_ne hij] at hj
      rcases hc b hb with h1 | h1
      · exact h.disj i j hij hi hj b h1 hbd
      · have := h.lt j hj hbd; omega
  · rcases List.mem_or_eq_of_mem_set hd with h1 | rfl
    · have := h.rng d h1 b hb; omega
    · rcases hc b hb with h1 | h1
      · have := h.rng c (List.mem_of_getElem? hi) b h1; omega
      · omega
theorem Fam.cons {B : Nat} {w w' : World} {cs : List (List Nat)} (h : Fam B w cs) (hs : w.heap.size ≤ w'.heap.size) (hB : B ≤ w.heap.size) {c : List Nat} (hn : c.Nodup) (hc : ∀ b ∈ c, w.heap.size ≤ b ∧ b < w'.heap.size) : Fam B w' (c :: cs) := by
  refine ⟨?_, fun d hd b hb => ?_⟩
  · rw [List.flatten_cons, List.nodup_append]
    refine ⟨hn, h.nd, fun x hx y hy e => ?_⟩
    subst e
    obtain ⟨d, hd, hxd⟩ := List.mem_flatten.1 hy
    have := hc x hx
    have := h.rng d hd x hxd
    omega
  · rcases List.mem_cons.1 hd with rfl | hd
    · have := hc b hb; omega
    · have := h.rng d hd b hb; omega
theorem Fam.nil (B : Nat) (w : World) : Fam B w [] := ⟨by simp, by simp⟩
end Go.Proofs.YtccdicgnolkepaaGreat
