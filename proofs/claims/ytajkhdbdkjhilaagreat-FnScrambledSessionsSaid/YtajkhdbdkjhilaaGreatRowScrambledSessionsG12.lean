/- The program's walk down a chain: sorted, from; its generator (laws 33, 47). The generators of random numbers, of the program and of the reference (laws 33, 47). The selection that a seed's generator makes (laws 35, 47). The program's RandomMember (laws 35, 47). The reference's way down a chain: insertSorted, choicesAt, withEntry (laws 33, 47). The reference's choicesAt, withEntry, RandomMember (laws 33, 35, 47). ScrambleSession, of the reference and of the program (law 47). The laws' dice: bytes in memory; roll, below. -/
import Derived.Test.YtajkhdbdkjhilaaGreatRowScrambledSessionsG11
import Derived.Test.YtajkhdbdkjhilaaGreatRowScrambledSessionsG1
import Derived.Test.YtajkhdbdkjhilaaGreatRowScrambledSessionsG4
import Derived.Test.YtajkhdbdkjhilaaGreatRowScrambledSessionsG10
import Derived.Test.YtajkhdbdkjhilaaGreatRowScrambledSessionsG8
import Derived.Test.YtajkhdbdkjhilaaGreatRowScrambledSessionsG7
import Derived.Test.YtajkhdbdkjhilaaGreatRowScrambledSessionsG3
import Derived.Test.YtajkhdbdkjhilaaGreatRowScrambledSessionsG6
import Derived.Test.YtajkhdbdkjhilaaGreatRowScrambledSessionsG9
import Derived.Deep.QuietTactic
import Derived.BigQuiet
import Derived.BigRegion
import Derived.Laws.Bits64b
namespace Go.Proofs.YtajkhdbdkjhilaaGreat
open Go.RowKit
set_option maxRecDepth 10000

theorem ranges_frame {P : Program} {k : TypeId} {R : Value → Option (DataW Unit × List MemPlace)} {b r n cnt : Nat} {D : DataW Unit} {left : Lit → Bool} {w w' : World} (h : w.ranges P k R b r n D left cnt) (hb : w'.heap[b]? = w.heap[b]?) (hr : w'.heap[r]? = w.heap[r]?) : w'.ranges P k R b r n D left cnt := by
  obtain ⟨es, clock, since, seen, c0, h1, F, hs, hD, h2, rest⟩ := h
  exact ⟨es, clock, since, seen, c0, hb.trans h1, F, hs, hD, hr.trans h2, rest⟩
theorem AccI.low {B B' : Nat} {e : TypeId} {w : World} {v : Value} {l : List Int} (h : AccI B e w v l) (hB : B' ≤ B) : AccI B' e w v l := by
  obtain ⟨h1, h2⟩ := h.row
  refine AccI.ofRow ⟨h1.1, ?_⟩ h2
  rcases h1.2 with h3 | ⟨g, cap, cur, h3, h4, h5⟩
  · exact .inl h3
  · exact .inr ⟨g, cap, cur, h3, Nat.le_trans hB h4, h5⟩
theorem same_int (a b : Int) : (Lit.int .i64 a).sameKey (.int .i64 b) = decide (a = b) := by
  show decide (IntKind.i64 = IntKind.i64 ∧ a = b) = _
  by_cases h : a = b <;> simp [h]
/-- the keys met so far: l; those to come: left -/
structure KL (C : List Int) (left : Lit → Bool) (l : List Int) : Prop where
  nd : l.Nodup
  iff : ∀ x, I64 x → (x ∈ l ↔ x ∈ C ∧ left (.int .i64 x) = false)
  big : ∀ x ∈ l, I64 x
  dom : ∀ x, I64 x → left (.int .i64 x) = true → x ∈ C
theorem KL.step {C : List Int} {left : Lit → Bool} {l : List Int} (h : KL C left l) {x : Int} (hx : I64 x) (hl : left (.int .i64 x) = true) : KL C (fun z => left z && !z.sameKey (.int .i64 x)) (l ++ [x]) := by
  have hn : x ∉ l := fun hm => by have := ((h.iff x hx).1 hm).2; rw [hl] at this; cases this
  refine ⟨?_, fun y hy => ?_, fun y hy => ?_, fun y hy hl2 => ?_⟩
  · rw [List.nodup_append]
    exact ⟨h.nd, by simp, fun a ha b hb => by simp at hb; subst hb; intro e; subst e; exact hn ha⟩
  · rw [List.mem_append, h.iff y hy]
    simp only [List.mem_singleton, same_int]
    by_cases he : y = x
    · subst he; simp [h.dom _ hx hl]
    · simp [he]
  · rcases List.mem_append.1 hy with hy | hy
    · exact h.big y hy
    · simp at hy; subst hy; exact hx
  · simp only [same_int, Bool.and_eq_true] at hl2
    exact h.dom y hy hl2.1
theorem KL.end_ {C : List Int} {left : Lit → Bool} {l : List Int} (h : KL C left l) (hl : ∀ z, left z = false) (hC : PM.Asc C) (hCb : ∀ x ∈ C, I64 x) : (l.mergeSort fun x y => decide (x ≤ y)) = C := by
  refine PM.asc_ext (sorted_asc h.nd) hC fun x => ?_
  rw [sorted_mem]
  constructor
  · intro hx; exact ((h.iff x (h.big x hx)).1 hx).1
  · intro hx; exact (h.iff x (hCb x hx)).2 ⟨hx, hl _⟩
set_option maxHeartbeats 4000000 in
theorem walkSorted_any {e : TypeId} {B : Nat} {L : Lay} {gv : Nat → Value} {n : Nat} {G : PM.Gens} {T : PM.Rows} {M F : List Nat} (w : World) (hC : Ch e B w L gv n G T M F) (hw : PM.WF n T) (hT : L.oT = 2) (b i : Nat) (hi : i < n) (v : Value) (m : List Int) (fm : List Nat)
    (hb : Blk w b [.pointer (some ⟨L.g, 0, none⟩), .int .i64 i, v]) (hv : Rd w v m fm) (hm : PM.PN n m) :
    Calls Tryz.prog 98 #[.pointer (some ⟨b, 0, none⟩)] w fun e w' => ∃ v', e = .returned v' ∧ AccI w.heap.size 2 w' v' (PM.cho n T i m) ∧ Only [] w w' := by
  obtain ⟨i0, hii, hz0, hz1, hz2⟩ := info_parts Tryz.info2
  have HcV := Lib.hid (values_any w hC hT b i hi v m fm hb hv hm)
  obtain ⟨C, hCd⟩ : ∃ C, C = PM.cho n T i m := ⟨_, rfl⟩
  have hn20 := hC.le
  have hAs : PM.Asc C := by rw [hCd]; exact PM.choO_asc _ _
  have hCb : ∀ x ∈ C, I64 x := fun x hx => by rw [hCd] at hx; have := PM.cho_pre hm hx; unfold I64; omega
  have hCl : C.length ≤ 1000 := by rw [hCd, PM.cho_len hm]; have := PM.cntR_le n T i; omega
  have hCne : C ≠ [] := fun hc => by
    have h1 := PM.cho_len (T := T) (i := i) hm
    rw [← hCd, hc] at h1
    have h2 := PM.cntR_pos hw hi
    simp at h1; omega
  have hgC : ∀ x, (gV m (orb n T i) x).isSome = decide (x ∈ C) := fun x => by
    rw [hCd]
    by_cases hx : x ∈ PM.cho n T i m
    · rw [gV_yes hx]; simp [hx]
    · rw [gV_no hx]; simp [hx]
  rw [← hCd]
  have HAs := Lib.hid hAs
  have HCb := Lib.hid hCb
  have HCne := Lib.hid hCne
  have HgC := Lib.hid hgC
  clear hC hm hb hv hw hAs hCb hCne hgC hCd
  go_enter Tryz.func98, Tryz.ntmps98
  go_wp2_with (first
    | (go_at_call 126; (with_reducible refine (HcV.out).mono ?_); rintro en w1 ⟨K, rfl, hK, hM, t1⟩; obtain ⟨D, hown, hg⟩ := hM)
    | (at_range; refine wpList_range_own _ rfl _ 122 rfl 2 2 Tryz.lawI64 Tryz.underlying122 _ K 1000 D rfl hown ?_; intro w0 hrg0 hg0 hs0)
    | fail "no arm")
  go_frame
  have hKl := hown.lt
  have k01 : Only [] w1 w0 := (Only.refl _ _).grown hg0 (by intro j hj; cases hj)
  have kw0 : Only [] w w0 := t1.trans k01
  have hl0 : KL C (Go.Maps.has D) [] := ⟨List.nodup_nil, fun x hx => by
      rw [(hg x hx).1, HgC.out]
      by_cases hm : x ∈ C <;> simp [hm], by simp, fun x hx hl => by rw [(hg x hx).1, HgC.out] at hl; simpa using hl⟩
  clear hg hg0 hown t1 k01
  go_loopw [3] (fun o wr => ∃ (left : Lit → Bool) (cnt : Nat) (l : List Int), wr.ranges Tryz.prog 2 (plainElem Tryz.prog 2) K w1.heap.size 1000 D left cnt ∧ AccI (w1.heap.size + 1) 2 wr o l ∧ KL C left l ∧ Only [] w wr ∧ w1.heap.size + 1 ≤ wr.heap.size)
    (fun _ wr => wr.rangeLeft K w1.heap.size)
  case atStart => exact ⟨_, _, [], hrg0, AccI.nil _ _ _, hl0, kw0, by omega⟩
  case round =>
    obtain ⟨W2, hnew⟩ : ∃ W, W = wr := ⟨_, rfl⟩
    subst hnew
    obtain ⟨left, cnt, l, hrg, hA, hKL, hO, hsz⟩ := hrel
    have hll : l.length ≤ 1000 := Nat.le_trans (PM.nodup_sub_len hKL.nd fun x hx => ((hKL.iff x (hKL.big x hx)).1 hx).1) hCl
    have hlow : w.heap.size ≤ w1.heap.size + 1 := by have := kw0.size; omega
    go_wp2_with (first
      | (at_next; refine wpList_next_ranges_ii _ rfl _ rfl 2 2 .i64 .i64 Tryz.lawI64 Tryz.underlying2 Tryz.underlying2 K w1.heap.size 1000 _ _ _ rfl hrg ?_ ?_)
      | fail "no arm")
    · intro _ hl0
      have hfin := hKL.end_ hl0 HAs.out HCb.out
      have hlne : l ≠ [] := fun hc => HCne.out (by rw [← hfin, hc]; simp)
      have Hfin := Lib.hid hfin
      obtain ⟨a, c, ho⟩ := hA.form
      subst ho
      clear hfin hl0
      go_wp2_with (first
        | (go_at_call 127; (with_reducible refine (sort_accI W2 _ l hA hlne hll).mono ?_); rintro en w3 ⟨rfl, hA3, hO3⟩; rw [Hfin.out] at hA3)
        | fail "no arm")
      go_ret
      exact ⟨_, rfl, hA3.low hlow, hO.then_ hO3 (fun z hz hl => by have := (hA.ownlt z (by simpa using hz)).1; omega)⟩
    · intro x c w2 cnt1 hwx hwc hlx hat hrg1 hlt hg1 hs1 hen
      have hxI : I64 x := by have h9 := hwx; simp [Lit.wf, IntKind.min, IntKind.max, IntKind.signed, IntKind.bits] at h9; unfold I64; omega
      have k2 : Only [w1.heap.size] W2 w2 := (Only.refl _ _).grown hg1 (by intro j hj _; injection hj with hj; subst hj; simp)
      have hA2 := hA.only k2 (fun g hg hm => by have := (hA.ownlt g hg).1; simp at hm; omega)
      have hO2 : Only [] w w2 := hO.then_ k2 (fun z hz hl => by simp at hz; have := kw0.size; omega)
      have hK2 := hKL.step hxI hlx
      have HXI := Lib.hid hxI
      have hsB : w1.heap.size + 1 ≤ w2.heap.size := by omega
      have Hs1 := Lib.hid hs1
      clear hs1
      clear hKL hxI hat hwx hwc hlx
      go_wp2_with (first
        | (at_builtin; refine wpList_pushI rfl _ _ 27 rfl (w1.heap.size + 1) 2 i0 _ Tryz.underlying27 hii hz0 hz1 hz2 rfl w2 u3 l rfl hA2 ((Only.refl _ _).alloc _) hsB w2.heap.size 1 x rfl (lit1 w2 _ _ rfl) HXI.out (by omega) ?_; intro v3 w3 hA3 hO3 hP3 hN3)
        | fail "no arm")
      have hsz2 : w2.heap.size = W2.heap.size := Hs1.out
      have hne : ∀ g, g ≤ w1.heap.size → w3.heap[g]? = w2.heap[g]? := fun g hg => by
        have h1 : g < w2.heap.size := by omega
        have h2 := hO3.block g (by simp; omega) (fun hm => by have := (hA2.ownlt g (by simpa using hm)).1; omega)
        have h3 := ((Only.refl [] w2).alloc (.cells #[.int .i64 x] 2)).block g h1 (by simp)
        exact h2.trans h3
      have hrg3 := ranges_frame hrg1 (hne K (by omega)) (hne _ (Nat.le_refl _))
      have hsz3 := hO3.size
      simp at hsz3
      go_roundw
      case rel => exact ⟨_, cnt1, l ++ [x], hrg3, hA3, hK2, hP3 w (hO2.alloc _) hlow, by omega⟩
      case measure => rw [hrg3.left_eq, hrg.left_eq]; exact hlt
end Go.Proofs.YtajkhdbdkjhilaaGreat

namespace Go.Proofs.YtajkhdbdkjhilaaGreat
open Go.RowKit
set_option maxRecDepth 10000

/-- the generator's states -/
def gst (s : Int) : Nat → Int
  | 0 => s % 999999937
  | i + 1 => (48271 * gst s i + 11) % 999999937
theorem gst_rng (s : Int) (i : Nat) : 0 ≤ gst s i ∧ gst s i < 999999937 := by
  cases i with
  | zero => show 0 ≤ s % 999999937 ∧ _; exact ⟨Int.emod_nonneg _ (by decide), Int.emod_lt_of_pos _ (by decide)⟩
  | succ i => show 0 ≤ (48271 * gst s i + 11) % 999999937 ∧ _; exact ⟨Int.emod_nonneg _ (by decide), Int.emod_lt_of_pos _ (by decide)⟩
theorem tmod_fix (s : Int) : (if s.tmod 999999937 < 0 then s.tmod 999999937 + 999999937 else s.tmod 999999937) = s % 999999937 := by
  have h1 := Int.mul_tdiv_add_tmod s 999999937
  have h2 := Int.tmod_lt_of_pos s (show (0:Int) < 999999937 by decide)
  have h3 := Int.lt_tmod_of_pos s (show (0:Int) < 999999937 by decide)
  split <;> omega
theorem tmod_rng (s : Int) : -999999937 < s.tmod 999999937 ∧ s.tmod 999999937 < 999999937 :=
  ⟨Int.lt_tmod_of_pos s (by decide), Int.tmod_lt_of_pos s (by decide)⟩
theorem tmod_pos {a b : Int} (h : 0 ≤ a) : a.tmod b = a % b := Int.tmod_eq_emod_of_nonneg h
theorem newGen_any (seed : Int) (_hs : I64 seed) (w : World) :
    Calls Tryz.prog 96 #[.int .i64 seed] w fun e w' => e = .returned (.pointer (some ⟨w.heap.size, 0, none⟩)) ∧ Blk w' w.heap.size [.int .i64 (gst seed 0)] ∧ Only [] w w' := by
  have hf := tmod_fix seed
  have hr := tmod_rng seed
  obtain ⟨r, hrd⟩ : ∃ r, r = seed.tmod 999999937 := ⟨_, rfl⟩
  have hrw : Int.tmod seed 999999937 = r := hrd.symm
  rw [← hrd] at hf hr
  have hg : gst seed 0 = seed % 999999937 := rfl
  rw [hg]
  have Hf := Lib.hid hf
  clear hf hg hrd
  by_cases hn : r < 0
  · have hw1 : IntKind.i64.wrap (r + 999999937) = r + 999999937 := by rw [IntKind.wrap_i64]; omega
    go_enter Tryz.func96, Tryz.ntmps96
    go_wp2
    go_ret
    have h := Hf.out
    rw [if_pos (by omega)] at h
    rw [← h]
    exact ⟨rfl, Blk.new _ _ _, (Only.refl _ _).alloc _⟩
  · go_enter Tryz.func96, Tryz.ntmps96
    go_wp2
    go_ret
    have h := Hf.out
    rw [if_neg (by omega)] at h
    rw [← h]
    exact ⟨rfl, Blk.new _ _ _, (Only.refl _ _).alloc _⟩
theorem genDraw_any (g : Nat) (s : Int) (h0 : 0 ≤ s) (h1 : s < 999999937) (w : World) (hb : Blk w g [.int .i64 s]) :
    Calls Tryz.prog 100 #[.pointer (some ⟨g, 0, none⟩)] w fun e w' => e = .returned (.int .i64 ((48271 * s + 11) % 999999937)) ∧ Blk w' g [.int .i64 ((48271 * s + 11) % 999999937)] ∧ Only [g] w w' := by
  have y0 := hb.cell 0 rfl
  have q0 : w.frozen? ⟨g, 0, none⟩ = false := by obtain ⟨t, ht⟩ := hb; simp [World.frozen?, ht]
  have hw1 : IntKind.i64.wrap (48271 * s) = 48271 * s := by rw [IntKind.wrap_i64]; omega
  have hw2 : IntKind.i64.wrap (48271 * s + 11) = 48271 * s + 11 := by rw [IntKind.wrap_i64]; omega
  have ht : Int.tmod (48271 * s + 11) 999999937 = (48271 * s + 11) % 999999937 := tmod_pos (by omega)
  obtain ⟨r, hr⟩ : ∃ r, r = (48271 * s + 11) % 999999937 := ⟨_, rfl⟩
  rw [← hr] at ht ⊢
  have hB : Blk (w.setCell ⟨g, 0, none⟩ (.int .i64 r)) g [.int .i64 r] := by
    obtain ⟨t, hh⟩ := hb
    exact ⟨t, by simp [World.setCell, Array.getElem?_modify, hh]⟩
  have HB := Lib.hid hB
  have hO : Only [g] w (w.setCell ⟨g, 0, none⟩ (.int .i64 r)) := (Only.refl _ _).setCell (by simp) _
  have HO := Lib.hid hO
  have z0 := hB.cell 0 rfl
  clear hB hO hr
  go_enter Tryz.func100, Tryz.ntmps100
  go_wp2
  go_ret
  exact ⟨rfl, HB.out, HO.out⟩
theorem firstState_any (seed : Int) (_hs : I64 seed) (w : World) :
    Calls Tryz.prog 133 #[.int .i64 seed] w fun e w' => e = .returned (.int .i64 (gst seed 0)) ∧ w' = w := by
  have hf := tmod_fix seed
  have hr := tmod_rng seed
  obtain ⟨r, hrd⟩ : ∃ r, r = seed.tmod 999999937 := ⟨_, rfl⟩
  have hrw : Int.tmod seed 999999937 = r := hrd.symm
  rw [← hrd] at hf hr
  have hw1 : IntKind.i64.wrap (r + 999999937) = r + 999999937 := by rw [IntKind.wrap_i64]; omega
  have ht : Int.tmod (r + 999999937) 999999937 = seed % 999999937 := by
    rw [tmod_pos (by omega)]
    by_cases hn : r < 0
    · rw [if_pos hn] at hf; omega
    · rw [if_neg hn] at hf; omega
  have hg : gst seed 0 = seed % 999999937 := rfl
  rw [hg]
  obtain ⟨r2, hr2⟩ : ∃ r2, r2 = seed % 999999937 := ⟨_, rfl⟩
  rw [← hr2] at ht ⊢
  clear hf hg hrd hr2
  go_enter Tryz.func133, Tryz.ntmps133
  go_wp2
  go_ret
  exact ⟨rfl, rfl⟩
theorem nextState_any (s : Int) (h0 : 0 ≤ s) (h1 : s < 999999937) (w : World) :
    Calls Tryz.prog 134 #[.int .i64 s] w fun e w' => e = .returned (.int .i64 ((48271 * s + 11) % 999999937)) ∧ w' = w := by
  have hw1 : IntKind.i64.wrap (s * 48271) = 48271 * s := by rw [IntKind.wrap_i64]; omega
  have hw2 : IntKind.i64.wrap (48271 * s + 11) = 48271 * s + 11 := by rw [IntKind.wrap_i64]; omega
  have ht : Int.tmod (48271 * s + 11) 999999937 = (48271 * s + 11) % 999999937 := tmod_pos (by omega)
  obtain ⟨r, hr⟩ : ∃ r, r = (48271 * s + 11) % 999999937 := ⟨_, rfl⟩
  rw [← hr] at ht ⊢
  clear hr
  go_enter Tryz.func134, Tryz.ntmps134
  go_wp2
  go_ret
  exact ⟨rfl, rfl⟩
end Go.Proofs.YtajkhdbdkjhilaaGreat

namespace Go.Proofs.YtajkhdbdkjhilaaGreat
open Go.RowKit
set_option maxRecDepth 10000

/-- the selection of a seed's generator -/
def rsel (seed : Int) (i len : Nat) : Nat := (gst seed (i + 1) % (len : Int)).toNat
theorem rsel_lt {seed : Int} {i len : Nat} (h : 0 < len) : rsel seed i len < len := by
  unfold rsel
  have h1 := Int.emod_lt_of_pos (gst seed (i + 1)) (show (0 : Int) < (len : Int) by omega)
  have h2 := Int.emod_nonneg (gst seed (i + 1)) (show (len : Int) ≠ 0 by omega)
  omega
theorem rsel_good {n : Nat} {T : PM.Rows} (hw : PM.WF n T) (seed : Int) : ∀ i, i < n → rsel seed i (PM.cntR n T i) < PM.cntR n T i := fun _ hi => rsel_lt (PM.cntR_pos hw hi)
/-- the random member of a seed -/
noncomputable def randM (n : Nat) (gens : List (List Int)) (seed : Int) : List Int := PM.descG n gens (rsel seed)
end Go.Proofs.YtajkhdbdkjhilaaGreat

namespace Go.Proofs.YtajkhdbdkjhilaaGreat
open Go.RowKit
set_option maxRecDepth 10000

theorem from_any (g : Nat) (v : Value) (m : List Int) (f : List Nat) (w : World) (hv : Rd w v m f) :
    Calls Tryz.prog 97 #[.pointer (some ⟨g, 0, none⟩), v] w fun e w' => e = .returned (.pointer (some ⟨w.heap.size, 0, none⟩)) ∧ Blk w' w.heap.size [.pointer (some ⟨g, 0, none⟩), .int .i64 (0 : Nat), v] ∧ Only [] w w' ∧ w'.heap.size = w.heap.size + 1 := by
  obtain ⟨A, C, rfl, -⟩ := hv.ints
  go_enter Tryz.func97, Tryz.ntmps97
  go_wp2
  go_ret
  exact ⟨rfl, Blk.new _ _ _, (Only.refl _ _).alloc _, by simp⟩
theorem genDraw_g (g : Nat) (seed : Int) (i : Nat) (w : World) (hb : Blk w g [.int .i64 (gst seed i)]) :
    Calls Tryz.prog 100 #[.pointer (some ⟨g, 0, none⟩)] w fun e w' => e = .returned (.int .i64 (gst seed (i + 1))) ∧ Blk w' g [.int .i64 (gst seed (i + 1))] ∧ Only [g] w w' :=
  genDraw_any g (gst seed i) (gst_rng seed i).1 (gst_rng seed i).2 w hb
set_option maxHeartbeats 4000000 in
theorem implRandomMember_yes (n : Nat) (vg : Value) (gens : List (List Int)) (fpg : List Nat) (seed : Int) (w : World) (hg : Rd w vg gens fpg) (hgs : gensB n gens = true) (hs : I64 seed) :
    Calls Tryz.prog 53 #[.int .i64 n, vg, .int .i64 seed] w fun e w' => ∃ v f, e = .returned (.tuple #[v, .bool true]) ∧ Rd w' v (randM n gens seed) f ∧ Fresh w.heap.size w' f ∧ Only [] w w' := by
  obtain ⟨⟨n1, n20⟩, hgl, hpn⟩ := gensB_iff.1 hgs
  have hpn' : ∀ g ∈ gens, PM.PN n g := by simpa using hpn
  have hn : 0 < n := by omega
  have hn20 : n ≤ 20 := by omega
  have hfpl : ∀ b ∈ fpg, b < w.heap.size := fun b hb => Rp.lt hg b hb
  have Hgs := Lib.hid hgs
  have Hpn := Lib.hid hpn'
  have Hfpl := Lib.hid hfpl
  clear hpn hpn' hgs hfpl
  obtain ⟨R, hR⟩ : ∃ R, R = randM n gens seed := ⟨_, rfl⟩
  rw [← hR]
  have HR := Lib.hid hR
  clear hR
  go_enter Tryz.func53, Tryz.ntmps53
  go_wp2_with (first
    | (go_at_call 95; (with_reducible refine (implIsGens_rd n vg gens fpg w hg).mono ?_); rintro en w1 ⟨he, t1⟩; rw [Hgs.out] at he; subst he)
    | (go_at_call 96; (with_reducible refine (newGen_any seed hs w1).mono ?_); rintro en w2 ⟨rfl, hB2, t2⟩)
    | (go_at_call 78; (with_reducible refine (implNewChain_F n hn hn20 vg gens fpg w2 (Rp.keep hg (t1.trans t2)) Hpn.out (by omega)).mono ?_); rintro en w3 ⟨L, gv, G, T, M, F, rfl, hoG, hoT, hFF, hC, hCh, t3⟩)
    | (go_at_call 56; (with_reducible refine (implIdentity_any n w3 (by omega)).mono ?_); rintro en w4 ⟨v4, f4, rfl, r4, F4, t4⟩)
    | (go_at_call 97; (with_reducible refine (from_any L.g v4 (PM.pts n) f4 w4 r4).mono ?_); rintro en w5 ⟨rfl, hB5, t5, hs5⟩)
    | fail "no arm")
  have z1 := t1.size
  have z2 := t2.size
  have z3 := t3.size
  have z4 := t4.size
  have hgl1 := hB2.lt
  have hC5 := (hC.keep t4).keep t5
  have r5 := Rp.keep r4 t5
  have F5 := F4.keep t5
  have hB25 := ((hB2.keep t3).keep t4).keep t5
  have k5 : Only [] w w5 := (((t1.trans t2).trans t3).trans t4).trans t5
  have hbM : ∀ z ∈ [w4.heap.size], z ∉ M := fun z hz hm => by have := hC.lM z hm; simp at hz; omega
  have hbF : ∀ z ∈ [w4.heap.size], z ∉ F := fun z hz hm => by have := hC.lF z hm; simp at hz; omega
  have hgM : ∀ z ∈ [w1.heap.size], z ∉ M := fun z hz hm => by have := hC.ge z hm; simp at hz; omega
  have hgF : ∀ z ∈ [w1.heap.size], z ∉ F := fun z hz hm => by
    simp at hz
    rcases hFF z hm with h1 | h1
    · have := Hfpl.out z h1; omega
    · omega
  have hR0 : R = PM.desc T n (rsel seed) (n - 0) 0 (PM.pts n) := by rw [HR.out, Nat.sub_zero]; exact (hCh.descG hn Hpn.out (rsel seed) (rsel_good hCh.inv.wf seed)).symm
  have HR0 := Lib.hid hR0
  have HCh := Lib.hid hCh
  have HoT := Lib.hid hoT
  have HbM := Lib.hid hbM
  have HbF := Lib.hid hbF
  have HgM := Lib.hid hgM
  have HgF := Lib.hid hgF
  clear hR0 hCh hoT hoG hFF hC hbM hbF hgM hgF hB2 t1 t2 t3 t4 t5 r4 F4 hs5
  go_loopw [] (fun wr => ∃ (i : Nat) (v : Value) (m : List Int) (f : List Nat), i ≤ n ∧ Blk wr w4.heap.size [.pointer (some ⟨L.g, 0, none⟩), .int .i64 i, v] ∧ Rd wr v m f ∧ Fresh w3.heap.size wr f ∧ Ch 27 w2.heap.size wr L gv n G T M F ∧ Blk wr w1.heap.size [.int .i64 (gst seed i)] ∧ PM.Grp n gens m ∧ Hid (R = PM.desc T n (rsel seed) (n - i) i m) ∧ Only [] w wr)
    (fun wr => n - (intOf ((wr.cell? ⟨w4.heap.size, 1, none⟩).getD undef)).toNat)
  case atStart => exact ⟨0, v4, PM.pts n, f4, Nat.zero_le _, hB5, r5, F5, hC5, hB25, .id, HR0, k5⟩
  case round =>
    obtain ⟨W2, hnew⟩ : ∃ W, W = wr := ⟨_, rfl⟩
    subst hnew
    clear hB5 r5 F5 hC5 hB25 k5
    obtain ⟨i, v, m, f, hi, hB, hr, hF, hC, hG, hgr, hRR, hO⟩ := hrel
    have y1 := hB.cell 1 rfl
    have hO2 := hO.size
    have hgW := hG.lt
    have hbW := hB.lt
    by_cases hlt : i < n
    · have hpm : PM.PN n m := hgr.pn Hpn.out
      have hwf := HCh.out.inv.wf
      obtain ⟨C, hCd⟩ : ∃ C, C = PM.cho n T i m := ⟨_, rfl⟩
      have hCl : 0 < C.length := by rw [hCd, PM.cho_len hpm]; exact PM.cntR_pos hwf hlt
      have hCl2 : C.length ≤ 20 := by rw [hCd, PM.cho_len hpm]; have := PM.cntR_le n T i; omega
      obtain ⟨k, hk⟩ : ∃ k, k = rsel seed i C.length := ⟨_, rfl⟩
      have hkl : k < C.length := by rw [hk]; exact rsel_lt hCl
      have hkm : C[k] ∈ PM.cho n T i m := by rw [← hCd]; exact List.getElem_mem hkl
      have hgr2 := HCh.out.putV hn Hpn.out hlt hgr hkm
      have hRR2 : R = PM.desc T n (rsel seed) (n - (i + 1)) (i + 1) (PM.putV T i m C[k]) := by
        subst hCd
        rw [hRR.out]
        exact PM.desc_step hlt m hk hkl
      have hrem : Int.tmod (gst seed (i + 1)) (C.length : Int) = (k : Int) := by
        rw [tmod_pos (gst_rng seed (i + 1)).1, hk]
        unfold rsel
        have h2 := Int.emod_nonneg (gst seed (i + 1)) (show (C.length : Int) ≠ 0 by omega)
        omega
      have hne0 : ¬ ((C.length : Int) = 0) := by omega
      have HcS := Lib.hid (walkSorted_any W2 hC hwf HoT.out w4.heap.size i hlt v m f hB hr hpm)
      rw [← hCd] at HcS
      have HRR2 := Lib.hid hRR2
      have Hgr2 := Lib.hid hgr2
      have Hkm := Lib.hid hkm
      have Hpm := Lib.hid hpm
      have Hwf := Lib.hid hwf
      have HC := Lib.hid hC
      have HB := Lib.hid hB
      have HG := Lib.hid hG
      have hltI : (i : Int) < (n : Int) := by omega
      clear hCd hk hRR2 hgr2 hkm hpm hwf hC hB hG hgr hRR
      go_wp2_with (first
        | (go_at_call 98; (with_reducible refine (HcS.out).mono ?_); rintro en w6 ⟨v6, rfl, hA6, t6⟩; obtain ⟨a6, c6, rfl⟩ := hA6.form; have z6 := t6.size; have G6 := HG.out.keep t6; have HC7 := Lib.hid (fun (W : World) (O : Only [w1.heap.size] w6 W) => (HC.out.keep t6).only O HgM.out HgF.out); have HB7 := Lib.hid (fun (W : World) (O : Only [w1.heap.size] w6 W) => (HB.out.keep t6).only O (by simp; omega)); have HR7 := Lib.hid (fun (W : World) (O : Only [w1.heap.size] w6 W) => Rp.only (Rp.keep hr t6) O (fun b hb hm => by have := hF.ge b hb; simp at hm; omega)))
        | (go_at_call 100; (with_reducible refine (genDraw_g w1.heap.size seed i w6 G6).mono ?_); rintro en w7 ⟨rfl, G7, O7⟩; have hA7 := hA6.only O7 (fun g hg hm => by have := (hA6.ownlt g hg).1; simp at hm; omega); have z7 := O7.size; obtain ⟨a7, q7, e7, I7⟩ := hA7.rd.ints; injection e7 with e71 _ e72; subst e71; subst e72; obtain ⟨b8, o8, rfl, -, c8⟩ := I7.at_ k hkl)
        | (go_at_call 89; (with_reducible refine (lengthInt_rd _ C _ w7 hA7.rd).mono ?_); rintro en w8 ⟨rfl, h8⟩; subst h8)
        | (go_at_call 99; (with_reducible refine (take_yes w8 (HC7.out _ O7) Hwf.out HoT.out w4.heap.size i hlt v m f (HB7.out _ O7) (HR7.out _ O7) Hpm.out C[k] Hkm.out).mono ?_); rintro en w9 ⟨rfl, ⟨v9, f9, B9, r9, F9⟩, O9⟩)
        | fail "no arm")
      have k29 : Only [] w w9 := ((hO.trans t6).then_ O7 (fun z hz hl => by simp at hz; omega)).then_ O9 (fun z hz hl => by simp at hz; omega)
      have HC9 := (HC7.out _ O7).only O9 HbM.out HbF.out
      have HG9 := G7.only O9 (by simp; omega)
      have z8 := z7
      have F9' : Fresh w3.heap.size w9 f9 := F9.mono (by omega)
      have y9 := B9.cell 1 rfl
      go_roundw
      case rel => exact ⟨i + 1, v9, _, f9, by omega, B9, r9, F9', HC9, HG9, Hgr2.out, HRR2, k29⟩
      case measure => rw [y9, y1]; simp [intOf]; omega
    · obtain rfl : i = n := by omega
      have hfin : R = m := by rw [hRR.out]; exact PM.desc_end (Nat.le_refl _) m
      have hge : ¬ ((i : Int) < (i : Int)) := by omega
      have y2 := hB.cell 2 rfl
      have Hfin := Lib.hid hfin
      clear hfin hRR
      go_wp2
      exact bodyPost_ret (v := .tuple #[v, .bool true]) (by simp [results, Tryz.results53, go_sem]) rfl ⟨v, rfl, f, by rw [Hfin.out]; exact hr, hF.mono (by omega), hO⟩
end Go.Proofs.YtajkhdbdkjhilaaGreat

namespace Go.Proofs.YtajkhdbdkjhilaaGreat
open Go.RowKit
set_option maxRecDepth 10000

/-- how many are less -/
def below (v : Int) : List Int → Nat
  | [] => 0
  | x :: l => if x < v then below v l + 1 else 0
theorem below_le (v : Int) : ∀ l : List Int, below v l ≤ l.length
  | [] => Nat.le_refl _
  | x :: l => by unfold below; split; exact Nat.succ_le_succ (below_le v l); exact Nat.zero_le _
theorem below_lt (v : Int) : ∀ (l : List Int) (j : Nat) (h : j < l.length), j < below v l → l[j] < v
  | x :: l, j, h, hj => by
    unfold below at hj
    by_cases hx : x < v
    · rw [if_pos hx] at hj
      cases j with
      | zero => exact hx
      | succ j => exact below_lt v l j (by simpa using h) (by omega)
    · rw [if_neg hx] at hj; omega
theorem below_at (v : Int) : ∀ (l : List Int) (h : below v l < l.length), ¬ l[below v l] < v
  | x :: l, h => by
    by_cases hx : x < v
    · have e : below v (x :: l) = below v l + 1 := by show (if x < v then _ else _) = _; rw [if_pos hx]
      have h2 : below v l < l.length := by rw [e] at h; simpa using h
      have := below_at v l h2
      simp only [e, List.getElem_cons_succ]
      exact this
    · have e : below v (x :: l) = 0 := by show (if x < v then _ else _) = _; rw [if_neg hx]
      simp only [e, List.getElem_cons_zero]
      exact hx
theorem insU_there {v : Int} : ∀ {l : List Int} (h : below v l < l.length), l[below v l] = v → PM.insU v l = l
  | x :: l, h, he => by
    by_cases hx : x < v
    · have e : below v (x :: l) = below v l + 1 := by show (if x < v then _ else _) = _; rw [if_pos hx]
      have h2 : below v l < l.length := by rw [e] at h; simpa using h
      simp only [e, List.getElem_cons_succ] at he
      show (if x < v then x :: PM.insU v l else _) = _
      rw [if_pos hx, insU_there h2 he]
    · have e : below v (x :: l) = 0 := by show (if x < v then _ else _) = _; rw [if_neg hx]
      simp only [e, List.getElem_cons_zero] at he
      show (if x < v then _ else if x = v then x :: l else _) = _
      rw [if_neg hx, if_pos he]
theorem insU_new {v : Int} : ∀ {l : List Int}, (∀ h : below v l < l.length, l[below v l] ≠ v) → PM.insU v l = (l.take (below v l) ++ [v]) ++ l.drop (below v l)
  | [], _ => rfl
  | x :: l, hn => by
    by_cases hx : x < v
    · have e : below v (x :: l) = below v l + 1 := by show (if x < v then _ else _) = _; rw [if_pos hx]
      show (if x < v then x :: PM.insU v l else _) = _
      rw [if_pos hx, e, insU_new (l := l) (fun h => by
        have h1 := hn (by rw [e]; simpa using h)
        simp only [e, List.getElem_cons_succ] at h1
        exact h1)]
      simp
    · have e : below v (x :: l) = 0 := by show (if x < v then _ else _) = _; rw [if_neg hx]
      have h1 := hn (by rw [e]; simp)
      simp only [e, List.getElem_cons_zero] at h1
      show (if x < v then _ else if x = v then _ else v :: x :: l) = _
      rw [if_neg hx, if_neg h1, e]
      simp
theorem IntsA.drp {w : World} {b off cap : Nat} {l : List Int} {fp : List Nat} (h : IntsA w (some ⟨b, off, none⟩) cap l fp) {k : Nat} (hk : k ≤ l.length) : IntsA w (some ⟨b, off + k, none⟩) (cap - k) (l.drop k) fp := by
  have hl := h.len
  have hc := h.cap
  refine ⟨by rw [List.length_drop]; omega, by omega, fun x hx => h.wf x (List.mem_of_mem_drop hx), fun i hi => ?_, h.lt, h.one⟩
  rw [List.length_drop] at hi
  obtain ⟨b', off', ha, hf, hcell⟩ := h.at_ (k + i) (by omega)
  injection ha with ha; injection ha with e1 e2; subst e1; subst e2
  refine ⟨b, off + k, rfl, hf, ?_⟩
  rw [Nat.add_assoc, List.getElem_drop]
  exact hcell
theorem copyInts_aI (v : Value) (l : List Int) (fp : List Nat) (w : World) (h : Rd w v l fp) (hl : l.length ≤ 1073741824) :
    Calls Tryz.prog 75 #[v] w fun e w' => ∃ v, e = .returned v ∧ AccI w.heap.size 2 w' v l ∧ Only [] w w' := by
  obtain ⟨a, cap, rfl, hI⟩ := h.ints
  obtain ⟨i0, hi, hz0, hz1, hz2⟩ := info_parts Tryz.info2
  obtain ⟨q1, q2⟩ := ints_src (hI.keep ((Only.refl _ w).alloc (.cells #[] 2)))
  go_enter Tryz.func75, Tryz.ntmps75
  go_wp2_with (at_builtin; refine wpList_app _ rfl _ _ 27 rfl w.heap.size 2 i0 _ 1 8 Tryz.underlying27 hi hz0 hz1 hz2 rfl (by omega) (.slice (some ⟨w.heap.size, 0, none⟩) 0 0) 0 [] rfl (World.ownsRow_made w #[] 0 (Nat.le_refl _) (by unfold maxLen; omega) rfl) a l.length cap (l.map (Value.int .i64)) rfl (by simp) q1 q2 (ints_one l) (by unfold maxLen; omega) (by omega) (by simp) ?_; intro v1 w1 hO hg hb)
  rw [Nat.zero_add, List.nil_append] at hO
  have hK : Only [] w w1 := ((Only.refl _ _).alloc _).grown hg (by simp [Value.ownBlock])
  have hA : AccI w.heap.size 2 w1 v1 l := AccI.ofRow hO hI.wf
  have HA := Lib.hid hA
  clear hO hg hb q1 q2 hA
  go_wp2
  go_ret
  exact ⟨_, rfl, HA.out, hK⟩
set_option maxHeartbeats 4000000 in
theorem insertSorted_any (b off c : Nat) (l : List Int) (fp : List Nat) (k : Int) (w : World) (I : IntsA w (some ⟨b, off, none⟩) c l fp) (hl : l.length ≤ 1000) (hk : I64 k) :
    Calls Tryz.prog 143 #[.slice (some ⟨b, off, none⟩) l.length c, .int .i64 k] w fun e w' => ∃ b' o' c' fp', e = .returned (.slice (some ⟨b', o', none⟩) (PM.insU k l).length c') ∧ IntsA w' (some ⟨b', o', none⟩) c' (PM.insU k l) fp' ∧ (fp' = fp ∨ Fresh w.heap.size w' fp') ∧ Only [] w w' := by
  obtain ⟨i0, hi, hz0, hz1, hz2⟩ := info_parts Tryz.info2
  have hbl := below_le k l
  have hIH := Lib.hid I
  have HI := Lib.hid hk
  have hcap := I.len
  clear I hk
  obtain ⟨R, hR⟩ : ∃ R, R = PM.insU k l := ⟨_, rfl⟩
  rw [← hR]
  have HR := Lib.hid hR
  clear hR
  go_enter Tryz.func143, Tryz.ntmps143
  go_wp2
  go_loopw [5] (fun i wr => ∃ (j : Nat), j ≤ below k l ∧ i = .int .i64 j ∧ Only [] w wr)
    (fun i _ => l.length + 1 - (intOf i).toNat)
  case atStart => exact ⟨0, Nat.zero_le _, rfl, Only.refl _ _⟩
  case round =>
    obtain ⟨w3, hnew⟩ : ∃ W, W = wr := ⟨_, rfl⟩
    subst hnew
    obtain ⟨j, hj, rfl, hK⟩ := hrel
    have I3 := hIH.out.keep hK
    by_cases hlt : j < below k l
    · have hjl : j < l.length := by omega
      obtain ⟨b2, o2, e2, -, c2⟩ := I3.at_ j hjl
      injection e2 with e2; injection e2 with e3 e4; subst e3; subst e4
      have hv := below_lt k l j hjl hlt
      obtain ⟨x, hx⟩ : ∃ x, x = l[j] := ⟨_, rfl⟩
      rw [← hx] at c2 hv
      clear hx
      have hji : (j : Int) < (l.length : Int) := by omega
      go_wp2
      go_roundw
      case rel => exact ⟨j + 1, by omega, by go_num, hK⟩
      case measure => simp [intOf]; omega
    · have hje : j = below k l := by omega
      have hjl : j ≤ l.length := by omega
      have hkc : j ≤ c := by omega
      have hjl' : (j : Int) ≤ (l.length : Int) := by omega
      have hkc' : (j : Int) ≤ (c : Int) := by omega
      have hc0 : (l.length : Int) ≤ (c : Int) := by omega
      have hj0 : (0 : Int) ≤ (j : Int) := by omega
      have hsz3 := hK.size
      have hlk : (l.take j).length = j := by rw [List.length_take]; omega
      have hTk : Rd w3 (.slice (some ⟨b, off, none⟩) j c) (l.take j) fp := by
        have := (I3.take j).rd
        rwa [hlk] at this
      have hTl : (l.take j).length ≤ 1073741824 := by omega
      have HK := Lib.hid hlk
      have hnewR : (∀ h : below k l < l.length, l[below k l] ≠ k) → ∀ v6 w6, w6.ownsRow w3.heap.size 2 1 v6 (j + 1 + (l.length - j)) (((l.take j).map (Value.int .i64) ++ [.int .i64 k]) ++ (l.drop j).map (Value.int .i64)) → Only [] w3 w6 →
          ∃ b' o' c' fp', v6 = .slice (some ⟨b', o', none⟩) R.length c' ∧ IntsA w6 (some ⟨b', o', none⟩) c' R fp' ∧ Fresh w.heap.size w6 fp' ∧ Only [] w w6 := fun hn v6 w6 hO ho => by
        have hRe : R = (l.take j ++ [k]) ++ l.drop j := by rw [HR.out, insU_new hn, ← hje]
        have hcells : ((l.take j).map (Value.int .i64) ++ [Value.int .i64 k]) ++ (l.drop j).map (Value.int .i64) = R.map (Value.int .i64) := by
          rw [hRe]; simp
        have hlen : R.length = j + 1 + (l.length - j) := by rw [hRe, List.length_append, List.length_append, HK.out, List.length_drop]; rfl
        rw [hcells, ← hlen] at hO
        obtain ⟨a6, c6, hv6, -, I6, F6⟩ := own_ints hO (fun x hx => by
          rw [hRe] at hx
          rcases List.mem_append.1 hx with hx | hx
          · rcases List.mem_append.1 hx with hx | hx
            · exact hIH.out.wf x (List.mem_of_mem_take hx)
            · simp at hx; subst hx; exact HI.out
          · exact hIH.out.wf x (List.mem_of_mem_drop hx))
        obtain ⟨b6, o6, ha6, -, -⟩ := I6.at_ 0 (by rw [hlen]; omega)
        subst ha6
        exact ⟨b6, o6, c6, _, hv6, I6, F6.mono hsz3, hK.trans ho⟩
      have HN := Lib.hid hnewR
      clear hlk hnewR
      by_cases hin : j < l.length
      · obtain ⟨b2, o2, e2, -, c2⟩ := I3.at_ j hin
        injection e2 with e2; injection e2 with e3 e4; subst e3; subst e4
        have hnl : ¬ l[j] < k := by subst hje; exact below_at k l hin
        have hji : (j : Int) < (l.length : Int) := by omega
        by_cases heq : l[j] = k
        · have hRl : R = l := by rw [HR.out]; subst hje; exact insU_there hin heq
          have HRl := Lib.hid hRl
          rw [heq] at c2 hnl
          clear heq hRl hje hlt
          go_wp2
          go_ret
          rw [HRl.out]
          exact ⟨_, _, c, rfl, fp, I3, .inl rfl, hK⟩
        · have hend := HN.out (fun h => by subst hje; exact heq)
          have hcj : ¬ (c = j) := by omega
          obtain ⟨x, hx⟩ : ∃ x, x = l[j] := ⟨_, rfl⟩
          rw [← hx] at c2 hnl heq
          clear hx hje hlt
          go_wp2_with (first
            | (go_at_call 75; (with_reducible refine (copyInts_aI (.slice (some ⟨b, off, none⟩) j c) (l.take j) fp w3 hTk hTl).mono ?_); rintro en w4 ⟨v4, rfl, hA4, o4⟩; have hO4 := hA4.row.1; rw [HK.out] at hO4; obtain ⟨a4, q4, e4⟩ := hA4.form; rw [HK.out] at e4; subst e4; have m4 := lit_srcA w4 [.int .i64 k] 2 rfl)
            | (at_builtin; refine wpList_app _ rfl _ _ 27 rfl w3.heap.size 2 i0 _ 1 8 Tryz.underlying27 hi hz0 hz1 hz2 rfl (by omega) (.slice a4 j q4) j ((l.take j).map (Value.int .i64)) rfl (hO4.alloc _) (some ⟨w4.heap.size, 0, none⟩) 1 1 [.int .i64 k] rfl rfl m4 (by intro hh; cases hh) (by intro u hu; simp at hu; subst hu; rfl) (by unfold maxLen; omega) (by omega) (Nat.le_trans o4.size ((Only.refl [] w4).alloc _).size) ?_; intro v5 w5 hO5 hg5 hb5; have o5 : Only [] w3 w5 := (o4.alloc _).grown hg5 (by intro z hz hzl; have := (hO4.lt z hz).1; omega); have ID := (I3.keep o5).drp hjl; have s5 := ints_src ID; have hdl : ((l.drop j).map (Value.int .i64)).length = (l.length - j) * 1 := (by simp); have Hdl := Lib.hid hdl; clear hdl)
            | (at_builtin; refine wpList_app _ rfl _ _ 27 rfl w3.heap.size 2 i0 _ 1 8 Tryz.underlying27 hi hz0 hz1 hz2 rfl (by omega) v5 (j + 1) ((l.take j).map (Value.int .i64) ++ [.int .i64 k]) rfl hO5 (some ⟨b, off + j, none⟩) (l.length - j) (c - j) ((l.drop j).map (Value.int .i64)) rfl Hdl.out s5.1 (by intro hh; cases hh) (ints_one _) (by unfold maxLen; omega) (by omega) o5.size ?_; intro v6 w6 hO6 hg6 hb6)
            | fail "no arm")
          have hfin := hend v6 w6 hO6 (o5.grown hg6 (by intro z hz hzl; have := (hO5.lt z hz).1; omega))
          obtain ⟨b', o', c', fp', rfl, h1, h2, h3⟩ := hfin
          go_ret
          exact ⟨b', o', c', fp', rfl, h1, .inr h2, h3⟩
      · have hend := HN.out (fun h => absurd h (by omega))
        have hji : ¬ ((j : Int) < (l.length : Int)) := by omega
        by_cases hcj : c = j
        · subst hcj
          have hd0 : l.drop c = [] := List.drop_eq_nil_of_le (by omega)
          have Hd0 := Lib.hid hd0
          clear hd0 hje hlt
          go_wp2_with (first
            | (go_at_call 75; (with_reducible refine (copyInts_aI (.slice (some ⟨b, off, none⟩) c c) (l.take c) fp w3 hTk hTl).mono ?_); rintro en w4 ⟨v4, rfl, hA4, o4⟩; have hO4 := hA4.row.1; rw [HK.out] at hO4; obtain ⟨a4, q4, e4⟩ := hA4.form; rw [HK.out] at e4; subst e4; have m4 := lit_srcA w4 [.int .i64 k] 2 rfl)
            | (at_builtin; refine wpList_app _ rfl _ _ 27 rfl w3.heap.size 2 i0 _ 1 8 Tryz.underlying27 hi hz0 hz1 hz2 rfl (by omega) (.slice a4 c q4) c ((l.take c).map (Value.int .i64)) rfl (hO4.alloc _) (some ⟨w4.heap.size, 0, none⟩) 1 1 [.int .i64 k] rfl rfl m4 (by intro hh; cases hh) (by intro u hu; simp at hu; subst hu; rfl) (by unfold maxLen; omega) (by omega) (Nat.le_trans o4.size ((Only.refl [] w4).alloc _).size) ?_; intro v5 w5 hO5 hg5 hb5; have o5 : Only [] w3 w5 := (o4.alloc _).grown hg5 (by intro z hz hzl; have := (hO4.lt z hz).1; omega))
            | (at_builtin; refine wpList_app _ rfl _ _ 27 rfl w3.heap.size 2 i0 _ 1 8 Tryz.underlying27 hi hz0 hz1 hz2 rfl (by omega) v5 (c + 1) ((l.take c).map (Value.int .i64) ++ [.int .i64 k]) rfl hO5 (some ⟨b, off, none⟩) 0 0 [] rfl rfl (by intro ad hh j1 u hu; simp at hu) (by intro hh; cases hh) (by intro u hu; simp at hu) (by unfold maxLen; omega) (by omega) o5.size ?_; intro v6 w6 hO6 hg6 hb6)
            | fail "no arm")
          have hfin := hend v6 w6 (by have e : l.length - c = 0 := (by omega); rw [e, Hd0.out]; simpa using hO6) (o5.grown hg6 (by intro z hz hzl; have := (hO5.lt z hz).1; omega))
          obtain ⟨b', o', c', fp', rfl, h1, h2, h3⟩ := hfin
          go_ret
          exact ⟨b', o', c', fp', rfl, h1, .inr h2, h3⟩
        · clear hje hlt
          go_wp2_with (first
            | (go_at_call 75; (with_reducible refine (copyInts_aI (.slice (some ⟨b, off, none⟩) j c) (l.take j) fp w3 hTk hTl).mono ?_); rintro en w4 ⟨v4, rfl, hA4, o4⟩; have hO4 := hA4.row.1; rw [HK.out] at hO4; obtain ⟨a4, q4, e4⟩ := hA4.form; rw [HK.out] at e4; subst e4; have m4 := lit_srcA w4 [.int .i64 k] 2 rfl)
            | (at_builtin; refine wpList_app _ rfl _ _ 27 rfl w3.heap.size 2 i0 _ 1 8 Tryz.underlying27 hi hz0 hz1 hz2 rfl (by omega) (.slice a4 j q4) j ((l.take j).map (Value.int .i64)) rfl (hO4.alloc _) (some ⟨w4.heap.size, 0, none⟩) 1 1 [.int .i64 k] rfl rfl m4 (by intro hh; cases hh) (by intro u hu; simp at hu; subst hu; rfl) (by unfold maxLen; omega) (by omega) (Nat.le_trans o4.size ((Only.refl [] w4).alloc _).size) ?_; intro v5 w5 hO5 hg5 hb5; have o5 : Only [] w3 w5 := (o4.alloc _).grown hg5 (by intro z hz hzl; have := (hO4.lt z hz).1; omega); have ID := (I3.keep o5).drp hjl; have s5 := ints_src ID; have hdl : ((l.drop j).map (Value.int .i64)).length = (l.length - j) * 1 := (by simp); have Hdl := Lib.hid hdl; clear hdl)
            | (at_builtin; refine wpList_app _ rfl _ _ 27 rfl w3.heap.size 2 i0 _ 1 8 Tryz.underlying27 hi hz0 hz1 hz2 rfl (by omega) v5 (j + 1) ((l.take j).map (Value.int .i64) ++ [.int .i64 k]) rfl hO5 (some ⟨b, off + j, none⟩) (l.length - j) (c - j) ((l.drop j).map (Value.int .i64)) rfl Hdl.out s5.1 (by intro hh; cases hh) (ints_one _) (by unfold maxLen; omega) (by omega) o5.size ?_; intro v6 w6 hO6 hg6 hb6)
            | fail "no arm")
          have hfin := hend v6 w6 hO6 (o5.grown hg6 (by intro z hz hzl; have := (hO5.lt z hz).1; omega))
          obtain ⟨b', o', c', fp', rfl, h1, h2, h3⟩ := hfin
          go_ret
          exact ⟨b', o', c', fp', rfl, h1, .inr h2, h3⟩
end Go.Proofs.YtajkhdbdkjhilaaGreat

namespace Go.Proofs.YtajkhdbdkjhilaaGreat
open Go.RowKit
set_option maxRecDepth 10000

theorem choTo_succ (m : List Int) (j : Nat) (T : PM.Rows) (k : Nat) : PM.choO m (orbTo (j + 1) T k) = if PM.tr T k (j : Int) = [] then PM.choO m (orbTo j T k) else PM.insU (PM.at_ m (j : Int)) (PM.choO m (orbTo j T k)) := by
  rw [orbTo_succ]
  by_cases h : PM.tr T k (j : Int) = []
  · rw [if_pos h, if_pos h]
  · rw [if_neg h, if_neg h, PM.choO_snoc]
theorem choO_len {n : Nat} {m : List Int} (hm : PM.PN n m) {ys : List Int} (hy : ∀ y ∈ ys, 0 ≤ y ∧ y < n) : (PM.choO m ys).length ≤ n := by
  have h1 : (PM.choO m ys).length ≤ (PM.pts n).length := PM.nodup_sub_len (PM.choO_asc m ys).nodup fun v hv => by
    obtain ⟨y, hy1, rfl⟩ := PM.mem_choO.1 hv
    obtain ⟨h0, h1⟩ := hy y hy1
    exact PM.mem_pts.2 (hm.rng h0 h1)
  rwa [PM.pts_len] at h1
theorem orbTo_rng {j n : Nat} (hj : j ≤ n) {T : PM.Rows} {k : Nat} : ∀ y ∈ orbTo j T k, 0 ≤ y ∧ y < (n : Int) := fun y hy => by
  unfold orbTo at hy
  have := PM.mem_pts.1 (List.mem_filter.1 hy).1
  omega
set_option maxHeartbeats 2000000 in
theorem choicesAt_any {e : TypeId} {B : Nat} {L : Lay} {gv : Nat → Value} {n : Nat} {G : PM.Gens} {T : PM.Rows} {M F : List Nat} (w : World) (hC : Ch e B w L gv n G T M F) (hT : L.oT = 1) (i : Nat) (hi : i < n) (v : Value) (m : List Int) (fm : List Nat)
    (hv : Rd w v m fm) (hm : PM.PN n m) :
    Calls Tryz.prog 135 #[.pointer (some ⟨L.g, 0, none⟩), .int .i64 i, v] w fun e w' => ∃ b o c f, e = .returned (.slice (some ⟨b, o, none⟩) (PM.cho n T i m).length c) ∧ IntsA w' (some ⟨b, o, none⟩) c (PM.cho n T i m) f ∧ Fresh w.heap.size w' f ∧ Only [] w w' := by
  obtain ⟨A, C, rfl, IM⟩ := hv.ints
  have hn20 := hC.le
  have hml := hm.1
  have cn := hC.cn
  have ct := hC.ct
  rw [hT] at ct
  have cr := hC.row i hi
  obtain ⟨R, hR⟩ : ∃ R, R = PM.cho n T i m := ⟨_, rfl⟩
  rw [← hR]
  have HR := Lib.hid hR
  have HC := Lib.hid hC
  have Hm := Lib.hid hm
  have HIM := Lib.hid IM
  have Hml := Lib.hid hml
  clear hC hm IM hml hR
  go_enter Tryz.func135, Tryz.ntmps135
  go_wp2
  go_loopw [7, 8] (fun o y wr => ∃ (j : Nat) (l : List Int) (b o' c : Nat) (f : List Nat), j ≤ n ∧ y = .int .i64 j ∧ Hid (l = PM.choO m (orbTo j T i)) ∧ o = .slice (some ⟨b, o', none⟩) l.length c ∧ IntsA wr (some ⟨b, o', none⟩) c l f ∧ Fresh w.heap.size wr f ∧ Only [] w wr)
    (fun _ y _ => n - (intOf y).toNat)
  case atStart => exact ⟨0, [], w.heap.size, 0, 0, [], Nat.zero_le _, rfl, Lib.hid rfl, rfl, IntsA.nil _ _ (by simp [maxLen]), Fresh.nil _ _, (Only.refl _ _).alloc _⟩
  case round =>
    obtain ⟨W2, hnew⟩ : ∃ W, W = wr := ⟨_, rfl⟩
    subst hnew
    obtain ⟨j, l, b, o', c, f, hj, rfl, hl, rfl, hI, hF, hO⟩ := hrel
    have y0 := hO.cell (by simp) cn
    by_cases hlt : j < n
    · have yt := hO.cell (by simp) ct
      have yr := hO.cell (by simp) cr
      have hC2 := HC.out.keep hO
      have hsu := choTo_succ m j T i
      rw [← hl.out] at hsu
      have Hsu := Lib.hid hsu
      have hll : l.length ≤ 1000 := by
        rw [hl.out]
        have := choO_len Hm.out (orbTo_rng (j := j) (n := n) (by omega) (T := T) (k := i))
        omega
      have hltI : (j : Int) < (n : Int) := by omega
      clear hsu
      by_cases ht : PM.tr T i (j : Int) = []
      · have c4 := hC2.at_nil hi (y := (j : Int)) (by omega) (by omega) ht
        simp only [Int.toNat_natCast] at c4
        have Ht := Lib.hid ht
        clear ht hC2
        go_wp2
        go_roundw
        case rel => exact ⟨j + 1, l, b, o', c, f, by omega, by go_num, Lib.hid (by rw [Hsu.out, if_pos Ht.out]), rfl, hI, hF, hO⟩
        case measure => simp [intOf]; omega
      · obtain ⟨b4, off4, cap4, f4, c4, -, -⟩ := hC2.at_some hi (y := (j : Int)) (by omega) (by omega) ht
        simp only [Int.toNat_natCast] at c4
        obtain ⟨b3, o3, rfl, -, c3⟩ := (HIM.out.keep hO).at_pm (x := (j : Int)) (by omega) (by rw [Hml.out]; omega)
        simp only [Int.toNat_natCast] at c3
        have hpos : (0 : Int) < ((PM.tr T i (j : Int)).length : Int) := by have := List.length_pos_iff.2 ht; omega
        have hjm : (j : Int) < (m.length : Int) := by rw [Hml.out]; omega
        have hmr := Hm.out.rng (x := (j : Int)) (by omega) (by omega)
        have HmI := Lib.hid (show I64 (PM.at_ m (j : Int)) by unfold I64; omega)
        have Ht := Lib.hid ht
        have hsz := hO.size
        clear ht hC2 hmr
        go_wp2_with (first
          | (go_at_call 143; (with_reducible refine (insertSorted_any b o' c l f (PM.at_ m (j : Int)) W2 hI hll HmI.out).mono ?_); rintro en w3 ⟨b5, o5, c5, f5, rfl, hI5, hf5, t5⟩)
          | fail "no arm")
        have hF5 : Fresh w.heap.size w3 f5 := by
          rcases hf5 with h | h
          · rw [h]; exact hF.keep t5
          · exact h.mono hsz
        go_roundw
        case rel => exact ⟨j + 1, _, b5, o5, c5, f5, by omega, by go_num, Lib.hid (by rw [Hsu.out, if_neg Ht.out]), rfl, hI5, hF5, hO.trans t5⟩
        case measure => simp [intOf]; omega
    · obtain rfl : j = n := by omega
      have hRl : R = l := by rw [HR.out, hl.out]; rfl
      have HRl := Lib.hid hRl
      have hge : ¬ ((j : Int) < (j : Int)) := by omega
      clear hRl hl
      go_wp2
      go_ret
      rw [HRl.out]
      exact ⟨b, o', c, rfl, f, hI, hF, hO⟩
set_option maxHeartbeats 4000000 in
theorem withEntry_any {e : TypeId} {B : Nat} {L : Lay} {gv : Nat → Value} {n : Nat} {G : PM.Gens} {T : PM.Rows} {M F : List Nat} (w : World) (hC : Ch e B w L gv n G T M F) (hw : PM.WF n T) (hT : L.oT = 1) (i : Nat) (hi : i < n) (v : Value) (m : List Int) (fm : List Nat)
    (hv : Rd w v m fm) (hm : PM.PN n m) (vv : Int) (hvv : vv ∈ PM.cho n T i m) :
    Calls Tryz.prog 136 #[.pointer (some ⟨L.g, 0, none⟩), .int .i64 i, v, .int .i64 vv] w fun e w' => ∃ v' f', e = .returned v' ∧ Rd w' v' (PM.putV T i m vv) f' ∧ Fresh w.heap.size w' f' ∧ Only [] w w' := by
  have hn20 := hC.le
  obtain ⟨hv0, hv1, hp0, hp1, hp2, hp3⟩ := PM.cho_pre hm hvv
  obtain ⟨A, C, rfl, IM⟩ := hv.ints
  obtain ⟨y, hy⟩ : ∃ y, y = PM.at_ (PM.inv m) vv := ⟨_, rfl⟩
  rw [← hy] at hp0 hp1 hp2 hp3
  have hput : PM.putV T i m vv = PM.comp (PM.tr T i y) m := by unfold PM.putV; rw [← hy]
  have ct := hC.ct
  rw [hT] at ct
  have cr := hC.row i hi
  obtain ⟨bt, ot, capt, ft, crt, hrt, -⟩ := hC.at_some hi hp0 hp1 hp2
  have htp := hw.pn i y hi hp2
  have hil : ((PM.inv m).length : Int) = (n : Int) := by rw [hm.inv.1]
  have Hm := Lib.hid hm
  have Hp := Lib.hid hput
  have Htp := Lib.hid htp
  have Hy := Lib.hid hy
  have Hil := Lib.hid hil
  have hvl : vv < ((PM.inv m).length : Int) := by rw [hil]; exact hv1
  clear hC hm hvv hy hput hp2 hp3 htp IM hil
  go_enter Tryz.func136, Tryz.ntmps136
  go_wp2_with fail
  have kd : Only [] w w.drew := (Only.refl _ _).drew
  have dt := kd.cell (by simp) ct
  have dr := kd.cell (by simp) cr
  have dy := kd.cell (by simp) crt
  have HcI := Lib.hid (fun (W : World) (hW : Only [] w W) => specInv_rd n _ m _ W (Rp.keep hv hW) Hm.out (by omega))
  have HcC := Lib.hid (fun (W : World) (hW : Only [] w W) => specCompose_rd n _ _ (PM.tr T i y) m _ _ W (Rp.keep hrt hW) (Rp.keep hv hW) Htp.out Hm.out (by omega))
  clear kd
  go_region_law (first
    | (go_simp; go_at_call 123; (with_reducible refine (HcI.out _ (by with_reducible repeat (first | exact Only.refl _ _ | refine Only.drew ?_))).mono ?_); rintro e w3 ⟨v3, f3, rfl, r3, F3, t3⟩; have k3 : Only [] w w3 := Only.trans (by with_reducible repeat (first | exact Only.refl _ _ | refine Only.drew ?_)) t3; obtain ⟨a3, c3, rfl, I3⟩ := r3.ints; obtain ⟨b3, o3, rfl, -, x3⟩ := I3.at_pm (x := vv) hv0 hvl; rw [← Hy.out] at x3; have et := k3.cell (by simp) ct; have er := k3.cell (by simp) cr; have ey := k3.cell (by simp) crt)
    | (go_simp; go_at_call 46; (with_reducible refine (HcC.out _ (by with_reducible first | exact k3 | exact k3.drew)).mono ?_); rintro e w5 ⟨v5, f5, rfl, r5, F5, t5⟩; have k5 : Only [] w w5 := Only.trans (by with_reducible first | exact k3 | exact k3.drew) t5)
    | fail "no arm")
  all_goals have hF5 : Fresh w.heap.size w5 f5 := F5.mono (by have := k3.size; (try simp); omega)
  all_goals go_wp2
  all_goals go_ret
  all_goals exact ⟨v5, f5, rfl, by rw [Hp.out]; exact r5, hF5, k5⟩
theorem nextState_g (seed : Int) (i : Nat) (w : World) :
    Calls Tryz.prog 134 #[.int .i64 (gst seed i)] w fun e w' => e = .returned (.int .i64 (gst seed (i + 1))) ∧ w' = w :=
  nextState_any (gst seed i) (gst_rng seed i).1 (gst_rng seed i).2 w
set_option maxHeartbeats 4000000 in
theorem specRandomMember_yes (n : Nat) (vg : Value) (gens : List (List Int)) (fpg : List Nat) (seed : Int) (w : World) (hg : Rd w vg gens fpg) (hgs : gensB n gens = true) (hs : I64 seed) :
    Calls Tryz.prog 109 #[.int .i64 n, vg, .int .i64 seed] w fun e w' => ∃ v f, e = .returned (.tuple #[v, .bool true]) ∧ Rd w' v (randM n gens seed) f ∧ Fresh w.heap.size w' f ∧ Only [] w w' := by
  obtain ⟨⟨n1, n20⟩, hgl, hpn⟩ := gensB_iff.1 hgs
  have hpn' : ∀ g ∈ gens, PM.PN n g := by simpa using hpn
  have hn : 0 < n := by omega
  have hn20 : n ≤ 20 := by omega
  have Hgs := Lib.hid hgs
  have Hpn := Lib.hid hpn'
  clear hpn hpn' hgs
  obtain ⟨R, hR⟩ : ∃ R, R = randM n gens seed := ⟨_, rfl⟩
  rw [← hR]
  have HR := Lib.hid hR
  clear hR
  go_enter Tryz.func109, Tryz.ntmps109
  go_wp2_with (first
    | (go_at_call 102; (with_reducible refine (specIsGens_rd n vg gens fpg w hg).mono ?_); rintro en w1 ⟨he, t1⟩; rw [Hgs.out] at he; subst he; have t1 := t1.only [])
    | (go_at_call 105; (with_reducible refine (buildChain_any n hn hn20 vg gens fpg w1 (Rp.keep hg t1) Hpn.out (by omega)).mono ?_); rintro en w3 ⟨L, gv, G, T, M, F, rfl, hoG, hoT, hC, hCh, t3⟩)
    | (go_at_call 133; (with_reducible refine (firstState_any seed hs w3).mono ?_); rintro en w3' ⟨rfl, h3⟩; rw [h3]; clear h3)
    | (go_at_call 59; (with_reducible refine (specIdentity_any n w3 (by omega)).mono ?_); rintro en w4 ⟨v4, f4, rfl, r4, F4, t4⟩)
    | fail "no arm")
  have k4 : Only [] w w4 := (t1.trans t3).trans t4
  have hF4 : Fresh w.heap.size w4 f4 := F4.mono (by have := (t1.trans t3).size; omega)
  have hC4 := hC.keep t4
  have hR0 : R = PM.desc T n (rsel seed) (n - 0) 0 (PM.pts n) := by rw [HR.out, Nat.sub_zero]; exact (hCh.descG hn Hpn.out (rsel seed) (rsel_good hCh.inv.wf seed)).symm
  have HR0 := Lib.hid hR0
  have HCh := Lib.hid hCh
  have HoT := Lib.hid hoT
  clear hR0 hCh hoT hoG hC t1 t3 t4 F4
  go_loopw [9, 10, 11] (fun s v i wr => ∃ (j : Nat) (m : List Int) (f : List Nat), j ≤ n ∧ i = .int .i64 j ∧ s = .int .i64 (gst seed j) ∧ Rd wr v m f ∧ Fresh w.heap.size wr f ∧ Ch 27 w1.heap.size wr L gv n G T M F ∧ PM.Grp n gens m ∧ Hid (R = PM.desc T n (rsel seed) (n - j) j m) ∧ Only [] w wr)
    (fun _ _ i _ => n - (intOf i).toNat)
  case atStart => exact ⟨0, PM.pts n, f4, Nat.zero_le _, rfl, rfl, r4, hF4, hC4, .id, HR0, k4⟩
  case round =>
    obtain ⟨W2, hnew⟩ : ∃ W, W = wr := ⟨_, rfl⟩
    subst hnew
    clear r4 hF4 hC4 k4
    obtain ⟨j, m, f, hj, rfl, rfl, hr, hF, hC, hgr, hRR, hO⟩ := hrel
    by_cases hlt : j < n
    · have hpm : PM.PN n m := hgr.pn Hpn.out
      have hwf := HCh.out.inv.wf
      obtain ⟨C, hCd⟩ : ∃ C, C = PM.cho n T j m := ⟨_, rfl⟩
      have hCl : 0 < C.length := by rw [hCd, PM.cho_len hpm]; exact PM.cntR_pos hwf hlt
      have hCl2 : C.length ≤ 20 := by rw [hCd, PM.cho_len hpm]; have := PM.cntR_le n T j; omega
      obtain ⟨k, hk⟩ : ∃ k, k = rsel seed j C.length := ⟨_, rfl⟩
      have hkl : k < C.length := by rw [hk]; exact rsel_lt hCl
      have hkm : C[k] ∈ PM.cho n T j m := by rw [← hCd]; exact List.getElem_mem hkl
      have hgr2 := HCh.out.putV hn Hpn.out hlt hgr hkm
      have hRR2 : R = PM.desc T n (rsel seed) (n - (j + 1)) (j + 1) (PM.putV T j m C[k]) := by
        subst hCd
        rw [hRR.out]
        exact PM.desc_step hlt m hk hkl
      have hrem : Int.tmod (gst seed (j + 1)) (C.length : Int) = (k : Int) := by
        rw [tmod_pos (gst_rng seed (j + 1)).1, hk]
        unfold rsel
        have h2 := Int.emod_nonneg (gst seed (j + 1)) (show (C.length : Int) ≠ 0 by omega)
        omega
      have hne0 : ¬ ((C.length : Int) = 0) := by omega
      have HcS := Lib.hid (choicesAt_any W2 hC HoT.out j hlt u10 m f hr hpm)
      rw [← hCd] at HcS
      have HRR2 := Lib.hid hRR2
      have Hgr2 := Lib.hid hgr2
      have Hkm := Lib.hid hkm
      have Hpm := Lib.hid hpm
      have Hwf := Lib.hid hwf
      have HC := Lib.hid hC
      have hltI : (j : Int) < (n : Int) := by omega
      have hO2 := hO.size
      clear hCd hk hRR2 hgr2 hkm hpm hwf hC hgr hRR
      go_wp2_with (first
        | (go_at_call 134; (with_reducible refine (nextState_g seed j W2).mono ?_); rintro en w5 ⟨rfl, h5⟩; rw [h5]; clear h5)
        | (go_at_call 135; (with_reducible refine (HcS.out).mono ?_); rintro en w6 ⟨b6, o6, c6, f6, rfl, I6, F6, t6⟩; obtain ⟨b8, o8, e8, -, c8⟩ := I6.at_ k hkl; injection e8 with e8; injection e8 with e81 e82; subst e81; subst e82)
        | (go_at_call 136; (with_reducible refine (withEntry_any w6 (HC.out.keep t6) Hwf.out HoT.out j hlt u10 m f (Rp.keep hr t6) Hpm.out C[k] Hkm.out).mono ?_); rintro en w7 ⟨v7, f7, rfl, r7, F7, t7⟩)
        | fail "no arm")
      have hF7 : Fresh w.heap.size w7 f7 := F7.mono (by have := t6.size; omega)
      go_roundw
      case rel => exact ⟨j + 1, _, f7, by omega, by go_num, rfl, r7, hF7, (HC.out.keep t6).keep t7, Hgr2.out, HRR2, (hO.trans t6).trans t7⟩
      case measure => simp [intOf]; omega
    · obtain rfl : j = n := by omega
      have hfin : R = m := by rw [hRR.out]; exact PM.desc_end (Nat.le_refl _) m
      have hge : ¬ ((j : Int) < (j : Int)) := by omega
      have Hfin := Lib.hid hfin
      clear hfin hRR
      go_wp2
      exact bodyPost_ret (v := .tuple #[u10, .bool true]) (by simp [results, Tryz.results109, go_sem]) rfl ⟨u10, rfl, f, by rw [Hfin.out]; exact hr, hF, hO⟩
end Go.Proofs.YtajkhdbdkjhilaaGreat

namespace Go.Proofs.YtajkhdbdkjhilaaGreat
open Go.RowKit
set_option maxRecDepth 10000

/-- a session with a random member as its state -/
noncomputable def scrS (x : Session) (seed : Int) : Session × Bool := if validSe x = true then (⟨x.puzzle, randM x.puzzle.points.toNat x.puzzle.moves seed, [], []⟩, true) else (noSess, false)
theorem Fresh.comm {B : Nat} {w : World} {fp fp' : List Nat} (h : Fresh B w (fp ++ fp')) : Fresh B w (fp' ++ fp) :=
  ⟨List.perm_append_comm.nodup_iff.1 h.nd, fun b hb => h.ge b (List.perm_append_comm.mem_iff.1 hb), fun b hb => h.own b (List.perm_append_comm.mem_iff.1 hb)⟩
theorem tr_nil (k : Nat) (y : Int) : PM.tr [] k y = [] := by unfold PM.tr; split <;> simp
theorem desc_nil (n : Nat) (sel : Nat → Nat → Nat) : ∀ (k i : Nat) (m : List Int), 0 < k → (PM.desc [] n sel k i m).length = 0
  | k + 1, i, m, _ => by
    have hp : ∀ v, PM.putV [] i m v = [] := fun v => by unfold PM.putV; rw [tr_nil]; rfl
    show (PM.desc [] n sel k (i + 1) (PM.putV [] i m _)).length = 0
    rw [hp]
    cases k with
    | zero => rfl
    | succ k => exact desc_nil n sel (k + 1) (i + 1) [] (by omega)
theorem randM_len {n : Nat} {gens : List (List Int)} {seed : Int} (hn : 0 < n) (hp : ∀ g ∈ gens, PM.PN n g) : (randM n gens seed).length ≤ n := by
  by_cases hex : ∃ T, ∃ G, PM.Chain n gens G T
  · obtain ⟨T, G, h⟩ := hex
    exact Nat.le_of_eq ((h.descG_grp hn hp (rsel seed) (rsel_good h.inv.wf seed)).pn hp).1
  · unfold randM PM.descG PM.chainR
    rw [dif_neg hex, desc_nil _ _ _ _ _ hn]
    exact Nat.zero_le _
theorem validSe_gens {x : Session} (h : validSe x = true) : gensB x.puzzle.points x.puzzle.moves = true := by
  obtain ⟨h1, -⟩ := validSe_facts h
  exact validPz_gensB (stateB_valid h1)
theorem specRM_i (n : Int) (vg : Value) (gens : List (List Int)) (fpg : List Nat) (seed : Int) (w : World) (hg : Rd w vg gens fpg) (hgs : gensB n gens = true) (hs : I64 seed) :
    Calls Tryz.prog 109 #[.int .i64 n, vg, .int .i64 seed] w fun e w' => ∃ v f, e = .returned (.tuple #[v, .bool true]) ∧ Rd w' v (randM n.toNat gens seed) f ∧ Fresh w.heap.size w' f ∧ Only [] w w' := by
  obtain ⟨⟨n1, n20⟩, -, -⟩ := gensB_iff.1 hgs
  obtain ⟨m, rfl⟩ := Int.eq_ofNat_of_zero_le (by omega : 0 ≤ n)
  exact specRandomMember_yes m vg gens fpg seed w hg hgs hs
theorem implRM_i (n : Int) (vg : Value) (gens : List (List Int)) (fpg : List Nat) (seed : Int) (w : World) (hg : Rd w vg gens fpg) (hgs : gensB n gens = true) (hs : I64 seed) :
    Calls Tryz.prog 53 #[.int .i64 n, vg, .int .i64 seed] w fun e w' => ∃ v f, e = .returned (.tuple #[v, .bool true]) ∧ Rd w' v (randM n.toNat gens seed) f ∧ Fresh w.heap.size w' f ∧ Only [] w w' := by
  obtain ⟨⟨n1, n20⟩, -, -⟩ := gensB_iff.1 hgs
  obtain ⟨m, rfl⟩ := Int.eq_ofNat_of_zero_le (by omega : 0 ≤ n)
  exact implRandomMember_yes m vg gens fpg seed w hg hgs hs
set_option maxHeartbeats 4000000 in
theorem implScramble_any (cs : List Value) (x : Session) (fp : List Nat) (seed : Int) (w : World) (h : Rp.rep w cs x fp) (hs : I64 seed) :
    Calls Tryz.prog 19 #[.agg cs.toArray, .int .i64 seed] w fun e w' => ∃ cs' fp', e = .returned (.tuple #[.agg (List.toArray cs'), .bool (scrS x seed).2]) ∧ Rp.rep w' cs' (scrS x seed).1 fp' ∧ Fresh w.heap.size w' fp' ∧ Only [] w w' := by
  have h0 := h
  obtain ⟨c0, v1, v2, v3, f0, f1, f2, f3, rfl, rfl, k0, k1, k2, k3⟩ := h
  have q0 := k0
  obtain ⟨u2, rfl, p0, p1, h2⟩ := q0
  obtain ⟨A2, C2, _, _, rfl, -, -⟩ := h2.open_
  obtain ⟨A3, C3, _, _, rfl, -, -⟩ := k1.open_
  obtain ⟨A4, C4, _, _, rfl, -, -⟩ := k2.open_
  obtain ⟨A5, C5, _, _, rfl, -, -⟩ := k3.open_
  rcases hq : validSe x
  · have hp : scrS x seed = (noSess, false) := by unfold scrS; rw [if_neg (by simp [hq])]
    have Hp := Lib.hid hp; clear hp
    go_enter Tryz.func19, Tryz.ntmps19
    go_wp2_with (first
      | (go_at_call 9; (with_reducible refine (implIsValidSession_any [.int .i64 x.puzzle.points, .string x.puzzle.names, .slice A2 x.puzzle.moves.length C2, .slice A3 x.state.length C3, .slice A4 x.history.length C4, .slice A5 x.future.length C5] x _ _ (Rp.keep h0 (by with_reducible repeat (first | exact Only.refl _ _ | assumption | refine Only.drewN ?_ _ | refine Only.drew ?_ | refine Only.alloc ?_ _ | refine Only.setCell ?_ (by intro hh; exfalso; simp at hh; try omega) _ | refine Only.trans ?_ (by assumption))))).mono ?_); rintro e w1 ⟨he, t1⟩; rw [hq] at he; subst he; have y1 := t1.cells_eq (w.heap.size + 1) (by simp) (by simp); have z1 := t1.frozen_eq (w.heap.size + 1) (by simp) (by simp); have s1 : w.heap.size + 1 < w1.heap.size := (by have := t1.size; simp at this; omega))
      | fail "no arm")
    refine bodyPost_ret (v := .tuple #[.agg #[.int .i64 0, .string ⟨#[]⟩, .slice none 0 0, .slice none 0 0, .slice none 0 0, .slice none 0 0], .bool false]) (by simp [results, Tryz.results19, go_sem, y1]) rfl ⟨[.int .i64 0, .string ⟨#[]⟩, .slice none 0 0, .slice none 0 0, .slice none 0 0, .slice none 0 0], [], by rw [Hp.out], by rw [Hp.out]; exact noSess_rep _, Fresh.nil _ _, (by with_reducible repeat (first | exact Only.refl _ _ | assumption | refine Only.drewN ?_ _ | refine Only.drew ?_ | refine Only.alloc ?_ _ | refine Only.setCell ?_ (by intro hh; exfalso; simp at hh; try omega) _ | refine Only.trans ?_ (by assumption)))⟩
  · obtain ⟨R, hR⟩ : ∃ R, R = randM x.puzzle.points.toNat x.puzzle.moves seed := ⟨_, rfl⟩
    have hp : scrS x seed = (⟨x.puzzle, R, [], []⟩, true) := by unfold scrS; rw [if_pos hq, hR]
    have hgs := validSe_gens hq
    obtain ⟨-, hl8, hl2, -⟩ := validSe_facts hq
    have hl : x.puzzle.moves.length ≤ 2097152 := by omega
    obtain ⟨⟨g1, g2⟩, g3, g4⟩ := gensB_iff.1 hgs
    have hRl : R.length ≤ 1000000 := by rw [hR]; have := randM_len (seed := seed) (by omega : 0 < x.puzzle.points.toNat) g4; omega
    have Hp := Lib.hid hp
    have HR := Lib.hid hR
    have Hgs := Lib.hid hgs
    clear hp hR hgs g4
    go_enter Tryz.func19, Tryz.ntmps19
    go_wp2_with (first
      | (go_at_call 9; (with_reducible refine (implIsValidSession_any [.int .i64 x.puzzle.points, .string x.puzzle.names, .slice A2 x.puzzle.moves.length C2, .slice A3 x.state.length C3, .slice A4 x.history.length C4, .slice A5 x.future.length C5] x _ _ (Rp.keep h0 (by with_reducible repeat (first | exact Only.refl _ _ | assumption | refine Only.drewN ?_ _ | refine Only.drew ?_ | refine Only.alloc ?_ _ | refine Only.setCell ?_ (by intro hh; exfalso; simp at hh; try omega) _ | refine Only.trans ?_ (by assumption))))).mono ?_); rintro e w1 ⟨he, t1⟩; rw [hq] at he; subst he; have x1 := t1.cells_eq w.heap.size (by simp; omega) (by simp); have y1 := t1.cells_eq (w.heap.size + 1) (by simp) (by simp); have z1 := t1.frozen_eq (w.heap.size + 1) (by simp) (by simp); have s1 : w.heap.size + 1 < w1.heap.size := (by have := t1.size; simp at this; omega); have K1 : Only [] w w1 := (by with_reducible repeat (first | exact Only.refl _ _ | assumption | refine Only.drewN ?_ _ | refine Only.drew ?_ | refine Only.alloc ?_ _ | refine Only.setCell ?_ (by intro hh; exfalso; simp at hh; try omega) _ | refine Only.trans ?_ (by assumption))))
      | (go_at_call 53; (with_reducible refine (implRM_i x.puzzle.points _ x.puzzle.moves _ seed w1 (Rp.keep h2 K1) Hgs.out hs).mono ?_); rintro e w2 ⟨u3, g5, rfl, r2, F2, t2⟩; rw [← HR.out] at r2; obtain ⟨A6, C6, _, _, rfl, -, -⟩ := r2.open_; have x2 := t2.cells_eq w.heap.size (by omega) (by simp); have y2 := t2.cells_eq (w.heap.size + 1) s1 (by simp); have z2 := t2.frozen_eq (w.heap.size + 1) s1 (by simp); have s2 : w.heap.size + 1 < w2.heap.size := Nat.lt_of_lt_of_le s1 t2.size; have K2 : Only [] w w2 := K1.trans t2)
      | (go_at_call 54; (with_reducible refine (newSession_any [.int .i64 x.puzzle.points, .string x.puzzle.names, .slice A2 x.puzzle.moves.length C2] x.puzzle _ (.slice A6 R.length C6) R _ w2 (Rp.keep k0 K2) r2 hl hl2 hRl).mono ?_); rintro e w3 ⟨u4, g6, rfl, r3, F3, t3⟩; have q3 := r3; obtain ⟨c0, a1, a2, a3, _, _, _, _, rfl, -, b0, b1, b2, b3⟩ := q3; obtain ⟨b4, rfl, -, -, b5⟩ := b0; obtain ⟨A7, C7, _, _, rfl, -⟩ := b5.open_; obtain ⟨A8, C8, _, _, rfl, -⟩ := b1.open_; obtain ⟨A9, C9, _, _, rfl, -⟩ := b2.open_; obtain ⟨A10, C10, _, _, rfl, -⟩ := b3.open_; have y3 := t3.cells_eq (w.heap.size + 1) s2 (by simp); have z3 := t3.frozen_eq (w.heap.size + 1) s2 (by simp); have s3 : w.heap.size + 1 < w3.heap.size := Nat.lt_of_lt_of_le s2 t3.size)
      | fail "no arm")
    have T3 : Only [] w w3 := K2.trans t3
    have hW : Only [w.heap.size + 1] w3 ((((((w3.setCell ⟨w.heap.size + 1, 0, none⟩ (.int .i64 x.puzzle.points)).setCell ⟨w.heap.size + 1, 1, none⟩ (.string x.puzzle.names)).setCell ⟨w.heap.size + 1, 2, none⟩ (.slice A7 x.puzzle.moves.length C7)).setCell ⟨w.heap.size + 1, 3, none⟩ (.slice A8 R.length C8)).setCell ⟨w.heap.size + 1, 4, none⟩ (.slice A9 ([] : List (List Int)).length C9)).setCell ⟨w.heap.size + 1, 5, none⟩ (.slice A10 ([] : List (List Int)).length C10)) := (by with_reducible repeat (first | exact Only.refl _ _ | assumption | refine Only.drewN ?_ _ | refine Only.drew ?_ | refine Only.alloc ?_ _ | refine Only.setCell ?_ (by intro _; simp) _ | refine Only.trans ?_ (Only.weaken (by assumption) _)))
    have G1 : ∀ b' ∈ g6, w.heap.size + 2 ≤ b' := fun b' hb => by have := F3.ge b' hb; omega
    have n1 := Rp.only r3 hW (fun b' hb hm => by have := G1 b' hb; simp at hm; omega)
    have n3 := F3.only hW (fun b' hb hm => by have := G1 b' hb; simp at hm; omega)
    refine bodyPost_ret (v := .tuple #[.agg #[.int .i64 x.puzzle.points, .string x.puzzle.names, .slice A7 x.puzzle.moves.length C7, .slice A8 R.length C8, .slice A9 ([] : List (List Int)).length C9, .slice A10 ([] : List (List Int)).length C10], .bool true]) (by simp [results, Tryz.results19, go_sem, y3, y2, y1]) rfl ⟨[.int .i64 x.puzzle.points, .string x.puzzle.names, .slice A7 x.puzzle.moves.length C7, .slice A8 R.length C8, .slice A9 ([] : List (List Int)).length C9, .slice A10 ([] : List (List Int)).length C10], g6, by rw [Hp.out], by rw [Hp.out]; exact n1, Fresh.mono n3 (by omega), Only.own1 T3 hW (Nat.le_succ _)⟩
end Go.Proofs.YtajkhdbdkjhilaaGreat

namespace Go.Proofs.YtajkhdbdkjhilaaGreat
open Go.RowKit
set_option maxRecDepth 10000

instance : Rp UInt8 where
  size := 1
  rep _ cs x fp := cs = [.int .u8 (x.toNat : Int)] ∧ fp = []
  len h := by rw [h.1]; rfl
  frame h _ := h
  lt h := by rw [h.2]; simp
/-- the dice at block g, over the bytes l -/
def Dice (w : World) (g : Nat) (fc : List Nat) (l : List UInt8) : Prop :=
  ∃ a c i h, Blk w g [.slice a l.length c, .int .i64 i, .int .u64 h] ∧ (0 ≤ i ∧ i ≤ l.length) ∧ (0 ≤ h ∧ h < 18446744073709551616) ∧ Rd w (.slice a l.length c) l fc ∧ g ∉ fc
theorem Dice.keep {w w' : World} {g : Nat} {fc : List Nat} {l : List UInt8} (h : Dice w g fc l) (ho : Only [] w w') : Dice w' g fc l := by
  obtain ⟨a, c, i, x, h1, h2, h3, h4, h5⟩ := h
  exact ⟨a, c, i, x, h1.keep ho, h2, h3, Rp.keep h4 ho, h5⟩
theorem Dice.only {w w' : World} {g : Nat} {fc fp : List Nat} {l : List UInt8} (h : Dice w g fc l) (ho : Only fp w w') (hg : g ∉ fp) (hc : ∀ b ∈ fc, b ∉ fp) : Dice w' g fc l := by
  obtain ⟨a, c, i, x, h1, h2, h3, h4, h5⟩ := h
  exact ⟨a, c, i, x, h1.only ho hg, h2, h3, Rp.only h4 ho hc, h5⟩
theorem Dice.lt {w : World} {g : Nat} {fc : List Nat} {l : List UInt8} (h : Dice w g fc l) : g < w.heap.size := by
  obtain ⟨a, c, i, x, h1, -⟩ := h; exact h1.lt
set_option maxHeartbeats 1000000 in
theorem big_any (v : Value) (l : List UInt8) (fc : List Nat) (w : World) (h : Rd w v l fc) :
    Calls Tryz.prog 5 #[v] w fun e w' => e = .returned (.bool (decide (4096 < l.length))) ∧ Only [] w w' := by
  obtain ⟨a, cap, ob, fps, rfl, -, hs⟩ := h.open_
  have hb := hs.bound
  have he : decide ((4096 : Int) < (l.length : Int)) = decide (4096 < l.length) := by
    by_cases h : 4096 < l.length
    · rw [decide_eq_true h, decide_eq_true (by omega)]
    · rw [decide_eq_false h, decide_eq_false (by omega)]
  have He := Lib.hid he
  clear he
  go_enter Tryz.func5, Tryz.ntmps5
  go_wp2
  go_ret
  exact ⟨ret_bool (by first | exact He.out | rfl), (by with_reducible repeat (first | exact Only.refl _ _ | assumption | refine Only.drewN ?_ _ | refine Only.drew ?_ | refine Only.alloc ?_ _ | refine Only.setCell ?_ (by intro hh; exfalso; simp at hh; try omega) _ | refine Only.trans ?_ (by assumption)))⟩


end Go.Proofs.YtajkhdbdkjhilaaGreat
