/- The laws' own helpers on slices of slices of int64: held, eq, mark, to, sz. -/
import Derived.Test.YtpfmkjcngknecaaLawInts
namespace Go.Proofs.Ytpfmkjcngknecaa
open Go.RowKit
set_option maxRecDepth 10000

theorem heldInt64S_rd (v : Value) (l : List Int) (fp : List Nat) (k : Int) (w : World) (h : Rd w v l fp) (h0 : 0 ≤ k) (h1 : k + (Mk.cnt l : Nat) ≤ 4611686018427387904) :
    Calls Try.prog 62 #[v, .int .i64 k] w fun e w' => e = .returned (.int .i64 (heldV k l)) ∧ Drew w w' := by
  obtain ⟨a, cap, rfl, hI⟩ := h.ints
  exact heldInt64S_any a cap l fp k w hI h0 (by simp only [Mk.cnt, cntL_ints] at h1; omega)
theorem eqInt64S_rd (v v' : Value) (l l' : List Int) (fp fp' : List Nat) (w : World) (h : Rd w v l fp) (h' : Rd w v' l' fp') :
    Calls Try.prog 35 #[v, v'] w fun e w' => e = .returned (.bool (eqV l l')) ∧ Drew w w' := by
  obtain ⟨a, cap, rfl, hI⟩ := h.ints
  obtain ⟨a', cap', rfl, hI'⟩ := h'.ints
  exact eqInt64S_any a a' cap cap' l l' fp fp' w hI hI'
theorem markInt64S_rd (v : Value) (l : List Int) (fp : List Nat) (k : Int) (w : World) (h : Rd w v l fp) (ho : Own w fp) (h0 : 0 ≤ k) (h1 : k + (Mk.cnt l : Nat) ≤ 4611686018427387904) :
    Calls Try.prog 37 #[v, .int .i64 k] w fun e w' => e = .returned (.int .i64 (k + (Mk.cnt l : Nat))) ∧ Rd w' v (Mk.mark k l) fp ∧ Own w' fp ∧ Only fp w w' := by
  obtain ⟨a, cap, rfl, hI⟩ := h.ints
  simp only [Mk.cnt, cntL_ints] at h1 ⊢
  refine (markInt64S_any a cap l fp k w hI ho h0 (by omega)).mono ?_
  rintro e w' ⟨he, hI', ho', hk⟩
  refine ⟨he, ?_, ho', hk⟩
  have := hI'.rd
  rw [markL_length] at this
  exact this
theorem toInt64S_rd (v : Value) (l : List Int) (fp : List Nat) (w : World) (h : Rd w v l fp) (hl : l.length ≤ 2097152) :
    Calls Try.prog 33 #[v] w fun e w' => ∃ v fp', e = .returned v ∧ Rd w' v l fp' ∧ Fresh w.heap.size w' fp' ∧ Only [] w w' := by
  obtain ⟨a, cap, rfl, hI⟩ := h.ints
  exact toInt64S_any a cap l fp w hI hl

class Sz (α : Type) where
  sz : α → Nat
instance : Sz Int := ⟨fun _ => 0⟩
def szL {α : Type} [Sz α] : List α → Nat
  | [] => 0
  | x :: xs => Sz.sz x + szL xs
instance {α : Type} [Sz α] : Sz (List α) := ⟨fun l => l.length + szL l⟩
/-- what the laws' 'sz' functions answer -/
def szV {α : Type} [Sz α] (left : Int) (x : α) : Int := if (Sz.sz x : Int) ≤ left then left - (Sz.sz x : Nat) else -1
theorem szL_ints (l : List Int) : szL l = 0 := by
  induction l with
  | nil => rfl
  | cons x l ih => simp [szL, ih, Sz.sz]
theorem szL_append {α : Type} [Sz α] (l l' : List α) : szL (l ++ l') = szL l + szL l' := by
  induction l with
  | nil => simp [szL]
  | cons x l ih => simp [szL, ih]; omega
theorem szL_take_succ {α : Type} [Sz α] (l : List α) (j : Nat) (h : j < l.length) : szL (l.take (j + 1)) = szL (l.take j) + Sz.sz l[j] := by
  rw [take_succ_get l j h, szL_append]; simp [szL]
theorem szL_take_le {α : Type} [Sz α] (l : List α) (j : Nat) : szL (l.take j) ≤ szL l := by
  have h : szL (l.take j ++ l.drop j) = szL (l.take j) + szL (l.drop j) := szL_append _ _
  rw [List.take_append_drop] at h; omega
theorem szV_cases {α : Type} [Sz α] (left : Int) (x : α) : (szV left x = -1 ∧ left < (Sz.sz x : Nat)) ∨ (szV left x = left - (Sz.sz x : Nat) ∧ 0 ≤ szV left x ∧ (Sz.sz x : Int) ≤ left) := by
  unfold szV; split
  · right; omega
  · left; omega
theorem szV_no {α : Type} [Sz α] {left : Int} {x : α} (h : left < (Sz.sz x : Nat)) : szV left x = -1 := by unfold szV; rw [if_neg (by omega)]
theorem szV_yes {α : Type} [Sz α] {left : Int} {x : α} (h : (Sz.sz x : Int) ≤ left) : szV left x = left - (Sz.sz x : Nat) := by unfold szV; rw [if_pos h]

set_option maxHeartbeats 400000 in
theorem szInt64S_rd (v : Value) (l : List Int) (fp : List Nat) (k : Int) (w : World) (h : Rd w v l fp) (h0 : 0 ≤ k) (h1 : k ≤ 2147483648) :
    Calls Try.prog 43 #[v, .int .i64 k] w fun e w' => e = .returned (.int .i64 (szV k l)) ∧ Drew w w' := by
  obtain ⟨a, cap, rfl, hI⟩ := h.ints
  have hb := hI.bound
  have hs : Sz.sz l = l.length := by simp [Sz.sz, szL_ints]
  have Hs := Lib.hid hs; clear hs
  by_cases hlt : k - l.length < 0
  · go_enter Try.func43, Try.ntmps43
    go_wp2
    go_ret
    exact ⟨ret_int (szV_no (by have := Hs.out; omega)).symm, Drew.refl _⟩
  · go_enter Try.func43, Try.ntmps43
    go_wp2
    go_ret
    exact ⟨ret_int (by rw [szV_yes (by have := Hs.out; omega), Hs.out]), Drew.refl _⟩

section
variable {α : Type} [Rp α] {w : World} {a : Option Addr} {cap : Nat} {xs : List (List α)} {ob : List Nat} {fps : List (List Nat)}
/-- an element of a slice of slices -/
theorem SeqA.atRow (h : SeqA w a cap xs ob fps) (k : Nat) (hk : k < xs.length) :
    ∃ b off v, a = some ⟨b, off, none⟩ ∧ ob = [b] ∧ w.cell? ⟨b, off + k, none⟩ = some v ∧ Rd w v xs[k] (fps[k]'(by rw [h.nf]; exact hk)) := by
  obtain ⟨b, off, cs, ha, hob, hc, hr⟩ := h.at_ k hk
  have hl := Rp.len hr
  match cs, hl with
  | [v], _ => exact ⟨b, off, v, ha, hob, by have := hc 0 v rfl; simpa [Rp.size] using this, hr⟩
end

set_option maxHeartbeats 400000 in
theorem heldInt64SS_any (a : Option Addr) (cap : Nat) (l : List (List Int)) (ob : List Nat) (fps : List (List Nat)) (k : Int) (w : World) (h : SeqA w a cap l ob fps) (h0 : 0 ≤ k) (h1 : k + (cntL l : Nat) ≤ 4611686018427387904) :
    Calls Try.prog 63 #[.slice a l.length cap, .int .i64 k] w fun e w' => e = .returned (.int .i64 (heldV k l)) ∧ Drew w w' := by
  have hb := h.bound
  go_enter Try.func63, Try.ntmps63
  go_wp2
  go_loopw [1, 5] (fun q i wr => ∃ j : Nat, j ≤ l.length ∧ q = .int .i64 (k + (cntL (l.take j) : Nat)) ∧ i = .int .i64 j ∧ l.take j = markL k (l.take j) ∧ Drew w wr)
    (fun _ i _ => l.length - (intOf i).toNat)
  case atStart => exact ⟨0, Nat.zero_le _, by simp [cntL], rfl, rfl, Drew.refl _⟩
  case round =>
    obtain ⟨j, hj, rfl, rfl, hr, n, rfl⟩ := hrel
    have Hr := Lib.hid hr; clear hr
    by_cases hlt : j < l.length
    · obtain ⟨b, off, v, rfl, -, hc, hv⟩ := h.atRow j hlt
      have hcnt := cntL_take_succ l j hlt
      have hle := cntL_take_le l (j + 1)
      have Hcnt := Lib.hid hcnt
      rcases heldV_pos (k + (cntL (l.take j) : Nat)) l[j] with ⟨he, hm⟩ | ⟨he, hm⟩
      all_goals have Hm := Lib.hid hm
      all_goals clear hm hcnt
      all_goals go_wp2_with (go_at_call 62; refine (heldInt64S_rd v l[j] _ (k + (cntL (l.take j) : Nat)) _ (Rp.keep hv (Only.ofDrewN _ _ _)) (by omega) (by have := Hcnt.out; omega)).mono ?_; rintro e w1 ⟨rfl, n1, rfl⟩)
      · go_ret
        exact ⟨ret_int (heldV_no (held_not hlt Hm.out)).symm, ⟨_, rfl⟩⟩
      · go_roundw
        case rel => exact ⟨j + 1, by omega, by rw [Hcnt.out]; go_num, by go_num, held_step hlt Hr.out Hm.out, ⟨_, rfl⟩⟩
        case measure => simp [intOf]; omega
    · have Hj : Hid (j = l.length) := (by omega : j = l.length)
      go_wp2
      go_ret
      have hjl := Hj.out
      subst hjl
      refine ⟨ret_int ?_, (Drew.refl _).drewN n⟩
      have hr := Hr.out
      rw [List.take_length] at hr ⊢
      exact (heldV_yes hr).symm

theorem heldInt64SS_rd (v : Value) (l : List (List Int)) (fp : List Nat) (k : Int) (w : World) (h : Rd w v l fp) (h0 : 0 ≤ k) (h1 : k + (Mk.cnt l : Nat) ≤ 4611686018427387904) :
    Calls Try.prog 63 #[v, .int .i64 k] w fun e w' => e = .returned (.int .i64 (heldV k l)) ∧ Drew w w' := by
  obtain ⟨a, cap, ob, fps, rfl, -, hs⟩ := h.open_
  exact heldInt64SS_any a cap l ob fps k w hs h0 h1

theorem quiet_drew {P : Program} {f : FuncId} {args : Array Value} {w : World} {v : Value}
    (h : Calls P f args w fun e w' => e = .returned v ∧ Drew w w') : Calls P f args w fun e w'' => e = .returned v ∧ ∃ m, w'' = w.drewN m := h
theorem quiet_drewN {P : Program} {f : FuncId} {args : Array Value} {w : World} {a n : Nat} {v : Value}
    (h : Calls P f args (w.drewN (a + n)) fun e w' => e = .returned v ∧ Drew (w.drewN (a + n)) w') :
    Calls P f args (w.drewN (a + n)) fun e w'' => e = .returned v ∧ ∃ m, w'' = w.drewN (a + m) :=
  h.mono fun _ _ ⟨he, m, hm⟩ => ⟨he, n + m, by rw [hm, World.drewN_drewN, Nat.add_assoc]⟩

set_option maxHeartbeats 400000 in
theorem eqInt64SS_any (a a' : Option Addr) (cap cap' : Nat) (l l' : List (List Int)) (ob ob' : List Nat) (fps fps' : List (List Nat)) (w : World) (h : SeqA w a cap l ob fps) (h' : SeqA w a' cap' l' ob' fps') :
    Calls Try.prog 27 #[.slice a l.length cap, .slice a' l'.length cap'] w fun e w' => e = .returned (.bool (eqV l l')) ∧ Drew w w' := by
  have hb := h.bound
  have hb' := h'.bound
  by_cases hl : l.length = l'.length
  · have hne : ((l.length : Int) != (l'.length : Int)) = false := by simp [hl]
    have Hl := Lib.hid hl; clear hl
    go_enter Try.func27, Try.ntmps27
    go_wp2
    go_loopw [5] (fun i wr => ∃ j : Nat, j ≤ l.length ∧ i = .int .i64 j ∧ l.take j = l'.take j ∧ Drew w wr)
      (fun i _ => l.length - (intOf i).toNat)
    case atStart => exact ⟨0, Nat.zero_le _, rfl, rfl, Drew.refl _⟩
    case round =>
      obtain ⟨j, hj, rfl, hr, n, rfl⟩ := hrel
      have Hr := Lib.hid hr; clear hr
      by_cases hlt : j < l.length
      · have hlt' : j < l'.length := by have := Hl.out; omega
        obtain ⟨b, off, v, rfl, -, hc, hv⟩ := h.atRow j hlt
        obtain ⟨b', off', v', rfl, -, hc', hv'⟩ := h'.atRow j hlt'
        rcases hq : eqV l[j] l'[j]
        all_goals go_wp2
        all_goals go_quiet ((go_at_call 35; exact quiet_drewN (eqInt64S_rd v v' l[j] l'[j] _ _ _ (Rp.keep hv (Only.ofDrewN _ _ _)) (Rp.keep hv' (Only.ofDrewN _ _ _)))))
        all_goals go_wp2
        · go_ret
          exact ⟨ret_bool (eqL_no hlt hlt' hq).symm, ((Drew.refl _).drewN _).drewN _⟩
        · go_roundw
          case rel => exact ⟨j + 1, by omega, by go_num, eqL_step hlt hlt' hq Hr.out, ⟨_, rfl⟩⟩
          case measure => simp [intOf]; omega
      · go_wp2
        go_ret
        exact ⟨ret_bool (eqL_yes Hl.out hlt Hr.out).symm, (Drew.refl _).drewN n⟩
  · have hne : ((l.length : Int) != (l'.length : Int)) = true := by simp; omega
    go_enter Try.func27, Try.ntmps27
    go_wp2
    go_ret
    exact ⟨ret_bool (eqL_len hne).symm, Drew.refl _⟩
theorem eqInt64SS_rd (v v' : Value) (l l' : List (List Int)) (fp fp' : List Nat) (w : World) (h : Rd w v l fp) (h' : Rd w v' l' fp') :
    Calls Try.prog 27 #[v, v'] w fun e w' => e = .returned (.bool (eqV l l')) ∧ Drew w w' := by
  obtain ⟨a, cap, ob, fps, rfl, -, hs⟩ := h.open_
  obtain ⟨a', cap', ob', fps', rfl, -, hs'⟩ := h'.open_
  exact eqInt64SS_any a a' cap cap' l l' ob ob' fps fps' w hs hs'

set_option maxHeartbeats 400000 in
theorem szInt64SS_any (a : Option Addr) (cap : Nat) (l : List (List Int)) (ob : List Nat) (fps : List (List Nat)) (k : Int) (w : World) (h : SeqA w a cap l ob fps) (h0 : 0 ≤ k) (h1 : k ≤ 2147483648) :
    Calls Try.prog 20 #[.slice a l.length cap, .int .i64 k] w fun e w' => e = .returned (.int .i64 (szV k l)) ∧ Drew w w' := by
  have hb := h.bound
  have hs : Sz.sz l = l.length + szL l := rfl
  have Hs := Lib.hid hs; clear hs
  by_cases hneg : k - l.length < 0
  · go_enter Try.func20, Try.ntmps20
    go_wp2
    go_ret
    exact ⟨ret_int (szV_no (by have := Hs.out; omega)).symm, Drew.refl _⟩
  · go_enter Try.func20, Try.ntmps20
    go_wp2
    go_loopw [1, 5] (fun q i wr => ∃ j : Nat, j ≤ l.length ∧ q = .int .i64 (k - l.length - (szL (l.take j) : Nat)) ∧ i = .int .i64 j ∧ (l.length + szL (l.take j) : Int) ≤ k ∧ Drew w wr)
      (fun _ i _ => l.length - (intOf i).toNat)
    case atStart => exact ⟨0, Nat.zero_le _, by simp [szL], rfl, by simp [szL]; omega, Drew.refl _⟩
    case round =>
      obtain ⟨j, hj, rfl, rfl, hr, n, rfl⟩ := hrel
      by_cases hlt : j < l.length
      · obtain ⟨b, off, v, rfl, -, hc, hv⟩ := h.atRow j hlt
        have hcnt := szL_take_succ l j hlt
        have hle := szL_take_le l (j + 1)
        have Hcnt := Lib.hid hcnt
        clear hcnt
        rcases szV_cases (k - l.length - (szL (l.take j) : Nat)) l[j] with ⟨he, hm⟩ | ⟨he, hp, hm⟩
        all_goals go_wp2_with (go_at_call 43; refine (szInt64S_rd v l[j] _ (k - l.length - (szL (l.take j) : Nat)) _ (Rp.keep hv (Only.ofDrewN _ _ _)) (by omega) (by omega)).mono ?_; rintro e w1 ⟨rfl, n1, rfl⟩)
        · go_ret
          exact ⟨ret_int (szV_no (by have := Hs.out; have := Hcnt.out; omega)).symm, ⟨_, rfl⟩⟩
        · go_roundw
          case rel => exact ⟨j + 1, by omega, by rw [Hcnt.out]; go_num, by go_num, by rw [Hcnt.out]; omega, ⟨_, rfl⟩⟩
          case measure => simp [intOf]; omega
      · have Hj : Hid (j = l.length) := (by omega : j = l.length)
        go_wp2
        go_ret
        have hjl := Hj.out
        subst hjl
        refine ⟨ret_int ?_, (Drew.refl _).drewN n⟩
        rw [List.take_length] at hr ⊢
        rw [szV_yes (by have := Hs.out; omega), Hs.out]
        omega
theorem szInt64SS_rd (v : Value) (l : List (List Int)) (fp : List Nat) (k : Int) (w : World) (h : Rd w v l fp) (h0 : 0 ≤ k) (h1 : k ≤ 2147483648) :
    Calls Try.prog 20 #[v, .int .i64 k] w fun e w' => e = .returned (.int .i64 (szV k l)) ∧ Drew w w' := by
  obtain ⟨a, cap, ob, fps, rfl, -, hs⟩ := h.open_
  exact szInt64SS_any a cap l ob fps k w hs h0 h1

section
variable {α : Type} [Rp α] {w w' : World} {a : Option Addr} {cap : Nat} {xs : List α} {ob : List Nat} {fps : List (List Nat)}
theorem flatten_apart {fps : List (List Nat)} (h : fps.flatten.Nodup) {i j : Nat} (hi : i < fps.length) (hj : j < fps.length) (hne : i ≠ j) : ∀ b ∈ fps[i], b ∉ fps[j] := by
  rw [List.nodup_iff_pairwise_ne, List.pairwise_flatten] at h
  have hp := List.pairwise_iff_getElem.1 h.2
  intro b hb hb'
  rcases Nat.lt_or_gt_of_ne hne with hlt | hlt
  · exact hp i j hi hj hlt b hb b hb' rfl
  · exact hp j i hj hi hlt b hb' b hb rfl
theorem mem_flatten_get {fps : List (List Nat)} {j : Nat} (hj : j < fps.length) {b : Nat} (hb : b ∈ fps[j]) : b ∈ fps.flatten := List.mem_flatten.2 ⟨_, List.getElem_mem _, hb⟩
/-- one element's memory is written: it reads as x' -/
theorem SeqA.touch (h : SeqA w a cap xs ob fps) (hnd : (ob ++ fps.flatten).Nodup) {j b off : Nat} {cs : List Value} {x' : α} (hj : j < xs.length) (hj' : j < fps.length) (ha : a = some ⟨b, off, none⟩)
    (hl : cs.length = Rp.size α) (hc : ∀ i u, cs[i]? = some u → w.cell? ⟨b, off + j * Rp.size α + i, none⟩ = some u) (ho : Only fps[j] w w') (hr : Rp.rep w' cs x' fps[j]) :
    SeqA w' a cap (xs.set j x') ob fps := by
  obtain ⟨h1, h2, h3⟩ := List.nodup_append.1 hnd
  refine ⟨by simpa using h.len, h.cap, by simpa using h.nf, fun k hk => ?_, fun b hb => Nat.lt_of_lt_of_le (h.lt b hb) ho.size, h.one⟩
  have hk' : k < xs.length := by simpa using hk
  obtain ⟨b', off', cs', ha', hob, hc', hr'⟩ := h.at_ k hk'
  rw [ha] at ha'
  injection ha' with ha'; injection ha' with hb ho'; subst hb; subst ho'
  have hout : b ∉ fps[j] := fun hm => h3 b (by simp [hob]) b (mem_flatten_get hj' hm) rfl
  have hkeep : ∀ i u, cs'[i]? = some u → w'.cell? ⟨b, off + k * Rp.size α + i, none⟩ = some u := fun i u hu => ho.cell (p := ⟨b, off + k * Rp.size α + i, none⟩) hout (hc' i u hu)
  by_cases hkj : k = j
  · subst hkj
    have hcs : cs' = cs := by
      apply List.ext_getElem (by rw [hl, Rp.len hr'])
      intro i h1 h2
      have e1 := hc' i _ (List.getElem?_eq_getElem h1)
      have e2 := hc i _ (List.getElem?_eq_getElem h2)
      rw [e1] at e2; injection e2
    subst hcs
    exact ⟨b, off, cs', ha, hob, hkeep, by simpa using hr⟩
  · refine ⟨b, off, cs', ha, hob, hkeep, ?_⟩
    rw [List.getElem_set_ne (fun e => hkj e.symm)]
    exact Rp.only hr' ho (flatten_apart h2 _ hj' hkj)
theorem flatten_at {s : Nat} (css : List (List Value)) (h : ∀ c ∈ css, c.length = s) (k j : Nat) (hj : j < s) (hk : k < css.length) : css.flatten[k * s + j]? = (css[k])[j]? := by
  induction css generalizing k with
  | nil => simp at hk
  | cons c css ih =>
    have hc := h c (by simp)
    cases k with
    | zero => simp [List.getElem?_append, hc, hj]
    | succ k =>
      rw [List.flatten_cons, List.getElem?_append_right (by rw [hc, Nat.succ_mul]; omega)]
      have : (k + 1) * s + j - c.length = k * s + j := by rw [hc, Nat.succ_mul]; omega
      rw [this, ih (fun c' hc' => h c' (by simp [hc'])) k (by simpa using hk)]
      simp
/-- a row of the call's own whose elements read as xs -/
theorem own_seq {base : Nat} {e : TypeId} {v : Value} {n : Nat} {css : List (List Value)} (h : w.ownsRow base e (Rp.size α) v n css.flatten) (hs : 0 < Rp.size α)
    (hl : css.length = xs.length) (hf : fps.length = xs.length) (hr : ∀ k (h1 : k < css.length) (h2 : k < xs.length) (h3 : k < fps.length), Rp.rep w css[k] xs[k] fps[k]) :
    ∃ a cap, v = .slice a xs.length cap ∧ n = xs.length ∧ SeqA w a cap xs v.ownBlock.toList fps := by
  have hcl : ∀ c ∈ css, c.length = Rp.size α := by
    intro c hc
    obtain ⟨k, hk, rfl⟩ := List.getElem_of_mem hc
    exact Rp.len (hr k hk (by omega) (by omega))
  obtain ⟨h1, h2⟩ := h
  have hlen : css.flatten.length = css.length * Rp.size α := by
    clear h1 h2 hl hr
    induction css with
    | nil => simp
    | cons c css ih => rw [List.flatten_cons, List.length_append, hcl c (by simp), ih (fun c' hc' => hcl c' (by simp [hc'])), List.length_cons, Nat.succ_mul]; omega
  have hn : n = xs.length := by
    rw [hlen, hl] at h1
    exact (Nat.eq_of_mul_eq_mul_right hs h1).symm
  subst hn
  rcases h2 with ⟨rfl, h0⟩ | ⟨g, cp, cur, rfl, hb, hg, hnc, hcm, hcs, htake⟩
  · have : xs = [] := List.eq_nil_of_length_eq_zero h0
    subst this
    have : fps = [] := List.eq_nil_of_length_eq_zero hf
    subst this
    exact ⟨none, 0, rfl, rfl, SeqA.nil w none (by simp [maxLen])⟩
  · refine ⟨some ⟨g, 0, none⟩, cp, rfl, rfl, ⟨hnc, hcm, hf, fun k hk => ⟨g, 0, css[k], rfl, rfl, fun j u hu => ?_, hr k (by omega) hk (by omega)⟩, ?_, by simp [Value.ownBlock]⟩⟩
    · have hj : j < Rp.size α := by
        rw [← hcl _ (List.getElem_mem (by omega : k < css.length))]
        exact (List.getElem?_eq_some_iff.1 hu).1
      have hh := flatten_at css hcl k j hj (by omega)
      rw [hu, ← htake, List.getElem?_take] at hh
      split at hh
      · rw [cell_of_row w g _ cur e (0, 0) hg]
        simpa using hh
      · cases hh
    · intro b hb'
      simp [Value.ownBlock] at hb'; subst hb'
      exact (Array.getElem?_eq_some_iff.1 hg).1
theorem own_fresh {base : Nat} {e : TypeId} {size : Nat} {v : Value} {n : Nat} {cs : List Value} (h : w.ownsRow base e size v n cs) : Fresh base w v.ownBlock.toList := by
  rcases h.2 with ⟨rfl, h0⟩ | ⟨g, cp, cur, rfl, hb, hg, _⟩
  · exact Fresh.nil _ _
  · exact ⟨by simp [Value.ownBlock], by simpa [Value.ownBlock] using hb, by intro b hb'; simp [Value.ownBlock] at hb'; subst hb'; exact ⟨_, _, hg⟩⟩
end

set_option maxHeartbeats 400000 in
theorem markInt64SS_any (a : Option Addr) (cap : Nat) (l : List (List Int)) (ob : List Nat) (fps : List (List Nat)) (k : Int) (w : World) (h : SeqA w a cap l ob fps) (hnd : (ob ++ fps.flatten).Nodup) (ho : Own w (ob ++ fps.flatten)) (h0 : 0 ≤ k) (h1 : k + (cntL l : Nat) ≤ 4611686018427387904) :
    Calls Try.prog 29 #[.slice a l.length cap, .int .i64 k] w fun e w' =>
      e = .returned (.int .i64 (k + (cntL l : Nat))) ∧ SeqA w' a cap (markL k l) ob fps ∧ Own w' (ob ++ fps.flatten) ∧ Only (ob ++ fps.flatten) w w' := by
  have hb := h.bound
  have hnf := h.nf
  go_enter Try.func29, Try.ntmps29
  have Hnf := Lib.hid hnf
  clear hnf
  go_wp2
  go_loopw [1, 5] (fun q i wr => ∃ j : Nat, j ≤ l.length ∧ q = .int .i64 (k + (cntL (l.take j) : Nat)) ∧ i = .int .i64 j ∧ SeqA wr a cap (markL k (l.take j) ++ l.drop j) ob fps ∧ Own wr (ob ++ fps.flatten) ∧ Only (ob ++ fps.flatten) w wr)
    (fun _ i _ => l.length - (intOf i).toNat)
  case atStart => exact ⟨0, Nat.zero_le _, by simp [cntL], rfl, by simpa [markL] using h, ho, Only.refl _ _⟩
  case round =>
    obtain ⟨j, hj, rfl, rfl, hI, hO, hK⟩ := hrel
    by_cases hlt : j < l.length
    · have hjm : (markL k (l.take j) ++ l.drop j).length = l.length := by simp [markL_length]; omega
      have hjf : j < fps.length := by have := Hnf.out; omega
      obtain ⟨b, off, v, rfl, hob, hc, hv0⟩ := hI.atRow j (by omega)
      have hx : (markL k (l.take j) ++ l.drop j)[j]'(by omega) = l[j] := by
        rw [List.getElem_append_right (by simp [markL_length]; omega)]
        simp [markL_length, Nat.min_eq_left hj]
      have hv : Rd wr v l[j] fps[j] := by rw [hx] at hv0; exact hv0
      have hcnt := cntL_take_succ l j hlt
      have hle := cntL_take_le l (j + 1)
      have Hcnt := Lib.hid hcnt
      have Hs := Lib.hid (markL_set k l j hlt)
      have Hob := Lib.hid hob
      clear hcnt hv0 hx hjm hob
      go_wp2_with (go_at_call 37; refine (markInt64S_rd v l[j] _ (k + (cntL (l.take j) : Nat)) _ hv (hO.sub (fun b hb => List.mem_append_right _ (mem_flatten_get hjf hb))) (by omega) (by have := Hcnt.out; omega)).mono ?_; rintro e w1 ⟨rfl, hv1, ho1, hk1⟩)
      have hI1 := hI.touch (w' := w1) hnd (j := j) (b := b) (off := off) (cs := [v]) (x' := Mk.mark (k + (cntL (l.take j) : Nat)) l[j]) (by simp [markL_length]; omega) hjf rfl rfl
        (by intro i u hu; cases i with
            | zero => simp at hu; subst hu; simpa [Rp.size] using hc
            | succ i => simp at hu) hk1 hv1
      rw [Hs.out] at hI1
      have hK1 : Only (ob ++ fps.flatten) wr w1 := hk1.mono (fun b hb _ => List.mem_append_right _ (mem_flatten_get hjf hb))
      have hO1 : Own w1 (ob ++ fps.flatten) := by
        intro b hb
        by_cases hm : b ∈ fps[j]
        · exact ho1 b hm
        · rw [hk1.block b (hO.lt b hb) hm]; exact hO b hb
      have HI := Lib.hid hI1
      clear hI hI1
      go_roundw
      case rel => exact ⟨j + 1, by omega, by rw [Hcnt.out]; go_num, by go_num, HI.out, hO1, hK.trans hK1⟩
      case measure => simp [intOf]; omega
    · have hjl : j = l.length := by omega
      have hI' := hI
      rw [hjl] at hI'
      simp only [List.take_length, List.drop_length, List.append_nil] at hI'
      have Hj := Lib.hid hjl
      clear hI hjl
      go_wp2
      go_ret
      exact ⟨ret_int (by rw [Hj.out, List.take_length]), hI', hO, hK⟩

theorem markInt64SS_rd (v : Value) (l : List (List Int)) (fp : List Nat) (k : Int) (w : World) (h : Rd w v l fp) (hnd : fp.Nodup) (ho : Own w fp) (h0 : 0 ≤ k) (h1 : k + (Mk.cnt l : Nat) ≤ 4611686018427387904) :
    Calls Try.prog 29 #[v, .int .i64 k] w fun e w' => e = .returned (.int .i64 (k + (Mk.cnt l : Nat))) ∧ Rd w' v (Mk.mark k l) fp ∧ Own w' fp ∧ Only fp w w' := by
  obtain ⟨a, cap, ob, fps, rfl, rfl, hs⟩ := h.open_
  refine (markInt64SS_any a cap l ob fps k w hs hnd ho h0 h1).mono ?_
  rintro e w' ⟨he, hI', ho', hk⟩
  refine ⟨he, ?_, ho', hk⟩
  have := hI'.rd
  rw [markL_length] at this
  exact this

theorem Try.info22 : (Try.prog.info? 25).map (fun i => (i.zero, i.size, i.bytes)) = some (some (.slice none 0 0), 1, 24) := by kernel_rfl
theorem madeNils (n : Nat) : (madeCells (Value.cells (.slice none 0 0)) n).toList = List.replicate n (.slice none 0 0) := by
  apply List.ext_getElem (by simp [madeCells])
  intro i h1 h2
  simp [madeCells, Value.cells, Nat.mod_one]
theorem set_step (vs : List Value) (n j : Nat) (z v : Value) (h : j < n) (hv : vs.length = j) :
    (vs ++ List.replicate (n - j) z).set j v = (vs ++ [v]) ++ List.replicate (n - (j + 1)) z := by
  rw [List.set_append_right _ _ (by omega)]
  have h1 : j - vs.length = 0 := by omega
  have h2 : n - j = (n - (j + 1)) + 1 := by omega
  rw [h1, h2, List.replicate_succ]
  simp only [List.set, List.append_assoc, List.cons_append, List.nil_append]
theorem singles_flatten (vs : List Value) : (vs.map fun v => [v]).flatten = vs := by
  induction vs with
  | nil => rfl
  | cons v vs ih => simp [ih]

theorem owns_only {w w' : World} {base : Nat} {e : TypeId} {size : Nat} {v : Value} {n : Nat} {cs : List Value} {fp : List Nat} (h : w.ownsRow base e size v n cs) (ho : Only fp w w') (hn : ∀ g, v.ownBlock = some g → g ∉ fp) : w'.ownsRow base e size v n cs := by
  refine ⟨h.1, ?_⟩
  rcases h.2 with h0 | ⟨g, cp, cur, rfl, hb, hg, r⟩
  · exact .inl h0
  · exact .inr ⟨g, cp, cur, rfl, hb, by rw [ho.block g (Array.getElem?_eq_some_iff.1 hg).1 (hn g rfl)]; exact hg, r⟩
theorem owns_keep {w w' : World} {base : Nat} {e : TypeId} {size : Nat} {v : Value} {n : Nat} {cs : List Value} (h : w.ownsRow base e size v n cs) (ho : Only [] w w') : w'.ownsRow base e size v n cs :=
  owns_only h ho (by simp)

/-- the first elements of a list, read one by one -/
structure Reads {α : Type} [Rp α] (w : World) (B : Nat) (vs : List Value) (xs : List α) (fps : List (List Nat)) : Prop where
  vl : vs.length = xs.length
  fl : fps.length = xs.length
  at_ : ∀ k (h1 : k < vs.length) (h2 : k < xs.length) (h3 : k < fps.length), Rp.rep w [vs[k]] xs[k] fps[k]
  fresh : Fresh B w fps.flatten
section
variable {α : Type} [Rp α] {w w' : World} {B : Nat} {vs : List Value} {xs : List α} {fps : List (List Nat)}
theorem Reads.nil (w : World) (B : Nat) : Reads w B [] ([] : List α) [] := ⟨rfl, rfl, by simp, Fresh.nil _ _⟩
theorem Reads.only {fp : List Nat} (h : Reads w B vs xs fps) (ho : Only fp w w') (hd : ∀ b ∈ fp, b < B ∨ w.heap.size ≤ b) : Reads w' B vs xs fps :=
  ⟨h.vl, h.fl, fun k h1 h2 h3 => Rp.only (h.at_ k h1 h2 h3) ho (fun b hb hm => by
      have h4 := h.fresh.ge b (mem_flatten_get h3 hb); have h5 := h.fresh.lt b (mem_flatten_get h3 hb); have := hd b hm; omega),
    h.fresh.only ho (fun b hb hm => by have h4 := h.fresh.ge b hb; have h5 := h.fresh.lt b hb; have := hd b hm; omega)⟩
theorem Reads.snoc {v : Value} {x : α} {fp : List Nat} (h : Reads w B vs xs fps) (hv : Rd w v x fp) (hf : Fresh w'.heap.size w fp) (hB : B ≤ w'.heap.size) (hlt : ∀ b ∈ fps.flatten, b < w'.heap.size) :
    Reads w B (vs ++ [v]) (xs ++ [x]) (fps ++ [fp]) := by
  refine ⟨by simp [h.vl], by simp [h.fl], fun k h1 h2 h3 => ?_, ?_⟩
  · by_cases hk : k < xs.length
    · rw [List.getElem_append_left (by rw [h.vl]; exact hk), List.getElem_append_left hk, List.getElem_append_left (by rw [h.fl]; exact hk)]
      exact h.at_ k _ _ _
    · have : k = xs.length := by simp at h2; omega
      subst this
      rw [List.getElem_append_right (by rw [h.vl]; omega), List.getElem_append_right (by omega), List.getElem_append_right (by rw [h.fl]; omega)]
      simpa [h.vl, h.fl] using hv
  · rw [List.flatten_append]
    simp only [List.flatten_cons, List.flatten_nil, List.append_nil]
    exact h.fresh.append hf hB hlt
end

set_option maxHeartbeats 400000 in
theorem toInt64SS_any (a : Option Addr) (cap : Nat) (l : List (List Int)) (ob : List Nat) (fps : List (List Nat)) (w : World) (h : SeqA w a cap l ob fps) (hl : l.length ≤ 2097152) (hl2 : ∀ x ∈ l, x.length ≤ 2097152) :
    Calls Try.prog 23 #[.slice a l.length cap] w fun e w' => ∃ v fp', e = .returned v ∧ Rd w' v l fp' ∧ Fresh w.heap.size w' fp' ∧ Only [] w w' := by
  obtain ⟨i0, hi, hz0, hz1, hz2⟩ := info_parts Try.info22
  go_enter Try.func23, Try.ntmps23
  go_wp2_with (at_make; refine wpList_make_full _ rfl _ _ 22 rfl w.heap.size 25 i0 _ 1 Try.underlying22 hi hz0 hz1 _ _ _ _ l.length rfl rfl rfl rfl (by rw [hz2]; omega) (by unfold maxLen; omega) (Nat.le_refl _) ?_; intro w1 hown hg)
  rw [madeNils, Nat.mul_one] at hown
  have hs1 := hg.size
  have hgl := (hown.lt w.heap.size rfl).2
  go_loopw [4] (fun i wr => ∃ (j : Nat) (vs : List Value) (fs : List (List Nat)), j ≤ l.length ∧ i = .int .i64 j ∧ Reads wr (w.heap.size + 1) vs (l.take j) fs ∧
      wr.ownsRow w.heap.size 25 1 (.slice (some ⟨w.heap.size, 0, none⟩) l.length l.length) l.length (vs ++ List.replicate (l.length - j) (.slice none 0 0)) ∧ Only [] w wr ∧ w.heap.size + 1 ≤ wr.heap.size)
    (fun i _ => l.length - (intOf i).toNat)
  case atStart => exact ⟨0, [], [], Nat.zero_le _, rfl, Reads.nil _ _, by simpa using hown, (Only.refl _ _).grown hg (by simp), hgl⟩
  case round =>
    obtain ⟨j, vs, fs, hj, rfl, hR, hO, hK, hsz⟩ := hrel
    by_cases hlt : j < l.length
    · obtain ⟨b, off, v, rfl, -, hc0, hv0⟩ := h.atRow j hlt
      have hc := hK.cell (by simp) hc0
      have hv := Rp.keep hv0 hK
      have hlen := hl2 l[j] (List.getElem_mem _)
      have hvl := hR.vl
      have Hvl := Lib.hid hvl
      clear hg hgl hown hc0 hv0 hvl
      go_wp2_with (go_at_call 33; refine (toInt64S_rd v l[j] _ _ hv hlen).mono ?_; rintro e w2 ⟨v2, fp2, rfl, hv2, hF2, hK2⟩; have hq := hv2.open_; obtain ⟨a2, c2, _, _, rfl, -⟩ := hq; have hO2 := owns_keep hO hK2; have hc2 : w2.cell? ⟨w.heap.size, j, none⟩ = some (.slice none 0 0) := (by rw [hO2.cellAt j (by omega), List.getElem?_append_right (by have := Hvl.out; simp at this; omega), List.getElem?_replicate, if_pos (by have := Hvl.out; simp at this; omega)]); have hf2 := hO2.frozenAt j)
      obtain ⟨hO3, hg3⟩ := hO2.stored j (.slice a2 l[j].length c2)
      rw [set_step vs l.length j _ _ hlt (by have := Hvl.out; simp at this; omega)] at hO3
      have hK3 : Only [] w (w2.setCell ⟨w.heap.size, j, none⟩ (.slice a2 l[j].length c2)) := (hK.trans hK2).setCell (by simp) _
      have hK4 : Only [w.heap.size] w2 (w2.setCell ⟨w.heap.size, j, none⟩ (.slice a2 l[j].length c2)) := (Only.refl _ _).setCell (by simp) _
      have hR2 : Reads w2 (w.heap.size + 1) vs (l.take j) fs := hR.only hK2 (by simp)
      have hR3 := hR2.snoc (w' := wr) hv2 hF2 hsz (fun b hb => hR.fresh.lt b hb)
      rw [← take_succ_get l j hlt] at hR3
      have hR4 := hR3.only hK4 (by simp)
      have hs4 := hK2.size
      go_roundw
      case rel => exact ⟨j + 1, _, _, by omega, by go_num, hR4, hO3, hK3, by simp [World.setCell]; omega⟩
      case measure => simp [intOf]; omega
    · have hjl : j = l.length := by omega
      rw [hjl] at hO hR
      simp only [List.take_length, Nat.sub_self, List.replicate_zero, List.append_nil] at hO hR
      have hO' := hO
      rw [← singles_flatten vs] at hO'
      have hF := own_fresh hO
      obtain ⟨a', cap', hv, -, hI⟩ := own_seq (α := List Int) (xs := l) (fps := fs) hO' (Nat.one_pos) (by simp [hR.vl]) hR.fl (fun k h1 h2 h3 => by simpa using hR.at_ k (by simpa using h1) h2 h3)
      have HI := Lib.hid hI
      have Hv := Lib.hid hv
      have hF2 : Fresh w.heap.size wr ([w.heap.size] ++ fs.flatten) := hF.append hR.fresh (by omega) (by simp [Value.ownBlock])
      clear hjl hO hO' hv hown hI
      go_wp2
      go_ret
      refine ⟨_, _, rfl, ?_, hF2, hK⟩
      have hr := HI.out.rd
      rw [← Hv.out] at hr; exact hr
theorem toInt64SS_rd (v : Value) (l : List (List Int)) (fp : List Nat) (w : World) (h : Rd w v l fp) (hl : l.length ≤ 2097152) (hl2 : ∀ x ∈ l, x.length ≤ 2097152) :
    Calls Try.prog 23 #[v] w fun e w' => ∃ v fp', e = .returned v ∧ Rd w' v l fp' ∧ Fresh w.heap.size w' fp' ∧ Only [] w w' := by
  obtain ⟨a, cap, ob, fps, rfl, -, hs⟩ := h.open_
  exact toInt64SS_any a cap l ob fps w hs hl hl2

theorem nd_app {a b : List Nat} (h : (a ++ b).Nodup) : a.Nodup ∧ b.Nodup ∧ (∀ x ∈ a, x ∉ b) ∧ (∀ x ∈ b, x ∉ a) := by
  obtain ⟨h1, h2, h3⟩ := List.nodup_append.1 h
  exact ⟨h1, h2, fun x hx hb => h3 x hx x hb rfl, fun x hx ha => h3 x ha x hx rfl⟩
theorem Only.cells_eq {fp : List Nat} {w w' : World} (h : Only fp w w') (b : Nat) (hb : b < w.heap.size) (hn : b ∉ fp) : ∀ o, w'.cell? ⟨b, o, none⟩ = w.cell? ⟨b, o, none⟩ :=
  fun _ => World.cell?_of_block (h.block b hb hn)
theorem Only.frozen_eq {fp : List Nat} {w w' : World} (h : Only fp w w') (b : Nat) (hb : b < w.heap.size) (hn : b ∉ fp) : ∀ o, w'.frozen? ⟨b, o, none⟩ = w.frozen? ⟨b, o, none⟩ :=
  fun _ => World.frozen?_of_block (h.block b hb hn)

/-- no list in it is longer than 2^21 -/
class Sm (α : Type) where
  sm : α → Prop
instance : Sm Int := ⟨fun _ => True⟩
instance {α : Type} [Sm α] : Sm (List α) := ⟨fun l => l.length ≤ 2097152 ∧ ∀ x ∈ l, Sm.sm x⟩
theorem szL_mem {α : Type} [Sz α] {l : List α} {x : α} (h : x ∈ l) : Sz.sz x ≤ szL l := by
  induction l with
  | nil => cases h
  | cons y l ih =>
    simp only [szL]
    cases List.mem_cons.1 h with
    | inl e => subst e; omega
    | inr e => have := ih e; omega
class SzSm (α : Type) [Sz α] [Sm α] : Prop where
  of_ : ∀ x : α, Sz.sz x ≤ 2097152 → Sm.sm x
instance : SzSm Int := ⟨fun _ _ => trivial⟩
instance {α : Type} [Sz α] [Sm α] [SzSm α] : SzSm (List α) := ⟨fun l h => by
  have h' : l.length + szL l ≤ 2097152 := h
  exact ⟨by omega, fun x hx => SzSm.of_ x (by have := szL_mem hx; omega)⟩⟩

theorem toInt64S_sm (v : Value) (l : List Int) (fp : List Nat) (w : World) (h : Rd w v l fp) (hl : Sm.sm l) :
    Calls Try.prog 33 #[v] w fun e w' => ∃ v fp', e = .returned v ∧ Rd w' v l fp' ∧ Fresh w.heap.size w' fp' ∧ Only [] w w' := toInt64S_rd v l fp w h hl.1
theorem toInt64SS_sm (v : Value) (l : List (List Int)) (fp : List Nat) (w : World) (h : Rd w v l fp) (hl : Sm.sm l) :
    Calls Try.prog 23 #[v] w fun e w' => ∃ v fp', e = .returned v ∧ Rd w' v l fp' ∧ Fresh w.heap.size w' fp' ∧ Only [] w w' := toInt64SS_rd v l fp w h hl.1 (fun x hx => (hl.2 x hx).1)

end Go.Proofs.Ytpfmkjcngknecaa
