/- The laws' own helpers on slices of slices of int64: held, eq, mark, to, sz. Laws on append and make over rows of the call's own, whatever the source (nil, empty or not). Ranges, words: the program's and the reference's tests on them. A slice that a loop appends to: its value, the elements so far, the memory they reach. Small values in memory: the empty slice, a literal of one element, a number; slices.Clone. IsPermutation: the reference's and the program's. -/
import Derived.Test.YtpcamkmoabhlhaaRowCountMembersOfTypeG1
import Derived.Maps.AppendAt
import Derived.Lib.SlBytesConst
namespace Go.Proofs.Ytpcamkmoabhlhaa
open Go.RowKit
set_option maxRecDepth 10000


theorem eqInt64S_rd (v v' : Value) (l l' : List Int) (fp fp' : List Nat) (w : World) (h : Rd w v l fp) (h' : Rd w v' l' fp') :
    Calls Try.prog 12 #[v, v'] w fun e w' => e = .returned (.bool (eqV l l')) ∧ Drew w w' := by
  obtain ⟨a, cap, rfl, hI⟩ := h.ints
  obtain ⟨a', cap', rfl, hI'⟩ := h'.ints
  exact eqInt64S_any a a' cap cap' l l' fp fp' w hI hI'

theorem toInt64S_rd (v : Value) (l : List Int) (fp : List Nat) (w : World) (h : Rd w v l fp) (hl : l.length ≤ 2097152) :
    Calls Try.prog 9 #[v] w fun e w' => ∃ v fp', e = .returned v ∧ Rd w' v l fp' ∧ Fresh w.heap.size w' fp' ∧ Only [] w w' := by
  obtain ⟨a, cap, rfl, hI⟩ := h.ints
  exact toInt64S_any a cap l fp w hI hl

class Sz (α : Type) where
  sz : α → Nat
instance : Sz Int := ⟨fun _ => 0⟩
def szL {α : Type} [Sz α] : List α → Nat
  | [] => 0
  | x :: xs => Sz.sz x + szL xs
instance {α : Type} [Sz α] : Sz (List α) := ⟨fun l => l.length + szL l⟩
/-- what the laws' 'sz' functions answer -/
def szV {α : Type} [Sz α] (left : Int) (x : α) : Int := if (Sz.sz x : Int) ≤ left then left - (Sz.sz x : Nat) else -1
theorem szL_ints (l : List Int) : szL l = 0 := by
  induction l with
  | nil => rfl
  | cons x l ih => simp [szL, ih, Sz.sz]
theorem szL_append {α : Type} [Sz α] (l l' : List α) : szL (l ++ l') = szL l + szL l' := by
  induction l with
  | nil => simp [szL]
  | cons x l ih => simp [szL, ih]; omega
theorem szL_take_succ {α : Type} [Sz α] (l : List α) (j : Nat) (h : j < l.length) : szL (l.take (j + 1)) = szL (l.take j) + Sz.sz l[j] := by
  rw [take_succ_get l j h, szL_append]; simp [szL]
theorem szL_take_le {α : Type} [Sz α] (l : List α) (j : Nat) : szL (l.take j) ≤ szL l := by
  have h : szL (l.take j ++ l.drop j) = szL (l.take j) + szL (l.drop j) := szL_append _ _
  rw [List.take_append_drop] at h; omega
theorem szV_cases {α : Type} [Sz α] (left : Int) (x : α) : (szV left x = -1 ∧ left < (Sz.sz x : Nat)) ∨ (szV left x = left - (Sz.sz x : Nat) ∧ 0 ≤ szV left x ∧ (Sz.sz x : Int) ≤ left) := by
  unfold szV; split
  · right; omega
  · left; omega
theorem szV_no {α : Type} [Sz α] {left : Int} {x : α} (h : left < (Sz.sz x : Nat)) : szV left x = -1 := by unfold szV; rw [if_neg (by omega)]
theorem szV_yes {α : Type} [Sz α] {left : Int} {x : α} (h : (Sz.sz x : Int) ≤ left) : szV left x = left - (Sz.sz x : Nat) := by unfold szV; rw [if_pos h]

set_option maxHeartbeats 400000 in
theorem szInt64S_rd (v : Value) (l : List Int) (fp : List Nat) (k : Int) (w : World) (h : Rd w v l fp) (h0 : 0 ≤ k) (h1 : k ≤ 2147483648) :
    Calls Try.prog 26 #[v, .int .i64 k] w fun e w' => e = .returned (.int .i64 (szV k l)) ∧ Drew w w' := by
  obtain ⟨a, cap, rfl, hI⟩ := h.ints
  have hb := hI.bound
  have hs : Sz.sz l = l.length := by simp [Sz.sz, szL_ints]
  have Hs := Lib.hid hs; clear hs
  by_cases hlt : k - l.length < 0
  · go_enter Try.func26, Try.ntmps26
    go_wp2
    go_ret
    exact ⟨ret_int (szV_no (by have := Hs.out; omega)).symm, Drew.refl _⟩
  · go_enter Try.func26, Try.ntmps26
    go_wp2
    go_ret
    exact ⟨ret_int (by rw [szV_yes (by have := Hs.out; omega), Hs.out]), Drew.refl _⟩

section
variable {α : Type} [Rp α] {w : World} {a : Option Addr} {cap : Nat} {xs : List (List α)} {ob : List Nat} {fps : List (List Nat)}
/-- an element of a slice of slices -/
theorem SeqA.atRow (h : SeqA w a cap xs ob fps) (k : Nat) (hk : k < xs.length) :
    ∃ b off v, a = some ⟨b, off, none⟩ ∧ ob = [b] ∧ w.cell? ⟨b, off + k, none⟩ = some v ∧ Rd w v xs[k] (fps[k]'(by rw [h.nf]; exact hk)) := by
  obtain ⟨b, off, cs, ha, hob, hc, hr⟩ := h.at_ k hk
  have hl := Rp.len hr
  match cs, hl with
  | [v], _ => exact ⟨b, off, v, ha, hob, by have := hc 0 v rfl; simpa [Rp.size] using this, hr⟩
end
theorem quiet_drewN {P : Program} {f : FuncId} {args : Array Value} {w : World} {a n : Nat} {v : Value}
    (h : Calls P f args (w.drewN (a + n)) fun e w' => e = .returned v ∧ Drew (w.drewN (a + n)) w') :
    Calls P f args (w.drewN (a + n)) fun e w'' => e = .returned v ∧ ∃ m, w'' = w.drewN (a + m) :=
  h.mono fun _ _ ⟨he, m, hm⟩ => ⟨he, n + m, by rw [hm, World.drewN_drewN, Nat.add_assoc]⟩

set_option maxHeartbeats 400000 in
theorem eqInt64SS_any (a a' : Option Addr) (cap cap' : Nat) (l l' : List (List Int)) (ob ob' : List Nat) (fps fps' : List (List Nat)) (w : World) (h : SeqA w a cap l ob fps) (h' : SeqA w a' cap' l' ob' fps') :
    Calls Try.prog 11 #[.slice a l.length cap, .slice a' l'.length cap'] w fun e w' => e = .returned (.bool (eqV l l')) ∧ Drew w w' := by
  have hb := h.bound
  have hb' := h'.bound
  by_cases hl : l.length = l'.length
  · have hne : ((l.length : Int) != (l'.length : Int)) = false := by simp [hl]
    have Hl := Lib.hid hl; clear hl
    go_enter Try.func11, Try.ntmps11
    go_wp2
    go_loopw [5] (fun i wr => ∃ j : Nat, j ≤ l.length ∧ i = .int .i64 j ∧ l.take j = l'.take j ∧ Drew w wr)
      (fun i _ => l.length - (intOf i).toNat)
    case atStart => exact ⟨0, Nat.zero_le _, rfl, rfl, Drew.refl _⟩
    case round =>
      obtain ⟨j, hj, rfl, hr, n, rfl⟩ := hrel
      have Hr := Lib.hid hr; clear hr
      by_cases hlt : j < l.length
      · have hlt' : j < l'.length := by have := Hl.out; omega
        obtain ⟨b, off, v, rfl, -, hc, hv⟩ := h.atRow j hlt
        obtain ⟨b', off', v', rfl, -, hc', hv'⟩ := h'.atRow j hlt'
        rcases hq : eqV l[j] l'[j]
        all_goals go_wp2
        all_goals go_quiet ((go_at_call 12; exact quiet_drewN (eqInt64S_rd v v' l[j] l'[j] _ _ _ (Rp.keep hv (Only.ofDrewN _ _ _)) (Rp.keep hv' (Only.ofDrewN _ _ _)))))
        all_goals go_wp2
        · go_ret
          exact ⟨ret_bool (eqL_no hlt hlt' hq).symm, ((Drew.refl _).drewN _).drewN _⟩
        · go_roundw
          case rel => exact ⟨j + 1, by omega, by go_num, eqL_step hlt hlt' hq Hr.out, ⟨_, rfl⟩⟩
          case measure => simp [intOf]; omega
      · go_wp2
        go_ret
        exact ⟨ret_bool (eqL_yes Hl.out hlt Hr.out).symm, (Drew.refl _).drewN n⟩
  · have hne : ((l.length : Int) != (l'.length : Int)) = true := by simp; omega
    go_enter Try.func11, Try.ntmps11
    go_wp2
    go_ret
    exact ⟨ret_bool (eqL_len hne).symm, Drew.refl _⟩
theorem eqInt64SS_rd (v v' : Value) (l l' : List (List Int)) (fp fp' : List Nat) (w : World) (h : Rd w v l fp) (h' : Rd w v' l' fp') :
    Calls Try.prog 11 #[v, v'] w fun e w' => e = .returned (.bool (eqV l l')) ∧ Drew w w' := by
  obtain ⟨a, cap, ob, fps, rfl, -, hs⟩ := h.open_
  obtain ⟨a', cap', ob', fps', rfl, -, hs'⟩ := h'.open_
  exact eqInt64SS_any a a' cap cap' l l' ob ob' fps fps' w hs hs'

set_option maxHeartbeats 400000 in
theorem szInt64SS_any (a : Option Addr) (cap : Nat) (l : List (List Int)) (ob : List Nat) (fps : List (List Nat)) (k : Int) (w : World) (h : SeqA w a cap l ob fps) (h0 : 0 ≤ k) (h1 : k ≤ 2147483648) :
    Calls Try.prog 6 #[.slice a l.length cap, .int .i64 k] w fun e w' => e = .returned (.int .i64 (szV k l)) ∧ Drew w w' := by
  have hb := h.bound
  have hs : Sz.sz l = l.length + szL l := rfl
  have Hs := Lib.hid hs; clear hs
  by_cases hneg : k - l.length < 0
  · go_enter Try.func6, Try.ntmps6
    go_wp2
    go_ret
    exact ⟨ret_int (szV_no (by have := Hs.out; omega)).symm, Drew.refl _⟩
  · go_enter Try.func6, Try.ntmps6
    go_wp2
    go_loopw [1, 5] (fun q i wr => ∃ j : Nat, j ≤ l.length ∧ q = .int .i64 (k - l.length - (szL (l.take j) : Nat)) ∧ i = .int .i64 j ∧ (l.length + szL (l.take j) : Int) ≤ k ∧ Drew w wr)
      (fun _ i _ => l.length - (intOf i).toNat)
    case atStart => exact ⟨0, Nat.zero_le _, by simp [szL], rfl, by simp [szL]; omega, Drew.refl _⟩
    case round =>
      obtain ⟨j, hj, rfl, rfl, hr, n, rfl⟩ := hrel
      by_cases hlt : j < l.length
      · obtain ⟨b, off, v, rfl, -, hc, hv⟩ := h.atRow j hlt
        have hcnt := szL_take_succ l j hlt
        have hle := szL_take_le l (j + 1)
        have Hcnt := Lib.hid hcnt
        clear hcnt
        rcases szV_cases (k - l.length - (szL (l.take j) : Nat)) l[j] with ⟨he, hm⟩ | ⟨he, hp, hm⟩
        all_goals go_wp2_with (go_at_call 26; refine (szInt64S_rd v l[j] _ (k - l.length - (szL (l.take j) : Nat)) _ (Rp.keep hv (Only.ofDrewN _ _ _)) (by omega) (by omega)).mono ?_; rintro e w1 ⟨rfl, n1, rfl⟩)
        · go_ret
          exact ⟨ret_int (szV_no (by have := Hs.out; have := Hcnt.out; omega)).symm, ⟨_, rfl⟩⟩
        · go_roundw
          case rel => exact ⟨j + 1, by omega, by rw [Hcnt.out]; go_num, by go_num, by rw [Hcnt.out]; omega, ⟨_, rfl⟩⟩
          case measure => simp [intOf]; omega
      · have Hj : Hid (j = l.length) := (by omega : j = l.length)
        go_wp2
        go_ret
        have hjl := Hj.out
        subst hjl
        refine ⟨ret_int ?_, (Drew.refl _).drewN n⟩
        rw [List.take_length] at hr ⊢
        rw [szV_yes (by have := Hs.out; omega), Hs.out]
        omega
theorem szInt64SS_rd (v : Value) (l : List (List Int)) (fp : List Nat) (k : Int) (w : World) (h : Rd w v l fp) (h0 : 0 ≤ k) (h1 : k ≤ 2147483648) :
    Calls Try.prog 6 #[v, .int .i64 k] w fun e w' => e = .returned (.int .i64 (szV k l)) ∧ Drew w w' := by
  obtain ⟨a, cap, ob, fps, rfl, -, hs⟩ := h.open_
  exact szInt64SS_any a cap l ob fps k w hs h0 h1

section
variable {α : Type} [Rp α] {w w' : World} {a : Option Addr} {cap : Nat} {xs : List α} {ob : List Nat} {fps : List (List Nat)}
theorem mem_flatten_get {fps : List (List Nat)} {j : Nat} (hj : j < fps.length) {b : Nat} (hb : b ∈ fps[j]) : b ∈ fps.flatten := List.mem_flatten.2 ⟨_, List.getElem_mem _, hb⟩
theorem flatten_at {s : Nat} (css : List (List Value)) (h : ∀ c ∈ css, c.length = s) (k j : Nat) (hj : j < s) (hk : k < css.length) : css.flatten[k * s + j]? = (css[k])[j]? := by
  induction css generalizing k with
  | nil => simp at hk
  | cons c css ih =>
    have hc := h c (by simp)
    cases k with
    | zero => simp [List.getElem?_append, hc, hj]
    | succ k =>
      rw [List.flatten_cons, List.getElem?_append_right (by rw [hc, Nat.succ_mul]; omega)]
      have : (k + 1) * s + j - c.length = k * s + j := by rw [hc, Nat.succ_mul]; omega
      rw [this, ih (fun c' hc' => h c' (by simp [hc'])) k (by simpa using hk)]
      simp
/-- a row of the call's own whose elements read as xs -/
theorem own_seq {base : Nat} {e : TypeId} {v : Value} {n : Nat} {css : List (List Value)} (h : w.ownsRow base e (Rp.size α) v n css.flatten) (hs : 0 < Rp.size α)
    (hl : css.length = xs.length) (hf : fps.length = xs.length) (hr : ∀ k (h1 : k < css.length) (h2 : k < xs.length) (h3 : k < fps.length), Rp.rep w css[k] xs[k] fps[k]) :
    ∃ a cap, v = .slice a xs.length cap ∧ n = xs.length ∧ SeqA w a cap xs v.ownBlock.toList fps := by
  have hcl : ∀ c ∈ css, c.length = Rp.size α := by
    intro c hc
    obtain ⟨k, hk, rfl⟩ := List.getElem_of_mem hc
    exact Rp.len (hr k hk (by omega) (by omega))
  obtain ⟨h1, h2⟩ := h
  have hlen : css.flatten.length = css.length * Rp.size α := by
    clear h1 h2 hl hr
    induction css with
    | nil => simp
    | cons c css ih => rw [List.flatten_cons, List.length_append, hcl c (by simp), ih (fun c' hc' => hcl c' (by simp [hc'])), List.length_cons, Nat.succ_mul]; omega
  have hn : n = xs.length := by
    rw [hlen, hl] at h1
    exact (Nat.eq_of_mul_eq_mul_right hs h1).symm
  subst hn
  rcases h2 with ⟨rfl, h0⟩ | ⟨g, cp, cur, rfl, hb, hg, hnc, hcm, hcs, htake⟩
  · have : xs = [] := List.eq_nil_of_length_eq_zero h0
    subst this
    have : fps = [] := List.eq_nil_of_length_eq_zero hf
    subst this
    exact ⟨none, 0, rfl, rfl, SeqA.nil w none (by simp [maxLen])⟩
  · refine ⟨some ⟨g, 0, none⟩, cp, rfl, rfl, ⟨hnc, hcm, hf, fun k hk => ⟨g, 0, css[k], rfl, rfl, fun j u hu => ?_, hr k (by omega) hk (by omega)⟩, ?_, by simp [Value.ownBlock]⟩⟩
    · have hj : j < Rp.size α := by
        rw [← hcl _ (List.getElem_mem (by omega : k < css.length))]
        exact (List.getElem?_eq_some_iff.1 hu).1
      have hh := flatten_at css hcl k j hj (by omega)
      rw [hu, ← htake, List.getElem?_take] at hh
      split at hh
      · rw [cell_of_row w g _ cur e (0, 0) hg]
        simpa using hh
      · cases hh
    · intro b hb'
      simp [Value.ownBlock] at hb'; subst hb'
      exact (Array.getElem?_eq_some_iff.1 hg).1
theorem own_fresh {base : Nat} {e : TypeId} {size : Nat} {v : Value} {n : Nat} {cs : List Value} (h : w.ownsRow base e size v n cs) : Fresh base w v.ownBlock.toList := by
  rcases h.2 with ⟨rfl, h0⟩ | ⟨g, cp, cur, rfl, hb, hg, _⟩
  · exact Fresh.nil _ _
  · exact ⟨by simp [Value.ownBlock], by simpa [Value.ownBlock] using hb, by intro b hb'; simp [Value.ownBlock] at hb'; subst hb'; exact ⟨_, _, hg⟩⟩
end


theorem Try.info22 : (Try.prog.info? 23).map (fun i => (i.zero, i.size, i.bytes)) = some (some (.slice none 0 0), 1, 24) := by kernel_rfl
theorem madeNils (n : Nat) : (madeCells (Value.cells (.slice none 0 0)) n).toList = List.replicate n (.slice none 0 0) := by
  apply List.ext_getElem (by simp [madeCells])
  intro i h1 h2
  simp [madeCells, Value.cells, Nat.mod_one]
theorem set_step (vs : List Value) (n j : Nat) (z v : Value) (h : j < n) (hv : vs.length = j) :
    (vs ++ List.replicate (n - j) z).set j v = (vs ++ [v]) ++ List.replicate (n - (j + 1)) z := by
  rw [List.set_append_right _ _ (by omega)]
  have h1 : j - vs.length = 0 := by omega
  have h2 : n - j = (n - (j + 1)) + 1 := by omega
  rw [h1, h2, List.replicate_succ]
  simp only [List.set, List.append_assoc, List.cons_append, List.nil_append]
theorem singles_flatten (vs : List Value) : (vs.map fun v => [v]).flatten = vs := by
  induction vs with
  | nil => rfl
  | cons v vs ih => simp [ih]

theorem owns_only {w w' : World} {base : Nat} {e : TypeId} {size : Nat} {v : Value} {n : Nat} {cs : List Value} {fp : List Nat} (h : w.ownsRow base e size v n cs) (ho : Only fp w w') (hn : ∀ g, v.ownBlock = some g → g ∉ fp) : w'.ownsRow base e size v n cs := by
  refine ⟨h.1, ?_⟩
  rcases h.2 with h0 | ⟨g, cp, cur, rfl, hb, hg, r⟩
  · exact .inl h0
  · exact .inr ⟨g, cp, cur, rfl, hb, by rw [ho.block g (Array.getElem?_eq_some_iff.1 hg).1 (hn g rfl)]; exact hg, r⟩
theorem owns_keep {w w' : World} {base : Nat} {e : TypeId} {size : Nat} {v : Value} {n : Nat} {cs : List Value} (h : w.ownsRow base e size v n cs) (ho : Only [] w w') : w'.ownsRow base e size v n cs :=
  owns_only h ho (by simp)

/-- the first elements of a list, read one by one -/
structure Reads {α : Type} [Rp α] (w : World) (B : Nat) (vs : List Value) (xs : List α) (fps : List (List Nat)) : Prop where
  vl : vs.length = xs.length
  fl : fps.length = xs.length
  at_ : ∀ k (h1 : k < vs.length) (h2 : k < xs.length) (h3 : k < fps.length), Rp.rep w [vs[k]] xs[k] fps[k]
  fresh : Fresh B w fps.flatten
section
variable {α : Type} [Rp α] {w w' : World} {B : Nat} {vs : List Value} {xs : List α} {fps : List (List Nat)}
theorem Reads.nil (w : World) (B : Nat) : Reads w B [] ([] : List α) [] := ⟨rfl, rfl, by simp, Fresh.nil _ _⟩
theorem Reads.only {fp : List Nat} (h : Reads w B vs xs fps) (ho : Only fp w w') (hd : ∀ b ∈ fp, b < B ∨ w.heap.size ≤ b) : Reads w' B vs xs fps :=
  ⟨h.vl, h.fl, fun k h1 h2 h3 => Rp.only (h.at_ k h1 h2 h3) ho (fun b hb hm => by
      have h4 := h.fresh.ge b (mem_flatten_get h3 hb); have h5 := h.fresh.lt b (mem_flatten_get h3 hb); have := hd b hm; omega),
    h.fresh.only ho (fun b hb hm => by have h4 := h.fresh.ge b hb; have h5 := h.fresh.lt b hb; have := hd b hm; omega)⟩
theorem Reads.snoc {v : Value} {x : α} {fp : List Nat} (h : Reads w B vs xs fps) (hv : Rd w v x fp) (hf : Fresh w'.heap.size w fp) (hB : B ≤ w'.heap.size) (hlt : ∀ b ∈ fps.flatten, b < w'.heap.size) :
    Reads w B (vs ++ [v]) (xs ++ [x]) (fps ++ [fp]) := by
  refine ⟨by simp [h.vl], by simp [h.fl], fun k h1 h2 h3 => ?_, ?_⟩
  · by_cases hk : k < xs.length
    · rw [List.getElem_append_left (by rw [h.vl]; exact hk), List.getElem_append_left hk, List.getElem_append_left (by rw [h.fl]; exact hk)]
      exact h.at_ k _ _ _
    · have : k = xs.length := by simp at h2; omega
      subst this
      rw [List.getElem_append_right (by rw [h.vl]; omega), List.getElem_append_right (by omega), List.getElem_append_right (by rw [h.fl]; omega)]
      simpa [h.vl, h.fl] using hv
  · rw [List.flatten_append]
    simp only [List.flatten_cons, List.flatten_nil, List.append_nil]
    exact h.fresh.append hf hB hlt
end

set_option maxHeartbeats 400000 in
theorem toInt64SS_any (a : Option Addr) (cap : Nat) (l : List (List Int)) (ob : List Nat) (fps : List (List Nat)) (w : World) (h : SeqA w a cap l ob fps) (hl : l.length ≤ 2097152) (hl2 : ∀ x ∈ l, x.length ≤ 2097152) :
    Calls Try.prog 8 #[.slice a l.length cap] w fun e w' => ∃ v fp', e = .returned v ∧ Rd w' v l fp' ∧ Fresh w.heap.size w' fp' ∧ Only [] w w' := by
  obtain ⟨i0, hi, hz0, hz1, hz2⟩ := info_parts Try.info22
  go_enter Try.func8, Try.ntmps8
  go_wp2_with (at_make; refine wpList_make_full _ rfl _ _ 22 rfl w.heap.size 23 i0 _ 1 Try.underlying22 hi hz0 hz1 _ _ _ _ l.length rfl rfl rfl rfl (by rw [hz2]; omega) (by unfold maxLen; omega) (Nat.le_refl _) ?_; intro w1 hown hg)
  rw [madeNils, Nat.mul_one] at hown
  have hs1 := hg.size
  have hgl := (hown.lt w.heap.size rfl).2
  go_loopw [4] (fun i wr => ∃ (j : Nat) (vs : List Value) (fs : List (List Nat)), j ≤ l.length ∧ i = .int .i64 j ∧ Reads wr (w.heap.size + 1) vs (l.take j) fs ∧
      wr.ownsRow w.heap.size 23 1 (.slice (some ⟨w.heap.size, 0, none⟩) l.length l.length) l.length (vs ++ List.replicate (l.length - j) (.slice none 0 0)) ∧ Only [] w wr ∧ w.heap.size + 1 ≤ wr.heap.size)
    (fun i _ => l.length - (intOf i).toNat)
  case atStart => exact ⟨0, [], [], Nat.zero_le _, rfl, Reads.nil _ _, by simpa using hown, (Only.refl _ _).grown hg (by simp), hgl⟩
  case round =>
    obtain ⟨j, vs, fs, hj, rfl, hR, hO, hK, hsz⟩ := hrel
    by_cases hlt : j < l.length
    · obtain ⟨b, off, v, rfl, -, hc0, hv0⟩ := h.atRow j hlt
      have hc := hK.cell (by simp) hc0
      have hv := Rp.keep hv0 hK
      have hlen := hl2 l[j] (List.getElem_mem _)
      have hvl := hR.vl
      have Hvl := Lib.hid hvl
      clear hg hgl hown hc0 hv0 hvl
      go_wp2_with (go_at_call 9; refine (toInt64S_rd v l[j] _ _ hv hlen).mono ?_; rintro e w2 ⟨v2, fp2, rfl, hv2, hF2, hK2⟩; have hq := hv2.open_; obtain ⟨a2, c2, _, _, rfl, -⟩ := hq; have hO2 := owns_keep hO hK2; have hc2 : w2.cell? ⟨w.heap.size, j, none⟩ = some (.slice none 0 0) := (by rw [hO2.cellAt j (by omega), List.getElem?_append_right (by have := Hvl.out; simp at this; omega), List.getElem?_replicate, if_pos (by have := Hvl.out; simp at this; omega)]); have hf2 := hO2.frozenAt j)
      obtain ⟨hO3, hg3⟩ := hO2.stored j (.slice a2 l[j].length c2)
      rw [set_step vs l.length j _ _ hlt (by have := Hvl.out; simp at this; omega)] at hO3
      have hK3 : Only [] w (w2.setCell ⟨w.heap.size, j, none⟩ (.slice a2 l[j].length c2)) := (hK.trans hK2).setCell (by simp) _
      have hK4 : Only [w.heap.size] w2 (w2.setCell ⟨w.heap.size, j, none⟩ (.slice a2 l[j].length c2)) := (Only.refl _ _).setCell (by simp) _
      have hR2 : Reads w2 (w.heap.size + 1) vs (l.take j) fs := hR.only hK2 (by simp)
      have hR3 := hR2.snoc (w' := wr) hv2 hF2 hsz (fun b hb => hR.fresh.lt b hb)
      rw [← take_succ_get l j hlt] at hR3
      have hR4 := hR3.only hK4 (by simp)
      have hs4 := hK2.size
      go_roundw
      case rel => exact ⟨j + 1, _, _, by omega, by go_num, hR4, hO3, hK3, by simp [World.setCell]; omega⟩
      case measure => simp [intOf]; omega
    · have hjl : j = l.length := by omega
      rw [hjl] at hO hR
      simp only [List.take_length, Nat.sub_self, List.replicate_zero, List.append_nil] at hO hR
      have hO' := hO
      rw [← singles_flatten vs] at hO'
      have hF := own_fresh hO
      obtain ⟨a', cap', hv, -, hI⟩ := own_seq (α := List Int) (xs := l) (fps := fs) hO' (Nat.one_pos) (by simp [hR.vl]) hR.fl (fun k h1 h2 h3 => by simpa using hR.at_ k (by simpa using h1) h2 h3)
      have HI := Lib.hid hI
      have Hv := Lib.hid hv
      have hF2 : Fresh w.heap.size wr ([w.heap.size] ++ fs.flatten) := hF.append hR.fresh (by omega) (by simp [Value.ownBlock])
      clear hjl hO hO' hv hown hI
      go_wp2
      go_ret
      refine ⟨_, _, rfl, ?_, hF2, hK⟩
      have hr := HI.out.rd
      rw [← Hv.out] at hr; exact hr
theorem toInt64SS_rd (v : Value) (l : List (List Int)) (fp : List Nat) (w : World) (h : Rd w v l fp) (hl : l.length ≤ 2097152) (hl2 : ∀ x ∈ l, x.length ≤ 2097152) :
    Calls Try.prog 8 #[v] w fun e w' => ∃ v fp', e = .returned v ∧ Rd w' v l fp' ∧ Fresh w.heap.size w' fp' ∧ Only [] w w' := by
  obtain ⟨a, cap, ob, fps, rfl, -, hs⟩ := h.open_
  exact toInt64SS_any a cap l ob fps w hs hl hl2

/-- no list in it is longer than 2^21 -/
class Sm (α : Type) where
  sm : α → Prop
instance : Sm Int := ⟨fun _ => True⟩
instance {α : Type} [Sm α] : Sm (List α) := ⟨fun l => l.length ≤ 2097152 ∧ ∀ x ∈ l, Sm.sm x⟩
theorem szL_mem {α : Type} [Sz α] {l : List α} {x : α} (h : x ∈ l) : Sz.sz x ≤ szL l := by
  induction l with
  | nil => cases h
  | cons y l ih =>
    simp only [szL]
    cases List.mem_cons.1 h with
    | inl e => subst e; omega
    | inr e => have := ih e; omega
class SzSm (α : Type) [Sz α] [Sm α] : Prop where
  of_ : ∀ x : α, Sz.sz x ≤ 2097152 → Sm.sm x
instance : SzSm Int := ⟨fun _ _ => trivial⟩
instance {α : Type} [Sz α] [Sm α] [SzSm α] : SzSm (List α) := ⟨fun l h => by
  have h' : l.length + szL l ≤ 2097152 := h
  exact ⟨by omega, fun x hx => SzSm.of_ x (by have := szL_mem hx; omega)⟩⟩

theorem toInt64S_sm (v : Value) (l : List Int) (fp : List Nat) (w : World) (h : Rd w v l fp) (hl : Sm.sm l) :
    Calls Try.prog 9 #[v] w fun e w' => ∃ v fp', e = .returned v ∧ Rd w' v l fp' ∧ Fresh w.heap.size w' fp' ∧ Only [] w w' := toInt64S_rd v l fp w h hl.1
theorem toInt64SS_sm (v : Value) (l : List (List Int)) (fp : List Nat) (w : World) (h : Rd w v l fp) (hl : Sm.sm l) :
    Calls Try.prog 8 #[v] w fun e w' => ∃ v fp', e = .returned v ∧ Rd w' v l fp' ∧ Fresh w.heap.size w' fp' ∧ Only [] w w' := toInt64SS_rd v l fp w h hl.1 (fun x hx => (hl.2 x hx).1)

end Go.Proofs.Ytpcamkmoabhlhaa

namespace Go.Proofs.Ytpcamkmoabhlhaa
open Go.RowKit
set_option maxRecDepth 10000

section
variable {P : Program} (w : World)
theorem run_app_none (base : Nat) (t ty e : TypeId) (i : TypeInfo) (size : Nat) (ht : P.underlying t = some (.slice e)) (hi : P.info? e = some i)
    (v : Value) (n : Nat) (xs : List Value) (hown : w.ownsRow base e size v n xs) (c : Nat) : (Builtin.append_ #[t, t] ty #[v, .slice none 0 c]).run P w = .ok v w := by
  rcases hown.2 with ⟨rfl, rfl⟩ | ⟨g, cap, cur, rfl, _, _, hnc, _⟩
  · simp [Builtin.append_, run_underlying ht, sizeOf, typeInfo, hi, Builtin.lenOf, Builtin.firstCells]
  · simp [Builtin.append_, run_underlying ht, sizeOf, typeInfo, hi, Builtin.lenOf, Builtin.firstCells, hnc, storeCells]

theorem run_app (base : Nat) (t ty e : TypeId) (i : TypeInfo) (z : Value) (size bytes : Nat) (ht : P.underlying t = some (.slice e)) (hi : P.info? e = some i) (hz : i.zero = some z)
    (hsize : i.size = size) (hby : i.bytes = bytes) (hzs : z.cells.size = size) (hsz : 0 < size)
    (v : Value) (n : Nat) (xs : List Value) (hown : w.ownsRow base e size v n xs)
    (A : Option Addr) (m c : Nat) (news : List Value) (hl : news.length = m * size) (hsrc : ∀ ad, A = some ad → ∀ j u, news[j]? = some u → w.cell? (ad.add j) = some u) (hA : A = none → m = 0) (h1 : ∀ u ∈ news, u.oneCell' = true)
    (h63 : n + m ≤ maxLen) (hbytes : (n + m) * bytes ≤ 140737488355328) (hbase : base ≤ w.heap.size) :
    ∃ v' w', (Builtin.append_ #[t, t] ty #[v, .slice A m c]).run P w = .ok v' w' ∧ w'.ownsRow base e size v' (n + m) (xs ++ news) ∧ w.grownBy w' v.ownBlock ∧
      (v'.ownBlock = v.ownBlock ∨ v'.ownBlock = some w.heap.size) := by
  rcases A with _ | ad
  · have hm := hA rfl
    subst hm
    have hn : news = [] := List.eq_nil_of_length_eq_zero (by simpa using hl)
    subst hn
    exact ⟨v, w, run_app_none w base t ty e i size ht hi v n xs hown c, by simpa using hown, ⟨rfl, rfl, rfl, Nat.le_refl _, fun _ _ _ => rfl⟩, .inl rfl⟩
  · obtain ⟨v', w', hrun, h2, h3, _, h5⟩ := run_append_own_at (P := P) w base t ty e i z size bytes ht hi hz hsize hby hzs hsz v n xs hown ad m c news hl (hsrc ad rfl) h1 h63 hbytes hbase
    exact ⟨v', w', hrun, h2, h3, h5⟩

theorem wp_app {o : Oper} {a : Act} {K : Act → World → Prop} {Q : Exit → Act → World → Prop} (s x : Operand) (t : TypeId)
    (ho : o.op = .call { callee := .builtin .append, args := #[s, x], argTypes := #[t, t] })
    (base : Nat) (e : TypeId) (i : TypeInfo) (z : Value) (size bytes : Nat) (ht : P.underlying t = some (.slice e)) (hi : P.info? e = some i) (hz : i.zero = some z)
    (hsize : i.size = size) (hby : i.bytes = bytes) (hzs : z.cells.size = size) (hsz : 0 < size)
    (v : Value) (n : Nat) (xs : List Value) (hs : a.eval s = v) (hown : w.ownsRow base e size v n xs)
    (A : Option Addr) (m c : Nat) (news : List Value) (hx : a.eval x = .slice A m c) (hl : news.length = m * size) (hsrc : ∀ ad, A = some ad → ∀ j u, news[j]? = some u → w.cell? (ad.add j) = some u) (hA : A = none → m = 0) (h1 : ∀ u ∈ news, u.oneCell' = true)
    (h63 : n + m ≤ maxLen) (hbytes : (n + m) * bytes ≤ 140737488355328) (hbase : base ≤ w.heap.size)
    (h : ∀ v' w', w'.ownsRow base e size v' (n + m) (xs ++ news) → w.grownBy w' v.ownBlock → (v'.ownBlock = v.ownBlock ∨ v'.ownBlock = some w.heap.size) → K (a.put o.dst v') w') : o.wp P a w K Q := by
  obtain ⟨v', w', hrun, h2, h3, h4⟩ := run_app (P := P) w base t o.type e i z size bytes ht hi hz hsize hby hzs hsz v n xs hown A m c news hl hsrc hA h1 h63 hbytes hbase
  unfold Oper.wp execOp
  simp only [ho, resolve, invoke, builtin, Sem.run_bind, Sem.run_pure, Result.andThen_ok, List.map_toArray, List.map_cons, List.map_nil, hs, hx, hrun]
  exact h v' w' h2 h3 h4

theorem wpList_app {ops : Array Oper} {rest : List Oper} {o : Oper} {a : Act} {Q : Exit → Act → World → Prop} (hgd : o.guard = none) (s x : Operand) (t : TypeId)
    (ho : o.op = .call { callee := .builtin .append, args := #[s, x], argTypes := #[t, t] })
    (base : Nat) (e : TypeId) (i : TypeInfo) (z : Value) (size bytes : Nat) (ht : P.underlying t = some (.slice e)) (hi : P.info? e = some i) (hz : i.zero = some z)
    (hsize : i.size = size) (hby : i.bytes = bytes) (hzs : z.cells.size = size) (hsz : 0 < size)
    (v : Value) (n : Nat) (xs : List Value) (hs : a.eval s = v) (hown : w.ownsRow base e size v n xs)
    (A : Option Addr) (m c : Nat) (news : List Value) (hx : a.eval x = .slice A m c) (hl : news.length = m * size) (hsrc : ∀ ad, A = some ad → ∀ j u, news[j]? = some u → w.cell? (ad.add j) = some u) (hA : A = none → m = 0) (h1 : ∀ u ∈ news, u.oneCell' = true)
    (h63 : n + m ≤ maxLen) (hbytes : (n + m) * bytes ≤ 140737488355328) (hbase : base ≤ w.heap.size)
    (h : ∀ v' w', w'.ownsRow base e size v' (n + m) (xs ++ news) → w.grownBy w' v.ownBlock → (v'.ownBlock = v.ownBlock ∨ v'.ownBlock = some w.heap.size) → wpList P ops Q rest (a.put o.dst v') w') : wpList P ops Q (o :: rest) a w :=
  wpList_plain hgd fun _ hK => wp_app w s x t ho base e i z size bytes ht hi hz hsize hby hzs hsz v n xs hs hown A m c news hx hl hsrc hA h1 h63 hbytes hbase fun v' w' h2 h3 h4 => hK _ _ (h v' w' h2 h3 h4)
end

/-- the source of an append: a slice of int64s -/
theorem ints_src {w : World} {a : Option Addr} {cap : Nat} {l : List Int} {fp : List Nat} (h : IntsA w a cap l fp) :
    (∀ ad, a = some ad → ∀ j u, (l.map (Value.int .i64))[j]? = some u → w.cell? (ad.add j) = some u) ∧ (a = none → l.length = 0) := by
  constructor
  · intro ad ha j u hu
    have hj : j < l.length := by
      have := (List.getElem?_eq_some_iff.1 hu).1; simpa using this
    obtain ⟨b, off, ha', -, hc⟩ := h.at_ j hj
    rw [ha] at ha'; injection ha' with ha'; subst ha'
    have hadd : (⟨b, off, none⟩ : Addr).add j = ⟨b, off + j, none⟩ := by unfold Addr.add; split <;> simp_all
    rw [hadd, hc]
    simpa [hj] using hu
  · intro ha
    rcases Nat.eq_zero_or_pos l.length with h0 | h0
    · exact h0
    · obtain ⟨b, off, ha', -, -⟩ := h.at_ 0 h0
      rw [ha] at ha'; cases ha'
theorem ints_one (l : List Int) : ∀ u ∈ l.map (Value.int .i64), u.oneCell' = true := by
  intro u hu
  obtain ⟨x, -, rfl⟩ := List.mem_map.1 hu
  rfl

set_option maxHeartbeats 400000 in
theorem copyInts_rd (v : Value) (l : List Int) (fp : List Nat) (w : World) (h : Rd w v l fp) (hl : l.length ≤ 1073741824) :
    Calls Try.prog 70 #[v] w fun e w' => ∃ v fp', e = .returned v ∧ Rd w' v l fp' ∧ Fresh w.heap.size w' fp' ∧ Only [] w w' := by
  obtain ⟨a, cap, rfl, hI⟩ := h.ints
  obtain ⟨i0, hi, hz0, hz1, hz2⟩ := info_parts Try.info2
  obtain ⟨q1, q2⟩ := ints_src (hI.keep ((Only.refl _ w).alloc (.cells #[] 2)))
  go_enter Try.func70, Try.ntmps70
  go_wp2_with (at_builtin; refine wpList_app _ rfl _ _ 23 rfl w.heap.size 2 i0 _ 1 8 Try.underlying23 hi hz0 hz1 hz2 rfl (by omega) (.slice (some ⟨w.heap.size, 0, none⟩) 0 0) 0 [] rfl (World.ownsRow_made w #[] 0 (Nat.le_refl _) (by unfold maxLen; omega) rfl) a l.length cap (l.map (Value.int .i64)) rfl (by simp) q1 q2 (ints_one l) (by unfold maxLen; omega) (by omega) (by simp) ?_; intro v1 w1 hO hg hb)
  rw [Nat.zero_add, List.nil_append] at hO
  obtain ⟨a', cap', hv, -, hI', hF⟩ := own_ints hO hI.wf
  have Hv := Lib.hid hv
  have hK : Only [] w w1 := ((Only.refl _ _).alloc _).grown hg (by simp [Value.ownBlock])
  clear hO hg hb hv q1 q2
  go_wp2
  go_ret
  refine ⟨_, _, rfl, ?_, hF, hK⟩
  have hr := hI'.rd
  rw [← Hv.out] at hr; exact hr

/-- the index of the first element that a function likes, -1 if there is none -/
def idxF {α : Type} (pr : α → Bool) (l : List α) : Int := match l.findIdx? pr with
  | some i => i
  | none => -1
theorem idxF_some {α : Type} {pr : α → Bool} {l : List α} {j : Nat} (hj : j < l.length) (h : ∀ x ∈ l.take j, pr x = false) (hp : pr l[j] = true) : idxF pr l = j := by
  have : l.findIdx? pr = some j := by
    rw [List.findIdx?_eq_some_iff_getElem]
    refine ⟨hj, hp, fun i hi => ?_⟩
    have := h l[i] (by rw [List.mem_take_iff_getElem]; exact ⟨i, by omega, rfl⟩)
    simp [this]
  unfold idxF; rw [this]
theorem idxF_none {α : Type} {pr : α → Bool} {l : List α} (h : ∀ x ∈ l, pr x = false) : idxF pr l = -1 := by
  have : l.findIdx? pr = none := by
    rw [List.findIdx?_eq_none_iff]; intro x hx; simp [h x hx]
  unfold idxF; rw [this]
theorem idxF_ge {α : Type} {pr : α → Bool} {l : List α} : decide (0 ≤ idxF pr l) = l.any pr := by
  unfold idxF
  cases h : l.findIdx? pr with
  | some i =>
    have hh := (List.findIdx?_eq_some_iff_getElem.1 h)
    obtain ⟨hi, hp, -⟩ := hh
    have : l.any pr = true := List.any_eq_true.2 ⟨_, List.getElem_mem hi, hp⟩
    rw [this]; simp
  | none =>
    rw [List.findIdx?_eq_none_iff] at h
    have : l.any pr = false := by rw [List.any_eq_false]; intro x hx; simp [h x hx]
    rw [this]; simp

end Go.Proofs.Ytpcamkmoabhlhaa


namespace Go.Proofs.Ytpcamkmoabhlhaa
open Go.RowKit
set_option maxRecDepth 10000

def inR (x lo hi : Int) : Bool := decide (lo ≤ x) && decide (x ≤ hi)
theorem inR_iff {x lo hi : Int} : inR x lo hi = true ↔ lo ≤ x ∧ x ≤ hi := by simp [inR]
theorem inR_not {x lo hi : Int} : inR x lo hi = false ↔ ¬ (lo ≤ x ∧ x ≤ hi) := by rw [← inR_iff]; simp

theorem inRange_any (x lo hi : Int) (w : World) :
    Calls Try.prog 48 #[.int .i64 x, .int .i64 lo, .int .i64 hi] w fun e w' => e = .returned (.bool (inR x lo hi)) ∧ w' = w := by
  by_cases h1 : lo ≤ x
  · by_cases h2 : x ≤ hi
    · go_enter Try.func48, Try.ntmps48
      go_wp2
      go_ret
      exact ⟨ret_bool (by simp [inR, h1, h2]), rfl⟩
    · go_enter Try.func48, Try.ntmps48
      go_wp2
      go_ret
      exact ⟨ret_bool (by simp [inR, h2]), rfl⟩
  · go_enter Try.func48, Try.ntmps48
    go_wp2
    go_ret
    exact ⟨ret_bool (by simp [inR]; omega), rfl⟩
theorem within_any (x lo hi : Int) (w : World) :
    Calls Try.prog 54 #[.int .i64 x, .int .i64 lo, .int .i64 hi] w fun e w' => e = .returned (.bool (inR x lo hi)) ∧ w' = w := by
  by_cases h1 : lo ≤ x
  · by_cases h2 : x ≤ hi
    · go_enter Try.func54, Try.ntmps54
      go_wp2
      go_ret
      exact ⟨ret_bool (by simp [inR, h1, h2]), rfl⟩
    · go_enter Try.func54, Try.ntmps54
      go_wp2
      go_ret
      exact ⟨ret_bool (by simp [inR, h2]), rfl⟩
  · go_enter Try.func54, Try.ntmps54
    go_wp2
    go_ret
    exact ⟨ret_bool (by simp [inR]; omega), rfl⟩

end Go.Proofs.Ytpcamkmoabhlhaa


namespace Go.Proofs.Ytpcamkmoabhlhaa
open Go.RowKit
set_option maxRecDepth 10000

/-- v is a slice of the call's own (its block, if any, from B on); its elements read as l, what they reach is fs; the slice's own block is none of that -/
structure Acc {α : Type} [Rp α] (B : Nat) (e : TypeId) (w : World) (v : Value) (l : List α) (fs : List (List Nat)) : Prop where
  own : ∃ css : List (List Value), w.ownsRow B e (Rp.size α) v l.length css.flatten ∧ css.length = l.length ∧ ∀ k (h1 : k < css.length) (h2 : k < l.length) (h3 : k < fs.length), Rp.rep w css[k] l[k] fs[k]
  fl : fs.length = l.length
  apart : ∀ g, v.ownBlock = some g → g ∉ fs.flatten

section
variable {α : Type} [Rp α] {w w' : World} {B : Nat} {e : TypeId} {v : Value} {l : List α} {fs : List (List Nat)}
theorem Acc.nil (w : World) (B : Nat) (e : TypeId) : Acc B e w (.slice none 0 0) ([] : List α) [] :=
  ⟨⟨[], World.ownsRow_nil w B e _, rfl, by simp⟩, rfl, by simp⟩
theorem Acc.made (w : World) (B : Nat) (e : TypeId) {g : Nat} (hg : g = w.heap.size) (hB : B ≤ g) : Acc B e (w.alloc (.cells #[] e)) (.slice (some ⟨g, 0, none⟩) 0 0) ([] : List α) [] := by
  subst hg
  exact ⟨⟨[], World.ownsRow_made w #[] 0 hB (by unfold maxLen; omega) (by simp), rfl, by simp⟩, rfl, by simp⟩
theorem Acc.lt (h : Acc B e w v l fs) : ∀ b ∈ fs.flatten, b < w.heap.size := by
  intro b hb
  obtain ⟨f, hf, hb⟩ := List.mem_flatten.1 hb
  obtain ⟨k, hk, rfl⟩ := List.getElem_of_mem hf
  obtain ⟨css, -, hcl, hr⟩ := h.own
  have := h.fl
  exact Rp.lt (hr k (by omega) (by omega) hk) b hb
theorem Acc.ownlt (h : Acc B e w v l fs) : ∀ g, v.ownBlock = some g → B ≤ g ∧ g < w.heap.size := by
  obtain ⟨css, ho, -, -⟩ := h.own
  exact ho.lt
theorem Acc.only {fp : List Nat} (h : Acc B e w v l fs) (ho : Only fp w w') (hd : ∀ b ∈ fs.flatten, b ∉ fp) (hv : ∀ g, v.ownBlock = some g → g ∉ fp) : Acc B e w' v l fs := by
  obtain ⟨css, hr, hcl, hre⟩ := h.own
  refine ⟨⟨css, ?_, hcl, fun k h1 h2 h3 => Rp.only (hre k h1 h2 h3) ho fun b hb hm => hd b (List.mem_flatten.2 ⟨_, List.getElem_mem _, hb⟩) hm⟩, h.fl, h.apart⟩
  refine ⟨hr.1, ?_⟩
  rcases hr.2 with ⟨rfl, h0⟩ | ⟨g, cp, cur, rfl, hb, hg, hrest⟩
  · exact .inl ⟨rfl, h0⟩
  · exact .inr ⟨g, cp, cur, rfl, hb, by rw [ho.block g (Array.getElem?_eq_some_iff.1 hg).1 (hv g rfl)]; exact hg, hrest⟩
theorem Acc.keep (h : Acc B e w v l fs) (ho : Only [] w w') : Acc B e w' v l fs := h.only ho (by simp) (by simp)
theorem Acc.form (h : Acc B e w v l fs) : ∃ a c, v = .slice a l.length c := by
  obtain ⟨css, ho, -, -⟩ := h.own
  rcases ho.2 with ⟨rfl, h0⟩ | ⟨g, cp, cur, rfl, -⟩
  · exact ⟨none, 0, by rw [h0]⟩
  · exact ⟨_, _, rfl⟩
theorem Acc.rd (h : Acc B e w v l fs) (hs : 0 < Rp.size α) : Rd w v l (v.ownBlock.toList ++ fs.flatten) := by
  obtain ⟨css, ho, hcl, hr⟩ := h.own
  obtain ⟨a, c, hv, -, hI⟩ := own_seq (xs := l) (fps := fs) ho hs hcl h.fl hr
  have := hI.rd
  rw [← hv] at this; exact this
theorem Acc.fresh (h : Acc B e w v l fs) (hf : Fresh B w fs.flatten) : Fresh B w (v.ownBlock.toList ++ fs.flatten) := by
  obtain ⟨css, ho, -, -⟩ := h.own
  have h1 := own_fresh ho
  refine ⟨List.nodup_append.2 ⟨h1.nd, hf.nd, fun a ha b hb hab => ?_⟩, fun b hb => ?_, h1.own.append hf.own⟩
  · subst hab
    have : v.ownBlock = some a := by simpa using ha
    exact h.apart a this hb
  · rcases List.mem_append.1 hb with hb | hb
    · exact h1.ge b hb
    · exact hf.ge b hb
end

/-- the cells of a literal -/
theorem lit_src (w : World) (cs : List Value) (e : TypeId) {g : Nat} (hg : g = w.heap.size) : ∀ j u, cs[j]? = some u → (w.alloc (.cells cs.toArray e)).cell? ⟨g, j, none⟩ = some u := by
  subst hg
  intro j u hu
  rw [cell_of_row _ _ _ _ _ _ (heap_alloc_new w _)]
  simpa using hu

section
variable {P : Program} {α : Type} [Rp α] {ops : Array Oper} {rest : List Oper} {o : Oper} {a : Act} {w : World} {Q : Exit → Act → World → Prop} {K : Act → World → Prop}
/-- append(v, y), y one element -/
theorem wp_push (s x : Operand) (t : TypeId)
    (ho : o.op = .call { callee := .builtin .append, args := #[s, x], argTypes := #[t, t] })
    (B : Nat) (e : TypeId) (i : TypeInfo) (z : Value) (bytes : Nat) (ht : P.underlying t = some (.slice e)) (hi : P.info? e = some i) (hz : i.zero = some z)
    (hsize : i.size = Rp.size α) (hby : i.bytes = bytes) (hzs : z.cells.size = Rp.size α) (hsz : 0 < Rp.size α) (hbb : bytes ≤ 65536)
    (w0 : World) (v : Value) (l : List α) (fs : List (List Nat)) (hs : a.eval s = v) (hA : Acc B e w0 v l fs) (hK0 : Only [] w0 w) (hB : B ≤ w0.heap.size)
    (g c : Nat) (cs : List Value) (y : α) (fp : List Nat) (hx : a.eval x = .slice (some ⟨g, 0, none⟩) 1 c) (hsrc : ∀ j u, cs[j]? = some u → w.cell? ⟨g, j, none⟩ = some u) (hcs : ∀ u ∈ cs, u.oneCell' = true)
    (hy : Rp.rep w cs y fp) (hap : ∀ b ∈ fp, v.ownBlock ≠ some b) (hlen : l.length + 1 ≤ 1073741824)
    (h : ∀ v' w', Acc B e w' v' (l ++ [y]) (fs ++ [fp]) → Only v.ownBlock.toList w w' → (∀ wz, Only [] wz w → wz.heap.size ≤ B → Only [] wz w') →
      (Fresh B w0 fs.flatten → Fresh w0.heap.size w fp → Fresh B w' (fs ++ [fp]).flatten) → K (a.put o.dst v') w') : o.wp P a w K Q := by
  obtain ⟨css, hown, hcl, hre⟩ := (hA.keep hK0).own
  have hcsl : cs.length = 1 * Rp.size α := by rw [Nat.one_mul]; exact Rp.len hy
  have hfl := hA.fl
  have hbytes : (l.length + 1) * bytes ≤ 140737488355328 := by
    have := Nat.mul_le_mul hlen hbb; omega
  refine wp_app w s x t ho B e i z (Rp.size α) bytes ht hi hz hsize hby hzs hsz v l.length css.flatten hs hown (some ⟨g, 0, none⟩) 1 c cs hx hcsl ?_ (by simp) hcs (by unfold maxLen; omega) hbytes (Nat.le_trans hB hK0.size) ?_
  · intro ad had j u hu
    injection had with had; subst had
    have hadd : (⟨g, 0, none⟩ : Addr).add j = ⟨g, j, none⟩ := by unfold Addr.add; split <;> simp_all
    rw [hadd]; exact hsrc j u hu
  intro v' w' hO hg hb
  have hW : Only v.ownBlock.toList w w' := (Only.refl _ _).grown hg (by intro k hk _; simp [hk])
  have hlt := (hA.keep hK0).lt
  have hap' : ∀ b ∈ fp, b ∉ v.ownBlock.toList := fun b hb hm => hap b hb (by simpa using hm)
  have hfs : ∀ b ∈ fs.flatten, b ∉ v.ownBlock.toList := fun b hb hm => hA.apart b (by simpa using hm) hb
  refine h v' w' ⟨⟨css ++ [cs], ?_, by simp [hcl], fun k h1 h2 h3 => ?_⟩, by simp [hfl], ?_⟩ hW ?_ ?_
  · rw [List.length_append, List.flatten_append]; simpa using hO
  · by_cases hk : k < l.length
    · rw [List.getElem_append_left (by rw [hcl]; exact hk), List.getElem_append_left hk, List.getElem_append_left (by rw [hfl]; exact hk)]
      exact Rp.only (hre k (by omega) hk (by omega)) hW fun b hb => hfs b (List.mem_flatten.2 ⟨_, List.getElem_mem _, hb⟩)
    · have : k = l.length := by simp at h2; omega
      subst this
      rw [List.getElem_append_right (by rw [hcl]; omega), List.getElem_append_right (by omega), List.getElem_append_right (by rw [hfl]; omega)]
      simpa [hcl, hfl] using Rp.only hy hW hap'
  · intro g' hg' hm
    rw [List.flatten_append] at hm
    simp only [List.flatten_cons, List.flatten_nil, List.append_nil] at hm
    rcases hb with hb | hb
    · rw [hb] at hg'
      rcases List.mem_append.1 hm with hm | hm
      · exact hA.apart g' hg' hm
      · exact hap g' hm hg'
    · rw [hb] at hg'; injection hg' with hg'; subst hg'
      rcases List.mem_append.1 hm with hm | hm
      · exact absurd (hlt _ hm) (by omega)
      · exact absurd (Rp.lt hy _ hm) (by omega)
  · intro wz hz hzB
    refine hz.then_ hW fun b hm hb => ?_
    have hm' : v.ownBlock = some b := by simpa using hm
    have := (hA.ownlt b hm').1
    omega
  · intro hF hFy
    rw [List.flatten_append]
    simp only [List.flatten_cons, List.flatten_nil, List.append_nil]
    have hF' := (hF.keep hK0)
    refine ((Fresh.append hF' hFy hB fun b hb => hF.lt b hb)).only hW fun b hm => ?_
    rcases List.mem_append.1 hm with hm | hm
    · exact hfs b hm
    · exact hap' b hm
/-- the same where y was made behind w0 -/
theorem wp_pushF (s x : Operand) (t : TypeId)
    (ho : o.op = .call { callee := .builtin .append, args := #[s, x], argTypes := #[t, t] })
    (B : Nat) (e : TypeId) (i : TypeInfo) (z : Value) (bytes : Nat) (ht : P.underlying t = some (.slice e)) (hi : P.info? e = some i) (hz : i.zero = some z)
    (hsize : i.size = Rp.size α) (hby : i.bytes = bytes) (hzs : z.cells.size = Rp.size α) (hsz : 0 < Rp.size α) (hbb : bytes ≤ 65536)
    (w0 : World) (v : Value) (l : List α) (fs : List (List Nat)) (hs : a.eval s = v) (hA : Acc B e w0 v l fs) (hF : Fresh B w0 fs.flatten) (hK0 : Only [] w0 w) (hB : B ≤ w0.heap.size)
    (g c : Nat) (cs : List Value) (y : α) (fp : List Nat) (hx : a.eval x = .slice (some ⟨g, 0, none⟩) 1 c) (hsrc : ∀ j u, cs[j]? = some u → w.cell? ⟨g, j, none⟩ = some u) (hcs : ∀ u ∈ cs, u.oneCell' = true)
    (hy : Rp.rep w cs y fp) (hFy : Fresh w0.heap.size w fp) (hlen : l.length + 1 ≤ 1073741824) (wz : World) (hz0 : Only [] wz w) (hzB : wz.heap.size ≤ B)
    (h : ∀ v' w', Acc B e w' v' (l ++ [y]) (fs ++ [fp]) → Fresh B w' (fs ++ [fp]).flatten → Only [] wz w' → Only v.ownBlock.toList w w' → K (a.put o.dst v') w') : o.wp P a w K Q :=
  wp_push s x t ho B e i z bytes ht hi hz hsize hby hzs hsz hbb w0 v l fs hs hA hK0 hB g c cs y fp hx hsrc hcs hy
    (fun b hb hv => by have := (hA.ownlt b hv).2; have := hFy.ge b hb; omega) hlen fun v' w' h1 h2 h3 h4 => h v' w' h1 (h4 hF hFy) (h3 wz hz0 hzB) h2
theorem wpList_push (hgd : o.guard = none) (s x : Operand) (t : TypeId)
    (ho : o.op = .call { callee := .builtin .append, args := #[s, x], argTypes := #[t, t] })
    (B : Nat) (e : TypeId) (i : TypeInfo) (z : Value) (bytes : Nat) (ht : P.underlying t = some (.slice e)) (hi : P.info? e = some i) (hz : i.zero = some z)
    (hsize : i.size = Rp.size α) (hby : i.bytes = bytes) (hzs : z.cells.size = Rp.size α) (hsz : 0 < Rp.size α) (hbb : bytes ≤ 65536)
    (w0 : World) (v : Value) (l : List α) (fs : List (List Nat)) (hs : a.eval s = v) (hA : Acc B e w0 v l fs) (hK0 : Only [] w0 w) (hB : B ≤ w0.heap.size)
    (g c : Nat) (cs : List Value) (y : α) (fp : List Nat) (hx : a.eval x = .slice (some ⟨g, 0, none⟩) 1 c) (hsrc : ∀ j u, cs[j]? = some u → w.cell? ⟨g, j, none⟩ = some u) (hcs : ∀ u ∈ cs, u.oneCell' = true)
    (hy : Rp.rep w cs y fp) (hap : ∀ b ∈ fp, v.ownBlock ≠ some b) (hlen : l.length + 1 ≤ 1073741824)
    (h : ∀ v' w', Acc B e w' v' (l ++ [y]) (fs ++ [fp]) → Only v.ownBlock.toList w w' → (∀ wz, Only [] wz w → wz.heap.size ≤ B → Only [] wz w') →
      (Fresh B w0 fs.flatten → Fresh w0.heap.size w fp → Fresh B w' (fs ++ [fp]).flatten) → wpList P ops Q rest (a.put o.dst v') w') : wpList P ops Q (o :: rest) a w :=
  wpList_plain hgd fun _ hK => wp_push s x t ho B e i z bytes ht hi hz hsize hby hzs hsz hbb w0 v l fs hs hA hK0 hB g c cs y fp hx hsrc hcs hy hap hlen fun v' w' h1 h2 h3 h4 => hK _ _ (h v' w' h1 h2 h3 h4)
theorem wpList_pushF (hgd : o.guard = none) (s x : Operand) (t : TypeId)
    (ho : o.op = .call { callee := .builtin .append, args := #[s, x], argTypes := #[t, t] })
    (B : Nat) (e : TypeId) (i : TypeInfo) (z : Value) (bytes : Nat) (ht : P.underlying t = some (.slice e)) (hi : P.info? e = some i) (hz : i.zero = some z)
    (hsize : i.size = Rp.size α) (hby : i.bytes = bytes) (hzs : z.cells.size = Rp.size α) (hsz : 0 < Rp.size α) (hbb : bytes ≤ 65536)
    (w0 : World) (v : Value) (l : List α) (fs : List (List Nat)) (hs : a.eval s = v) (hA : Acc B e w0 v l fs) (hF : Fresh B w0 fs.flatten) (hK0 : Only [] w0 w) (hB : B ≤ w0.heap.size)
    (g c : Nat) (cs : List Value) (y : α) (fp : List Nat) (hx : a.eval x = .slice (some ⟨g, 0, none⟩) 1 c) (hsrc : ∀ j u, cs[j]? = some u → w.cell? ⟨g, j, none⟩ = some u) (hcs : ∀ u ∈ cs, u.oneCell' = true)
    (hy : Rp.rep w cs y fp) (hFy : Fresh w0.heap.size w fp) (hlen : l.length + 1 ≤ 1073741824) (wz : World) (hz0 : Only [] wz w) (hzB : wz.heap.size ≤ B)
    (h : ∀ v' w', Acc B e w' v' (l ++ [y]) (fs ++ [fp]) → Fresh B w' (fs ++ [fp]).flatten → Only [] wz w' → Only v.ownBlock.toList w w' → wpList P ops Q rest (a.put o.dst v') w') : wpList P ops Q (o :: rest) a w :=
  wpList_plain hgd fun _ hK => wp_pushF s x t ho B e i z bytes ht hi hz hsize hby hzs hsz hbb w0 v l fs hs hA hF hK0 hB g c cs y fp hx hsrc hcs hy hFy hlen wz hz0 hzB fun v' w' h1 h2 h3 h4 => hK _ _ (h v' w' h1 h2 h3 h4)
end
end Go.Proofs.Ytpcamkmoabhlhaa

namespace Go.Proofs.Ytpcamkmoabhlhaa
open Go.RowKit
set_option maxRecDepth 10000


theorem nil_rd {α : Type} [Rp α] (w : World) : Rd w (.slice none 0 0) ([] : List α) [] := ⟨none, 0, [], [], rfl, rfl, SeqA.nil w none (by simp [maxLen])⟩
theorem int_rd {n : Int} (w : World) (h : I64 n) : Rd w (.int .i64 n) n [] := ⟨rfl, h, rfl⟩
end Go.Proofs.Ytpcamkmoabhlhaa

namespace Go.Proofs.Ytpcamkmoabhlhaa
open Go.RowKit
set_option maxRecDepth 10000

/-- the same as quiet_drewN at a function's beginning -/
theorem quiet_drewN0 {P : Program} {f : FuncId} {args : Array Value} {w : World} {n : Nat} {v : Value}
    (h : Calls P f args (w.drewN n) fun e w' => e = .returned v ∧ Drew (w.drewN n) w') :
    Calls P f args (w.drewN n) fun e w'' => e = .returned v ∧ ∃ m, w'' = w.drewN m :=
  h.mono fun _ _ ⟨he, m, hm⟩ => ⟨he, n + m, by rw [hm, World.drewN_drewN]⟩
theorem IntsA.take {w : World} {a : Option Addr} {cap : Nat} {l : List Int} {fp : List Nat} (h : IntsA w a cap l fp) (j : Nat) : IntsA w a cap (l.take j) fp := by
  refine ⟨Nat.le_trans (by simp; omega) h.len, h.cap, fun x hx => h.wf x (List.mem_of_mem_take hx), fun k hk => ?_, h.lt, h.one⟩
  have hk' : k < l.length := by simp at hk; omega
  obtain ⟨b, off, e1, e2, e3⟩ := h.at_ k hk'
  exact ⟨b, off, e1, e2, by rw [e3]; simp⟩
def permB (l : List Int) : Bool := inR l.length 1 20 && decide (PM.IsP l)
theorem permB_iff {l : List Int} : permB l = true ↔ (1 ≤ l.length ∧ l.length ≤ 20) ∧ PM.IsP l := by
  simp [permB, inR]; omega
theorem mem_take_step {l : List Int} {j : Nat} (h : j < l.length) {P : Int → Prop} (h1 : ∀ x ∈ l.take j, P x) (h2 : P l[j]) : ∀ x ∈ l.take (j + 1), P x := by
  rw [take_succ_get l j h]
  intro x hx
  rcases List.mem_append.1 hx with hx | hx
  · exact h1 x hx
  · simp at hx; subst hx; exact h2
theorem nodup_take_step {l : List Int} {j : Nat} (h : j < l.length) (h1 : (l.take j).Nodup) (h2 : l[j] ∉ l.take j) : (l.take (j + 1)).Nodup := by
  rw [take_succ_get l j h]
  exact List.nodup_append.2 ⟨h1, by simp, by intro a ha b hb e; simp at hb; subst hb; subst e; exact h2 ha⟩
theorem nodup_take_not {l : List Int} {j : Nat} (h : j < l.length) (h2 : l[j] ∈ l.take j) : ¬ l.Nodup := by
  intro hn
  have h3 : (l.take (j + 1)).Nodup := List.Nodup.sublist (List.take_sublist _ _) hn
  rw [take_succ_get l j h] at h3
  exact (List.nodup_append.1 h3).2.2 _ h2 _ (by simp) rfl

set_option maxHeartbeats 400000 in
theorem containsInt_any (a : Option Addr) (cap : Nat) (l : List Int) (n : Int) (fp : List Nat) (w : World) (h : IntsA w a cap l fp) :
    Calls Try.prog 73 #[.slice a l.length cap, .int .i64 n] w fun e w' => e = .returned (.bool (decide (n ∈ l))) ∧ Drew w w' := by
  have hb := h.bound
  go_enter Try.func73, Try.ntmps73
  go_wp2
  go_loopw [5] (fun i wr => ∃ j : Nat, j ≤ l.length ∧ i = .int .i64 j ∧ n ∉ l.take j ∧ Drew w wr)
    (fun i _ => l.length - (intOf i).toNat)
  case atStart => exact ⟨0, Nat.zero_le _, rfl, by simp, Drew.refl _⟩
  case round =>
    obtain ⟨j, hj, rfl, hr, k, rfl⟩ := hrel
    have Hr := Lib.hid hr; clear hr
    by_cases hlt : j < l.length
    · obtain ⟨b, off, rfl, -, hc⟩ := h.at_ j hlt
      by_cases hx : l[j] = n
      · have hq : (l[j] == n) = true := by simp [hx]
        have Hx := Lib.hid hx; clear hx
        go_wp2
        go_ret
        exact ⟨ret_bool (decide_eq_true (by rw [← Hx.out]; exact List.getElem_mem _)).symm, ⟨_, rfl⟩⟩
      · have hq : (l[j] == n) = false := by simp [hx]
        have Hx := Lib.hid hx; clear hx
        go_wp2
        go_roundw
        case rel => exact ⟨j + 1, by omega, by go_num, by
          rw [take_succ_get l j hlt]; intro hm
          rcases List.mem_append.1 hm with hm | hm
          · exact Hr.out hm
          · simp at hm; exact Hx.out hm.symm, ⟨_, rfl⟩⟩
        case measure => simp [intOf]; omega
    · go_wp2
      go_ret
      exact ⟨ret_bool (decide_eq_false (by have := Hr.out; rwa [List.take_of_length_le (by omega)] at this)).symm, ⟨_, rfl⟩⟩
theorem containsInt_pre (a : Option Addr) (cap : Nat) (l : List Int) (j : Nat) (n : Int) (fp : List Nat) (w : World) (h : IntsA w a cap l fp) (hj : j ≤ l.length) :
    Calls Try.prog 73 #[.slice a j cap, .int .i64 n] w fun e w' => e = .returned (.bool (decide (n ∈ l.take j))) ∧ Drew w w' := by
  have := containsInt_any a cap (l.take j) n fp w (h.take j)
  rwa [show (l.take j).length = j by simp; omega] at this
theorem inRange_q (x lo hi : Int) (w : World) :
    Calls Try.prog 48 #[.int .i64 x, .int .i64 lo, .int .i64 hi] w fun e w' => e = .returned (.bool (inR x lo hi)) ∧ Drew w w' :=
  (inRange_any x lo hi w).mono fun _ _ ⟨h1, h2⟩ => ⟨h1, by rw [h2]; exact Drew.refl _⟩
set_option maxHeartbeats 1000000 in
theorem specIsPerm_any (a : Option Addr) (cap : Nat) (l : List Int) (fp : List Nat) (w : World) (h : IntsA w a cap l fp) :
    Calls Try.prog 49 #[.slice a l.length cap] w fun e w' => e = .returned (.bool (permB l)) ∧ Drew w w' := by
  have hb := h.bound
  rcases hq : inR l.length 1 20
  · go_enter Try.func49, Try.ntmps49
    go_wp2_with ((go_at_call 48; (with_reducible refine (inRange_any l.length 1 20 _).mono ?_); rintro e w1 ⟨rfl, rfl⟩))
    go_ret
    exact ⟨ret_bool (by unfold permB; rw [hq]; rfl), Drew.refl _⟩
  have hfin : permB l = decide (PM.IsP l) := by unfold permB; rw [hq]; rfl
  have Hfin := Lib.hid hfin; clear hfin
  obtain ⟨g1, g2⟩ := inR_iff.1 hq
  go_enter Try.func49, Try.ntmps49
  go_wp2_with ((go_at_call 48; (with_reducible refine (inRange_any l.length 1 20 _).mono ?_); rintro e w ⟨rfl, rfl⟩))
  go_loopw [4] (fun i wr => ∃ j : Nat, j ≤ l.length ∧ i = .int .i64 j ∧ (∀ x ∈ l.take j, 0 ≤ x ∧ x < l.length) ∧ (l.take j).Nodup ∧ Drew w wr)
    (fun i _ => l.length - (intOf i).toNat)
  case atStart => exact ⟨0, Nat.zero_le _, rfl, by simp, by simp, Drew.refl _⟩
  case round =>
    obtain ⟨j, hj, rfl, hr, hn, k, rfl⟩ := hrel
    have Hr := Lib.hid hr; clear hr
    have Hn := Lib.hid hn; clear hn
    by_cases hlt : j < l.length
    · obtain ⟨b, off, rfl, -, hc⟩ := h.at_ j hlt
      have hcap := h.len
      have hi1 : (0 : Int) ≤ (j : Int) := by omega
      have hi2 : (j : Int) < (l.length : Int) := by omega
      rcases c1 : inR l[j] 0 (l.length - 1)
      · go_wp2
        go_quiet ((go_at_call 48; exact quiet_drewN (inRange_q l[j] 0 (l.length - 1) _)))
        go_wp2
        go_ret
        exact ⟨ret_bool (by rw [Hfin.out, eq_comm, decide_eq_false_iff_not]; intro hp; have := hp.1 l[j] (List.getElem_mem _); rw [inR_not] at c1; omega), ((Drew.refl _).drewN _).drewN _⟩
      have hx := inR_iff.1 c1
      have Hx := Lib.hid hx; clear hx
      rcases c2 : decide (l[j] ∈ l.take j)
      all_goals go_wp2
      all_goals go_quiet (first
        | (go_at_call 48; exact quiet_drewN (inRange_q l[j] 0 (l.length - 1) _))
        | (go_at_call 73; exact quiet_drewN (containsInt_pre (some ⟨b, off, none⟩) cap l j l[j] fp _ (h.keep (Only.ofDrewN _ _ _)) hj)))
      · have C2 := Lib.hid (of_decide_eq_false c2); clear c2
        go_wp2
        go_roundw
        case rel => exact ⟨j + 1, by omega, by go_num, mem_take_step hlt Hr.out (by have := Hx.out; omega), nodup_take_step hlt Hn.out C2.out, ⟨_, rfl⟩⟩
        case measure => simp [intOf]; omega
      · have C2 := Lib.hid (of_decide_eq_true c2); clear c2
        go_wp2
        go_ret
        exact ⟨ret_bool (by rw [Hfin.out, eq_comm, decide_eq_false_iff_not]; intro hp; exact nodup_take_not hlt C2.out hp.2), ((Drew.refl _).drewN _).drewN _⟩
    · go_wp2
      go_ret
      exact ⟨ret_bool (by rw [Hfin.out, eq_comm, decide_eq_true_iff]; have h1 := Hr.out; have h2 := Hn.out; rw [List.take_of_length_le (by omega)] at h1 h2; exact ⟨h1, h2⟩), ⟨_, rfl⟩⟩
theorem specIsPerm_rd (v : Value) (l : List Int) (fp : List Nat) (w : World) (h : Rd w v l fp) :
    Calls Try.prog 49 #[v] w fun e w' => e = .returned (.bool (permB l)) ∧ Drew w w' := by
  obtain ⟨a, cap, rfl, hI⟩ := h.ints
  exact specIsPerm_any a cap l fp w hI

theorem lengthInt_rd (v : Value) (l : List Int) (fp : List Nat) (w : World) (h : Rd w v l fp) :
    Calls Try.prog 39 #[v] w fun e w' => e = .returned (.int .i64 l.length) ∧ w' = w := by
  obtain ⟨a, cap, rfl, hI⟩ := h.ints
  have hb := hI.bound
  go_enter Try.func39, Try.ntmps39
  go_wp2
  go_ret
  exact ⟨rfl, rfl⟩
theorem wrap64_small (n : Int) (h0 : 0 ≤ n) (h1 : n < 9223372036854775808) : wrap64 n = n := by
  unfold wrap64; omega
theorem pow_small {k : Nat} (h : k ≤ 20) : (2 : Int) ^ k ≤ 1048576 ∧ 1 ≤ (2 : Int) ^ k := by
  have h1 : 2 ^ k ≤ 2 ^ 20 := Nat.pow_le_pow_right (by decide) h
  have h2 : 1 ≤ 2 ^ k := Nat.one_le_two_pow
  have e : ((2 : Int) ^ k) = ((2 ^ k : Nat) : Int) := by simp
  rw [e]
  constructor
  · have : (2 : Nat) ^ 20 = 1048576 := by decide
    omega
  · omega
theorem or_step (m : Nat) (hm : m < 2 ^ 20) (x : Int) (h0 : 0 ≤ x) (h1 : x ≤ 19) : bits BinOp.or IntKind.i64 (m : Int) (wrap64 (2 ^ x.toNat)) = ((m ||| 2 ^ x.toNat : Nat) : Int) := by
  have hp := pow_small (k := x.toNat) (by omega)
  rw [wrap64_small _ (by omega) (by omega)]
  have e : ((2 : Int) ^ x.toNat) = ((2 ^ x.toNat : Nat) : Int) := by simp
  rw [e]
  refine (bits_nat .i64 20 (by decide) ?_ m (2 ^ x.toNat) hm (Nat.pow_lt_pow_right (by decide) (by omega))).2
  intro n hn0 hn1
  have : (2 : Int) ^ 20 = 1048576 := by decide
  rw [IntKind.wrap_i64]; omega
theorem mask_end (l : List Int) (h : ∀ x ∈ l, 0 ≤ x ∧ x < l.length) (hl : l.length ≤ 20) : ((PM.mask l : Int) == wrap64 (wrap64 (2 ^ l.length) - 1)) = decide (PM.IsP l) := by
  have hp := pow_small hl
  rw [wrap64_small (2 ^ l.length) (by omega) (by omega), wrap64_small _ (by omega) (by omega)]
  have h1 : 1 ≤ 2 ^ l.length := Nat.one_le_two_pow
  have e : ((2 : Int) ^ l.length) - 1 = ((2 ^ l.length - 1 : Nat) : Int) := by
    rw [Int.natCast_sub h1]; simp
  rw [e]
  by_cases hm : PM.IsP l
  · rw [decide_eq_true hm, (PM.mask_full l h).2 hm]; simp
  · rw [decide_eq_false hm]
    have : PM.mask l ≠ 2 ^ l.length - 1 := fun he => hm ((PM.mask_full l h).1 he)
    simp only [beq_eq_false_iff_ne, ne_eq]
    omega
set_option maxHeartbeats 1000000 in
theorem implIsPerm_any (a : Option Addr) (cap : Nat) (l : List Int) (fp : List Nat) (w : World) (h : IntsA w a cap l fp) :
    Calls Try.prog 57 #[.slice a l.length cap] w fun e w' => e = .returned (.bool (permB l)) ∧ Drew w w' := by
  have hb := h.bound
  rcases hq : inR l.length 1 20
  · go_enter Try.func57, Try.ntmps57
    go_wp2_with (first | (go_at_call 39; (with_reducible refine (lengthInt_rd _ l fp _ h.rd).mono ?_); rintro e w ⟨rfl, rfl⟩) | (go_at_call 54; (with_reducible refine (within_any l.length 1 20 _).mono ?_); rintro e w ⟨rfl, rfl⟩))
    go_ret
    exact ⟨ret_bool (by unfold permB; rw [hq]; rfl), Drew.refl _⟩
  have hfin : permB l = decide (PM.IsP l) := by unfold permB; rw [hq]; rfl
  have Hfin := Lib.hid hfin; clear hfin
  obtain ⟨g1, g2⟩ := inR_iff.1 hq
  go_enter Try.func57, Try.ntmps57
  go_wp2_with (first | (go_at_call 39; (with_reducible refine (lengthInt_rd _ l fp _ h.rd).mono ?_); rintro e w ⟨rfl, rfl⟩) | (go_at_call 54; (with_reducible refine (within_any l.length 1 20 _).mono ?_); rintro e w ⟨rfl, rfl⟩))
  go_loopw [3, 12] (fun sn i wr => ∃ j : Nat, j ≤ l.length ∧ i = .int .i64 j ∧ sn = .int .i64 (PM.mask (l.take j) : Nat) ∧ (∀ x ∈ l.take j, 0 ≤ x ∧ x < l.length) ∧ Drew w wr)
    (fun _ i _ => l.length - (intOf i).toNat)
  case atStart => exact ⟨0, Nat.zero_le _, rfl, rfl, by simp, Drew.refl _⟩
  case round =>
    obtain ⟨j, hj, rfl, rfl, hr, k, rfl⟩ := hrel
    have Hr := Lib.hid hr; clear hr
    by_cases hlt : j < l.length
    · obtain ⟨b, off, ha, -, hc⟩ := h.at_ j hlt
      subst ha
      rcases c1 : inR l[j] 0 (l.length - 1)
      · go_wp2_with (first | (go_at_call 39; (with_reducible refine (lengthInt_rd _ l fp _ (Rp.keep h.rd (Only.ofDrewN _ _ _))).mono ?_); rintro e w1 ⟨rfl, rfl⟩) | (go_at_call 54; (with_reducible refine (within_any l[j] 0 (l.length - 1) _).mono ?_); rintro e w1 ⟨rfl, rfl⟩))
        go_ret
        exact ⟨ret_bool (by rw [Hfin.out, eq_comm, decide_eq_false_iff_not]; intro hp; have := hp.1 l[j] (List.getElem_mem _); rw [inR_not] at c1; omega), ⟨_, rfl⟩⟩
      have hx := inR_iff.1 c1
      have Hx := Lib.hid hx; clear hx
      have hx0 : 0 ≤ l[j] := Hx.out.1
      have hx1 : l[j] ≤ 19 := by have := Hx.out; omega
      have hm := or_step (PM.mask (l.take j)) (Nat.lt_of_lt_of_le (PM.mask_lt _ l.length Hr.out) (Nat.pow_le_pow_right (by decide) (by omega))) l[j] hx0 hx1
      have Hm := Lib.hid hm; clear hm
      go_wp2_with (first | (go_at_call 39; (with_reducible refine (lengthInt_rd _ l fp _ (Rp.keep h.rd (Only.ofDrewN _ _ _))).mono ?_); rintro e w1 ⟨rfl, rfl⟩) | (go_at_call 54; (with_reducible refine (within_any l[j] 0 (l.length - 1) _).mono ?_); rintro e w1 ⟨rfl, rfl⟩))
      refine ⟨⟨j + 1, by omega, by go_num, ?_, mem_take_step hlt Hr.out (by have := Hx.out; omega), ⟨_, rfl⟩⟩, by simp [intOf]; omega⟩
      rw [take_succ_get l j hlt, PM.mask_append, Hm.out]
    · go_wp2
      go_ret
      exact ⟨ret_bool (by have h1 := Hr.out; rw [List.take_of_length_le (by omega)] at h1 ⊢; rw [Hfin.out]; exact mask_end l h1 (by omega)), ⟨_, rfl⟩⟩
theorem implIsPerm_rd (v : Value) (l : List Int) (fp : List Nat) (w : World) (h : Rd w v l fp) :
    Calls Try.prog 57 #[v] w fun e w' => e = .returned (.bool (permB l)) ∧ Drew w w' := by
  obtain ⟨a, cap, rfl, hI⟩ := h.ints
  exact implIsPerm_any a cap l fp w hI
end Go.Proofs.Ytpcamkmoabhlhaa
