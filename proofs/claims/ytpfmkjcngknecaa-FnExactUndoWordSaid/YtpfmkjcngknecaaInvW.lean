/- Inverse words: the reference's and the program's. -/
import Derived.Test.YtpfmkjcngknecaaRedoKit
import Derived.RangeFuncBox
import Derived.RangeFuncLeaves
import Derived.RangeFuncWrites
import Derived.RangeFuncNested
import Derived.Shelf.Abstract
import Derived.OwnWalkIn
import Derived.TacticsInMore
import Derived.LoopNIn
import Derived.LoopIn
import Derived.Maps.AppendAt
namespace Go.Proofs.Ytpfmkjcngknecaa
open Go.RowKit Go.Shelf
set_option maxRecDepth 10000

/-- the inverse letters of a word in reverse order -/
def invW (l : List Int) : List Int := (l.map fun x => -x).reverse
theorem invW_len (l : List Int) : (invW l).length = l.length := by simp [invW]
theorem invW_ltrs {m : Nat} {l : List Int} (h : ∀ x ∈ l, x ∈ ltrs m) : ∀ x ∈ invW l, x ∈ ltrs m := by
  intro x hx
  unfold invW at hx
  rw [List.mem_reverse, List.mem_map] at hx
  obtain ⟨y, hy, rfl⟩ := hx
  have := mem_ltrs.1 (h y hy)
  rw [mem_ltrs]; omega
/-- its first k letters -/
def invTk (l : List Int) (k : Nat) : List Int := (invW l).take k
theorem invTk_succ {l : List Int} {k : Nat} (h : k < l.length) : invTk l (k + 1) = invTk l k ++ [-(l[l.length - 1 - k]'(by omega))] := by
  unfold invTk
  have h1 : k < (invW l).length := by rw [invW_len]; exact h
  rw [take_succ_get _ k h1]
  congr 2
  simp [invW]
theorem invTk_len {l : List Int} {k : Nat} (h : k ≤ l.length) : (invTk l k).length = k := by unfold invTk; rw [List.length_take, invW_len]; omega
theorem invW_i64 {l : List Int} (h : ∀ x ∈ l, -1000 ≤ x ∧ x ≤ 1000) : ∀ x ∈ invW l, I64 x := by
  intro x hx
  unfold invW at hx
  rw [List.mem_reverse, List.mem_map] at hx
  obtain ⟨y, hy, rfl⟩ := hx
  have := h y hy
  unfold I64; omega
set_option maxHeartbeats 1000000 in
theorem specInvW_rd (v : Value) (l : List Int) (fp : List Nat) (w : World) (h : Rd w v l fp) (hb : ∀ x ∈ l, -1000 ≤ x ∧ x ≤ 1000) (hl : l.length ≤ 1000) :
    Calls Try.prog 75 #[v] w fun e w' => ∃ v fp', e = .returned v ∧ Rd w' v (invW l) fp' ∧ Fresh w.heap.size w' fp' ∧ Only [] w w' := by
  obtain ⟨i0, hi, hz0, hz1, hz2⟩ := info_parts Try.info2
  obtain ⟨a, cap, rfl, IL⟩ := h.ints
  have Hb := Lib.hid hb
  clear hb
  go_enter Try.func75, Try.ntmps75
  go_wp2
  go_loopw [3, 4] (fun o i wr => ∃ (k : Nat) (fs : List (List Nat)), k ≤ l.length ∧ i = .int .i64 ((l.length : Int) - 1 - k) ∧ Acc w.heap.size 2 wr o (invTk l k) fs ∧ Fresh w.heap.size wr fs.flatten ∧ Only [] w wr)
    (fun _ i _ => (intOf i + 1).toNat)
  case atStart => exact ⟨0, [], Nat.zero_le _, by simp, by simpa [invTk] using Acc.made w w.heap.size _ rfl (Nat.le_refl _), Fresh.nil _ _, (Only.refl _ _).alloc _⟩
  case round =>
    obtain ⟨k, fs, hk, rfl, hA, hF, hK⟩ := hrel
    by_cases hlt : k < l.length
    · have hsz := hK.size
      have e1 : (0 : Int) ≤ (l.length : Int) - 1 - k := by omega
      have e2 : ((l.length : Int) - 1 - k).toNat = l.length - 1 - k := by omega
      have e3 : (l.length : Int) - 1 - k < (l.length : Int) := by omega
      obtain ⟨b, off, rfl, -, hc0⟩ := IL.at_ (l.length - 1 - k) (by omega)
      have hc := hK.cell (by simp) hc0
      obtain ⟨y, hy⟩ : ∃ y, y = l[l.length - 1 - k] := ⟨_, rfl⟩
      rw [← hy] at hc
      have hbd := Hb.out l[l.length - 1 - k] (List.getElem_mem _)
      rw [← hy] at hbd
      have hb1 := hbd.1
      have hb2 := hbd.2
      have hst := invTk_succ hlt
      rw [← hy] at hst
      have Hst := Lib.hid hst
      have hlen := invTk_len hk
      have hlj : (invTk l k).length + 1 ≤ 1073741824 := by omega
      have Hlj := Lib.hid hlj
      have HI : Hid (I64 (-y)) := Lib.hid (by unfold I64; omega)
      clear hc0 hbd hst hlen hlj hy
      go_wp2_with ((at_builtin; refine wpList_pushF rfl _ _ 25 rfl w.heap.size 2 i0 _ 8 Try.underlying25 hi hz0 hz1 hz2 rfl (by decide) (by decide) wr _ (invTk l k) fs rfl hA hF ((Only.refl _ _).alloc _) hsz wr.heap.size 1 [.int .i64 (-y)] (-y) [] rfl (lit_src wr [.int .i64 (-y)] _ rfl) (by intro u hu; simp at hu; subst hu; rfl) (int_rd _ HI.out) (Fresh.nil _ _) Hlj.out w (hK.alloc _) (Nat.le_refl _) ?_; intro v3 w3 hA3 hF3 hK3 _))
      go_roundw
      case rel => exact ⟨k + 1, _, by omega, by congr 1; omega, by rw [Hst.out]; exact hA3, hF3, hK3⟩
      case measure => simp [intOf]; omega
    · obtain rfl : k = l.length := by omega
      have e1 : (l.length : Int) - 1 - (l.length : Int) < 0 := by omega
      have hall : invTk l l.length = invW l := by unfold invTk; rw [List.take_of_length_le (by rw [invW_len]; omega)]
      rw [hall] at hA
      have HA := Lib.hid hA
      clear hA hall
      go_wp2
      go_ret
      exact ⟨_, _, rfl, HA.out.rd (by decide), HA.out.fresh hF, hK⟩
/-- what a round of the loop leaves alone -/
def KeepB (n₀ m : Nat) (A B : World) : Prop := ∀ k, k < n₀ → k ≠ m → B.heap[k]? = A.heap[k]?
theorem KeepB.refl (n₀ m : Nat) (A : World) : KeepB n₀ m A A := fun _ _ _ => rfl
theorem KeepB.trans {n₀ m : Nat} {A B C : World} (h : KeepB n₀ m A B) (k : KeepB n₀ m B C) : KeepB n₀ m A C := fun i hi hn => (k i hi hn).trans (h i hi hn)
theorem KeepB.cell {n₀ m : Nat} {A B : World} (h : KeepB n₀ m A B) {b o : Nat} (hb : b < n₀) (hm : b ≠ m) {v : Value} (hc : A.cell? ⟨b, o, none⟩ = some v) : B.cell? ⟨b, o, none⟩ = some v :=
  (World.cell?_of_block (h b hb hm)).trans hc
theorem keepB_b {n₀ m : Nat} {w : World} (hn : n₀ ≤ w.heap.size) (W : World) (l : Nat) (o o' : Obj) (hl : w.heap.size ≤ l) (h : W.heap[l]? = some o) (_ : o.isCells = false) (_ : o.isWalk = false) : KeepB n₀ m W (W.putObj l o') := fun k hk _ =>
  (grownBy_putObj' W l o').block k (Nat.lt_trans (Nat.lt_of_lt_of_le hk (Nat.le_trans hn hl)) (Array.getElem?_eq_some_iff.1 h).1) (fun e => by cases e; omega)
/-- what has come when k rounds are over -/
def uptoF {α : Type} (f : Nat → α) (k : Nat) : List α := (List.range k).map f
theorem uptoF_succ {α : Type} (f : Nat → α) (k : Nat) : uptoF f (k + 1) = uptoF f k ++ [f k] := by simp [uptoF, List.range_succ]
theorem uptoF_length {α : Type} (f : Nat → α) (k : Nat) : (uptoF f k).length = k := by simp [uptoF]
def bwAt (l : List Int) (j : Nat) : Nat × Int := (l.length - 1 - j, l[l.length - 1 - j]?.getD 0)
set_option maxRecDepth 100000 in
set_option maxHeartbeats 2000000 in
theorem bw1_in (n : Nat) (hn : 1 ≤ n) (lp Bs n₀ m cap : Nat) (a : Option Addr) (l : List Int) (hll : l.length ≤ 1000) (hBn : Bs < n₀) (hBm : Bs ≠ m) (J Jx : List (Nat × Int) → World → Prop)
    (hY : ∀ pre x W, J pre W → pre.length < l.length → YieldAt Fence.wide (n - 1) Try.prog lp #[.int .i64 (x.1 : Int), .int .i64 x.2] W fun e W' =>
      (e = .returned (.bool true) ∧ J (pre ++ [x]) W' ∧ KeepB n₀ m W W') ∨ (e = .returned (.bool false) ∧ Jx (pre ++ [x]) W'))
    (W : World) (hBs : W.cell? ⟨Bs, 0, none⟩ = some (.slice a l.length cap)) (hc : ∀ j, j < l.length → ∃ b off, a = some ⟨b, off, none⟩ ∧ b < n₀ ∧ b ≠ m ∧ W.cell? ⟨b, off + j, none⟩ = some (.int .i64 (l[j]?.getD 0))) (h0 : J [] W) :
    CallsIn Fence.wide n Try.prog 129 #[.func (.yield lp) #[] #[], .pointer (some ⟨Bs, 0, none⟩)] W fun e W' => (∃ v, e = .returned v) ∧
      ((∃ ys, ys = uptoF (bwAt l) l.length ∧ J ys W') ∨ (∃ pre, (∃ k, k ≤ l.length ∧ pre = uptoF (bwAt l) k) ∧ Jx pre W')) := by
  have hsem := @Oper.semAt_some
  refine callsIn_of_wp Try.func129 rfl trivial ?_ rfl
  simp only [Try.ntmps129, List.size_toArray, List.length_cons, List.length_nil, Nat.reduceAdd, Nat.reduceSub, Array.replicate_succ, Array.replicate_zero, List.push_toArray, List.append_toArray, List.nil_append, List.cons_append]
  gi_wp2
  gi_loopw [3] (fun i wr => ∃ k : Nat, k ≤ l.length ∧ i = .int .i64 ((l.length : Int) - 1 - k) ∧ J (uptoF (bwAt l) k) wr ∧ KeepB n₀ m W wr)
    (fun i _ => (intOf i + 1).toNat)
  case atStart => exact ⟨0, Nat.zero_le _, by simp, h0, KeepB.refl _ _ _⟩
  case round =>
    obtain ⟨k, hk, rfl, hJs, hnx⟩ := hrel
    have hBs' := hnx.cell hBn hBm hBs
    by_cases hlt : k < l.length
    · obtain ⟨b, off, rfl, hb, hbm, hcx0⟩ := hc (l.length - 1 - k) (by omega)
      have hcx := hnx.cell hb hbm hcx0
      clear hcx0
      have e1 : (0 : Int) ≤ (l.length : Int) - 1 - k := by omega
      have e2 : ((l.length : Int) - 1 - k).toNat = l.length - 1 - k := by omega
      have e3 : (l.length : Int) - 1 - k < (l.length : Int) := by omega
      have e4 : ((l.length - 1 - k : Nat) : Int) = (l.length : Int) - 1 - k := by omega
      obtain ⟨fn, tmps, assign, body, hy, hR⟩ := hY _ (bwAt l k) wr hJs (by rw [uptoF_length]; exact hlt)
      dsimp only [bwAt] at hy
      rw [e4] at hy
      gi_wp2
      refine hR.mono ?_
      rintro e W3 (⟨rfl, hJ3, hk3⟩ | ⟨rfl, hJx3⟩)
      · gi_wp2
        go_roundw
        case rel => exact ⟨k + 1, by omega, by congr 1; omega, by rw [uptoF_succ]; exact hJ3, hnx.trans hk3⟩
        case measure => simp [intOf]; omega
      · gi_wp2
        refine bodyPost_ret (results_none rfl _ _ _) rfl ?_
        exact ⟨⟨_, rfl⟩, .inr ⟨_, ⟨k + 1, by omega, (uptoF_succ _ _).symm⟩, hJx3⟩⟩
    · obtain rfl : k = l.length := by omega
      have e1 : (l.length : Int) - 1 - (l.length : Int) < 0 := by omega
      gi_wp2
      go_end0
      exact ⟨⟨_, rfl⟩, .inl ⟨_, rfl, hJs⟩⟩
set_option maxHeartbeats 1000000 in
theorem bw_in (n : Nat) (a : Option Addr) (len cap : Nat) (w : World) :
    CallsIn Fence.wide n Try.prog 106 #[.slice a len cap] w fun e w' => e = .returned (.func (.func 129) #[] #[.pointer (some ⟨w.heap.size, 0, none⟩)]) ∧ w' = w.alloc (.cells #[.slice a len cap] 25) := by
  refine callsIn_of_wp Try.func106 rfl trivial ?_ rfl
  simp only [Try.ntmps106, List.size_toArray, List.length_cons, List.length_nil, Nat.reduceAdd, Nat.reduceSub, Array.replicate_succ, Array.replicate_zero, List.push_toArray, List.append_toArray, List.nil_append, List.cons_append]
  gi_wp2
  go_ret
  exact ⟨rfl, rfl⟩
theorem bw_stops (n : Nat) (hn : 1 ≤ n) (Bs n₀ m cap : Nat) (a : Option Addr) (l : List Int) (hll : l.length ≤ 1000) (w : World) (hBs : Bs < w.heap.size) (hn₀ : n₀ ≤ w.heap.size) (hBn : Bs < n₀) (hBm : Bs ≠ m)
    (hc : w.cell? ⟨Bs, 0, none⟩ = some (.slice a l.length cap)) (hI : ∀ j, j < l.length → ∃ b off, a = some ⟨b, off, none⟩ ∧ b < n₀ ∧ b ≠ m ∧ w.cell? ⟨b, off + j, none⟩ = some (.int .i64 (l[j]?.getD 0))) :
    SeqStopsK Fence.wide n Try.prog 129 #[.pointer (some ⟨Bs, 0, none⟩)] (fun x : Nat × Int => #[Value.int .i64 (x.1 : Int), Value.int .i64 x.2]) (KeepB n₀ m) (fun ys => ys = uptoF (bwAt l) l.length)
      (fun pre => ∃ k, k ≤ l.length ∧ pre = uptoF (bwAt l) k) l.length w := fun lp J Jx W hW _ _ hY h0 =>
  bw1_in n hn lp Bs n₀ m cap a l hll hBn hBm J Jx hY W ((hW.cell (p := ⟨Bs, 0, none⟩) hBs).trans hc) (fun j hj => by
    obtain ⟨b, off, e1, e2, e3, e4⟩ := hI j hj
    exact ⟨b, off, e1, e2, e3, (hW.cell (p := ⟨b, off + j, none⟩) (Nat.lt_of_lt_of_le e2 hn₀)).trans e4⟩) h0
def negs (pre : List (Nat × Int)) : List Int := pre.map fun p => wrap64 (-p.2)
theorem negs_snoc (pre : List (Nat × Int)) (x : Nat × Int) : negs (pre ++ [x]) = negs pre ++ [wrap64 (-x.2)] := by simp [negs]
theorem uptoF_inv {l : List Int} (hb : ∀ x ∈ l, -1000 ≤ x ∧ x ≤ 1000) : ∀ k, k ≤ l.length → negs (uptoF (bwAt l) k) = invTk l k := by
  intro k
  induction k with
  | zero => intro _; simp [uptoF, invTk, negs]
  | succ k ih =>
    intro hk
    rw [uptoF_succ, negs_snoc, ih (by omega), invTk_succ (by omega)]
    have h1 : (bwAt l k).2 = l[l.length - 1 - k] := by
      show l[l.length - 1 - k]?.getD 0 = _
      rw [List.getElem?_eq_getElem (by omega)]; rfl
    rw [h1]
    have := hb l[l.length - 1 - k] (List.getElem_mem _)
    rw [wrap64_lit _ (by omega) (by omega)]
set_option maxRecDepth 100000 in
set_option maxHeartbeats 4000000 in
theorem implInvW_in (a : Option Addr) (cap : Nat) (l : List Int) (fp : List Nat) (w : World) (IL : IntsA w a cap l fp) (hb : ∀ x ∈ l, -1000 ≤ x ∧ x ≤ 1000) (hl : l.length ≤ 1000) :
    CallsIn Fence.wide 5 Try.prog 76 #[.slice a l.length cap] w fun e W' => ∃ v, e = .returned v ∧ W'.ownsRow w.heap.size 2 1 v (invW l).length ((invW l).map (Value.int .i64)) ∧ Below w.heap.size w W' := by
  have hsem := @Oper.semAt_some
  obtain ⟨i0, hi, hz0, hz1, hz2⟩ := info_parts Try.info2
  refine callsIn_of_wp_marks Try.func76 rfl trivial ?_ rfl
  simp only [Try.ntmps76, List.size_toArray, List.length_cons, List.length_nil, Nat.reduceAdd, Nat.reduceSub, Array.replicate_succ, Array.replicate_zero, List.push_toArray, List.append_toArray, List.nil_append, List.cons_append]
  gi_wp2_with (refine ⟨trivial, ?_⟩; gi_at_call 106; refine (bw_in _ _ _ _ _).mono ?_; rintro e w' ⟨rfl, rfl⟩)
  have bO := Boxed.new w 25 (.slice none 0 0)
  have bN := Boxed.new (w.alloc (.cells #[.slice none 0 0] 25)) 25 (.slice a l.length cap)
  rw [World.size_alloc] at bN
  have hB0 : Below w.heap.size w ((w.alloc (.cells #[.slice none 0 0] 25)).alloc (.cells #[.slice a l.length cap] 25)) := ((Below.refl _ w).alloc (Nat.le_refl _) _).alloc (by simp) _
  refine wpIn_rangeFunc_ownG rfl (by omega) (gf := 129) (lb := #[.pointer (some ⟨w.heap.size + 1, 0, none⟩)]) rfl trivial (enters_of Try.func129 (by kernel_rfl) rfl)
    (bw_stops 4 (by omega) (w.heap.size + 1) (w.heap.size + 2) w.heap.size cap a l hl _ (by simp) (by simp) (by omega) (by omega) bN.cell (fun j hj => by
      obtain ⟨b, off, e1, e2, e3⟩ := IL.at_ j hj
      have hbl := IL.lt b (by rw [e2]; simp)
      exact ⟨b, off, e1, by omega, by omega, (hB0.cell (p := ⟨b, off + j, none⟩) hbl).trans (by rw [e3, List.getElem?_eq_getElem hj]; rfl)⟩)) KeepB.trans (keepB_b (by simp)) (Below.refl _ _) (fun _ => rfl)
    (fun pre W => (∃ v, Boxed W w.heap.size 25 v ∧ W.ownsRow w.heap.size 2 1 v (negs pre).length ((negs pre).map (Value.int .i64)) ∧ True) ∧ (Boxed W (w.heap.size + 1) 25 (.slice a l.length cap) ∧ Below w.heap.size w W))
    (fun _ _ _ => False)
    (OwnFrom.and (Own.from (holdsRow_own w.heap.size w.heap.size 25 2 1 (fun pre => (negs pre).length) (fun pre => (negs pre).map (Value.int .i64)) (fun _ _ => True)) _) (OwnFrom.and (Own.from (boxed_own (w.heap.size + 1) 25 (fun _ => .slice a l.length cap)) _) (ownFrom_below (Nat.le_refl _) (by simp; omega))))
    (fun _ _ _ _ _ hs _ _ => hs)
    ⟨⟨_, bO.alloc _, World.ownsRow_nil _ _ _ _, trivial⟩, bN, hB0⟩
    (fun x => { tmps := #[.slice a l.length cap, undef, .slice none 0 0, .pointer (some ⟨w.heap.size, 0, none⟩), undef, .int .i64 x.2, .slice a l.length cap, .func (.func 129) #[] #[.pointer (some ⟨w.heap.size + 1, 0, none⟩)], .int .i64 (x.1 : Int), .int .i64 x.2, undef, undef, undef, undef, undef, undef], defers := [] }) ?assign ?body ?done ?stop
  case assign =>
    intro l x W K hK
    gi_wp2
    exact hK
  case body =>
    rintro l' pre x W ⟨⟨v, hv, hrow, -⟩, hN, hB⟩ hlt
    have hc := hv.cell
    have hpl : (negs pre).length ≤ pre.length := by simp [negs]
    have hnr := hN.not_row (by decide) hrow
    have hol := hrow.lt
    gi_wp2_with (gi_at_builtin; refine wpListIn_append_own _ rfl _ _ 25 rfl w.heap.size 2 i0 (.int .i64 0) 1 8 Try.underlying25 hi hz0 hz1 hz2 rfl (by decide) _ _ _ rfl (hrow.alloc _) ⟨W.heap.size, 0, none⟩ 1 1 [.int .i64 (wrap64 (-x.2))] rfl rfl (cell_one_new _ _ _) (by simp [Value.oneCell']) (by unfold maxLen; omega) (by omega) (by have := hB.size; simp; omega) ?_; intro v' w1 hown' hgrow _; obtain ⟨g', cap', rfl⟩ := ownsRow_succ hown'; obtain ⟨hv1, hv2, hr2, hk2, hb2⟩ := hv.appended (by decide) hrow hB.size (Nat.le_refl _) hown' hgrow; have hc1 := hv1.cell; have hf1 := hv1.frozen)
    have hkk : ∀ k, k < w.heap.size + 2 → k ≠ w.heap.size → w1.heap[k]? = W.heap[k]? := fun k hk hkn => by
      have h1 := hN.lt
      rw [hgrow.block k (by simp; omega) (fun e => by
        by_cases h2 : k = w.heap.size + 1
        · subst h2; exact hnr e
        · have := (hol k e.symm).1; omega)]
      exact Below.heap_alloc _ _ _ (by omega)
    have hKB : KeepB (w.heap.size + 2) w.heap.size W (w1.setCell ⟨w.heap.size, 0, none⟩ (.slice (some ⟨g', 0, none⟩) ((negs pre).length + 1) cap')) := fun k hk hkn => by
      rw [Below.heap_setCell _ _ _ _ hkn]; exact hkk k hk hkn
    have hN2 : Boxed (w1.setCell ⟨w.heap.size, 0, none⟩ (.slice (some ⟨g', 0, none⟩) ((negs pre).length + 1) cap')) (w.heap.size + 1) 25 (.slice a l.length cap) := (hKB (w.heap.size + 1) (by omega) (by omega)).trans hN
    exact ⟨hk2.from _, hKB, ⟨_, hv2, by rw [negs_snoc, List.length_append, List.map_append]; exact hr2, trivial⟩, hN2, hB.trans hb2⟩
  case done =>
    rintro D ys W hD rfl ⟨⟨v, hv, hrow, -⟩, -, hB⟩ hK
    have hc := hv.cell
    gi_wp2
    refine ⟨by simp, .inl ⟨_, _, rfl, run_takeDeferred hK, ?_⟩⟩
    have hall : negs (uptoF (bwAt l) l.length) = invW l := by
      rw [uptoF_inv hb _ (Nat.le_refl _)]; unfold invTk; rw [List.take_of_length_le (by rw [invW_len]; omega)]
    rw [hall] at hrow
    exact ⟨_, results_tmp rfl _ _ _, v, rfl, ownsRow_putObj hrow _ hK rfl, hB.trans (belowK_b (w := w) (Nat.le_refl _) W D _ _ (by simp at hD; omega) hK rfl rfl)⟩
  case stop =>
    rintro D c pre W _ _ h _
    exact h.elim
theorem implInvW_rd (v : Value) (l : List Int) (fp : List Nat) (w : World) (h : Rd w v l fp) (hb : ∀ x ∈ l, -1000 ≤ x ∧ x ≤ 1000) (hl : l.length ≤ 1000) :
    Calls Try.prog 76 #[v] w fun e w' => ∃ v fp', e = .returned v ∧ Rd w' v (invW l) fp' ∧ Fresh w.heap.size w' fp' ∧ Only [] w w' := by
  obtain ⟨a, cap, rfl, IL⟩ := h.ints
  refine (callsIn_wide.1 (implInvW_in a cap l fp w IL hb hl)).mono ?_
  rintro e w' ⟨v, rfl, hO, hB⟩
  obtain ⟨a', cap', hv, -, hI, hF⟩ := own_ints hO (invW_i64 hb)
  have hr := hI.rd
  rw [← hv] at hr
  exact ⟨_, _, rfl, hr, hF, Only.ofBelow hB []⟩
end Go.Proofs.Ytpfmkjcngknecaa
