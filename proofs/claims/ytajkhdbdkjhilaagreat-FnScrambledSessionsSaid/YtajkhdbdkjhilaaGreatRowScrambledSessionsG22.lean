/- Lengths of words: free reduction, runs; the reference's and the program's functions. SessionLength: the reference's and the program's. Whether a word solves a state: the reference's and the program's functions (laws 42, 43). The laws' drawn tracked sets (laws 10, 11). The laws' drawn puzzles (laws 10, 11). The laws' own comparison of numbers: likeInts (laws 10, 11). The law on sessions (law 50): its walk. (Printed by mkseslaw.py.) The law on scrambled sessions (law 55): its walk. (Printed by mkscrlaw.py.) -/
import Derived.Test.YtajkhdbdkjhilaaGreatRowScrambledSessionsG9
import Derived.BigQuiet
import Derived.Test.YtajkhdbdkjhilaaGreatRowScrambledSessionsG10
import Derived.Test.YtajkhdbdkjhilaaGreatRowScrambledSessionsG3
import Derived.Test.YtajkhdbdkjhilaaGreatRowScrambledSessionsG13
import Derived.Test.YtajkhdbdkjhilaaGreatRowScrambledSessionsG20
import Derived.Test.YtajkhdbdkjhilaaGreatRowScrambledSessionsG21
import Derived.Deep.RegionHeld3
namespace Go.Proofs.YtajkhdbdkjhilaaGreat
open Go.RowKit
set_option maxRecDepth 10000

/-- one letter more, freely reduced -/
def frS (out : List Int) (x : Int) : List Int := if out.getLast? = some (-x) then out.dropLast else out ++ [x]
def freeR (l : List Int) : List Int := l.foldl frS []
theorem freeR_snoc (l : List Int) (x : Int) : freeR (l ++ [x]) = frS (freeR l) x := by simp [freeR]
theorem frS_len (out : List Int) (x : Int) : (frS out x).length ≤ out.length + 1 := by unfold frS; split <;> simp <;> omega
theorem frS_mem {out : List Int} {x y : Int} (h : y ∈ frS out x) : y ∈ out ∨ y = x := by
  unfold frS at h
  split at h
  · exact .inl (List.dropLast_subset _ h)
  · simpa using h
theorem freeR_facts : ∀ (l : List Int), (freeR l).length ≤ l.length ∧ ∀ y ∈ freeR l, y ∈ l := by
  have key : ∀ (l : List Int) (out : List Int), (l.foldl frS out).length ≤ out.length + l.length ∧ ∀ y ∈ l.foldl frS out, y ∈ out ∨ y ∈ l := by
    intro l
    induction l with
    | nil => intro out; exact ⟨by simp, fun y hy => .inl hy⟩
    | cons x l ih =>
      intro out
      obtain ⟨h1, h2⟩ := ih (frS out x)
      refine ⟨?_, fun y hy => ?_⟩
      · have := frS_len out x
        simp only [List.foldl_cons, List.length_cons]
        omega
      · rcases h2 y hy with h | h
        · rcases frS_mem h with h | h
          · exact .inl h
          · exact .inr (by simp [h])
        · exact .inr (by simp [h])
  intro l
  obtain ⟨h1, h2⟩ := key l []
  exact ⟨by simpa [freeR] using h1, fun y hy => by simpa using h2 y hy⟩
theorem frS_nil {x : Int} : frS [] x = [x] := by simp [frS]
theorem getLast_get {out : List Int} (h : 0 < out.length) : out.getLast? = some out[out.length - 1] := by rw [List.getLast?_eq_getElem?, List.getElem?_eq_getElem (by omega)]
theorem frS_pop {out : List Int} {x : Int} (h : 0 < out.length) (he : out[out.length - 1] = -x) : frS out x = out.dropLast := by
  unfold frS; rw [getLast_get h, he, if_pos rfl]
theorem frS_push {out : List Int} {x : Int} (h : 0 < out.length) (he : out[out.length - 1] ≠ -x) : frS out x = out ++ [x] := by
  unfold frS; rw [getLast_get h, if_neg (by simpa using he)]
/-- a slice of int64s of the call's own, without its last element -/
theorem ownsRow_pop {w : World} {B : Nat} {e : TypeId} {v : Value} {l : List Int} (h : w.ownsRow B e 1 v l.length (l.map (Value.int .i64))) (hl : 0 < l.length) :
    ∃ g c, v = .slice (some ⟨g, 0, none⟩) l.length c ∧ l.length ≤ c ∧ c ≤ maxLen ∧ w.cell? ⟨g, l.length - 1, none⟩ = some (.int .i64 l[l.length - 1]) ∧
      w.ownsRow B e 1 (.slice (some ⟨g, 0, none⟩) (l.length - 1) c) (l.length - 1) (l.dropLast.map (Value.int .i64)) := by
  rcases h.2 with ⟨-, h0⟩ | ⟨g, cap, cur, hv, hb, hg, h1, h2, h3, h4⟩
  · omega
  · subst hv
    refine ⟨g, cap, rfl, h1, h2, ?_, ⟨by simp, .inr ⟨g, cap, cur, rfl, hb, hg, by omega, h2, h3, ?_⟩⟩⟩
    · rw [h.cellAt _ (by omega)]
      simp [List.getElem?_eq_getElem (show l.length - 1 < l.length by omega)]
    · have : cur.toList.take ((l.length - 1) * 1) = (cur.toList.take (l.length * 1)).take (l.length - 1) := by rw [List.take_take]; congr 1; omega
      rw [this, h4, ← List.map_take, List.dropLast_eq_take]
theorem own_form {w : World} {B : Nat} {e : TypeId} {v : Value} {n s : Nat} {xs : List Value} (h : w.ownsRow B e s v n xs) : ∃ a c, v = .slice a n c := by
  rcases h.2 with ⟨rfl, rfl⟩ | ⟨g, cap, cur, rfl, -⟩
  · exact ⟨_, _, rfl⟩
  · exact ⟨_, _, rfl⟩
set_option maxHeartbeats 2000000 in
theorem implFreeR_rd (v : Value) (l : List Int) (fp : List Nat) (w : World) (h : Rd w v l fp) (hb : ∀ x ∈ l, -1000 ≤ x ∧ x ≤ 1000) (hl : l.length ≤ 1000) :
    Calls Tryz.prog 88 #[v] w fun e w' => ∃ v fp', e = .returned v ∧ Rd w' v (freeR l) fp' ∧ Fresh w.heap.size w' fp' ∧ Only [] w w' := by
  obtain ⟨i0, hi, hz0, hz1, hz2⟩ := info_parts Tryz.info2
  obtain ⟨a, cap, rfl, IL⟩ := h.ints
  have Hb := Lib.hid hb
  clear hb
  go_enter Tryz.func88, Tryz.ntmps88
  go_wp2
  go_loopw [3, 9] (fun o i wr => ∃ j : Nat, j ≤ l.length ∧ i = .int .i64 j ∧ wr.ownsRow w.heap.size 2 1 o (freeR (l.take j)).length ((freeR (l.take j)).map (Value.int .i64)) ∧ Only [] w wr)
    (fun _ i _ => l.length - (intOf i).toNat)
  case atStart => exact ⟨0, Nat.zero_le _, rfl, ⟨by simp, .inl ⟨rfl, rfl⟩⟩, Only.refl _ _⟩
  case round =>
    obtain ⟨j, hj, rfl, hO, hK⟩ := hrel
    obtain ⟨hfl, hfm⟩ := freeR_facts (l.take j)
    have hfl2 : (freeR (l.take j)).length ≤ j := Nat.le_trans hfl (by simp; omega)
    by_cases hlt : j < l.length
    · have hsz := hK.size
      obtain ⟨b, off, rfl, -, hc0⟩ := IL.at_ j hlt
      have hc := hK.cell (by simp) hc0
      obtain ⟨x, hx⟩ : ∃ x, x = l[j] := ⟨_, rfl⟩
      rw [← hx] at hc
      have hbx := Hb.out l[j] (List.getElem_mem _)
      rw [← hx] at hbx
      have hb1 := hbx.1
      have hb2 := hbx.2
      have hst : freeR (l.take (j + 1)) = frS (freeR (l.take j)) x := by rw [take_succ_get l j hlt, freeR_snoc, hx]
      have Hst := Lib.hid hst
      have hbm : ∀ y ∈ freeR (l.take j), -1000 ≤ y ∧ y ≤ 1000 := fun y hy => Hb.out y (List.mem_of_mem_take (hfm y hy))
      obtain ⟨out, hout⟩ : ∃ out, out = freeR (l.take j) := ⟨_, rfl⟩
      rw [← hout] at hO Hst hfl2 hbm
      clear hc0 hbx hst hx hout hfl hfm
      by_cases h0 : out.length = 0
      · obtain rfl : out = [] := List.eq_nil_of_length_eq_zero h0
        simp only [List.length_nil, List.map_nil] at hO
        obtain ⟨a3, c3, ha3⟩ : ∃ a3 c3, _ = Value.slice a3 0 c3 := own_form hO
        subst ha3
        have HO := Lib.hid hO
        clear h0 hbm hO
        go_wp2_with (first
          | (at_builtin; refine wpList_app _ rfl _ _ 27 rfl w.heap.size 2 i0 _ 1 8 Tryz.underlying27 hi hz0 hz1 hz2 rfl (by omega) (.slice a3 0 c3) 0 [] rfl (HO.out.alloc _) (some ⟨wr.heap.size, 0, none⟩) 1 1 [.int .i64 x] rfl rfl (lit_srcA _ [.int .i64 x] _ rfl) (by simp) (by intro u hu; simp at hu; subst hu; rfl) (by unfold maxLen; omega) (by omega) (by simp; omega) ?_; intro v1 w1 hO1 hg1 hb1)
          | fail "no arm")
        go_roundw
        case rel => exact ⟨j + 1, by omega, by go_num, by rw [Hst.out, frS_nil]; exact hO1, (hK.alloc _).grown hg1 (by intro k hk hk2; have := (HO.out.lt k hk).1; omega)⟩
        case measure => simp [intOf]; omega
      · have hpos : 0 < out.length := by omega
        clear h0
        obtain ⟨g, c3, rfl, hc1, hc2, hcl, hpop⟩ := ownsRow_pop hO hpos
        obtain ⟨y, hy⟩ : ∃ y, y = out[out.length - 1] := ⟨_, rfl⟩
        rw [← hy] at hcl
        have hby := hbm out[out.length - 1] (List.getElem_mem (by omega))
        rw [← hy] at hby
        have hy1 := hby.1
        have hy2 := hby.2
        have e1 : (0 : Int) ≤ (out.length : Int) - 1 := by omega
        have e2 : ((out.length : Int) - 1).toNat = out.length - 1 := by omega
        have e3 : (out.length : Int) - 1 < (out.length : Int) := by omega
        have e4 : (out.length : Int) - 1 ≤ (c3 : Int) := by omega
        have e5 : (0 : Int) < (out.length : Int) := by omega
        have e6 : (1 : Int) ≤ (out.length : Int) := by omega
        unfold maxLen at hc2
        have Hpop := Lib.hid hpop
        have HO := Lib.hid hO
        have Hy := Lib.hid hy
        by_cases heq : y = -x
        · have d1 : (y == -x) = true := by simp [heq]
          have Heq := Lib.hid heq
          clear hpop hO hby hbm hy heq
          go_wp2
          go_roundw
          case rel => exact ⟨j + 1, by omega, by go_num, by rw [Hst.out, frS_pop (by omega) (Hy.out.symm.trans Heq.out), List.length_dropLast]; exact Hpop.out, hK⟩
          case measure => simp [intOf]; omega
        · have d1 : (y == -x) = false := by simp [heq]
          have Heq := Lib.hid heq
          clear hpop hO hby hbm hy heq
          go_wp2_with (first
            | (at_builtin; refine wpList_app _ rfl _ _ 27 rfl w.heap.size 2 i0 _ 1 8 Tryz.underlying27 hi hz0 hz1 hz2 rfl (by omega) (.slice (some ⟨g, 0, none⟩) out.length c3) out.length (out.map (Value.int .i64)) rfl (HO.out.alloc _) (some ⟨wr.heap.size, 0, none⟩) 1 1 [.int .i64 x] rfl rfl (lit_srcA _ [.int .i64 x] _ rfl) (by simp) (by intro u hu; simp at hu; subst hu; rfl) (by unfold maxLen; omega) (by omega) (by simp; omega) ?_; intro v1 w1 hO1 hg1 hb1)
            | fail "no arm")
          go_roundw
          case rel => exact ⟨j + 1, by omega, by go_num, by rw [Hst.out, frS_push (by omega) (by rw [← Hy.out]; exact Heq.out), List.length_append, List.map_append]; exact hO1, (hK.alloc _).grown hg1 (by intro k hk hk2; have := (HO.out.lt k hk).1; omega)⟩
          case measure => simp [intOf]; omega
    · obtain rfl : j = l.length := by omega
      rw [List.take_length] at hO
      have hI64 : ∀ y ∈ freeR l, I64 y := fun y hy => by have := Hb.out y ((freeR_facts l).2 y hy); unfold I64; omega
      obtain ⟨a', cap', hv, -, hI, hF⟩ := own_ints hO hI64
      have HI := Lib.hid hI
      have Hv := Lib.hid hv
      clear hO hv hI hI64 hfl hfm hfl2
      go_wp2
      go_ret
      refine ⟨_, _, rfl, ?_, hF, hK⟩
      have hr := HI.out.rd
      rw [← Hv.out] at hr; exact hr
/-- two letters of one generator -/
def sm (x y : Int) : Bool := x == y || x == -y
/-- whether the place belongs to the run before it -/
def sameAt (l : List Int) (i : Nat) : Bool := decide (0 < i) && sm (l[i - 1]?.getD 0) (l[i]?.getD 0)
/-- how many of the first so many places count in a metric -/
def lenTo (l : List Int) (m : Int) : Nat → Nat
  | 0 => 0
  | j + 1 => lenTo l m j + if m = 1 ∨ sameAt l j = false then 1 else 0
def wLen (l : List Int) (m : Int) : Nat := lenTo (freeR l) m (freeR l).length
theorem lenTo_one (l : List Int) (j : Nat) : lenTo l 1 j = j := by
  induction j with
  | zero => rfl
  | succ j ih => simp [lenTo, ih]
theorem lenTo_le (l : List Int) (m : Int) (j : Nat) : lenTo l m j ≤ j := by
  induction j with
  | zero => exact Nat.le_refl _
  | succ j ih => simp only [lenTo]; split <;> omega
theorem wLen_le (l : List Int) (m : Int) : wLen l m ≤ l.length := Nat.le_trans (lenTo_le _ _ _) (freeR_facts l).1
theorem sameAt_zero (l : List Int) : sameAt l 0 = false := by simp [sameAt]
theorem sameAt_pos {l : List Int} {j : Nat} (h0 : 0 < j) (h : j < l.length) : sameAt l j = sm (l[j - 1]'(by omega)) l[j] := by
  unfold sameAt
  rw [List.getElem?_eq_getElem (show j - 1 < l.length by omega), List.getElem?_eq_getElem h]
  simp [h0]
/-- runs under construction: an own row of rows of which the last is the call's own -/
def RunsA (B : Nat) (w : World) (o : Value) (n j : Nat) : Prop :=
  ∃ vs, w.ownsRow B 27 1 o n vs ∧ (0 < j → ∃ (m : Nat) (v : Value) (xs : List Int), 0 < n ∧ vs[n - 1]? = some v ∧ 0 < m ∧ m ≤ j ∧ w.ownsRow B 2 1 v m (xs.map (Value.int .i64)))
theorem RunsA.keep {B : Nat} {w w' : World} {o : Value} {n j : Nat} (h : RunsA B w o n j) (ho : Only [] w w') : RunsA B w' o n j := by
  obtain ⟨vs, h1, h2⟩ := h
  refine ⟨vs, owns_keep h1 ho, fun hj => ?_⟩
  obtain ⟨m, v, xs, h3, h4, h5, h6, h7⟩ := h2 hj
  exact ⟨m, v, xs, h3, h4, h5, h6, owns_keep h7 ho⟩
theorem RunsA.push {B : Nat} {w1 : World} {v1 : Value} {n j : Nat} {x : Int} {vs : List Value} {g : Nat} (hB : B ≤ g)
    (h : w1.ownsRow B 27 1 v1 (n + 1) (vs ++ [.slice (some ⟨g, 0, none⟩) 1 1])) (hv : vs.length = n)
    (hg : w1.heap[g]? = some (.cells #[.int .i64 x] 2 (0, 0))) : RunsA B w1 v1 (n + 1) (j + 1) :=
  ⟨_, h, fun _ => ⟨1, _, [x], by omega, by rw [Nat.add_sub_cancel, List.getElem?_append_right (by omega), hv]; simp, by omega, by omega, by simp, .inr ⟨g, 1, _, rfl, hB, hg, Nat.le_refl _, by simp [maxLen], rfl, rfl⟩⟩⟩
theorem lenTo_succ0 (l : List Int) (m : Int) : lenTo l m 1 = 1 := by simp [lenTo, sameAt_zero]
theorem lenTo_succ {l : List Int} (m : Int) {j : Nat} (h0 : 0 < j) (h : j < l.length) : lenTo l m (j + 1) = lenTo l m j + if (m == 1 || !(sm (l[j - 1]'(by omega)) l[j])) = true then 1 else 0 := by
  simp only [lenTo]
  rw [sameAt_pos h0 h]
  congr 1
  by_cases hm : m = 1
  · simp [hm]
  · simp [hm]
set_option maxHeartbeats 1000000 in
theorem sameMove_any (x y : Int) (w : World) (h1 : -1000 ≤ y) (h2 : y ≤ 1000) :
    Calls Tryz.prog 91 #[.int .i64 x, .int .i64 y] w fun e w' => e = .returned (.bool (sm x y)) ∧ Only [] w w' := by
  unfold sm
  rcases d1 : (x == y)
  all_goals rcases d2 : (x == -y)
  all_goals go_enter Tryz.func91, Tryz.ntmps91
  all_goals go_wp2
  all_goals go_ret
  all_goals exact ⟨ret_bool (by simp), Only.refl _ _⟩
theorem RunsA.more {B : Nat} {wr w1 : World} {o v1 u : Value} {n j : Nat} {x : Int} {vs : List Value} (hO : wr.ownsRow B 27 1 o n vs) (hB : B ≤ wr.heap.size)
    (h : w1.ownsRow B 27 1 v1 (n + 1) (vs ++ [.slice (some ⟨wr.heap.size, 0, none⟩) 1 1]))
    (hg : ((wr.alloc (.cells #[.int .i64 x] 2)).alloc (.cells #[u] 27)).grownBy w1 o.ownBlock) : RunsA B w1 v1 (n + 1) (j + 1) := by
  refine RunsA.push (x := x) hB h (by simpa using hO.1) ?_
  rw [hg.block wr.heap.size (by simp; omega) (fun e => by have := (hO.lt _ e.symm).2; omega), heap_alloc_old _ _ (by simp), heap_alloc_new]
theorem RunsA.ext {B : Nat} {w : World} {v : Value} {n j m g c : Nat} {xs : List Int} {vs : List Value} (h0 : 0 < n) (hO : w.ownsRow B 27 1 (.slice (some ⟨g, 0, none⟩) n c) n vs)
    (hI : w.ownsRow B 2 1 v m (xs.map (Value.int .i64))) (hm : 0 < m) (hj : m ≤ j) (hne : v.ownBlock ≠ some g) : RunsA B (w.setCell ⟨g, n - 1, none⟩ v) (.slice (some ⟨g, 0, none⟩) n c) n j := by
  have hl := hO.1
  refine ⟨_, (hO.stored (n - 1) v).1, fun _ => ⟨m, v, xs, h0, ?_, hm, hj, owns_only hI ((Only.refl [g] _).setCell (by simp) _) (fun k hk hk2 => hne (by simp at hk2; rw [hk, hk2]))⟩⟩
  rw [List.getElem?_set_self (by omega)]
set_option maxHeartbeats 2000000 in
theorem runs_rd (f : FuncId) (caps : Array Value) (hcf : ∀ args w, (callFunc f args).run Tryz.prog w = .ok (.enter f args) w)
    (v : Value) (l : List Int) (fp : List Nat) (w : World) (h : Rd w v l fp) (hl : l.length ≤ 1000)
    (hc : ∀ x ∈ l, ∀ y ∈ l, ∀ w', Only [] w w' → Calls Tryz.prog f (#[.int .i64 x, .int .i64 y] ++ caps) w' fun e w'' => e = .returned (.bool (sm x y)) ∧ Only [] w' w'') :
    Calls Tryz.prog 90 #[v, .func (.func f) #[] caps] w fun e w' => ∃ a c, e = .returned (.slice a (lenTo l 2 l.length) c) ∧ Only [] w w' := by
  obtain ⟨i0, hi, hz0, hz1, hz2⟩ := info_parts Tryz.info2
  obtain ⟨i1, gi1, gz0, gz1, gz2⟩ := info_parts Tryz.info22
  obtain ⟨a, cap, rfl, IL⟩ := h.ints
  have HC := Lib.hid hc
  clear hc
  go_enter Tryz.func90, Tryz.ntmps90
  go_wp2
  go_loopw [5, 10] (fun o i wr => ∃ j : Nat, j ≤ l.length ∧ i = .int .i64 j ∧ RunsA w.heap.size wr o (lenTo l 2 j) j ∧ Only [] w wr)
    (fun _ i _ => l.length - (intOf i).toNat)
  case atStart => exact ⟨0, Nat.zero_le _, rfl, ⟨[], ⟨by simp [lenTo], .inl ⟨rfl, rfl⟩⟩, fun h => absurd h (Nat.lt_irrefl _)⟩, Only.refl _ _⟩
  case round =>
    obtain ⟨j, hj, rfl, hR, hK⟩ := hrel
    have hT := lenTo_le l 2 j
    by_cases hlt : j < l.length
    · have hsz := hK.size
      obtain ⟨b, off, rfl, -, hc0⟩ := IL.at_ j hlt
      have hcc := hK.cell (by simp) hc0
      clear hc0
      by_cases hj0 : j = 0
      · obtain ⟨vs, hO, -⟩ := hR
        have hn0 : lenTo l 2 j = 0 := by rw [hj0]; rfl
        have hn1 : lenTo l 2 (j + 1) = 1 := by rw [hj0]; exact lenTo_succ0 _ _
        have hj1 : ¬ 0 < j := by omega
        rw [hn0] at hO hT
        have Hn := Lib.hid hn1
        obtain ⟨oa, oc, rfl⟩ := own_form hO
        have hvl := hO.1
        have HO := Lib.hid hO
        have Hv := Lib.hid hvl
        clear hO hvl hn0 hn1 hj0
        go_wp2_with (first
          | (at_builtin; refine wpList_app _ rfl _ _ 24 rfl w.heap.size 27 i1 _ 1 24 Tryz.underlying24 gi1 gz0 gz1 gz2 rfl (by omega) (.slice oa 0 oc) 0 vs rfl (owns_keep HO.out (((Only.refl _ _).alloc _).alloc _)) (some ⟨wr.heap.size + 1, 0, none⟩) 1 1 [.slice (some ⟨wr.heap.size, 0, none⟩) 1 1] rfl rfl (lit_srcA _ [.slice (some ⟨wr.heap.size, 0, none⟩) 1 1] _ (by simp)) (by simp) (by intro u hu; simp at hu; subst hu; rfl) (by unfold maxLen; omega) (by omega) (by simp; omega) ?_; intro v1 w1 hO1 hg1 hb1)
          | fail "no arm")
        go_roundw
        case rel => exact ⟨j + 1, by omega, by go_num, by rw [Hn.out]; exact RunsA.more HO.out (by omega) hO1 hg1, ((hK.alloc _).alloc _).grown hg1 (by intro k hk hk2; have := (HO.out.lt k hk).1; omega)⟩
        case measure => simp [intOf]; omega
      · have hj5 : 0 < j := by omega
        have hjl : j - 1 < l.length := by omega
        clear hj0
        have hS := lenTo_succ 2 hj5 hlt
        obtain ⟨b', off', hbo, -, hd0⟩ := IL.at_ (j - 1) hjl
        simp only [Option.some.injEq, Addr.mk.injEq, and_true] at hbo
        obtain ⟨rfl, rfl⟩ := hbo
        have hd := hK.cell (by simp) hd0
        have hj2 : ((j : Int) - 1).toNat = j - 1 := by omega
        have hj3 : (0 : Int) ≤ (j : Int) - 1 := by omega
        have hj4 : (j : Int) - 1 < (l.length : Int) := by omega
        obtain ⟨n, hn⟩ : ∃ n, n = lenTo l 2 j := ⟨_, rfl⟩
        rw [← hn] at hR hT hS
        obtain ⟨vs, hO, hI⟩ := hR
        obtain ⟨m, vi, xs, hn0, hlast, hm0, hmj, hI⟩ := hI hj5
        rcases hO.2 with ⟨-, h0⟩ | ⟨g, c, cur, rfl, -, hg1, -⟩
        · omega
        rcases hI.2 with ⟨-, h0⟩ | ⟨gi, ci, cur2, rfl, -, hg2, -⟩
        · omega
        have hvl := hO.1
        have hcl : wr.cell? ⟨g, n - 1, none⟩ = some (.slice (some ⟨gi, 0, none⟩) m ci) := by rw [hO.cellAt _ (by omega), hlast]
        have hgne : gi ≠ g := fun e => by
          rw [e, hg1] at hg2
          simp at hg2
        have hn1 : ((n : Int) - 1).toNat = n - 1 := by omega
        have hn2 : (0 : Int) ≤ (n : Int) - 1 := by omega
        have hn3 : (n : Int) - 1 < (n : Int) := by omega
        have HO := Lib.hid hO
        have HI := Lib.hid hI
        have HS := Lib.hid hS
        have Hvl := Lib.hid hvl
        clear hd0 hlast hn hg1 hg2 hO hI hS hvl
        rcases dS : sm (l[j - 1]'hjl) l[j]
        · have HSS := Lib.hid dS
          clear dS hcl
          go_wp2_with (first
            | (with_reducible refine (HC.out (l[j - 1]'hjl) (List.getElem_mem _) l[j] (List.getElem_mem _) wr hK).mono ?_; rintro e w2 ⟨rfl, k2⟩; have hO2 := owns_keep HO.out k2; have HO2 := Lib.hid hO2; clear hO2; rw [HSS.out])
            | (at_builtin; refine wpList_app _ rfl _ _ 24 rfl w.heap.size 27 i1 _ 1 24 Tryz.underlying24 gi1 gz0 gz1 gz2 rfl (by omega) (.slice (some ⟨g, 0, none⟩) n c) n vs rfl (owns_keep HO2.out (((Only.refl _ _).alloc _).alloc _)) (some ⟨w2.heap.size + 1, 0, none⟩) 1 1 [.slice (some ⟨w2.heap.size, 0, none⟩) 1 1] rfl rfl (lit_srcA _ [.slice (some ⟨w2.heap.size, 0, none⟩) 1 1] _ (by simp)) (by simp) (by intro u hu; simp at hu; subst hu; rfl) (by unfold maxLen; omega) (by omega) (by have := k2.size; simp; omega) ?_; intro v1 w1 hO1 hg1 hb1)
            | fail "no arm")
          go_roundw
          case rel => exact ⟨j + 1, by omega, by go_num, by rw [HS.out, HSS.out]; exact RunsA.more HO2.out (by have := k2.size; omega) hO1 hg1, (((hK.trans k2).alloc _).alloc _).grown hg1 (by intro k hk hk2; have := (HO.out.lt k hk).1; omega)⟩
          case measure => simp [intOf]; omega
        · have HSS := Lib.hid dS
          clear dS
          go_wp2_with (first
            | (with_reducible refine (HC.out (l[j - 1]'hjl) (List.getElem_mem _) l[j] (List.getElem_mem _) wr hK).mono ?_; rintro e w2 ⟨rfl, k2⟩; have hI2 := owns_keep HI.out k2; have HI2 := Lib.hid hI2; clear hI2; have hcl2 := k2.cell (by simp) hcl; have HO2 := Lib.hid (owns_keep HO.out k2); rw [HSS.out])
            | (at_builtin; refine wpList_app _ rfl _ _ 27 rfl w.heap.size 2 i0 _ 1 8 Tryz.underlying27 hi hz0 hz1 hz2 rfl (by omega) (.slice (some ⟨gi, 0, none⟩) m ci) m (xs.map (Value.int .i64)) rfl (HI2.out.alloc _) (some ⟨w2.heap.size, 0, none⟩) 1 1 [.int .i64 l[j]] rfl rfl (lit_srcA _ [.int .i64 l[j]] _ rfl) (by simp) (by intro u hu; simp at hu; subst hu; rfl) (by unfold maxLen; omega) (by omega) (by have := k2.size; simp; omega) ?_; intro v1 w1 hI3 hg1 hb1; obtain ⟨a3, c3, rfl⟩ := own_form hI3; have k3 := (Only.refl [gi] _).grown hg1 (by intro k hk _; simp [Value.ownBlock] at hk; simp [hk]); have hO3 := owns_only (HO2.out.alloc _) k3 (by intro k hk; simp [Value.ownBlock] at hk; simp; omega); have q3 : w1.cell? ⟨g, n - 1, none⟩ = some (.slice (some ⟨gi, 0, none⟩) m ci) := k3.cell (by simp; omega) (((Only.refl [] w2).alloc _).cell (by simp) hcl2); have q4 := hO3.frozenAt (n - 1); have hgs := (HO2.out.lt g rfl).2; have hne : (Value.slice a3 (m + 1) c3).ownBlock ≠ some g := (by rcases hb1 with e | e <;> rw [e] <;> simp [Value.ownBlock] <;> omega); have HOO := Lib.hid hO3; have HII := Lib.hid hI3; have HNE := Lib.hid hne; clear hO3 hI3 hne hgs hcl2)
            | fail "no arm")
          go_roundw
          case rel =>
            refine ⟨j + 1, by omega, by go_num, ?_, ?_⟩
            · rw [HS.out, HSS.out]
              exact RunsA.ext (xs := xs ++ [l[j]]) hn0 HOO.out (by rw [List.map_append]; exact HII.out) (by omega) (by omega) HNE.out
            · exact (((hK.trans k2).alloc _).grown hg1 (by intro k hk hk2; have := (HI.out.lt k hk).1; omega)).setCell (by intro hk; have := (HO.out.lt g rfl).1; simp at hk; omega) _
          case measure => simp [intOf]; omega
    · obtain rfl : j = l.length := by omega
      obtain ⟨vs, hO, -⟩ := hR
      obtain ⟨oa, oc, rfl⟩ := own_form hO
      clear hO
      go_wp2
      go_ret
      exact ⟨oa, oc, rfl, hK⟩
theorem lengthAny (a : Option Addr) (n c : Nat) (w : World) : Calls Tryz.prog 71 #[.slice a n c] w fun e w' => e = .returned (.int .i64 n) ∧ w' = w := by
  go_enter Tryz.func71, Tryz.ntmps71
  go_wp2
  go_ret
  exact ⟨rfl, rfl⟩
set_option maxHeartbeats 2000000 in
theorem implWordLength_rd (v : Value) (l : List Int) (fp : List Nat) (m : Int) (w : World) (h : Rd w v l fp) (hb : ∀ x ∈ l, -1000 ≤ x ∧ x ≤ 1000) (hl : l.length ≤ 200) (h1 : 1 ≤ m) (h2 : m ≤ 2) :
    Calls Tryz.prog 48 #[v, .int .i64 m] w fun e w' => e = .returned (.int .i64 (wLen l m)) ∧ Only [] w w' := by
  have Hb := Lib.hid hb
  clear hb
  obtain ⟨r, hr⟩ : ∃ r, r = freeR l := ⟨_, rfl⟩
  obtain ⟨hfl, hfm⟩ := freeR_facts l
  rw [← hr] at hfl hfm
  have hw : ∀ k, wLen l k = lenTo r k r.length := fun k => by rw [hr]; rfl
  have Hw := Lib.hid hw
  have Hm := Lib.hid hfm
  have Hr := Lib.hid hr
  clear hr hfm hw
  by_cases hm : m = 1
  · subst hm
    go_enter Tryz.func48, Tryz.ntmps48
    go_wp2_with (first
      | (go_at_call 88; (with_reducible refine (implFreeR_rd _ l _ _ (Rp.keep h (by with_reducible repeat (first | exact Only.refl _ _ | assumption | refine Only.drewN ?_ _ | refine Only.drew ?_ | refine Only.alloc ?_ _ | refine Only.setCell ?_ (by intro hh; exfalso; simp at hh; try omega) _ | refine Only.trans ?_ (by assumption)))) Hb.out (by omega)).mono ?_); rintro e w2 ⟨v2, fp2, rfl, r2, F2, t2⟩; rw [← Hr.out] at r2; obtain ⟨a2, c2, rfl, I2⟩ := r2.ints; clear I2)
      | (go_at_call 89; (with_reducible refine (lengthInt_rd _ r fp2 _ (Rp.keep r2 (by with_reducible repeat (first | exact Only.refl _ _ | assumption | refine Only.drewN ?_ _ | refine Only.drew ?_ | refine Only.alloc ?_ _ | refine Only.setCell ?_ (by intro hh; exfalso; simp at hh; try omega) _ | refine Only.trans ?_ (by assumption))))).mono ?_); rintro e w3 ⟨rfl, rfl⟩)
      | fail "no arm")
    go_ret
    exact ⟨ret_int (by rw [Hw.out, lenTo_one]), t2⟩
  · obtain rfl : m = 2 := by omega
    clear hm
    have hle := lenTo_le r 2 r.length
    have Hc := Lib.hid (fun (v : Value) (fp : List Nat) (w : World) (h : Rd w v r fp) => runs_rd 91 #[] Tryz.call91 v r fp w h (by omega) (fun x _ y hy w' _ => sameMove_any x y w' (Hb.out y (Hm.out y hy)).1 (Hb.out y (Hm.out y hy)).2))
    go_enter Tryz.func48, Tryz.ntmps48
    go_wp2_with (first
      | (go_at_call 88; (with_reducible refine (implFreeR_rd _ l _ _ (Rp.keep h (by with_reducible repeat (first | exact Only.refl _ _ | assumption | refine Only.drewN ?_ _ | refine Only.drew ?_ | refine Only.alloc ?_ _ | refine Only.setCell ?_ (by intro hh; exfalso; simp at hh; try omega) _ | refine Only.trans ?_ (by assumption)))) Hb.out (by omega)).mono ?_); rintro e w2 ⟨v2, fp2, rfl, r2, F2, t2⟩; rw [← Hr.out] at r2; obtain ⟨a2, c2, rfl, I2⟩ := r2.ints; clear I2)
      | (go_at_call 90; (with_reducible refine (Hc.out _ fp2 _ (Rp.keep r2 (by with_reducible repeat (first | exact Only.refl _ _ | assumption | refine Only.drewN ?_ _ | refine Only.drew ?_ | refine Only.alloc ?_ _ | refine Only.setCell ?_ (by intro hh; exfalso; simp at hh; try omega) _ | refine Only.trans ?_ (by assumption))))).mono ?_); rintro e w3 ⟨a3, c3, rfl, t3⟩)
      | (go_at_call 71; (with_reducible refine (lengthAny a3 _ c3 _).mono ?_); rintro e w4 ⟨rfl, rfl⟩)
      | fail "no arm")
    go_ret
    exact ⟨ret_int (by rw [Hw.out]), t2.trans t3⟩
end Go.Proofs.YtajkhdbdkjhilaaGreat

namespace Go.Proofs.YtajkhdbdkjhilaaGreat
open Go.RowKit
set_option maxRecDepth 10000

/-- the letters or moves of a history -/
def totW (m : Int) (l : List (List Int)) : Nat := (l.map fun y => wLen y m).sum
theorem totW_snoc (m : Int) (l : List (List Int)) (y : List Int) : totW m (l ++ [y]) = totW m l + wLen y m := by simp [totW]
theorem totW_le (m : Int) : ∀ (l : List (List Int)), (∀ y ∈ l, y.length ≤ 200) → totW m l ≤ l.length * 200
  | [], _ => by simp [totW]
  | y :: l, h => by
    have h1 := totW_le m l fun z hz => h z (by simp [hz])
    have h2 := wLen_le y m
    have h3 := h y (by simp)
    have h4 : totW m (y :: l) = wLen y m + totW m l := by simp [totW]
    rw [h4, List.length_cons]
    omega
noncomputable def seLen (x : Session) (m : Int) : Int := if validSe x = true ∧ inR m 1 2 = true then (totW m x.history : Int) else -1
theorem seLen_no {x : Session} {m : Int} (h : validSe x = false) : seLen x m = -1 := by unfold seLen; rw [if_neg (by simp [h])]
theorem seLen_out {x : Session} {m : Int} (h : inR m 1 2 = false) : seLen x m = -1 := by unfold seLen; rw [if_neg (by simp [h])]
theorem seLen_yes {x : Session} {m : Int} (h : validSe x = true) (h2 : inR m 1 2 = true) : seLen x m = totW m x.history := by unfold seLen; rw [if_pos ⟨h, h2⟩]
theorem validSe_words {x : Session} (h : validSe x = true) : x.history.length ≤ 40 ∧ ∀ y ∈ x.history, validW 8 y = true ∧ y.length ≤ 200 ∧ ∀ z ∈ y, -1000 ≤ z ∧ z ≤ 1000 := by
  have hm := (validSe_facts h).2.1
  unfold validSe at h
  rw [Bool.and_eq_true, Bool.and_eq_true] at h
  obtain ⟨l1, l2⟩ := wordsB_len h.2.1
  refine ⟨l1, fun y hy => ?_⟩
  have h3 := l2 y hy
  unfold validW at h3 ⊢
  rw [Bool.and_eq_true, decide_eq_true_iff, List.all_eq_true] at h3
  refine ⟨?_, h3.1, fun z hz => ?_⟩
  · rw [Bool.and_eq_true, decide_eq_true_iff, List.all_eq_true]
    refine ⟨h3.1, fun z hz => ?_⟩
    have := okLetter_iff.1 (h3.2 z hz)
    exact okLetter_iff.2 ⟨this.1, by omega, by omega⟩
  · have := okLetter_iff.1 (h3.2 z hz)
    omega
set_option maxHeartbeats 4000000 in
theorem implSessionLength_any (cs : List Value) (x : Session) (fp : List Nat) (m : Int) (w : World) (h : Rp.rep w cs x fp) :
    Calls Tryz.prog 16 #[.agg cs.toArray, .int .i64 m] w fun e w' => e = .returned (.int .i64 (seLen x m)) ∧ Only [] w w' := by
  have h0 := h
  obtain ⟨c0, v1, v2, v3, f0, f1, f2, f3, rfl, rfl, k0, k1, k2, k3⟩ := h
  have q0 := k0
  obtain ⟨u2, rfl, p0, p1, h2⟩ := q0
  obtain ⟨A2, C2, _, _, rfl, -, -⟩ := h2.open_
  obtain ⟨A3, C3, _, _, rfl, -, -⟩ := k1.open_
  obtain ⟨A4, C4, ob, fps, rfl, -, hS⟩ := k2.open_
  obtain ⟨A5, C5, _, _, rfl, -, -⟩ := k3.open_
  clear p0 p1 h2 k0 k1 k2 k3
  rcases hq : validSe x
  · have Hf := Lib.hid (seLen_no (m := m) hq)
    have Hq := Lib.hid hq
    clear hq
    go_enter Tryz.func16, Tryz.ntmps16
    go_wp2_with (first
      | (go_at_call 9; (with_reducible refine (implIsValidSession_any [.int .i64 x.puzzle.points, .string x.puzzle.names, .slice A2 x.puzzle.moves.length C2, .slice A3 x.state.length C3, .slice A4 x.history.length C4, .slice A5 x.future.length C5] x _ _ (Rp.keep h0 (by with_reducible repeat (first | exact Only.refl _ _ | assumption | refine Only.drewN ?_ _ | refine Only.drew ?_ | refine Only.alloc ?_ _ | refine Only.setCell ?_ (by intro hh; exfalso; simp at hh; try omega) _ | refine Only.trans ?_ (by assumption))))).mono ?_); rintro e w1 ⟨he, t1⟩; rw [Hq.out] at he; subst he)
      | fail "no arm")
    go_ret
    exact ⟨ret_int Hf.out.symm, (by with_reducible repeat (first | exact Only.refl _ _ | assumption | refine Only.drewN ?_ _ | refine Only.drew ?_ | refine Only.alloc ?_ _ | refine Only.setCell ?_ (by intro hh; exfalso; simp at hh; try omega) _ | refine Only.trans ?_ (by assumption)))⟩
  rcases hi : inR m 1 2
  · have Hf := Lib.hid (seLen_out (x := x) hi)
    have Hq := Lib.hid hq
    have Hi := Lib.hid hi
    have n1 : (m != 1) = true := by
      have := inR_not.1 hi
      simp; omega
    have n2 : (m != 2) = true := by
      have := inR_not.1 hi
      simp; omega
    clear hq hi
    go_enter Tryz.func16, Tryz.ntmps16
    go_wp2_with (first
      | (go_at_call 9; (with_reducible refine (implIsValidSession_any [.int .i64 x.puzzle.points, .string x.puzzle.names, .slice A2 x.puzzle.moves.length C2, .slice A3 x.state.length C3, .slice A4 x.history.length C4, .slice A5 x.future.length C5] x _ _ (Rp.keep h0 (by with_reducible repeat (first | exact Only.refl _ _ | assumption | refine Only.drewN ?_ _ | refine Only.drew ?_ | refine Only.alloc ?_ _ | refine Only.setCell ?_ (by intro hh; exfalso; simp at hh; try omega) _ | refine Only.trans ?_ (by assumption))))).mono ?_); rintro e w1 ⟨he, t1⟩; rw [Hq.out] at he; subst he)

      | fail "no arm")
    go_ret
    exact ⟨ret_int Hf.out.symm, (by with_reducible repeat (first | exact Only.refl _ _ | assumption | refine Only.drewN ?_ _ | refine Only.drew ?_ | refine Only.alloc ?_ _ | refine Only.setCell ?_ (by intro hh; exfalso; simp at hh; try omega) _ | refine Only.trans ?_ (by assumption)))⟩
  obtain ⟨hhl, hhw⟩ := validSe_words hq
  have Hf := Lib.hid (seLen_yes hq hi)
  have Hw := Lib.hid hhw
  have Hq := Lib.hid hq
  have Hi := Lib.hid hi
  obtain ⟨m1, m2⟩ := inR_iff.1 hi
  have Hb := Lib.hid (fun k => totW_le m (x.history.take k) fun y hy => (hhw y (List.mem_of_mem_take hy)).2.1)

  clear hq hi hhw
  clear Hi
  rcases (show m = 1 ∨ m = 2 by omega) with rfl | rfl
  · go_enter Tryz.func16, Tryz.ntmps16
    go_wp2_with (first
      | (go_at_call 9; (with_reducible refine (implIsValidSession_any [.int .i64 x.puzzle.points, .string x.puzzle.names, .slice A2 x.puzzle.moves.length C2, .slice A3 x.state.length C3, .slice A4 x.history.length C4, .slice A5 x.future.length C5] x _ _ (Rp.keep h0 (by with_reducible repeat (first | exact Only.refl _ _ | assumption | refine Only.drewN ?_ _ | refine Only.drew ?_ | refine Only.alloc ?_ _ | refine Only.setCell ?_ (by intro hh; exfalso; simp at hh; try omega) _ | refine Only.trans ?_ (by assumption))))).mono ?_); rintro e w1 ⟨he, t1⟩; rw [Hq.out] at he; subst he; have y1 := t1.cells_eq w.heap.size (by simp) (by simp))

      | fail "no arm")
    have hc4 : w1.cell? ⟨w.heap.size, 4, none⟩ = some (.slice A4 x.history.length C4) := ((Blk.new w [.int .i64 x.puzzle.points, .string x.puzzle.names, .slice A2 x.puzzle.moves.length C2, .slice A3 x.state.length C3, .slice A4 x.history.length C4, .slice A5 x.future.length C5] 29).keep t1).cell 4 rfl
    have K1 : Only [] w w1 := (by with_reducible repeat (first | exact Only.refl _ _ | assumption | refine Only.drewN ?_ _ | refine Only.drew ?_ | refine Only.alloc ?_ _ | refine Only.setCell ?_ (by intro hh; exfalso; simp at hh; try omega) _ | refine Only.trans ?_ (by assumption)))
    go_loopw [5, 22] (fun t i wr => ∃ j : Nat, j ≤ x.history.length ∧ t = .int .i64 (totW 1 (x.history.take j)) ∧ i = .int .i64 j ∧ Only [] w1 wr)
      (fun _ i _ => x.history.length - (intOf i).toNat)
    case atStart => exact ⟨0, Nat.zero_le _, rfl, rfl, Only.refl _ _⟩
    case round =>
      obtain ⟨W2, hnew⟩ : ∃ W, W = wr := ⟨_, rfl⟩
      subst hnew
      obtain ⟨j, hj, rfl, rfl, hK⟩ := hrel
      have hT := Hb.out j
      rw [List.length_take, Nat.min_eq_left hj] at hT
      obtain ⟨T, hTe⟩ : ∃ T, T = totW 1 (x.history.take j) := ⟨_, rfl⟩
      rw [← hTe] at hT ⊢
      have hc5 := hK.cell (by simp) hc4
      by_cases hlt : j < x.history.length
      · obtain ⟨b, off, u, rfl, -, hcu0, hru0⟩ := hS.atRow j hlt
        have hcu := (K1.trans hK).cell (by simp) hcu0
        have hru := Rp.keep hru0 (K1.trans hK)
        have Hru := Lib.hid hru
        have hst : totW 1 (x.history.take (j + 1)) = T + wLen x.history[j] 1 := by rw [take_succ_get _ j hlt, totW_snoc, ← hTe]
        have Hst := Lib.hid hst
        obtain ⟨w8, w2', w3'⟩ := Hw.out _ (List.getElem_mem hlt)
        have hle := wLen_le x.history[j] 1
        have H8 := Lib.hid w8
        have H3 := Lib.hid w3'
        clear hcu0 hru0 hru hst hTe w8 w3'
        go_wp2_with (first
          | (go_at_call 48; (with_reducible refine (implWordLength_rd _ x.history[j] _ 1 _ Hru.out H3.out w2' m1 m2).mono ?_); rintro e w9 ⟨rfl, t9⟩)
          | fail "no arm")
        go_roundw
        case rel => exact ⟨j + 1, by omega, by rw [Hst.out]; go_num, by go_num, hK.trans t9⟩
        case measure => simp [intOf]; omega
      · obtain rfl : j = x.history.length := by omega
        have Ht := Lib.hid hTe
        clear hTe
        go_wp2
        go_ret
        exact ⟨ret_int (by rw [Hf.out, Ht.out, List.take_length]), K1.trans hK⟩
  · go_enter Tryz.func16, Tryz.ntmps16
    go_wp2_with (first
      | (go_at_call 9; (with_reducible refine (implIsValidSession_any [.int .i64 x.puzzle.points, .string x.puzzle.names, .slice A2 x.puzzle.moves.length C2, .slice A3 x.state.length C3, .slice A4 x.history.length C4, .slice A5 x.future.length C5] x _ _ (Rp.keep h0 (by with_reducible repeat (first | exact Only.refl _ _ | assumption | refine Only.drewN ?_ _ | refine Only.drew ?_ | refine Only.alloc ?_ _ | refine Only.setCell ?_ (by intro hh; exfalso; simp at hh; try omega) _ | refine Only.trans ?_ (by assumption))))).mono ?_); rintro e w1 ⟨he, t1⟩; rw [Hq.out] at he; subst he; have y1 := t1.cells_eq w.heap.size (by simp) (by simp))

      | fail "no arm")
    have hc4 : w1.cell? ⟨w.heap.size, 4, none⟩ = some (.slice A4 x.history.length C4) := ((Blk.new w [.int .i64 x.puzzle.points, .string x.puzzle.names, .slice A2 x.puzzle.moves.length C2, .slice A3 x.state.length C3, .slice A4 x.history.length C4, .slice A5 x.future.length C5] 29).keep t1).cell 4 rfl
    have K1 : Only [] w w1 := (by with_reducible repeat (first | exact Only.refl _ _ | assumption | refine Only.drewN ?_ _ | refine Only.drew ?_ | refine Only.alloc ?_ _ | refine Only.setCell ?_ (by intro hh; exfalso; simp at hh; try omega) _ | refine Only.trans ?_ (by assumption)))
    go_loopw [5, 22] (fun t i wr => ∃ j : Nat, j ≤ x.history.length ∧ t = .int .i64 (totW 2 (x.history.take j)) ∧ i = .int .i64 j ∧ Only [] w1 wr)
      (fun _ i _ => x.history.length - (intOf i).toNat)
    case atStart => exact ⟨0, Nat.zero_le _, rfl, rfl, Only.refl _ _⟩
    case round =>
      obtain ⟨W2, hnew⟩ : ∃ W, W = wr := ⟨_, rfl⟩
      subst hnew
      obtain ⟨j, hj, rfl, rfl, hK⟩ := hrel
      have hT := Hb.out j
      rw [List.length_take, Nat.min_eq_left hj] at hT
      obtain ⟨T, hTe⟩ : ∃ T, T = totW 2 (x.history.take j) := ⟨_, rfl⟩
      rw [← hTe] at hT ⊢
      have hc5 := hK.cell (by simp) hc4
      by_cases hlt : j < x.history.length
      · obtain ⟨b, off, u, rfl, -, hcu0, hru0⟩ := hS.atRow j hlt
        have hcu := (K1.trans hK).cell (by simp) hcu0
        have hru := Rp.keep hru0 (K1.trans hK)
        have Hru := Lib.hid hru
        have hst : totW 2 (x.history.take (j + 1)) = T + wLen x.history[j] 2 := by rw [take_succ_get _ j hlt, totW_snoc, ← hTe]
        have Hst := Lib.hid hst
        obtain ⟨w8, w2', w3'⟩ := Hw.out _ (List.getElem_mem hlt)
        have hle := wLen_le x.history[j] 2
        have H8 := Lib.hid w8
        have H3 := Lib.hid w3'
        clear hcu0 hru0 hru hst hTe w8 w3'
        go_wp2_with (first
          | (go_at_call 48; (with_reducible refine (implWordLength_rd _ x.history[j] _ 2 _ Hru.out H3.out w2' m1 m2).mono ?_); rintro e w9 ⟨rfl, t9⟩)
          | fail "no arm")
        go_roundw
        case rel => exact ⟨j + 1, by omega, by rw [Hst.out]; go_num, by go_num, hK.trans t9⟩
        case measure => simp [intOf]; omega
      · obtain rfl : j = x.history.length := by omega
        have Ht := Lib.hid hTe
        clear hTe
        go_wp2
        go_ret
        exact ⟨ret_int (by rw [Hf.out, Ht.out, List.take_length]), K1.trans hK⟩
end Go.Proofs.YtajkhdbdkjhilaaGreat

namespace Go.Proofs.YtajkhdbdkjhilaaGreat
open Go.RowKit
set_option maxRecDepth 10000
set_option maxHeartbeats 2000000 in
theorem specIsSolved_any (cs : List Value) (x : Puzzle) (fp : List Nat) (vs : Value) (s : List Int) (fs : List Nat) (w : World) (h : Rp.rep w cs x fp) (hs : Rd w vs s fs) (hst : stateB x s = true) :
    Calls Tryz.prog 22 #[.agg cs.toArray, vs] w fun e w' => e = .returned (.bool (eqV s (PM.pts x.points.toNat))) ∧ Only [] w w' := by
  have h0 := h
  obtain ⟨v2, rfl, p0, p1, h2⟩ := h
  obtain ⟨n1, n20⟩ := (stateB_pn hst).1
  have X0 := Blk.new w [.int .i64 x.points, .string x.names, v2] 26
  simp only [List.toArray] at X0
  go_enter Tryz.func22, Tryz.ntmps22
  go_wp2_with (first
    | (go_at_call 45; (with_reducible refine (specIsState_any [.int .i64 x.points, .string x.names, v2] x _ vs s _ _ (Rp.keep h0 (by with_reducible repeat (first | exact Only.refl _ _ | assumption | refine Only.drewN ?_ _ | refine Only.drew ?_ | refine Only.alloc ?_ _ | refine Only.setCell ?_ (by intro hh; exfalso; simp at hh; try omega) _ | refine Only.trans ?_ (by assumption)))) (Rp.keep hs (by with_reducible repeat (first | exact Only.refl _ _ | assumption | refine Only.drewN ?_ _ | refine Only.drew ?_ | refine Only.alloc ?_ _ | refine Only.setCell ?_ (by intro hh; exfalso; simp at hh; try omega) _ | refine Only.trans ?_ (by assumption))))).mono ?_); rintro e w1 ⟨he, t1⟩; rw [hst] at he; subst he; have X1 := X0.keep t1; have y0 := X1.cell 0 rfl)
    | (go_at_call 59; (with_reducible refine (specIdentity_i x.points _ (by omega) (by omega)).mono ?_); rintro e w2 ⟨v3, f3, rfl, r3, F3, t3⟩)
    | (go_at_call 58; (with_reducible refine (equalInts_rd vs v3 s (PM.pts x.points.toNat) _ _ _ (Rp.keep hs (by with_reducible repeat (first | exact Only.refl _ _ | assumption | refine Only.drewN ?_ _ | refine Only.drew ?_ | refine Only.alloc ?_ _ | refine Only.setCell ?_ (by intro hh; exfalso; simp at hh; try omega) _ | refine Only.trans ?_ (by assumption)))) (Rp.keep r3 (by with_reducible repeat (first | exact Only.refl _ _ | assumption | refine Only.drewN ?_ _ | refine Only.drew ?_ | refine Only.alloc ?_ _ | refine Only.setCell ?_ (by intro hh; exfalso; simp at hh; try omega) _ | refine Only.trans ?_ (by assumption))))).mono ?_); rintro e w3 ⟨rfl, d3⟩; have t4 := d3.only [])
    | fail "no arm")
  go_ret
  exact ⟨rfl, (by with_reducible repeat (first | exact Only.refl _ _ | assumption | refine Only.drewN ?_ _ | refine Only.drew ?_ | refine Only.alloc ?_ _ | refine Only.setCell ?_ (by intro hh; exfalso; simp at hh; try omega) _ | refine Only.trans ?_ (by assumption)))⟩

end Go.Proofs.YtajkhdbdkjhilaaGreat

namespace Go.Proofs.YtajkhdbdkjhilaaGreat
open Go.RowKit
set_option maxRecDepth 10000
end Go.Proofs.YtajkhdbdkjhilaaGreat

namespace Go.Proofs.YtajkhdbdkjhilaaGreat
open Go.RowKit
set_option maxRecDepth 10000
end Go.Proofs.YtajkhdbdkjhilaaGreat

namespace Go.Proofs.YtajkhdbdkjhilaaGreat
open Go.RowKit
set_option maxRecDepth 10000
end Go.Proofs.YtajkhdbdkjhilaaGreat

namespace Go.Proofs.YtajkhdbdkjhilaaGreat
open Go.RowKit
set_option maxRecDepth 10000

theorem se_form {w : World} {cs : List Value} {x : Session} {fp : List Nat} (h : Rp.rep w cs x fp) : ∃ A2 A3 A4 A5 C2 C3 C4 C5, cs = [.int .i64 x.puzzle.points, .string x.puzzle.names, .slice A2 x.puzzle.moves.length C2, .slice A3 x.state.length C3, .slice A4 x.history.length C4, .slice A5 x.future.length C5] := by
  obtain ⟨c0, v1, v2, v3, f0, f1, f2, f3, rfl, rfl, k0, k1, k2, k3⟩ := h
  obtain ⟨u2, rfl, p0, p1, h2⟩ := k0
  obtain ⟨A2, C2, _, _, rfl, -, -⟩ := h2.open_
  obtain ⟨A3, C3, _, _, rfl, -, -⟩ := k1.open_
  obtain ⟨A4, C4, _, _, rfl, -, -⟩ := k2.open_
  obtain ⟨A5, C5, _, _, rfl, -, -⟩ := k3.open_
  exact ⟨A2, A3, A4, A5, C2, C3, C4, C5, rfl⟩
theorem se_parts {w : World} {x : Session} {fp : List Nat} {A2 A3 A4 A5 : Option Addr} {C2 C3 C4 C5 : Nat} (h : Rp.rep w [.int .i64 x.puzzle.points, .string x.puzzle.names, .slice A2 x.puzzle.moves.length C2, .slice A3 x.state.length C3, .slice A4 x.history.length C4, .slice A5 x.future.length C5] x fp) : (∃ f, Rp.rep w [.int .i64 x.puzzle.points, .string x.puzzle.names, .slice A2 x.puzzle.moves.length C2] x.puzzle f) ∧ (∃ f, Rd w (.slice A3 x.state.length C3) x.state f) := by
  obtain ⟨c0, v1, v2, v3, f0, f1, f2, f3, hcs, rfl, k0, k1, k2, k3⟩ := h
  have k0' := k0
  obtain ⟨u2, rfl, p0, p1, h2⟩ := k0'
  injection hcs with _ hcs
  injection hcs with _ hcs
  injection hcs with e0 hcs
  injection hcs with e hcs
  subst e
  subst e0
  exact ⟨⟨_, k0⟩, ⟨_, k1⟩⟩
end Go.Proofs.YtajkhdbdkjhilaaGreat

namespace Go.Proofs.YtajkhdbdkjhilaaGreat
open Go.RowKit
set_option maxRecDepth 10000

theorem chain_ex3 (n : Nat) (vg : Value) (gens : List (List Int)) (fpg : List Nat) (w : World) (hg : Rd w vg gens fpg) (hgs : gensB n gens = true) : ∃ G T, PM.Chain n gens G T := by
  obtain ⟨⟨n1, n20⟩, hgl, hpn⟩ := gensB_iff.1 hgs
  obtain ⟨e, w', fr, ⟨L, gv, G, T, M, F, -, -, -, -, h, -⟩, -⟩ := buildChain_any n (by omega) (by omega) vg gens fpg w hg (by simpa using hpn) (by omega) []
  exact ⟨G, T, h⟩
theorem randM_reach {w : World} {vg : Value} {fpg : List Nat} {x : Session} (seed : Int) (hv : validSe x = true) (hg : Rd w vg x.puzzle.moves fpg) : reachB x.puzzle (randM x.puzzle.points.toNat x.puzzle.moves seed) = true := by
  have hgs := validSe_gens hv
  obtain ⟨⟨n1, n20⟩, hgl, hpn⟩ := gensB_iff.1 hgs
  obtain ⟨G, T, hC⟩ := chain_ex3 x.puzzle.points.toNat vg x.puzzle.moves fpg w hg (by rw [Int.toNat_of_nonneg (by omega)]; exact hgs)
  have hgr := hC.descG_grp (by omega) hpn (rsel seed) (rsel_good hC.inv.wf seed)
  exact reachB_iff.2 ⟨stateB_of (stateB_valid (validSe_facts hv).1) (PM.Grp.pn hpn hgr), hgr⟩
theorem scr_valid {x : Session} {s : List Int} (h : reachB x.puzzle s = true) : validSe ⟨x.puzzle, s, [], []⟩ = true :=
  validSe_iff.2 ⟨h, wordsB_yes (by simp) (by simp), wordsB_yes (by simp) (by simp)⟩
set_option maxHeartbeats 16000000 in
theorem FnScrambledSessions_any (w : World) (v : Value) (l : List UInt8) (fc : List Nat) (h : Rd w v l fc) :
    Calls Tryz.prog 4 #[v] w fun e w' => e = .returned (.bool true) ∧ Only [] w w' := by
  by_cases hb : 4096 < l.length
  · have hd : decide (4096 < l.length) = true := by simp [hb]
    go_enter Tryz.func4, Tryz.ntmps4
    go_wp2_with ((go_at_call 5; (with_reducible refine (big_any v l fc _ h).mono ?_); rintro e w1 ⟨he, t1⟩; rw [hd] at he; subst he))
    go_ret
    exact ⟨rfl, (by with_reducible repeat (first | exact Only.refl _ _ | assumption | refine Only.drewN ?_ _ | refine Only.drew ?_ | refine Only.alloc ?_ _ | refine Only.setCell ?_ (by intro hh; exfalso; simp at hh; try omega) _ | refine Only.trans ?_ (by assumption)))⟩
  have hd : decide (4096 < l.length) = false := by simp [hb]
  have hl : l.length ≤ 4096 := by omega
  go_enter Tryz.func4, Tryz.ntmps4
  go_upto_region 4 with (first
    | (go_at_call 5; (with_reducible refine (big_any v l fc _ h).mono ?_); rintro e w1 ⟨he, t1⟩; rw [hd] at he; subst he; have k1 : Only [] w w1 := (by with_reducible repeat (first | exact Only.refl _ _ | assumption | refine Only.drewN ?_ _ | refine Only.drew ?_ | refine Only.alloc ?_ _ | refine Only.setCell ?_ (by intro hh; exfalso; simp at hh; try omega) _ | refine Only.trans ?_ (by assumption))))
    | (go_at_call 18; (with_reducible refine (drawScrambleSession_any v l fc w1 (Rp.keep h k1) hl).mono ?_); rintro e w2 ⟨x, A2, A3, A4, A5, C2, C3, C4, C5, fp, sd, rfl, hR, hsd, t2⟩)
    | fail "no arm")
  have kal : Only [] w2 (w2.alloc (.cells #[.int .i64 x.puzzle.points, .string x.puzzle.names, .slice A2 x.puzzle.moves.length C2, .slice A3 x.state.length C3, .slice A4 x.history.length C4, .slice A5 x.future.length C5] 29)) := (Only.refl _ _).alloc _
  have S2 := Blk.new w2 [.int .i64 x.puzzle.points, .string x.puzzle.names, .slice A2 x.puzzle.moves.length C2, .slice A3 x.state.length C3, .slice A4 x.history.length C4, .slice A5 x.future.length C5] 29
  have HR := Lib.hid (Rp.keep hR kal)
  have kW : Only [] w (w2.alloc (.cells #[.int .i64 x.puzzle.points, .string x.puzzle.names, .slice A2 x.puzzle.moves.length C2, .slice A3 x.state.length C3, .slice A4 x.history.length C4, .slice A5 x.future.length C5] 29)) := (k1.trans t2).trans kal
  have Hsd := Lib.hid hsd
  obtain ⟨W2, hW2⟩ : ∃ W, W = w2.alloc (.cells #[.int .i64 x.puzzle.points, .string x.puzzle.names, .slice A2 x.puzzle.moves.length C2, .slice A3 x.state.length C3, .slice A4 x.history.length C4, .slice A5 x.future.length C5] 29) := ⟨_, rfl⟩
  obtain ⟨sb, hsb⟩ : ∃ sb, sb = w2.heap.size := ⟨_, rfl⟩
  rw [← hW2] at S2 HR kW ⊢
  rw [← hsb] at S2 ⊢
  clear hW2 hsb kal hR k1 t1 t2 hb hd hsd
  have hsb2 := S2.lt
  have c0s := S2.cell 0 rfl; have c1s := S2.cell 1 rfl; have c2s := S2.cell 2 rfl; have c3s := S2.cell 3 rfl; have c4s := S2.cell 4 rfl; have c5s := S2.cell 5 rfl
  have HcV2 := Lib.hid (fun (W : World) (hK : Only [] W2 W) => specIsValidSession_any [.int .i64 x.puzzle.points, .string x.puzzle.names, .slice A2 x.puzzle.moves.length C2, .slice A3 x.state.length C3, .slice A4 x.history.length C4, .slice A5 x.future.length C5] x fp W (Rp.keep HR.out hK))
  have HcX := Lib.hid (implScramble_any [.int .i64 x.puzzle.points, .string x.puzzle.names, .slice A2 x.puzzle.moves.length C2, .slice A3 x.state.length C3, .slice A4 x.history.length C4, .slice A5 x.future.length C5] x fp sd W2 HR.out Hsd.out)
  rcases hq : validSe x
  · rw [hq] at HcV2
    obtain ⟨N, hN⟩ : ∃ N, N = noSess := ⟨_, rfl⟩
    have hs1 : scrS x sd = (N, false) := by unfold scrS; rw [if_neg (by simp [hq]), hN]
    rw [hs1] at HcX
    have hN0 : ((N.state.length : Int) == 0) = true := by rw [hN]; rfl
    clear hq hN hs1
    go_wp2_with (first
      | (go_at_call 19; (with_reducible refine (HcX.out).mono ?_); rintro e w3 ⟨cs3, f3, rfl, r3, F3, t3⟩; obtain ⟨A2x, A3x, A4x, A5x, C2x, C3x, C4x, C5x, rfl⟩ := se_form r3; have S3 := S2.keep t3; have c03 := S3.cell 0 rfl; have c13 := S3.cell 1 rfl; have c23 := S3.cell 2 rfl; have c33 := S3.cell 3 rfl; have c43 := S3.cell 4 rfl; have c53 := S3.cell 5 rfl; have h3 := S3.lt; have X3 := (Blk.new w3 [.int .i64 N.puzzle.points, .string N.puzzle.names, .slice A2x N.puzzle.moves.length C2x, .slice A3x N.state.length C3x, .slice A4x N.history.length C4x, .slice A5x N.future.length C5x] 29); have c0x := X3.cell 0 rfl; have c1x := X3.cell 1 rfl; have c2x := X3.cell 2 rfl; have c3x := X3.cell 3 rfl; have c4x := X3.cell 4 rfl; have c5x := X3.cell 5 rfl)
      | (go_at_call 10; (with_reducible refine (HcV2.out _ (by with_reducible repeat (first | exact Only.refl _ _ | assumption | refine Only.drewN ?_ _ | refine Only.drew ?_ | refine Only.alloc ?_ _ | refine Only.setCell ?_ (by intro hh; exfalso; simp at hh; try omega) _ | refine Only.trans ?_ (by assumption)))).mono ?_); rintro e w4 ⟨rfl, t4⟩; have X4 := X3.keep t4; have c0y := X4.cell 0 rfl; have c1y := X4.cell 1 rfl; have c2y := X4.cell 2 rfl; have c3y := X4.cell 3 rfl; have c4y := X4.cell 4 rfl; have c5y := X4.cell 5 rfl)
      | fail "no arm")
    go_ret
    exact ⟨rfl, kW.trans (by with_reducible repeat (first | exact Only.refl _ _ | assumption | refine Only.drewN ?_ _ | refine Only.drew ?_ | refine Only.alloc ?_ _ | refine Only.setCell ?_ (by intro hh; exfalso; simp at hh; try omega) _ | refine Only.trans ?_ (by assumption)))⟩
  · rw [hq] at HcV2
    obtain ⟨⟨fm0, hm0⟩, -⟩ := se_parts HR.out
    obtain ⟨um, em, -, -, hm1⟩ := hm0
    have hre := randM_reach sd hq hm1
    have hvX := scr_valid hre
    have hvp : validPz x.puzzle = true := stateB_valid (validSe_facts hq).1
    obtain ⟨P, hP⟩ : ∃ P : Session, P = ⟨x.puzzle, randM x.puzzle.points.toNat x.puzzle.moves sd, [], []⟩ := ⟨_, rfl⟩
    have hs1 : scrS x sd = (P, true) := by unfold scrS; rw [if_pos hq, hP]
    have hs2 : scrS P sd = (P, true) := by unfold scrS; rw [if_pos (by rw [hP]; exact hvX), hP]
    rw [← hP] at hvX
    have hrP : reachB P.puzzle P.state = true := (validSe_iff.1 hvX).1
    have hlP : seLen P 1 = 0 := by
      unfold seLen
      rw [if_pos ⟨hvX, by decide⟩, hP]
      rfl
    have hh0 : ((P.history.length : Int) == 0) = true := by rw [hP]; rfl
    have hf0 : ((P.future.length : Int) == 0) = true := by rw [hP]; rfl
    obtain ⟨Q, hQ⟩ : ∃ Q : Session, Q = newSess x.puzzle := ⟨_, rfl⟩
    have hQe : Q = ⟨x.puzzle, PM.pts x.puzzle.points.toNat, [], []⟩ := by rw [hQ]; unfold newSess; rw [if_pos hvp]
    have hQs : stateB Q.puzzle Q.state = true := by rw [hQe]; exact stateB_of hvp (PM.PN.id _)
    have hQi : eqV Q.state (PM.pts Q.puzzle.points.toNat) = true := by rw [hQe]; unfold eqV; simp
    have HcN : Hid (∀ (W : World), Only [] W2 W → Calls Tryz.prog 20 #[.agg #[.int .i64 x.puzzle.points, .string x.puzzle.names, .slice A2 x.puzzle.moves.length C2]] W fun e w' => ∃ cs' fp', e = .returned (.tuple #[.agg (List.toArray cs'), .bool true]) ∧ Rp.rep w' cs' Q fp' ∧ Fresh W.heap.size w' fp' ∧ Only [] W w') := Lib.hid (fun W hK => by
      obtain ⟨⟨f1, q1⟩, -⟩ := se_parts HR.out
      have hc := implNewSession_any _ x.puzzle f1 W (Rp.keep q1 hK)
      rw [hvp, ← hQ] at hc
      exact hc)
    have HcY := Lib.hid (fun (cs : List Value) (f : List Nat) (W : World) (hr : Rp.rep W cs P f) => implScramble_any cs P f sd W hr Hsd.out)
    rw [hs1] at HcX
    rw [hs2] at HcY
    have HcRc : Hid (∀ (f : List Nat) (W : World) (A2 A3 A4 A5 : Option Addr) (C2 C3 C4 C5 : Nat), Rp.rep W [.int .i64 P.puzzle.points, .string P.puzzle.names, .slice A2 P.puzzle.moves.length C2, .slice A3 P.state.length C3, .slice A4 P.history.length C4, .slice A5 P.future.length C5] P f → Calls Tryz.prog 21 #[.agg #[.int .i64 P.puzzle.points, .string P.puzzle.names, .slice A2 P.puzzle.moves.length C2], .slice A3 P.state.length C3] W fun e w' => e = .returned (.bool true) ∧ Only [] W w') := Lib.hid (fun f W A2 A3 A4 A5 C2 C3 C4 C5 hr => by
      obtain ⟨⟨f1, q1⟩, ⟨f2, q2⟩⟩ := se_parts hr
      have hc := specIsReachable_any _ P.puzzle f1 _ P.state f2 W q1 q2
      rw [hrP] at hc
      exact hc)
    have HcSo : Hid (∀ (f : List Nat) (W : World) (A2 A3 A4 A5 : Option Addr) (C2 C3 C4 C5 : Nat), Rp.rep W [.int .i64 Q.puzzle.points, .string Q.puzzle.names, .slice A2 Q.puzzle.moves.length C2, .slice A3 Q.state.length C3, .slice A4 Q.history.length C4, .slice A5 Q.future.length C5] Q f → Calls Tryz.prog 22 #[.agg #[.int .i64 Q.puzzle.points, .string Q.puzzle.names, .slice A2 Q.puzzle.moves.length C2], .slice A3 Q.state.length C3] W fun e w' => e = .returned (.bool true) ∧ Only [] W w') := Lib.hid (fun f W A2 A3 A4 A5 C2 C3 C4 C5 hr => by
      obtain ⟨⟨f1, q1⟩, ⟨f2, q2⟩⟩ := se_parts hr
      have hc := specIsSolved_any _ Q.puzzle f1 _ Q.state f2 W q1 q2 hQs
      rw [hQi] at hc
      exact hc)
    have HcSS : Hid (∀ (cs cs' : List Value) (f f' : List Nat) (W : World), Rp.rep W cs P f → Rp.rep W cs' P f' → Calls Tryz.prog 11 #[.agg cs.toArray, .agg cs'.toArray] W fun e w' => e = .returned (.bool true) ∧ Only [] W w') := Lib.hid (fun cs cs' f f' W hr hr' => by
      have hc := implSameSession_any cs cs' P P f f' W hr hr'
      rw [sameSe_refl hvX] at hc
      exact hc)
    have HcL : Hid (∀ (cs : List Value) (f : List Nat) (W : World), Rp.rep W cs P f → Calls Tryz.prog 16 #[.agg cs.toArray, .int .i64 1] W fun e w' => e = .returned (.int .i64 0) ∧ Only [] W w') := Lib.hid (fun cs f W hr => by
      have hc := implSessionLength_any cs P f 1 W hr
      rw [hlP] at hc
      exact hc)
    clear hq hm1 em hre hvX hvp hP hs1 hs2 hrP hlP hQ hQe hQs hQi
    go_upto_region 11 with (first
      | (go_at_call 19; (with_reducible refine (HcX.out).mono ?_); rintro e w3 ⟨cs3, f3, rfl, r3, F3, t3⟩; obtain ⟨A2x, A3x, A4x, A5x, C2x, C3x, C4x, C5x, rfl⟩ := se_form r3; have S3 := S2.keep t3; have c03 := S3.cell 0 rfl; have c13 := S3.cell 1 rfl; have c23 := S3.cell 2 rfl; have c33 := S3.cell 3 rfl; have c43 := S3.cell 4 rfl; have c53 := S3.cell 5 rfl; have h3 := S3.lt; have X3 := (Blk.new w3 [.int .i64 P.puzzle.points, .string P.puzzle.names, .slice A2x P.puzzle.moves.length C2x, .slice A3x P.state.length C3x, .slice A4x P.history.length C4x, .slice A5x P.future.length C5x] 29); have c0x := X3.cell 0 rfl; have c1x := X3.cell 1 rfl; have c2x := X3.cell 2 rfl; have c3x := X3.cell 3 rfl; have c4x := X3.cell 4 rfl; have c5x := X3.cell 5 rfl; have r3' := Rp.keep r3 ((Only.refl _ _).alloc (.cells #[.int .i64 P.puzzle.points, .string P.puzzle.names, .slice A2x P.puzzle.moves.length C2x, .slice A3x P.state.length C3x, .slice A4x P.history.length C4x, .slice A5x P.future.length C5x] 29)); have S3' := S3.keep ((Only.refl _ _).alloc (.cells #[.int .i64 P.puzzle.points, .string P.puzzle.names, .slice A2x P.puzzle.moves.length C2x, .slice A3x P.state.length C3x, .slice A4x P.history.length C4x, .slice A5x P.future.length C5x] 29)))
      | (go_at_call 10; (with_reducible refine (HcV2.out _ (by with_reducible repeat (first | exact Only.refl _ _ | assumption | refine Only.drewN ?_ _ | refine Only.drew ?_ | refine Only.alloc ?_ _ | refine Only.setCell ?_ (by intro hh; exfalso; simp at hh; try omega) _ | refine Only.trans ?_ (by assumption)))).mono ?_); rintro e w4 ⟨rfl, t4⟩; have X4 := X3.keep t4; have c0y := X4.cell 0 rfl; have c1y := X4.cell 1 rfl; have c2y := X4.cell 2 rfl; have c3y := X4.cell 3 rfl; have c4y := X4.cell 4 rfl; have c5y := X4.cell 5 rfl; have S4 := S3'.keep t4; have c04 := S4.cell 0 rfl; have c14 := S4.cell 1 rfl; have c24 := S4.cell 2 rfl; have c34 := S4.cell 3 rfl; have c44 := S4.cell 4 rfl; have c54 := S4.cell 5 rfl; have r4 := Rp.keep r3' t4; have h4 := S4.lt; have h4x := X4.lt; have k4 : Only [] W2 w4 := (by with_reducible repeat (first | exact Only.refl _ _ | assumption | refine Only.drewN ?_ _ | refine Only.drew ?_ | refine Only.alloc ?_ _ | refine Only.setCell ?_ (by intro hh; exfalso; simp at hh; try omega) _ | refine Only.trans ?_ (by assumption))))
      | (go_at_call 19; (with_reducible refine (HcY.out _ f3 w4 r4).mono ?_); rintro e w5 ⟨cs5, f5, rfl, r5, F5, t5⟩; obtain ⟨A2u, A3u, A4u, A5u, C2u, C3u, C4u, C5u, rfl⟩ := se_form r5; have Y5 := (Blk.new w5 [.int .i64 P.puzzle.points, .string P.puzzle.names, .slice A2u P.puzzle.moves.length C2u, .slice A3u P.state.length C3u, .slice A4u P.history.length C4u, .slice A5u P.future.length C5u] 29); have c0u := Y5.cell 0 rfl; have c1u := Y5.cell 1 rfl; have c2u := Y5.cell 2 rfl; have c3u := Y5.cell 3 rfl; have c4u := Y5.cell 4 rfl; have c5u := Y5.cell 5 rfl; have S5 := S4.keep t5; have X5 := X4.keep t5; have c05 := S5.cell 0 rfl; have c15 := S5.cell 1 rfl; have c25 := S5.cell 2 rfl; have c35 := S5.cell 3 rfl; have c45 := S5.cell 4 rfl; have c55 := S5.cell 5 rfl; have h5 := S5.lt; have h5x := X5.lt)
      | (go_at_call 20; (with_reducible refine (HcN.out _ (k4.trans (by with_reducible repeat (first | exact Only.refl _ _ | assumption | refine Only.drewN ?_ _ | refine Only.drew ?_ | refine Only.alloc ?_ _ | refine Only.setCell ?_ (by intro hh; exfalso; simp at hh; try omega) _ | refine Only.trans ?_ (by assumption))))).mono ?_); rintro e w6 ⟨cs6, f6, rfl, r6, F6, t6⟩; obtain ⟨A2z, A3z, A4z, A5z, C2z, C3z, C4z, C5z, rfl⟩ := se_form r6; have Z6 := (Blk.new w6 [.int .i64 Q.puzzle.points, .string Q.puzzle.names, .slice A2z Q.puzzle.moves.length C2z, .slice A3z Q.state.length C3z, .slice A4z Q.history.length C4z, .slice A5z Q.future.length C5z] 29); have k56 : Only [] w5 w6 := (by with_reducible repeat (first | exact Only.refl _ _ | assumption | refine Only.drewN ?_ _ | refine Only.drew ?_ | refine Only.alloc ?_ _ | refine Only.setCell ?_ (by intro hh; exfalso; simp at hh; try omega) _ | refine Only.trans ?_ (by assumption))); have Y6 := Y5.keep t6; have X6 := X5.keep k56)
      | fail "no arm")
    have kZ : Only [] w6 (w6.alloc (.cells #[.int .i64 Q.puzzle.points, .string Q.puzzle.names, .slice A2z Q.puzzle.moves.length C2z, .slice A3z Q.state.length C3z, .slice A4z Q.history.length C4z, .slice A5z Q.future.length C5z] 29)) := (Only.refl _ _).alloc _
    have XA := X6.keep kZ
    have YA := Y6.keep kZ
    have rx := Rp.keep r4 (t5.trans (k56.trans kZ))
    have ry := Rp.keep r5 (k56.trans kZ)
    have rz := Rp.keep r6 kZ
    have kA : Only [] w (w6.alloc (.cells #[.int .i64 Q.puzzle.points, .string Q.puzzle.names, .slice A2z Q.puzzle.moves.length C2z, .slice A3z Q.state.length C3z, .slice A4z Q.history.length C4z, .slice A5z Q.future.length C5z] 29)) := kW.trans (k4.trans (t5.trans (k56.trans kZ)))
    obtain ⟨WA, hWA⟩ : ∃ W, W = w6.alloc (.cells #[.int .i64 Q.puzzle.points, .string Q.puzzle.names, .slice A2z Q.puzzle.moves.length C2z, .slice A3z Q.state.length C3z, .slice A4z Q.history.length C4z, .slice A5z Q.future.length C5z] 29) := ⟨_, rfl⟩
    obtain ⟨xb, hxb⟩ : ∃ xb, xb = w3.heap.size := ⟨_, rfl⟩
    obtain ⟨yb, hyb⟩ : ∃ yb, yb = w5.heap.size := ⟨_, rfl⟩
    obtain ⟨zb, hzb⟩ : ∃ zb, zb = w6.heap.size := ⟨_, rfl⟩
    rw [← hWA] at XA YA Z6 rx ry rz kA ⊢
    rw [← hxb] at XA ⊢
    rw [← hyb] at YA ⊢
    rw [← hzb] at Z6 ⊢
    clear hWA hxb hyb hzb X3 X4 X5 X6 Y5 Y6 S3 S3' S4 S5 r3 r3' r4 r5 r6 kZ k56 k4 t3 t4 t5 t6 F3 F5 F6 h3 h4 h4x h5 h5x
    clear c03 c13 c23 c33 c43 c53 c0x c1x c2x c3x c4x c5x c0y c1y c2y c3y c4y c5y c04 c14 c24 c34 c44 c54 c0u c1u c2u c3u c4u c5u c05 c15 c25 c35 c45 c55
    have c0A := XA.cell 0 rfl
    have c1A := XA.cell 1 rfl
    have c2A := XA.cell 2 rfl
    have c3A := XA.cell 3 rfl
    have c4A := XA.cell 4 rfl
    have c5A := XA.cell 5 rfl
    go_wp2_with (first
      | (go_at_call 21; (with_reducible refine (HcRc.out f3 WA _ _ A4x A5x _ _ C4x C5x rx).mono ?_); rintro e wB ⟨rfl, tB⟩; have XB := XA.keep tB; have YB := YA.keep tB; have c0B := XB.cell 0 rfl; have c1B := XB.cell 1 rfl; have c2B := XB.cell 2 rfl; have c3B := XB.cell 3 rfl; have c4B := XB.cell 4 rfl; have c5B := XB.cell 5 rfl; have c0C := YB.cell 0 rfl; have c1C := YB.cell 1 rfl; have c2C := YB.cell 2 rfl; have c3C := YB.cell 3 rfl; have c4C := YB.cell 4 rfl; have c5C := YB.cell 5 rfl)
      | (go_at_call 11; (with_reducible refine (HcSS.out [.int .i64 P.puzzle.points, .string P.puzzle.names, .slice A2x P.puzzle.moves.length C2x, .slice A3x P.state.length C3x, .slice A4x P.history.length C4x, .slice A5x P.future.length C5x] [.int .i64 P.puzzle.points, .string P.puzzle.names, .slice A2u P.puzzle.moves.length C2u, .slice A3u P.state.length C3u, .slice A4u P.history.length C4u, .slice A5u P.future.length C5u] f3 f5 wB (Rp.keep rx tB) (Rp.keep ry tB)).mono ?_); rintro e wC ⟨rfl, tC⟩; have XC := XB.keep tC; have c0D := XC.cell 0 rfl; have c1D := XC.cell 1 rfl; have c2D := XC.cell 2 rfl; have c3D := XC.cell 3 rfl; have c4D := XC.cell 4 rfl; have c5D := XC.cell 5 rfl)
      | (go_at_call 16; (with_reducible refine (HcL.out [.int .i64 P.puzzle.points, .string P.puzzle.names, .slice A2x P.puzzle.moves.length C2x, .slice A3x P.state.length C3x, .slice A4x P.history.length C4x, .slice A5x P.future.length C5x] f3 wC (Rp.keep rx (tB.trans tC))).mono ?_); rintro e wD ⟨rfl, tD⟩; have ZD := Z6.keep ((tB.trans tC).trans tD); have c0E := ZD.cell 0 rfl; have c1E := ZD.cell 1 rfl; have c2E := ZD.cell 2 rfl; have c3E := ZD.cell 3 rfl; have c4E := ZD.cell 4 rfl; have c5E := ZD.cell 5 rfl; have kAD := (tB.trans tC).trans tD)
      | (go_at_call 22; (with_reducible refine (HcSo.out f6 wD _ _ A4z A5z _ _ C4z C5z (Rp.keep rz kAD)).mono ?_); rintro e wE ⟨rfl, tE⟩)
      | fail "no arm")
    go_ret
    exact ⟨rfl, kA.trans (kAD.trans tE)⟩
end Go.Proofs.YtajkhdbdkjhilaaGreat
