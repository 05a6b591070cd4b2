/- Laws on append and make over rows of the call's own, whatever the source (nil, empty or not). Ranges, words: the program's and the reference's tests on them. A slice that a loop appends to: its value, the elements so far, the memory they reach. Small values in memory: the empty slice, a literal of one element, a number; slices.Clone. IsPermutation: the reference's and the program's. IsGeneratorSet: the reference's and the program's. What the exact laws share: marks are kept by marking again; a struct's block. -/
import Derived.Test.YtclhblofchfglaaGreatRowTwoPhaseCertifiedG2
import Derived.Maps.AppendAt
import Derived.Lib.SlBytesConst
import Derived.Test.YtclhblofchfglaaGreatRowTwoPhaseCertifiedG1
namespace Go.Proofs.YtclhblofchfglaaGreat
open Go.RowKit
set_option maxRecDepth 10000

section
variable {P : Program} (w : World)
theorem run_app_none (base : Nat) (t ty e : TypeId) (i : TypeInfo) (size : Nat) (ht : P.underlying t = some (.slice e)) (hi : P.info? e = some i)
    (v : Value) (n : Nat) (xs : List Value) (hown : w.ownsRow base e size v n xs) (c : Nat) : (Builtin.append_ #[t, t] ty #[v, .slice none 0 c]).run P w = .ok v w := by
  rcases hown.2 with ⟨rfl, rfl⟩ | ⟨g, cap, cur, rfl, _, _, hnc, _⟩
  · simp [Builtin.append_, run_underlying ht, sizeOf, typeInfo, hi, Builtin.lenOf, Builtin.firstCells]
  · simp [Builtin.append_, run_underlying ht, sizeOf, typeInfo, hi, Builtin.lenOf, Builtin.firstCells, hnc, storeCells]

theorem run_app (base : Nat) (t ty e : TypeId) (i : TypeInfo) (z : Value) (size bytes : Nat) (ht : P.underlying t = some (.slice e)) (hi : P.info? e = some i) (hz : i.zero = some z)
    (hsize : i.size = size) (hby : i.bytes = bytes) (hzs : z.cells.size = size) (hsz : 0 < size)
    (v : Value) (n : Nat) (xs : List Value) (hown : w.ownsRow base e size v n xs)
    (A : Option Addr) (m c : Nat) (news : List Value) (hl : news.length = m * size) (hsrc : ∀ ad, A = some ad → ∀ j u, news[j]? = some u → w.cell? (ad.add j) = some u) (hA : A = none → m = 0) (h1 : ∀ u ∈ news, u.oneCell' = true)
    (h63 : n + m ≤ maxLen) (hbytes : (n + m) * bytes ≤ 140737488355328) (hbase : base ≤ w.heap.size) :
    ∃ v' w', (Builtin.append_ #[t, t] ty #[v, .slice A m c]).run P w = .ok v' w' ∧ w'.ownsRow base e size v' (n + m) (xs ++ news) ∧ w.grownBy w' v.ownBlock ∧
      (v'.ownBlock = v.ownBlock ∨ v'.ownBlock = some w.heap.size) := by
  rcases A with _ | ad
  · have hm := hA rfl
    subst hm
    have hn : news = [] := List.eq_nil_of_length_eq_zero (by simpa using hl)
    subst hn
    exact ⟨v, w, run_app_none w base t ty e i size ht hi v n xs hown c, by simpa using hown, ⟨rfl, rfl, rfl, Nat.le_refl _, fun _ _ _ => rfl⟩, .inl rfl⟩
  · obtain ⟨v', w', hrun, h2, h3, _, h5⟩ := run_append_own_at (P := P) w base t ty e i z size bytes ht hi hz hsize hby hzs hsz v n xs hown ad m c news hl (hsrc ad rfl) h1 h63 hbytes hbase
    exact ⟨v', w', hrun, h2, h3, h5⟩

theorem wp_app {o : Oper} {a : Act} {K : Act → World → Prop} {Q : Exit → Act → World → Prop} (s x : Operand) (t : TypeId)
    (ho : o.op = .call { callee := .builtin .append, args := #[s, x], argTypes := #[t, t] })
    (base : Nat) (e : TypeId) (i : TypeInfo) (z : Value) (size bytes : Nat) (ht : P.underlying t = some (.slice e)) (hi : P.info? e = some i) (hz : i.zero = some z)
    (hsize : i.size = size) (hby : i.bytes = bytes) (hzs : z.cells.size = size) (hsz : 0 < size)
    (v : Value) (n : Nat) (xs : List Value) (hs : a.eval s = v) (hown : w.ownsRow base e size v n xs)
    (A : Option Addr) (m c : Nat) (news : List Value) (hx : a.eval x = .slice A m c) (hl : news.length = m * size) (hsrc : ∀ ad, A = some ad → ∀ j u, news[j]? = some u → w.cell? (ad.add j) = some u) (hA : A = none → m = 0) (h1 : ∀ u ∈ news, u.oneCell' = true)
    (h63 : n + m ≤ maxLen) (hbytes : (n + m) * bytes ≤ 140737488355328) (hbase : base ≤ w.heap.size)
    (h : ∀ v' w', w'.ownsRow base e size v' (n + m) (xs ++ news) → w.grownBy w' v.ownBlock → (v'.ownBlock = v.ownBlock ∨ v'.ownBlock = some w.heap.size) → K (a.put o.dst v') w') : o.wp P a w K Q := by
  obtain ⟨v', w', hrun, h2, h3, h4⟩ := run_app (P := P) w base t o.type e i z size bytes ht hi hz hsize hby hzs hsz v n xs hown A m c news hl hsrc hA h1 h63 hbytes hbase
  unfold Oper.wp execOp
  simp only [ho, resolve, invoke, builtin, Sem.run_bind, Sem.run_pure, Result.andThen_ok, List.map_toArray, List.map_cons, List.map_nil, hs, hx, hrun]
  exact h v' w' h2 h3 h4

theorem wpList_app {ops : Array Oper} {rest : List Oper} {o : Oper} {a : Act} {Q : Exit → Act → World → Prop} (hgd : o.guard = none) (s x : Operand) (t : TypeId)
    (ho : o.op = .call { callee := .builtin .append, args := #[s, x], argTypes := #[t, t] })
    (base : Nat) (e : TypeId) (i : TypeInfo) (z : Value) (size bytes : Nat) (ht : P.underlying t = some (.slice e)) (hi : P.info? e = some i) (hz : i.zero = some z)
    (hsize : i.size = size) (hby : i.bytes = bytes) (hzs : z.cells.size = size) (hsz : 0 < size)
    (v : Value) (n : Nat) (xs : List Value) (hs : a.eval s = v) (hown : w.ownsRow base e size v n xs)
    (A : Option Addr) (m c : Nat) (news : List Value) (hx : a.eval x = .slice A m c) (hl : news.length = m * size) (hsrc : ∀ ad, A = some ad → ∀ j u, news[j]? = some u → w.cell? (ad.add j) = some u) (hA : A = none → m = 0) (h1 : ∀ u ∈ news, u.oneCell' = true)
    (h63 : n + m ≤ maxLen) (hbytes : (n + m) * bytes ≤ 140737488355328) (hbase : base ≤ w.heap.size)
    (h : ∀ v' w', w'.ownsRow base e size v' (n + m) (xs ++ news) → w.grownBy w' v.ownBlock → (v'.ownBlock = v.ownBlock ∨ v'.ownBlock = some w.heap.size) → wpList P ops Q rest (a.put o.dst v') w') : wpList P ops Q (o :: rest) a w :=
  wpList_plain hgd fun _ hK => wp_app w s x t ho base e i z size bytes ht hi hz hsize hby hzs hsz v n xs hs hown A m c news hx hl hsrc hA h1 h63 hbytes hbase fun v' w' h2 h3 h4 => hK _ _ (h v' w' h2 h3 h4)
end

/-- the source of an append: a slice of int64s -/
theorem ints_src {w : World} {a : Option Addr} {cap : Nat} {l : List Int} {fp : List Nat} (h : IntsA w a cap l fp) :
    (∀ ad, a = some ad → ∀ j u, (l.map (Value.int .i64))[j]? = some u → w.cell? (ad.add j) = some u) ∧ (a = none → l.length = 0) := by
  constructor
  · intro ad ha j u hu
    have hj : j < l.length := by
      have := (List.getElem?_eq_some_iff.1 hu).1; simpa using this
    obtain ⟨b, off, ha', -, hc⟩ := h.at_ j hj
    rw [ha] at ha'; injection ha' with ha'; subst ha'
    have hadd : (⟨b, off, none⟩ : Addr).add j = ⟨b, off + j, none⟩ := by unfold Addr.add; split <;> simp_all
    rw [hadd, hc]
    simpa [hj] using hu
  · intro ha
    rcases Nat.eq_zero_or_pos l.length with h0 | h0
    · exact h0
    · obtain ⟨b, off, ha', -, -⟩ := h.at_ 0 h0
      rw [ha] at ha'; cases ha'
theorem ints_one (l : List Int) : ∀ u ∈ l.map (Value.int .i64), u.oneCell' = true := by
  intro u hu
  obtain ⟨x, -, rfl⟩ := List.mem_map.1 hu
  rfl

set_option maxHeartbeats 400000 in
theorem copyInts_rd (v : Value) (l : List Int) (fp : List Nat) (w : World) (h : Rd w v l fp) (hl : l.length ≤ 1073741824) :
    Calls Tryz.prog 63 #[v] w fun e w' => ∃ v fp', e = .returned v ∧ Rd w' v l fp' ∧ Fresh w.heap.size w' fp' ∧ Only [] w w' := by
  obtain ⟨a, cap, rfl, hI⟩ := h.ints
  obtain ⟨i0, hi, hz0, hz1, hz2⟩ := info_parts Tryz.info2
  obtain ⟨q1, q2⟩ := ints_src (hI.keep ((Only.refl _ w).alloc (.cells #[] 2)))
  go_enter Tryz.func63, Tryz.ntmps63
  go_wp2_with (at_builtin; refine wpList_app _ rfl _ _ 25 rfl w.heap.size 2 i0 _ 1 8 Tryz.underlying25 hi hz0 hz1 hz2 rfl (by omega) (.slice (some ⟨w.heap.size, 0, none⟩) 0 0) 0 [] rfl (World.ownsRow_made w #[] 0 (Nat.le_refl _) (by unfold maxLen; omega) rfl) a l.length cap (l.map (Value.int .i64)) rfl (by simp) q1 q2 (ints_one l) (by unfold maxLen; omega) (by omega) (by simp) ?_; intro v1 w1 hO hg hb)
  rw [Nat.zero_add, List.nil_append] at hO
  obtain ⟨a', cap', hv, -, hI', hF⟩ := own_ints hO hI.wf
  have Hv := Lib.hid hv
  have hK : Only [] w w1 := ((Only.refl _ _).alloc _).grown hg (by simp [Value.ownBlock])
  clear hO hg hb hv q1 q2
  go_wp2
  go_ret
  refine ⟨_, _, rfl, ?_, hF, hK⟩
  have hr := hI'.rd
  rw [← Hv.out] at hr; exact hr

/-- the index of the first element that a function likes, -1 if there is none -/
def idxF {α : Type} (pr : α → Bool) (l : List α) : Int := match l.findIdx? pr with
  | some i => i
  | none => -1
theorem idxF_some {α : Type} {pr : α → Bool} {l : List α} {j : Nat} (hj : j < l.length) (h : ∀ x ∈ l.take j, pr x = false) (hp : pr l[j] = true) : idxF pr l = j := by
  have : l.findIdx? pr = some j := by
    rw [List.findIdx?_eq_some_iff_getElem]
    refine ⟨hj, hp, fun i hi => ?_⟩
    have := h l[i] (by rw [List.mem_take_iff_getElem]; exact ⟨i, by omega, rfl⟩)
    simp [this]
  unfold idxF; rw [this]
theorem idxF_none {α : Type} {pr : α → Bool} {l : List α} (h : ∀ x ∈ l, pr x = false) : idxF pr l = -1 := by
  have : l.findIdx? pr = none := by
    rw [List.findIdx?_eq_none_iff]; intro x hx; simp [h x hx]
  unfold idxF; rw [this]
theorem idxF_ge {α : Type} {pr : α → Bool} {l : List α} : decide (0 ≤ idxF pr l) = l.any pr := by
  unfold idxF
  cases h : l.findIdx? pr with
  | some i =>
    have hh := (List.findIdx?_eq_some_iff_getElem.1 h)
    obtain ⟨hi, hp, -⟩ := hh
    have : l.any pr = true := List.any_eq_true.2 ⟨_, List.getElem_mem hi, hp⟩
    rw [this]; simp
  | none =>
    rw [List.findIdx?_eq_none_iff] at h
    have : l.any pr = false := by rw [List.any_eq_false]; intro x hx; simp [h x hx]
    rw [this]; simp

set_option maxHeartbeats 400000 in
theorem IndexFunc_ints (f : FuncId) (caps : Array Value) (pr : Int → Bool) (hcf : ∀ args w, (callFunc f args).run Tryz.prog w = .ok (.enter f args) w)
    (v : Value) (l : List Int) (fp : List Nat) (w : World) (h : Rd w v l fp)
    (hc : ∀ x ∈ l, ∀ w', Only [] w w' → Calls Tryz.prog f (#[.int .i64 x] ++ caps) w' fun e w'' => e = .returned (.bool (pr x)) ∧ Only [] w' w'') :
    Calls Tryz.prog 119 #[v, .func (.func f) #[] caps] w fun e w' => e = .returned (.int .i64 (idxF pr l)) ∧ Only [] w w' := by
  obtain ⟨a, cap, rfl, hI⟩ := h.ints
  have hb := hI.bound
  have HC := Lib.hid hc
  clear hc
  go_enter Tryz.func119, Tryz.ntmps119
  go_wp2
  go_loopw [5, 8] (fun i t wr => ∃ j : Nat, j ≤ l.length ∧ t = .int .i64 j ∧ (∀ x ∈ l.take j, pr x = false) ∧ Only [] w wr)
    (fun _ t _ => l.length - (intOf t).toNat)
  case atStart => exact ⟨0, Nat.zero_le _, rfl, by simp, Only.refl _ _⟩
  case round =>
    obtain ⟨j, hj, rfl, hr, hK⟩ := hrel
    have Hr := Lib.hid hr; clear hr
    by_cases hlt : j < l.length
    · obtain ⟨b, off, rfl, -, hc0⟩ := hI.at_ j hlt
      have hc := hK.cell (by simp) hc0
      clear hc0
      rcases hp : pr l[j]
      all_goals go_wp2_with (with_reducible refine (HC.out l[j] (List.getElem_mem _) wr hK).mono ?_; rintro e w1 ⟨rfl, hk1⟩)
      · go_roundw
        case rel => exact ⟨j + 1, by omega, by go_num, by
          rw [take_succ_get l j hlt]; intro x hx
          rcases List.mem_append.1 hx with hx | hx
          · exact Hr.out x hx
          · simp at hx; subst hx; exact hp, hK.trans hk1⟩
        case measure => simp [intOf]; omega
      · go_ret
        exact ⟨ret_int (idxF_some hlt Hr.out hp).symm, hK.trans hk1⟩
    · go_wp2
      go_ret
      exact ⟨ret_int (idxF_none (by have := Hr.out; rwa [List.take_of_length_le (by omega)] at this)).symm, hK⟩
end Go.Proofs.YtclhblofchfglaaGreat

namespace Go.Proofs.YtclhblofchfglaaGreat
open Go.RowKit
set_option maxRecDepth 10000

def inR (x lo hi : Int) : Bool := decide (lo ≤ x) && decide (x ≤ hi)
theorem inR_iff {x lo hi : Int} : inR x lo hi = true ↔ lo ≤ x ∧ x ≤ hi := by simp [inR]
theorem inR_not {x lo hi : Int} : inR x lo hi = false ↔ ¬ (lo ≤ x ∧ x ≤ hi) := by rw [← inR_iff]; simp

theorem inRange_any (x lo hi : Int) (w : World) :
    Calls Tryz.prog 88 #[.int .i64 x, .int .i64 lo, .int .i64 hi] w fun e w' => e = .returned (.bool (inR x lo hi)) ∧ w' = w := by
  by_cases h1 : lo ≤ x
  · by_cases h2 : x ≤ hi
    · go_enter Tryz.func88, Tryz.ntmps88
      go_wp2
      go_ret
      exact ⟨ret_bool (by simp [inR, h1, h2]), rfl⟩
    · go_enter Tryz.func88, Tryz.ntmps88
      go_wp2
      go_ret
      exact ⟨ret_bool (by simp [inR, h2]), rfl⟩
  · go_enter Tryz.func88, Tryz.ntmps88
    go_wp2
    go_ret
    exact ⟨ret_bool (by simp [inR]; omega), rfl⟩
theorem within_any (x lo hi : Int) (w : World) :
    Calls Tryz.prog 96 #[.int .i64 x, .int .i64 lo, .int .i64 hi] w fun e w' => e = .returned (.bool (inR x lo hi)) ∧ w' = w := by
  by_cases h1 : lo ≤ x
  · by_cases h2 : x ≤ hi
    · go_enter Tryz.func96, Tryz.ntmps96
      go_wp2
      go_ret
      exact ⟨ret_bool (by simp [inR, h1, h2]), rfl⟩
    · go_enter Tryz.func96, Tryz.ntmps96
      go_wp2
      go_ret
      exact ⟨ret_bool (by simp [inR, h2]), rfl⟩
  · go_enter Tryz.func96, Tryz.ntmps96
    go_wp2
    go_ret
    exact ⟨ret_bool (by simp [inR]; omega), rfl⟩

def okLetter (g x : Int) : Bool := decide (x ≠ 0) && inR x (-(min g 8)) (min g 8)
/-- the valid words of g generators -/
def validW (g : Int) (l : List Int) : Bool := decide (l.length ≤ 200) && l.all (okLetter g)
theorem okLetter_iff {g x : Int} : okLetter g x = true ↔ x ≠ 0 ∧ -(min g 8) ≤ x ∧ x ≤ min g 8 := by simp [okLetter, inR_iff]
theorem okLetter_not {g x : Int} : okLetter g x = false ↔ ¬ (x ≠ 0 ∧ -(min g 8) ≤ x ∧ x ≤ min g 8) := by rw [← okLetter_iff]; simp
theorem validW_no {g : Int} {l : List Int} {j : Nat} (hj : j < l.length) (h : okLetter g l[j] = false) : validW g l = false := by
  unfold validW
  have : l.all (okLetter g) = false := by
    rw [List.all_eq_false]; exact ⟨l[j], List.getElem_mem _, by simp [h]⟩
  rw [this]; simp
theorem validW_long {g : Int} {l : List Int} (h : 200 < l.length) : validW g l = false := by
  unfold validW
  have : decide (l.length ≤ 200) = false := by simp; omega
  rw [this]; rfl
theorem validW_yes {g : Int} {l : List Int} (h : l.length ≤ 200) (h2 : ∀ x ∈ l, okLetter g x = true) : validW g l = true := by
  unfold validW
  simp only [h, decide_true, Bool.true_and, List.all_eq_true]
  exact h2
theorem validW_len {g : Int} {l : List Int} (h : validW g l = true) : l.length ≤ 200 := by
  unfold validW at h; simp at h; exact h.1
theorem all_step {pr : Int → Bool} {l : List Int} {j : Nat} (hj : j < l.length) (h : ∀ x ∈ l.take j, pr x = true) (hp : pr l[j] = true) : ∀ x ∈ l.take (j + 1), pr x = true := by
  rw [take_succ_get l j hj]; intro x hx
  rcases List.mem_append.1 hx with hx | hx
  · exact h x hx
  · simp at hx; subst hx; exact hp

set_option maxHeartbeats 1000000 in
theorem isWordOf_rd (g : Int) (v : Value) (l : List Int) (fp : List Nat) (w : World) (h : Rd w v l fp) (g0 : 0 ≤ g) (g1 : g ≤ 4611686018427387904) :
    Calls Tryz.prog 111 #[.int .i64 g, v] w fun e w' => e = .returned (.bool (validW g l)) ∧ Drew w w' := by
  obtain ⟨a, cap, rfl, hI⟩ := h.ints
  have hb := hI.bound
  by_cases hlen : 200 < l.length
  · go_enter Tryz.func111, Tryz.ntmps111
    go_wp2
    go_ret
    exact ⟨ret_bool (validW_long hlen).symm, Drew.refl _⟩
  go_enter Tryz.func111, Tryz.ntmps111
  go_wp2
  go_loopw [5] (fun i wr => ∃ j : Nat, j ≤ l.length ∧ i = .int .i64 j ∧ (∀ x ∈ l.take j, okLetter g x = true) ∧ Drew w wr)
    (fun i _ => l.length - (intOf i).toNat)
  case atStart => exact ⟨0, Nat.zero_le _, rfl, by simp, Drew.refl _⟩
  case round =>
    obtain ⟨j, hj, rfl, hr, n, rfl⟩ := hrel
    have Hr := Lib.hid hr; clear hr
    by_cases hlt : j < l.length
    · obtain ⟨b, off, rfl, -, hc⟩ := hI.at_ j hlt
      generalize hx : l[j] = x at *
      have Hx := Lib.hid hx
      clear hx
      by_cases c0 : x = 0
      · have t0 : (x == 0) = true := by simpa using c0
        have C0 := Lib.hid c0; clear c0
        go_wp2
        go_ret
        exact ⟨ret_bool (validW_no hlt (by rw [Hx.out, okLetter_not]; exact fun hh => hh.1 C0.out)).symm, ⟨_, rfl⟩⟩
      have t0 : (x == 0) = false := by simpa using c0
      have C0 := Lib.hid c0; clear c0
      rcases c1 : inR x (-8) 8
      · go_wp2_with ((go_at_call 88; (with_reducible refine (inRange_any x (-8) 8 _).mono ?_); rintro e w1 ⟨rfl, rfl⟩))
        go_ret
        exact ⟨ret_bool (validW_no hlt (by rw [Hx.out, okLetter_not]; rw [inR_not] at c1; omega)).symm, ⟨_, rfl⟩⟩
      have c2 := inR_iff.1 c1
      obtain ⟨c2, c3⟩ := c2
      by_cases c4 : g < x
      · go_wp2_with ((go_at_call 88; (with_reducible refine (inRange_any x (-8) 8 _).mono ?_); rintro e w1 ⟨rfl, rfl⟩))
        go_ret
        exact ⟨ret_bool (validW_no hlt (by rw [Hx.out, okLetter_not]; omega)).symm, ⟨_, rfl⟩⟩
      by_cases c5 : g < -x
      · go_wp2_with ((go_at_call 88; (with_reducible refine (inRange_any x (-8) 8 _).mono ?_); rintro e w1 ⟨rfl, rfl⟩))
        go_ret
        exact ⟨ret_bool (validW_no hlt (by rw [Hx.out, okLetter_not]; omega)).symm, ⟨_, rfl⟩⟩
      go_wp2_with ((go_at_call 88; (with_reducible refine (inRange_any x (-8) 8 _).mono ?_); rintro e w1 ⟨rfl, rfl⟩))
      go_roundw
      case rel => exact ⟨j + 1, by omega, by go_num, all_step hlt Hr.out (by rw [Hx.out, okLetter_iff]; exact ⟨C0.out, by omega, by omega⟩), ⟨_, rfl⟩⟩
      case measure => simp [intOf]; omega
    · go_wp2
      go_ret
      exact ⟨ret_bool (validW_yes (by omega) (by have := Hr.out; rwa [List.take_of_length_le (by omega)] at this)).symm, ⟨_, rfl⟩⟩

theorem specIsWord_rd (v : Value) (l : List Int) (fp : List Nat) (w : World) (h : Rd w v l fp) :
    Calls Tryz.prog 62 #[v] w fun e w' => e = .returned (.bool (validW 8 l)) ∧ Drew w w' := by
  go_enter Tryz.func62, Tryz.ntmps62
  go_wp2_with ((go_at_call 111; (with_reducible refine (isWordOf_rd 8 v l _ _ h (by omega) (by omega)).mono ?_); rintro e w1 ⟨rfl, n1, rfl⟩))
  go_ret
  exact ⟨rfl, ⟨_, rfl⟩⟩

set_option maxHeartbeats 1000000 in
theorem IsValidWord_closure (x m : Int) (m0 : 0 ≤ m) (m1 : m ≤ 8) (b : Nat) (w : World) (hc : w.cell? ⟨b, 0, none⟩ = some (.int .i64 m)) :
    Calls Tryz.prog 187 #[.int .i64 x, .pointer (some ⟨b, 0, none⟩)] w fun e w' => e = .returned (.bool (!okLetter m x)) ∧ Only [] w w' := by
  by_cases c0 : x = 0
  · have t0 : (x == 0) = true := by simpa using c0
    have C0 := Lib.hid c0; clear c0
    go_enter Tryz.func187, Tryz.ntmps187
    go_wp2
    go_ret
    exact ⟨ret_bool (by have : okLetter m x = false := (by rw [okLetter_not]; exact fun hh => hh.1 C0.out); rw [this]; rfl), Only.refl _ _⟩
  have t0 : (x == 0) = false := by simpa using c0
  have C0 := Lib.hid c0; clear c0
  go_enter Tryz.func187, Tryz.ntmps187
  go_wp2_with ((go_at_call 96; (with_reducible refine (within_any x (-m) m _).mono ?_); rintro e w1 ⟨rfl, rfl⟩))
  go_ret
  refine ⟨ret_bool ?_, Only.refl _ _⟩
  have h1 : min m 8 = m := by omega
  have := C0.out
  simp [okLetter, h1, this]

set_option maxHeartbeats 400000 in
theorem ContainsFunc_ints (f : FuncId) (caps : Array Value) (pr : Int → Bool) (hcf : ∀ args w, (callFunc f args).run Tryz.prog w = .ok (.enter f args) w)
    (v : Value) (l : List Int) (fp : List Nat) (w : World) (h : Rd w v l fp)
    (hc : ∀ x ∈ l, ∀ w', Only [] w w' → Calls Tryz.prog f (#[.int .i64 x] ++ caps) w' fun e w'' => e = .returned (.bool (pr x)) ∧ Only [] w' w'') :
    Calls Tryz.prog 115 #[v, .func (.func f) #[] caps] w fun e w' => e = .returned (.bool (l.any pr)) ∧ Only [] w w' := by
  have HC := Lib.hid hc
  clear hc
  go_enter Tryz.func115, Tryz.ntmps115
  go_wp2_with ((go_at_call 119; (with_reducible refine (IndexFunc_ints f caps pr hcf v l _ w h HC.out).mono ?_); rintro e w1 ⟨rfl, hk⟩))
  go_ret
  exact ⟨ret_bool idxF_ge, hk⟩

set_option maxHeartbeats 400000 in
theorem IsValidWord_rd (g : Int) (v : Value) (l : List Int) (fp : List Nat) (w : World) (h : Rd w v l fp) (g0 : 0 ≤ g) (g1 : g ≤ 4611686018427387904) :
    Calls Tryz.prog 152 #[.int .i64 g, v] w fun e w' => e = .returned (.bool (validW g l)) ∧ Only [] w w' := by
  obtain ⟨a, cap, rfl, hI⟩ := h.ints
  have hb := hI.bound
  by_cases hlen : 200 < l.length
  · by_cases h8 : g ≤ 8
    · go_enter Tryz.func152, Tryz.ntmps152
      go_wp2
      go_ret
      exact ⟨ret_bool (validW_long hlen).symm, (by with_reducible repeat (first | exact Only.refl _ _ | assumption | refine Only.drewN ?_ _ | refine Only.drew ?_ | refine Only.alloc ?_ _ | refine Only.setCell ?_ (by intro hh; exfalso; simp at hh; try omega) _ | refine Only.trans ?_ (by assumption)))⟩
    · go_enter Tryz.func152, Tryz.ntmps152
      go_wp2
      go_ret
      exact ⟨ret_bool (validW_long hlen).symm, (by with_reducible repeat (first | exact Only.refl _ _ | assumption | refine Only.drewN ?_ _ | refine Only.drew ?_ | refine Only.alloc ?_ _ | refine Only.setCell ?_ (by intro hh; exfalso; simp at hh; try omega) _ | refine Only.trans ?_ (by assumption)))⟩
  have hend : ∀ m, m = min g 8 → (!(l.any fun x => !okLetter m x)) = validW g l := by
    intro m hm
    have he : okLetter m = okLetter g := by
      funext x; unfold okLetter; rw [hm]; have : min (min g 8) 8 = min g 8 := by omega
      rw [this]
    unfold validW
    rw [he, List.not_any_eq_all_not]
    have h1 : decide (l.length ≤ 200) = true := by simp; omega
    rw [h1, Bool.true_and]
    simp
  have HE := Lib.hid hend
  clear hend
  by_cases h8 : g ≤ 8
  · have Hc := Lib.hid (ContainsFunc_ints 187 #[.pointer (some ⟨w.heap.size, 0, none⟩)] (fun x => !okLetter g x) Tryz.call187 (.slice a l.length cap) l fp (w.alloc (.cells #[.int .i64 g] 2)) (Rp.keep h (by with_reducible repeat (first | exact Only.refl _ _ | assumption | refine Only.drewN ?_ _ | refine Only.drew ?_ | refine Only.alloc ?_ _ | refine Only.setCell ?_ (by intro hh; exfalso; simp at hh; try omega) _ | refine Only.trans ?_ (by assumption))))
      (fun x _ w' hw => IsValidWord_closure x g g0 h8 w.heap.size w' (hw.cell (by simp) (by simp))))
    go_enter Tryz.func152, Tryz.ntmps152
    go_wp2_with ((go_at_call 115; (with_reducible refine (Hc.out).mono ?_); rintro e w1 ⟨rfl, hk⟩))
    go_ret
    exact ⟨ret_bool (HE.out g (by omega)), (by with_reducible repeat (first | exact Only.refl _ _ | assumption | refine Only.drewN ?_ _ | refine Only.drew ?_ | refine Only.alloc ?_ _ | refine Only.setCell ?_ (by intro hh; exfalso; simp at hh; try omega) _ | refine Only.trans ?_ (by assumption)))⟩
  · have Hc := Lib.hid (ContainsFunc_ints 187 #[.pointer (some ⟨w.heap.size, 0, none⟩)] (fun x => !okLetter 8 x) Tryz.call187 (.slice a l.length cap) l fp (w.alloc (.cells #[.int .i64 8] 2)) (Rp.keep h (by with_reducible repeat (first | exact Only.refl _ _ | assumption | refine Only.drewN ?_ _ | refine Only.drew ?_ | refine Only.alloc ?_ _ | refine Only.setCell ?_ (by intro hh; exfalso; simp at hh; try omega) _ | refine Only.trans ?_ (by assumption))))
      (fun x _ w' hw => IsValidWord_closure x 8 (by omega) (by omega) w.heap.size w' (hw.cell (by simp) (by simp))))
    go_enter Tryz.func152, Tryz.ntmps152
    go_wp2_with ((go_at_call 115; (with_reducible refine (Hc.out).mono ?_); rintro e w1 ⟨rfl, hk⟩))
    go_ret
    exact ⟨ret_bool (HE.out 8 (by omega)), (by with_reducible repeat (first | exact Only.refl _ _ | assumption | refine Only.drewN ?_ _ | refine Only.drew ?_ | refine Only.alloc ?_ _ | refine Only.setCell ?_ (by intro hh; exfalso; simp at hh; try omega) _ | refine Only.trans ?_ (by assumption)))⟩

theorem implIsWord_rd (v : Value) (l : List Int) (fp : List Nat) (w : World) (h : Rd w v l fp) :
    Calls Tryz.prog 103 #[v] w fun e w' => e = .returned (.bool (validW 8 l)) ∧ Only [] w w' := by
  go_enter Tryz.func103, Tryz.ntmps103
  go_wp2_with ((go_at_call 152; (with_reducible refine (IsValidWord_rd 8 v l _ _ h (by omega) (by omega)).mono ?_); rintro e w1 ⟨rfl, hk⟩))
  go_ret
  exact ⟨rfl, hk⟩
end Go.Proofs.YtclhblofchfglaaGreat

namespace Go.Proofs.YtclhblofchfglaaGreat
open Go.RowKit
set_option maxRecDepth 10000

/-- v is a slice of the call's own (its block, if any, from B on); its elements read as l, what they reach is fs; the slice's own block is none of that -/
structure Acc {α : Type} [Rp α] (B : Nat) (e : TypeId) (w : World) (v : Value) (l : List α) (fs : List (List Nat)) : Prop where
  own : ∃ css : List (List Value), w.ownsRow B e (Rp.size α) v l.length css.flatten ∧ css.length = l.length ∧ ∀ k (h1 : k < css.length) (h2 : k < l.length) (h3 : k < fs.length), Rp.rep w css[k] l[k] fs[k]
  fl : fs.length = l.length
  apart : ∀ g, v.ownBlock = some g → g ∉ fs.flatten

section
variable {α : Type} [Rp α] {w w' : World} {B : Nat} {e : TypeId} {v : Value} {l : List α} {fs : List (List Nat)}
theorem Acc.nil (w : World) (B : Nat) (e : TypeId) : Acc B e w (.slice none 0 0) ([] : List α) [] :=
  ⟨⟨[], World.ownsRow_nil w B e _, rfl, by simp⟩, rfl, by simp⟩
theorem Acc.made (w : World) (B : Nat) (e : TypeId) {g : Nat} (hg : g = w.heap.size) (hB : B ≤ g) : Acc B e (w.alloc (.cells #[] e)) (.slice (some ⟨g, 0, none⟩) 0 0) ([] : List α) [] := by
  subst hg
  exact ⟨⟨[], World.ownsRow_made w #[] 0 hB (by unfold maxLen; omega) (by simp), rfl, by simp⟩, rfl, by simp⟩
theorem Acc.lt (h : Acc B e w v l fs) : ∀ b ∈ fs.flatten, b < w.heap.size := by
  intro b hb
  obtain ⟨f, hf, hb⟩ := List.mem_flatten.1 hb
  obtain ⟨k, hk, rfl⟩ := List.getElem_of_mem hf
  obtain ⟨css, -, hcl, hr⟩ := h.own
  have := h.fl
  exact Rp.lt (hr k (by omega) (by omega) hk) b hb
theorem Acc.ownlt (h : Acc B e w v l fs) : ∀ g, v.ownBlock = some g → B ≤ g ∧ g < w.heap.size := by
  obtain ⟨css, ho, -, -⟩ := h.own
  exact ho.lt
theorem Acc.only {fp : List Nat} (h : Acc B e w v l fs) (ho : Only fp w w') (hd : ∀ b ∈ fs.flatten, b ∉ fp) (hv : ∀ g, v.ownBlock = some g → g ∉ fp) : Acc B e w' v l fs := by
  obtain ⟨css, hr, hcl, hre⟩ := h.own
  refine ⟨⟨css, ?_, hcl, fun k h1 h2 h3 => Rp.only (hre k h1 h2 h3) ho fun b hb hm => hd b (List.mem_flatten.2 ⟨_, List.getElem_mem _, hb⟩) hm⟩, h.fl, h.apart⟩
  refine ⟨hr.1, ?_⟩
  rcases hr.2 with ⟨rfl, h0⟩ | ⟨g, cp, cur, rfl, hb, hg, hrest⟩
  · exact .inl ⟨rfl, h0⟩
  · exact .inr ⟨g, cp, cur, rfl, hb, by rw [ho.block g (Array.getElem?_eq_some_iff.1 hg).1 (hv g rfl)]; exact hg, hrest⟩
theorem Acc.keep (h : Acc B e w v l fs) (ho : Only [] w w') : Acc B e w' v l fs := h.only ho (by simp) (by simp)
theorem Acc.form (h : Acc B e w v l fs) : ∃ a c, v = .slice a l.length c := by
  obtain ⟨css, ho, -, -⟩ := h.own
  rcases ho.2 with ⟨rfl, h0⟩ | ⟨g, cp, cur, rfl, -⟩
  · exact ⟨none, 0, by rw [h0]⟩
  · exact ⟨_, _, rfl⟩
theorem Acc.rd (h : Acc B e w v l fs) (hs : 0 < Rp.size α) : Rd w v l (v.ownBlock.toList ++ fs.flatten) := by
  obtain ⟨css, ho, hcl, hr⟩ := h.own
  obtain ⟨a, c, hv, -, hI⟩ := own_seq (xs := l) (fps := fs) ho hs hcl h.fl hr
  have := hI.rd
  rw [← hv] at this; exact this
theorem Acc.fresh (h : Acc B e w v l fs) (hf : Fresh B w fs.flatten) : Fresh B w (v.ownBlock.toList ++ fs.flatten) := by
  obtain ⟨css, ho, -, -⟩ := h.own
  have h1 := own_fresh ho
  refine ⟨List.nodup_append.2 ⟨h1.nd, hf.nd, fun a ha b hb hab => ?_⟩, fun b hb => ?_, h1.own.append hf.own⟩
  · subst hab
    have : v.ownBlock = some a := by simpa using ha
    exact h.apart a this hb
  · rcases List.mem_append.1 hb with hb | hb
    · exact h1.ge b hb
    · exact hf.ge b hb
end

/-- the cells of a literal -/
theorem lit_src (w : World) (cs : List Value) (e : TypeId) {g : Nat} (hg : g = w.heap.size) : ∀ j u, cs[j]? = some u → (w.alloc (.cells cs.toArray e)).cell? ⟨g, j, none⟩ = some u := by
  subst hg
  intro j u hu
  rw [cell_of_row _ _ _ _ _ _ (heap_alloc_new w _)]
  simpa using hu

section
variable {P : Program} {α : Type} [Rp α] {ops : Array Oper} {rest : List Oper} {o : Oper} {a : Act} {w : World} {Q : Exit → Act → World → Prop} {K : Act → World → Prop}
/-- append(v, y), y one element -/
theorem wp_push (s x : Operand) (t : TypeId)
    (ho : o.op = .call { callee := .builtin .append, args := #[s, x], argTypes := #[t, t] })
    (B : Nat) (e : TypeId) (i : TypeInfo) (z : Value) (bytes : Nat) (ht : P.underlying t = some (.slice e)) (hi : P.info? e = some i) (hz : i.zero = some z)
    (hsize : i.size = Rp.size α) (hby : i.bytes = bytes) (hzs : z.cells.size = Rp.size α) (hsz : 0 < Rp.size α) (hbb : bytes ≤ 65536)
    (w0 : World) (v : Value) (l : List α) (fs : List (List Nat)) (hs : a.eval s = v) (hA : Acc B e w0 v l fs) (hK0 : Only [] w0 w) (hB : B ≤ w0.heap.size)
    (g c : Nat) (cs : List Value) (y : α) (fp : List Nat) (hx : a.eval x = .slice (some ⟨g, 0, none⟩) 1 c) (hsrc : ∀ j u, cs[j]? = some u → w.cell? ⟨g, j, none⟩ = some u) (hcs : ∀ u ∈ cs, u.oneCell' = true)
    (hy : Rp.rep w cs y fp) (hap : ∀ b ∈ fp, v.ownBlock ≠ some b) (hlen : l.length + 1 ≤ 1073741824)
    (h : ∀ v' w', Acc B e w' v' (l ++ [y]) (fs ++ [fp]) → Only v.ownBlock.toList w w' → (∀ wz, Only [] wz w → wz.heap.size ≤ B → Only [] wz w') →
      (Fresh B w0 fs.flatten → Fresh w0.heap.size w fp → Fresh B w' (fs ++ [fp]).flatten) → K (a.put o.dst v') w') : o.wp P a w K Q := by
  obtain ⟨css, hown, hcl, hre⟩ := (hA.keep hK0).own
  have hcsl : cs.length = 1 * Rp.size α := by rw [Nat.one_mul]; exact Rp.len hy
  have hfl := hA.fl
  have hbytes : (l.length + 1) * bytes ≤ 140737488355328 := by
    have := Nat.mul_le_mul hlen hbb; omega
  refine wp_app w s x t ho B e i z (Rp.size α) bytes ht hi hz hsize hby hzs hsz v l.length css.flatten hs hown (some ⟨g, 0, none⟩) 1 c cs hx hcsl ?_ (by simp) hcs (by unfold maxLen; omega) hbytes (Nat.le_trans hB hK0.size) ?_
  · intro ad had j u hu
    injection had with had; subst had
    have hadd : (⟨g, 0, none⟩ : Addr).add j = ⟨g, j, none⟩ := by unfold Addr.add; split <;> simp_all
    rw [hadd]; exact hsrc j u hu
  intro v' w' hO hg hb
  have hW : Only v.ownBlock.toList w w' := (Only.refl _ _).grown hg (by intro k hk _; simp [hk])
  have hlt := (hA.keep hK0).lt
  have hap' : ∀ b ∈ fp, b ∉ v.ownBlock.toList := fun b hb hm => hap b hb (by simpa using hm)
  have hfs : ∀ b ∈ fs.flatten, b ∉ v.ownBlock.toList := fun b hb hm => hA.apart b (by simpa using hm) hb
  refine h v' w' ⟨⟨css ++ [cs], ?_, by simp [hcl], fun k h1 h2 h3 => ?_⟩, by simp [hfl], ?_⟩ hW ?_ ?_
  · rw [List.length_append, List.flatten_append]; simpa using hO
  · by_cases hk : k < l.length
    · rw [List.getElem_append_left (by rw [hcl]; exact hk), List.getElem_append_left hk, List.getElem_append_left (by rw [hfl]; exact hk)]
      exact Rp.only (hre k (by omega) hk (by omega)) hW fun b hb => hfs b (List.mem_flatten.2 ⟨_, List.getElem_mem _, hb⟩)
    · have : k = l.length := by simp at h2; omega
      subst this
      rw [List.getElem_append_right (by rw [hcl]; omega), List.getElem_append_right (by omega), List.getElem_append_right (by rw [hfl]; omega)]
      simpa [hcl, hfl] using Rp.only hy hW hap'
  · intro g' hg' hm
    rw [List.flatten_append] at hm
    simp only [List.flatten_cons, List.flatten_nil, List.append_nil] at hm
    rcases hb with hb | hb
    · rw [hb] at hg'
      rcases List.mem_append.1 hm with hm | hm
      · exact hA.apart g' hg' hm
      · exact hap g' hm hg'
    · rw [hb] at hg'; injection hg' with hg'; subst hg'
      rcases List.mem_append.1 hm with hm | hm
      · exact absurd (hlt _ hm) (by omega)
      · exact absurd (Rp.lt hy _ hm) (by omega)
  · intro wz hz hzB
    refine hz.then_ hW fun b hm hb => ?_
    have hm' : v.ownBlock = some b := by simpa using hm
    have := (hA.ownlt b hm').1
    omega
  · intro hF hFy
    rw [List.flatten_append]
    simp only [List.flatten_cons, List.flatten_nil, List.append_nil]
    have hF' := (hF.keep hK0)
    refine ((Fresh.append hF' hFy hB fun b hb => hF.lt b hb)).only hW fun b hm => ?_
    rcases List.mem_append.1 hm with hm | hm
    · exact hfs b hm
    · exact hap' b hm
/-- the same where y was made behind w0 -/
theorem wp_pushF (s x : Operand) (t : TypeId)
    (ho : o.op = .call { callee := .builtin .append, args := #[s, x], argTypes := #[t, t] })
    (B : Nat) (e : TypeId) (i : TypeInfo) (z : Value) (bytes : Nat) (ht : P.underlying t = some (.slice e)) (hi : P.info? e = some i) (hz : i.zero = some z)
    (hsize : i.size = Rp.size α) (hby : i.bytes = bytes) (hzs : z.cells.size = Rp.size α) (hsz : 0 < Rp.size α) (hbb : bytes ≤ 65536)
    (w0 : World) (v : Value) (l : List α) (fs : List (List Nat)) (hs : a.eval s = v) (hA : Acc B e w0 v l fs) (hF : Fresh B w0 fs.flatten) (hK0 : Only [] w0 w) (hB : B ≤ w0.heap.size)
    (g c : Nat) (cs : List Value) (y : α) (fp : List Nat) (hx : a.eval x = .slice (some ⟨g, 0, none⟩) 1 c) (hsrc : ∀ j u, cs[j]? = some u → w.cell? ⟨g, j, none⟩ = some u) (hcs : ∀ u ∈ cs, u.oneCell' = true)
    (hy : Rp.rep w cs y fp) (hFy : Fresh w0.heap.size w fp) (hlen : l.length + 1 ≤ 1073741824) (wz : World) (hz0 : Only [] wz w) (hzB : wz.heap.size ≤ B)
    (h : ∀ v' w', Acc B e w' v' (l ++ [y]) (fs ++ [fp]) → Fresh B w' (fs ++ [fp]).flatten → Only [] wz w' → Only v.ownBlock.toList w w' → K (a.put o.dst v') w') : o.wp P a w K Q :=
  wp_push s x t ho B e i z bytes ht hi hz hsize hby hzs hsz hbb w0 v l fs hs hA hK0 hB g c cs y fp hx hsrc hcs hy
    (fun b hb hv => by have := (hA.ownlt b hv).2; have := hFy.ge b hb; omega) hlen fun v' w' h1 h2 h3 h4 => h v' w' h1 (h4 hF hFy) (h3 wz hz0 hzB) h2
theorem wpList_pushF (hgd : o.guard = none) (s x : Operand) (t : TypeId)
    (ho : o.op = .call { callee := .builtin .append, args := #[s, x], argTypes := #[t, t] })
    (B : Nat) (e : TypeId) (i : TypeInfo) (z : Value) (bytes : Nat) (ht : P.underlying t = some (.slice e)) (hi : P.info? e = some i) (hz : i.zero = some z)
    (hsize : i.size = Rp.size α) (hby : i.bytes = bytes) (hzs : z.cells.size = Rp.size α) (hsz : 0 < Rp.size α) (hbb : bytes ≤ 65536)
    (w0 : World) (v : Value) (l : List α) (fs : List (List Nat)) (hs : a.eval s = v) (hA : Acc B e w0 v l fs) (hF : Fresh B w0 fs.flatten) (hK0 : Only [] w0 w) (hB : B ≤ w0.heap.size)
    (g c : Nat) (cs : List Value) (y : α) (fp : List Nat) (hx : a.eval x = .slice (some ⟨g, 0, none⟩) 1 c) (hsrc : ∀ j u, cs[j]? = some u → w.cell? ⟨g, j, none⟩ = some u) (hcs : ∀ u ∈ cs, u.oneCell' = true)
    (hy : Rp.rep w cs y fp) (hFy : Fresh w0.heap.size w fp) (hlen : l.length + 1 ≤ 1073741824) (wz : World) (hz0 : Only [] wz w) (hzB : wz.heap.size ≤ B)
    (h : ∀ v' w', Acc B e w' v' (l ++ [y]) (fs ++ [fp]) → Fresh B w' (fs ++ [fp]).flatten → Only [] wz w' → Only v.ownBlock.toList w w' → wpList P ops Q rest (a.put o.dst v') w') : wpList P ops Q (o :: rest) a w :=
  wpList_plain hgd fun _ hK => wp_pushF s x t ho B e i z bytes ht hi hz hsize hby hzs hsz hbb w0 v l fs hs hA hF hK0 hB g c cs y fp hx hsrc hcs hy hFy hlen wz hz0 hzB fun v' w' h1 h2 h3 h4 => hK _ _ (h v' w' h1 h2 h3 h4)
theorem step_pushF {E : Prop} (hgd : o.guard = none) (s x : Operand) (t : TypeId)
    (ho : o.op = .call { callee := .builtin .append, args := #[s, x], argTypes := #[t, t] })
    (B : Nat) (e : TypeId) (i : TypeInfo) (z : Value) (bytes : Nat) (ht : P.underlying t = some (.slice e)) (hi : P.info? e = some i) (hz : i.zero = some z)
    (hsize : i.size = Rp.size α) (hby : i.bytes = bytes) (hzs : z.cells.size = Rp.size α) (hsz : 0 < Rp.size α) (hbb : bytes ≤ 65536)
    (w0 : World) (v : Value) (l : List α) (fs : List (List Nat)) (hs : a.eval s = v) (hA : Acc B e w0 v l fs) (hF : Fresh B w0 fs.flatten) (hK0 : Only [] w0 w) (hB : B ≤ w0.heap.size)
    (g c : Nat) (cs : List Value) (y : α) (fp : List Nat) (hx : a.eval x = .slice (some ⟨g, 0, none⟩) 1 c) (hsrc : ∀ j u, cs[j]? = some u → w.cell? ⟨g, j, none⟩ = some u) (hcs : ∀ u ∈ cs, u.oneCell' = true)
    (hy : Rp.rep w cs y fp) (hFy : Fresh w0.heap.size w fp) (hlen : l.length + 1 ≤ 1073741824) (wz : World) (hz0 : Only [] wz w) (hzB : wz.heap.size ≤ B)
    (h : ∀ v' w', Acc B e w' v' (l ++ [y]) (fs ++ [fp]) → Fresh B w' (fs ++ [fp]).flatten → Only [] wz w' → Only v.ownBlock.toList w w' → K (a.put o.dst v') w') : if Region.wanted o (yielded ops a.tmps) = true then Oper.wp P o a w K Q else E := by
  rw [if_pos (by simp [Region.wanted, hgd])]
  exact wp_pushF s x t ho B e i z bytes ht hi hz hsize hby hzs hsz hbb w0 v l fs hs hA hF hK0 hB g c cs y fp hx hsrc hcs hy hFy hlen wz hz0 hzB h
end
end Go.Proofs.YtclhblofchfglaaGreat

namespace Go.Proofs.YtclhblofchfglaaGreat
open Go.RowKit
set_option maxRecDepth 10000

set_option maxHeartbeats 400000 in
theorem Clone_rd (v : Value) (l : List Int) (fp : List Nat) (w : World) (h : Rd w v l fp) (hl : l.length ≤ 1073741824) :
    Calls Tryz.prog 105 #[v] w fun e w' => ∃ v fp', e = .returned v ∧ Rd w' v l fp' ∧ Fresh w.heap.size w' fp' ∧ Only [] w w' := by
  obtain ⟨a, cap, rfl, hI⟩ := h.ints
  rcases a with _ | ad
  · have h0 : l.length = 0 := (ints_src hI).2 rfl
    have : l = [] := List.eq_nil_of_length_eq_zero h0
    subst this
    have hnil := fun W => Lib.run_eql_slice_nil (P := Tryz.prog) W 25 2 none 0 cap 0 0 Tryz.underlying25
    go_enter Tryz.func105, Tryz.ntmps105
    go_wp2
    go_ret
    exact ⟨_, [], rfl, (IntsA.nil w none (cap := 0) (by simp [maxLen])).rd, Fresh.nil _ _, (by with_reducible repeat (first | exact Only.refl _ _ | assumption | refine Only.drewN ?_ _ | refine Only.drew ?_ | refine Only.alloc ?_ _ | refine Only.setCell ?_ (by intro hh; exfalso; simp at hh; try omega) _ | refine Only.trans ?_ (by assumption)))⟩
  · obtain ⟨i0, hi, hz0, hz1, hz2⟩ := info_parts Tryz.info2
    obtain ⟨q1, q2⟩ := ints_src (hI.keep ((Only.refl _ w).alloc (.cells #[] 2)))
    have hnil := fun W => Lib.run_eql_slice_nil (P := Tryz.prog) W 25 2 (some ad) l.length cap 0 0 Tryz.underlying25
    go_enter Tryz.func105, Tryz.ntmps105
    go_wp2_with (at_builtin; refine wpList_app _ rfl _ _ 25 rfl w.heap.size 2 i0 _ 1 8 Tryz.underlying25 hi hz0 hz1 hz2 rfl (by omega) (.slice (some ⟨w.heap.size, 0, none⟩) 0 0) 0 [] rfl (World.ownsRow_made w #[] 0 (Nat.le_refl _) (by unfold maxLen; omega) rfl) (some ad) l.length cap (l.map (Value.int .i64)) rfl (by simp) q1 q2 (ints_one l) (by unfold maxLen; omega) (by omega) (by simp) ?_; intro v1 w1 hO hg hb)
    rw [Nat.zero_add, List.nil_append] at hO
    obtain ⟨a', cap', hv, -, hI', hF⟩ := own_ints hO hI.wf
    have Hv := Lib.hid hv
    have hK : Only [] w w1 := ((Only.refl _ _).alloc _).grown hg (by simp [Value.ownBlock])
    clear hO hg hb hv q1 q2
    go_wp2
    go_ret
    refine ⟨_, _, rfl, ?_, hF, hK⟩
    have hr := hI'.rd
    rw [← Hv.out] at hr; exact hr

theorem nil_rd {α : Type} [Rp α] (w : World) : Rd w (.slice none 0 0) ([] : List α) [] := ⟨none, 0, [], [], rfl, rfl, SeqA.nil w none (by simp [maxLen])⟩
theorem int_rd {n : Int} (w : World) (h : I64 n) : Rd w (.int .i64 n) n [] := ⟨rfl, h, rfl⟩
/-- a slice literal of one element -/
theorem one_rd {α : Type} [Rp α] {w : World} {v : Value} {x : α} {fp : List Nat} (h : Rd w v x fp) (e : TypeId) (B : Nat) (hF : Fresh B w fp) {g : Nat} (hgs : g = w.heap.size) (hB : B ≤ g) :
    Rd (w.alloc (.cells #[v] e)) (.slice (some ⟨g, 0, none⟩) 1 1) [x] (g :: fp) ∧ Fresh B (w.alloc (.cells #[v] e)) (g :: fp) := by
  subst hgs
  have hK : Only [] w (w.alloc (.cells #[v] e)) := (Only.refl _ _).alloc _
  have hg : (w.alloc (.cells #[v] e)).heap[w.heap.size]? = some (.cells #[v] e (0, 0)) := heap_alloc_new w _
  constructor
  · refine ⟨some ⟨w.heap.size, 0, none⟩, 1, [w.heap.size], [fp], rfl, by simp, ⟨by simp, by simp [maxLen], rfl, fun k hk => ?_, by simp, by simp⟩⟩
    have : k = 0 := by simpa using hk
    subst this
    refine ⟨w.heap.size, 0, [v], rfl, rfl, fun j u hu => ?_, Rp.keep h hK⟩
    cases j with
    | zero => simp at hu; subst hu; rw [cell_of_row _ _ _ _ _ _ hg]; simp
    | succ j => simp at hu
  · refine ⟨List.nodup_cons.2 ⟨fun hm => by have := hF.lt _ hm; omega, hF.nd⟩, fun b hb => ?_, fun b hb => ?_⟩
    · rcases List.mem_cons.1 hb with rfl | hb
      · exact hB
      · exact hF.ge b hb
    · rcases List.mem_cons.1 hb with rfl | hb
      · exact ⟨_, _, hg⟩
      · exact (hF.own.keep hK) b hb

end Go.Proofs.YtclhblofchfglaaGreat

namespace Go.Proofs.YtclhblofchfglaaGreat
open Go.RowKit
set_option maxRecDepth 10000

/-- the same as quiet_drewN at a function's beginning -/
theorem quiet_drewN0 {P : Program} {f : FuncId} {args : Array Value} {w : World} {n : Nat} {v : Value}
    (h : Calls P f args (w.drewN n) fun e w' => e = .returned v ∧ Drew (w.drewN n) w') :
    Calls P f args (w.drewN n) fun e w'' => e = .returned v ∧ ∃ m, w'' = w.drewN m :=
  h.mono fun _ _ ⟨he, m, hm⟩ => ⟨he, n + m, by rw [hm, World.drewN_drewN]⟩
theorem IntsA.take {w : World} {a : Option Addr} {cap : Nat} {l : List Int} {fp : List Nat} (h : IntsA w a cap l fp) (j : Nat) : IntsA w a cap (l.take j) fp := by
  refine ⟨Nat.le_trans (by simp; omega) h.len, h.cap, fun x hx => h.wf x (List.mem_of_mem_take hx), fun k hk => ?_, h.lt, h.one⟩
  have hk' : k < l.length := by simp at hk; omega
  obtain ⟨b, off, e1, e2, e3⟩ := h.at_ k hk'
  exact ⟨b, off, e1, e2, by rw [e3]; simp⟩
def permB (l : List Int) : Bool := inR l.length 1 20 && decide (PM.IsP l)
theorem permB_iff {l : List Int} : permB l = true ↔ (1 ≤ l.length ∧ l.length ≤ 20) ∧ PM.IsP l := by
  simp [permB, inR]; omega
theorem mem_take_step {l : List Int} {j : Nat} (h : j < l.length) {P : Int → Prop} (h1 : ∀ x ∈ l.take j, P x) (h2 : P l[j]) : ∀ x ∈ l.take (j + 1), P x := by
  rw [take_succ_get l j h]
  intro x hx
  rcases List.mem_append.1 hx with hx | hx
  · exact h1 x hx
  · simp at hx; subst hx; exact h2
theorem nodup_take_step {l : List Int} {j : Nat} (h : j < l.length) (h1 : (l.take j).Nodup) (h2 : l[j] ∉ l.take j) : (l.take (j + 1)).Nodup := by
  rw [take_succ_get l j h]
  exact List.nodup_append.2 ⟨h1, by simp, by intro a ha b hb e; simp at hb; subst hb; subst e; exact h2 ha⟩
theorem nodup_take_not {l : List Int} {j : Nat} (h : j < l.length) (h2 : l[j] ∈ l.take j) : ¬ l.Nodup := by
  intro hn
  have h3 : (l.take (j + 1)).Nodup := List.Nodup.sublist (List.take_sublist _ _) hn
  rw [take_succ_get l j h] at h3
  exact (List.nodup_append.1 h3).2.2 _ h2 _ (by simp) rfl

set_option maxHeartbeats 400000 in
theorem containsInt_any (a : Option Addr) (cap : Nat) (l : List Int) (n : Int) (fp : List Nat) (w : World) (h : IntsA w a cap l fp) :
    Calls Tryz.prog 154 #[.slice a l.length cap, .int .i64 n] w fun e w' => e = .returned (.bool (decide (n ∈ l))) ∧ Drew w w' := by
  have hb := h.bound
  go_enter Tryz.func154, Tryz.ntmps154
  go_wp2
  go_loopw [5] (fun i wr => ∃ j : Nat, j ≤ l.length ∧ i = .int .i64 j ∧ n ∉ l.take j ∧ Drew w wr)
    (fun i _ => l.length - (intOf i).toNat)
  case atStart => exact ⟨0, Nat.zero_le _, rfl, by simp, Drew.refl _⟩
  case round =>
    obtain ⟨j, hj, rfl, hr, k, rfl⟩ := hrel
    have Hr := Lib.hid hr; clear hr
    by_cases hlt : j < l.length
    · obtain ⟨b, off, rfl, -, hc⟩ := h.at_ j hlt
      by_cases hx : l[j] = n
      · have hq : (l[j] == n) = true := by simp [hx]
        have Hx := Lib.hid hx; clear hx
        go_wp2
        go_ret
        exact ⟨ret_bool (decide_eq_true (by rw [← Hx.out]; exact List.getElem_mem _)).symm, ⟨_, rfl⟩⟩
      · have hq : (l[j] == n) = false := by simp [hx]
        have Hx := Lib.hid hx; clear hx
        go_wp2
        go_roundw
        case rel => exact ⟨j + 1, by omega, by go_num, by
          rw [take_succ_get l j hlt]; intro hm
          rcases List.mem_append.1 hm with hm | hm
          · exact Hr.out hm
          · simp at hm; exact Hx.out hm.symm, ⟨_, rfl⟩⟩
        case measure => simp [intOf]; omega
    · go_wp2
      go_ret
      exact ⟨ret_bool (decide_eq_false (by have := Hr.out; rwa [List.take_of_length_le (by omega)] at this)).symm, ⟨_, rfl⟩⟩
theorem containsInt_pre (a : Option Addr) (cap : Nat) (l : List Int) (j : Nat) (n : Int) (fp : List Nat) (w : World) (h : IntsA w a cap l fp) (hj : j ≤ l.length) :
    Calls Tryz.prog 154 #[.slice a j cap, .int .i64 n] w fun e w' => e = .returned (.bool (decide (n ∈ l.take j))) ∧ Drew w w' := by
  have := containsInt_any a cap (l.take j) n fp w (h.take j)
  rwa [show (l.take j).length = j by simp; omega] at this
theorem inRange_q (x lo hi : Int) (w : World) :
    Calls Tryz.prog 88 #[.int .i64 x, .int .i64 lo, .int .i64 hi] w fun e w' => e = .returned (.bool (inR x lo hi)) ∧ Drew w w' :=
  (inRange_any x lo hi w).mono fun _ _ ⟨h1, h2⟩ => ⟨h1, by rw [h2]; exact Drew.refl _⟩
set_option maxHeartbeats 1000000 in
theorem specIsPerm_any (a : Option Addr) (cap : Nat) (l : List Int) (fp : List Nat) (w : World) (h : IntsA w a cap l fp) :
    Calls Tryz.prog 133 #[.slice a l.length cap] w fun e w' => e = .returned (.bool (permB l)) ∧ Drew w w' := by
  have hb := h.bound
  rcases hq : inR l.length 1 20
  · go_enter Tryz.func133, Tryz.ntmps133
    go_wp2_with ((go_at_call 88; (with_reducible refine (inRange_any l.length 1 20 _).mono ?_); rintro e w1 ⟨rfl, rfl⟩))
    go_ret
    exact ⟨ret_bool (by unfold permB; rw [hq]; rfl), Drew.refl _⟩
  have hfin : permB l = decide (PM.IsP l) := by unfold permB; rw [hq]; rfl
  have Hfin := Lib.hid hfin; clear hfin
  obtain ⟨g1, g2⟩ := inR_iff.1 hq
  go_enter Tryz.func133, Tryz.ntmps133
  go_wp2_with ((go_at_call 88; (with_reducible refine (inRange_any l.length 1 20 _).mono ?_); rintro e w ⟨rfl, rfl⟩))
  go_loopw [4] (fun i wr => ∃ j : Nat, j ≤ l.length ∧ i = .int .i64 j ∧ (∀ x ∈ l.take j, 0 ≤ x ∧ x < l.length) ∧ (l.take j).Nodup ∧ Drew w wr)
    (fun i _ => l.length - (intOf i).toNat)
  case atStart => exact ⟨0, Nat.zero_le _, rfl, by simp, by simp, Drew.refl _⟩
  case round =>
    obtain ⟨j, hj, rfl, hr, hn, k, rfl⟩ := hrel
    have Hr := Lib.hid hr; clear hr
    have Hn := Lib.hid hn; clear hn
    by_cases hlt : j < l.length
    · obtain ⟨b, off, rfl, -, hc⟩ := h.at_ j hlt
      have hcap := h.len
      have hi1 : (0 : Int) ≤ (j : Int) := by omega
      have hi2 : (j : Int) < (l.length : Int) := by omega
      rcases c1 : inR l[j] 0 (l.length - 1)
      · go_wp2
        go_quiet ((go_at_call 88; exact quiet_drewN (inRange_q l[j] 0 (l.length - 1) _)))
        go_wp2
        go_ret
        exact ⟨ret_bool (by rw [Hfin.out, eq_comm, decide_eq_false_iff_not]; intro hp; have := hp.1 l[j] (List.getElem_mem _); rw [inR_not] at c1; omega), ((Drew.refl _).drewN _).drewN _⟩
      have hx := inR_iff.1 c1
      have Hx := Lib.hid hx; clear hx
      rcases c2 : decide (l[j] ∈ l.take j)
      all_goals go_wp2
      all_goals go_quiet (first
        | (go_at_call 88; exact quiet_drewN (inRange_q l[j] 0 (l.length - 1) _))
        | (go_at_call 154; exact quiet_drewN (containsInt_pre (some ⟨b, off, none⟩) cap l j l[j] fp _ (h.keep (Only.ofDrewN _ _ _)) hj)))
      · have C2 := Lib.hid (of_decide_eq_false c2); clear c2
        go_wp2
        go_roundw
        case rel => exact ⟨j + 1, by omega, by go_num, mem_take_step hlt Hr.out (by have := Hx.out; omega), nodup_take_step hlt Hn.out C2.out, ⟨_, rfl⟩⟩
        case measure => simp [intOf]; omega
      · have C2 := Lib.hid (of_decide_eq_true c2); clear c2
        go_wp2
        go_ret
        exact ⟨ret_bool (by rw [Hfin.out, eq_comm, decide_eq_false_iff_not]; intro hp; exact nodup_take_not hlt C2.out hp.2), ((Drew.refl _).drewN _).drewN _⟩
    · go_wp2
      go_ret
      exact ⟨ret_bool (by rw [Hfin.out, eq_comm, decide_eq_true_iff]; have h1 := Hr.out; have h2 := Hn.out; rw [List.take_of_length_le (by omega)] at h1 h2; exact ⟨h1, h2⟩), ⟨_, rfl⟩⟩
theorem specIsPerm_rd (v : Value) (l : List Int) (fp : List Nat) (w : World) (h : Rd w v l fp) :
    Calls Tryz.prog 133 #[v] w fun e w' => e = .returned (.bool (permB l)) ∧ Drew w w' := by
  obtain ⟨a, cap, rfl, hI⟩ := h.ints
  exact specIsPerm_any a cap l fp w hI
theorem lengthRows_rd (v : Value) (l : List (List Int)) (fp : List Nat) (w : World) (h : Rd w v l fp) :
    Calls Tryz.prog 97 #[v] w fun e w' => e = .returned (.int .i64 l.length) ∧ w' = w := by
  obtain ⟨a, cap, ob, fps, rfl, -, hs⟩ := h.open_
  have hb := hs.bound
  go_enter Tryz.func97, Tryz.ntmps97
  go_wp2
  go_ret
  exact ⟨rfl, rfl⟩
theorem lengthInt_rd (v : Value) (l : List Int) (fp : List Nat) (w : World) (h : Rd w v l fp) :
    Calls Tryz.prog 47 #[v] w fun e w' => e = .returned (.int .i64 l.length) ∧ w' = w := by
  obtain ⟨a, cap, rfl, hI⟩ := h.ints
  have hb := hI.bound
  go_enter Tryz.func47, Tryz.ntmps47
  go_wp2
  go_ret
  exact ⟨rfl, rfl⟩
theorem wrap64_small (n : Int) (h0 : 0 ≤ n) (h1 : n < 9223372036854775808) : wrap64 n = n := by
  unfold wrap64; omega
theorem pow_small {k : Nat} (h : k ≤ 20) : (2 : Int) ^ k ≤ 1048576 ∧ 1 ≤ (2 : Int) ^ k := by
  have h1 : 2 ^ k ≤ 2 ^ 20 := Nat.pow_le_pow_right (by decide) h
  have h2 : 1 ≤ 2 ^ k := Nat.one_le_two_pow
  have e : ((2 : Int) ^ k) = ((2 ^ k : Nat) : Int) := by simp
  rw [e]
  constructor
  · have : (2 : Nat) ^ 20 = 1048576 := by decide
    omega
  · omega
theorem or_step (m : Nat) (hm : m < 2 ^ 20) (x : Int) (h0 : 0 ≤ x) (h1 : x ≤ 19) : bits BinOp.or IntKind.i64 (m : Int) (wrap64 (2 ^ x.toNat)) = ((m ||| 2 ^ x.toNat : Nat) : Int) := by
  have hp := pow_small (k := x.toNat) (by omega)
  rw [wrap64_small _ (by omega) (by omega)]
  have e : ((2 : Int) ^ x.toNat) = ((2 ^ x.toNat : Nat) : Int) := by simp
  rw [e]
  refine (bits_nat .i64 20 (by decide) ?_ m (2 ^ x.toNat) hm (Nat.pow_lt_pow_right (by decide) (by omega))).2
  intro n hn0 hn1
  have : (2 : Int) ^ 20 = 1048576 := by decide
  rw [IntKind.wrap_i64]; omega
theorem mask_end (l : List Int) (h : ∀ x ∈ l, 0 ≤ x ∧ x < l.length) (hl : l.length ≤ 20) : ((PM.mask l : Int) == wrap64 (wrap64 (2 ^ l.length) - 1)) = decide (PM.IsP l) := by
  have hp := pow_small hl
  rw [wrap64_small (2 ^ l.length) (by omega) (by omega), wrap64_small _ (by omega) (by omega)]
  have h1 : 1 ≤ 2 ^ l.length := Nat.one_le_two_pow
  have e : ((2 : Int) ^ l.length) - 1 = ((2 ^ l.length - 1 : Nat) : Int) := by
    rw [Int.natCast_sub h1]; simp
  rw [e]
  by_cases hm : PM.IsP l
  · rw [decide_eq_true hm, (PM.mask_full l h).2 hm]; simp
  · rw [decide_eq_false hm]
    have : PM.mask l ≠ 2 ^ l.length - 1 := fun he => hm ((PM.mask_full l h).1 he)
    simp only [beq_eq_false_iff_ne, ne_eq]
    omega
set_option maxHeartbeats 1000000 in
theorem implIsPerm_any (a : Option Addr) (cap : Nat) (l : List Int) (fp : List Nat) (w : World) (h : IntsA w a cap l fp) :
    Calls Tryz.prog 137 #[.slice a l.length cap] w fun e w' => e = .returned (.bool (permB l)) ∧ Drew w w' := by
  have hb := h.bound
  rcases hq : inR l.length 1 20
  · go_enter Tryz.func137, Tryz.ntmps137
    go_wp2_with (first | (go_at_call 47; (with_reducible refine (lengthInt_rd _ l fp _ h.rd).mono ?_); rintro e w ⟨rfl, rfl⟩) | (go_at_call 96; (with_reducible refine (within_any l.length 1 20 _).mono ?_); rintro e w ⟨rfl, rfl⟩))
    go_ret
    exact ⟨ret_bool (by unfold permB; rw [hq]; rfl), Drew.refl _⟩
  have hfin : permB l = decide (PM.IsP l) := by unfold permB; rw [hq]; rfl
  have Hfin := Lib.hid hfin; clear hfin
  obtain ⟨g1, g2⟩ := inR_iff.1 hq
  go_enter Tryz.func137, Tryz.ntmps137
  go_wp2_with (first | (go_at_call 47; (with_reducible refine (lengthInt_rd _ l fp _ h.rd).mono ?_); rintro e w ⟨rfl, rfl⟩) | (go_at_call 96; (with_reducible refine (within_any l.length 1 20 _).mono ?_); rintro e w ⟨rfl, rfl⟩))
  go_loopw [3, 12] (fun sn i wr => ∃ j : Nat, j ≤ l.length ∧ i = .int .i64 j ∧ sn = .int .i64 (PM.mask (l.take j) : Nat) ∧ (∀ x ∈ l.take j, 0 ≤ x ∧ x < l.length) ∧ Drew w wr)
    (fun _ i _ => l.length - (intOf i).toNat)
  case atStart => exact ⟨0, Nat.zero_le _, rfl, rfl, by simp, Drew.refl _⟩
  case round =>
    obtain ⟨j, hj, rfl, rfl, hr, k, rfl⟩ := hrel
    have Hr := Lib.hid hr; clear hr
    by_cases hlt : j < l.length
    · obtain ⟨b, off, ha, -, hc⟩ := h.at_ j hlt
      subst ha
      rcases c1 : inR l[j] 0 (l.length - 1)
      · go_wp2_with (first | (go_at_call 47; (with_reducible refine (lengthInt_rd _ l fp _ (Rp.keep h.rd (Only.ofDrewN _ _ _))).mono ?_); rintro e w1 ⟨rfl, rfl⟩) | (go_at_call 96; (with_reducible refine (within_any l[j] 0 (l.length - 1) _).mono ?_); rintro e w1 ⟨rfl, rfl⟩))
        go_ret
        exact ⟨ret_bool (by rw [Hfin.out, eq_comm, decide_eq_false_iff_not]; intro hp; have := hp.1 l[j] (List.getElem_mem _); rw [inR_not] at c1; omega), ⟨_, rfl⟩⟩
      have hx := inR_iff.1 c1
      have Hx := Lib.hid hx; clear hx
      have hx0 : 0 ≤ l[j] := Hx.out.1
      have hx1 : l[j] ≤ 19 := by have := Hx.out; omega
      have hm := or_step (PM.mask (l.take j)) (Nat.lt_of_lt_of_le (PM.mask_lt _ l.length Hr.out) (Nat.pow_le_pow_right (by decide) (by omega))) l[j] hx0 hx1
      have Hm := Lib.hid hm; clear hm
      go_wp2_with (first | (go_at_call 47; (with_reducible refine (lengthInt_rd _ l fp _ (Rp.keep h.rd (Only.ofDrewN _ _ _))).mono ?_); rintro e w1 ⟨rfl, rfl⟩) | (go_at_call 96; (with_reducible refine (within_any l[j] 0 (l.length - 1) _).mono ?_); rintro e w1 ⟨rfl, rfl⟩))
      refine ⟨⟨j + 1, by omega, by go_num, ?_, mem_take_step hlt Hr.out (by have := Hx.out; omega), ⟨_, rfl⟩⟩, by simp [intOf]; omega⟩
      rw [take_succ_get l j hlt, PM.mask_append, Hm.out]
    · go_wp2
      go_ret
      exact ⟨ret_bool (by have h1 := Hr.out; rw [List.take_of_length_le (by omega)] at h1 ⊢; rw [Hfin.out]; exact mask_end l h1 (by omega)), ⟨_, rfl⟩⟩
theorem implIsPerm_rd (v : Value) (l : List Int) (fp : List Nat) (w : World) (h : Rd w v l fp) :
    Calls Tryz.prog 137 #[v] w fun e w' => e = .returned (.bool (permB l)) ∧ Drew w w' := by
  obtain ⟨a, cap, rfl, hI⟩ := h.ints
  exact implIsPerm_any a cap l fp w hI
end Go.Proofs.YtclhblofchfglaaGreat

namespace Go.Proofs.YtclhblofchfglaaGreat
open Go.RowKit
set_option maxRecDepth 10000

set_option maxHeartbeats 400000 in
theorem IndexFunc_rows (f : FuncId) (caps : Array Value) (pr : List Int → Bool) (hcf : ∀ args w, (callFunc f args).run Tryz.prog w = .ok (.enter f args) w)
    (v : Value) (l : List (List Int)) (fp : List Nat) (w : World) (h : Rd w v l fp)
    (hc : ∀ x ∈ l, ∀ u f' w', Only [] w w' → Rd w' u x f' → Calls Tryz.prog f (#[u] ++ caps) w' fun e w'' => e = .returned (.bool (pr x)) ∧ Only [] w' w'') :
    Calls Tryz.prog 196 #[v, .func (.func f) #[] caps] w fun e w' => e = .returned (.int .i64 (idxF pr l)) ∧ Only [] w w' := by
  obtain ⟨a, cap, ob, fps, rfl, -, hI⟩ := h.open_
  have hb := hI.bound
  have HC := Lib.hid hc
  clear hc
  go_enter Tryz.func196, Tryz.ntmps196
  go_wp2
  go_loopw [5, 8] (fun i t wr => ∃ j : Nat, j ≤ l.length ∧ t = .int .i64 j ∧ (∀ x ∈ l.take j, pr x = false) ∧ Only [] w wr)
    (fun _ t _ => l.length - (intOf t).toNat)
  case atStart => exact ⟨0, Nat.zero_le _, rfl, by simp, Only.refl _ _⟩
  case round =>
    obtain ⟨j, hj, rfl, hr, hK⟩ := hrel
    have Hr := Lib.hid hr; clear hr
    by_cases hlt : j < l.length
    · obtain ⟨b, off, u, rfl, -, hc0, hv0⟩ := hI.atRow j hlt
      have hc := hK.cell (by simp) hc0
      have hv := Rp.keep hv0 hK
      clear hc0 hv0
      rcases hp : pr l[j]
      all_goals go_wp2_with (with_reducible refine (HC.out l[j] (List.getElem_mem _) u _ wr hK hv).mono ?_; rintro e w1 ⟨rfl, hk1⟩)
      · go_roundw
        case rel => exact ⟨j + 1, by omega, by go_num, by
          rw [take_succ_get l j hlt]; intro x hx
          rcases List.mem_append.1 hx with hx | hx
          · exact Hr.out x hx
          · simp at hx; subst hx; exact hp, hK.trans hk1⟩
        case measure => simp [intOf]; omega
      · go_ret
        exact ⟨ret_int (idxF_some hlt Hr.out hp).symm, hK.trans hk1⟩
    · go_wp2
      go_ret
      exact ⟨ret_int (idxF_none (by have := Hr.out; rwa [List.take_of_length_le (by omega)] at this)).symm, hK⟩
set_option maxHeartbeats 400000 in
theorem ContainsFunc_rows (f : FuncId) (caps : Array Value) (pr : List Int → Bool) (hcf : ∀ args w, (callFunc f args).run Tryz.prog w = .ok (.enter f args) w)
    (v : Value) (l : List (List Int)) (fp : List Nat) (w : World) (h : Rd w v l fp)
    (hc : ∀ x ∈ l, ∀ u f' w', Only [] w w' → Rd w' u x f' → Calls Tryz.prog f (#[u] ++ caps) w' fun e w'' => e = .returned (.bool (pr x)) ∧ Only [] w' w'') :
    Calls Tryz.prog 171 #[v, .func (.func f) #[] caps] w fun e w' => e = .returned (.bool (l.any pr)) ∧ Only [] w w' := by
  have HC := Lib.hid hc
  clear hc
  go_enter Tryz.func171, Tryz.ntmps171
  go_wp2_with ((go_at_call 196; (with_reducible refine (IndexFunc_rows f caps pr hcf v l _ w h HC.out).mono ?_); rintro e w1 ⟨rfl, hk⟩))
  go_ret
  exact ⟨ret_bool idxF_ge, hk⟩

def genB (n : Int) (g : List Int) : Bool := decide ((g.length : Int) = n) && permB g
def gensB (n : Int) (gens : List (List Int)) : Bool := inR n 1 20 && decide (gens.length ≤ 8) && gens.all (genB n)
set_option maxHeartbeats 1000000 in
theorem specIsGens_any (n : Int) (a : Option Addr) (cap : Nat) (l : List (List Int)) (ob : List Nat) (fps : List (List Nat)) (w : World) (h : SeqA w a cap l ob fps) :
    Calls Tryz.prog 131 #[.int .i64 n, .slice a l.length cap] w fun e w' => e = .returned (.bool (gensB n l)) ∧ Drew w w' := by
  have hb := h.bound
  rcases hq : inR n 1 20
  · go_enter Tryz.func131, Tryz.ntmps131
    go_wp2_with ((go_at_call 88; (with_reducible refine (inRange_any n 1 20 _).mono ?_); rintro e w ⟨rfl, rfl⟩))
    go_ret
    exact ⟨ret_bool (by unfold gensB; rw [hq]; rfl), Drew.refl _⟩
  by_cases hl : 8 < l.length
  · go_enter Tryz.func131, Tryz.ntmps131
    go_wp2_with ((go_at_call 88; (with_reducible refine (inRange_any n 1 20 _).mono ?_); rintro e w ⟨rfl, rfl⟩))
    go_ret
    exact ⟨ret_bool (by unfold gensB; rw [hq, decide_eq_false (by omega)]; rfl), Drew.refl _⟩
  have hfin : gensB n l = l.all (genB n) := by unfold gensB; rw [hq, decide_eq_true (by omega)]; rfl
  have Hfin := Lib.hid hfin; clear hfin
  go_enter Tryz.func131, Tryz.ntmps131
  go_wp2_with ((go_at_call 88; (with_reducible refine (inRange_any n 1 20 _).mono ?_); rintro e w ⟨rfl, rfl⟩))
  go_loopw [5] (fun i wr => ∃ j : Nat, j ≤ l.length ∧ i = .int .i64 j ∧ (∀ x ∈ l.take j, genB n x = true) ∧ Drew w wr)
    (fun i _ => l.length - (intOf i).toNat)
  case atStart => exact ⟨0, Nat.zero_le _, rfl, by simp, Drew.refl _⟩
  case round =>
    obtain ⟨j, hj, rfl, hr, k, rfl⟩ := hrel
    have Hr := Lib.hid hr; clear hr
    by_cases hlt : j < l.length
    · obtain ⟨b, off, v, rfl, -, hc, hv⟩ := h.atRow j hlt
      obtain ⟨a2, c2, rfl, hI⟩ := hv.ints
      have hb2 := hI.bound
      by_cases c1 : (l[j].length : Int) = n
      · have d1 : ((l[j].length : Int) != n) = false := by simp [c1]
        have C1 := Lib.hid c1; clear c1
        rcases c2 : permB l[j]
        all_goals go_wp2_with ((go_at_call 133; (with_reducible refine (specIsPerm_rd _ l[j] _ _ (Rp.keep hv (Only.ofDrewN _ _ _))).mono ?_); rintro e w1 ⟨rfl, n1, rfl⟩))
        · go_ret
          exact ⟨ret_bool (by rw [Hfin.out, eq_comm, List.all_eq_false]; exact ⟨l[j], List.getElem_mem _, by simp [genB, c2]⟩), ⟨_, rfl⟩⟩
        · go_roundw
          case rel => exact ⟨j + 1, by omega, by go_num, by
            rw [take_succ_get l j hlt]; intro x hx
            rcases List.mem_append.1 hx with hx | hx
            · exact Hr.out x hx
            · simp at hx; subst hx; simp [genB, c2, C1.out], ⟨_, rfl⟩⟩
          case measure => simp [intOf]; omega
      · have d1 : ((l[j].length : Int) != n) = true := by simp [c1]
        have C1 := Lib.hid c1; clear c1
        go_wp2
        go_ret
        exact ⟨ret_bool (by rw [Hfin.out, eq_comm, List.all_eq_false]; exact ⟨l[j], List.getElem_mem _, by simp [genB, C1.out]⟩), ⟨_, rfl⟩⟩
    · go_wp2
      go_ret
      exact ⟨ret_bool (by rw [Hfin.out, eq_comm, List.all_eq_true]; have := Hr.out; rwa [List.take_of_length_le (by omega)] at this), ⟨_, rfl⟩⟩
theorem specIsGens_rd (n : Int) (v : Value) (l : List (List Int)) (fp : List Nat) (w : World) (h : Rd w v l fp) :
    Calls Tryz.prog 131 #[.int .i64 n, v] w fun e w' => e = .returned (.bool (gensB n l)) ∧ Drew w w' := by
  obtain ⟨a, cap, ob, fps, rfl, -, hs⟩ := h.open_
  exact specIsGens_any n a cap l ob fps w hs
theorem lengthInt_q (v : Value) (l : List Int) (fp : List Nat) (w : World) (h : Rd w v l fp) :
    Calls Tryz.prog 47 #[v] w fun e w' => e = .returned (.int .i64 l.length) ∧ Drew w w' :=
  (lengthInt_rd v l fp w h).mono fun _ _ ⟨h1, h2⟩ => ⟨h1, by rw [h2]; exact Drew.refl _⟩
set_option maxHeartbeats 1000000 in
theorem IsGens_closure (n : Int) (u : Value) (x : List Int) (fp : List Nat) (b : Nat) (w : World) (h : Rd w u x fp) (hc : w.cell? ⟨b, 0, none⟩ = some (.int .i64 n)) :
    Calls Tryz.prog 172 #[u, .pointer (some ⟨b, 0, none⟩)] w fun e w' => e = .returned (.bool (!genB n x)) ∧ Only [] w w' := by
  obtain ⟨a, cap, rfl, hI⟩ := h.ints
  have hb := hI.bound
  by_cases c1 : (x.length : Int) = n
  · have d1 : ((x.length : Int) != n) = false := by simp [c1]
    have hg : genB n x = permB x := by simp [genB, c1]
    have Hg := Lib.hid hg; clear hg c1
    rcases c2 : permB x
    all_goals go_enter Tryz.func172, Tryz.ntmps172
    all_goals go_wp2
    all_goals go_quiet (first
      | (go_at_call 47; exact quiet_drewN0 (lengthInt_q _ x fp _ (Rp.keep h (Only.ofDrewN _ _ _))))
      | (go_at_call 137; exact quiet_drewN0 (implIsPerm_rd _ x fp _ (Rp.keep h (Only.ofDrewN _ _ _)))))
    all_goals go_wp2
    all_goals go_ret
    all_goals exact ⟨ret_bool (by rw [Hg.out, c2]; rfl), Only.ofDrewN _ _ _⟩
  · have d1 : ((x.length : Int) != n) = true := by simp [c1]
    have hg : genB n x = false := by simp [genB, c1]
    have Hg := Lib.hid hg; clear hg c1
    go_enter Tryz.func172, Tryz.ntmps172
    go_wp2
    go_quiet (first
      | (go_at_call 47; exact quiet_drewN0 (lengthInt_q _ x fp _ (Rp.keep h (Only.ofDrewN _ _ _))))
      | (go_at_call 137; exact quiet_drewN0 (implIsPerm_rd _ x fp _ (Rp.keep h (Only.ofDrewN _ _ _)))))
    go_wp2
    go_ret
    exact ⟨ret_bool (by rw [Hg.out]; rfl), Only.ofDrewN _ _ _⟩
set_option maxHeartbeats 1000000 in
theorem implIsGens_rd (n : Int) (v : Value) (l : List (List Int)) (fp : List Nat) (w : World) (h : Rd w v l fp) :
    Calls Tryz.prog 135 #[.int .i64 n, v] w fun e w' => e = .returned (.bool (gensB n l)) ∧ Only [] w w' := by
  obtain ⟨a, cap, ob, fps, rfl, -, hs⟩ := h.open_
  have hb := hs.bound
  rcases hq : inR n 1 20
  · go_enter Tryz.func135, Tryz.ntmps135
    go_wp2_with ((go_at_call 96; (with_reducible refine (within_any n 1 20 _).mono ?_); rintro e w1 ⟨rfl, rfl⟩))
    go_ret
    exact ⟨ret_bool (by unfold gensB; rw [hq]; rfl), (by with_reducible repeat (first | exact Only.refl _ _ | assumption | refine Only.drewN ?_ _ | refine Only.drew ?_ | refine Only.alloc ?_ _ | refine Only.setCell ?_ (by intro hh; exfalso; simp at hh; try omega) _ | refine Only.trans ?_ (by assumption)))⟩
  by_cases hl : l.length ≤ 8
  · have hfin : gensB n l = !(l.any fun x => !genB n x) := by unfold gensB; rw [hq, decide_eq_true hl, List.not_any_eq_all_not]; simp
    have Hfin := Lib.hid hfin; clear hfin
    have Hc := Lib.hid (ContainsFunc_rows 172 #[.pointer (some ⟨w.heap.size, 0, none⟩)] (fun x => !genB n x) Tryz.call172 (.slice a l.length cap) l _ (w.alloc (.cells #[.int .i64 n] 2)) (Rp.keep h (by with_reducible repeat (first | exact Only.refl _ _ | assumption | refine Only.drewN ?_ _ | refine Only.drew ?_ | refine Only.alloc ?_ _ | refine Only.setCell ?_ (by intro hh; exfalso; simp at hh; try omega) _ | refine Only.trans ?_ (by assumption))))
      (fun x _ u f' w' hw hu => IsGens_closure n u x f' w.heap.size w' hu (hw.cell (by simp) (by simp))))
    rcases hany : l.any fun x => !genB n x
    all_goals go_enter Tryz.func135, Tryz.ntmps135
    all_goals go_wp2_with (first | (go_at_call 96; refine (within_any n 1 20 _).mono ?_; rintro e w1 ⟨rfl, rfl⟩) | (go_at_call 171; (with_reducible refine (Hc.out).mono ?_); rintro e w1 ⟨rfl, hk⟩))
    all_goals go_ret
    all_goals exact ⟨ret_bool (by rw [Hfin.out, hany]; rfl), (by with_reducible repeat (first | exact Only.refl _ _ | assumption | refine Only.drewN ?_ _ | refine Only.drew ?_ | refine Only.alloc ?_ _ | refine Only.setCell ?_ (by intro hh; exfalso; simp at hh; try omega) _ | refine Only.trans ?_ (by assumption)))⟩
  · go_enter Tryz.func135, Tryz.ntmps135
    go_wp2_with ((go_at_call 96; (with_reducible refine (within_any n 1 20 _).mono ?_); rintro e w1 ⟨rfl, rfl⟩))
    go_ret
    exact ⟨ret_bool (by unfold gensB; rw [hq, decide_eq_false hl]; rfl), (by with_reducible repeat (first | exact Only.refl _ _ | assumption | refine Only.drewN ?_ _ | refine Only.drew ?_ | refine Only.alloc ?_ _ | refine Only.setCell ?_ (by intro hh; exfalso; simp at hh; try omega) _ | refine Only.trans ?_ (by assumption)))⟩
end Go.Proofs.YtclhblofchfglaaGreat

namespace Go.Proofs.YtclhblofchfglaaGreat
open Go.RowKit
set_option maxRecDepth 10000

class MkL (α : Type) [Mk α] : Prop where
  idem : ∀ (k : Int) (x : α), Mk.mark k (Mk.mark k x) = Mk.mark k x
  cnt : ∀ (k : Int) (x : α), Mk.cnt (Mk.mark k x) = Mk.cnt x
instance : MkL Int := ⟨fun _ _ => rfl, fun _ _ => rfl⟩
theorem markL_cnt {α : Type} [Mk α] [MkL α] (k : Int) (l : List α) : cntL (markL k l) = cntL l := by
  induction l generalizing k with
  | nil => rfl
  | cons x l ih => simp [markL, cntL, ih, MkL.cnt]
theorem markL_idem {α : Type} [Mk α] [MkL α] (k : Int) (l : List α) : markL k (markL k l) = markL k l := by
  induction l generalizing k with
  | nil => rfl
  | cons x l ih => simp [markL, ih, MkL.cnt, MkL.idem]
instance {α : Type} [Mk α] [MkL α] : MkL (List α) := ⟨markL_idem, markL_cnt⟩
theorem heldV_mark {α : Type} [Mk α] [MkL α] (k : Int) (x : α) : heldV k (Mk.mark k x) = k + (Mk.cnt x : Nat) := by
  rw [heldV_yes (MkL.idem k x).symm, MkL.cnt]

/-- how many numbers there are, against the size that the laws reckon -/
class CntSz (α : Type) [Mk α] [Sz α] : Prop where
  le : ∀ x : α, Mk.cnt x ≤ Sz.sz x
instance : CntSz (List Int) := ⟨fun l => by simp [Mk.cnt, cntL_ints, Sz.sz]⟩
theorem cntL_szL {α : Type} [Mk α] [Sz α] [CntSz α] (l : List α) : cntL l ≤ szL l := by
  induction l with
  | nil => simp [cntL]
  | cons x l ih => have := CntSz.le x; simp only [cntL, szL]; omega
instance {α : Type} [Mk α] [Sz α] [CntSz α] : CntSz (List α) := ⟨fun l => by have := cntL_szL l; show cntL l ≤ l.length + szL l; omega⟩

theorem str_ne {a b : ByteArray} (h : a ≠ b) : (a.toList == b.toList) = false := by
  rw [beq_eq_false_iff_ne]
  intro e
  rw [ByteArray.toList_eq, ByteArray.toList_eq] at e
  exact h (ByteArray.ext (Array.toList_inj.1 e))
theorem str_eq {a b : ByteArray} (h : a = b) : (a.toList == b.toList) = true := by subst h; simp
theorem and_of {a b : Prop} (h : a) (k : a → b) : a ∧ b := ⟨h, k h⟩
/-- block g holds just the cells cs -/
def Blk (w : World) (g : Nat) (cs : List Value) : Prop := ∃ t, w.heap[g]? = some (.cells cs.toArray t (0, 0))
theorem Blk.lt {w : World} {g : Nat} {cs : List Value} (h : Blk w g cs) : g < w.heap.size := by
  obtain ⟨t, h⟩ := h; exact (Array.getElem?_eq_some_iff.1 h).1
theorem Blk.new (w : World) (cs : List Value) (t : TypeId) : Blk (w.alloc (.cells cs.toArray t)) w.heap.size cs := ⟨t, heap_alloc_new w _⟩
theorem Blk.new_at {w : World} {cs : List Value} {t : TypeId} {g : Nat} (h : g = w.heap.size) : Blk (w.alloc (.cells cs.toArray t)) g cs := by subst h; exact Blk.new _ _ _
theorem Blk.only {w w' : World} {g : Nat} {cs : List Value} {fp : List Nat} (h : Blk w g cs) (ho : Only fp w w') (hn : g ∉ fp) : Blk w' g cs := by
  have := h.lt
  obtain ⟨t, h⟩ := h; exact ⟨t, (ho.block g this hn).trans h⟩
theorem Blk.keep {w w' : World} {g : Nat} {cs : List Value} (h : Blk w g cs) (ho : Only [] w w') : Blk w' g cs := h.only ho (by simp)
theorem Blk.cell {w : World} {g : Nat} {cs : List Value} (h : Blk w g cs) (i : Nat) {v : Value} (hv : cs[i]? = some v) : w.cell? ⟨g, i, none⟩ = some v := by
  obtain ⟨t, h⟩ := h
  rw [cell_of_row w g i _ t (0, 0) h]; simpa using hv
end Go.Proofs.YtclhblofchfglaaGreat
