/- Ranges, words: the program's and the reference's tests on them. -/
import Derived.Test.YtpfmkjcngknecaaOps
namespace Go.Proofs.Ytpfmkjcngknecaa
open Go.RowKit
set_option maxRecDepth 10000

def inR (x lo hi : Int) : Bool := decide (lo ≤ x) && decide (x ≤ hi)
theorem inR_iff {x lo hi : Int} : inR x lo hi = true ↔ lo ≤ x ∧ x ≤ hi := by simp [inR]
theorem inR_not {x lo hi : Int} : inR x lo hi = false ↔ ¬ (lo ≤ x ∧ x ≤ hi) := by rw [← inR_iff]; simp

theorem inRange_any (x lo hi : Int) (w : World) :
    Calls Try.prog 54 #[.int .i64 x, .int .i64 lo, .int .i64 hi] w fun e w' => e = .returned (.bool (inR x lo hi)) ∧ w' = w := by
  by_cases h1 : lo ≤ x
  · by_cases h2 : x ≤ hi
    · go_enter Try.func54, Try.ntmps54
      go_wp2
      go_ret
      exact ⟨ret_bool (by simp [inR, h1, h2]), rfl⟩
    · go_enter Try.func54, Try.ntmps54
      go_wp2
      go_ret
      exact ⟨ret_bool (by simp [inR, h2]), rfl⟩
  · go_enter Try.func54, Try.ntmps54
    go_wp2
    go_ret
    exact ⟨ret_bool (by simp [inR]; omega), rfl⟩
theorem within_any (x lo hi : Int) (w : World) :
    Calls Try.prog 58 #[.int .i64 x, .int .i64 lo, .int .i64 hi] w fun e w' => e = .returned (.bool (inR x lo hi)) ∧ w' = w := by
  by_cases h1 : lo ≤ x
  · by_cases h2 : x ≤ hi
    · go_enter Try.func58, Try.ntmps58
      go_wp2
      go_ret
      exact ⟨ret_bool (by simp [inR, h1, h2]), rfl⟩
    · go_enter Try.func58, Try.ntmps58
      go_wp2
      go_ret
      exact ⟨ret_bool (by simp [inR, h2]), rfl⟩
  · go_enter Try.func58, Try.ntmps58
    go_wp2
    go_ret
    exact ⟨ret_bool (by simp [inR]; omega), rfl⟩

def okLetter (g x : Int) : Bool := decide (x ≠ 0) && inR x (-(min g 8)) (min g 8)
/-- the valid words of g generators -/
def validW (g : Int) (l : List Int) : Bool := decide (l.length ≤ 200) && l.all (okLetter g)
theorem okLetter_iff {g x : Int} : okLetter g x = true ↔ x ≠ 0 ∧ -(min g 8) ≤ x ∧ x ≤ min g 8 := by simp [okLetter, inR_iff]
theorem okLetter_not {g x : Int} : okLetter g x = false ↔ ¬ (x ≠ 0 ∧ -(min g 8) ≤ x ∧ x ≤ min g 8) := by rw [← okLetter_iff]; simp
theorem validW_no {g : Int} {l : List Int} {j : Nat} (hj : j < l.length) (h : okLetter g l[j] = false) : validW g l = false := by
  unfold validW
  have : l.all (okLetter g) = false := by
    rw [List.all_eq_false]; exact ⟨l[j], List.getElem_mem _, by simp [h]⟩
  rw [this]; simp
theorem validW_long {g : Int} {l : List Int} (h : 200 < l.length) : validW g l = false := by
  unfold validW
  have : decide (l.length ≤ 200) = false := by simp; omega
  rw [this]; rfl
theorem validW_yes {g : Int} {l : List Int} (h : l.length ≤ 200) (h2 : ∀ x ∈ l, okLetter g x = true) : validW g l = true := by
  unfold validW
  simp only [h, decide_true, Bool.true_and, List.all_eq_true]
  exact h2
theorem validW_len {g : Int} {l : List Int} (h : validW g l = true) : l.length ≤ 200 := by
  unfold validW at h; simp at h; exact h.1
theorem all_step {pr : Int → Bool} {l : List Int} {j : Nat} (hj : j < l.length) (h : ∀ x ∈ l.take j, pr x = true) (hp : pr l[j] = true) : ∀ x ∈ l.take (j + 1), pr x = true := by
  rw [take_succ_get l j hj]; intro x hx
  rcases List.mem_append.1 hx with hx | hx
  · exact h x hx
  · simp at hx; subst hx; exact hp

set_option maxHeartbeats 1000000 in
theorem isWordOf_rd (g : Int) (v : Value) (l : List Int) (fp : List Nat) (w : World) (h : Rd w v l fp) (g0 : 0 ≤ g) (g1 : g ≤ 4611686018427387904) :
    Calls Try.prog 65 #[.int .i64 g, v] w fun e w' => e = .returned (.bool (validW g l)) ∧ Drew w w' := by
  obtain ⟨a, cap, rfl, hI⟩ := h.ints
  have hb := hI.bound
  by_cases hlen : 200 < l.length
  · go_enter Try.func65, Try.ntmps65
    go_wp2
    go_ret
    exact ⟨ret_bool (validW_long hlen).symm, Drew.refl _⟩
  go_enter Try.func65, Try.ntmps65
  go_wp2
  go_loopw [5] (fun i wr => ∃ j : Nat, j ≤ l.length ∧ i = .int .i64 j ∧ (∀ x ∈ l.take j, okLetter g x = true) ∧ Drew w wr)
    (fun i _ => l.length - (intOf i).toNat)
  case atStart => exact ⟨0, Nat.zero_le _, rfl, by simp, Drew.refl _⟩
  case round =>
    obtain ⟨j, hj, rfl, hr, n, rfl⟩ := hrel
    have Hr := Lib.hid hr; clear hr
    by_cases hlt : j < l.length
    · obtain ⟨b, off, rfl, -, hc⟩ := hI.at_ j hlt
      generalize hx : l[j] = x at *
      have Hx := Lib.hid hx
      clear hx
      by_cases c0 : x = 0
      · have t0 : (x == 0) = true := by simpa using c0
        have C0 := Lib.hid c0; clear c0
        go_wp2
        go_ret
        exact ⟨ret_bool (validW_no hlt (by rw [Hx.out, okLetter_not]; exact fun hh => hh.1 C0.out)).symm, ⟨_, rfl⟩⟩
      have t0 : (x == 0) = false := by simpa using c0
      have C0 := Lib.hid c0; clear c0
      rcases c1 : inR x (-8) 8
      · go_wp2_with ((go_at_call 54; (with_reducible refine (inRange_any x (-8) 8 _).mono ?_); rintro e w1 ⟨rfl, rfl⟩))
        go_ret
        exact ⟨ret_bool (validW_no hlt (by rw [Hx.out, okLetter_not]; rw [inR_not] at c1; omega)).symm, ⟨_, rfl⟩⟩
      have c2 := inR_iff.1 c1
      obtain ⟨c2, c3⟩ := c2
      by_cases c4 : g < x
      · go_wp2_with ((go_at_call 54; (with_reducible refine (inRange_any x (-8) 8 _).mono ?_); rintro e w1 ⟨rfl, rfl⟩))
        go_ret
        exact ⟨ret_bool (validW_no hlt (by rw [Hx.out, okLetter_not]; omega)).symm, ⟨_, rfl⟩⟩
      by_cases c5 : g < -x
      · go_wp2_with ((go_at_call 54; (with_reducible refine (inRange_any x (-8) 8 _).mono ?_); rintro e w1 ⟨rfl, rfl⟩))
        go_ret
        exact ⟨ret_bool (validW_no hlt (by rw [Hx.out, okLetter_not]; omega)).symm, ⟨_, rfl⟩⟩
      go_wp2_with ((go_at_call 54; (with_reducible refine (inRange_any x (-8) 8 _).mono ?_); rintro e w1 ⟨rfl, rfl⟩))
      go_roundw
      case rel => exact ⟨j + 1, by omega, by go_num, all_step hlt Hr.out (by rw [Hx.out, okLetter_iff]; exact ⟨C0.out, by omega, by omega⟩), ⟨_, rfl⟩⟩
      case measure => simp [intOf]; omega
    · go_wp2
      go_ret
      exact ⟨ret_bool (validW_yes (by omega) (by have := Hr.out; rwa [List.take_of_length_le (by omega)] at this)).symm, ⟨_, rfl⟩⟩

theorem specIsWord_rd (v : Value) (l : List Int) (fp : List Nat) (w : World) (h : Rd w v l fp) :
    Calls Try.prog 88 #[v] w fun e w' => e = .returned (.bool (validW 8 l)) ∧ Drew w w' := by
  go_enter Try.func88, Try.ntmps88
  go_wp2_with ((go_at_call 65; (with_reducible refine (isWordOf_rd 8 v l _ _ h (by omega) (by omega)).mono ?_); rintro e w1 ⟨rfl, n1, rfl⟩))
  go_ret
  exact ⟨rfl, ⟨_, rfl⟩⟩

set_option maxHeartbeats 1000000 in
theorem IsValidWord_closure (x m : Int) (m0 : 0 ≤ m) (m1 : m ≤ 8) (b : Nat) (w : World) (hc : w.cell? ⟨b, 0, none⟩ = some (.int .i64 m)) :
    Calls Try.prog 127 #[.int .i64 x, .pointer (some ⟨b, 0, none⟩)] w fun e w' => e = .returned (.bool (!okLetter m x)) ∧ Only [] w w' := by
  by_cases c0 : x = 0
  · have t0 : (x == 0) = true := by simpa using c0
    have C0 := Lib.hid c0; clear c0
    go_enter Try.func127, Try.ntmps127
    go_wp2
    go_ret
    exact ⟨ret_bool (by have : okLetter m x = false := (by rw [okLetter_not]; exact fun hh => hh.1 C0.out)
                        rw [this]; rfl), Only.refl _ _⟩
  have t0 : (x == 0) = false := by simpa using c0
  have C0 := Lib.hid c0; clear c0
  go_enter Try.func127, Try.ntmps127
  go_wp2_with ((go_at_call 58; (with_reducible refine (within_any x (-m) m _).mono ?_); rintro e w1 ⟨rfl, rfl⟩))
  go_ret
  refine ⟨ret_bool ?_, Only.refl _ _⟩
  have h1 : min m 8 = m := by omega
  have := C0.out
  simp [okLetter, h1, this]

set_option maxHeartbeats 400000 in
theorem ContainsFunc_ints (f : FuncId) (caps : Array Value) (pr : Int → Bool) (hcf : ∀ args w, (callFunc f args).run Try.prog w = .ok (.enter f args) w)
    (v : Value) (l : List Int) (fp : List Nat) (w : World) (h : Rd w v l fp)
    (hc : ∀ x ∈ l, ∀ w', Only [] w w' → Calls Try.prog f (#[.int .i64 x] ++ caps) w' fun e w'' => e = .returned (.bool (pr x)) ∧ Only [] w' w'') :
    Calls Try.prog 126 #[v, .func (.func f) #[] caps] w fun e w' => e = .returned (.bool (l.any pr)) ∧ Only [] w w' := by
  have HC := Lib.hid hc
  clear hc
  go_enter Try.func126, Try.ntmps126
  go_wp2_with ((go_at_call 147; (with_reducible refine (IndexFunc_ints f caps pr hcf v l _ w h HC.out).mono ?_); rintro e w1 ⟨rfl, hk⟩))
  go_ret
  exact ⟨ret_bool idxF_ge, hk⟩

set_option maxHeartbeats 400000 in
theorem IsValidWord_rd (g : Int) (v : Value) (l : List Int) (fp : List Nat) (w : World) (h : Rd w v l fp) (g0 : 0 ≤ g) (g1 : g ≤ 4611686018427387904) :
    Calls Try.prog 103 #[.int .i64 g, v] w fun e w' => e = .returned (.bool (validW g l)) ∧ Only [] w w' := by
  obtain ⟨a, cap, rfl, hI⟩ := h.ints
  have hb := hI.bound
  by_cases hlen : 200 < l.length
  · by_cases h8 : g ≤ 8
    · go_enter Try.func103, Try.ntmps103
      go_wp2
      go_ret
      exact ⟨ret_bool (validW_long hlen).symm, (by with_reducible repeat (first | exact Only.refl _ _ | assumption | refine Only.drewN ?_ _ | refine Only.drew ?_ | refine Only.alloc ?_ _ | refine Only.setCell ?_ (by intro hh; exfalso; simp at hh; try omega) _ | refine Only.trans ?_ (by assumption)))⟩
    · go_enter Try.func103, Try.ntmps103
      go_wp2
      go_ret
      exact ⟨ret_bool (validW_long hlen).symm, (by with_reducible repeat (first | exact Only.refl _ _ | assumption | refine Only.drewN ?_ _ | refine Only.drew ?_ | refine Only.alloc ?_ _ | refine Only.setCell ?_ (by intro hh; exfalso; simp at hh; try omega) _ | refine Only.trans ?_ (by assumption)))⟩
  have hend : ∀ m, m = min g 8 → (!(l.any fun x => !okLetter m x)) = validW g l := by
    intro m hm
    have he : okLetter m = okLetter g := by
      funext x; unfold okLetter; rw [hm]; have : min (min g 8) 8 = min g 8 := by omega
      rw [this]
    unfold validW
    rw [he, List.not_any_eq_all_not]
    have h1 : decide (l.length ≤ 200) = true := by simp; omega
    rw [h1, Bool.true_and]
    simp
  have HE := Lib.hid hend
  clear hend
  by_cases h8 : g ≤ 8
  · have Hc := Lib.hid (ContainsFunc_ints 127 #[.pointer (some ⟨w.heap.size, 0, none⟩)] (fun x => !okLetter g x) Try.call127 (.slice a l.length cap) l fp (w.alloc (.cells #[.int .i64 g] 2)) (Rp.keep h (by with_reducible repeat (first | exact Only.refl _ _ | assumption | refine Only.drewN ?_ _ | refine Only.drew ?_ | refine Only.alloc ?_ _ | refine Only.setCell ?_ (by intro hh; exfalso; simp at hh; try omega) _ | refine Only.trans ?_ (by assumption))))
      (fun x _ w' hw => IsValidWord_closure x g g0 h8 w.heap.size w' (hw.cell (by simp) (by simp))))
    go_enter Try.func103, Try.ntmps103
    go_wp2_with ((go_at_call 126; (with_reducible refine (Hc.out).mono ?_); rintro e w1 ⟨rfl, hk⟩))
    go_ret
    exact ⟨ret_bool (HE.out g (by omega)), (by with_reducible repeat (first | exact Only.refl _ _ | assumption | refine Only.drewN ?_ _ | refine Only.drew ?_ | refine Only.alloc ?_ _ | refine Only.setCell ?_ (by intro hh; exfalso; simp at hh; try omega) _ | refine Only.trans ?_ (by assumption)))⟩
  · have Hc := Lib.hid (ContainsFunc_ints 127 #[.pointer (some ⟨w.heap.size, 0, none⟩)] (fun x => !okLetter 8 x) Try.call127 (.slice a l.length cap) l fp (w.alloc (.cells #[.int .i64 8] 2)) (Rp.keep h (by with_reducible repeat (first | exact Only.refl _ _ | assumption | refine Only.drewN ?_ _ | refine Only.drew ?_ | refine Only.alloc ?_ _ | refine Only.setCell ?_ (by intro hh; exfalso; simp at hh; try omega) _ | refine Only.trans ?_ (by assumption))))
      (fun x _ w' hw => IsValidWord_closure x 8 (by omega) (by omega) w.heap.size w' (hw.cell (by simp) (by simp))))
    go_enter Try.func103, Try.ntmps103
    go_wp2_with ((go_at_call 126; (with_reducible refine (Hc.out).mono ?_); rintro e w1 ⟨rfl, hk⟩))
    go_ret
    exact ⟨ret_bool (HE.out 8 (by omega)), (by with_reducible repeat (first | exact Only.refl _ _ | assumption | refine Only.drewN ?_ _ | refine Only.drew ?_ | refine Only.alloc ?_ _ | refine Only.setCell ?_ (by intro hh; exfalso; simp at hh; try omega) _ | refine Only.trans ?_ (by assumption)))⟩

