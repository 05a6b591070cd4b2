/- Ranges, words: the program's and the reference's tests on them. IsPermutation: the reference's and the program's. The identity permutation: the reference's and the program's. Composition and inverse of permutations: the reference's and the program's. The program's stabilizer chain. -/
import Derived.Test.YtajkhdbdkjhilaaGreatRowScrambledSessionsG1
import Derived.Test.YtajkhdbdkjhilaaGreatRowScrambledSessionsG2
import Derived.Deep.RegionHeld3
import Derived.Deep.DeepCutAuto
import Derived.Deep.RegionLaw
import Derived.WalkSpells
namespace Go.Proofs.YtajkhdbdkjhilaaGreat
open Go.RowKit
set_option maxRecDepth 10000

def inR (x lo hi : Int) : Bool := decide (lo ≤ x) && decide (x ≤ hi)
theorem inR_iff {x lo hi : Int} : inR x lo hi = true ↔ lo ≤ x ∧ x ≤ hi := by simp [inR]
theorem inR_not {x lo hi : Int} : inR x lo hi = false ↔ ¬ (lo ≤ x ∧ x ≤ hi) := by rw [← inR_iff]; simp

theorem inRange_any (x lo hi : Int) (w : World) :
    Calls Tryz.prog 49 #[.int .i64 x, .int .i64 lo, .int .i64 hi] w fun e w' => e = .returned (.bool (inR x lo hi)) ∧ w' = w := by
  by_cases h1 : lo ≤ x
  · by_cases h2 : x ≤ hi
    · go_enter Tryz.func49, Tryz.ntmps49
      go_wp2
      go_ret
      exact ⟨ret_bool (by simp [inR, h1, h2]), rfl⟩
    · go_enter Tryz.func49, Tryz.ntmps49
      go_wp2
      go_ret
      exact ⟨ret_bool (by simp [inR, h2]), rfl⟩
  · go_enter Tryz.func49, Tryz.ntmps49
    go_wp2
    go_ret
    exact ⟨ret_bool (by simp [inR]; omega), rfl⟩
theorem within_any (x lo hi : Int) (w : World) :
    Calls Tryz.prog 115 #[.int .i64 x, .int .i64 lo, .int .i64 hi] w fun e w' => e = .returned (.bool (inR x lo hi)) ∧ w' = w := by
  by_cases h1 : lo ≤ x
  · by_cases h2 : x ≤ hi
    · go_enter Tryz.func115, Tryz.ntmps115
      go_wp2
      go_ret
      exact ⟨ret_bool (by simp [inR, h1, h2]), rfl⟩
    · go_enter Tryz.func115, Tryz.ntmps115
      go_wp2
      go_ret
      exact ⟨ret_bool (by simp [inR, h2]), rfl⟩
  · go_enter Tryz.func115, Tryz.ntmps115
    go_wp2
    go_ret
    exact ⟨ret_bool (by simp [inR]; omega), rfl⟩

def okLetter (g x : Int) : Bool := decide (x ≠ 0) && inR x (-(min g 8)) (min g 8)
/-- the valid words of g generators -/
def validW (g : Int) (l : List Int) : Bool := decide (l.length ≤ 200) && l.all (okLetter g)
theorem okLetter_iff {g x : Int} : okLetter g x = true ↔ x ≠ 0 ∧ -(min g 8) ≤ x ∧ x ≤ min g 8 := by simp [okLetter, inR_iff]
theorem okLetter_not {g x : Int} : okLetter g x = false ↔ ¬ (x ≠ 0 ∧ -(min g 8) ≤ x ∧ x ≤ min g 8) := by rw [← okLetter_iff]; simp
theorem validW_no {g : Int} {l : List Int} {j : Nat} (hj : j < l.length) (h : okLetter g l[j] = false) : validW g l = false := by
  unfold validW
  have : l.all (okLetter g) = false := by
    rw [List.all_eq_false]; exact ⟨l[j], List.getElem_mem _, by simp [h]⟩
  rw [this]; simp
theorem validW_long {g : Int} {l : List Int} (h : 200 < l.length) : validW g l = false := by
  unfold validW
  have : decide (l.length ≤ 200) = false := by simp; omega
  rw [this]; rfl
theorem validW_yes {g : Int} {l : List Int} (h : l.length ≤ 200) (h2 : ∀ x ∈ l, okLetter g x = true) : validW g l = true := by
  unfold validW
  simp only [h, decide_true, Bool.true_and, List.all_eq_true]
  exact h2
theorem validW_len {g : Int} {l : List Int} (h : validW g l = true) : l.length ≤ 200 := by
  unfold validW at h; simp at h; exact h.1
theorem all_step {pr : Int → Bool} {l : List Int} {j : Nat} (hj : j < l.length) (h : ∀ x ∈ l.take j, pr x = true) (hp : pr l[j] = true) : ∀ x ∈ l.take (j + 1), pr x = true := by
  rw [take_succ_get l j hj]; intro x hx
  rcases List.mem_append.1 hx with hx | hx
  · exact h x hx
  · simp at hx; subst hx; exact hp

set_option maxHeartbeats 1000000 in
theorem isWordOf_rd (g : Int) (v : Value) (l : List Int) (fp : List Nat) (w : World) (h : Rd w v l fp) (g0 : 0 ≤ g) (g1 : g ≤ 4611686018427387904) :
    Calls Tryz.prog 33 #[.int .i64 g, v] w fun e w' => e = .returned (.bool (validW g l)) ∧ Drew w w' := by
  obtain ⟨a, cap, rfl, hI⟩ := h.ints
  have hb := hI.bound
  by_cases hlen : 200 < l.length
  · go_enter Tryz.func33, Tryz.ntmps33
    go_wp2
    go_ret
    exact ⟨ret_bool (validW_long hlen).symm, Drew.refl _⟩
  go_enter Tryz.func33, Tryz.ntmps33
  go_wp2
  go_loopw [5] (fun i wr => ∃ j : Nat, j ≤ l.length ∧ i = .int .i64 j ∧ (∀ x ∈ l.take j, okLetter g x = true) ∧ Drew w wr)
    (fun i _ => l.length - (intOf i).toNat)
  case atStart => exact ⟨0, Nat.zero_le _, rfl, by simp, Drew.refl _⟩
  case round =>
    obtain ⟨j, hj, rfl, hr, n, rfl⟩ := hrel
    have Hr := Lib.hid hr; clear hr
    by_cases hlt : j < l.length
    · obtain ⟨b, off, rfl, -, hc⟩ := hI.at_ j hlt
      generalize hx : l[j] = x at *
      have Hx := Lib.hid hx
      clear hx
      by_cases c0 : x = 0
      · have t0 : (x == 0) = true := by simpa using c0
        have C0 := Lib.hid c0; clear c0
        go_wp2
        go_ret
        exact ⟨ret_bool (validW_no hlt (by rw [Hx.out, okLetter_not]; exact fun hh => hh.1 C0.out)).symm, ⟨_, rfl⟩⟩
      have t0 : (x == 0) = false := by simpa using c0
      have C0 := Lib.hid c0; clear c0
      rcases c1 : inR x (-8) 8
      · go_wp2_with ((go_at_call 49; (with_reducible refine (inRange_any x (-8) 8 _).mono ?_); rintro e w1 ⟨rfl, rfl⟩))
        go_ret
        exact ⟨ret_bool (validW_no hlt (by rw [Hx.out, okLetter_not]; rw [inR_not] at c1; omega)).symm, ⟨_, rfl⟩⟩
      have c2 := inR_iff.1 c1
      obtain ⟨c2, c3⟩ := c2
      by_cases c4 : g < x
      · go_wp2_with ((go_at_call 49; (with_reducible refine (inRange_any x (-8) 8 _).mono ?_); rintro e w1 ⟨rfl, rfl⟩))
        go_ret
        exact ⟨ret_bool (validW_no hlt (by rw [Hx.out, okLetter_not]; omega)).symm, ⟨_, rfl⟩⟩
      by_cases c5 : g < -x
      · go_wp2_with ((go_at_call 49; (with_reducible refine (inRange_any x (-8) 8 _).mono ?_); rintro e w1 ⟨rfl, rfl⟩))
        go_ret
        exact ⟨ret_bool (validW_no hlt (by rw [Hx.out, okLetter_not]; omega)).symm, ⟨_, rfl⟩⟩
      go_wp2_with ((go_at_call 49; (with_reducible refine (inRange_any x (-8) 8 _).mono ?_); rintro e w1 ⟨rfl, rfl⟩))
      go_roundw
      case rel => exact ⟨j + 1, by omega, by go_num, all_step hlt Hr.out (by rw [Hx.out, okLetter_iff]; exact ⟨C0.out, by omega, by omega⟩), ⟨_, rfl⟩⟩
      case measure => simp [intOf]; omega
    · go_wp2
      go_ret
      exact ⟨ret_bool (validW_yes (by omega) (by have := Hr.out; rwa [List.take_of_length_le (by omega)] at this)).symm, ⟨_, rfl⟩⟩

set_option maxHeartbeats 1000000 in
theorem IsValidWord_closure (x m : Int) (m0 : 0 ≤ m) (m1 : m ≤ 8) (b : Nat) (w : World) (hc : w.cell? ⟨b, 0, none⟩ = some (.int .i64 m)) :
    Calls Tryz.prog 114 #[.int .i64 x, .pointer (some ⟨b, 0, none⟩)] w fun e w' => e = .returned (.bool (!okLetter m x)) ∧ Only [] w w' := by
  by_cases c0 : x = 0
  · have t0 : (x == 0) = true := by simpa using c0
    have C0 := Lib.hid c0; clear c0
    go_enter Tryz.func114, Tryz.ntmps114
    go_wp2
    go_ret
    exact ⟨ret_bool (by have : okLetter m x = false := (by rw [okLetter_not]; exact fun hh => hh.1 C0.out)
                        rw [this]; rfl), Only.refl _ _⟩
  have t0 : (x == 0) = false := by simpa using c0
  have C0 := Lib.hid c0; clear c0
  go_enter Tryz.func114, Tryz.ntmps114
  go_wp2_with ((go_at_call 115; (with_reducible refine (within_any x (-m) m _).mono ?_); rintro e w1 ⟨rfl, rfl⟩))
  go_ret
  refine ⟨ret_bool ?_, Only.refl _ _⟩
  have h1 : min m 8 = m := by omega
  have := C0.out
  simp [okLetter, h1, this]

set_option maxHeartbeats 400000 in
theorem ContainsFunc_ints (f : FuncId) (caps : Array Value) (pr : Int → Bool) (hcf : ∀ args w, (callFunc f args).run Tryz.prog w = .ok (.enter f args) w)
    (v : Value) (l : List Int) (fp : List Nat) (w : World) (h : Rd w v l fp)
    (hc : ∀ x ∈ l, ∀ w', Only [] w w' → Calls Tryz.prog f (#[.int .i64 x] ++ caps) w' fun e w'' => e = .returned (.bool (pr x)) ∧ Only [] w' w'') :
    Calls Tryz.prog 113 #[v, .func (.func f) #[] caps] w fun e w' => e = .returned (.bool (l.any pr)) ∧ Only [] w w' := by
  have HC := Lib.hid hc
  clear hc
  go_enter Tryz.func113, Tryz.ntmps113
  go_wp2_with ((go_at_call 137; (with_reducible refine (IndexFunc_ints f caps pr hcf v l _ w h HC.out).mono ?_); rintro e w1 ⟨rfl, hk⟩))
  go_ret
  exact ⟨ret_bool idxF_ge, hk⟩

set_option maxHeartbeats 400000 in
theorem IsValidWord_rd (g : Int) (v : Value) (l : List Int) (fp : List Nat) (w : World) (h : Rd w v l fp) (g0 : 0 ≤ g) (g1 : g ≤ 4611686018427387904) :
    Calls Tryz.prog 70 #[.int .i64 g, v] w fun e w' => e = .returned (.bool (validW g l)) ∧ Only [] w w' := by
  obtain ⟨a, cap, rfl, hI⟩ := h.ints
  have hb := hI.bound
  by_cases hlen : 200 < l.length
  · by_cases h8 : g ≤ 8
    · go_enter Tryz.func70, Tryz.ntmps70
      go_wp2
      go_ret
      exact ⟨ret_bool (validW_long hlen).symm, (by with_reducible repeat (first | exact Only.refl _ _ | assumption | refine Only.drewN ?_ _ | refine Only.drew ?_ | refine Only.alloc ?_ _ | refine Only.setCell ?_ (by intro hh; exfalso; simp at hh; try omega) _ | refine Only.trans ?_ (by assumption)))⟩
    · go_enter Tryz.func70, Tryz.ntmps70
      go_wp2
      go_ret
      exact ⟨ret_bool (validW_long hlen).symm, (by with_reducible repeat (first | exact Only.refl _ _ | assumption | refine Only.drewN ?_ _ | refine Only.drew ?_ | refine Only.alloc ?_ _ | refine Only.setCell ?_ (by intro hh; exfalso; simp at hh; try omega) _ | refine Only.trans ?_ (by assumption)))⟩
  have hend : ∀ m, m = min g 8 → (!(l.any fun x => !okLetter m x)) = validW g l := by
    intro m hm
    have he : okLetter m = okLetter g := by
      funext x; unfold okLetter; rw [hm]; have : min (min g 8) 8 = min g 8 := by omega
      rw [this]
    unfold validW
    rw [he, List.not_any_eq_all_not]
    have h1 : decide (l.length ≤ 200) = true := by simp; omega
    rw [h1, Bool.true_and]
    simp
  have HE := Lib.hid hend
  clear hend
  by_cases h8 : g ≤ 8
  · have Hc := Lib.hid (ContainsFunc_ints 114 #[.pointer (some ⟨w.heap.size, 0, none⟩)] (fun x => !okLetter g x) Tryz.call114 (.slice a l.length cap) l fp (w.alloc (.cells #[.int .i64 g] 2)) (Rp.keep h (by with_reducible repeat (first | exact Only.refl _ _ | assumption | refine Only.drewN ?_ _ | refine Only.drew ?_ | refine Only.alloc ?_ _ | refine Only.setCell ?_ (by intro hh; exfalso; simp at hh; try omega) _ | refine Only.trans ?_ (by assumption))))
      (fun x _ w' hw => IsValidWord_closure x g g0 h8 w.heap.size w' (hw.cell (by simp) (by simp))))
    go_enter Tryz.func70, Tryz.ntmps70
    go_wp2_with ((go_at_call 113; (with_reducible refine (Hc.out).mono ?_); rintro e w1 ⟨rfl, hk⟩))
    go_ret
    exact ⟨ret_bool (HE.out g (by omega)), (by with_reducible repeat (first | exact Only.refl _ _ | assumption | refine Only.drewN ?_ _ | refine Only.drew ?_ | refine Only.alloc ?_ _ | refine Only.setCell ?_ (by intro hh; exfalso; simp at hh; try omega) _ | refine Only.trans ?_ (by assumption)))⟩
  · have Hc := Lib.hid (ContainsFunc_ints 114 #[.pointer (some ⟨w.heap.size, 0, none⟩)] (fun x => !okLetter 8 x) Tryz.call114 (.slice a l.length cap) l fp (w.alloc (.cells #[.int .i64 8] 2)) (Rp.keep h (by with_reducible repeat (first | exact Only.refl _ _ | assumption | refine Only.drewN ?_ _ | refine Only.drew ?_ | refine Only.alloc ?_ _ | refine Only.setCell ?_ (by intro hh; exfalso; simp at hh; try omega) _ | refine Only.trans ?_ (by assumption))))
      (fun x _ w' hw => IsValidWord_closure x 8 (by omega) (by omega) w.heap.size w' (hw.cell (by simp) (by simp))))
    go_enter Tryz.func70, Tryz.ntmps70
    go_wp2_with ((go_at_call 113; (with_reducible refine (Hc.out).mono ?_); rintro e w1 ⟨rfl, hk⟩))
    go_ret
    exact ⟨ret_bool (HE.out 8 (by omega)), (by with_reducible repeat (first | exact Only.refl _ _ | assumption | refine Only.drewN ?_ _ | refine Only.drew ?_ | refine Only.alloc ?_ _ | refine Only.setCell ?_ (by intro hh; exfalso; simp at hh; try omega) _ | refine Only.trans ?_ (by assumption)))⟩

end Go.Proofs.YtajkhdbdkjhilaaGreat


namespace Go.Proofs.YtajkhdbdkjhilaaGreat
open Go.RowKit
set_option maxRecDepth 10000

/-- the same as quiet_drewN at a function's beginning -/
theorem quiet_drewN0 {P : Program} {f : FuncId} {args : Array Value} {w : World} {n : Nat} {v : Value}
    (h : Calls P f args (w.drewN n) fun e w' => e = .returned v ∧ Drew (w.drewN n) w') :
    Calls P f args (w.drewN n) fun e w'' => e = .returned v ∧ ∃ m, w'' = w.drewN m :=
  h.mono fun _ _ ⟨he, m, hm⟩ => ⟨he, n + m, by rw [hm, World.drewN_drewN]⟩
theorem IntsA.take {w : World} {a : Option Addr} {cap : Nat} {l : List Int} {fp : List Nat} (h : IntsA w a cap l fp) (j : Nat) : IntsA w a cap (l.take j) fp := by
  refine ⟨Nat.le_trans (by simp; omega) h.len, h.cap, fun x hx => h.wf x (List.mem_of_mem_take hx), fun k hk => ?_, h.lt, h.one⟩
  have hk' : k < l.length := by simp at hk; omega
  obtain ⟨b, off, e1, e2, e3⟩ := h.at_ k hk'
  exact ⟨b, off, e1, e2, by rw [e3]; simp⟩
def permB (l : List Int) : Bool := inR l.length 1 20 && decide (PM.IsP l)
theorem permB_iff {l : List Int} : permB l = true ↔ (1 ≤ l.length ∧ l.length ≤ 20) ∧ PM.IsP l := by
  simp [permB, inR]; omega
theorem mem_take_step {l : List Int} {j : Nat} (h : j < l.length) {P : Int → Prop} (h1 : ∀ x ∈ l.take j, P x) (h2 : P l[j]) : ∀ x ∈ l.take (j + 1), P x := by
  rw [take_succ_get l j h]
  intro x hx
  rcases List.mem_append.1 hx with hx | hx
  · exact h1 x hx
  · simp at hx; subst hx; exact h2
theorem nodup_take_step {l : List Int} {j : Nat} (h : j < l.length) (h1 : (l.take j).Nodup) (h2 : l[j] ∉ l.take j) : (l.take (j + 1)).Nodup := by
  rw [take_succ_get l j h]
  exact List.nodup_append.2 ⟨h1, by simp, by intro a ha b hb e; simp at hb; subst hb; subst e; exact h2 ha⟩
theorem nodup_take_not {l : List Int} {j : Nat} (h : j < l.length) (h2 : l[j] ∈ l.take j) : ¬ l.Nodup := by
  intro hn
  have h3 : (l.take (j + 1)).Nodup := List.Nodup.sublist (List.take_sublist _ _) hn
  rw [take_succ_get l j h] at h3
  exact (List.nodup_append.1 h3).2.2 _ h2 _ (by simp) rfl

set_option maxHeartbeats 400000 in
theorem containsInt_any (a : Option Addr) (cap : Nat) (l : List Int) (n : Int) (fp : List Nat) (w : World) (h : IntsA w a cap l fp) :
    Calls Tryz.prog 128 #[.slice a l.length cap, .int .i64 n] w fun e w' => e = .returned (.bool (decide (n ∈ l))) ∧ Drew w w' := by
  have hb := h.bound
  go_enter Tryz.func128, Tryz.ntmps128
  go_wp2
  go_loopw [5] (fun i wr => ∃ j : Nat, j ≤ l.length ∧ i = .int .i64 j ∧ n ∉ l.take j ∧ Drew w wr)
    (fun i _ => l.length - (intOf i).toNat)
  case atStart => exact ⟨0, Nat.zero_le _, rfl, by simp, Drew.refl _⟩
  case round =>
    obtain ⟨j, hj, rfl, hr, k, rfl⟩ := hrel
    have Hr := Lib.hid hr; clear hr
    by_cases hlt : j < l.length
    · obtain ⟨b, off, rfl, -, hc⟩ := h.at_ j hlt
      by_cases hx : l[j] = n
      · have hq : (l[j] == n) = true := by simp [hx]
        have Hx := Lib.hid hx; clear hx
        go_wp2
        go_ret
        exact ⟨ret_bool (decide_eq_true (by rw [← Hx.out]; exact List.getElem_mem _)).symm, ⟨_, rfl⟩⟩
      · have hq : (l[j] == n) = false := by simp [hx]
        have Hx := Lib.hid hx; clear hx
        go_wp2
        go_roundw
        case rel => exact ⟨j + 1, by omega, by go_num, by
          rw [take_succ_get l j hlt]; intro hm
          rcases List.mem_append.1 hm with hm | hm
          · exact Hr.out hm
          · simp at hm; exact Hx.out hm.symm, ⟨_, rfl⟩⟩
        case measure => simp [intOf]; omega
    · go_wp2
      go_ret
      exact ⟨ret_bool (decide_eq_false (by have := Hr.out; rwa [List.take_of_length_le (by omega)] at this)).symm, ⟨_, rfl⟩⟩
theorem containsInt_pre (a : Option Addr) (cap : Nat) (l : List Int) (j : Nat) (n : Int) (fp : List Nat) (w : World) (h : IntsA w a cap l fp) (hj : j ≤ l.length) :
    Calls Tryz.prog 128 #[.slice a j cap, .int .i64 n] w fun e w' => e = .returned (.bool (decide (n ∈ l.take j))) ∧ Drew w w' := by
  have := containsInt_any a cap (l.take j) n fp w (h.take j)
  rwa [show (l.take j).length = j by simp; omega] at this
theorem inRange_q (x lo hi : Int) (w : World) :
    Calls Tryz.prog 49 #[.int .i64 x, .int .i64 lo, .int .i64 hi] w fun e w' => e = .returned (.bool (inR x lo hi)) ∧ Drew w w' :=
  (inRange_any x lo hi w).mono fun _ _ ⟨h1, h2⟩ => ⟨h1, by rw [h2]; exact Drew.refl _⟩
set_option maxHeartbeats 1000000 in
theorem specIsPerm_any (a : Option Addr) (cap : Nat) (l : List Int) (fp : List Nat) (w : World) (h : IntsA w a cap l fp) :
    Calls Tryz.prog 103 #[.slice a l.length cap] w fun e w' => e = .returned (.bool (permB l)) ∧ Drew w w' := by
  have hb := h.bound
  rcases hq : inR l.length 1 20
  · go_enter Tryz.func103, Tryz.ntmps103
    go_wp2_with ((go_at_call 49; (with_reducible refine (inRange_any l.length 1 20 _).mono ?_); rintro e w1 ⟨rfl, rfl⟩))
    go_ret
    exact ⟨ret_bool (by unfold permB; rw [hq]; rfl), Drew.refl _⟩
  have hfin : permB l = decide (PM.IsP l) := by unfold permB; rw [hq]; rfl
  have Hfin := Lib.hid hfin; clear hfin
  obtain ⟨g1, g2⟩ := inR_iff.1 hq
  go_enter Tryz.func103, Tryz.ntmps103
  go_wp2_with ((go_at_call 49; (with_reducible refine (inRange_any l.length 1 20 _).mono ?_); rintro e w ⟨rfl, rfl⟩))
  go_loopw [4] (fun i wr => ∃ j : Nat, j ≤ l.length ∧ i = .int .i64 j ∧ (∀ x ∈ l.take j, 0 ≤ x ∧ x < l.length) ∧ (l.take j).Nodup ∧ Drew w wr)
    (fun i _ => l.length - (intOf i).toNat)
  case atStart => exact ⟨0, Nat.zero_le _, rfl, by simp, by simp, Drew.refl _⟩
  case round =>
    obtain ⟨j, hj, rfl, hr, hn, k, rfl⟩ := hrel
    have Hr := Lib.hid hr; clear hr
    have Hn := Lib.hid hn; clear hn
    by_cases hlt : j < l.length
    · obtain ⟨b, off, rfl, -, hc⟩ := h.at_ j hlt
      have hcap := h.len
      have hi1 : (0 : Int) ≤ (j : Int) := by omega
      have hi2 : (j : Int) < (l.length : Int) := by omega
      rcases c1 : inR l[j] 0 (l.length - 1)
      · go_wp2
        go_quiet ((go_at_call 49; exact quiet_drewN (inRange_q l[j] 0 (l.length - 1) _)))
        go_wp2
        go_ret
        exact ⟨ret_bool (by rw [Hfin.out, eq_comm, decide_eq_false_iff_not]; intro hp; have := hp.1 l[j] (List.getElem_mem _); rw [inR_not] at c1; omega), ((Drew.refl _).drewN _).drewN _⟩
      have hx := inR_iff.1 c1
      have Hx := Lib.hid hx; clear hx
      rcases c2 : decide (l[j] ∈ l.take j)
      all_goals go_wp2
      all_goals go_quiet (first
        | (go_at_call 49; exact quiet_drewN (inRange_q l[j] 0 (l.length - 1) _))
        | (go_at_call 128; exact quiet_drewN (containsInt_pre (some ⟨b, off, none⟩) cap l j l[j] fp _ (h.keep (Only.ofDrewN _ _ _)) hj)))
      · have C2 := Lib.hid (of_decide_eq_false c2); clear c2
        go_wp2
        go_roundw
        case rel => exact ⟨j + 1, by omega, by go_num, mem_take_step hlt Hr.out (by have := Hx.out; omega), nodup_take_step hlt Hn.out C2.out, ⟨_, rfl⟩⟩
        case measure => simp [intOf]; omega
      · have C2 := Lib.hid (of_decide_eq_true c2); clear c2
        go_wp2
        go_ret
        exact ⟨ret_bool (by rw [Hfin.out, eq_comm, decide_eq_false_iff_not]; intro hp; exact nodup_take_not hlt C2.out hp.2), ((Drew.refl _).drewN _).drewN _⟩
    · go_wp2
      go_ret
      exact ⟨ret_bool (by rw [Hfin.out, eq_comm, decide_eq_true_iff]; have h1 := Hr.out; have h2 := Hn.out; rw [List.take_of_length_le (by omega)] at h1 h2; exact ⟨h1, h2⟩), ⟨_, rfl⟩⟩
theorem specIsPerm_rd (v : Value) (l : List Int) (fp : List Nat) (w : World) (h : Rd w v l fp) :
    Calls Tryz.prog 103 #[v] w fun e w' => e = .returned (.bool (permB l)) ∧ Drew w w' := by
  obtain ⟨a, cap, rfl, hI⟩ := h.ints
  exact specIsPerm_any a cap l fp w hI
theorem lengthRows_rd (v : Value) (l : List (List Int)) (fp : List Nat) (w : World) (h : Rd w v l fp) :
    Calls Tryz.prog 71 #[v] w fun e w' => e = .returned (.int .i64 l.length) ∧ w' = w := by
  obtain ⟨a, cap, ob, fps, rfl, -, hs⟩ := h.open_
  have hb := hs.bound
  go_enter Tryz.func71, Tryz.ntmps71
  go_wp2
  go_ret
  exact ⟨rfl, rfl⟩
theorem lengthInt_rd (v : Value) (l : List Int) (fp : List Nat) (w : World) (h : Rd w v l fp) :
    Calls Tryz.prog 89 #[v] w fun e w' => e = .returned (.int .i64 l.length) ∧ w' = w := by
  obtain ⟨a, cap, rfl, hI⟩ := h.ints
  have hb := hI.bound
  go_enter Tryz.func89, Tryz.ntmps89
  go_wp2
  go_ret
  exact ⟨rfl, rfl⟩
theorem wrap64_small (n : Int) (h0 : 0 ≤ n) (h1 : n < 9223372036854775808) : wrap64 n = n := by
  unfold wrap64; omega
theorem pow_small {k : Nat} (h : k ≤ 20) : (2 : Int) ^ k ≤ 1048576 ∧ 1 ≤ (2 : Int) ^ k := by
  have h1 : 2 ^ k ≤ 2 ^ 20 := Nat.pow_le_pow_right (by decide) h
  have h2 : 1 ≤ 2 ^ k := Nat.one_le_two_pow
  have e : ((2 : Int) ^ k) = ((2 ^ k : Nat) : Int) := by simp
  rw [e]
  constructor
  · have : (2 : Nat) ^ 20 = 1048576 := by decide
    omega
  · omega
theorem or_step (m : Nat) (hm : m < 2 ^ 20) (x : Int) (h0 : 0 ≤ x) (h1 : x ≤ 19) : bits BinOp.or IntKind.i64 (m : Int) (wrap64 (2 ^ x.toNat)) = ((m ||| 2 ^ x.toNat : Nat) : Int) := by
  have hp := pow_small (k := x.toNat) (by omega)
  rw [wrap64_small _ (by omega) (by omega)]
  have e : ((2 : Int) ^ x.toNat) = ((2 ^ x.toNat : Nat) : Int) := by simp
  rw [e]
  refine (bits_nat .i64 20 (by decide) ?_ m (2 ^ x.toNat) hm (Nat.pow_lt_pow_right (by decide) (by omega))).2
  intro n hn0 hn1
  have : (2 : Int) ^ 20 = 1048576 := by decide
  rw [IntKind.wrap_i64]; omega
theorem mask_end (l : List Int) (h : ∀ x ∈ l, 0 ≤ x ∧ x < l.length) (hl : l.length ≤ 20) : ((PM.mask l : Int) == wrap64 (wrap64 (2 ^ l.length) - 1)) = decide (PM.IsP l) := by
  have hp := pow_small hl
  rw [wrap64_small (2 ^ l.length) (by omega) (by omega), wrap64_small _ (by omega) (by omega)]
  have h1 : 1 ≤ 2 ^ l.length := Nat.one_le_two_pow
  have e : ((2 : Int) ^ l.length) - 1 = ((2 ^ l.length - 1 : Nat) : Int) := by
    rw [Int.natCast_sub h1]; simp
  rw [e]
  by_cases hm : PM.IsP l
  · rw [decide_eq_true hm, (PM.mask_full l h).2 hm]; simp
  · rw [decide_eq_false hm]
    have : PM.mask l ≠ 2 ^ l.length - 1 := fun he => hm ((PM.mask_full l h).1 he)
    simp only [beq_eq_false_iff_ne, ne_eq]
    omega
set_option maxHeartbeats 1000000 in
theorem implIsPerm_any (a : Option Addr) (cap : Nat) (l : List Int) (fp : List Nat) (w : World) (h : IntsA w a cap l fp) :
    Calls Tryz.prog 125 #[.slice a l.length cap] w fun e w' => e = .returned (.bool (permB l)) ∧ Drew w w' := by
  have hb := h.bound
  rcases hq : inR l.length 1 20
  · go_enter Tryz.func125, Tryz.ntmps125
    go_wp2_with (first | (go_at_call 89; (with_reducible refine (lengthInt_rd _ l fp _ h.rd).mono ?_); rintro e w ⟨rfl, rfl⟩) | (go_at_call 115; (with_reducible refine (within_any l.length 1 20 _).mono ?_); rintro e w ⟨rfl, rfl⟩))
    go_ret
    exact ⟨ret_bool (by unfold permB; rw [hq]; rfl), Drew.refl _⟩
  have hfin : permB l = decide (PM.IsP l) := by unfold permB; rw [hq]; rfl
  have Hfin := Lib.hid hfin; clear hfin
  obtain ⟨g1, g2⟩ := inR_iff.1 hq
  go_enter Tryz.func125, Tryz.ntmps125
  go_wp2_with (first | (go_at_call 89; (with_reducible refine (lengthInt_rd _ l fp _ h.rd).mono ?_); rintro e w ⟨rfl, rfl⟩) | (go_at_call 115; (with_reducible refine (within_any l.length 1 20 _).mono ?_); rintro e w ⟨rfl, rfl⟩))
  go_loopw [3, 12] (fun sn i wr => ∃ j : Nat, j ≤ l.length ∧ i = .int .i64 j ∧ sn = .int .i64 (PM.mask (l.take j) : Nat) ∧ (∀ x ∈ l.take j, 0 ≤ x ∧ x < l.length) ∧ Drew w wr)
    (fun _ i _ => l.length - (intOf i).toNat)
  case atStart => exact ⟨0, Nat.zero_le _, rfl, rfl, by simp, Drew.refl _⟩
  case round =>
    obtain ⟨j, hj, rfl, rfl, hr, k, rfl⟩ := hrel
    have Hr := Lib.hid hr; clear hr
    by_cases hlt : j < l.length
    · obtain ⟨b, off, ha, -, hc⟩ := h.at_ j hlt
      subst ha
      rcases c1 : inR l[j] 0 (l.length - 1)
      · go_wp2_with (first | (go_at_call 89; (with_reducible refine (lengthInt_rd _ l fp _ (Rp.keep h.rd (Only.ofDrewN _ _ _))).mono ?_); rintro e w1 ⟨rfl, rfl⟩) | (go_at_call 115; (with_reducible refine (within_any l[j] 0 (l.length - 1) _).mono ?_); rintro e w1 ⟨rfl, rfl⟩))
        go_ret
        exact ⟨ret_bool (by rw [Hfin.out, eq_comm, decide_eq_false_iff_not]; intro hp; have := hp.1 l[j] (List.getElem_mem _); rw [inR_not] at c1; omega), ⟨_, rfl⟩⟩
      have hx := inR_iff.1 c1
      have Hx := Lib.hid hx; clear hx
      have hx0 : 0 ≤ l[j] := Hx.out.1
      have hx1 : l[j] ≤ 19 := by have := Hx.out; omega
      have hm := or_step (PM.mask (l.take j)) (Nat.lt_of_lt_of_le (PM.mask_lt _ l.length Hr.out) (Nat.pow_le_pow_right (by decide) (by omega))) l[j] hx0 hx1
      have Hm := Lib.hid hm; clear hm
      go_wp2_with (first | (go_at_call 89; (with_reducible refine (lengthInt_rd _ l fp _ (Rp.keep h.rd (Only.ofDrewN _ _ _))).mono ?_); rintro e w1 ⟨rfl, rfl⟩) | (go_at_call 115; (with_reducible refine (within_any l[j] 0 (l.length - 1) _).mono ?_); rintro e w1 ⟨rfl, rfl⟩))
      refine ⟨⟨j + 1, by omega, by go_num, ?_, mem_take_step hlt Hr.out (by have := Hx.out; omega), ⟨_, rfl⟩⟩, by simp [intOf]; omega⟩
      rw [take_succ_get l j hlt, PM.mask_append, Hm.out]
    · go_wp2
      go_ret
      exact ⟨ret_bool (by have h1 := Hr.out; rw [List.take_of_length_le (by omega)] at h1 ⊢; rw [Hfin.out]; exact mask_end l h1 (by omega)), ⟨_, rfl⟩⟩
theorem implIsPerm_rd (v : Value) (l : List Int) (fp : List Nat) (w : World) (h : Rd w v l fp) :
    Calls Tryz.prog 125 #[v] w fun e w' => e = .returned (.bool (permB l)) ∧ Drew w w' := by
  obtain ⟨a, cap, rfl, hI⟩ := h.ints
  exact implIsPerm_any a cap l fp w hI
end Go.Proofs.YtajkhdbdkjhilaaGreat

namespace Go.Proofs.YtajkhdbdkjhilaaGreat
open Go.RowKit
set_option maxRecDepth 10000

theorem pts_succ (k : Nat) : PM.pts (k + 1) = PM.pts k ++ [(k : Int)] := by simp [PM.pts, List.range_succ]
set_option maxHeartbeats 1000000 in
theorem specIdentity_any (m : Nat) (w : World) (hm : m ≤ 1000) :
    Calls Tryz.prog 59 #[.int .i64 m] w fun e w' => ∃ v fp', e = .returned v ∧ Rd w' v (PM.pts m) fp' ∧ Fresh w.heap.size w' fp' ∧ Only [] w w' := by
  obtain ⟨i0, hi, hz0, hz1, hz2⟩ := info_parts Tryz.info2
  go_enter Tryz.func59, Tryz.ntmps59
  go_wp2
  go_loopw [3, 4] (fun o i wr => ∃ (j : Nat) (fs : List (List Nat)), j ≤ m ∧ i = .int .i64 j ∧ Acc w.heap.size 2 wr o (PM.pts j) fs ∧ Fresh w.heap.size wr fs.flatten ∧ Only [] w wr)
    (fun _ i _ => m - (intOf i).toNat)
  case atStart => exact ⟨0, [], Nat.zero_le _, rfl, Acc.made w w.heap.size _ rfl (Nat.le_refl _), Fresh.nil _ _, (Only.refl _ _).alloc _⟩
  case round =>
    obtain ⟨j, fs, hj, rfl, hA, hF, hK⟩ := hrel
    by_cases hlt : j < m
    · have hsz := hK.size
      have hlj : (PM.pts j).length + 1 ≤ 1073741824 := by rw [PM.pts_len]; omega
      have hI : I64 (j : Int) := by unfold I64; omega
      have HI := Lib.hid hI; clear hI
      go_wp2_with ((at_builtin; refine wpList_pushF rfl _ _ 27 rfl w.heap.size 2 i0 _ 8 Tryz.underlying27 hi hz0 hz1 hz2 rfl (by decide) (by decide) wr _ (PM.pts j) fs rfl hA hF ((Only.refl _ _).alloc _) hsz wr.heap.size 1 [.int .i64 (j : Int)] (j : Int) [] rfl (lit_src wr [.int .i64 (j : Int)] _ rfl) (by intro u hu; simp at hu; subst hu; rfl) (int_rd _ HI.out) (Fresh.nil _ _) hlj w (hK.alloc _) (Nat.le_refl _) ?_; intro v3 w3 hA3 hF3 hK3 _))
      go_roundw
      case rel => exact ⟨j + 1, _, by omega, by go_num, by rw [pts_succ]; exact hA3, hF3, hK3⟩
      case measure => simp [intOf]; omega
    · have hjl : j = m := by omega
      rw [hjl] at hA
      have HA := Lib.hid hA
      clear hjl hA
      go_wp2
      go_ret
      exact ⟨_, _, rfl, HA.out.rd (by decide), HA.out.fresh hF, hK⟩
set_option maxHeartbeats 1000000 in
theorem implIdentity_any (m : Nat) (w : World) (hm : m ≤ 1000) :
    Calls Tryz.prog 56 #[.int .i64 m] w fun e w' => ∃ v fp', e = .returned v ∧ Rd w' v (PM.pts m) fp' ∧ Fresh w.heap.size w' fp' ∧ Only [] w w' := by
  obtain ⟨i0, hi, hz0, hz1, hz2⟩ := info_parts Tryz.info2
  go_enter Tryz.func56, Tryz.ntmps56
  go_wp2_with (at_make; refine wpList_make_full _ rfl _ _ 27 rfl w.heap.size 2 i0 _ 1 Tryz.underlying27 hi hz0 hz1 _ _ _ _ m rfl rfl rfl rfl (by rw [hz2]; omega) (by unfold maxLen; omega) (Nat.le_refl _) ?_; intro w1 hown hg)
  rw [madeInts, Nat.mul_one] at hown
  have hs1 := hg.size
  go_loopw [9] (fun i wr => ∃ j : Nat, j ≤ m ∧ i = .int .i64 j ∧
      wr.ownsRow w.heap.size 2 1 (.slice (some ⟨w.heap.size, 0, none⟩) m m) m ((PM.pts j).map (Value.int .i64) ++ List.replicate (m - j) (.int .i64 0)) ∧ Only [] w wr)
    (fun i _ => m - (intOf i).toNat)
  case atStart => exact ⟨0, Nat.zero_le _, rfl, by simpa [PM.pts] using hown, (Only.refl _ _).grown hg (by simp)⟩
  case round =>
    obtain ⟨j, hj, rfl, hO, hK⟩ := hrel
    have hpl : ((PM.pts j).map (Value.int .i64)).length = j := by rw [List.length_map, PM.pts_len]
    by_cases hlt : j < m
    · obtain ⟨hO2, hg2⟩ := hO.stored j (.int .i64 j)
      have hstep : ((PM.pts j).map (Value.int .i64) ++ List.replicate (m - j) (Value.int .i64 0)).set j (.int .i64 j) = (PM.pts (j + 1)).map (Value.int .i64) ++ List.replicate (m - (j + 1)) (.int .i64 0) := by
        rw [show m - j = (m - (j + 1)) + 1 by omega, List.replicate_succ, List.set_append_right _ _ (by omega), hpl, Nat.sub_self, pts_succ]
        simp
      rw [hstep] at hO2
      have hc2 : wr.cell? ⟨w.heap.size, j, none⟩ = some (.int .i64 0) := by
        rw [hO.cellAt j (by omega), List.getElem?_append_right (by omega), List.getElem?_replicate, if_pos (by omega)]
      have hf2 := hO.frozenAt j
      have hK2 := hK.setCell (p := ⟨w.heap.size, j, none⟩) (by simp) (.int .i64 j)
      have HO := Lib.hid hO2
      clear hO hO2 hg hg2 hown hstep hpl
      go_wp2
      go_roundw
      case rel => exact ⟨j + 1, by omega, by go_num, HO.out, hK2⟩
      case measure => simp [intOf]; omega
    · have hjl : j = m := by omega
      rw [hjl] at hO
      simp only [Nat.sub_self, List.replicate_zero, List.append_nil] at hO
      have hw : ∀ x ∈ PM.pts m, I64 x := fun x hx => by have := PM.mem_pts.1 hx; unfold I64; omega
      have hO' : wr.ownsRow w.heap.size 2 1 (.slice (some ⟨w.heap.size, 0, none⟩) m m) (PM.pts m).length ((PM.pts m).map (Value.int .i64)) := by rw [PM.pts_len]; exact hO
      obtain ⟨a', cap', hv, -, hI, hF⟩ := own_ints hO' hw
      have HI := Lib.hid hI
      have Hv := Lib.hid hv
      clear hjl hO hO' hv hown hI hpl hw
      go_wp2
      go_ret
      refine ⟨_, _, rfl, ?_, hF, hK⟩
      have hr := HI.out.rd
      rw [← Hv.out] at hr; exact hr
theorem specIdentity_i (n : Int) (w : World) (h0 : 0 ≤ n) (h1 : n ≤ 1000) :
    Calls Tryz.prog 59 #[.int .i64 n] w fun e w' => ∃ v fp', e = .returned v ∧ Rd w' v (PM.pts n.toNat) fp' ∧ Fresh w.heap.size w' fp' ∧ Only [] w w' := by
  obtain ⟨m, rfl⟩ := Int.eq_ofNat_of_zero_le h0
  exact specIdentity_any m w (by omega)
theorem implIdentity_i (n : Int) (w : World) (h0 : 0 ≤ n) (h1 : n ≤ 1000) :
    Calls Tryz.prog 56 #[.int .i64 n] w fun e w' => ∃ v fp', e = .returned v ∧ Rd w' v (PM.pts n.toNat) fp' ∧ Fresh w.heap.size w' fp' ∧ Only [] w w' := by
  obtain ⟨m, rfl⟩ := Int.eq_ofNat_of_zero_le h0
  exact implIdentity_any m w (by omega)
end Go.Proofs.YtajkhdbdkjhilaaGreat

namespace Go.Proofs.YtajkhdbdkjhilaaGreat
open Go.RowKit
set_option maxRecDepth 10000

theorem PN_i64 {n : Nat} {p : List Int} (h : PM.PN n p) (hn : n ≤ 1000) : ∀ x ∈ p, I64 x := fun x hx => by
  have := h.2.1 x hx; rw [h.1] at this; unfold I64; omega
/-- the cell of a permutation's entry -/
theorem IntsA.at_pm {w : World} {a : Option Addr} {cap : Nat} {l : List Int} {fp : List Nat} (h : IntsA w a cap l fp) {x : Int} (h0 : 0 ≤ x) (h1 : x < l.length) :
    ∃ b off, a = some ⟨b, off, none⟩ ∧ fp = [b] ∧ w.cell? ⟨b, off + x.toNat, none⟩ = some (.int .i64 (PM.at_ l x)) := by
  obtain ⟨b, off, e1, e2, e3⟩ := h.at_ x.toNat (by omega)
  refine ⟨b, off, e1, e2, ?_⟩
  rw [e3]; simp [PM.at_, show x.toNat < l.length by omega]
theorem comp_take_succ (p q : List Int) (j : Nat) (h : j < p.length) : PM.comp (p.take (j + 1)) q = PM.comp (p.take j) q ++ [PM.at_ q p[j]] := by
  unfold PM.comp; rw [take_succ_get p j h, List.map_append]; rfl
theorem comp_i64 {n : Nat} {p q : List Int} (hp : PM.PN n p) (hq : PM.PN n q) (hn : n ≤ 1000) : ∀ x ∈ PM.comp p q, I64 x := PN_i64 (hp.comp hq) hn
/-- the inverse as far as it is laid -/
def invTo (p : List Int) (j : Nat) : List Int := (PM.pts p.length).map fun y => if y ∈ p.take j then (p.idxOf y : Int) else 0
theorem invTo_len (p : List Int) (j : Nat) : (invTo p j).length = p.length := by simp [invTo, PM.pts_len]
theorem invTo_get (p : List Int) (j k : Nat) (h : k < (invTo p j).length) : (invTo p j)[k] = if (k : Int) ∈ p.take j then (p.idxOf (k : Int) : Int) else 0 := by
  have h1 : k < (PM.pts p.length).length := by rw [invTo_len] at h; rw [PM.pts_len]; exact h
  have : (invTo p j)[k] = (fun y : Int => if y ∈ p.take j then (p.idxOf y : Int) else 0) ((PM.pts p.length)[k]) := List.getElem_map ..
  rw [this, PM.pts_get]
theorem invTo_zero (p : List Int) : invTo p 0 = List.replicate p.length 0 := by
  apply List.ext_getElem (by simp [invTo_len])
  intro k h1 h2; rw [invTo_get]; simp
theorem invTo_all {n : Nat} {p : List Int} (hp : PM.PN n p) {j : Nat} (hj : p.length ≤ j) : invTo p j = PM.inv p := by
  unfold invTo PM.inv
  rw [List.take_of_length_le hj]
  apply List.map_congr_left
  intro y hy
  rw [if_pos (hp.2.all hy)]
theorem invTo_succ {n : Nat} {p : List Int} (hp : PM.PN n p) {j : Nat} (hj : j < p.length) : invTo p (j + 1) = (invTo p j).set (p[j]).toNat (j : Int) := by
  have hx := hp.2.1 p[j] (List.getElem_mem hj)
  apply List.ext_getElem (by simp [invTo_len])
  intro k h1 h2
  rw [invTo_len] at h1
  rw [List.getElem_set]
  rw [invTo_get, invTo_get]
  by_cases hk : (p[j]).toNat = k
  · rw [if_pos hk]
    have e : (k : Int) = p[j] := by omega
    have hm : p[j] ∈ p.take (j + 1) := by rw [take_succ_get p j hj]; exact List.mem_append_right _ (List.mem_singleton.2 rfl)
    rw [e, if_pos hm]
    have hi : p.idxOf p[j] < p.length := List.idxOf_lt_length_of_mem (List.getElem_mem hj)
    have hg : p[p.idxOf p[j]] = p[j] := by simp
    have := PM.nodup_inj hp.2.2 hi hj hg
    rw [this]
  · rw [if_neg hk, take_succ_get p j hj]
    have : ((k : Int) ∈ p.take j ++ [p[j]]) ↔ (k : Int) ∈ p.take j := by
      rw [List.mem_append, List.mem_singleton]
      constructor
      · rintro (h | h)
        · exact h
        · omega
      · exact .inl
    simp only [this]
/-- the identity of the model's zeros -/
theorem map_zero (n : Nat) : (List.replicate n (0 : Int)).map (Value.int .i64) = List.replicate n (.int .i64 0) := by simp

set_option maxHeartbeats 1000000 in
theorem implCompose_rd (n : Nat) (vp vq : Value) (p q : List Int) (fp fq : List Nat) (w : World) (hp : Rd w vp p fp) (hq : Rd w vq q fq) (pp : PM.PN n p) (pq : PM.PN n q) (hn : n ≤ 1000) :
    Calls Tryz.prog 72 #[vp, vq] w fun e w' => ∃ v fp', e = .returned v ∧ Rd w' v (PM.comp p q) fp' ∧ Fresh w.heap.size w' fp' ∧ Only [] w w' := by
  obtain ⟨ap, cp, rfl, IP⟩ := hp.ints
  obtain ⟨aq, cq, rfl, IQ⟩ := hq.ints
  obtain ⟨i0, hi, hz0, hz1, hz2⟩ := info_parts Tryz.info2
  have hlp := pp.1
  have hlq := pq.1
  have hpn : p.length ≤ 1000 := by omega
  have HPP := Lib.hid pp; have HPQ := Lib.hid pq
  have HLP := Lib.hid hlp; have HLQ := Lib.hid hlq
  clear hlp hlq pp pq
  go_enter Tryz.func72, Tryz.ntmps72
  go_wp2_with (at_make; refine wpList_make_full _ rfl _ _ 27 rfl w.heap.size 2 i0 _ 1 Tryz.underlying27 hi hz0 hz1 _ _ _ _ p.length rfl rfl rfl rfl (by rw [hz2]; omega) (by unfold maxLen; omega) (Nat.le_refl _) ?_; intro w1 hown hg)
  rw [madeInts, Nat.mul_one] at hown
  have hs1 := hg.size
  go_loopw [13] (fun i wr => ∃ j : Nat, j ≤ p.length ∧ i = .int .i64 j ∧
      wr.ownsRow w.heap.size 2 1 (.slice (some ⟨w.heap.size, 0, none⟩) p.length p.length) p.length ((PM.comp (p.take j) q).map (Value.int .i64) ++ List.replicate (p.length - j) (.int .i64 0)) ∧ Only [] w wr)
    (fun i _ => p.length - (intOf i).toNat)
  case atStart => exact ⟨0, Nat.zero_le _, rfl, by simpa [PM.comp] using hown, (Only.refl _ _).grown hg (by simp)⟩
  case round =>
    obtain ⟨j, hj, rfl, hO, hK⟩ := hrel
    have hpl : ((PM.comp (p.take j) q).map (Value.int .i64)).length = j := by rw [List.length_map, PM.comp_len, List.length_take]; omega
    by_cases hlt : j < p.length
    · obtain ⟨bp, op, rfl, -, hcp0⟩ := IP.at_ j hlt
      have hcp := hK.cell (by simp) hcp0
      have hr := HPP.out.2.1 p[j] (List.getElem_mem hlt)
      have hx0 : 0 ≤ p[j] := hr.1
      have hx1 : p[j] < (q.length : Int) := by have := HLP.out; have := HLQ.out; omega
      obtain ⟨bq, oq, rfl, -, hcq0⟩ := IQ.at_pm hx0 hx1
      have hcq := hK.cell (by simp) hcq0
      obtain ⟨hO2, hg2⟩ := hO.stored j (.int .i64 (PM.at_ q p[j]))
      have hstep : ((PM.comp (p.take j) q).map (Value.int .i64) ++ List.replicate (p.length - j) (Value.int .i64 0)).set j (.int .i64 (PM.at_ q p[j])) = (PM.comp (p.take (j + 1)) q).map (Value.int .i64) ++ List.replicate (p.length - (j + 1)) (.int .i64 0) := by
        rw [show p.length - j = (p.length - (j + 1)) + 1 by omega, List.replicate_succ, List.set_append_right _ _ (by omega), hpl, Nat.sub_self, comp_take_succ p q j hlt]
        simp
      rw [hstep] at hO2
      have hc2 : wr.cell? ⟨w.heap.size, j, none⟩ = some (.int .i64 0) := by
        rw [hO.cellAt j (by omega), List.getElem?_append_right (by omega), List.getElem?_replicate, if_pos (by omega)]
      have hf2 := hO.frozenAt j
      have hK2 := hK.setCell (p := ⟨w.heap.size, j, none⟩) (by simp) (.int .i64 (PM.at_ q p[j]))
      have HO := Lib.hid hO2
      have hb1 := IP.bound
      have hb2 := IQ.bound
      clear hO hO2 hg hg2 hown hstep hpl hcp0 hcq0 hr
      go_wp2
      go_roundw
      case rel => exact ⟨j + 1, by omega, by go_num, HO.out, hK2⟩
      case measure => simp [intOf]; omega
    · have hjl : j = p.length := by omega
      rw [hjl] at hO
      simp only [Nat.sub_self, List.replicate_zero, List.append_nil, List.take_length] at hO
      have hw := comp_i64 HPP.out HPQ.out hn
      have hO' : wr.ownsRow w.heap.size 2 1 (.slice (some ⟨w.heap.size, 0, none⟩) p.length p.length) (PM.comp p q).length ((PM.comp p q).map (Value.int .i64)) := by rw [PM.comp_len]; exact hO
      obtain ⟨a', cap', hv, -, hI, hF⟩ := own_ints hO' hw
      have HI := Lib.hid hI
      have Hv := Lib.hid hv
      clear hjl hO hO' hv hown hI hpl hw
      go_wp2
      go_ret
      refine ⟨_, _, rfl, ?_, hF, hK⟩
      have hr := HI.out.rd
      rw [← Hv.out] at hr; exact hr
set_option maxHeartbeats 1000000 in
theorem specCompose_rd (n : Nat) (vp vq : Value) (p q : List Int) (fp fq : List Nat) (w : World) (hp : Rd w vp p fp) (hq : Rd w vq q fq) (pp : PM.PN n p) (pq : PM.PN n q) (hn : n ≤ 1000) :
    Calls Tryz.prog 46 #[vp, vq] w fun e w' => ∃ v fp', e = .returned v ∧ Rd w' v (PM.comp p q) fp' ∧ Fresh w.heap.size w' fp' ∧ Only [] w w' := by
  obtain ⟨ap, cp, rfl, IP⟩ := hp.ints
  obtain ⟨aq, cq, rfl, IQ⟩ := hq.ints
  obtain ⟨i0, hi, hz0, hz1, hz2⟩ := info_parts Tryz.info2
  have hlp := pp.1
  have hlq := pq.1
  have hpn : p.length ≤ 1000 := by omega
  have HPP := Lib.hid pp; have HPQ := Lib.hid pq
  have HLP := Lib.hid hlp; have HLQ := Lib.hid hlq
  clear hlp hlq pp pq
  have hb1 := IP.bound
  have hb2 := IQ.bound
  go_enter Tryz.func46, Tryz.ntmps46
  go_wp2
  go_loopw [5, 6] (fun o i wr => ∃ (j : Nat) (fs : List (List Nat)), j ≤ p.length ∧ i = .int .i64 j ∧ Acc w.heap.size 2 wr o (PM.comp (p.take j) q) fs ∧ Fresh w.heap.size wr fs.flatten ∧ Only [] w wr)
    (fun _ i _ => p.length - (intOf i).toNat)
  case atStart => exact ⟨0, [], Nat.zero_le _, rfl, by simpa [PM.comp] using Acc.made w w.heap.size _ rfl (Nat.le_refl _), Fresh.nil _ _, (Only.refl _ _).alloc _⟩
  case round =>
    obtain ⟨j, fs, hj, rfl, hA, hF, hK⟩ := hrel
    by_cases hlt : j < p.length
    · have hsz := hK.size
      obtain ⟨bp, op, rfl, -, hcp0⟩ := IP.at_ j hlt
      have hcp := hK.cell (by simp) hcp0
      have hr := HPP.out.2.1 p[j] (List.getElem_mem hlt)
      have hx0 : 0 ≤ p[j] := hr.1
      have hx1 : p[j] < (q.length : Int) := by have := HLP.out; have := HLQ.out; omega
      obtain ⟨bq, oq, rfl, -, hcq0⟩ := IQ.at_pm hx0 hx1
      have hcq := hK.cell (by simp) hcq0
      have hlj : (PM.comp (p.take j) q).length + 1 ≤ 1073741824 := by rw [PM.comp_len, List.length_take]; omega
      have hI : I64 (PM.at_ q p[j]) := PN_i64 HPQ.out hn _ (PM.at_mem hx0 hx1)
      have HI := Lib.hid hI
      clear hI hcp0 hcq0 hr
      go_wp2_with ((at_builtin; refine wpList_pushF rfl _ _ 27 rfl w.heap.size 2 i0 _ 8 Tryz.underlying27 hi hz0 hz1 hz2 rfl (by decide) (by decide) wr _ (PM.comp (p.take j) q) fs rfl hA hF ((Only.refl _ _).alloc _) hsz wr.heap.size 1 [.int .i64 (PM.at_ q p[j])] (PM.at_ q p[j]) [] rfl (lit_src wr [.int .i64 (PM.at_ q p[j])] _ rfl) (by intro u hu; simp at hu; subst hu; rfl) (int_rd _ HI.out) (Fresh.nil _ _) hlj w (hK.alloc _) (Nat.le_refl _) ?_; intro v3 w3 hA3 hF3 hK3 _))
      go_roundw
      case rel => exact ⟨j + 1, _, by omega, by go_num, by rw [comp_take_succ p q j hlt]; exact hA3, hF3, hK3⟩
      case measure => simp [intOf]; omega
    · have hjl : j = p.length := by omega
      rw [hjl, List.take_length] at hA
      have HA := Lib.hid hA
      clear hjl hA
      go_wp2
      go_ret
      exact ⟨_, _, rfl, HA.out.rd (by decide), HA.out.fresh hF, hK⟩
set_option maxHeartbeats 1000000 in
theorem implInv_rd (n : Nat) (vp : Value) (p : List Int) (fp : List Nat) (w : World) (hp : Rd w vp p fp) (pp : PM.PN n p) (hn : n ≤ 1000) :
    Calls Tryz.prog 119 #[vp] w fun e w' => ∃ v fp', e = .returned v ∧ Rd w' v (PM.inv p) fp' ∧ Fresh w.heap.size w' fp' ∧ Only [] w w' := by
  obtain ⟨ap, cp, rfl, IP⟩ := hp.ints
  obtain ⟨i0, hi, hz0, hz1, hz2⟩ := info_parts Tryz.info2
  have hlp := pp.1
  have hpn : p.length ≤ 1000 := by omega
  have HPP := Lib.hid pp
  clear hlp pp
  have hb1 := IP.bound
  go_enter Tryz.func119, Tryz.ntmps119
  go_wp2_with (at_make; refine wpList_make_full _ rfl _ _ 27 rfl w.heap.size 2 i0 _ 1 Tryz.underlying27 hi hz0 hz1 _ _ _ _ p.length rfl rfl rfl rfl (by rw [hz2]; omega) (by unfold maxLen; omega) (Nat.le_refl _) ?_; intro w1 hown hg)
  rw [madeInts, Nat.mul_one] at hown
  have hs1 := hg.size
  go_loopw [11] (fun i wr => ∃ j : Nat, j ≤ p.length ∧ i = .int .i64 j ∧
      wr.ownsRow w.heap.size 2 1 (.slice (some ⟨w.heap.size, 0, none⟩) p.length p.length) p.length ((invTo p j).map (Value.int .i64)) ∧ Only [] w wr)
    (fun i _ => p.length - (intOf i).toNat)
  case atStart => exact ⟨0, Nat.zero_le _, rfl, by rw [invTo_zero, map_zero]; exact hown, (Only.refl _ _).grown hg (by simp)⟩
  case round =>
    obtain ⟨j, hj, rfl, hO, hK⟩ := hrel
    by_cases hlt : j < p.length
    · obtain ⟨bp, op, rfl, -, hcp0⟩ := IP.at_ j hlt
      have hcp := hK.cell (by simp) hcp0
      have hr := HPP.out.2.1 p[j] (List.getElem_mem hlt)
      have hx0 : 0 ≤ p[j] := hr.1
      have hx1 : p[j] < (p.length : Int) := hr.2
      obtain ⟨hO2, hg2⟩ := hO.stored (p[j]).toNat (.int .i64 j)
      have hstep : ((invTo p j).map (Value.int .i64)).set (p[j]).toNat (.int .i64 (j : Int)) = (invTo p (j + 1)).map (Value.int .i64) := by
        rw [invTo_succ HPP.out hlt, List.map_set]
      rw [hstep] at hO2
      have hc2 : ∃ u, wr.cell? ⟨w.heap.size, (p[j]).toNat, none⟩ = some (.int .i64 u) := by
        rw [hO.cellAt _ (by omega)]
        have : (p[j]).toNat < (invTo p j).length := by rw [invTo_len]; omega
        exact ⟨(invTo p j)[(p[j]).toNat], by simp [this]⟩
      obtain ⟨u, hc2⟩ := hc2
      have hf2 := hO.frozenAt (p[j]).toNat
      have hK2 := hK.setCell (p := ⟨w.heap.size, (p[j]).toNat, none⟩) (by simp) (.int .i64 j)
      have HO := Lib.hid hO2
      clear hO hO2 hg hg2 hown hstep hcp0 hr
      go_wp2
      go_roundw
      case rel => exact ⟨j + 1, by omega, by go_num, HO.out, hK2⟩
      case measure => simp [intOf]; omega
    · have hjl : p.length ≤ j := by omega
      rw [invTo_all HPP.out hjl] at hO
      have hw := PN_i64 HPP.out.inv hn
      have hO' : wr.ownsRow w.heap.size 2 1 (.slice (some ⟨w.heap.size, 0, none⟩) p.length p.length) (PM.inv p).length ((PM.inv p).map (Value.int .i64)) := by rw [PM.inv_len]; exact hO
      obtain ⟨a', cap', hv, -, hI, hF⟩ := own_ints hO' hw
      have HI := Lib.hid hI
      have Hv := Lib.hid hv
      clear hO hO' hv hown hI hw
      go_wp2
      go_ret
      refine ⟨_, _, rfl, ?_, hF, hK⟩
      have hr := HI.out.rd
      rw [← Hv.out] at hr; exact hr
set_option maxHeartbeats 1000000 in
theorem specInv_rd (n : Nat) (vp : Value) (p : List Int) (fp : List Nat) (w : World) (hp : Rd w vp p fp) (pp : PM.PN n p) (hn : n ≤ 1000) :
    Calls Tryz.prog 123 #[vp] w fun e w' => ∃ v fp', e = .returned v ∧ Rd w' v (PM.inv p) fp' ∧ Fresh w.heap.size w' fp' ∧ Only [] w w' := by
  obtain ⟨ap, cp, rfl, IP⟩ := hp.ints
  obtain ⟨i0, hi, hz0, hz1, hz2⟩ := info_parts Tryz.info2
  have hlp := pp.1
  have hpn : p.length ≤ 1000 := by omega
  have HPP := Lib.hid pp
  clear hlp pp
  have hb1 := IP.bound
  go_enter Tryz.func123, Tryz.ntmps123
  go_wp2_with (at_make; refine wpList_make_full _ rfl _ _ 27 rfl w.heap.size 2 i0 _ 1 Tryz.underlying27 hi hz0 hz1 _ _ _ _ p.length rfl rfl rfl rfl (by rw [hz2]; omega) (by unfold maxLen; omega) (Nat.le_refl _) ?_; intro w1 hown hg)
  rw [madeInts, Nat.mul_one] at hown
  have hs1 := hg.size
  go_loopw [4] (fun i wr => ∃ j : Nat, j ≤ p.length ∧ i = .int .i64 j ∧
      wr.ownsRow w.heap.size 2 1 (.slice (some ⟨w.heap.size, 0, none⟩) p.length p.length) p.length ((invTo p j).map (Value.int .i64)) ∧ Only [] w wr)
    (fun i _ => p.length - (intOf i).toNat)
  case atStart => exact ⟨0, Nat.zero_le _, rfl, by rw [invTo_zero, map_zero]; exact hown, (Only.refl _ _).grown hg (by simp)⟩
  case round =>
    obtain ⟨j, hj, rfl, hO, hK⟩ := hrel
    by_cases hlt : j < p.length
    · obtain ⟨bp, op, rfl, -, hcp0⟩ := IP.at_ j hlt
      have hcp := hK.cell (by simp) hcp0
      have hr := HPP.out.2.1 p[j] (List.getElem_mem hlt)
      have hx0 : 0 ≤ p[j] := hr.1
      have hx1 : p[j] < (p.length : Int) := hr.2
      obtain ⟨hO2, hg2⟩ := hO.stored (p[j]).toNat (.int .i64 j)
      have hstep : ((invTo p j).map (Value.int .i64)).set (p[j]).toNat (.int .i64 (j : Int)) = (invTo p (j + 1)).map (Value.int .i64) := by
        rw [invTo_succ HPP.out hlt, List.map_set]
      rw [hstep] at hO2
      have hc2 : ∃ u, wr.cell? ⟨w.heap.size, (p[j]).toNat, none⟩ = some (.int .i64 u) := by
        rw [hO.cellAt _ (by omega)]
        have : (p[j]).toNat < (invTo p j).length := by rw [invTo_len]; omega
        exact ⟨(invTo p j)[(p[j]).toNat], by simp [this]⟩
      obtain ⟨u, hc2⟩ := hc2
      have hf2 := hO.frozenAt (p[j]).toNat
      have hK2 := hK.setCell (p := ⟨w.heap.size, (p[j]).toNat, none⟩) (by simp) (.int .i64 j)
      have HO := Lib.hid hO2
      clear hO hO2 hg hg2 hown hstep hcp0 hr
      go_wp2
      go_roundw
      case rel => exact ⟨j + 1, by omega, by go_num, HO.out, hK2⟩
      case measure => simp [intOf]; omega
    · have hjl : p.length ≤ j := by omega
      rw [invTo_all HPP.out hjl] at hO
      have hw := PN_i64 HPP.out.inv hn
      have hO' : wr.ownsRow w.heap.size 2 1 (.slice (some ⟨w.heap.size, 0, none⟩) p.length p.length) (PM.inv p).length ((PM.inv p).map (Value.int .i64)) := by rw [PM.inv_len]; exact hO
      obtain ⟨a', cap', hv, -, hI, hF⟩ := own_ints hO' hw
      have HI := Lib.hid hI
      have Hv := Lib.hid hv
      clear hO hO' hv hown hI hw
      go_wp2
      go_ret
      refine ⟨_, _, rfl, ?_, hF, hK⟩
      have hr := HI.out.rd
      rw [← Hv.out] at hr; exact hr
end Go.Proofs.YtajkhdbdkjhilaaGreat

namespace Go.Proofs.YtajkhdbdkjhilaaGreat
open Go.RowKit
set_option maxRecDepth 10000

theorem has_step {T : PM.Rows} {n j : Nat} (hj : j < n) (q : List Int) : PM.has T n (n - j) q = if PM.tr T j (PM.at_ q (j : Int)) = [] then false else PM.has T n (n - (j + 1)) (PM.comp q (PM.inv (PM.tr T j (PM.at_ q (j : Int))))) := by
  have h1 : n - j = (n - (j + 1)) + 1 := by omega
  have h2 : n - (n - (j + 1) + 1) = j := by omega
  rw [h1]; simp only [PM.has, h2]
theorem has_end {T : PM.Rows} {n j : Nat} (hj : n ≤ j) (q : List Int) : PM.has T n (n - j) q = true := by
  rw [show n - j = 0 by omega]; rfl
theorem IntsA.at_pn {w : World} {a : Option Addr} {cap : Nat} {l : List Int} {fp : List Nat} (h : IntsA w a cap l fp) {j : Nat} (hj : j < l.length) :
    ∃ b off, a = some ⟨b, off, none⟩ ∧ fp = [b] ∧ w.cell? ⟨b, off + j, none⟩ = some (.int .i64 (PM.at_ l (j : Int))) := by
  obtain ⟨b, off, e1, e2, e3⟩ := h.at_ j hj
  exact ⟨b, off, e1, e2, by rw [e3, PM.at_nat l j hj]⟩
set_option maxHeartbeats 1000000 in
theorem implHas_any {e : TypeId} {B : Nat} {L : Lay} {gv : Nat → Value} {n : Nat} {G : PM.Gens} {T : PM.Rows} {M F : List Nat} (w : World) (hC : Ch e B w L gv n G T M F) (hw : PM.WF n T) (hT : L.oT = 2)
    (k : Nat) (vp : Value) (p : List Int) (fp : List Nat) (hk : k ≤ n) (hp : Rd w vp p fp) (pp : PM.PN n p) :
    Calls Tryz.prog 79 #[.pointer (some ⟨L.g, 0, none⟩), .int .i64 k, vp] w fun e w' => e = .returned (.bool (PM.has T n (n - k) p)) ∧ Only [] w w' := by
  have hn20 := hC.le
  have HW := Lib.hid hw
  have HC := Lib.hid hC
  have hcT := hC.ct
  rw [hT] at hcT
  have HT := Lib.hid hT
  have Hp := Lib.hid hp
  have HPP := Lib.hid pp
  clear hT hC hw hp pp
  go_enter Tryz.func79, Tryz.ntmps79
  go_wp2
  go_loopw [2, 7] (fun s i wr => ∃ (j : Nat) (q : List Int) (f : List Nat), j ≤ n ∧ i = .int .i64 j ∧ Rd wr s q f ∧ PM.PN n q ∧ PM.has T n (n - k) p = PM.has T n (n - j) q ∧ Only [] w wr)
    (fun _ i _ => n - (intOf i).toNat)
  case atStart => exact ⟨k, p, fp, hk, rfl, Hp.out, HPP.out, rfl, Only.refl _ _⟩
  case round =>
    obtain ⟨j, q, f, hj, rfl, hq, hqn, hh, hK⟩ := hrel
    have HH := Lib.hid hh
    have HQN := Lib.hid hqn
    have HK := Lib.hid hK
    have c0 := hK.cell (by simp) HC.out.cn
    have c2 := hK.cell (by simp) hcT
    by_cases hlt : j < n
    · have hjn : (j : Int) < (n : Int) := by omega
      have hj0 : (0 : Int) ≤ (j : Int) := by omega
      have hC' := HC.out.keep hK
      obtain ⟨aq, cq, rfl, IQ⟩ := hq.ints
      have hb := IQ.bound
      have hlen : (j : Int) < (q.length : Int) := by have := hqn.1; omega
      obtain ⟨bq, oq, rfl, -, hcq⟩ := IQ.at_pn (by omega : j < q.length)
      have hr := hqn.rng (x := (j : Int)) (by omega) (by omega)
      have hy0 := hr.1
      have hy1 := hr.2
      have c3 := hC'.row j hlt
      have hst := has_step (T := T) hlt q
      have Hst := Lib.hid hst
      clear hst hh hqn hK hr
      by_cases ht : PM.tr T j (PM.at_ q (j : Int)) = []
      · have c4 := hC'.at_nil hlt hy0 hy1 ht
        have hnil := fun W => Lib.run_eql_slice_nil (P := Tryz.prog) W 27 2 none 0 0 0 0 Tryz.underlying27
        have Ht := Lib.hid ht
        clear ht hC'
        go_wp2
        go_quiet (fail)
        go_wp2
        go_ret
        exact ⟨ret_bool (by rw [HH.out, Hst.out, if_pos Ht.out]), HK.out.drewN _⟩
      · obtain ⟨b, off, cap, f4, c4, hR, -⟩ := hC'.at_some hlt hy0 hy1 ht
        have hnil := fun W => Lib.run_eql_slice_nil (P := Tryz.prog) W 27 2 (some ⟨b, off, none⟩) (PM.tr T j (PM.at_ q (j : Int))).length cap 0 0 Tryz.underlying27
        have htn := HW.out.pn j _ hlt ht
        have Htn := Lib.hid htn
        have Ht := Lib.hid ht
        clear ht hC' htn
        go_wp2
        go_quiet (fail)
        go_wp2_with (first
          | (go_at_call 119; (with_reducible refine (implInv_rd n _ _ _ _ (Rp.keep hR (by with_reducible repeat (first | exact Only.refl _ _ | assumption | refine Only.drewN ?_ _ | refine Only.drew ?_ | refine Only.alloc ?_ _ | refine Only.setCell ?_ (by intro hh; exfalso; simp at hh; try omega) _ | refine Only.trans ?_ (by assumption)))) Htn.out (by omega)).mono ?_); rintro e w1 ⟨v1, f1, rfl, r1, F1, t1⟩)
          | (go_at_call 72; (with_reducible refine (implCompose_rd n _ _ _ _ _ _ _ (Rp.keep hq (by with_reducible repeat (first | exact Only.refl _ _ | assumption | refine Only.drewN ?_ _ | refine Only.drew ?_ | refine Only.alloc ?_ _ | refine Only.setCell ?_ (by intro hh; exfalso; simp at hh; try omega) _ | refine Only.trans ?_ (by assumption)))) r1 HQN.out Htn.out.inv (by omega)).mono ?_); rintro e w2 ⟨v2, f2, rfl, r2, F2, t2⟩))
        go_roundw
        case rel => exact ⟨j + 1, _, f2, by omega, by go_num, r2, HQN.out.comp Htn.out.inv, by rw [HH.out, Hst.out, if_neg Ht.out], (HK.out.drewN _).trans (t1.trans t2)⟩
        case measure => simp [intOf]; omega
    · have hjn : ¬ (j : Int) < (n : Int) := by omega
      clear hh hqn
      go_wp2
      go_ret
      exact ⟨ret_bool (by rw [HH.out, has_end (by omega)]), HK.out⟩
/-- the points of a row -/
def orb (n : Nat) (T : PM.Rows) (k : Nat) : List Int := (PM.pts n).filter fun y => decide (PM.tr T k y ≠ [])
def orbTo (j : Nat) (T : PM.Rows) (k : Nat) : List Int := (PM.pts j).filter fun y => decide (PM.tr T k y ≠ [])
theorem orbTo_succ (j : Nat) (T : PM.Rows) (k : Nat) : orbTo (j + 1) T k = if PM.tr T k (j : Int) = [] then orbTo j T k else orbTo j T k ++ [(j : Int)] := by
  unfold orbTo
  rw [pts_succ, List.filter_append]
  by_cases h : PM.tr T k (j : Int) = []
  · rw [if_pos h]; simp [h]
  · rw [if_neg h]; simp [h]
theorem orbTo_len (j : Nat) (T : PM.Rows) (k : Nat) : (orbTo j T k).length ≤ j := by
  unfold orbTo
  have := List.length_filter_le (fun y => decide (PM.tr T k y ≠ [])) (PM.pts j)
  rwa [PM.pts_len] at this
theorem mem_orb {n : Nat} {T : PM.Rows} {k : Nat} {y : Int} : y ∈ orb n T k ↔ (0 ≤ y ∧ y < n) ∧ PM.tr T k y ≠ [] := by
  unfold orb
  rw [List.mem_filter, PM.mem_pts]; simp
theorem orb_nodup (n : Nat) (T : PM.Rows) (k : Nat) : (orb n T k).Nodup := List.Nodup.sublist List.filter_sublist (PM.pts_nodup n)
theorem orb_i64 {n : Nat} (hn : n ≤ 1000) (T : PM.Rows) (k : Nat) : ∀ x ∈ orb n T k, I64 x := fun x hx => by
  have := (mem_orb.1 hx).1; unfold I64; omega
set_option maxHeartbeats 1000000 in
theorem orbitOf_any {e : TypeId} {B : Nat} {L : Lay} {gv : Nat → Value} {n : Nat} {G : PM.Gens} {T : PM.Rows} {M F : List Nat} (w : World) (hC : Ch e B w L gv n G T M F) (k : Nat) (hk : k < n) :
    Calls Tryz.prog 138 #[.slice (some ⟨L.rb k, 0, none⟩) n n] w fun e w' => ∃ v fs, e = .returned v ∧ Acc w.heap.size 2 w' v (orb n T k) fs ∧ Fresh w.heap.size w' fs.flatten ∧ Only [] w w' := by
  obtain ⟨i0, hi, hz0, hz1, hz2⟩ := info_parts Tryz.info2
  have hn20 := hC.le
  have HC := Lib.hid hC
  clear hC
  go_enter Tryz.func138, Tryz.ntmps138
  go_wp2
  go_loopw [3, 8] (fun o i wr => ∃ (j : Nat) (fs : List (List Nat)), j ≤ n ∧ i = .int .i64 j ∧ Acc w.heap.size 2 wr o (orbTo j T k) fs ∧ Fresh w.heap.size wr fs.flatten ∧ Only [] w wr)
    (fun _ i _ => n - (intOf i).toNat)
  case atStart => exact ⟨0, [], Nat.zero_le _, rfl, by simpa [orbTo, PM.pts] using Acc.nil w w.heap.size _, Fresh.nil _ _, Only.refl _ _⟩
  case round =>
    obtain ⟨j, fs, hj, rfl, hA, hF, hK⟩ := hrel
    by_cases hlt : j < n
    · have hsz := hK.size
      have hC' := HC.out.keep hK
      have hjl := orbTo_len j T k
      have hlj : (orbTo j T k).length + 1 ≤ 1073741824 := by omega
      have hI : I64 (j : Int) := by unfold I64; omega
      have HI := Lib.hid hI
      have hsu := orbTo_succ j T k
      have Hsu := Lib.hid hsu
      clear hI hsu
      by_cases ht : PM.tr T k (j : Int) = []
      · have c4 := hC'.at_nil hk (y := (j : Int)) (by omega) (by omega) ht
        simp only [Int.toNat_natCast] at c4
        have hnil := fun W => run_neq_slice_nil_any (P := Tryz.prog) W 27 2 none 0 0 0 0 Tryz.underlying27
        have Ht := Lib.hid ht
        clear ht hC'
        go_wp2
        go_roundw
        case rel => exact ⟨j + 1, fs, by omega, by go_num, by rw [Hsu.out, if_pos Ht.out]; exact hA, hF, hK⟩
        case measure => simp [intOf]; omega
      · obtain ⟨b, off, cap, f4, c4, -, -⟩ := hC'.at_some hk (y := (j : Int)) (by omega) (by omega) ht
        simp only [Int.toNat_natCast] at c4
        have hnil := fun W => run_neq_slice_nil_any (P := Tryz.prog) W 27 2 (some ⟨b, off, none⟩) (PM.tr T k (j : Int)).length cap 0 0 Tryz.underlying27
        have Ht := Lib.hid ht
        clear ht hC'
        go_wp2_with ((at_builtin; refine wpList_pushF rfl _ _ 27 rfl w.heap.size 2 i0 _ 8 Tryz.underlying27 hi hz0 hz1 hz2 rfl (by decide) (by decide) wr _ (orbTo j T k) fs rfl hA hF ((Only.refl _ _).alloc _) hsz wr.heap.size 1 [.int .i64 (j : Int)] (j : Int) [] rfl (lit_src wr [.int .i64 (j : Int)] _ rfl) (by intro u hu; simp at hu; subst hu; rfl) (int_rd _ HI.out) (Fresh.nil _ _) hlj w (hK.alloc _) (Nat.le_refl _) ?_; intro v3 w3 hA3 hF3 hK3 _))
        go_roundw
        case rel => exact ⟨j + 1, _, by omega, by go_num, by rw [Hsu.out, if_neg Ht.out]; exact hA3, hF3, hK3⟩
        case measure => simp [intOf]; omega
    · have hjl : j = n := by omega
      rw [hjl] at hA
      have HA := Lib.hid hA
      clear hjl hA
      go_wp2
      go_ret
      exact ⟨_, fs, rfl, HA.out, hF, hK⟩
end Go.Proofs.YtajkhdbdkjhilaaGreat
