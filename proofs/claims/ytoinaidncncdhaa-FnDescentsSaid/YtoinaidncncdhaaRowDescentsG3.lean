/- IsPermutation: the reference's and the program's. The identity permutation: the reference's and the program's. Composition and inverse of permutations: the reference's and the program's. The program's stabilizer chain. A queue of numbers: a slice of the call's own that is cut at its head and appended to. Plain facts on the making of stabilizer chains: the queue of a row, the products of a row and its generators. What the making of a chain leaves of memory; what its walk reads. What the exact laws share: marks are kept by marking again; a struct's block. The program's chain with one permutation more. Plain facts on the making of stabilizer chains product by product. The reference's chain: sift; a product, a generator more. Table: plain data, how it lies in memory, the laws' own helpers on it. (Printed by gen_struct.py.) The laws' own helpers on slices of tables: eq, mark, held, to, sz. Copies of lists and of tables: the reference's and the program's. -/
import Derived.Test.YtoinaidncncdhaaRowDescentsG2
import Derived.Test.YtoinaidncncdhaaRowDescentsG1
import Derived.Deep.RegionHeld3
import Derived.Deep.DeepCutAuto
import Derived.Deep.RegionLaw
import Derived.WalkSpells
import Derived.Deep.AppendLies
import Derived.StillTailTactics
namespace Go.Proofs.Ytoinaidncncdhaa
open Go.RowKit
set_option maxRecDepth 10000

/-- the same as quiet_drewN at a function's beginning -/
theorem quiet_drewN0 {P : Program} {f : FuncId} {args : Array Value} {w : World} {n : Nat} {v : Value}
    (h : Calls P f args (w.drewN n) fun e w' => e = .returned v ∧ Drew (w.drewN n) w') :
    Calls P f args (w.drewN n) fun e w'' => e = .returned v ∧ ∃ m, w'' = w.drewN m :=
  h.mono fun _ _ ⟨he, m, hm⟩ => ⟨he, n + m, by rw [hm, World.drewN_drewN]⟩
theorem IntsA.take {w : World} {a : Option Addr} {cap : Nat} {l : List Int} {fp : List Nat} (h : IntsA w a cap l fp) (j : Nat) : IntsA w a cap (l.take j) fp := by
  refine ⟨Nat.le_trans (by simp; omega) h.len, h.cap, fun x hx => h.wf x (List.mem_of_mem_take hx), fun k hk => ?_, h.lt, h.one⟩
  have hk' : k < l.length := by simp at hk; omega
  obtain ⟨b, off, e1, e2, e3⟩ := h.at_ k hk'
  exact ⟨b, off, e1, e2, by rw [e3]; simp⟩
def permB (l : List Int) : Bool := inR l.length 1 20 && decide (PM.IsP l)
theorem permB_iff {l : List Int} : permB l = true ↔ (1 ≤ l.length ∧ l.length ≤ 20) ∧ PM.IsP l := by
  simp [permB, inR]; omega
theorem mem_take_step {l : List Int} {j : Nat} (h : j < l.length) {P : Int → Prop} (h1 : ∀ x ∈ l.take j, P x) (h2 : P l[j]) : ∀ x ∈ l.take (j + 1), P x := by
  rw [take_succ_get l j h]
  intro x hx
  rcases List.mem_append.1 hx with hx | hx
  · exact h1 x hx
  · simp at hx; subst hx; exact h2
theorem nodup_take_step {l : List Int} {j : Nat} (h : j < l.length) (h1 : (l.take j).Nodup) (h2 : l[j] ∉ l.take j) : (l.take (j + 1)).Nodup := by
  rw [take_succ_get l j h]
  exact List.nodup_append.2 ⟨h1, by simp, by intro a ha b hb e; simp at hb; subst hb; subst e; exact h2 ha⟩
theorem nodup_take_not {l : List Int} {j : Nat} (h : j < l.length) (h2 : l[j] ∈ l.take j) : ¬ l.Nodup := by
  intro hn
  have h3 : (l.take (j + 1)).Nodup := List.Nodup.sublist (List.take_sublist _ _) hn
  rw [take_succ_get l j h] at h3
  exact (List.nodup_append.1 h3).2.2 _ h2 _ (by simp) rfl

set_option maxHeartbeats 400000 in
theorem containsInt_any (a : Option Addr) (cap : Nat) (l : List Int) (n : Int) (fp : List Nat) (w : World) (h : IntsA w a cap l fp) :
    Calls Try.prog 89 #[.slice a l.length cap, .int .i64 n] w fun e w' => e = .returned (.bool (decide (n ∈ l))) ∧ Drew w w' := by
  have hb := h.bound
  go_enter Try.func89, Try.ntmps89
  go_wp2
  go_loopw [5] (fun i wr => ∃ j : Nat, j ≤ l.length ∧ i = .int .i64 j ∧ n ∉ l.take j ∧ Drew w wr)
    (fun i _ => l.length - (intOf i).toNat)
  case atStart => exact ⟨0, Nat.zero_le _, rfl, by simp, Drew.refl _⟩
  case round =>
    obtain ⟨j, hj, rfl, hr, k, rfl⟩ := hrel
    have Hr := Lib.hid hr; clear hr
    by_cases hlt : j < l.length
    · obtain ⟨b, off, rfl, -, hc⟩ := h.at_ j hlt
      by_cases hx : l[j] = n
      · have hq : (l[j] == n) = true := by simp [hx]
        have Hx := Lib.hid hx; clear hx
        go_wp2
        go_ret
        exact ⟨ret_bool (decide_eq_true (by rw [← Hx.out]; exact List.getElem_mem _)).symm, ⟨_, rfl⟩⟩
      · have hq : (l[j] == n) = false := by simp [hx]
        have Hx := Lib.hid hx; clear hx
        go_wp2
        go_roundw
        case rel => exact ⟨j + 1, by omega, by go_num, by
          rw [take_succ_get l j hlt]; intro hm
          rcases List.mem_append.1 hm with hm | hm
          · exact Hr.out hm
          · simp at hm; exact Hx.out hm.symm, ⟨_, rfl⟩⟩
        case measure => simp [intOf]; omega
    · go_wp2
      go_ret
      exact ⟨ret_bool (decide_eq_false (by have := Hr.out; rwa [List.take_of_length_le (by omega)] at this)).symm, ⟨_, rfl⟩⟩
theorem containsInt_pre (a : Option Addr) (cap : Nat) (l : List Int) (j : Nat) (n : Int) (fp : List Nat) (w : World) (h : IntsA w a cap l fp) (hj : j ≤ l.length) :
    Calls Try.prog 89 #[.slice a j cap, .int .i64 n] w fun e w' => e = .returned (.bool (decide (n ∈ l.take j))) ∧ Drew w w' := by
  have := containsInt_any a cap (l.take j) n fp w (h.take j)
  rwa [show (l.take j).length = j by simp; omega] at this
theorem inRange_q (x lo hi : Int) (w : World) :
    Calls Try.prog 48 #[.int .i64 x, .int .i64 lo, .int .i64 hi] w fun e w' => e = .returned (.bool (inR x lo hi)) ∧ Drew w w' :=
  (inRange_any x lo hi w).mono fun _ _ ⟨h1, h2⟩ => ⟨h1, by rw [h2]; exact Drew.refl _⟩
set_option maxHeartbeats 1000000 in
theorem specIsPerm_any (a : Option Addr) (cap : Nat) (l : List Int) (fp : List Nat) (w : World) (h : IntsA w a cap l fp) :
    Calls Try.prog 121 #[.slice a l.length cap] w fun e w' => e = .returned (.bool (permB l)) ∧ Drew w w' := by
  have hb := h.bound
  rcases hq : inR l.length 1 20
  · go_enter Try.func121, Try.ntmps121
    go_wp2_with ((go_at_call 48; (with_reducible refine (inRange_any l.length 1 20 _).mono ?_); rintro e w1 ⟨rfl, rfl⟩))
    go_ret
    exact ⟨ret_bool (by unfold permB; rw [hq]; rfl), Drew.refl _⟩
  have hfin : permB l = decide (PM.IsP l) := by unfold permB; rw [hq]; rfl
  have Hfin := Lib.hid hfin; clear hfin
  obtain ⟨g1, g2⟩ := inR_iff.1 hq
  go_enter Try.func121, Try.ntmps121
  go_wp2_with ((go_at_call 48; (with_reducible refine (inRange_any l.length 1 20 _).mono ?_); rintro e w ⟨rfl, rfl⟩))
  go_loopw [4] (fun i wr => ∃ j : Nat, j ≤ l.length ∧ i = .int .i64 j ∧ (∀ x ∈ l.take j, 0 ≤ x ∧ x < l.length) ∧ (l.take j).Nodup ∧ Drew w wr)
    (fun i _ => l.length - (intOf i).toNat)
  case atStart => exact ⟨0, Nat.zero_le _, rfl, by simp, by simp, Drew.refl _⟩
  case round =>
    obtain ⟨j, hj, rfl, hr, hn, k, rfl⟩ := hrel
    have Hr := Lib.hid hr; clear hr
    have Hn := Lib.hid hn; clear hn
    by_cases hlt : j < l.length
    · obtain ⟨b, off, rfl, -, hc⟩ := h.at_ j hlt
      have hcap := h.len
      have hi1 : (0 : Int) ≤ (j : Int) := by omega
      have hi2 : (j : Int) < (l.length : Int) := by omega
      rcases c1 : inR l[j] 0 (l.length - 1)
      · go_wp2
        go_quiet ((go_at_call 48; exact quiet_drewN (inRange_q l[j] 0 (l.length - 1) _)))
        go_wp2
        go_ret
        exact ⟨ret_bool (by rw [Hfin.out, eq_comm, decide_eq_false_iff_not]; intro hp; have := hp.1 l[j] (List.getElem_mem _); rw [inR_not] at c1; omega), ((Drew.refl _).drewN _).drewN _⟩
      have hx := inR_iff.1 c1
      have Hx := Lib.hid hx; clear hx
      rcases c2 : decide (l[j] ∈ l.take j)
      all_goals go_wp2
      all_goals go_quiet (first
        | (go_at_call 48; exact quiet_drewN (inRange_q l[j] 0 (l.length - 1) _))
        | (go_at_call 89; exact quiet_drewN (containsInt_pre (some ⟨b, off, none⟩) cap l j l[j] fp _ (h.keep (Only.ofDrewN _ _ _)) hj)))
      · have C2 := Lib.hid (of_decide_eq_false c2); clear c2
        go_wp2
        go_roundw
        case rel => exact ⟨j + 1, by omega, by go_num, mem_take_step hlt Hr.out (by have := Hx.out; omega), nodup_take_step hlt Hn.out C2.out, ⟨_, rfl⟩⟩
        case measure => simp [intOf]; omega
      · have C2 := Lib.hid (of_decide_eq_true c2); clear c2
        go_wp2
        go_ret
        exact ⟨ret_bool (by rw [Hfin.out, eq_comm, decide_eq_false_iff_not]; intro hp; exact nodup_take_not hlt C2.out hp.2), ((Drew.refl _).drewN _).drewN _⟩
    · go_wp2
      go_ret
      exact ⟨ret_bool (by rw [Hfin.out, eq_comm, decide_eq_true_iff]; have h1 := Hr.out; have h2 := Hn.out; rw [List.take_of_length_le (by omega)] at h1 h2; exact ⟨h1, h2⟩), ⟨_, rfl⟩⟩
theorem specIsPerm_rd (v : Value) (l : List Int) (fp : List Nat) (w : World) (h : Rd w v l fp) :
    Calls Try.prog 121 #[v] w fun e w' => e = .returned (.bool (permB l)) ∧ Drew w w' := by
  obtain ⟨a, cap, rfl, hI⟩ := h.ints
  exact specIsPerm_any a cap l fp w hI
theorem lengthRows_rd (v : Value) (l : List (List Int)) (fp : List Nat) (w : World) (h : Rd w v l fp) :
    Calls Try.prog 58 #[v] w fun e w' => e = .returned (.int .i64 l.length) ∧ w' = w := by
  obtain ⟨a, cap, ob, fps, rfl, -, hs⟩ := h.open_
  have hb := hs.bound
  go_enter Try.func58, Try.ntmps58
  go_wp2
  go_ret
  exact ⟨rfl, rfl⟩
theorem lengthInt_rd (v : Value) (l : List Int) (fp : List Nat) (w : World) (h : Rd w v l fp) :
    Calls Try.prog 56 #[v] w fun e w' => e = .returned (.int .i64 l.length) ∧ w' = w := by
  obtain ⟨a, cap, rfl, hI⟩ := h.ints
  have hb := hI.bound
  go_enter Try.func56, Try.ntmps56
  go_wp2
  go_ret
  exact ⟨rfl, rfl⟩
theorem wrap64_small (n : Int) (h0 : 0 ≤ n) (h1 : n < 9223372036854775808) : wrap64 n = n := by
  unfold wrap64; omega
theorem pow_small {k : Nat} (h : k ≤ 20) : (2 : Int) ^ k ≤ 1048576 ∧ 1 ≤ (2 : Int) ^ k := by
  have h1 : 2 ^ k ≤ 2 ^ 20 := Nat.pow_le_pow_right (by decide) h
  have h2 : 1 ≤ 2 ^ k := Nat.one_le_two_pow
  have e : ((2 : Int) ^ k) = ((2 ^ k : Nat) : Int) := by simp
  rw [e]
  constructor
  · have : (2 : Nat) ^ 20 = 1048576 := by decide
    omega
  · omega
theorem or_step (m : Nat) (hm : m < 2 ^ 20) (x : Int) (h0 : 0 ≤ x) (h1 : x ≤ 19) : bits BinOp.or IntKind.i64 (m : Int) (wrap64 (2 ^ x.toNat)) = ((m ||| 2 ^ x.toNat : Nat) : Int) := by
  have hp := pow_small (k := x.toNat) (by omega)
  rw [wrap64_small _ (by omega) (by omega)]
  have e : ((2 : Int) ^ x.toNat) = ((2 ^ x.toNat : Nat) : Int) := by simp
  rw [e]
  refine (bits_nat .i64 20 (by decide) ?_ m (2 ^ x.toNat) hm (Nat.pow_lt_pow_right (by decide) (by omega))).2
  intro n hn0 hn1
  have : (2 : Int) ^ 20 = 1048576 := by decide
  rw [IntKind.wrap_i64]; omega
theorem mask_end (l : List Int) (h : ∀ x ∈ l, 0 ≤ x ∧ x < l.length) (hl : l.length ≤ 20) : ((PM.mask l : Int) == wrap64 (wrap64 (2 ^ l.length) - 1)) = decide (PM.IsP l) := by
  have hp := pow_small hl
  rw [wrap64_small (2 ^ l.length) (by omega) (by omega), wrap64_small _ (by omega) (by omega)]
  have h1 : 1 ≤ 2 ^ l.length := Nat.one_le_two_pow
  have e : ((2 : Int) ^ l.length) - 1 = ((2 ^ l.length - 1 : Nat) : Int) := by
    rw [Int.natCast_sub h1]; simp
  rw [e]
  by_cases hm : PM.IsP l
  · rw [decide_eq_true hm, (PM.mask_full l h).2 hm]; simp
  · rw [decide_eq_false hm]
    have : PM.mask l ≠ 2 ^ l.length - 1 := fun he => hm ((PM.mask_full l h).1 he)
    simp only [beq_eq_false_iff_ne, ne_eq]
    omega
set_option maxHeartbeats 1000000 in
theorem implIsPerm_any (a : Option Addr) (cap : Nat) (l : List Int) (fp : List Nat) (w : World) (h : IntsA w a cap l fp) :
    Calls Try.prog 119 #[.slice a l.length cap] w fun e w' => e = .returned (.bool (permB l)) ∧ Drew w w' := by
  have hb := h.bound
  rcases hq : inR l.length 1 20
  · go_enter Try.func119, Try.ntmps119
    go_wp2_with (first | (go_at_call 56; (with_reducible refine (lengthInt_rd _ l fp _ h.rd).mono ?_); rintro e w ⟨rfl, rfl⟩) | (go_at_call 83; (with_reducible refine (within_any l.length 1 20 _).mono ?_); rintro e w ⟨rfl, rfl⟩))
    go_ret
    exact ⟨ret_bool (by unfold permB; rw [hq]; rfl), Drew.refl _⟩
  have hfin : permB l = decide (PM.IsP l) := by unfold permB; rw [hq]; rfl
  have Hfin := Lib.hid hfin; clear hfin
  obtain ⟨g1, g2⟩ := inR_iff.1 hq
  go_enter Try.func119, Try.ntmps119
  go_wp2_with (first | (go_at_call 56; (with_reducible refine (lengthInt_rd _ l fp _ h.rd).mono ?_); rintro e w ⟨rfl, rfl⟩) | (go_at_call 83; (with_reducible refine (within_any l.length 1 20 _).mono ?_); rintro e w ⟨rfl, rfl⟩))
  go_loopw [3, 12] (fun sn i wr => ∃ j : Nat, j ≤ l.length ∧ i = .int .i64 j ∧ sn = .int .i64 (PM.mask (l.take j) : Nat) ∧ (∀ x ∈ l.take j, 0 ≤ x ∧ x < l.length) ∧ Drew w wr)
    (fun _ i _ => l.length - (intOf i).toNat)
  case atStart => exact ⟨0, Nat.zero_le _, rfl, rfl, by simp, Drew.refl _⟩
  case round =>
    obtain ⟨j, hj, rfl, rfl, hr, k, rfl⟩ := hrel
    have Hr := Lib.hid hr; clear hr
    by_cases hlt : j < l.length
    · obtain ⟨b, off, ha, -, hc⟩ := h.at_ j hlt
      subst ha
      rcases c1 : inR l[j] 0 (l.length - 1)
      · go_wp2_with (first | (go_at_call 56; (with_reducible refine (lengthInt_rd _ l fp _ (Rp.keep h.rd (Only.ofDrewN _ _ _))).mono ?_); rintro e w1 ⟨rfl, rfl⟩) | (go_at_call 83; (with_reducible refine (within_any l[j] 0 (l.length - 1) _).mono ?_); rintro e w1 ⟨rfl, rfl⟩))
        go_ret
        exact ⟨ret_bool (by rw [Hfin.out, eq_comm, decide_eq_false_iff_not]; intro hp; have := hp.1 l[j] (List.getElem_mem _); rw [inR_not] at c1; omega), ⟨_, rfl⟩⟩
      have hx := inR_iff.1 c1
      have Hx := Lib.hid hx; clear hx
      have hx0 : 0 ≤ l[j] := Hx.out.1
      have hx1 : l[j] ≤ 19 := by have := Hx.out; omega
      have hm := or_step (PM.mask (l.take j)) (Nat.lt_of_lt_of_le (PM.mask_lt _ l.length Hr.out) (Nat.pow_le_pow_right (by decide) (by omega))) l[j] hx0 hx1
      have Hm := Lib.hid hm; clear hm
      go_wp2_with (first | (go_at_call 56; (with_reducible refine (lengthInt_rd _ l fp _ (Rp.keep h.rd (Only.ofDrewN _ _ _))).mono ?_); rintro e w1 ⟨rfl, rfl⟩) | (go_at_call 83; (with_reducible refine (within_any l[j] 0 (l.length - 1) _).mono ?_); rintro e w1 ⟨rfl, rfl⟩))
      refine ⟨⟨j + 1, by omega, by go_num, ?_, mem_take_step hlt Hr.out (by have := Hx.out; omega), ⟨_, rfl⟩⟩, by simp [intOf]; omega⟩
      rw [take_succ_get l j hlt, PM.mask_append, Hm.out]
    · go_wp2
      go_ret
      exact ⟨ret_bool (by have h1 := Hr.out; rw [List.take_of_length_le (by omega)] at h1 ⊢; rw [Hfin.out]; exact mask_end l h1 (by omega)), ⟨_, rfl⟩⟩
theorem implIsPerm_rd (v : Value) (l : List Int) (fp : List Nat) (w : World) (h : Rd w v l fp) :
    Calls Try.prog 119 #[v] w fun e w' => e = .returned (.bool (permB l)) ∧ Drew w w' := by
  obtain ⟨a, cap, rfl, hI⟩ := h.ints
  exact implIsPerm_any a cap l fp w hI
end Go.Proofs.Ytoinaidncncdhaa

namespace Go.Proofs.Ytoinaidncncdhaa
open Go.RowKit
set_option maxRecDepth 10000
end Go.Proofs.Ytoinaidncncdhaa

namespace Go.Proofs.Ytoinaidncncdhaa
open Go.RowKit
set_option maxRecDepth 10000
end Go.Proofs.Ytoinaidncncdhaa

namespace Go.Proofs.Ytoinaidncncdhaa
open Go.RowKit
set_option maxRecDepth 10000
end Go.Proofs.Ytoinaidncncdhaa

namespace Go.Proofs.Ytoinaidncncdhaa
open Go.RowKit
set_option maxRecDepth 10000

/-- v is a slice of int64s that the call owns (its block, if any, from B on), at whatever offset; it reads as l -/
def Que (e : TypeId) (B : Nat) (w : World) (v : Value) (l : List Int) : Prop :=
  (∀ x ∈ l, I64 x) ∧ ((v = .slice none 0 0 ∧ l = []) ∨
   ∃ g o cap cur, v = .slice (some ⟨g, o, none⟩) l.length cap ∧ B ≤ g ∧ w.heap[g]? = some (.cells cur e (0, 0)) ∧ l.length ≤ cap ∧ cap ≤ maxLen ∧ o + cap ≤ cur.size ∧ (cur.toList.drop o).take l.length = l.map (Value.int .i64))

section
variable {e : TypeId} {B : Nat} {w w' : World} {v : Value} {l : List Int}
theorem Que.lt (h : Que e B w v l) : ∀ g, v.ownBlock = some g → B ≤ g ∧ g < w.heap.size := by
  intro g hg
  rcases h.2 with ⟨rfl, -⟩ | ⟨g', o, cap, cur, rfl, hb, hh, -⟩
  · simp [Value.ownBlock] at hg
  · simp [Value.ownBlock] at hg; subst hg
    exact ⟨hb, (Array.getElem?_eq_some_iff.1 hh).1⟩
theorem Que.only (h : Que e B w v l) {fp : List Nat} (ho : Only fp w w') (hn : ∀ g, v.ownBlock = some g → g ∉ fp) : Que e B w' v l := by
  refine ⟨h.1, ?_⟩
  rcases h.2 with hz | ⟨g, o, cap, cur, rfl, hb, hh, hrest⟩
  · exact .inl hz
  · exact .inr ⟨g, o, cap, cur, rfl, hb, (ho.block g (Array.getElem?_eq_some_iff.1 hh).1 (hn g rfl)).trans hh, hrest⟩
theorem Que.keep (h : Que e B w v l) (ho : Only [] w w') : Que e B w' v l := h.only ho (by simp)
theorem Que.form (h : Que e B w v l) : ∃ a c, v = .slice a l.length c := by
  rcases h.2 with ⟨rfl, rfl⟩ | ⟨g, o, cap, cur, rfl, -⟩
  · exact ⟨none, 0, rfl⟩
  · exact ⟨_, _, rfl⟩
/-- a queue that is not empty: its first number, what is behind it -/
theorem Que.head {x : Int} (h : Que e B w v (x :: l)) : ∃ g o cap, v = .slice (some ⟨g, o, none⟩) (l.length + 1) cap ∧ l.length + 1 ≤ cap ∧ cap ≤ maxLen ∧ w.cell? ⟨g, o, none⟩ = some (.int .i64 x) := by
  rcases h.2 with ⟨-, h0⟩ | ⟨g, o, cap, cur, rfl, hb, hh, h1, h2, h3, h4⟩
  · cases h0
  · refine ⟨g, o, cap, by simp, by simpa using h1, h2, ?_⟩
    rw [cell_of_row w g o cur e (0, 0) hh]
    have := congrArg (fun L => L[0]?) h4
    simp at this
    simpa using this
end

section
variable {P : Program} (w : World)
end
section
variable {P : Program} {ops : Array Oper} {rest : List Oper} {o : Oper} {a : Act} {w : World} {Q : Exit → Act → World → Prop}
end
end Go.Proofs.Ytoinaidncncdhaa

namespace PM

/-- how many places of a row are filled -/
def cntR (n : Nat) (T : Rows) (k : Nat) : Nat := ((pts n).filter fun y => decide (tr T k y ≠ [])).length
theorem cntR_le (n : Nat) (T : Rows) (k : Nat) : cntR n T k ≤ n := by
  have := List.length_filter_le (fun y => decide (tr T k y ≠ [])) (pts n)
  rwa [pts_len] at this
theorem filter_more {α : Type} [DecidableEq α] {l : List α} {p q : α → Bool} {m : α} (hn : l.Nodup) (hm : m ∈ l) (hp : p m = false) (hq : q m = true) (ho : ∀ x, x ≠ m → q x = p x) :
    (l.filter q).length = (l.filter p).length + 1 := by
  induction l with
  | nil => cases hm
  | cons x l ih =>
    obtain ⟨h1, h2⟩ := List.nodup_cons.1 hn
    by_cases hx : x = m
    · subst hx
      have : l.filter q = l.filter p := List.filter_congr fun y hy => ho y fun e => h1 (e ▸ hy)
      simp [hp, hq, this]
    · have hm' : m ∈ l := by
        rcases List.mem_cons.1 hm with e | e
        · exact absurd e.symm hx
        · exact e
      have := ih h2 hm'
      simp only [List.filter_cons, ho x hx]
      split <;> simp [this]
theorem cntR_set {n k m : Nat} {T : Rows} (hk : k < T.length) (hm : m < (T.getD k []).length) (hmn : m < n) {p : List Int} (hp : p ≠ []) (h0 : tr T k (m : Int) = []) : cntR n (setT T k m p) k = cntR n T k + 1 := by
  have hl := fun y => tr_setT hk hm p k y
  refine filter_more (m := (m : Int)) (pts_nodup n) (mem_pts.2 (by omega)) (by simp [h0]) ?_ fun x hx => ?_
  · rw [hl, if_pos ⟨rfl, rfl⟩]; simpa using hp
  · rw [hl, if_neg (by simpa using hx)]

/-- a queue of points of row k, T0 the rows at the beginning: what is known is in the queue or has been treated -/
structure QS (n k : Nat) (G : Gens) (T0 T : Rows) (qs : List Int) (cur : Int → List (List Int)) : Prop where
  shape : Shape n G T
  base : Base n G T
  cpl : Cpl n (k + 1) G T
  grew : Grew n k G T0 G T
  rows : ∀ j y, j ≠ k → tr T j y = tr T0 j y
  nd : qs.Nodup
  mem : ∀ y ∈ qs, tr T k y ≠ []
  done : ∀ y g, tr T k y ≠ [] → (y ∉ qs → g ∈ lv G k) → (y ∈ qs → g ∈ cur y) → tr T k (at_ g y) ≠ []
theorem QS.len {n k : Nat} {G : Gens} {T0 T : Rows} {qs : List Int} {cur : Int → List (List Int)} (hk : k < n) (h : QS n k G T0 T qs cur) : qs.length ≤ n := by
  have := nodup_sub_len h.nd (l2 := pts n) (fun y hy => mem_pts.2 (row_rng hk h.base (h.mem y hy)))
  rwa [pts_len] at this
/-- what has been treated of the queue's head: its first i generators -/
def curA (L : List (List Int)) (y0 : Int) (i : Nat) : Int → List (List Int) := fun y => if y = y0 then L.take i else []
def cur0 : Int → List (List Int) := fun _ => []
theorem QS.start {n k : Nat} {G : Gens} {T : Rows} (hs : Shape n G T) (hB : Base n G T) (hC : Cpl n (k + 1) G T) {qs : List Int} (hn : qs.Nodup) (hq : ∀ y, y ∈ qs ↔ tr T k y ≠ []) : QS n k G T T qs cur0 :=
  ⟨hs, hB, hC, Grew.refl _ _ _ _, fun _ _ _ => rfl, hn, fun y hy => (hq y).1 hy, fun y g hy _ h2 => absurd (h2 ((hq y).2 hy)) (by simp [cur0])⟩
theorem QS.first {n k : Nat} {G : Gens} {T0 T : Rows} {y0 : Int} {qs : List Int} (h : QS n k G T0 T (y0 :: qs) cur0) : QS n k G T0 T (y0 :: qs) (curA (lv G k) y0 0) := by
  refine ⟨h.shape, h.base, h.cpl, h.grew, h.rows, h.nd, h.mem, fun y g hy h1 h2 => h.done y g hy h1 fun hm => ?_⟩
  have := h2 hm
  unfold curA at this; split at this
  · simp at this
  · cases this
theorem QS.more {n k : Nat} {G : Gens} {T0 T : Rows} {y0 : Int} {qs : List Int} {i : Nat} (hk : k < n) (hi : i < (lv G k).length) (h : QS n k G T0 T (y0 :: qs) (curA (lv G k) y0 i)) (ht : tr T k (at_ (lv G k)[i] y0) = []) :
    QS n k G T0 (setT T k (at_ (lv G k)[i] y0).toNat (comp (tr T k y0) (lv G k)[i])) (y0 :: (qs ++ [at_ (lv G k)[i] y0])) (curA (lv G k) y0 (i + 1)) ∧
    cntR n (setT T k (at_ (lv G k)[i] y0).toNat (comp (tr T k y0) (lv G k)[i])) k = cntR n T k + 1 := by
  have hy0 := h.mem y0 (by simp)
  have hg : (lv G k)[i] ∈ lv G k := List.getElem_mem hi
  obtain ⟨a1, a2, a3, a4⟩ := row_mul hk h.base hy0 hg
  have hr := row_rng hk h.base hy0
  have hgp := h.base.gpn k _ hk hg
  have hto := hgp.rng hr.1 hr.2
  have em : (((at_ (lv G k)[i] y0).toNat : Nat) : Int) = at_ (lv G k)[i] y0 := by omega
  have hmn : (at_ (lv G k)[i] y0).toNat < n := by omega
  obtain ⟨b1, b2, b3⟩ := step_row (m := (at_ (lv G k)[i] y0).toNat) h.shape hk h.base h.cpl a1 a2 a3 (by rw [a4, em]) hmn (by rw [em]; exact ht)
  have hl := fun j y => tr_setT (T := T) (k := k) (m := (at_ (lv G k)[i] y0).toNat) (by rw [h.shape.lt]; exact hk) (by rw [h.shape.lr k hk]; exact hmn) (comp (tr T k y0) (lv G k)[i]) j y
  refine ⟨⟨h.shape.setT _ _ _, b1, b2, h.grew.trans b3, fun j y hj => ?_, ?_, fun y hy => ?_, fun y g hy h1 h2 => ?_⟩, ?_⟩
  · rw [hl j y, if_neg (by simp [hj])]; exact h.rows j y hj
  · have e : y0 :: (qs ++ [at_ (lv G k)[i] y0]) = (y0 :: qs) ++ [at_ (lv G k)[i] y0] := by simp
    rw [e]
    refine List.nodup_append.2 ⟨h.nd, by simp, fun a ha b hb e => ?_⟩
    have : b = at_ (lv G k)[i] y0 := by simpa using hb
    subst this; subst e
    exact h.mem _ ha ht
  · rw [hl k y]
    split
    · exact a1.ne (by omega)
    · rename_i hne
      have : y ∈ y0 :: qs := by
        have e : y0 :: (qs ++ [at_ (lv G k)[i] y0]) = (y0 :: qs) ++ [at_ (lv G k)[i] y0] := by simp
        rw [e] at hy
        rcases List.mem_append.1 hy with h3 | h3
        · exact h3
        · have : y = at_ (lv G k)[i] y0 := by simpa using h3
          exact absurd ⟨rfl, by rw [em]; exact this⟩ hne
      exact h.mem y this
  · rw [hl k _]
    split
    · exact a1.ne (by omega)
    · rename_i hne
      rw [hl k y] at hy
      by_cases hyt : y = at_ (lv G k)[i] y0
      · -- the new point: it is in the queue, and nothing of it has been treated
        have hin : y ∈ y0 :: (qs ++ [at_ (lv G k)[i] y0]) := by simp [hyt]
        have h3 := h2 hin
        unfold curA at h3
        by_cases e : y = y0
        · exact absurd ht (by rw [← hyt, e]; exact hy0)
        · rw [if_neg e] at h3; cases h3
      · rw [if_neg (by rw [em]; simp [hyt])] at hy
        have hmem : y ∈ y0 :: (qs ++ [at_ (lv G k)[i] y0]) ↔ y ∈ y0 :: qs := by simp [hyt]
        refine h.done y g hy (fun hn => h1 fun hm => hn (hmem.1 hm)) fun hm => ?_
        have h3 := h2 (hmem.2 hm)
        unfold curA at h3 ⊢
        by_cases e : y = y0
        · rw [if_pos e] at h3 ⊢
          rw [List.take_succ_eq_append_getElem hi] at h3
          rcases List.mem_append.1 h3 with h4 | h4
          · exact h4
          · have : g = (lv G k)[i] := by simpa using h4
            subst this; subst e
            exact absurd ⟨rfl, em.symm⟩ hne
        · rw [if_neg e] at h3; cases h3
  · exact cntR_set (by rw [h.shape.lt]; exact hk) (by rw [h.shape.lr k hk]; exact hmn) hmn (a1.ne (by omega)) (by rw [em]; exact ht)
theorem QS.closed {n k : Nat} {G : Gens} {T0 T : Rows} (h : QS n k G T0 T [] cur0) : ∀ y g, tr T k y ≠ [] → g ∈ lv G k → tr T k (at_ g y) ≠ [] :=
  fun y g hy hg => h.done y g hy (fun _ => hg) fun h3 => by cases h3

/-- the products of row k with its generators, as far as they are known: T1 the rows at the beginning -/
structure PS (n k : Nat) (G1 : Gens) (T1 : Rows) (G : Gens) (T : Rows) (S : List Int → Prop) : Prop where
  shape : Shape n G T
  base : Base n G T
  cpl : Cpl n (k + 1) G T
  grew : Grew n (k + 1) G1 T1 G T
  ok : ∀ q, S q → Ok T n k q
theorem PS.lv {n k : Nat} {G1 : Gens} {T1 : Rows} {G : Gens} {T : Rows} {S : List Int → Prop} (h : PS n k G1 T1 G T S) : PM.lv G k = PM.lv G1 k := h.grew.low k (by omega)
theorem PS.tr {n k : Nat} {G1 : Gens} {T1 : Rows} {G : Gens} {T : Rows} {S : List Int → Prop} (h : PS n k G1 T1 G T S) (y : Int) : PM.tr T k y = PM.tr T1 k y := h.grew.lowT k y (by omega)
theorem PS.start {n k : Nat} {G : Gens} {T : Rows} (hs : Shape n G T) (hB : Base n G T) (hC : Cpl n (k + 1) G T) : PS n k G T G T (fun _ => False) :=
  ⟨hs, hB, hC, Grew.refl _ _ _ _, fun _ h => h.elim⟩
/-- one product more, by what the next level's making leaves -/
theorem PS.step {n k : Nat} {G1 : Gens} {T1 : Rows} {G G' : Gens} {T T' : Rows} {S : List Int → Prop} (h : PS n k G1 T1 G T S) {q : List Int} (hs : Shape n G' T') (hn : PM.tr T k (at_ q (k : Int)) ≠ []) (ha : Added n (k + 1) (res T k q) G T G' T') :
    PS n k G1 T1 G' T' (fun x => S x ∨ x = q) := by
  obtain ⟨a, b, c, d⟩ := ha.up hn
  refine ⟨hs, a, b, h.grew.trans c, fun x hx => ?_⟩
  rcases hx with hx | rfl
  · exact (h.ok x hx).mono c.ext
  · exact d

/-- how many places of the last m rows are filled -/
def sumM (n : Nat) (T : Rows) : Nat → Nat
  | 0 => 0
  | m + 1 => cntR n T (n - (m + 1)) + sumM n T m
theorem sumM_le (n : Nat) (T : Rows) : ∀ m, sumM n T m ≤ m * n := by
  intro m
  induction m with
  | zero => simp [sumM]
  | succ m ih =>
    have := cntR_le n T (n - (m + 1))
    simp only [sumM, Nat.succ_mul]; omega
theorem cntR_mono {n k : Nat} {T T' : Rows} (h : Ext T T') : cntR n T k ≤ cntR n T' k := by
  unfold cntR
  refine List.Sublist.length_le ?_
  have : (pts n).filter (fun y => decide (tr T k y ≠ [])) = ((pts n).filter fun y => decide (tr T' k y ≠ [])).filter fun y => decide (tr T k y ≠ []) := by
    rw [List.filter_filter]
    refine List.filter_congr fun y _ => ?_
    by_cases hy : tr T k y = []
    · simp [hy]
    · simp [h k y hy, hy]
  rw [this]; exact List.filter_sublist
theorem sumM_mono {n : Nat} {T T' : Rows} (h : Ext T T') : ∀ m, sumM n T m ≤ sumM n T' m := by
  intro m
  induction m with
  | zero => simp [sumM]
  | succ m ih => have := cntR_mono (n := n) (k := n - (m + 1)) h; simp only [sumM]; omega
theorem tr_out {n k : Nat} {G : Gens} {T : Rows} (hs : Shape n G T) (hk : k < n) {y : Int} (hy : ¬ (0 ≤ y ∧ y < n)) : tr T k y = [] := by
  unfold tr
  split
  · rfl
  · rw [List.getD_eq_getElem?_getD, List.getElem?_eq_none (by rw [hs.lr k hk]; omega)]; rfl
/-- rows of which no more places are filled are the same -/
theorem cntR_same {n k : Nat} {G G' : Gens} {T T' : Rows} (_hs : Shape n G T) (hs' : Shape n G' T') (hk : k < n) (h : Ext T T') (hc : cntR n T' k ≤ cntR n T k) : ∀ y, tr T' k y = tr T k y := by
  intro y
  by_cases hy : tr T k y = []
  · rw [hy]
    apply Classical.byContradiction
    intro hn
    have hyr : 0 ≤ y ∧ y < n := Classical.byContradiction fun hh => hn (tr_out hs' hk hh)
    have hsub : ((pts n).filter fun y => decide (tr T' k y ≠ [])) ⊆ (pts n).filter fun y => decide (tr T k y ≠ []) := by
      refine nodup_sub_all (List.Nodup.sublist List.filter_sublist (pts_nodup n)) (fun z hz => ?_) hc
      rw [List.mem_filter] at hz ⊢
      have hz2 : tr T k z ≠ [] := by simpa using hz.2
      exact ⟨hz.1, by rw [h k z hz2]; simpa using hz2⟩
    have := hsub (List.mem_filter.2 ⟨mem_pts.2 hyr, by simpa using hn⟩)
    rw [List.mem_filter] at this
    exact (by simpa using this.2 : tr T k y ≠ []) hy
  · exact h k y hy
theorem sumM_same {n : Nat} {G G' : Gens} {T T' : Rows} (hs : Shape n G T) (hs' : Shape n G' T') (h : Ext T T') : ∀ m, m ≤ n → sumM n T' m ≤ sumM n T m → ∀ j y, n - m ≤ j → j < n → tr T' j y = tr T j y := by
  intro m
  induction m with
  | zero => intro _ _ j y h1 h2; omega
  | succ m ih =>
    intro hm hc j y h1 h2
    simp only [sumM] at hc
    have c1 := cntR_mono (n := n) (k := n - (m + 1)) h
    have c2 := sumM_mono (n := n) h m
    by_cases hj : j = n - (m + 1)
    · subst hj; exact cntR_same hs hs' h2 h (by omega) y
    · exact ih (by omega) (by omega) j y (by omega) h2
theorem has_cong2 {T T' : Rows} {n m : Nat} (hm : m ≤ n) (h : ∀ j y, n - m ≤ j → j < n → tr T' j y = tr T j y) : ∀ p, has T n m p = has T' n m p := by
  induction m with
  | zero => intro p; rfl
  | succ m ih =>
    intro p
    simp only [has]
    rw [h _ _ (Nat.le_refl _) (by omega), ih (by omega) (fun j y h1 h2 => h j y (by omega) h2)]
theorem sumM_lt {n k : Nat} {G G' : Gens} {T T' : Rows} {p : List Int} (hs : Shape n G T) (hs' : Shape n G' T') (h : Ext T T') (h0 : has T n (n - k) p = false) (h1 : has T' n (n - k) p = true) : sumM n T (n - k) < sumM n T' (n - k) := by
  apply Classical.byContradiction
  intro hc
  have := has_cong2 (Nat.sub_le n k) (sumM_same hs hs' h (n - k) (Nat.sub_le n k) (by omega)) p
  rw [h0, h1] at this; cases this
/-- the levels from k on have few generators -/
def Ln (n k : Nat) (G : Gens) (T : Rows) : Prop := ∀ j, k ≤ j → j < n → (lv G j).length ≤ sumM n T (n - j)
theorem Ln.le {n k : Nat} {G : Gens} {T : Rows} (h : Ln n k G T) {j : Nat} (hj : k ≤ j) (hjn : j < n) (hn : n ≤ 20) : (lv G j).length ≤ 400 := by
  have h1 := h j hj hjn
  have h2 := sumM_le n T (n - j)
  have h3 : (n - j) * n ≤ 20 * 20 := Nat.mul_le_mul (by omega) hn
  omega
theorem Ln.mono {n k k' : Nat} {G : Gens} {T : Rows} (h : Ln n k G T) (hk : k ≤ k') : Ln n k' G T := fun j h1 h2 => h j (by omega) h2
theorem Ln.ext {n k : Nat} {G G' : Gens} {T T' : Rows} (h : Ln n k G T) (hG : ∀ j, k ≤ j → lv G' j = lv G j) (hT : Ext T T') : Ln n k G' T' := fun j h1 h2 => by
  rw [hG j h1]; exact Nat.le_trans (h j h1 h2) (sumM_mono hT _)
/-- one generator more, that was not known and is now -/
theorem Ln.more {n k : Nat} {G G' : Gens} {T T' : Rows} {p : List Int} (hs : Shape n G T) (hs' : Shape n G' T') (h : Ln n k G T) (h' : Ln n (k + 1) G' T') (he : Ext T T') (h0 : has T n (n - k) p = false) (h1 : has T' n (n - k) p = true)
    (hl : (lv G' k).length = (lv G k).length + 1) : Ln n k G' T' := fun j hj hjn => by
  by_cases e : j = k
  · subst e
    have := sumM_lt hs hs' he h0 h1
    have := h j (Nat.le_refl _) hjn
    omega
  · exact h' j (by omega) hjn
theorem Ln.zero (n : Nat) : Ln n 0 (G0 n) (T0 n) := fun j _ _ => by rw [lv_G0]; simp
end PM

namespace Go.Proofs.Ytoinaidncncdhaa
open Go.RowKit
set_option maxRecDepth 10000
/-- from w to w' a chain has been made further, levels below k untouched; f: what it was handed -/
structure Mv (L : Lay) (k : Nat) (gv gv' : Nat → Value) (M M' F F' f : List Nat) (w w' : World) : Prop where
  only : Only M w w'
  gvs : ∀ j, j < k → gv' j = gv j
  rows : ∀ j, j < k → w'.heap[L.rb j]? = w.heap[L.rb j]?
  m : ∀ b ∈ M', b ∈ M ∨ w.heap.size ≤ b
  m' : ∀ b ∈ M, b ∈ M'
  f : ∀ b ∈ F', b ∈ F ∨ b ∈ f ∨ w.heap.size ≤ b
  f' : ∀ b ∈ F, b ∈ F'
theorem Mv.refl (L : Lay) (k : Nat) (gv : Nat → Value) (M F f : List Nat) (w : World) : Mv L k gv gv M M F F f w w :=
  ⟨Only.refl _ _, fun _ _ => rfl, fun _ _ => rfl, fun _ h => .inl h, fun _ h => h, fun _ h => .inl h, fun _ h => h⟩
theorem Mv.keep {L : Lay} {k : Nat} {gv gv' : Nat → Value} {M M' F F' f : List Nat} {w w1 w' : World} (h : Mv L k gv gv' M M' F F' f w w1) (ho : Only [] w1 w') (hr : ∀ j, j < k → L.rb j < w.heap.size) : Mv L k gv gv' M M' F F' f w w' :=
  ⟨h.only.keepThen ho, h.gvs, fun j hj => (ho.block _ (Nat.lt_of_lt_of_le (hr j hj) h.only.size) (by simp)).trans (h.rows j hj), h.m, h.m', h.f, h.f'⟩
theorem Mv.before {L : Lay} {k : Nat} {gv gv' : Nat → Value} {M M' F F' f : List Nat} {w w1 w' : World} (ho : Only [] w w1) (h : Mv L k gv gv' M M' F F' f w1 w') (hr : ∀ j, j < k → L.rb j < w.heap.size) : Mv L k gv gv' M M' F F' f w w' :=
  ⟨(ho.weaken M).trans h.only, h.gvs, fun j hj => (h.rows j hj).trans (ho.block _ (hr j hj) (by simp)), fun b hb => (h.m b hb).imp id fun h1 => Nat.le_trans ho.size h1, h.m', fun b hb => (h.f b hb).imp id fun h1 => h1.imp id fun h2 => Nat.le_trans ho.size h2, h.f'⟩
theorem Mv.trans {L : Lay} {k : Nat} {gv gv1 gv' : Nat → Value} {M M1 M' F F1 F' f f1 : List Nat} {w w1 w' : World} (h : Mv L k gv gv1 M M1 F F1 f w w1) (h' : Mv L k gv1 gv' M1 M' F1 F' f1 w1 w')
    (hf : ∀ b ∈ f1, b ∈ F ∨ b ∈ f ∨ w.heap.size ≤ b) : Mv L k gv gv' M M' F F' f w w' := by
  refine ⟨h.only.then_ h'.only fun x hx hl => ?_, fun j hj => (h'.gvs j hj).trans (h.gvs j hj), fun j hj => (h'.rows j hj).trans (h.rows j hj), fun b hb => ?_, fun b hb => h'.m' b (h.m' b hb), fun b hb => ?_, fun b hb => h'.f' b (h.f' b hb)⟩
  · rcases h.m x hx with h1 | h1
    · exact h1
    · omega
  · rcases h'.m b hb with h1 | h1
    · exact h.m b h1
    · exact .inr (Nat.le_trans h.only.size h1)
  · rcases h'.f b hb with h1 | h1 | h1
    · exact h.f b h1
    · exact hf b h1
    · exact .inr (.inr (Nat.le_trans h.only.size h1))
theorem Mv.mono {L : Lay} {k k' : Nat} {gv gv' : Nat → Value} {M M' F F' f f1 : List Nat} {w w' : World} (h : Mv L k gv gv' M M' F F' f w w') (hk : k' ≤ k) (hf : ∀ b ∈ f, b ∈ F ∨ b ∈ f1 ∨ w.heap.size ≤ b) : Mv L k' gv gv' M M' F F' f1 w w' :=
  ⟨h.only, fun j hj => h.gvs j (by omega), fun j hj => h.rows j (by omega), h.m, h.m', fun b hb => by
    rcases h.f b hb with h1 | h1 | h1
    · exact .inl h1
    · exact hf b h1
    · exact .inr (.inr h1), h.f'⟩

/-- a chain with one permutation more at level k -/
def AddP (e : TypeId) (B : Nat) (L : Lay) (n k : Nat) (p : List Int) (G : PM.Gens) (T : PM.Rows) (M F f : List Nat) (gv : Nat → Value) (w w' : World) : Prop :=
  ∃ gv' G' T' M' F', Ch e B w' L gv' n G' T' M' F' ∧ PM.Added n k p G T G' T' ∧ PM.Ln n k G' T' ∧ Mv L k gv gv' M M' F F' f w w'

section
variable {e : TypeId} {B : Nat} {w w' : World} {L : Lay} {gv : Nat → Value} {n : Nat} {G : PM.Gens} {T : PM.Rows} {M F : List Nat}
open Classical in
/-- how many places of a row are filled, by memory -/
noncomputable def fillW (w : World) (b n : Nat) : Nat := ((PM.pts n).filter fun y => decide (w.cell? ⟨b, y.toNat, none⟩ ≠ some (.slice none 0 0))).length
theorem Ch.fill (h : Ch e B w L gv n G T M F) {k : Nat} (hk : k < n) : fillW w (L.rb k) n = PM.cntR n T k := by
  unfold fillW PM.cntR
  congr 1
  refine List.filter_congr fun y hy => ?_
  obtain ⟨h0, h1⟩ := PM.mem_pts.1 hy
  by_cases ht : PM.tr T k y = []
  · rw [h.at_nil hk h0 h1 ht]; simp [ht]
  · obtain ⟨b, off, cap, f, hc, -, -⟩ := h.at_some hk h0 h1 ht
    rw [hc]; simp [ht]
def lenV : Value → Nat
  | .slice _ n _ => n
  | _ => 0
theorem Que.lenV {v : Value} {l : List Int} {e : TypeId} {B : Nat} {w : World} (h : Que e B w v l) : lenV v = l.length := by
  obtain ⟨a, c, rfl⟩ := h.form
  rfl
end

/-- the queue's loop: row k is filled, as QS says -/
def LQ (eG eI : TypeId) (B Bq : Nat) (L : Lay) (gv : Nat → Value) (n k : Nat) (G : PM.Gens) (T : PM.Rows) (M F : List Nat) (wb : World) (qs : List Int) (cur : Int → List (List Int)) (c0 : Nat) (s : Value) (wr : World) : Prop :=
  ∃ T' F', PM.QS n k G T T' qs cur ∧ Ch eG B wr L gv n G T' M F' ∧ Que eI Bq wr s qs ∧ (∀ g, s.ownBlock = some g → g ∉ F') ∧ (n - PM.cntR n T' k) + qs.length ≤ c0 ∧ Only M wb wr ∧ (∀ b ∈ F', b ∈ F ∨ wb.heap.size ≤ b) ∧ (∀ b ∈ F, b ∈ F') ∧ (∀ j, j < k → wr.heap[L.rb j]? = wb.heap[L.rb j]?)
section
variable {eG eI : TypeId} {B Bq : Nat} {L : Lay} {gv : Nat → Value} {n k : Nat} {G : PM.Gens} {T : PM.Rows} {M F : List Nat} {wb wr : World} {y0 : Int} {qs : List Int} {j c0 : Nat} {s : Value}
theorem LQ.first {c1 : Nat} (h : LQ eG eI B Bq L gv n k G T M F wb (y0 :: qs) PM.cur0 c1 s wr) (hk : k < n) : LQ eG eI B Bq L gv n k G T M F wb (y0 :: qs) (PM.curA (PM.lv G k) y0 0) ((n - fillW wr (L.rb k) n) + lenV s) s wr := by
  obtain ⟨T', F', hQ, hC, hq, hqF, hc, hO, hF1, hF2, hr⟩ := h
  exact ⟨T', F', hQ.first, hC, hq, hqF, by rw [hC.fill hk, hq.lenV]; exact Nat.le_refl _, hO, hF1, hF2, hr⟩
theorem LQ.more {T' : PM.Rows} {F' : List Nat} (hC : Ch eG B wr L gv n G T' M F') (hQ : PM.QS n k G T T' (y0 :: qs) (PM.curA (PM.lv G k) y0 j))
    (hq : Que eI Bq wr s (y0 :: qs)) (hqF : ∀ g, s.ownBlock = some g → g ∉ F') (hc : (n - PM.cntR n T' k) + (y0 :: qs).length ≤ c0) (hO : Only M wb wr) (hF1 : ∀ b ∈ F', b ∈ F ∨ wb.heap.size ≤ b) (hF2 : ∀ b ∈ F, b ∈ F') (hr : ∀ j, j < k → wr.heap[L.rb j]? = wb.heap[L.rb j]?)
    (hk : k < n) (hMb : ∀ b ∈ M, b < wb.heap.size) (hBq : wb.heap.size ≤ Bq) (hj : j < (PM.lv G k).length) (ht : PM.tr T' k (PM.at_ (PM.lv G k)[j] y0) = [])
    {w4 w5 : World} {v4 v5 : Value} {f4 : List Nat} {o : Obj} (r4 : Rd w4 v4 (PM.comp (PM.tr T' k y0) (PM.lv G k)[j]) f4) (F4 : Fresh wr.heap.size w4 f4) (t4 : Only [] wr w4)
    (hq5 : Que eI Bq w5 v5 ((y0 :: qs) ++ [PM.at_ (PM.lv G k)[j] y0])) (hO5 : Only s.ownBlock.toList ((w4.setCell ⟨L.rb k, (PM.at_ (PM.lv G k)[j] y0).toNat, none⟩ v4).alloc o) w5)
    (hb5 : v5.ownBlock = s.ownBlock ∨ v5.ownBlock = some ((w4.setCell ⟨L.rb k, (PM.at_ (PM.lv G k)[j] y0).toNat, none⟩ v4).alloc o).heap.size) :
    LQ eG eI B Bq L gv n k G T M F wb (y0 :: (qs ++ [PM.at_ (PM.lv G k)[j] y0])) (PM.curA (PM.lv G k) y0 (j + 1)) c0 v5 w5 := by
  obtain ⟨q1, q2⟩ := hQ.more hk hj ht
  have hy0 := hQ.mem y0 (by simp)
  have hg : (PM.lv G k)[j] ∈ PM.lv G k := List.getElem_mem hj
  have hr0 := PM.row_rng hk hQ.base hy0
  have hto := (hQ.base.gpn k _ hk hg).rng hr0.1 hr0.2
  have hne : PM.comp (PM.tr T' k y0) (PM.lv G k)[j] ≠ [] := (PM.row_mul hk hQ.base hy0 hg).1.ne (by omega)
  have hrM := hC.mr k hk
  have hCr := (hC.keep t4).setRow hk (m := (PM.at_ (PM.lv G k)[j] y0).toNat) (by omega) r4 hne (fun b hb hm => by have := F4.ge b hb; have := hC.lM b hm; omega)
  have hst := setCell_only w4 (L.rb k) (PM.at_ (PM.lv G k)[j] y0).toNat v4
  have hs4 : wr.heap.size ≤ w4.heap.size := t4.size
  have hs5 : (w4.setCell ⟨L.rb k, (PM.at_ (PM.lv G k)[j] y0).toNat, none⟩ v4).heap.size = w4.heap.size := by simp [World.setCell]
  have hsM : ∀ b ∈ s.ownBlock.toList, b ∉ M := fun b hb hm => by
    have := (hq.lt b (by simpa using hb)).1; have := hMb b hm; omega
  have hsF : ∀ b ∈ s.ownBlock.toList, b ∉ F' ++ f4 := fun b hb hm => by
    rcases List.mem_append.1 hm with hm | hm
    · exact hqF b (by simpa using hb) hm
    · have := (hq.lt b (by simpa using hb)).2; have := F4.ge b hm; omega
  have hC5 := (hCr.keep ((Only.refl [] _).alloc o)).only hO5 hsM hsF
  have hOA : Only M wb ((w4.setCell ⟨L.rb k, (PM.at_ (PM.lv G k)[j] y0).toNat, none⟩ v4).alloc o) := (((hO.keepThen t4).setCell (fun _ => hrM) _).alloc o)
  have hO' : Only M wb w5 := hOA.then_ hO5 (fun b hb hl => by
    have := (hq.lt b (by simpa using hb)).1; omega)
  refine ⟨_, F' ++ f4, q1, hC5, hq5, fun g hg' hm => ?_, ?_, hO', fun b hb => ?_, fun b hb => List.mem_append_left _ (hF2 b hb), fun i hi => ?_⟩
  · rcases hb5 with e | e
    · rw [e] at hg'; exact hsF g (by simpa using hg') hm
    · rw [e] at hg'
      have e2 : g = ((w4.setCell ⟨L.rb k, (PM.at_ (PM.lv G k)[j] y0).toNat, none⟩ v4).alloc o).heap.size := by simpa [eq_comm] using hg'
      have e3 : ((w4.setCell ⟨L.rb k, (PM.at_ (PM.lv G k)[j] y0).toNat, none⟩ v4).alloc o).heap.size = w4.heap.size + 1 := by simp [World.setCell]
      rcases List.mem_append.1 hm with hm | hm
      · have := hC.lF g hm; omega
      · have := F4.lt g hm; omega
  · rw [q2]
    have := PM.cntR_le n (PM.setT T' k (PM.at_ (PM.lv G k)[j] y0).toNat (PM.comp (PM.tr T' k y0) (PM.lv G k)[j])) k
    rw [q2] at this
    simp only [List.length_cons, List.length_append, List.length_nil] at hc ⊢
    omega
  · rcases List.mem_append.1 hb with hb | hb
    · exact hF1 b hb
    · have := F4.ge b hb; have := hO.size; exact .inr (by omega)
  · have hin : i < n := by omega
    have hl : L.rb i < wr.heap.size := hC.lM _ (hC.mr i hin)
    have e1 := t4.block _ hl (by simp)
    have e2 := hst.block (L.rb i) (by omega) (by
      intro hm
      have : L.rb i = L.rb k := by simpa using hm
      have := hC.rr i k hin hk this; omega)
    have e3 := ((Only.refl [] (w4.setCell ⟨L.rb k, (PM.at_ (PM.lv G k)[j] y0).toNat, none⟩ v4)).alloc o).block (L.rb i) (by rw [hs5]; omega) (by simp)
    have e4 := hO5.block (L.rb i) (by have := ((Only.refl [] (w4.setCell ⟨L.rb k, (PM.at_ (PM.lv G k)[j] y0).toNat, none⟩ v4)).alloc o).size; omega) (fun hm => hsM _ hm (hC.mr i hin))
    exact e4.trans (e3.trans (e2.trans (e1.trans (hr i hi))))
end

/-- the products of a row's points with the level's generators, as far as they have been treated -/
def SP (T : PM.Rows) (k : Nat) (ys : List Int) (L : List (List Int)) (i j : Nat) (q : List Int) : Prop :=
  (∃ y ∈ ys.take i, ∃ g ∈ L, q = PM.comp (PM.tr T k y) g) ∨ (∃ y, ys[i]? = some y ∧ ∃ g ∈ L.take j, q = PM.comp (PM.tr T k y) g)
theorem SP.zero {T : PM.Rows} {k : Nat} {ys : List Int} {L : List (List Int)} {q : List Int} (h : SP T k ys L 0 0 q) : False := by
  rcases h with ⟨y, hy, -⟩ | ⟨y, -, g, hg, -⟩
  · simp at hy
  · simp at hg
theorem SP.succ {T : PM.Rows} {k : Nat} {ys : List Int} {L : List (List Int)} {i j : Nat} {q : List Int} {y0 : Int} (hi : ys[i]? = some y0) (hj : j < L.length) (h : SP T k ys L i (j + 1) q) : SP T k ys L i j q ∨ q = PM.comp (PM.tr T k y0) L[j] := by
  rcases h with h | ⟨y, hy, g, hg, rfl⟩
  · exact .inl (.inl h)
  · rw [List.take_succ_eq_append_getElem hj] at hg
    rw [hi] at hy; injection hy with hy; subst hy
    rcases List.mem_append.1 hg with hg | hg
    · exact .inl (.inr ⟨_, hi, g, hg, rfl⟩)
    · have : g = L[j] := by simpa using hg
      subst this; exact .inr rfl
theorem SP.next {T : PM.Rows} {k : Nat} {ys : List Int} {L : List (List Int)} {i j : Nat} {q : List Int} (hj : L.length ≤ j) (h : SP T k ys L (i + 1) 0 q) : SP T k ys L i j q := by
  rcases h with ⟨y, hy, g, hg, rfl⟩ | ⟨y, -, g, hg, -⟩
  · rw [List.mem_take_iff_getElem] at hy
    obtain ⟨m, hm, rfl⟩ := hy
    by_cases hmi : m < i
    · exact .inl ⟨_, List.mem_take_iff_getElem.2 ⟨m, by omega, rfl⟩, g, hg, rfl⟩
    · have : m = i := by omega
      subst this
      exact .inr ⟨_, List.getElem?_eq_getElem (by omega), g, by rw [List.take_of_length_le hj]; exact hg, rfl⟩
  · simp at hg
theorem SP.all {T : PM.Rows} {k : Nat} {ys : List Int} {L : List (List Int)} {i j : Nat} (hi : ys.length ≤ i) {y : Int} (hy : y ∈ ys) {g : List Int} (hg : g ∈ L) : SP T k ys L i j (PM.comp (PM.tr T k y) g) :=
  .inl ⟨y, by rw [List.take_of_length_le hi]; exact hy, g, hg, rfl⟩

/-- the products' loops: the products S are known; the row and the level's generators stand -/
def LP (e : TypeId) (B : Nat) (L : Lay) (gv1 : Nat → Value) (n k : Nat) (G1 : PM.Gens) (T1 : PM.Rows) (M1 F1 : List Nat) (W : World) (S : List Int → Prop) (wr : World) : Prop :=
  ∃ gv' G' T' M' F', Ch e B wr L gv' n G' T' M' F' ∧ PM.PS n k G1 T1 G' T' S ∧ PM.Ln n (k + 1) G' T' ∧ Mv L (k + 1) gv1 gv' M1 M' F1 F' [] W wr
section
variable {e : TypeId} {B : Nat} {L : Lay} {gv gv1 gv' : Nat → Value} {n k : Nat} {G G1 G' : PM.Gens} {T T1 T' : PM.Rows} {M M1 M' F F0 F1 F' f : List Nat} {w W2 W wr : World} {S : List Int → Prop}
theorem LP.start (hC : Ch e B W L gv1 n G1 T1 M1 F1) (hB : PM.Base n G1 T1) (hCp : PM.Cpl n (k + 1) G1 T1) (hL : PM.Ln n (k + 1) G1 T1) : LP e B L gv1 n k G1 T1 M1 F1 W (fun _ => False) W :=
  ⟨gv1, G1, T1, M1, F1, hC, PM.PS.start hC.shape hB hCp, hL, Mv.refl _ _ _ _ _ _ _⟩
theorem LP.keep {w' : World} (hk : k < n) (h : LP e B L gv1 n k G1 T1 M1 F1 W S wr) (hr : ∀ j, j < n → L.rb j < W.heap.size) (ho : Only [] wr w') : LP e B L gv1 n k G1 T1 M1 F1 W S w' := by
  obtain ⟨a, b, c, d, f, h1, h2, h3, h4⟩ := h
  exact ⟨a, b, c, d, f, h1.keep ho, h2, h3, h4.keep ho fun j hj => hr j (by omega)⟩
theorem LP.step (hk : k < n) (hC : Ch e B wr L gv' n G' T' M' F') (hP : PM.PS n k G1 T1 G' T' S) (hM : Mv L (k + 1) gv1 gv' M1 M' F1 F' [] W wr) {q : List Int} (hn : PM.tr T' k (PM.at_ q (k : Int)) ≠ [])
    {w3 w4 : World} (t : Only [] wr w3) {fp : List Nat} (hf : ∀ b ∈ fp, wr.heap.size ≤ b) (ha : AddP e B L n (k + 1) (PM.res T' k q) G' T' M' F' fp gv' w3 w4) : LP e B L gv1 n k G1 T1 M1 F1 W (fun x => S x ∨ x = q) w4 := by
  obtain ⟨gv2, G2, T2, M2, F2, hC2, hA, hL, hMv⟩ := ha
  exact ⟨gv2, G2, T2, M2, F2, hC2, hP.step hC2.shape hn hA, hL, hM.trans (Mv.before t hMv fun j hj => hC.lM _ (hC.mr j (by omega))) fun b hb => .inr (.inr (Nat.le_trans hM.only.size (hf b hb)))⟩
/-- what is added next: the product of the row's permutation with a generator, divided -/
theorem LP.may (hk : k < n) (hP : PM.PS n k G1 T1 G' T' S) (hcl : ∀ y g, PM.tr T1 k y ≠ [] → g ∈ PM.lv G1 k → PM.tr T1 k (PM.at_ g y) ≠ []) {y : Int} {g : List Int} (hy : PM.tr T1 k y ≠ []) (hg : g ∈ PM.lv G1 k) :
    PM.tr T' k (PM.at_ (PM.comp (PM.tr T1 k y) g) (k : Int)) ≠ [] ∧ PM.May n (k + 1) (PM.res T' k (PM.comp (PM.tr T1 k y) g)) G' ∧
    PM.res T' k (PM.comp (PM.tr T1 k y) g) = PM.comp (PM.comp (PM.tr T1 k y) g) (PM.inv (PM.tr T1 k (PM.at_ g y))) := by
  have hy' : PM.tr T' k y ≠ [] := by rw [hP.tr]; exact hy
  have hg' : g ∈ PM.lv G' k := by rw [hP.lv]; exact hg
  obtain ⟨a1, a2, a3, a4⟩ := PM.row_mul hk hP.base hy' hg'
  rw [hP.tr] at a1 a2 a3 a4
  have hn : PM.tr T' k (PM.at_ (PM.comp (PM.tr T1 k y) g) (k : Int)) ≠ [] := by rw [a4, hP.tr]; exact hcl y g hy hg
  refine ⟨hn, PM.step_res hk hP.base a1 a2 a3 hn, ?_⟩
  unfold PM.res
  rw [a4, hP.tr]
end
end Go.Proofs.Ytoinaidncncdhaa

namespace Go.Proofs.Ytoinaidncncdhaa
open Go.RowKit
set_option maxRecDepth 10000

class MkL (α : Type) [Mk α] : Prop where
  idem : ∀ (k : Int) (x : α), Mk.mark k (Mk.mark k x) = Mk.mark k x
  cnt : ∀ (k : Int) (x : α), Mk.cnt (Mk.mark k x) = Mk.cnt x
instance : MkL Int := ⟨fun _ _ => rfl, fun _ _ => rfl⟩
theorem markL_cnt {α : Type} [Mk α] [MkL α] (k : Int) (l : List α) : cntL (markL k l) = cntL l := by
  induction l generalizing k with
  | nil => rfl
  | cons x l ih => simp [markL, cntL, ih, MkL.cnt]
theorem markL_idem {α : Type} [Mk α] [MkL α] (k : Int) (l : List α) : markL k (markL k l) = markL k l := by
  induction l generalizing k with
  | nil => rfl
  | cons x l ih => simp [markL, ih, MkL.cnt, MkL.idem]
instance {α : Type} [Mk α] [MkL α] : MkL (List α) := ⟨markL_idem, markL_cnt⟩
/-- how many numbers there are, against the size that the laws reckon -/
class CntSz (α : Type) [Mk α] [Sz α] : Prop where
  le : ∀ x : α, Mk.cnt x ≤ Sz.sz x
instance : CntSz (List Int) := ⟨fun l => by simp [Mk.cnt, cntL_ints, Sz.sz]⟩
theorem cntL_szL {α : Type} [Mk α] [Sz α] [CntSz α] (l : List α) : cntL l ≤ szL l := by
  induction l with
  | nil => simp [cntL]
  | cons x l ih => have := CntSz.le x; simp only [cntL, szL]; omega
instance {α : Type} [Mk α] [Sz α] [CntSz α] : CntSz (List α) := ⟨fun l => by have := cntL_szL l; show cntL l ≤ l.length + szL l; omega⟩

theorem and_of {a b : Prop} (h : a) (k : a → b) : a ∧ b := ⟨h, k h⟩
/-- block g holds just the cells cs -/
def Blk (w : World) (g : Nat) (cs : List Value) : Prop := ∃ t, w.heap[g]? = some (.cells cs.toArray t (0, 0))
theorem Blk.lt {w : World} {g : Nat} {cs : List Value} (h : Blk w g cs) : g < w.heap.size := by
  obtain ⟨t, h⟩ := h; exact (Array.getElem?_eq_some_iff.1 h).1
theorem Blk.new (w : World) (cs : List Value) (t : TypeId) : Blk (w.alloc (.cells cs.toArray t)) w.heap.size cs := ⟨t, heap_alloc_new w _⟩
theorem Blk.new_at {w : World} {cs : List Value} {t : TypeId} {g : Nat} (h : g = w.heap.size) : Blk (w.alloc (.cells cs.toArray t)) g cs := by subst h; exact Blk.new _ _ _
theorem Blk.only {w w' : World} {g : Nat} {cs : List Value} {fp : List Nat} (h : Blk w g cs) (ho : Only fp w w') (hn : g ∉ fp) : Blk w' g cs := by
  have := h.lt
  obtain ⟨t, h⟩ := h; exact ⟨t, (ho.block g this hn).trans h⟩
theorem Blk.keep {w w' : World} {g : Nat} {cs : List Value} (h : Blk w g cs) (ho : Only [] w w') : Blk w' g cs := h.only ho (by simp)
theorem Blk.cell {w : World} {g : Nat} {cs : List Value} (h : Blk w g cs) (i : Nat) {v : Value} (hv : cs[i]? = some v) : w.cell? ⟨g, i, none⟩ = some v := by
  obtain ⟨t, h⟩ := h
  rw [cell_of_row w g i _ t (0, 0) h]; simpa using hv
end Go.Proofs.Ytoinaidncncdhaa

namespace Go.Proofs.Ytoinaidncncdhaa
open Go.RowKit
set_option maxRecDepth 10000

/-- the first cut: a generator more -/
def A1 (e : TypeId) (B : Nat) (L : Lay) (gv : Nat → Value) (n k : Nat) (p : List Int) (G : PM.Gens) (T : PM.Rows) (M F f : List Nat) (w wx : World) : Prop :=
  ∃ a9 c9 M1 F1, Ch e B wx L (upd gv k (.slice a9 ((PM.lv G k).length + 1) c9)) n (G.set k (PM.lv G k ++ [p])) T M1 F1 ∧ Mv L k gv (upd gv k (.slice a9 ((PM.lv G k).length + 1) c9)) M M1 F F1 f w wx
theorem A1.of {e : TypeId} {B : Nat} {L : Lay} {gv : Nat → Value} {n k : Nat} {p : List Int} {G : PM.Gens} {T : PM.Rows} {M F f : List Nat} {w w1 w8 w9 : World} (hC1 : Ch e B w1 L gv n G T M F) (h1 : Only [] w w1) (hk : k < n) (h8 : Only [] w1 w8)
    (hO : Only (gv k).ownBlock.toList w8 w9) {a9 : Option Addr} {n9 c9 : Nat} {fs : List (List Nat)} (hA : Acc B e w9 (.slice a9 n9 c9) (PM.lv G k ++ [p]) fs) (hfs : ∀ b ∈ fs.flatten, b ∈ F ∨ b ∈ f) (hf : ∀ b ∈ f, b ∉ M ∧ b < w.heap.size)
    (hb : (Value.slice a9 n9 c9).ownBlock = (gv k).ownBlock ∨ (Value.slice a9 n9 c9).ownBlock = some w8.heap.size) (hr : ∀ j, j < k → L.rb j < w.heap.size) : A1 e B L gv n k p G T M F f w (w9.setCell ⟨L.bg, k, none⟩ (.slice a9 n9 c9)) := by
  have hn9 : n9 = (PM.lv G k).length + 1 := by
    obtain ⟨a, c, hh⟩ := hA.form
    injection hh with _ h2 _
    rw [h2]; simp
  subst hn9
  have hC8 := hC1.keep h8
  have hs8 : w.heap.size ≤ w8.heap.size := Nat.le_trans h1.size h8.size
  have hgen := hC8.setGen hk hO hA (f := f) hfs (fun b hb => ⟨(hf b hb).1, Nat.lt_of_lt_of_le (hf b hb).2 hs8⟩) hb
  have hW : Only M w (w9.setCell ⟨L.bg, k, none⟩ (.slice a9 ((PM.lv G k).length + 1) c9)) :=
    ((((h1.trans h8).weaken M).trans (hO.mono fun b hb _ => hC1.ma k b hk (by simpa using hb))).setCell (fun _ => hC1.mg) _)
  refine ⟨a9, c9, _, _, hgen, hW, fun j hj => upd_other _ _ (by omega), fun j hj => ?_, fun b hb' => ?_, fun b hb' => List.mem_append_right _ hb', fun b hb' => ?_, fun b hb' => List.mem_append_left _ hb'⟩
  · have hjn : j < n := by omega
    have e1 := (h1.trans h8).block (L.rb j) (hr j hj) (by simp)
    have e2 := hO.block (L.rb j) (Nat.lt_of_lt_of_le (hr j hj) hs8) (fun hm => (hC1.ag k _ hk (by simpa using hm)).2 j hjn rfl)
    have e3 := (setCell_only w9 L.bg k (.slice a9 ((PM.lv G k).length + 1) c9)).block (L.rb j) (Nat.lt_of_lt_of_le (Nat.lt_of_lt_of_le (hr j hj) hs8) hO.size) (by simpa using hC1.rg j hjn)
    exact e3.trans (e2.trans e1)
  · rcases List.mem_append.1 hb' with h | h
    · rcases hb with e | e
      · rw [e] at h; exact .inl (hC1.ma k b hk (by simpa using h))
      · rw [e] at h; exact .inr (by have : b = w8.heap.size := by simpa [eq_comm] using h
                                    omega)
    · exact .inl h
  · rcases List.mem_append.1 hb' with h | h
    · exact .inl h
    · exact .inr (.inl h)
end Go.Proofs.Ytoinaidncncdhaa

namespace PM

theorem has_one {n : Nat} {T : Rows} (hw : WF n T) : ∀ m, m ≤ n → has T n m (pts n) = true := by
  intro m
  induction m with
  | zero => intro _; rfl
  | succ m ih =>
    intro hm
    have e : at_ (pts n) ((n - (m + 1) : Nat) : Int) = ((n - (m + 1) : Nat) : Int) := at_pts (by omega) (by omega)
    have e2 := hw.one (n - (m + 1)) (by omega)
    simp only [has]
    rw [e, e2, if_neg (pts_ne (by omega)), comp_inv (PN.id n)]
    exact ih (by omega)

/-- the products of the new entries of row k with the generators L are known -/
def New (n k : Nat) (L : List (List Int)) (T T' : Rows) : Prop := ∀ y g, tr T k y = [] → tr T' k y ≠ [] → g ∈ L → Ok T' n k (comp (tr T' k y) g)
theorem New.refl (n k : Nat) (L : List (List Int)) (T : Rows) : New n k L T T := fun _ _ h h' _ => absurd h h'
theorem New.trans {n k : Nat} {L : List (List Int)} {T T1 T2 : Rows} (h : New n k L T T1) (he : Ext T1 T2) (h' : New n k L T1 T2) : New n k L T T2 := fun y g h0 h2 hg => by
  by_cases h1 : tr T1 k y = []
  · exact h' y g h1 h2 hg
  · rw [he k y h1]; exact (h y g h0 h1 hg).mono he
theorem New.same {n k : Nat} {L : List (List Int)} {T T' : Rows} (h : ∀ y, tr T' k y = tr T k y) : New n k L T T' := fun y _ h0 h1 _ => absurd (by rw [h]; exact h0) h1

/-- what the treatment of a product q leaves -/
structure Prod (n k : Nat) (q : List Int) (G : Gens) (T : Rows) (G' : Gens) (T' : Rows) : Prop where
  base : Base n G' T'
  cpl : Cpl n (k + 1) G' T'
  grew : Grew n k G T G' T'
  lvk : lv G' k = lv G k
  ok : Ok T' n k q
  new : New n k (lv G k) T T'
/-- products Ps treated one after the other, the first j of them done -/
structure PL (n k : Nat) (G1 : Gens) (T1 : Rows) (Ps : List (List Int)) (j : Nat) (G' : Gens) (T' : Rows) : Prop where
  base : Base n G' T'
  cpl : Cpl n (k + 1) G' T'
  grew : Grew n k G1 T1 G' T'
  lvk : lv G' k = lv G1 k
  oks : ∀ q ∈ Ps.take j, Ok T' n k q
  new : New n k (lv G1 k) T1 T'
theorem PL.start {n k : Nat} {G : Gens} {T : Rows} (hB : Base n G T) (hC : Cpl n (k + 1) G T) (Ps : List (List Int)) : PL n k G T Ps 0 G T :=
  ⟨hB, hC, Grew.refl _ _ _ _, rfl, fun q hq => by simp at hq, New.refl _ _ _ _⟩
theorem PL.step {n k : Nat} {G1 G' G2 : Gens} {T1 T' T2 : Rows} {Ps : List (List Int)} {j : Nat} (h : PL n k G1 T1 Ps j G' T') (hj : j < Ps.length) (hp : Prod n k Ps[j] G' T' G2 T2) : PL n k G1 T1 Ps (j + 1) G2 T2 := by
  refine ⟨hp.base, hp.cpl, h.grew.trans hp.grew, hp.lvk.trans h.lvk, fun q hq => ?_, h.new.trans hp.grew.ext ?_⟩
  · rw [List.take_succ_eq_append_getElem hj] at hq
    rcases List.mem_append.1 hq with hq | hq
    · exact (h.oks q hq).mono hp.grew.ext
    · have : q = Ps[j] := by simpa using hq
      subst this; exact hp.ok
  · have := hp.new
    rwa [h.lvk] at this
/-- a product that is a new entry of the row: its own products have been treated -/
theorem Prod.fresh {n k : Nat} {G G' : Gens} {T T' : Rows} {q : List Int} {m : Nat} {j : Nat} (hs : Shape n G T) (hk : k < n) (hB : Base n G T) (hC : Cpl n (k + 1) G T) (hq : PN n q) (hf : Fix k q) (hg : Grp n (lv G k) q)
    (hm : at_ q (k : Int) = (m : Int)) (hmn : m < n) (h0 : tr T k (m : Int) = []) (hj : ((lv G k).map (comp q)).length ≤ j) (h : PL n k G (setT T k m q) ((lv G k).map (comp q)) j G' T') : Prod n k q G T G' T' := by
  obtain ⟨-, -, g3⟩ := step_row hs hk hB hC hq hf hg hm hmn h0
  have hl := fun j y => tr_setT (T := T) (k := k) (m := m) (by rw [hs.lt]; exact hk) (by rw [hs.lr k hk]; exact hmn) q j y
  have hne : q ≠ [] := hq.ne (by omega)
  have e1 : tr (setT T k m q) k (m : Int) = q := by rw [hl, if_pos ⟨rfl, rfl⟩]
  have e2 : tr T' k (m : Int) = q := by rw [h.grew.ext k _ (by rw [e1]; exact hne), e1]
  refine ⟨h.base, h.cpl, g3.trans h.grew, h.lvk, ⟨by rw [hm, e2]; exact hne, ?_⟩, fun y g hy hy' hgg => ?_⟩
  · unfold res
    rw [hm, e2, comp_inv hq]
    exact has_one h.base.wf _ (by omega)
  · by_cases hym : y = (m : Int)
    · subst hym
      rw [e2]
      exact h.oks _ (by rw [List.take_of_length_le hj]; exact List.mem_map_of_mem hgg)
    · exact h.new y g (by rw [hl, if_neg (by simp [hym])]; exact hy) hy' hgg
end PM

namespace Go.Proofs.Ytoinaidncncdhaa
open Go.RowKit
set_option maxRecDepth 10000


/-- a product treated -/
def PrP (e : TypeId) (B : Nat) (L : Lay) (n k : Nat) (q : List Int) (G : PM.Gens) (T : PM.Rows) (M F f : List Nat) (gv : Nat → Value) (w w' : World) : Prop :=
  ∃ gv' G' T' M' F', Ch e B w' L gv' n G' T' M' F' ∧ PM.Prod n k q G T G' T' ∧ PM.Ln n (k + 1) G' T' ∧ Mv L k gv gv' M M' F F' f w w'
/-- the products Ps treated, the first j of them -/
def PLp (e : TypeId) (B : Nat) (L : Lay) (gv1 : Nat → Value) (n k : Nat) (G1 : PM.Gens) (T1 : PM.Rows) (M1 F1 : List Nat) (W : World) (Ps : List (List Int)) (j : Nat) (wr : World) : Prop :=
  ∃ gv' G' T' M' F', Ch e B wr L gv' n G' T' M' F' ∧ PM.PL n k G1 T1 Ps j G' T' ∧ PM.Ln n (k + 1) G' T' ∧ Mv L k gv1 gv' M1 M' F1 F' [] W wr
section
variable {e : TypeId} {B : Nat} {L : Lay} {gv gv1 gv' : Nat → Value} {n k : Nat} {G G1 G' : PM.Gens} {T T1 T' : PM.Rows} {M M1 M' F F0 F1 F' f : List Nat} {w W2 W wr : World} {Ps : List (List Int)} {j : Nat}
theorem PLp.start (hC : Ch e B W L gv1 n G1 T1 M1 F1) (hB : PM.Base n G1 T1) (hCp : PM.Cpl n (k + 1) G1 T1) (hL : PM.Ln n (k + 1) G1 T1) (Ps : List (List Int)) : PLp e B L gv1 n k G1 T1 M1 F1 W Ps 0 W :=
  ⟨gv1, G1, T1, M1, F1, hC, PM.PL.start hB hCp Ps, hL, Mv.refl _ _ _ _ _ _ _⟩
theorem PLp.step (hk : k < n) (hC : Ch e B wr L gv' n G' T' M' F') (hP : PM.PL n k G1 T1 Ps j G' T') (hM : Mv L k gv1 gv' M1 M' F1 F' [] W wr) (hj : j < Ps.length)
    {w3 w4 : World} (t : Only [] wr w3) {fp : List Nat} (hf : ∀ b ∈ fp, wr.heap.size ≤ b) (ha : PrP e B L n k Ps[j] G' T' M' F' fp gv' w3 w4) : PLp e B L gv1 n k G1 T1 M1 F1 W Ps (j + 1) w4 := by
  obtain ⟨gv2, G2, T2, M2, F2, hC2, hA, hL, hMv⟩ := ha
  exact ⟨gv2, G2, T2, M2, F2, hC2, hP.step hj hA, hL, hM.trans (Mv.before t hMv fun i hi => hC.lM _ (hC.mr i (by omega))) fun b hb => .inr (.inr (Nat.le_trans hM.only.size (hf b hb)))⟩
/-- the second cut: a new entry of the row -/
def A2 (e : TypeId) (B : Nat) (L : Lay) (gv : Nat → Value) (n k m : Nat) (q : List Int) (G : PM.Gens) (T : PM.Rows) (M F f : List Nat) (w wx : World) : Prop :=
  Ch e B wx L gv n G (PM.setT T k m q) M (F ++ f) ∧ Mv L k gv gv M M F (F ++ f) f w wx
theorem A2.of {m : Nat} {q : List Int} {v : Value} {f : List Nat} (hk : k < n) (hC : Ch e B w L gv n G T M F) {w1 : World} (t : Only [] w w1) (hm : m < n) (hv : Rd w v q f) (hq : q ≠ []) (hf : ∀ b ∈ f, b ∉ M) :
    A2 e B L gv n k m q G T M F f w (w1.setCell ⟨L.rb k, m, none⟩ v) := by
  refine ⟨(hC.keep t).setRow hk hm (Rp.keep hv t) hq hf, ((t.weaken M).setCell (fun _ => hC.mr k hk) _), fun _ _ => rfl, fun i hi => ?_, fun _ h => .inl h, fun _ h => h, fun b hb => (List.mem_append.1 hb).imp id .inl, fun b hb => List.mem_append_left _ hb⟩
  have h1 := t.block (L.rb i) (hC.lM _ (hC.mr i (by omega))) (by simp)
  have h2 := (setCell_only w1 (L.rb k) m v).block (L.rb i) (Nat.lt_of_lt_of_le (hC.lM _ (hC.mr i (by omega))) t.size) (by
    intro h
    have h3 : L.rb i = L.rb k := by simpa using h
    have := hC.rr i k (by omega) hk h3
    omega)
  exact h2.trans h1
end
end Go.Proofs.Ytoinaidncncdhaa

namespace Go.Proofs.Ytoinaidncncdhaa
open Go.RowKit
set_option maxRecDepth 10000

structure Table where
  tracked : List Int
  patterns : List (List Int)
  distances : List Int

instance : Rp Table where
  size := 3
  rep w cs x fp := ∃ v0 v1 v2 f0 f1 f2, cs = [v0] ++ [v1] ++ [v2] ∧ fp = f0 ++ (f1 ++ f2) ∧ Rd w v0 x.tracked f0 ∧ Rd w v1 x.patterns f1 ∧ Rd w v2 x.distances f2
  len h := by
    obtain ⟨v0, v1, v2, f0, f1, f2, rfl, -, h0, h1, h2⟩ := h
    rfl
  frame h hf := by
    obtain ⟨v0, v1, v2, f0, f1, f2, hcs, rfl, h0, h1, h2⟩ := h
    exact ⟨v0, v1, v2, f0, f1, f2, hcs, rfl, Rp.frame h0 fun b hb => hf b (by simp [hb]), Rp.frame h1 fun b hb => hf b (by simp [hb]), Rp.frame h2 fun b hb => hf b (by simp [hb])⟩
  lt h := by
    obtain ⟨v0, v1, v2, f0, f1, f2, hcs, rfl, h0, h1, h2⟩ := h
    intro b hb
    simp only [List.mem_append] at hb
    rcases hb with hb | hb | hb
    · exact Rp.lt h0 b hb
    · exact Rp.lt h1 b hb
    · exact Rp.lt h2 b hb

instance : Mk Table where
  mark k x := ⟨Mk.mark (k) x.tracked, Mk.mark (k + (Mk.cnt x.tracked : Nat)) x.patterns, Mk.mark (k + (Mk.cnt x.tracked : Nat) + (Mk.cnt x.patterns : Nat)) x.distances⟩
  cnt x := Mk.cnt x.tracked + Mk.cnt x.patterns + Mk.cnt x.distances
instance : Sz Table where
  sz x := Sz.sz x.tracked + Sz.sz x.patterns + Sz.sz x.distances
instance : Sm Table where
  sm x := Sm.sm x.tracked ∧ Sm.sm x.patterns ∧ Sm.sm x.distances
instance : SzSm Table := ⟨fun x h => by
  have h' : Sz.sz x.tracked + Sz.sz x.patterns + Sz.sz x.distances ≤ 2097152 := h
  exact ⟨SzSm.of_ _ (by omega), SzSm.of_ _ (by omega), SzSm.of_ _ (by omega)⟩⟩
instance : CntSz Table := ⟨fun x => by
  have h' : Mk.cnt x.tracked + Mk.cnt x.patterns + Mk.cnt x.distances ≤ Sz.sz x.tracked + Sz.sz x.patterns + Sz.sz x.distances := by have := CntSz.le x.tracked; have := CntSz.le x.patterns; have := CntSz.le x.distances; omega
  exact h'⟩
instance : MkL Table := ⟨fun k x => by simp [Mk.mark, Mk.cnt, markL_idem, markL_cnt], fun k x => by simp [Mk.mark, Mk.cnt, markL_cnt]⟩
end Go.Proofs.Ytoinaidncncdhaa


namespace Go.Proofs.Ytoinaidncncdhaa
open Go.RowKit
set_option maxRecDepth 10000

theorem SeqA.at3 {w : World} {a : Option Addr} {cap : Nat} {xs : List Table} {ob : List Nat} {fps : List (List Nat)} (h : SeqA w a cap xs ob fps) (k : Nat) (hk : k < xs.length) :
    ∃ b off v1 v2 v3, a = some ⟨b, off, none⟩ ∧ ob = [b] ∧ w.cell? ⟨b, off + k * 3, none⟩ = some v1 ∧ w.cell? ⟨b, off + k * 3 + 1, none⟩ = some v2 ∧ w.cell? ⟨b, off + k * 3 + 2, none⟩ = some v3 ∧ Rp.rep w [v1, v2, v3] xs[k] (fps[k]'(by rw [h.nf]; exact hk)) := by
  obtain ⟨b, off, cs, ha, hob, hc, hr⟩ := h.at_ k hk
  have hl := Rp.len hr
  match cs, hl with
  | [v1, v2, v3], _ => exact ⟨b, off, v1, v2, v3, ha, hob, hc 0 v1 rfl, hc 1 v2 rfl, hc 2 v3 rfl, hr⟩





/-- the first elements of a list whose elements take several cells, read one by one -/
structure ReadsC {α : Type} [Rp α] (w : World) (B : Nat) (css : List (List Value)) (xs : List α) (fps : List (List Nat)) : Prop where
  vl : css.length = xs.length
  fl : fps.length = xs.length
  at_ : ∀ k (h1 : k < css.length) (h2 : k < xs.length) (h3 : k < fps.length), Rp.rep w css[k] xs[k] fps[k]
  fresh : Fresh B w fps.flatten
section
variable {α : Type} [Rp α] {w w' : World} {B : Nat} {css : List (List Value)} {xs : List α} {fps : List (List Nat)}
theorem ReadsC.nil (w : World) (B : Nat) : ReadsC w B [] ([] : List α) [] := ⟨rfl, rfl, by simp, Fresh.nil _ _⟩
theorem ReadsC.only {fp : List Nat} (h : ReadsC w B css xs fps) (ho : Only fp w w') (hd : ∀ b ∈ fp, b < B ∨ w.heap.size ≤ b) : ReadsC w' B css xs fps :=
  ⟨h.vl, h.fl, fun k h1 h2 h3 => Rp.only (h.at_ k h1 h2 h3) ho (fun b hb hm => by
      have h4 := h.fresh.ge b (mem_flatten_get h3 hb); have h5 := h.fresh.lt b (mem_flatten_get h3 hb); have := hd b hm; omega),
    h.fresh.only ho (fun b hb hm => by have h4 := h.fresh.ge b hb; have h5 := h.fresh.lt b hb; have := hd b hm; omega)⟩
end
theorem set3 (L : List Value) (n j : Nat) (z a b c : Value) (h : j < n) (hl : L.length = j * 3) :
    (((L ++ List.replicate ((n - j) * 3) z).set (j * 3) a).set (j * 3 + 1) b).set (j * 3 + 2) c = (L ++ [a, b, c]) ++ List.replicate ((n - (j + 1)) * 3) z := by
  have h2 : (n - j) * 3 = (n - (j + 1)) * 3 + 1 + 1 + 1 := by omega
  rw [h2, List.replicate_succ, List.replicate_succ, List.replicate_succ]
  rw [List.set_append_right _ _ (by omega), List.set_append_right _ _ (by omega), List.set_append_right _ _ (by omega)]
  have e0 : j * 3 - L.length = 0 := by omega
  have e1 : j * 3 + 1 - L.length = 1 := by omega
  have e2 : j * 3 + 2 - L.length = 2 := by omega
  rw [e0, e1, e2]
  simp only [List.set, List.append_assoc, List.cons_append, List.nil_append]

end Go.Proofs.Ytoinaidncncdhaa


namespace Go.Proofs.Ytoinaidncncdhaa
open Go.RowKit
set_option maxRecDepth 10000
set_option maxHeartbeats 1000000 in
theorem copyLists_acc (a : Option Addr) (cap : Nat) (l : List (List Int)) (ob : List Nat) (fps : List (List Nat)) (w : World) (h : SeqA w a cap l ob fps) (hl : l.length ≤ 2097152) (hl2 : ∀ x ∈ l, x.length ≤ 2097152) :
    Calls Try.prog 34 #[.slice a l.length cap] w fun e w' => ∃ v fs, e = .returned v ∧ Acc w.heap.size 31 w' v l fs ∧ Fresh w.heap.size w' fs.flatten ∧ Only [] w w' := by
  obtain ⟨i0, hi, hz0, hz1, hz2⟩ := info_parts Try.info22
  have hb := h.bound
  go_enter Try.func34, Try.ntmps34
  go_wp2
  go_loopw [3, 4] (fun o i wr => ∃ (j : Nat) (fs : List (List Nat)), j ≤ l.length ∧ i = .int .i64 j ∧ Acc w.heap.size 31 wr o (l.take j) fs ∧ Fresh w.heap.size wr fs.flatten ∧ Only [] w wr)
    (fun _ i _ => l.length - (intOf i).toNat)
  case atStart => exact ⟨0, [], Nat.zero_le _, rfl, Acc.made w w.heap.size _ rfl (Nat.le_refl _), Fresh.nil _ _, (Only.refl _ _).alloc _⟩
  case round =>
    obtain ⟨j, fs, hj, rfl, hA, hF, hK⟩ := hrel
    by_cases hlt : j < l.length
    · obtain ⟨b, off, v, rfl, -, hc0, hv0⟩ := h.atRow j hlt
      have hc := hK.cell (by simp) hc0
      have hv := Rp.keep hv0 hK
      have hlen := hl2 l[j] (List.getElem_mem _)
      have hsz := hK.size
      have hlj : (l.take j).length + 1 ≤ 1073741824 := by simp; omega
      go_wp2_with (first
        | (go_at_call 33; refine (copyInts_rd v l[j] _ _ hv (by omega)).mono ?_; rintro e w2 ⟨v2, fp2, rfl, hv2, hF2, hK2⟩; have hq := hv2.open_; obtain ⟨a2, c2, _, _, rfl, -⟩ := hq)
        | (at_builtin; refine wpList_pushF rfl _ _ 27 rfl w.heap.size 31 i0 _ 24 Try.underlying27 hi hz0 hz1 hz2 rfl (by decide) (by decide) wr _ (l.take j) fs rfl hA hF (hK2.alloc _) hsz w2.heap.size 1 [.slice a2 l[j].length c2] l[j] fp2 rfl (lit_src w2 [.slice a2 l[j].length c2] _ rfl) (by intro u hu; simp at hu; subst hu; rfl) (Rp.keep hv2 ((Only.refl _ _).alloc _)) (hF2.keep ((Only.refl _ _).alloc _)) hlj w ((hK.trans hK2).alloc _) (Nat.le_refl _) ?_; intro v3 w3 hA3 hF3 hK3 _))
      go_roundw
      case rel => exact ⟨j + 1, _, by omega, by go_num, by rw [take_succ_get l j hlt]; exact hA3, hF3, hK3⟩
      case measure => simp [intOf]; omega
    · have hjl : j = l.length := by omega
      rw [hjl, List.take_length] at hA
      have HA := Lib.hid hA
      clear hjl hA
      go_wp2
      go_ret
      exact ⟨_, _, rfl, HA.out, hF, hK⟩
theorem copyLists_any (a : Option Addr) (cap : Nat) (l : List (List Int)) (ob : List Nat) (fps : List (List Nat)) (w : World) (h : SeqA w a cap l ob fps) (hl : l.length ≤ 2097152) (hl2 : ∀ x ∈ l, x.length ≤ 2097152) :
    Calls Try.prog 34 #[.slice a l.length cap] w fun e w' => ∃ v fp', e = .returned v ∧ Rd w' v l fp' ∧ Fresh w.heap.size w' fp' ∧ Only [] w w' :=
  (copyLists_acc a cap l ob fps w h hl hl2).mono fun _ _ ⟨v, _, he, hA, hF, hK⟩ => ⟨v, _, he, hA.rd (by decide), hA.fresh hF, hK⟩
theorem copyLists_rd (v : Value) (l : List (List Int)) (fp : List Nat) (w : World) (h : Rd w v l fp) (hl : l.length ≤ 2097152) (hl2 : ∀ x ∈ l, x.length ≤ 2097152) :
    Calls Try.prog 34 #[v] w fun e w' => ∃ v fp', e = .returned v ∧ Rd w' v l fp' ∧ Fresh w.heap.size w' fp' ∧ Only [] w w' := by
  obtain ⟨a, cap, ob, fps, rfl, -, hs⟩ := h.open_
  exact copyLists_any a cap l ob fps w hs hl hl2



end Go.Proofs.Ytoinaidncncdhaa
