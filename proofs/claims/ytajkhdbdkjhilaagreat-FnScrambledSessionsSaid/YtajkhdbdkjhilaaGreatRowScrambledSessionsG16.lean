/- The reference's drawn words: drawWord, drawAnyWord (laws 45, 50, 55, 59). The checksum of a string: both builds. Texts of the reference: parseInt (the draws of puzzles; laws 45, 50, 55 ..). (Printed by mktxt.py.) Texts of the reference: splitText (the draws of puzzles; laws 45, 50, 55 ..). Texts of the reference: parseCycle (the draws of puzzles; laws 45, 50, 55 ..). Claim: plain data, how it lies in memory, the law's own comparison. laws.toClaim: a claim of the laws' own turned to the program's; sizes of claims. The reference's formatInt (laws 2, 4): the decimal numeral. The reference's formatInt (laws 2, 4): its walk. The cycles of a permutation; its cycle type (laws 32, 44; the notation of cycles). All members of a chain, level by level, are the members of the ranks in their order (laws 32, 36, 44). All members of a chain are the members of the ranks (laws 32, 36, 44). The program's memberAt: the member of a rank (laws 33, 34, ..). The reference's allMembers and Members; the program's members and Members (laws 32, 36, 44). The reference's cycles of a permutation: cycleOf, isSmallest, allCycles, CycleType (laws 32, 44; the notation of cycles). -/
import Derived.Test.YtajkhdbdkjhilaaGreatRowScrambledSessionsG14
import Derived.Test.YtajkhdbdkjhilaaGreatRowScrambledSessionsG8
import Derived.Test.YtajkhdbdkjhilaaGreatRowScrambledSessionsG10
import Derived.Test.YtajkhdbdkjhilaaGreatRowScrambledSessionsG1
import Derived.Deep.AppendLies
import Derived.Test.YtajkhdbdkjhilaaGreatRowScrambledSessionsG11
import Derived.Deep.RegionHeld3
import Derived.Test.YtajkhdbdkjhilaaGreatRowScrambledSessionsG3
import Derived.Deep.RegionLaw
import Derived.Test.YtajkhdbdkjhilaaGreatRowScrambledSessionsG6
import Derived.Lib.ItoaMem
import Derived.Lib.Strings
import Derived.Lib.ItoaLen
import Derived.Test.YtajkhdbdkjhilaaGreatRowScrambledSessionsG2
import Derived.Test.YtajkhdbdkjhilaaGreatRowScrambledSessionsG13
import Derived.Test.YtajkhdbdkjhilaaGreatRowScrambledSessionsG12
import Derived.Deep.QuietTactic
import Derived.Test.YtajkhdbdkjhilaaGreatRowScrambledSessionsG4
namespace Go.Proofs.YtajkhdbdkjhilaaGreat
open Go.RowKit
set_option maxRecDepth 10000

set_option maxHeartbeats 4000000 in
theorem drawWord_any (g : Nat) (fc : List Nat) (l : List UInt8) (m : Int) (w : World) (h : Src w g fc l) (hl : l.length ≤ 4096) (hm : m ≤ 1000) :
    Calls Tryz.prog 27 #[.pointer (some ⟨g, 0, none⟩), .int .i64 m] w fun e w' => ∃ v p, e = .returned v ∧ AccI w.heap.size 2 w' v p ∧ p.length ≤ 7 ∧ Src w' g fc l ∧ Only [g] w w' := by
  obtain ⟨i0, hi, hz0, hz1, hz2⟩ := info_parts Tryz.info2
  have hg := h.lt
  have hfc : ∀ b ∈ fc, b < w.heap.size := by obtain ⟨_, _, _, _, _, _, _, h4, _⟩ := h; exact fun b hb => Rp.lt h4 b hb
  have hA0 := AccI.made w w.heap.size 2 rfl (Nat.le_refl _)
  have ho : Only [] w (w.alloc (.cells #[] 2)) := (Only.refl _ _).alloc _
  go_enter Tryz.func27, Tryz.ntmps27
  go_wp2_with (first
    | (go_at_call 52; (with_reducible refine (srcBelow_any g fc l 7 _ (h.keep ho) hl (by omega)).mono ?_); rintro e w1 ⟨k, rfl, k0, k7, D1, K1⟩)
    | fail "no arm")
  have A1 := hA0.only K1 (fun q hq hm => by
    have e : w.heap.size = q := by simpa [Value.ownBlock] using hq
    simp at hm
    omega)
  have K1' : Only [g] w w1 := (ho.weaken [g]).trans K1
  have hk7 : k ≤ 7 := by omega
  clear hA0 K1 ho k7
  go_loopw [5, 6] (fun o x wr => ∃ (k : Int) (p : List Int), 0 ≤ k ∧ x = .int .i64 k ∧ (p.length : Int) + k ≤ 7 ∧ AccI w.heap.size 2 wr o p ∧ Src wr g fc l ∧ Only [g] w wr)
    (fun _ x _ => (intOf x).toNat)
  case atStart => exact ⟨k, [], k0, rfl, by simpa using hk7, A1, D1, K1'⟩
  case round =>
    obtain ⟨W2, hnew⟩ : ∃ W, W = wr := ⟨_, rfl⟩
    subst hnew
    clear A1 D1 K1' k0 hk7
    obtain ⟨k, p, k0, rfl, hpk, hA, hD, hO⟩ := hrel
    have hsz := hO.size
    by_cases hgo : 0 < k ∧ 0 < m
    · obtain ⟨h1, h2⟩ := hgo
      have hw : IntKind.i64.wrap (k - 1) = k - 1 := by rw [IntKind.wrap_i64]; omega
      have hlen : p.length + 1 ≤ 1073741824 := by omega
      have Hown := Lib.hid (show ∀ q, u5.ownBlock = some q → q ∉ [g] from fun q hq hm => by have := hA.ownlt q hq; simp at hm; omega)
      have Hol := Lib.hid (show ∀ b ∈ u5.ownBlock.toList, w.heap.size ≤ b from fun b hb => (hA.ownlt b (by simpa using hb)).1)
      go_wp2_with (first
        | (go_at_call 52; (with_reducible refine (srcBelow_any g fc l m W2 hD hl (by omega)).mono ?_); rintro e w4 ⟨r, rfl, r0, r1, D4, K4⟩; have hr1 : r < m := (by omega); have hw1 : IntKind.i64.wrap (1 + r) = 1 + r := (by rw [IntKind.wrap_i64]; omega))
        | (go_at_call 25; (with_reducible refine (oneIn_any g fc l 2 w4 D4 hl (by omega)).mono ?_); rintro e w5 ⟨b5, rfl, D5, K5⟩; have K25 := K4.trans K5; have A5 := hA.only K25 Hown.out; have hw2 : IntKind.i64.wrap (-(1 + r)) = -(1 + r) := (by rw [IntKind.wrap_i64]; omega); have hb5 : w.heap.size ≤ w5.heap.size := Nat.le_trans hsz K25.size)
        | (at_builtin; refine wpList_pushI rfl _ _ 27 rfl w.heap.size 2 i0 _ Tryz.underlying27 hi hz0 hz1 hz2 rfl w5 _ p rfl A5 ((Only.refl _ _).alloc _) hb5 w5.heap.size 1 _ rfl (lit1 w5 _ _ rfl) ?hn hlen ?_; (case hn => (unfold I64; omega)); intro v9 w9 hA9 hO9 hP9 hN9; have kal := (Only.refl [] w5).alloc (.cells #[] 2))
        | fail "no arm")
      all_goals go_roundw
      all_goals first
        | exact ⟨k - 1, _, by omega, rfl, by rw [List.length_append, List.length_singleton]; omega, hA9, (D5.keep ((Only.refl _ _).alloc _)).only hO9 (fun hm => by have := Hol.out g hm; omega) (fun b hb hm => by have h1 := hfc b hb; have h2 := Hol.out b hm; omega), ((hO.trans K25).alloc _).then_ hO9 (fun b hb hl => by have := Hol.out b hb; omega)⟩
        | (simp [intOf]; omega)
    · have hend : ¬ (0 < k) ∨ (0 < k ∧ ¬ (0 < m)) := by omega
      clear hgo
      rcases hend with h1 | ⟨h0, h1⟩
      all_goals go_wp2
      all_goals go_ret
      all_goals exact ⟨_, rfl, p, hA, by omega, hD, hO⟩
set_option maxHeartbeats 8000000 in
theorem drawAnyWord_any (g : Nat) (fc : List Nat) (l : List UInt8) (w : World) (h : Src w g fc l) (hl : l.length ≤ 4096) :
    Calls Tryz.prog 26 #[.pointer (some ⟨g, 0, none⟩)] w fun e w' => ∃ v p, e = .returned v ∧ AccI w.heap.size 2 w' v p ∧ p.length ≤ 300 ∧ Src w' g fc l ∧ Only [g] w w' := by
  obtain ⟨i0, hi, hz0, hz1, hz2⟩ := info_parts Tryz.info2
  have hg := h.lt
  have hfc : ∀ b ∈ fc, b < w.heap.size := by obtain ⟨_, _, _, _, _, _, _, h4, _⟩ := h; exact fun b hb => Rp.lt h4 b hb
  go_enter Tryz.func26, Tryz.ntmps26
  go_wp2_with (first
    | (go_at_call 27; (with_reducible refine (drawWord_any g fc l 3 w h hl (by omega)).mono ?_); rintro e w1 ⟨v1, p, rfl, A1, p7, D1, K1⟩; have Hown := Lib.hid (show ∀ q, v1.ownBlock = some q → q ∉ [g] from fun q hq hm => by have := A1.ownlt q hq; simp at hm; omega); have Hol := Lib.hid (show ∀ b ∈ v1.ownBlock.toList, w.heap.size ≤ b from fun b hb => (A1.ownlt b (by simpa using hb)).1); have hlen : p.length + 1 ≤ 1073741824 := (by omega))
    | (go_at_call 25; (with_reducible refine (oneIn_any g fc l 12 w1 D1 hl (by omega)).mono ?_); rintro e w2 ⟨b2, rfl, D2, K2⟩)
    | (go_at_call 52; (with_reducible refine (srcBelow_any g fc l 3 w2 D2 hl (by omega)).mono ?_); rintro e w4 ⟨r, rfl, r0, r1, D4, K4⟩)
    | (go_at_call 51; (with_reducible refine (extremeInt_any g fc l w4 D4 hl).mono ?_); rintro e w5 ⟨y, rfl, hy, D5, K5⟩; have hyI := Lib.hid hy; clear hy; have K25 := K2.trans (K4.trans K5); have A5 := A1.only K25 Hown.out; have hb5 : w.heap.size ≤ w5.heap.size := Nat.le_trans K1.size K25.size)
    | (go_at_call 67; (with_reducible refine (between_rng g fc l (-9) 9 w4 D4 hl (by omega) (by omega) (by omega)).mono ?_); rintro e w5 ⟨y, rfl, y0, y1, D5, K5⟩; have hyI := Lib.hid (show I64 y by unfold I64; omega); have K25 := K2.trans (K4.trans K5); have A5 := A1.only K25 Hown.out; have hb5 : w.heap.size ≤ w5.heap.size := Nat.le_trans K1.size K25.size)
    | (at_builtin; refine wpList_pushI rfl _ _ 27 rfl w.heap.size 2 i0 _ Tryz.underlying27 hi hz0 hz1 hz2 rfl w5 _ p rfl A5 ((Only.refl _ _).alloc _) hb5 w5.heap.size 1 _ rfl (lit1 w5 _ _ rfl) hyI.out hlen ?_; intro v9 w9 hA9 hO9 hP9 hN9)
    | fail "no arm")
  all_goals try (go_ret; exact ⟨_, _, rfl, hA9, by rw [List.length_append, List.length_singleton]; omega, (D5.keep ((Only.refl _ _).alloc _)).only hO9 (fun hm => by have := Hol.out g hm; omega) (fun b hb hm => by have h1 := hfc b hb; have h2 := Hol.out b hm; omega), ((K1.trans K25).alloc _).then_ hO9 (fun b hb hl => by have := Hol.out b hb; omega)⟩)
  all_goals try (go_ret; exact ⟨_, _, rfl, A1.only K2 Hown.out, by omega, D2, K1.trans K2⟩)
  all_goals try (go_ret; exact ⟨_, _, rfl, A1.only (K2.trans K4) Hown.out, by omega, D4, K1.trans (K2.trans K4)⟩)
  obtain rfl : r = 2 := by first | assumption | omega | simp_all
  have e0 : ((2 : Int) == 0) = false := rfl
  have e1 : ((2 : Int) == 1) = false := rfl
  have e2 : ((2 : Int) == 2) = true := rfl
  simp only [e0, e1, e2]
  clear e0 e1 e2
  have A4 := A1.only (K2.trans K4) Hown.out
  have K14 := K1.trans (K2.trans K4)
  clear Hown Hol A1 hlen
  go_loopw [3] (fun o wr => ∃ (p : List Int), p.length ≤ 300 ∧ AccI w.heap.size 2 wr o p ∧ Src wr g fc l ∧ Only [g] w wr)
    (fun o _ => 300 - lenV o)
  case atStart => exact ⟨p, by omega, A4, D4, K14⟩
  case round =>
    obtain ⟨W2, hnew⟩ : ∃ W, W = wr := ⟨_, rfl⟩
    subst hnew
    clear A4 D4 K14 p7
    obtain ⟨p, hp3, hA, hD, hO⟩ := hrel
    obtain ⟨a5, c5, rfl⟩ := hA.form
    have hsz := hO.size
    have Hown := Lib.hid (show ∀ q, (Value.slice a5 p.length c5).ownBlock = some q → q ∉ [g] from fun q hq hm => by have := hA.ownlt q hq; simp at hm; omega)
    have Hol := Lib.hid (show ∀ b ∈ (Value.slice a5 p.length c5).ownBlock.toList, w.heap.size ≤ b from fun b hb => (hA.ownlt b (by simpa using hb)).1)
    have hlen : p.length + 1 ≤ 1073741824 := by omega
    go_wp2_with (first
      | (go_at_call 67; (with_reducible refine (between_rng g fc l (-1) 1 W2 hD hl (by omega) (by omega) (by omega)).mono ?_); rintro e w4 ⟨r, rfl, r0, r1, D4, K4⟩; have hw1 : IntKind.i64.wrap (200 + r) = 200 + r := (by rw [IntKind.wrap_i64]; omega))
      | (go_at_call 52; (with_reducible refine (srcBelow_any g fc l 2 w4 D4 hl (by omega)).mono ?_); rintro e w5 ⟨y, rfl, y0, y1, D5, K5⟩; have K25 := K4.trans K5; have A5 := hA.only K25 Hown.out; have hb5 : w.heap.size ≤ w5.heap.size := Nat.le_trans hsz K25.size; have hw2 : IntKind.i64.wrap (1 + y) = 1 + y := (by rw [IntKind.wrap_i64]; omega); have hyI := Lib.hid (show I64 (1 + y) by unfold I64; omega))
      | (at_builtin; refine wpList_pushI rfl _ _ 27 rfl w.heap.size 2 i0 _ Tryz.underlying27 hi hz0 hz1 hz2 rfl w5 _ p rfl A5 ((Only.refl _ _).alloc _) hb5 w5.heap.size 1 _ rfl (lit1 w5 _ _ rfl) hyI.out hlen ?_; intro v9 w9 hA9 hO9 hP9 hN9; obtain ⟨a9, c9, rfl⟩ := hA9.form; rw [List.length_append, List.length_singleton] at hA9)
      | fail "no arm")
    · refine ⟨⟨p ++ [1 + y], ?_, hA9, (D5.keep ((Only.refl _ _).alloc _)).only hO9 (fun hm => by have := Hol.out g hm; omega) (fun b hb hm => by have h1 := hfc b hb; have h2 := Hol.out b hm; omega), ((hO.trans K25).alloc _).then_ hO9 (fun b hb hl => by have := Hol.out b hb; omega)⟩, ?_⟩
      · rw [List.length_append, List.length_singleton]; omega
      · show 300 - (p.length + 1) < 300 - p.length
        omega
    · go_ret
      exact ⟨_, p, rfl, hA.only K4 Hown.out, hp3, D4, hO.trans K4⟩
end Go.Proofs.YtajkhdbdkjhilaaGreat

namespace Go.Proofs.YtajkhdbdkjhilaaGreat
open Go.RowKit
set_option maxRecDepth 10000
end Go.Proofs.YtajkhdbdkjhilaaGreat

namespace Go.Proofs.YtajkhdbdkjhilaaGreat
open Go.RowKit
set_option maxRecDepth 10000

/-- a number, and whether it was one -/
def PI (e : Ending) (w w' : World) : Prop := ∃ (x : Int) (b : Bool), e = .returned (.tuple #[.int .i64 x, .bool b]) ∧ 0 ≤ x ∧ x ≤ 999999999 ∧ Only [] w w'
theorem PI.mk {x : Int} {b : Bool} {w w' : World} (h0 : 0 ≤ x) (h1 : x ≤ 999999999) (k : Only [] w w') : PI (.returned (.tuple #[.int .i64 x, .bool b])) w w' := ⟨x, b, rfl, h0, h1, k⟩
theorem pow10_le {j : Nat} (h : j ≤ 9) : 10 ^ j ≤ 1000000000 := Nat.pow_le_pow_right (n := 10) (by omega) h
theorem pow10_le8 {j : Nat} (h : j ≤ 8) : 10 ^ j ≤ 100000000 := Nat.pow_le_pow_right (n := 10) (by omega) h
set_option maxHeartbeats 2000000 in
theorem parseInt_any (s : ByteArray) (w : World) :
    Calls Tryz.prog 164 #[.string s] w fun e w' => PI e w w' := by
  by_cases h1 : s.size < 1
  · have h1I : (s.size : Int) < 1 := by omega
    go_enter Tryz.func164, Tryz.ntmps164
    go_wp2
    refine bodyPost_ret (v := .tuple #[.int .i64 0, .bool false]) (by simp [results, Tryz.results164, go_sem]) rfl (PI.mk (by omega) (by omega) (Only.refl _ _))
  by_cases h9 : 9 < s.size
  · have h9I : (9 : Int) < (s.size : Int) := by omega
    have h1I : ¬ (s.size : Int) < 1 := by omega
    go_enter Tryz.func164, Tryz.ntmps164
    go_wp2
    refine bodyPost_ret (v := .tuple #[.int .i64 0, .bool false]) (by simp [results, Tryz.results164, go_sem]) rfl (PI.mk (by omega) (by omega) (Only.refl _ _))
  have h0 : 0 < s.size := by omega
  have h0I : (0 : Int) < (s.size : Int) := by omega
  have h1I : ¬ (s.size : Int) < 1 := by omega
  have h9I : ¬ (9 : Int) < (s.size : Int) := by omega
  rcases hc0 : ((s[0].toNat : Int) == 48)
  · go_enter Tryz.func164, Tryz.ntmps164
    go_wp2
    go_loopw [4, 5] (fun nv kv wr => ∃ (j x : Nat), j ≤ s.size ∧ kv = .int .i64 j ∧ nv = .int .i64 (x : Int) ∧ Hid (x < 10 ^ j) ∧ Only [] w wr)
      (fun _ kv _ => s.size - (intOf kv).toNat)
    case atStart => exact ⟨0, 0, Nat.zero_le _, rfl, rfl, Lib.hid (by decide), Only.refl _ _⟩
    case round =>
      obtain ⟨W2, hnew⟩ : ∃ W, W = wr := ⟨_, rfl⟩
      subst hnew
      obtain ⟨j, x, hj, rfl, rfl, hx, hO⟩ := hrel
      by_cases hlt : j < s.size
      · have hj1 : (0 : Int) ≤ (j : Int) := by omega
        have hj2 : (j : Int) < (s.size : Int) := by omega
        have hx8 : x < 100000000 := Nat.lt_of_lt_of_le hx.out (pow10_le8 (by omega))
        have hb := UInt8.toNat_lt s[j]
        by_cases d1 : (s[j].toNat : Int) < 48
        · go_wp2
          refine bodyPost_ret (v := .tuple #[.int .i64 0, .bool false]) (by simp [results, Tryz.results164, go_sem]) rfl (PI.mk (by omega) (by omega) hO)
        · by_cases d2 : (57 : Int) < (s[j].toNat : Int)
          · go_wp2
            refine bodyPost_ret (v := .tuple #[.int .i64 0, .bool false]) (by simp [results, Tryz.results164, go_sem]) rfl (PI.mk (by omega) (by omega) hO)
          · obtain ⟨d, hd⟩ : ∃ d : Nat, (d : Int) = (s[j].toNat : Int) - 48 := ⟨s[j].toNat - 48, by omega⟩
            have hd9 : d ≤ 9 := by omega
            have Hst : Hid (x * 10 + d < 10 ^ (j + 1)) := Lib.hid (by have := hx.out; rw [Nat.pow_succ]; omega)
            have hwd : IntKind.u8.wrap ((s[j].toNat : Int) - 48) = (s[j].toNat : Int) - 48 := by unfold IntKind.wrap; simp [IntKind.signed, IntKind.bits]; omega
            go_wp2
            go_roundw
            case rel => exact ⟨j + 1, x * 10 + d, by omega, by go_num, by congr 1; push_cast; omega, Hst, hO⟩
            case measure => simp [intOf]; omega
      · have hj9 : j = s.size := by omega
        have hx9 : x < 1000000000 := Nat.lt_of_lt_of_le hx.out (pow10_le (by omega))
        go_wp2
        refine bodyPost_ret (v := .tuple #[.int .i64 (x : Int), .bool true]) (by simp [results, Tryz.results164, go_sem]) rfl (PI.mk (by omega) (by omega) hO)
  · by_cases h2 : 1 < s.size
    · have h2I : (1 : Int) < (s.size : Int) := by omega
      go_enter Tryz.func164, Tryz.ntmps164
      go_wp2
      refine bodyPost_ret (v := .tuple #[.int .i64 0, .bool false]) (by simp [results, Tryz.results164, go_sem]) rfl (PI.mk (by omega) (by omega) (Only.refl _ _))
    · have h2I : ¬ (1 : Int) < (s.size : Int) := by omega
      go_enter Tryz.func164, Tryz.ntmps164
      go_wp2
      go_loopw [4, 5] (fun nv kv wr => ∃ (j x : Nat), j ≤ s.size ∧ kv = .int .i64 j ∧ nv = .int .i64 (x : Int) ∧ Hid (x < 10 ^ j) ∧ Only [] w wr)
        (fun _ kv _ => s.size - (intOf kv).toNat)
      case atStart => exact ⟨0, 0, Nat.zero_le _, rfl, rfl, Lib.hid (by decide), Only.refl _ _⟩
      case round =>
        obtain ⟨W2, hnew⟩ : ∃ W, W = wr := ⟨_, rfl⟩
        subst hnew
        obtain ⟨j, x, hj, rfl, rfl, hx, hO⟩ := hrel
        by_cases hlt : j < s.size
        · have hj1 : (0 : Int) ≤ (j : Int) := by omega
          have hj2 : (j : Int) < (s.size : Int) := by omega
          have hx8 : x < 100000000 := Nat.lt_of_lt_of_le hx.out (pow10_le8 (by omega))
          have hb := UInt8.toNat_lt s[j]
          by_cases d1 : (s[j].toNat : Int) < 48
          · go_wp2
            refine bodyPost_ret (v := .tuple #[.int .i64 0, .bool false]) (by simp [results, Tryz.results164, go_sem]) rfl (PI.mk (by omega) (by omega) hO)
          · by_cases d2 : (57 : Int) < (s[j].toNat : Int)
            · go_wp2
              refine bodyPost_ret (v := .tuple #[.int .i64 0, .bool false]) (by simp [results, Tryz.results164, go_sem]) rfl (PI.mk (by omega) (by omega) hO)
            · obtain ⟨d, hd⟩ : ∃ d : Nat, (d : Int) = (s[j].toNat : Int) - 48 := ⟨s[j].toNat - 48, by omega⟩
              have hd9 : d ≤ 9 := by omega
              have Hst : Hid (x * 10 + d < 10 ^ (j + 1)) := Lib.hid (by have := hx.out; rw [Nat.pow_succ]; omega)
              have hwd : IntKind.u8.wrap ((s[j].toNat : Int) - 48) = (s[j].toNat : Int) - 48 := by unfold IntKind.wrap; simp [IntKind.signed, IntKind.bits]; omega
              go_wp2
              go_roundw
              case rel => exact ⟨j + 1, x * 10 + d, by omega, by go_num, by congr 1; push_cast; omega, Hst, hO⟩
              case measure => simp [intOf]; omega
        · have hj9 : j = s.size := by omega
          have hx9 : x < 1000000000 := Nat.lt_of_lt_of_le hx.out (pow10_le (by omega))
          go_wp2
          refine bodyPost_ret (v := .tuple #[.int .i64 (x : Int), .bool true]) (by simp [results, Tryz.results164, go_sem]) rfl (PI.mk (by omega) (by omega) hO)
end Go.Proofs.YtajkhdbdkjhilaaGreat

namespace Go.Proofs.YtajkhdbdkjhilaaGreat
open Go.RowKit
set_option maxRecDepth 10000

instance : Rp ByteArray where
  size := 1
  rep _ cs s fp := cs = [.string s] ∧ s.size ≤ maxLen ∧ fp = []
  len h := by rw [h.1]; rfl
  frame h _ := h
  lt h := by rw [h.2.2]; simp
theorem str_rd (w : World) {s : ByteArray} (h : s.size ≤ maxLen) : Rp.rep w [.string s] s [] := ⟨rfl, h, rfl⟩
theorem Tryz.infoStr : (Tryz.prog.info? 9).map (fun i => (i.zero, i.size, i.bytes)) = some (some (.string ⟨#[]⟩), 1, 16) := by kernel_rfl
theorem extract_le (s : ByteArray) (a b : Nat) : (s.extract a b).size ≤ s.size := by rw [ByteArray.size_extract]; omega
set_option maxHeartbeats 4000000 in
theorem splitText_any (s : ByteArray) (c : Int) (w : World) (hs : s.size ≤ 1000000) :
    Calls Tryz.prog 155 #[.string s, .int .u8 c] w fun e w' => ∃ v L fs, e = .returned v ∧ Acc w.heap.size 9 w' v (L : List ByteArray) fs ∧ Fresh w.heap.size w' fs.flatten ∧ L.length ≤ s.size + 1 ∧ (∀ x ∈ L, x.size ≤ s.size) ∧ Only [] w w' := by
  obtain ⟨i0, hi, hz0, hz1, hz2⟩ := info_parts Tryz.infoStr
  have hA0 := Acc.made (α := ByteArray) w w.heap.size 9 rfl (Nat.le_refl _)
  have ho : Only [] w (w.alloc (.cells #[] 9)) := (Only.refl _ _).alloc _
  go_enter Tryz.func155, Tryz.ntmps155
  go_wp2
  go_loopw [5, 6, 7] (fun o fv iv wr => ∃ (i fr : Nat) (L : List ByteArray) (fs : List (List Nat)), i ≤ s.size + 1 ∧ fr ≤ i ∧ fv = .int .i64 fr ∧ iv = .int .i64 i ∧ Acc w.heap.size 9 wr o L fs ∧ Fresh w.heap.size wr fs.flatten ∧ Hid (L.length ≤ i ∧ ∀ x ∈ L, x.size ≤ s.size) ∧ Only [] w wr)
    (fun _ _ iv _ => s.size + 1 - (intOf iv).toNat)
  case atStart => exact ⟨0, 0, [], [], by omega, Nat.le_refl _, rfl, rfl, hA0, Fresh.nil _ _, Lib.hid ⟨by simp, by simp⟩, ho⟩
  case round =>
    obtain ⟨W2, hnew⟩ : ∃ W, W = wr := ⟨_, rfl⟩
    subst hnew
    clear hA0 ho
    obtain ⟨i, fr, L, fs, hi1, hfr, rfl, rfl, hA, hF, hL, hO⟩ := hrel
    have hsz := hO.size
    by_cases hgo : i ≤ s.size
    · have hgoI : (i : Int) ≤ (s.size : Int) := by omega
      have hi00 : (0 : Int) ≤ (i : Int) := by omega
      have hf00 : (0 : Int) ≤ (fr : Int) := by omega
      have hfiI : (fr : Int) ≤ (i : Int) := by omega
      have hlen : L.length + 1 ≤ 1073741824 := by have := hL.out.1; omega
      have hex : (s.extract fr i).size ≤ maxLen := by have := extract_le s fr i; unfold maxLen; omega
      have Hex := Lib.hid hex
      clear hex
      obtain ⟨x, hx⟩ : ∃ x, x = s.extract fr i := ⟨_, rfl⟩
      have hxs : Hid (x.size ≤ s.size) := Lib.hid (by rw [hx]; exact extract_le _ _ _)
      rw [← hx] at Hex
      have Hx := Lib.hid hx
      clear hx
      by_cases hend : i = s.size
      · subst hend
        go_wp2_with (first
          | (at_builtin; refine wpList_pushF (α := ByteArray) rfl _ _ 141 rfl w.heap.size 9 i0 _ 16 Tryz.underlying141 hi hz0 hz1 hz2 rfl (by decide) (by decide) W2 _ L fs rfl hA hF ((Only.refl _ _).alloc _) hsz W2.heap.size 1 [.string (s.extract fr s.size)] (s.extract fr s.size) [] rfl (lit_src W2 [_] _ rfl) (by intro u hu; simp at hu; subst hu; rfl) (str_rd _ (by rw [← Hx.out]; exact Hex.out)) (Fresh.nil _ _) hlen w (hO.alloc _) (Nat.le_refl _) ?_; intro v3 w3 hA3 hF3 hK3 _)
          | fail "no arm")
        go_roundw
        case rel => exact ⟨s.size + 1, s.size + 1, _, _, by omega, Nat.le_refl _, by go_num, by go_num, hA3, hF3, Lib.hid ⟨by rw [List.length_append, List.length_singleton]; have := hL.out.1; omega, fun y hy => by
          rcases List.mem_append.1 hy with h | h
          · exact hL.out.2 y h
          · rw [List.mem_singleton.1 h, ← Hx.out]; exact hxs.out⟩, hK3⟩
        case measure => simp [intOf]
      · have hlt : i < s.size := by omega
        have hltI : (i : Int) < (s.size : Int) := by omega
        have he1 : ((i : Int) == (s.size : Int)) = false := by
          have : (i : Int) ≠ (s.size : Int) := by omega
          simpa using this
        rcases hcc : ((s[i].toNat : Int) == c)
        · clear hend
          go_wp2
          go_roundw
          case rel => exact ⟨i + 1, fr, L, fs, by omega, by omega, rfl, by go_num, hA, hF, Lib.hid ⟨by have := hL.out.1; omega, hL.out.2⟩, hO⟩
          case measure => simp [intOf]; omega
        · clear hend
          go_wp2_with (first
            | (at_builtin; refine wpList_pushF (α := ByteArray) rfl _ _ 141 rfl w.heap.size 9 i0 _ 16 Tryz.underlying141 hi hz0 hz1 hz2 rfl (by decide) (by decide) W2 _ L fs rfl hA hF ((Only.refl _ _).alloc _) hsz W2.heap.size 1 [.string (s.extract fr i)] (s.extract fr i) [] rfl (lit_src W2 [_] _ rfl) (by intro u hu; simp at hu; subst hu; rfl) (str_rd _ (by rw [← Hx.out]; exact Hex.out)) (Fresh.nil _ _) hlen w (hO.alloc _) (Nat.le_refl _) ?_; intro v3 w3 hA3 hF3 hK3 _)
            | fail "no arm")
          go_roundw
          case rel => exact ⟨i + 1, i + 1, _, _, by omega, Nat.le_refl _, by go_num, by go_num, hA3, hF3, Lib.hid ⟨by rw [List.length_append, List.length_singleton]; have := hL.out.1; omega, fun y hy => by
            rcases List.mem_append.1 hy with h | h
            · exact hL.out.2 y h
            · rw [List.mem_singleton.1 h, ← Hx.out]; exact hxs.out⟩, hK3⟩
          case measure => simp [intOf]; omega
    · have hge : ¬ (i : Int) ≤ (s.size : Int) := by omega
      have hLl : L.length ≤ s.size + 1 := by have := hL.out.1; omega
      go_wp2
      go_ret
      exact ⟨_, rfl, L, fs, hA, hF, hLl, hL.out.2, hO⟩
end Go.Proofs.YtajkhdbdkjhilaaGreat

namespace Go.Proofs.YtajkhdbdkjhilaaGreat
open Go.RowKit
set_option maxRecDepth 10000

def PC (B : Nat) (v : Value) (n : Nat) (w : World) (e : Ending) (w' : World) : Prop := ∃ (b : Bool) (p' : List Int), e = .returned (.bool b) ∧ AccI B 2 w' v p' ∧ p'.length = n ∧ Only v.ownBlock.toList w w'
theorem PC.mk {B : Nat} {v : Value} {n : Nat} {w w' : World} {b : Bool} {p' : List Int} (h : AccI B 2 w' v p') (hl : p'.length = n) (k : Only v.ownBlock.toList w w') : PC B v n w (.returned (.bool b)) w' := ⟨b, p', rfl, h, hl, k⟩
theorem SeqA.strAt {w : World} {a : Option Addr} {cap : Nat} {xs : List ByteArray} {ob : List Nat} {fps : List (List Nat)} (h : SeqA w a cap xs ob fps) (k : Nat) (hk : k < xs.length) : ∃ b off, a = some ⟨b, off, none⟩ ∧ w.cell? ⟨b, off + k, none⟩ = some (.string xs[k]) := by
  obtain ⟨b, off, cs, e, -, hc, hr⟩ := h.at_ k hk
  obtain ⟨rfl, -, -⟩ := hr
  have h1 := hc 0 (.string xs[k]) rfl
  refine ⟨b, off, e, ?_⟩
  have e2 : Rp.size ByteArray = 1 := rfl
  rw [e2, Nat.mul_one, Nat.add_zero] at h1
  exact h1
set_option maxHeartbeats 4000000 in
theorem parseCycle_any (B : Nat) (v : Value) (p : List Int) (s : ByteArray) (w : World) (hA : AccI B 2 w v p) (hp : p.length ≤ 20) (hs : s.size ≤ 1000000) :
    Calls Tryz.prog 156 #[v, .string s] w fun e w' => PC B v p.length w e w' := by
  obtain ⟨i0, hi, hz0, hz1, hz2⟩ := info_parts Tryz.info2
  obtain ⟨av, cv, rfl⟩ := hA.form
  have HA := Lib.hid hA
  clear hA
  go_enter Tryz.func156, Tryz.ntmps156
  go_wp2_with (first
    | (go_at_call 155; (with_reducible refine (splitText_any s 32 w hs).mono ?_); rintro e w1 ⟨v1, L, fs1, rfl, A1, F1, l1, l2, t1⟩; obtain ⟨a1, c1, ob1, fps1, rfl, -, S1⟩ := (A1.rd (by decide)).open_)
    | fail "no arm")
  have hb1 := S1.bound
  have hz1' := t1.size
  have hA0 := Acc.made (α := Int) w1 w1.heap.size 2 rfl (Nat.le_refl _)
  have ho : Only [] w1 (w1.alloc (.cells #[] 2)) := (Only.refl _ _).alloc _
  go_loopw [6, 7] (fun o iv wr => ∃ (i : Nat) (ps : List Int) (fs : List (List Nat)), i ≤ L.length ∧ iv = .int .i64 i ∧ Acc w1.heap.size 2 wr o ps fs ∧ Fresh w1.heap.size wr fs.flatten ∧ Hid (ps.length ≤ i ∧ ∀ y ∈ ps, 0 ≤ y ∧ y < p.length) ∧ Only [] w1 wr)
    (fun _ iv _ => L.length - (intOf iv).toNat)
  case atStart => exact ⟨0, [], [], Nat.zero_le _, rfl, hA0, Fresh.nil _ _, Lib.hid ⟨by simp, by simp⟩, ho⟩
  case round =>
    obtain ⟨W2, hnew⟩ : ∃ W, W = wr := ⟨_, rfl⟩
    subst hnew
    clear hA0 ho
    obtain ⟨i, ps, fs, hi1, rfl, hAp, hF, hL, hO⟩ := hrel
    have hsz := hO.size
    by_cases hgo : i < L.length
    · have hgoI : (i : Int) < (L.length : Int) := by omega
      have hi00 : (0 : Int) ≤ (i : Int) := by omega
      obtain ⟨b, off, rfl, hc0⟩ := S1.strAt i hgo
      have hc := hO.cell (by simp) hc0
      have hlen : ps.length + 1 ≤ 1073741824 := by have := hL.out.1; omega
      go_wp2_with (first
        | (go_at_call 164; (with_reducible refine (parseInt_any L[i] W2).mono ?_); rintro e w3 ⟨x, ok, rfl, x0, x1, t3⟩; have k3 := hO.trans t3; have hAp3 := hAp.keep t3; have hF3 := hF.keep t3; have hsz3 := k3.size; have hxI : I64 x := (by unfold I64; omega))
        | (at_builtin; refine wpList_pushF rfl _ _ 27 rfl w1.heap.size 2 i0 _ 8 Tryz.underlying27 hi hz0 hz1 hz2 rfl (by decide) (by decide) w3 _ ps fs rfl hAp3 hF3 ((Only.refl _ _).alloc _) hsz3 w3.heap.size 1 [.int .i64 x] x [] rfl (lit_src w3 [_] _ rfl) (by intro u hu; simp at hu; subst hu; rfl) (int_rd _ hxI) (Fresh.nil _ _) hlen w1 (k3.alloc _) (Nat.le_refl _) ?_; intro v4 w4 hA4 hF4 hK4 _)
        | fail "no arm")
      · go_ret
        exact PC.mk (HA.out.keep (t1.trans k3)) rfl ((t1.trans k3).weaken _)
      · refine ⟨⟨i + 1, ps ++ [x], _, by omega, by go_num, hA4, hF4, Lib.hid ⟨by rw [List.length_append, List.length_singleton]; have := hL.out.1; omega, fun y hy => ?_⟩, hK4⟩, by simp [intOf]; omega⟩
        rcases List.mem_append.1 hy with h | h
        · exact hL.out.2 y h
        · rw [List.mem_singleton.1 h]; omega
      · go_ret
        exact PC.mk (HA.out.keep (t1.trans k3)) rfl ((t1.trans k3).weaken _)
    · have hge : ¬ (i : Int) < (L.length : Int) := by omega
      have hRp := hAp.rd (by decide)
      obtain ⟨ap, cp, rfl, Ip⟩ := Rd.ints hRp
      have hpb := Ip.bound
      have hplo := hAp.ownlt
      have hA2 := HA.out.keep (t1.trans hO)
      have Hps := Lib.hid hL.out.2
      have Hlen := Lib.hid (show p.length ≤ 20 from hp)
      have hv1 : ∀ q, (Value.slice av p.length cv).ownBlock = some q → q < w.heap.size := fun q hq => (HA.out.ownlt q hq).2
      have hw1 : w.heap.size ≤ w1.heap.size := hz1'
      have kW : Only (Value.slice av p.length cv).ownBlock.toList w W2 := (t1.trans hO).weaken _
      have hdis : ∀ q ∈ (Value.slice ap ps.length cp).ownBlock.toList ++ fs.flatten, q ∉ (Value.slice av p.length cv).ownBlock.toList := fun q hq hm => by
        rw [hAp.flat0, List.append_nil] at hq
        have h1 := (hplo q (by simpa using hq)).1
        have h2 := hv1 q (by simpa using hm)
        omega
      have Hdis := Lib.hid hdis
      have Hv1 := Lib.hid hv1
      clear hdis hv1 hplo
      go_wp2
      go_loopw [10] (fun iv wr => ∃ (j : Nat) (q : List Int), j ≤ ps.length ∧ iv = .int .i64 j ∧ AccI B 2 wr (.slice av p.length cv) q ∧ q.length = p.length ∧ Only (Value.slice av p.length cv).ownBlock.toList W2 wr)
        (fun iv _ => ps.length - (intOf iv).toNat)
      case atStart => exact ⟨0, p, Nat.zero_le _, rfl, hA2, rfl, Only.refl _ _⟩
      case round =>
        obtain ⟨W4, hnew⟩ : ∃ W, W = wr := ⟨_, rfl⟩
        subst hnew
        clear hA2
        obtain ⟨j, q, hj1, rfl, hAq, hql, hOq⟩ := hrel
        by_cases hlt : j < ps.length
        · have hltI : (j : Int) < (ps.length : Int) := by omega
          have hj00 : (0 : Int) ≤ (j : Int) := by omega
          have hn0 : (ps.length : Int) ≠ 0 := by omega
          have hn1 : ¬ ps.length = 0 := by omega
          have hn2 : ps ≠ [] := by intro e; rw [e] at hlt; simp at hlt
          have hwj : IntKind.i64.wrap ((j : Int) + 1) = (j : Int) + 1 := by rw [IntKind.wrap_i64]; omega
          obtain ⟨m, hm⟩ : ∃ m, m = (j + 1) % ps.length := ⟨_, rfl⟩
          have hml : m < ps.length := by rw [hm]; exact Nat.mod_lt _ (by omega)
          have hmd : ((j : Int) + 1) % (ps.length : Int) = (m : Int) := by rw [hm]; push_cast; rfl
          have hmd2 : Int.tmod ((j : Int) + 1) (ps.length : Int) = (m : Int) := by rw [Int.tmod_eq_emod_of_nonneg (by omega)]; exact hmd
          have hmI : (m : Int) < (ps.length : Int) := by omega
          have hm00 : (0 : Int) ≤ (m : Int) := by omega
          have IpW := Rp.only Ip.rd hOq (fun b hb => Hdis.out b hb)
          obtain ⟨a', c', e', I4⟩ := Rd.ints IpW
          injection e' with e1 _ e2
          subst e1
          subst e2
          obtain ⟨b, off, e3, -, hc1⟩ := I4.at_ j hlt
          obtain ⟨b', off', e4, -, hc2⟩ := I4.at_ m hml
          rw [e3] at e4
          injection e4 with e4
          injection e4 with e5 e6 _
          subst e5
          subst e6
          obtain ⟨y0, y1⟩ := Hps.out ps[j] (List.getElem_mem hlt)
          obtain ⟨z0, z1⟩ := Hps.out ps[m] (List.getElem_mem hml)
          obtain ⟨y, hy⟩ := Int.eq_ofNat_of_zero_le y0
          obtain ⟨z, hz⟩ := Int.eq_ofNat_of_zero_le z0
          rw [hy] at hc1 y1
          rw [hz] at hc2 z1
          have hyl : y < p.length := by omega
          have hyI : (y : Int) < (p.length : Int) := by omega
          have hy00 : (0 : Int) ≤ (y : Int) := by omega
          have hl20 := Hlen.out
          obtain ⟨g3, c3, e7, hc3, hf3, hb3, hA3⟩ := hAq.put (i := y) (by rw [hql]; exact hyl) (x := (z : Int)) (by unfold I64; omega)
          injection e7 with e8 e10 e9
          clear e10
          subst e8
          subst e9
          subst e3
          obtain ⟨y3, hy3⟩ : ∃ t, W4.cell? ⟨g3, y, none⟩ = some (.int .i64 t) := ⟨_, hc3⟩
          have HA3 := Lib.hid hA3
          have Hql := Lib.hid hql
          clear hA3 hql hc3 hAq hy hz hm I4 IpW HA
          go_wp2
          go_region_law (fail)
          all_goals go_wp2
          all_goals exact ⟨⟨j + 1, _, by omega, by go_num, HA3.out.keep ((Only.refl _ _).drew), by rw [List.length_set]; exact Hql.out, hOq.then_ (((Only.refl [g3] W4).drew).setCell (by simp) _) (fun b hb hl => by simpa [Value.ownBlock] using hb)⟩, by simp [intOf]; omega⟩
        · have hge2 : ¬ (j : Int) < (ps.length : Int) := by omega
          have Hql := Lib.hid hql
          clear hql
          go_wp2
          go_ret
          exact PC.mk hAq Hql.out (kW.trans hOq)
end Go.Proofs.YtajkhdbdkjhilaaGreat

namespace Go.Proofs.YtajkhdbdkjhilaaGreat
open Go.RowKit
set_option maxRecDepth 10000

structure Claim where
  kind : Int
  value : Int
instance : Rp Claim where
  size := 2
  rep _ cs x fp := cs = [Value.int .i64 x.kind, Value.int .i64 x.value] ∧ I64 x.kind ∧ I64 x.value ∧ fp = []
  len h := by rw [h.1]; rfl
  frame h _ := h
  lt h := by rw [h.2.2.2]; simp
end Go.Proofs.YtajkhdbdkjhilaaGreat

namespace Go.Proofs.YtajkhdbdkjhilaaGreat
open Go.RowKit
set_option maxRecDepth 10000

instance : Mk Claim where
  mark _ x := x
  cnt _ := 0
instance : Sz Claim where
  sz _ := 0
instance : Sm Claim where
  sm _ := True

end Go.Proofs.YtajkhdbdkjhilaaGreat


namespace Go.Proofs.YtajkhdbdkjhilaaGreat
open Go.RowKit
set_option maxRecDepth 10000

def bA (l : List UInt8) : ByteArray := ⟨l.toArray⟩
theorem bA_add (a b : List UInt8) : bA a ++ bA b = bA (a ++ b) := by
  unfold bA
  apply ByteArray.ext
  simp [ByteArray.data_append]
/-- what is left of a numeral, and what is written -/
def FmS (N u : Nat) (tl : List UInt8) : Prop := if u = 0 ∧ tl ≠ [] then tl = Lib.decDigits N else Lib.decDigits N = Lib.decDigits u ++ tl
theorem FmS.start (N : Nat) : FmS N N [] := by unfold FmS; rw [if_neg (by simp)]; simp
theorem FmS.step {N u : Nat} {tl : List UInt8} (h : FmS N u tl) (hg : tl = [] ∨ u ≠ 0) : FmS N (u / 10) (UInt8.ofNat (48 + u % 10) :: tl) := by
  have h1 : Lib.decDigits N = Lib.decDigits u ++ tl := by
    unfold FmS at h
    rw [if_neg (by rintro ⟨a, b⟩; rcases hg with e | e; exact b e; exact e a)] at h
    exact h
  unfold FmS
  by_cases hu : u < 10
  · have e1 : u / 10 = 0 := by omega
    rw [e1, if_pos ⟨rfl, by simp⟩, h1, Lib.decDigits, dif_pos hu, show u % 10 = u by omega]
    rfl
  · rw [if_neg (by rintro ⟨a, b⟩; omega), h1]
    conv => lhs; rw [Lib.decDigits, dif_neg hu]
    simp
theorem FmS.fin {N u : Nat} {tl : List UInt8} (h : FmS N u tl) (h0 : u = 0) (h1 : tl ≠ []) : tl = Lib.decDigits N := by
  unfold FmS at h
  rwa [if_pos ⟨h0, h1⟩] at h
end Go.Proofs.YtajkhdbdkjhilaaGreat

namespace Go.Proofs.YtajkhdbdkjhilaaGreat
open Go.RowKit
set_option maxRecDepth 10000

def lenOf : Value → Nat
  | .string s => s.size
  | _ => 0
theorem bA_size (l : List UInt8) : (bA l).size = l.length := by unfold bA; simp [ByteArray.size]
theorem bA_list (l : List UInt8) : (bA l).toList = l := by
  rw [Go.Lib.toList_data]
  unfold bA
  simp
theorem str1 (d : Nat) : strOfNums [48 + (d : Int)] = bA [UInt8.ofNat (48 + d)] := by
  unfold strOfNums bA
  have : (48 + (d : Int)).toNat = 48 + d := by omega
  simp [this]
theorem FmS.len {N u : Nat} {tl : List UInt8} (h : FmS N u tl) (hN : N ≤ 9223372036854775808) : tl.length ≤ 20 := by
  have h1 : (Lib.decDigits N).length ≤ 20 := by rw [Lib.decDigits_length]; exact Lib.nDigits_le20 N (by omega)
  unfold FmS at h
  split at h
  · rw [h]; exact h1
  · rw [h, List.length_append] at h1; omega
set_option maxHeartbeats 1000000 in
theorem formatInt_pos (N : Nat) (hN : N ≤ 9223372036854775807) (w : World) :
    Calls Tryz.prog 169 #[.int .i64 (N : Int)] w fun e w' => e = .returned (.string (bA (Lib.decDigits N))) ∧ Only [] w w' := by
  go_enter Tryz.func169, Tryz.ntmps169
  go_wp2
  go_loopw [0, 3] (fun nv sv wr => ∃ (u : Nat) (tl : List UInt8), nv = .int .i64 (u : Int) ∧ sv = .string (bA tl) ∧ Hid (FmS N u tl) ∧ u ≤ 9223372036854775807 ∧ Only [] w wr)
    (fun nv sv _ => (intOf nv).toNat + (1 - lenOf sv))
  case atStart => exact ⟨N, [], rfl, rfl, Lib.hid (FmS.start N), hN, Only.refl _ _⟩
  case round =>
    obtain ⟨W2, hnew⟩ : ∃ W, W = wr := ⟨_, rfl⟩
    subst hnew
    obtain ⟨u, tl, rfl, rfl, hF, hu, hO⟩ := hrel
    have hN0 : ¬ ((N : Int) < 0) := by omega
    obtain ⟨em, hem⟩ : ∃ em, em = tl.isEmpty := ⟨_, rfl⟩
    have hE : (bA tl).toList.isEmpty = em := by rw [bA_list, hem]
    by_cases hgo : tl = [] ∨ u ≠ 0
    · obtain ⟨d, hd⟩ : ∃ d, d = u % 10 := ⟨_, rfl⟩
      have hd10 : d < 10 := by omega
      have hmd : (u : Int) % 10 = (d : Int) := by omega
      obtain ⟨q, hqd⟩ : ∃ q, q = u / 10 := ⟨_, rfl⟩
      have hq : (u : Int) / 10 = (q : Int) := by omega
      have hst := hF.out.step hgo
      rw [← hd, ← hqd] at hst
      have Hd := Lib.hid hd
      have Hqd := Lib.hid hqd
      have hg2 : (em || (u : Int) != 0) = true := by
        rcases hgo with e | e
        · subst e; rw [hem]; simp
        · simp [e]
      have Hme : Hid (q + (1 - (tl.length + 1)) < u + (1 - tl.length)) := Lib.hid (by
        rcases hgo with e | e
        · subst e; simp; omega
        · omega)
      have hcv := run_convert_bytes_arg (P := Tryz.prog) (W2.alloc (.cells #[.int .u8 (48 + (d : Int))] 5)) 22 5 Tryz.underlying22 Tryz.underlying5 W2.heap.size 0 1 1 [48 + (d : Int)] (by simp) (fun i hi => by
        match i, hi with
        | 0, _ => simp) 9 Tryz.underlying9
      rw [str1] at hcv
      obtain ⟨ch, hch⟩ : ∃ ch, ch = UInt8.ofNat (48 + d) := ⟨_, rfl⟩
      rw [← hch] at hcv hst
      have Hst := Lib.hid hst
      have hsz : ¬ 9223372036854775807 < (bA [ch]).size + (bA tl).size := by have := hF.out.len (by omega); rw [bA_size, bA_size, List.length_singleton]; omega
      clear hst hd hqd hF hem hgo hch
      rcases em with _ | _
      · have hu1 : ((u : Int) != 0) = true := by simpa using hg2
        go_wp2
        go_roundw
        case rel => exact ⟨q, ch :: tl, rfl, by rw [bA_add]; rfl, Hst, by have := Hqd.out; omega, hO.trans ((Only.refl _ _).alloc _)⟩
        case measure =>
          have := Hme.out
          simp only [intOf, lenOf, bA_add, bA_size, List.length_append, List.length_singleton]
          omega
      · go_wp2
        go_roundw
        case rel => exact ⟨q, ch :: tl, rfl, by rw [bA_add]; rfl, Hst, by have := Hqd.out; omega, hO.trans ((Only.refl _ _).alloc _)⟩
        case measure =>
          have := Hme.out
          simp only [intOf, lenOf, bA_add, bA_size, List.length_append, List.length_singleton]
          omega
    · have ht : tl ≠ [] := fun e => hgo (.inl e)
      have hu0 : u = 0 := by
        rcases Nat.eq_zero_or_pos u with e | e
        · exact e
        · exact absurd (.inr (by omega)) hgo
      have hfin := Lib.hid (hF.out.fin hu0 ht)
      have hem2 : em = false := by rw [hem]; cases tl with
        | nil => exact absurd rfl ht
        | cons => rfl
      subst hem2
      subst hu0
      clear hF hem hgo ht
      go_wp2
      go_ret
      exact ⟨by rw [hfin.out]; rfl, hO⟩
set_option maxHeartbeats 1000000 in
theorem formatInt_neg (N : Nat) (hN1 : 1 ≤ N) (hN : N ≤ 9223372036854775808) (w : World) :
    Calls Tryz.prog 169 #[.int .i64 (-(N : Int))] w fun e w' => e = .returned (.string (bA (45 :: Lib.decDigits N))) ∧ Only [] w w' := by
  have hNneg : -(N : Int) < 0 := by omega
  obtain ⟨y, hy⟩ : ∃ y, y = -(N : Int) := ⟨_, rfl⟩
  rw [← hy] at hNneg ⊢
  have Hy := Lib.hid hy
  clear hy
  go_enter Tryz.func169, Tryz.ntmps169
  go_wp2
  go_loopw [0, 3] (fun nv sv wr => ∃ (u : Nat) (x : Int) (tl : List UInt8), Hid (x = -(u : Int)) ∧ nv = .int .i64 x ∧ sv = .string (bA tl) ∧ Hid (FmS N u tl) ∧ u ≤ 9223372036854775808 ∧ Only [] w wr)
    (fun nv sv _ => (intOf nv).natAbs + (1 - lenOf sv))
  case atStart => exact ⟨N, y, [], Hy, rfl, rfl, Lib.hid (FmS.start N), hN, Only.refl _ _⟩
  case round =>
    obtain ⟨W2, hnew⟩ : ∃ W, W = wr := ⟨_, rfl⟩
    subst hnew
    obtain ⟨u, x, tl, hx, rfl, rfl, hF, hu, hO⟩ := hrel
    have hN0 : decide (y < 0) = true := by simpa using hNneg
    obtain ⟨em, hem⟩ : ∃ em, em = tl.isEmpty := ⟨_, rfl⟩
    have hE : (bA tl).toList.isEmpty = em := by rw [bA_list, hem]
    by_cases hgo : tl = [] ∨ u ≠ 0
    · obtain ⟨d, hd⟩ : ∃ d, d = u % 10 := ⟨_, rfl⟩
      have hd10 : d < 10 := by omega
      have hmd : Int.tmod x 10 = -(d : Int) := by rw [hx.out, Int.neg_tmod, Int.tmod_eq_emod_of_nonneg (by omega)]; omega
      obtain ⟨q, hqd⟩ : ∃ q, q = u / 10 := ⟨_, rfl⟩
      have hq : Int.tdiv x 10 = -(q : Int) := by rw [hx.out, Int.neg_tdiv, Int.tdiv_eq_ediv_of_nonneg (by omega)]; omega
      obtain ⟨x', hx'⟩ : ∃ x', x' = -(q : Int) := ⟨_, rfl⟩
      rw [← hx'] at hq
      have Hx' := Lib.hid hx'
      have hxI : IntKind.i64.wrap x' = x' := by rw [IntKind.wrap_i64]; omega
      have hst := hF.out.step hgo
      rw [← hd, ← hqd] at hst
      have Hd := Lib.hid hd
      have Hqd := Lib.hid hqd
      have hg2 : (em || x != 0) = true := by
        rcases hgo with e | e
        · subst e; rw [hem]; simp
        · have : x ≠ 0 := by rw [hx.out]; omega
          simp [this]
      have Hme : Hid (q + (1 - (tl.length + 1)) < u + (1 - tl.length)) := Lib.hid (by
        rcases hgo with e | e
        · subst e; simp; omega
        · omega)
      have hcv := run_convert_bytes_arg (P := Tryz.prog) (W2.alloc (.cells #[.int .u8 (48 + (d : Int))] 5)) 22 5 Tryz.underlying22 Tryz.underlying5 W2.heap.size 0 1 1 [48 + (d : Int)] (by simp) (fun i hi => by
        match i, hi with
        | 0, _ => simp) 9 Tryz.underlying9
      rw [str1] at hcv
      obtain ⟨ch, hch⟩ : ∃ ch, ch = UInt8.ofNat (48 + d) := ⟨_, rfl⟩
      rw [← hch] at hcv hst
      have Hst := Lib.hid hst
      have hsz : ¬ 9223372036854775807 < (bA [ch]).size + (bA tl).size := by have := hF.out.len (by omega); rw [bA_size, bA_size, List.length_singleton]; omega
      clear hst hd hqd hF hem hgo hch hx'
      by_cases hd0 : d = 0
      · subst hd0
        have hmd0 : Int.tmod x 10 = 0 := by simpa using hmd
        simp only [Int.ofNat_zero, Int.add_zero] at hcv
        clear hmd
        rcases em with _ | _
        · have hu1 : (x != 0) = true := by simpa using hg2
          go_wp2
          go_roundw
          case rel => exact ⟨q, x', ch :: tl, Hx', rfl, by rw [bA_add]; rfl, Hst, by have := Hqd.out; omega, hO.trans ((Only.refl _ _).alloc _)⟩
          case measure =>
            have := Hme.out
            have e1 : x'.natAbs = q := by rw [Hx'.out]; omega
            have e2 : x.natAbs = u := by rw [hx.out]; omega
            simp only [intOf, lenOf, bA_add, bA_size, List.length_append, List.length_singleton, e1, e2]
            omega
        · go_wp2
          go_roundw
          case rel => exact ⟨q, x', ch :: tl, Hx', rfl, by rw [bA_add]; rfl, Hst, by have := Hqd.out; omega, hO.trans ((Only.refl _ _).alloc _)⟩
          case measure =>
            have := Hme.out
            have e1 : x'.natAbs = q := by rw [Hx'.out]; omega
            have e2 : x.natAbs = u := by rw [hx.out]; omega
            simp only [intOf, lenOf, bA_add, bA_size, List.length_append, List.length_singleton, e1, e2]
            omega
      · have hd1 : 0 < d := by omega
        clear hd0
        rcases em with _ | _
        · have hu1 : (x != 0) = true := by simpa using hg2
          go_wp2
          go_roundw
          case rel => exact ⟨q, x', ch :: tl, Hx', rfl, by rw [bA_add]; rfl, Hst, by have := Hqd.out; omega, hO.trans ((Only.refl _ _).alloc _)⟩
          case measure =>
            have := Hme.out
            have e1 : x'.natAbs = q := by rw [Hx'.out]; omega
            have e2 : x.natAbs = u := by rw [hx.out]; omega
            simp only [intOf, lenOf, bA_add, bA_size, List.length_append, List.length_singleton, e1, e2]
            omega
        · go_wp2
          go_roundw
          case rel => exact ⟨q, x', ch :: tl, Hx', rfl, by rw [bA_add]; rfl, Hst, by have := Hqd.out; omega, hO.trans ((Only.refl _ _).alloc _)⟩
          case measure =>
            have := Hme.out
            have e1 : x'.natAbs = q := by rw [Hx'.out]; omega
            have e2 : x.natAbs = u := by rw [hx.out]; omega
            simp only [intOf, lenOf, bA_add, bA_size, List.length_append, List.length_singleton, e1, e2]
            omega
    · have ht : tl ≠ [] := fun e => hgo (.inl e)
      have hu0 : u = 0 := by
        rcases Nat.eq_zero_or_pos u with e | e
        · exact e
        · exact absurd (.inr (by omega)) hgo
      have hfin := Lib.hid (hF.out.fin hu0 ht)
      have hem2 : em = false := by rw [hem]; cases tl with
        | nil => exact absurd rfl ht
        | cons => rfl
      subst hem2
      have hx0 : x = 0 := by rw [hx.out, hu0]; rfl
      have hbn : ¬ 9223372036854775807 < (⟨#[45]⟩ : ByteArray).size + (bA tl).size := by
        have h1 := hF.out.len (by omega)
        have h2 : (⟨#[45]⟩ : ByteArray).size = 1 := rfl
        rw [h2, bA_size]; omega
      subst hx0
      subst hu0
      clear hF hem hgo ht hx
      go_wp2
      go_ret
      exact ⟨by
        show Ending.returned (Value.string ((⟨#[45]⟩ : ByteArray) ++ bA tl)) = _
        rw [hfin.out, show (⟨#[45]⟩ : ByteArray) = bA [45] from rfl, bA_add]
        rfl, hO⟩
theorem formatInt_any (n : Int) (hn : I64 n) (w : World) :
    Calls Tryz.prog 169 #[.int .i64 n] w fun e w' => e = .returned (.string (bA (Lib.itoa n))) ∧ Only [] w w' := by
  unfold I64 at hn
  by_cases h : n < 0
  · obtain ⟨N, rfl⟩ : ∃ N : Nat, n = -(N : Int) := ⟨n.natAbs, by omega⟩
    rw [Lib.itoa_neg N (by omega)]
    exact formatInt_neg N (by omega) (by omega) w
  · obtain ⟨N, rfl⟩ := Int.eq_ofNat_of_zero_le (show 0 ≤ n by omega)
    rw [Lib.itoa_nonneg N]
    exact formatInt_pos N (by omega) w
end Go.Proofs.YtajkhdbdkjhilaaGreat

namespace PM

/-- where x is after k steps -/
def it (p : List Int) : Nat → Int → Int
  | 0, x => x
  | k + 1, x => at_ p (it p k x)
theorem it_add (p : List Int) (a : Nat) (x : Int) : ∀ b, it p (b + a) x = it p b (it p a x)
  | 0 => by simp [it]
  | b + 1 => by rw [Nat.succ_add]; show at_ p (it p (b + a) x) = at_ p (it p b (it p a x)); rw [it_add p a x b]
theorem it_rng {n : Nat} {p : List Int} (hp : PN n p) {x : Int} (h0 : 0 ≤ x) (h1 : x < n) : ∀ k, 0 ≤ it p k x ∧ it p k x < n
  | 0 => ⟨h0, h1⟩
  | k + 1 => hp.rng (it_rng hp h0 h1 k).1 (it_rng hp h0 h1 k).2
theorem it_inj {n : Nat} {p : List Int} (hp : PN n p) {x y : Int} (x0 : 0 ≤ x) (x1 : x < n) (y0 : 0 ≤ y) (y1 : y < n) : ∀ k, it p k x = it p k y → x = y
  | 0, h => h
  | k + 1, h => it_inj hp x0 x1 y0 y1 k (hp.inj (it_rng hp x0 x1 k).1 (it_rng hp x0 x1 k).2 (it_rng hp y0 y1 k).1 (it_rng hp y0 y1 k).2 h)
theorem it_ret {n : Nat} {p : List Int} (hp : PN n p) {x : Int} (x0 : 0 ≤ x) (x1 : x < n) {i j : Nat} (h : i < j) (e : it p i x = it p j x) : it p (j - i) x = x := by
  have hj : j = i + (j - i) := by omega
  rw [hj, it_add] at e
  exact (it_inj hp x0 x1 (it_rng hp x0 x1 _).1 (it_rng hp x0 x1 _).2 i e).symm
theorem least_of (P : Nat → Prop) : ∀ k, P k → ∃ m, P m ∧ m ≤ k ∧ ∀ j, j < m → ¬ P j := by
  intro k
  induction k using Nat.strongRecOn with
  | ind k ih =>
    intro h
    by_cases hx : ∃ j, j < k ∧ P j
    · obtain ⟨j, hj, hP⟩ := hx
      obtain ⟨m, h1, h2, h3⟩ := ih j hj hP
      exact ⟨m, h1, by omega, h3⟩
    · exact ⟨k, h, Nat.le_refl _, fun j hj hP => hx ⟨j, hj, hP⟩⟩
theorem it_back {n : Nat} {p : List Int} (hp : PN n p) {x : Int} (x0 : 0 ≤ x) (x1 : x < n) : ∃ k, (0 < k ∧ it p k x = x) ∧ k ≤ n := by
  apply Classical.byContradiction
  intro hno
  have hnd : ((List.range (n + 1)).map fun i => it p i x).Nodup := by
    unfold List.Nodup
    rw [List.pairwise_map]
    refine List.Pairwise.imp_of_mem (R := fun a b => a < b) (fun {a b} ha hb hab e => ?_) (List.pairwise_lt_range)
    exact hno ⟨b - a, ⟨by omega, it_ret hp x0 x1 hab e⟩, by have := List.mem_range.1 hb; omega⟩
  have := nodup_sub_len hnd (l2 := pts n) fun y hy => by
    obtain ⟨k, -, rfl⟩ := List.mem_map.1 hy
    exact mem_pts.2 (it_rng hp x0 x1 k)
  rw [pts_len, List.length_map, List.length_range] at this
  omega
open Classical in
/-- after how many steps x is back -/
noncomputable def per (p : List Int) (x : Int) : Nat := if h : ∃ m, (0 < m ∧ it p m x = x) ∧ ∀ j, j < m → ¬ (0 < j ∧ it p j x = x) then choose h else 0
theorem per_ok {n : Nat} {p : List Int} (hp : PN n p) {x : Int} (x0 : 0 ≤ x) (x1 : x < n) : 0 < per p x ∧ per p x ≤ n ∧ it p (per p x) x = x ∧ ∀ j, 0 < j → j < per p x → it p j x ≠ x := by
  obtain ⟨k, hk, hkn⟩ := it_back hp x0 x1
  obtain ⟨m, h1, h2, h3⟩ := least_of (fun k => 0 < k ∧ it p k x = x) k hk
  have hex : ∃ m, (0 < m ∧ it p m x = x) ∧ ∀ j, j < m → ¬ (0 < j ∧ it p j x = x) := ⟨m, h1, h3⟩
  have hper : per p x = Classical.choose hex := by unfold per; rw [dif_pos hex]
  obtain ⟨⟨c1, c2⟩, c3⟩ := Classical.choose_spec hex
  rw [hper]
  refine ⟨c1, ?_, c2, fun j h0 hj e => c3 j hj ⟨h0, e⟩⟩
  have : Classical.choose hex ≤ m := by
    apply Classical.byContradiction
    intro hlt
    exact c3 m (by omega) h1
  omega
/-- the first steps of a cycle -/
def cyT (p : List Int) (x : Int) (k : Nat) : List Int := (List.range k).map fun i => it p i x
/-- the cycle of x -/
noncomputable def cyl (p : List Int) (x : Int) : List Int := cyT p x (per p x)
theorem cyT_len (p : List Int) (x : Int) (k : Nat) : (cyT p x k).length = k := by simp [cyT]
theorem cyT_succ (p : List Int) (x : Int) (k : Nat) : cyT p x (k + 1) = cyT p x k ++ [it p k x] := by unfold cyT; rw [List.range_succ, List.map_append]; rfl
theorem cyl_len (p : List Int) (x : Int) : (cyl p x).length = per p x := cyT_len ..
section
variable {n : Nat} {p : List Int} (hp : PN n p) {x : Int} (x0 : 0 ≤ x) (x1 : x < n)
end
/-- the smallest of its cycle -/
def Mn (p : List Int) (x : Int) : Prop := ∀ y ∈ cyl p x, x ≤ y
open Classical in
/-- the cycles that begin with a number less than k -/
noncomputable def mns (p : List Int) (k : Nat) : List Int := (pts k).filter fun x => decide (Mn p x)
noncomputable def cycs (p : List Int) (k : Nat) : List (List Int) := (mns p k).map (cyl p)
theorem pts_succ (n : Nat) : pts (n + 1) = pts n ++ [(n : Int)] := by unfold pts; rw [List.range_succ, List.map_append]; rfl
theorem mns_yes {p : List Int} {k : Nat} (h : Mn p k) : mns p (k + 1) = mns p k ++ [(k : Int)] := by
  unfold mns; rw [pts_succ, List.filter_append]; simp [h]
theorem mns_no {p : List Int} {k : Nat} (h : ¬ Mn p k) : mns p (k + 1) = mns p k := by
  unfold mns; rw [pts_succ, List.filter_append]; simp [h]
theorem cycs_yes {p : List Int} {k : Nat} (h : Mn p k) : cycs p (k + 1) = cycs p k ++ [cyl p k] := by unfold cycs; rw [mns_yes h, List.map_append]; rfl
theorem cycs_no {p : List Int} {k : Nat} (h : ¬ Mn p k) : cycs p (k + 1) = cycs p k := by unfold cycs; rw [mns_no h]
theorem mem_mns {p : List Int} {k : Nat} {x : Int} : x ∈ mns p k ↔ (0 ≤ x ∧ x < k) ∧ Mn p x := by
  unfold mns; rw [List.mem_filter, mem_pts]; simp
theorem cycs_count (p : List Int) (k : Nat) : (cycs p k).length ≤ k := by
  have h : (mns p k).length ≤ (pts k).length := List.length_filter_le ..
  rw [pts_len] at h
  unfold cycs; rw [List.length_map]; exact h
end PM

namespace PM
end PM

namespace Go.Proofs.YtajkhdbdkjhilaaGreat
open Go.RowKit
set_option maxRecDepth 10000
end Go.Proofs.YtajkhdbdkjhilaaGreat

namespace Go.Proofs.YtajkhdbdkjhilaaGreat
open Go.RowKit
set_option maxRecDepth 10000


end Go.Proofs.YtajkhdbdkjhilaaGreat

namespace PM
end PM
namespace Go.Proofs.YtajkhdbdkjhilaaGreat
open Go.RowKit
set_option maxRecDepth 10000
section
variable {α : Type} [Rp α] {w0 W wx : World} {B : Nat} {e : TypeId} {G : List Nat} {v : Value} {l : List α}
/-- nothing is held any more -/
theorem AccK.drop (h : AccK w0 B e G W wx v l) (W' : World) : AccK w0 B e [] W' wx v l := by
  obtain ⟨fs, a, b, c, d, f, g⟩ := h
  exact ⟨fs, a, b, c, by simp, by simp, by simp⟩
theorem AccK.apart (h : AccK w0 B e G W wx v l) : (∀ b ∈ G, b ∉ v.ownBlock.toList) ∧ ∀ b ∈ v.ownBlock.toList, B ≤ b := by
  obtain ⟨fs, a, b, c, d, f, g⟩ := h
  exact ⟨g, fun x hx => (a.ownlt x (by simpa using hx)).1⟩
theorem AccK.begin (W : World) (e : TypeId) : AccK W W.heap.size e [] W (W.alloc (.cells #[] e)) (.slice (some ⟨W.heap.size, 0, none⟩) 0 0) ([] : List α) :=
  ⟨[], Acc.made W W.heap.size _ rfl (Nat.le_refl _), Fresh.nil _ _, (Only.refl _ _).alloc _, by simp, by simp, by simp⟩
end
end Go.Proofs.YtajkhdbdkjhilaaGreat

namespace Go.Proofs.YtajkhdbdkjhilaaGreat
open Go.RowKit
set_option maxRecDepth 10000
set_option maxHeartbeats 4000000 in
theorem cycleOf_any (n : Nat) (v : Value) (p : List Int) (fp : List Nat) (x : Int) (w : World) (h : Rd w v p fp) (hp : PM.PN n p) (x0 : 0 ≤ x) (x1 : x < n) (hn : n ≤ 1000) :
    Calls Tryz.prog 171 #[v, .int .i64 x] w fun e w' => ∃ v', e = .returned v' ∧ AccI w.heap.size 2 w' v' (PM.cyl p x) ∧ Only [] w w' := by
  obtain ⟨A, C, rfl, I⟩ := h.ints
  obtain ⟨i0, hi, hz0, hz1, hz2⟩ := info_parts Tryz.info2
  have hpl := hp.1
  obtain ⟨q0, q1, q2, q3⟩ := PM.per_ok hp x0 x1
  obtain ⟨m, hm⟩ : ∃ m, m = PM.per p x := ⟨_, rfl⟩
  have hcy : PM.cyl p x = PM.cyT p x m := by rw [hm]; rfl
  rw [← hm] at q0 q1 q2 q3
  obtain ⟨b, off, rfl, -, c0⟩ := I.at_pm x0 (by rw [hpl]; omega)
  have hat : PM.at_ p x = PM.it p 1 x := rfl
  rw [hat] at c0
  have x1l : x < (p.length : Int) := by rw [hpl]; exact x1
  have hxI : I64 x := by unfold I64; omega
  have Hcy := Lib.hid hcy
  have Hpl := Lib.hid hpl
  have Hq2 := Lib.hid q2
  have Hq3 := Lib.hid q3
  have Hp := Lib.hid hp
  have HI := Lib.hid hxI
  have A0 := AccI.one hxI w w.heap.size 2 rfl (Nat.le_refl _)
  have c0' := ((Only.refl [] w).alloc (.cells #[.int .i64 x] 2)).cell (by simp) c0
  clear hcy hpl q2 q3 hp hxI hm hat
  go_enter Tryz.func171, Tryz.ntmps171
  go_wp2
  go_loopw [5, 6] (fun o y wr => ∃ k : Nat, 1 ≤ k ∧ k ≤ m ∧ y = .int .i64 (PM.it p k x) ∧ AccI w.heap.size 2 wr o (PM.cyT p x k) ∧ Only [] w wr)
    (fun o _ _ => m - lenV o)
  case atStart => exact ⟨1, Nat.le_refl _, q0, rfl, A0, (Only.refl _ _).alloc _⟩
  case round =>
    obtain ⟨W2, hnew⟩ : ∃ W, W = wr := ⟨_, rfl⟩
    subst hnew
    obtain ⟨k, k1, hk, rfl, hA, hO⟩ := hrel
    obtain ⟨a5, c5, hf5⟩ := hA.form
    have hl5 : lenV u5 = k := by rw [hf5, PM.cyT_len]; rfl
    have Hl5 := Lib.hid hl5
    clear hf5 hl5
    by_cases hlt : k < m
    · obtain ⟨y, hy⟩ : ∃ y, y = PM.it p k x := ⟨_, rfl⟩
      have hyr := PM.it_rng Hp.out x0 x1 k
      rw [← hy] at hyr ⊢
      have hne : ¬ (y = x) := by rw [hy]; exact Hq3.out k (by omega) hlt
      obtain ⟨b2, off2, e2, -, c1⟩ := I.at_pm (x := y) hyr.1 (by rw [Hpl.out]; omega)
      injection e2 with e2; injection e2 with e21 e22; subst e21; subst e22
      have hnx : PM.at_ p y = PM.it p (k + 1) x := by rw [hy]; rfl
      rw [hnx] at c1
      have hst : PM.cyT p x (k + 1) = PM.cyT p x k ++ [y] := by rw [PM.cyT_succ, hy]
      have hyI : I64 y := by unfold I64; omega
      have y0 : 0 ≤ y := hyr.1
      have y1 : y < (p.length : Int) := by rw [Hpl.out]; exact hyr.2
      have hlen : (PM.cyT p x k).length + 1 ≤ 1073741824 := by rw [PM.cyT_len]; omega
      have hsz := hO.size
      have Hst := Lib.hid hst
      have HyI := Lib.hid hyI
      have HA := Lib.hid hA
      clear hy hyr hnx hst hyI hA
      go_wp2_with (first
        | (at_builtin; refine wpList_pushI rfl _ _ 27 rfl w.heap.size 2 i0 _ Tryz.underlying27 hi hz0 hz1 hz2 rfl W2 u5 (PM.cyT p x k) rfl HA.out ((Only.refl _ _).alloc _) hsz W2.heap.size 1 y rfl (lit1 W2 _ _ rfl) HyI.out hlen ?_; intro v3 w3 hA3 hO3 hP3 hN3; have k3 := hP3 w (hO.alloc _) (Nat.le_refl _); have c3 := k3.cell (by simp) c1; clear hO3 hP3 hN3)
        | fail "no arm")
      obtain ⟨a3, c3', hf3⟩ := hA3.form
      have hl3 : lenV v3 = k + 1 := by rw [hf3]; show (PM.cyT p x k ++ [y]).length = k + 1; rw [List.length_append, PM.cyT_len]; rfl
      clear hf3
      go_roundw
      case rel => exact ⟨k + 1, by omega, by omega, rfl, by rw [Hst.out]; exact hA3, k3⟩
      case measure => have := Hl5.out; omega
    · obtain rfl : k = m := by omega
      have he : PM.it p k x = x := Hq2.out
      rw [he]
      clear he
      go_wp2
      go_ret
      exact ⟨u5, rfl, by rw [Hcy.out]; exact hA, hO⟩
/-- the first number of a list is its least -/
def smB (l : List Int) : Bool := decide (∀ y ∈ l, l.getD 0 0 ≤ y)
set_option maxHeartbeats 2000000 in
theorem isSmallest_any (a : Option Addr) (c : Nat) (l : List Int) (f : List Nat) (w : World) (h : IntsA w a c l f) (hl : 0 < l.length) :
    Calls Tryz.prog 172 #[.slice a l.length c] w fun e w' => e = .returned (.bool (smB l)) ∧ Only [] w w' := by
  have hb := h.bound
  obtain ⟨z, hz⟩ : ∃ z, z = l.getD 0 0 := ⟨_, rfl⟩
  obtain ⟨b, off, rfl, -, c0⟩ := h.at_ 0 hl
  have hz0 : l[0] = z := by rw [hz, List.getD_eq_getElem?_getD, List.getElem?_eq_getElem hl]; rfl
  rw [hz0, Nat.add_zero] at c0
  have hsm : smB l = decide (∀ y ∈ l, z ≤ y) := by rw [hz]; rfl
  rw [hsm]
  have Hz0 := Lib.hid hz0
  clear hz hz0 hsm
  go_enter Tryz.func172, Tryz.ntmps172
  go_wp2
  go_loopw [3] (fun y wr => ∃ j : Nat, 1 ≤ j ∧ j ≤ l.length ∧ y = .int .i64 j ∧ Hid (∀ q ∈ l.take j, z ≤ q) ∧ Only [] w wr)
    (fun y _ => l.length - (intOf y).toNat)
  case atStart => exact ⟨1, Nat.le_refl _, hl, rfl, Lib.hid (fun q hq => by
    have h1 : l.take 1 = [l[0]] := by rw [List.take_succ_eq_append_getElem hl]; rfl
    rw [h1, Hz0.out] at hq
    rw [List.mem_singleton.1 hq]; exact Int.le_refl _), Only.refl _ _⟩
  case round =>
    obtain ⟨W2, hnew⟩ : ∃ W, W = wr := ⟨_, rfl⟩
    subst hnew
    obtain ⟨j, j1, hj, rfl, hq, hO⟩ := hrel
    by_cases hlt : j < l.length
    · have hltI : (j : Int) < (l.length : Int) := by omega
      obtain ⟨b2, off2, e2, -, c1⟩ := h.at_ j hlt
      injection e2 with e2; injection e2 with e21 e22; subst e21; subst e22
      obtain ⟨y, hy⟩ : ∃ y, y = l[j] := ⟨_, rfl⟩
      rw [← hy] at c1
      have d0 := hO.cell (by simp) c0
      have d1 := hO.cell (by simp) c1
      have hl0 : (0 : Int) < (l.length : Int) := by omega
      have hj0 : (0 : Int) ≤ (j : Int) := by omega
      have Hy := Lib.hid hy
      clear hy
      go_wp2
      go_quiet (fail)
      go_wp2
      · rename_i hylt
        go_ret
        refine ⟨ret_bool ?_, hO.drewN _⟩
        refine (decide_eq_false fun hall => ?_).symm
        have := hall l[j] (List.getElem_mem hlt)
        rw [← Hy.out] at this
        omega
      · rename_i hyge
        go_roundw
        case rel => exact ⟨j + 1, by omega, by omega, by go_num, Lib.hid (fun q hq2 => by
          rw [take_succ_get l j hlt] at hq2
          rcases List.mem_append.1 hq2 with hq2 | hq2
          · exact hq.out q hq2
          · rw [List.mem_singleton.1 hq2, ← Hy.out]; omega), hO.drewN _⟩
        case measure => simp [intOf]; omega
    · have hge : ¬ ((j : Int) < (l.length : Int)) := by omega
      go_wp2
      go_ret
      refine ⟨ret_bool ?_, hO⟩
      have := hq.out
      rw [List.take_of_length_le (by omega)] at this
      exact (decide_eq_true this).symm
theorem smB_cyl {n : Nat} {p : List Int} (hp : PM.PN n p) {x : Int} (x0 : 0 ≤ x) (x1 : x < n) : smB (PM.cyl p x) = true ↔ PM.Mn p x := by
  have h0 := (PM.per_ok hp x0 x1).1
  have h1 : (PM.cyl p x).getD 0 0 = x := by
    unfold PM.cyl PM.cyT
    rw [List.getD_eq_getElem?_getD, List.getElem?_map, List.getElem?_range h0]
    rfl
  unfold smB
  rw [decide_eq_true_iff, h1]
  rfl
set_option maxHeartbeats 4000000 in
theorem allCycles_any (n : Nat) (v : Value) (p : List Int) (fp : List Nat) (w : World) (h : Rd w v p fp) (hp : PM.PN n p) (hn : n ≤ 1000) :
    Calls Tryz.prog 168 #[v] w fun e w' => ∃ v' f, e = .returned v' ∧ Rd w' v' (PM.cycs p n) f ∧ Fresh w.heap.size w' f ∧ Only [] w w' := by
  obtain ⟨A, C, rfl, I⟩ := id h.ints
  obtain ⟨i0, hi, hz0, hz1, hz2⟩ := info_parts Tryz.info22
  have hpl := hp.1
  have hb := I.bound
  have Hp := Lib.hid hp
  have Hpl := Lib.hid hpl
  clear hp hpl
  go_enter Tryz.func168, Tryz.ntmps168
  go_wp2
  go_loopw [3, 4] (fun o y wr => ∃ (k : Nat) (fs : List (List Nat)), k ≤ n ∧ y = .int .i64 k ∧ Acc w.heap.size 27 wr o (PM.cycs p k) fs ∧ Fresh w.heap.size wr fs.flatten ∧ Only [] w wr)
    (fun _ y _ => n - (intOf y).toNat)
  case atStart => exact ⟨0, [], Nat.zero_le _, rfl, Acc.made w w.heap.size _ rfl (Nat.le_refl _), Fresh.nil _ _, (Only.refl _ _).alloc _⟩
  case round =>
    obtain ⟨W2, hnew⟩ : ∃ W, W = wr := ⟨_, rfl⟩
    subst hnew
    obtain ⟨k, fs, hk, rfl, hA, hF, hO⟩ := hrel
    have hsz := hO.size
    by_cases hlt : k < n
    · have hltI : (k : Int) < (p.length : Int) := by rw [Hpl.out]; omega
      have hcl := PM.cycs_count p k
      have hlen : (PM.cycs p k).length + 1 ≤ 1073741824 := by omega
      obtain ⟨cy, hcy⟩ : ∃ cy, cy = PM.cyl p (k : Int) := ⟨_, rfl⟩
      have HcC := Lib.hid (cycleOf_any n (.slice A p.length C) p fp (k : Int) W2 (Rp.keep h hO) Hp.out (by omega) (by omega) hn)
      have hsm := smB_cyl Hp.out (x := (k : Int)) (by omega) (by omega)
      have hcl0 : 0 < cy.length := by rw [hcy, PM.cyl_len]; exact (PM.per_ok Hp.out (x := (k : Int)) (by omega) (by omega)).1
      rw [← hcy] at HcC hsm
      have HA := Lib.hid hA
      have Hcy := Lib.hid hcy
      clear hcy hA hcl
      by_cases hmn : PM.Mn p (k : Int)
      · have Hsb := Lib.hid (hsm.2 hmn)
        have Hst := Lib.hid (PM.cycs_yes hmn)
        clear hsm hmn
        go_wp2_with (first
          | (go_at_call 171; (with_reducible refine (HcC.out).mono ?_); rintro en w3 ⟨v3, rfl, A3, t3⟩; obtain ⟨a3, c3, rfl, I3⟩ := id A3.rd.ints)
          | (go_at_call 172; (with_reducible refine (isSmallest_any a3 c3 cy _ w3 I3 hcl0).mono ?_); rintro en w4 ⟨he, t4⟩; rw [Hsb.out] at he; subst he)
          | (at_builtin; refine wpList_pushF rfl _ _ 24 rfl w.heap.size 27 i0 _ 24 Tryz.underlying24 hi hz0 hz1 hz2 rfl (by decide) (by decide) W2 u3 (PM.cycs p k) fs rfl HA.out hF ((t3.trans t4).alloc _) hsz w4.heap.size 1 [.slice a3 cy.length c3] cy _ rfl (lit_src w4 [.slice a3 cy.length c3] _ rfl) (by intro u hu; simp at hu; subst hu; rfl) (Rp.keep A3.rd (t4.alloc _)) (A3.fresh.keep (t4.alloc _)) hlen w (((hO.trans t3).trans t4).alloc _) (Nat.le_refl _) ?_; intro v5 w5 hA5 hF5 hK5 _)
          | fail "no arm")
        go_roundw
        case rel => exact ⟨k + 1, _, by omega, by go_num, by rw [Hst.out, ← Hcy.out]; exact hA5, hF5, hK5⟩
        case measure => simp [intOf]; omega
      · have Hsb : Hid (smB cy = false) := Lib.hid (by rw [Bool.eq_false_iff]; exact fun h => hmn (hsm.1 h))
        have Hst := Lib.hid (PM.cycs_no hmn)
        clear hsm hmn
        go_wp2_with (first
          | (go_at_call 171; (with_reducible refine (HcC.out).mono ?_); rintro en w3 ⟨v3, rfl, A3, t3⟩; obtain ⟨a3, c3, rfl, I3⟩ := id A3.rd.ints)
          | (go_at_call 172; (with_reducible refine (isSmallest_any a3 c3 cy _ w3 I3 hcl0).mono ?_); rintro en w4 ⟨he, t4⟩; rw [Hsb.out] at he; subst he)
          | fail "no arm")
        go_roundw
        case rel => exact ⟨k + 1, fs, by omega, by go_num, by rw [Hst.out]; exact (HA.out.keep t3).keep t4, (hF.keep t3).keep t4, (hO.trans t3).trans t4⟩
        case measure => simp [intOf]; omega
    · obtain rfl : k = n := by omega
      have hge : ¬ ((k : Int) < (p.length : Int)) := by rw [Hpl.out]; omega
      have HA := Lib.hid hA
      clear hA
      go_wp2
      go_ret
      exact ⟨_, rfl, _, HA.out.rd (by decide), HA.out.fresh hF, hO⟩
end Go.Proofs.YtajkhdbdkjhilaaGreat
