/- The reference's source of choices: newSource, nextByte, below, oneIn, between, extremeInt, numberUpTo (laws 34, 35, ..). What it draws is left open: its bounds are told. The laws' drawn permutations, puzzles, tracked sets (laws 10, 11). The reference's search from a list on (law 16). The reference's BuildTable (law 16). The reference's BuildTable: the table (law 16). What a search of patterns has met: lengths; a table's count. Descents in plain words. What breadth-first search finds: the patterns that the letters lead to, their distances. Lower bounds out of tables, in plain words (laws 40, 42, 43, 52). Tables without faults: the built ones, and no others with the same patterns (laws 10, 11, 26). Descents in a table that was built; a search of few patterns ends (laws 10, 11). The states of a puzzle: how many there are, what the search of them finds (laws 20, 38). The program's group order and number of states (laws 20, 38). The reference's orbit sizes, chain order, members per choice (laws 33, 34, ..). The member of a rank, in plain words (laws 33, 34, ..). The reference's chain order, members per choice, MemberAt (laws 33, 34, ..). The reference's drawn permutations and generators (laws 34, 35, ..). The first pattern with a key, in plain words. The program's proof of a table: what a table is checked with. (Written by mkprf.py.) The program's proof of a table: where a letter leads, the faults of an entry. (Written by mkprf2.py.) The reference's tables: where a letter leads, the first letter of a descent. The reference's faults of an entry. (Written by mkspecent.py.) The program's faults of an entry. (Written by mkprf3.py.) -/
import Derived.Test.YtajkhdbdkjhilaaGreatRowScrambledSessionsG12
import Derived.Test.YtajkhdbdkjhilaaGreatRowScrambledSessionsG1
import Derived.Test.YtajkhdbdkjhilaaGreatRowScrambledSessionsG10
import Derived.Test.YtajkhdbdkjhilaaGreatRowScrambledSessionsG11
import Derived.Test.YtajkhdbdkjhilaaGreatRowScrambledSessionsG6
import Derived.Deep.RegionHeld3
import Derived.Test.YtajkhdbdkjhilaaGreatRowScrambledSessionsG8
import Derived.Test.YtajkhdbdkjhilaaGreatRowScrambledSessionsG3
import Derived.Deep.RegionLaw
import Derived.Test.YtajkhdbdkjhilaaGreatRowScrambledSessionsG7
import Derived.Deep.DeepCutAuto
import Derived.Deep.AppendLies
namespace Go.Proofs.YtajkhdbdkjhilaaGreat
open Go.RowKit
set_option maxRecDepth 10000

theorem and255 (n : Int) : bits .and .i64 n 255 = n % 256 := by
  have h127 : (BitVec.ofInt 64 255).toNat = 2 ^ 8 - 1 := by decide
  have key : (BitVec.ofInt 64 n &&& BitVec.ofInt 64 255).toNat = (n % ((2 ^ 64 : Nat) : Int)).toNat % 2 ^ 8 := by
    rw [BitVec.toNat_and, BitVec.toNat_ofInt, h127, Nat.and_two_pow_sub_one_eq_mod]
  show IntKind.i64.wrap ((BitVec.ofInt 64 n &&& BitVec.ofInt 64 255).toNat : Nat) = n % 256
  rw [key, IntKind.wrap_i64]
  omega
theorem and30 (n : Int) : bits .and .i64 n 1073741823 = n % 1073741824 := by
  have h127 : (BitVec.ofInt 64 1073741823).toNat = 2 ^ 30 - 1 := by decide
  have key : (BitVec.ofInt 64 n &&& BitVec.ofInt 64 1073741823).toNat = (n % ((2 ^ 64 : Nat) : Int)).toNat % 2 ^ 30 := by
    rw [BitVec.toNat_and, BitVec.toNat_ofInt, h127, Nat.and_two_pow_sub_one_eq_mod]
  show IntKind.i64.wrap ((BitVec.ofInt 64 n &&& BitVec.ofInt 64 1073741823).toNat : Nat) = n % 1073741824
  rw [key, IntKind.wrap_i64]
  omega
/-- the source at block g, over the bytes l -/
def Src (w : World) (g : Nat) (fc : List Nat) (l : List UInt8) : Prop :=
  ∃ a c i h, Blk w g [.slice a l.length c, .int .i64 i, .int .i64 h] ∧ (0 ≤ i ∧ i ≤ l.length) ∧ I64 h ∧ Rd w (.slice a l.length c) l fc ∧ g ∉ fc
theorem Src.keep {w w' : World} {g : Nat} {fc : List Nat} {l : List UInt8} (h : Src w g fc l) (ho : Only [] w w') : Src w' g fc l := by
  obtain ⟨a, c, i, x, h1, h2, h3, h4, h5⟩ := h
  exact ⟨a, c, i, x, h1.keep ho, h2, h3, Rp.keep h4 ho, h5⟩
theorem Src.only {w w' : World} {g : Nat} {fc fp : List Nat} {l : List UInt8} (h : Src w g fc l) (ho : Only fp w w') (hg : g ∉ fp) (hc : ∀ b ∈ fc, b ∉ fp) : Src w' g fc l := by
  obtain ⟨a, c, i, x, h1, h2, h3, h4, h5⟩ := h
  exact ⟨a, c, i, x, h1.only ho hg, h2, h3, Rp.only h4 ho hc, h5⟩
theorem Src.lt {w : World} {g : Nat} {fc : List Nat} {l : List UInt8} (h : Src w g fc l) : g < w.heap.size := by
  obtain ⟨a, c, i, x, h1, -⟩ := h; exact h1.lt
set_option maxHeartbeats 4000000 in
theorem newSource_any (v : Value) (l : List UInt8) (fc : List Nat) (w : World) (h : Rd w v l fc) (hl : l.length ≤ 4096) :
    Calls Tryz.prog 23 #[v] w fun e w' => ∃ g, e = .returned (.pointer (some ⟨g, 0, none⟩)) ∧ Src w' g fc l ∧ w.heap.size ≤ g ∧ Only [] w w' := by
  obtain ⟨a, c, ob, fps, rfl, hfc, hS⟩ := h.open_
  have hlt := Rp.lt h
  go_enter Tryz.func23, Tryz.ntmps23
  go_wp2
  go_loopw [3, 4] (fun hv i wr => ∃ (j : Nat) (x : Int), j ≤ l.length ∧ i = .int .i64 j ∧ hv = .int .i64 x ∧ (0 ≤ x ∧ x ≤ 1073741823) ∧ Only [] w wr)
    (fun _ i _ => l.length - (intOf i).toNat)
  case atStart => exact ⟨0, 590033 + l.length, Nat.zero_le _, rfl, by first | rfl | (congr 1; rw [IntKind.wrap_i64]; omega), by omega, Only.refl _ _⟩
  case round =>
    obtain ⟨W2, hnew⟩ : ∃ W, W = wr := ⟨_, rfl⟩
    subst hnew
    obtain ⟨j, x, hj, rfl, rfl, hr, hK⟩ := hrel
    by_cases hlt2 : j < l.length
    · obtain ⟨b, off, cs, rfl, -, hc0, hrb⟩ := hS.at_ j hlt2
      obtain ⟨rfl, -⟩ := hrb
      have hcb0 : w.cell? ⟨b, off + j, none⟩ = some (.int .u8 (l[j].toNat : Int)) := by simpa [Rp.size] using hc0 0 _ rfl
      have hcb := hK.cell (by simp) hcb0
      clear hc0 hcb0
      have hi0 : (0 : Int) ≤ (j : Int) := by omega
      have hi1 : (j : Int) < (l.length : Int) := by omega
      go_wp2
      exact ⟨⟨j + 1, _, by omega, by go_num, rfl, by rw [and30]; omega, hK⟩, by simp [intOf]; omega⟩
    · obtain rfl : j = l.length := by omega
      have hW := Rp.keep h hK
      have X0 := Blk.new W2 [.slice a l.length c, .int .i64 0, .int .i64 x] 78
      go_wp2
      go_ret
      exact ⟨W2.heap.size, rfl, ⟨a, c, 0, x, X0, ⟨by omega, by omega⟩, by unfold I64; omega, Rp.keep hW ((Only.refl _ _).alloc _), fun hm => by have := hlt _ hm; have := hK.size; omega⟩, hK.size, hK.alloc _⟩
set_option maxHeartbeats 4000000 in
theorem nextByte_any (g : Nat) (fc : List Nat) (l : List UInt8) (w : World) (h : Src w g fc l) (hl : l.length ≤ 4096) :
    Calls Tryz.prog 94 #[.pointer (some ⟨g, 0, none⟩)] w fun e w' => ∃ r : Int, e = .returned (.int .i64 r) ∧ 0 ≤ r ∧ r ≤ 255 ∧ Src w' g fc l ∧ Only [g] w w' := by
  obtain ⟨a, c, i, x, h1, h2, h3, h4, h5⟩ := h
  have y0 := h1.cell 0 rfl
  have y1 := h1.cell 1 rfl
  have y2 := h1.cell 2 rfl
  have p1 := h1.frozen 1
  have p2 := h1.frozen 2
  go_enter Tryz.func94, Tryz.ntmps94
  go_upto_region 2 with fail
  obtain ⟨x2, hx2⟩ : ∃ x2, x2 = wrap64 (wrap64 (x * 6364136223846793005) + 1442695040888963407) := ⟨_, rfl⟩
  have hr2 : I64 x2 := by rw [hx2]; unfold wrap64 I64; omega
  rw [← hx2]
  clear hx2
  have B1 := h1.set 2 (.int .i64 x2)
  simp only [List.set] at B1
  have k1 : Only [g] w (w.setCell ⟨g, 2, none⟩ (.int .i64 x2)) := (Only.refl _ _).setCell (by simp) _
  have r1 : Rd (w.setCell ⟨g, 2, none⟩ (.int .i64 x2)) (.slice a l.length c) l fc := Rp.only h4 k1 (fun b hb hm => h5 (by simp at hm; rwa [← hm]))
  obtain ⟨w1, hw1⟩ : ∃ w1, w1 = w.setCell ⟨g, 2, none⟩ (.int .i64 x2) := ⟨_, rfl⟩
  rw [← hw1] at B1 k1 r1 ⊢
  clear hw1 y0 y1 y2 p1 p2 h1 h4 h3
  have y0 := B1.cell 0 rfl
  have y1 := B1.cell 1 rfl
  have y2 := B1.cell 2 rfl
  go_quiet (fail)
  go_wp2
  obtain ⟨v3, hv3⟩ : ∃ v3, v3 = bits BinOp.and IntKind.i64 (bits BinOp.xor IntKind.i64 (x2 / 8589934592) (x2 / 35184372088832)) 255 := ⟨_, rfl⟩
  have hr3 : 0 ≤ v3 ∧ v3 ≤ 255 := by rw [hv3, and255]; omega
  rw [← hv3]
  clear hv3
  obtain ⟨ob, fps, hfc, hS⟩ : ∃ ob fps, fc = ob ++ fps.flatten ∧ SeqA w1 a c l ob fps := by obtain ⟨a', c', ob, fps, hv, hf, hs⟩ := r1.open_; injection hv with e1 _ e2; subst e1; subst e2; exact ⟨ob, fps, hf, hs⟩
  obtain ⟨k, rfl⟩ := Int.eq_ofNat_of_zero_le h2.1
  have hwk : IntKind.i64.wrap ((k : Int) + 1) = (k : Int) + 1 := by rw [IntKind.wrap_i64]; omega
  by_cases hil : k < l.length
  · have hilb : decide ((k : Int) < (l.length : Int)) = true := decide_eq_true (by omega)
    obtain ⟨b, off, cs, rfl, -, hc0, hrb⟩ := hS.at_ k hil
    obtain ⟨rfl, -⟩ := hrb
    have hcb : w1.cell? ⟨b, off + k, none⟩ = some (.int .u8 (l[k].toNat : Int)) := by simpa [Rp.size] using hc0 0 _ rfl
    clear hc0
    have hby : l[k].toNat < 256 := UInt8.toNat_lt _
    have hw8 : wrap64 (l[k].toNat : Int) = (l[k].toNat : Int) := by unfold wrap64; omega
    have hws : IntKind.i64.wrap (v3 + (l[k].toNat : Int)) = v3 + (l[k].toNat : Int) := by rw [IntKind.wrap_i64]; omega
    have hi0 : (0 : Int) ≤ (k : Int) := by omega
    have hi1 : (k : Int) < (l.length : Int) := by omega
    have p1 := B1.frozen 1
    go_quiet (fail)
    go_wp2
    go_quiet (fail)
    go_wp2
    go_ret
    refine ⟨_, rfl, by rw [and255]; omega, by rw [and255]; omega, ⟨some ⟨b, off, none⟩, c, (k : Int) + 1, x2, ?_, ⟨by omega, by omega⟩, hr2, ?_, h5⟩, (k1.drewN _).setCell (by simp) _⟩
    · simpa [List.set] using ((B1.keep (Only.ofDrewN w1 _ [])).set 1 (.int .i64 ((k : Int) + 1)))
    · exact Rp.only r1 (fp' := [g]) ((Only.ofDrewN _ _ _).setCell (by simp) _) (fun b hb hm => h5 (by simp at hm; rwa [← hm]))
  · have hilb : decide ((k : Int) < (l.length : Int)) = false := decide_eq_false (by omega)
    go_quiet (fail)
    go_wp2
    go_ret
    exact ⟨v3, rfl, hr3.1, hr3.2, ⟨a, c, (k : Int), x2, B1.keep (by with_reducible repeat (first | exact Only.refl _ _ | assumption | refine Only.drewN ?_ _ | refine Only.drew ?_ | refine Only.alloc ?_ _ | refine Only.setCell ?_ (by intro hh; exfalso; simp at hh; try omega) _ | refine Only.trans ?_ (by assumption))), h2, hr2, Rp.keep r1 (by with_reducible repeat (first | exact Only.refl _ _ | assumption | refine Only.drewN ?_ _ | refine Only.drew ?_ | refine Only.alloc ?_ _ | refine Only.setCell ?_ (by intro hh; exfalso; simp at hh; try omega) _ | refine Only.trans ?_ (by assumption))), h5⟩, k1.trans (by with_reducible repeat (first | exact Only.refl _ _ | assumption | refine Only.drewN ?_ _ | refine Only.drew ?_))⟩
set_option maxHeartbeats 2000000 in
theorem srcBelow_any (g : Nat) (fc : List Nat) (l : List UInt8) (n : Int) (w : World) (h : Src w g fc l) (hl : l.length ≤ 4096) (hn : n ≤ 9223372036854775807) :
    Calls Tryz.prog 52 #[.pointer (some ⟨g, 0, none⟩), .int .i64 n] w fun e w' => ∃ r : Int, e = .returned (.int .i64 r) ∧ 0 ≤ r ∧ (r < n ∨ r = 0) ∧ Src w' g fc l ∧ Only [g] w w' := by
  by_cases h0 : n ≤ 0
  · go_enter Tryz.func52, Tryz.ntmps52
    go_wp2
    go_ret
    exact ⟨0, rfl, by omega, .inr rfl, h, Only.refl _ _⟩
  by_cases h1 : n ≤ 256
  · have hn0 : n ≠ 0 := by omega
    go_enter Tryz.func52, Tryz.ntmps52
    go_wp2_with (first
      | (go_at_call 94; (with_reducible refine (nextByte_any g fc l w h hl).mono ?_); rintro e w1 ⟨r, rfl, r0, r1, D1, K1⟩)
      | fail "no arm")
    go_ret
    exact ⟨r % n, rfl, Int.emod_nonneg _ hn0, .inl (Int.emod_lt_of_pos _ (by omega)), D1, K1⟩
  · have hn0 : n ≠ 0 := by omega
    go_enter Tryz.func52, Tryz.ntmps52
    go_wp2_with (first
      | (go_at_call 94; (with_reducible refine (nextByte_any g fc l w h hl).mono ?_); rintro e w1 ⟨r, rfl, r0, r1, D1, K1⟩)
      | (go_at_call 94; (with_reducible refine (nextByte_any g fc l w1 D1 hl).mono ?_); rintro e w2 ⟨r2, rfl, r20, r21, D2, K2⟩)
      | (go_at_call 94; (with_reducible refine (nextByte_any g fc l w2 D2 hl).mono ?_); rintro e w3 ⟨r3, rfl, r30, r31, D3, K3⟩)
      | (go_at_call 94; (with_reducible refine (nextByte_any g fc l w3 D3 hl).mono ?_); rintro e w4 ⟨r4, rfl, r40, r41, D4, K4⟩; have q1 : IntKind.i64.wrap (r * 16777216) = r * 16777216 := (by rw [IntKind.wrap_i64]; omega); have q2 : IntKind.i64.wrap (r2 * 65536) = r2 * 65536 := (by rw [IntKind.wrap_i64]; omega); have q3 : IntKind.i64.wrap (r * 16777216 + r2 * 65536) = r * 16777216 + r2 * 65536 := (by rw [IntKind.wrap_i64]; omega); have q4 : IntKind.i64.wrap (r3 * 256) = r3 * 256 := (by rw [IntKind.wrap_i64]; omega); have q5 : IntKind.i64.wrap (r * 16777216 + r2 * 65536 + r3 * 256) = r * 16777216 + r2 * 65536 + r3 * 256 := (by rw [IntKind.wrap_i64]; omega); have q6 : IntKind.i64.wrap (r * 16777216 + r2 * 65536 + r3 * 256 + r4) = r * 16777216 + r2 * 65536 + r3 * 256 + r4 := (by rw [IntKind.wrap_i64]; omega))
      | fail "no arm")
    go_ret
    exact ⟨(r * 16777216 + r2 * 65536 + r3 * 256 + r4) % n, rfl, Int.emod_nonneg _ hn0, .inl (Int.emod_lt_of_pos _ (by omega)), D4, ((K1.trans K2).trans K3).trans K4⟩
set_option maxHeartbeats 1000000 in
theorem oneIn_any (g : Nat) (fc : List Nat) (l : List UInt8) (n : Int) (w : World) (h : Src w g fc l) (hl : l.length ≤ 4096) (hn : n ≤ 9223372036854775807) :
    Calls Tryz.prog 25 #[.pointer (some ⟨g, 0, none⟩), .int .i64 n] w fun e w' => ∃ r : Bool, e = .returned (.bool r) ∧ Src w' g fc l ∧ Only [g] w w' := by
  go_enter Tryz.func25, Tryz.ntmps25
  go_wp2_with (first
    | (go_at_call 52; (with_reducible refine (srcBelow_any g fc l n w h hl hn).mono ?_); rintro e w1 ⟨r, rfl, r0, r1, D1, K1⟩)
    | fail "no arm")
  go_ret
  exact ⟨r == 0, rfl, D1, K1⟩
set_option maxHeartbeats 1000000 in
theorem between_rng (g : Nat) (fc : List Nat) (l : List UInt8) (lo hi : Int) (w : World) (h : Src w g fc l) (hl : l.length ≤ 4096) (h1 : lo ≤ hi) (h2 : -1000000 ≤ lo) (h3 : hi ≤ 1000000) :
    Calls Tryz.prog 67 #[.pointer (some ⟨g, 0, none⟩), .int .i64 lo, .int .i64 hi] w fun e w' => ∃ r : Int, e = .returned (.int .i64 r) ∧ lo ≤ r ∧ r ≤ hi ∧ Src w' g fc l ∧ Only [g] w w' := by
  have q1 : IntKind.i64.wrap (hi - lo) = hi - lo := by rw [IntKind.wrap_i64]; omega
  have q2 : IntKind.i64.wrap (hi - lo + 1) = hi - lo + 1 := by rw [IntKind.wrap_i64]; omega
  go_enter Tryz.func67, Tryz.ntmps67
  go_wp2_with (first
    | (go_at_call 52; (with_reducible refine (srcBelow_any g fc l (hi - lo + 1) w h hl (by omega)).mono ?_); rintro e w1 ⟨r, rfl, r0, r1, D1, K1⟩; have q3 : IntKind.i64.wrap (lo + r) = lo + r := (by rw [IntKind.wrap_i64]; omega))
    | fail "no arm")
  go_ret
  exact ⟨lo + r, rfl, by omega, by omega, D1, K1⟩
def extL : List Int := [-1, 0, 1, 2147483648, -2147483648, 1099511627776, 4611686018427387904, -4611686018427387904, 9223372036854775807, -9223372036854775808]
theorem extL_rng : ∀ y ∈ extL, I64 y := by intro y hy; simp [extL] at hy; unfold I64; omega
set_option maxHeartbeats 1000000 in
theorem extremeInt_any (g : Nat) (fc : List Nat) (l : List UInt8) (w : World) (h : Src w g fc l) (hl : l.length ≤ 4096) :
    Calls Tryz.prog 51 #[.pointer (some ⟨g, 0, none⟩)] w fun e w' => ∃ r : Int, e = .returned (.int .i64 r) ∧ I64 r ∧ Src w' g fc l ∧ Only [g] w w' := by
  have hlt := h.lt
  have hB := Blk.new w (extL.map (Value.int .i64)) 2
  have ho : Only [] w (w.alloc (.cells (extL.map (Value.int .i64)).toArray 2)) := (Only.refl _ _).alloc _
  go_enter Tryz.func51, Tryz.ntmps51
  go_wp2_with (first
    | (go_at_call 52; (with_reducible refine (srcBelow_any g fc l 10 _ (h.keep (by with_reducible repeat (first | exact Only.refl _ _ | assumption | refine Only.drewN ?_ _ | refine Only.drew ?_ | refine Only.alloc ?_ _ | refine Only.setCell ?_ (by intro hh; exfalso; simp at hh; try omega) _ | refine Only.trans ?_ (by assumption)))) hl (by omega)).mono ?_); rintro e w1 ⟨r, rfl, r0, r1, D1, K1⟩; obtain ⟨k, rfl⟩ := Int.eq_ofNat_of_zero_le r0; have hk : k < extL.length := (by show k < 10; omega); have hB1 := hB.only K1 (by simp; omega); have c1 := hB1.cell k (v := .int .i64 extL[k]) (by simp [hk]); have hk0 : (0 : Int) ≤ (k : Int) := (by omega); have hk1 : (k : Int) < 10 := (by omega))
    | fail "no arm")
  go_ret
  exact ⟨extL[k], rfl, extL_rng _ (List.getElem_mem _), D1, (ho.weaken [g]).trans K1⟩
end Go.Proofs.YtajkhdbdkjhilaaGreat

namespace Go.Proofs.YtajkhdbdkjhilaaGreat
open Go.RowKit
set_option maxRecDepth 10000

/-- one point more is laid into a permutation -/
theorem ins_isP {p : List Int} (h : PM.IsP p) {k : Nat} (_ : k ≤ p.length) : PM.IsP (p.take k ++ ((p.length : Int) :: p.drop k)) := by
  have hperm : (p.take k ++ ((p.length : Int) :: p.drop k)).Perm ((p.length : Int) :: p) := by
    have := List.perm_middle (l₁ := p.take k) (l₂ := p.drop k) (a := (p.length : Int))
    rwa [List.take_append_drop] at this
  have hl : (p.take k ++ ((p.length : Int) :: p.drop k)).length = p.length + 1 := by rw [hperm.length_eq]; rfl
  refine ⟨fun x hx => ?_, hperm.nodup_iff.2 (List.nodup_cons.2 ⟨fun hm => ?_, h.2⟩)⟩
  · rw [hl]
    rcases List.mem_cons.1 (hperm.mem_iff.1 hx) with rfl | hx
    · omega
    · have := h.1 x hx; omega
  · have := h.1 _ hm; omega
theorem IntsA.drop {w : World} {b off cap : Nat} {l : List Int} {fp : List Nat} (h : IntsA w (some ⟨b, off, none⟩) cap l fp) {k : Nat} (hk : k ≤ l.length) : IntsA w (some ⟨b, off + k, none⟩) (cap - k) (l.drop k) fp := by
  have hl := h.len
  have hc := h.cap
  refine ⟨by rw [List.length_drop]; omega, by omega, fun x hx => h.wf x (List.mem_of_mem_drop hx), fun i hi => ?_, h.lt, h.one⟩
  rw [List.length_drop] at hi
  obtain ⟨b', off', ha, hf, hcell⟩ := h.at_ (k + i) (by omega)
  injection ha with ha; injection ha with e1 e2; subst e1; subst e2
  refine ⟨b, off + k, rfl, hf, ?_⟩
  rw [Nat.add_assoc, List.getElem_drop]
  exact hcell

end Go.Proofs.YtajkhdbdkjhilaaGreat

namespace Go.Proofs.YtajkhdbdkjhilaaGreat
open Go.RowKit
set_option maxRecDepth 10000




end Go.Proofs.YtajkhdbdkjhilaaGreat

namespace Go.Proofs.YtajkhdbdkjhilaaGreat
open Go.RowKit
set_option maxRecDepth 10000
end Go.Proofs.YtajkhdbdkjhilaaGreat

namespace Go.Proofs.YtajkhdbdkjhilaaGreat
open Go.RowKit
set_option maxRecDepth 10000
end Go.Proofs.YtajkhdbdkjhilaaGreat

namespace Go.Proofs.YtajkhdbdkjhilaaGreat
open Go.RowKit
set_option maxRecDepth 10000

/-- what a search has met: lists of one length, as many depths -/
def Met16.ok (m : Nat) (s : Met16) : Prop := s.1.length = s.2.length ∧ s.1.length ≤ 3000 ∧ ∀ q ∈ s.1, q.length = m
end Go.Proofs.YtajkhdbdkjhilaaGreat

namespace Go.Proofs.YtajkhdbdkjhilaaGreat
open Go.RowKit
set_option maxRecDepth 10000

/-- the first letter of a descent -/
def dLet (x : Puzzle) (t : Table) (p : List Int) : Int := if checkT x t = true ∧ 0 ≤ idxL t.patterns p then descL x t p (atD t (idxL t.patterns p) - 1) else 0
/-- the word of a descent of at most n letters -/
def dW (x : Puzzle) (t : Table) : Nat → List Int → Option (List Int)
  | 0, p => if p = t.tracked then some [] else none
  | n + 1, p => if p = t.tracked then some [] else if dLet x t p = 0 then none else (dW x t n (nxt x p (dLet x t p))).map (dLet x t p :: ·)
theorem dLet_yes {x : Puzzle} {t : Table} {p : List Int} (h : checkT x t = true) (h2 : 0 ≤ idxL t.patterns p) : dLet x t p = descL x t p (atD t (idxL t.patterns p) - 1) := by unfold dLet; rw [if_pos ⟨h, h2⟩]
end Go.Proofs.YtajkhdbdkjhilaaGreat

namespace Go.Proofs.YtajkhdbdkjhilaaGreat
open Go.RowKit
set_option maxRecDepth 10000
theorem getD_get {α : Type} {l : List α} {z : α} {k : Nat} (h : k < l.length) : l.getD k z = l[k] := by
  rw [List.getD_eq_getElem?_getD, List.getElem?_eq_getElem h]; rfl
theorem nodup_at {α : Type} {l : List α} (h : l.Nodup) {i j : Nat} (hi : i < l.length) (hj : j < l.length) (e : l[i] = l[j]) : i = j := by
  rcases Nat.lt_trichotomy i j with h1 | h1 | h1
  · exact absurd e (List.pairwise_iff_getElem.1 h i j hi hj h1)
  · exact h1
  · exact absurd e.symm (List.pairwise_iff_getElem.1 h j i hj hi h1)
theorem ltrs_neg {n : Nat} {l : Int} (h : l ∈ ltrs n) : -l ∈ ltrs n := by
  rw [mem_ltrs] at h ⊢; omega
theorem mv_opp {n : Nat} {gens : List (List Int)} (hg : ∀ g ∈ gens, PM.PN n g) {l : Int} (h : l ∈ ltrs gens.length) : mv gens (-l) = PM.inv (mv gens l) := by
  rcases letter_cases h with ⟨k, hk, rfl⟩ | ⟨k, hk, rfl⟩
  · rw [mv_pos rfl hk, mv_neg (k := k) rfl hk]
  · rw [mv_neg rfl hk, mv_pos (k := k) (by omega) hk, PM.inv_inv (hg _ (List.getElem_mem hk))]
/-- a letter and its inverse -/
theorem nxt_back {x : Puzzle} {k : Nat} {q : List Int} {l : Int} (hv : validPz x = true) (hq : patB x.points k q = true) (h : l ∈ ltrs x.moves.length) : nxt x (nxt x q l) (-l) = q := by
  have hg := validPz_pn hv
  have hm := mv_pn hg h
  have hf := validPz_facts hv
  have hr := (patB_iff.1 hq).2.1
  unfold nxt
  rw [mv_opp hg h]
  show (q.map (PM.at_ (mv x.moves l))).map (PM.at_ (PM.inv (mv x.moves l))) = q
  rw [List.map_map]
  refine (List.map_congr_left fun z hz => ?_).trans (List.map_id q)
  have := hr z hz
  exact PM.at_inv hm this.1 (by omega)
/-- a search under way: the entries ahead of k are done, of the k-th the letters of done -/
structure BI (x : Puzzle) (tr : List Int) (k : Nat) (done : List Int) (s : Met16) : Prop where
  nd : s.1.Nodup
  dl : s.2.length = s.1.length
  p0 : s.1.getD 0 [] = tr
  d0 : s.2.getD 0 0 = 0
  ne : 0 < s.1.length
  mono : ∀ i j, i ≤ j → j < s.1.length → s.2.getD i 0 ≤ s.2.getD j 0
  top : k < s.1.length → ∀ i, i < s.1.length → s.2.getD i 0 ≤ s.2.getD k 0 + 1
  par : ∀ i, 0 < i → i < s.1.length → ∃ j l, j < i ∧ l ∈ ltrs x.moves.length ∧ nxt x (s.1.getD j []) l = s.1.getD i [] ∧ s.2.getD i 0 = s.2.getD j 0 + 1
  clo : ∀ j l, l ∈ ltrs x.moves.length → (j < k ∨ (j = k ∧ l ∈ done)) → j < s.1.length → ∃ i, i < s.1.length ∧ s.1.getD i [] = nxt x (s.1.getD j []) l ∧ s.2.getD i 0 ≤ s.2.getD j 0 + 1
  kl : k ≤ s.1.length
  pat : ∀ q ∈ s.1, patB x.points tr.length q = true
section
variable {x : Puzzle} {tr : List Int} {k : Nat} {done : List Int} {s s' : Met16}
theorem BI.start (hp : patB x.points tr.length tr = true) : BI x tr 0 [] ([tr], [0]) := by
  refine ⟨by simp, rfl, rfl, rfl, by simp, fun i j h1 h2 => ?_, fun _ i hi => ?_, fun i h1 h2 => ?_, fun j l h1 h2 => ?_, by simp, by simpa using hp⟩
  · have : j = 0 := by simpa using h2
    subst this
    have : i = 0 := by omega
    subst this; exact Int.le_refl _
  · have : i = 0 := by simpa using hi
    subst this; simp
  · have : i = 0 := by simpa using h2
    omega
  · rcases h2 with h2 | ⟨-, h2⟩
    · omega
    · cases h2
theorem BI.next (h : BI x tr k done s) (hk : k < s.1.length) (ha : ∀ l ∈ ltrs x.moves.length, l ∈ done) : BI x tr (k + 1) [] s := by
  refine ⟨h.nd, h.dl, h.p0, h.d0, h.ne, h.mono, fun h1 i hi => ?_, h.par, fun j l h1 h2 h3 => ?_, hk, h.pat⟩
  · have h2 := h.top hk i hi
    have h3 := h.mono k (k + 1) (by omega) h1
    omega
  · rcases h2 with h2 | ⟨-, h2⟩
    · by_cases hj : j < k
      · exact h.clo j l h1 (.inl hj) h3
      · obtain rfl : j = k := by omega
        exact h.clo j l h1 (.inr ⟨rfl, ha l h1⟩) h3
    · cases h2
end
/-- a table that was built -/
structure Built (x : Puzzle) (t : Table) : Prop where
  v : validPz x = true
  tk : trackB x.points t.tracked = true
  bi : BI x t.tracked t.patterns.length [] (t.patterns, t.distances)
  ll : t.patterns.length ≤ 3000
section
variable {x : Puzzle} {t : Table}
theorem Built.dep (h : Built x t) : ∀ i : Nat, i < t.patterns.length → 0 ≤ t.distances.getD i 0 ∧ t.distances.getD i 0 ≤ i ∧ (0 < i → 0 < t.distances.getD i 0) := by
  intro i
  induction i using Nat.strongRecOn with
  | ind i ih =>
    intro hi
    by_cases h0 : i = 0
    · subst h0
      have : t.distances.getD 0 0 = 0 := h.bi.d0
      omega
    · obtain ⟨j, l, a1, a2, a3, a4⟩ := h.bi.par i (by omega) hi
      have h1 := ih j a1 (Nat.lt_trans a1 hi)
      simp only at a4
      omega
/-- the entry of a letter -/
theorem Built.step (h : Built x t) {j : Nat} (hj : j < t.patterns.length) {l : Int} (hl : l ∈ ltrs x.moves.length) :
    ∃ i : Nat, i < t.patterns.length ∧ t.patterns.getD i [] = nxt x (t.patterns.getD j []) l ∧ t.distances.getD i 0 ≤ t.distances.getD j 0 + 1 ∧ t.distances.getD j 0 ≤ t.distances.getD i 0 + 1 := by
  obtain ⟨i, b1, b2, b3⟩ := h.bi.clo j l hl (.inl hj) hj
  obtain ⟨j', c1, c2, c3⟩ := h.bi.clo i (-l) (ltrs_neg hl) (.inl b1) b1
  simp only at b1 b2 b3 c1 c2 c3
  rw [b2, nxt_back h.v (h.bi.pat _ (by rw [getD_get hj]; exact List.getElem_mem hj)) hl] at c2
  have : j' = j := by
    rw [getD_get c1, getD_get hj] at c2
    have hnd : t.patterns.Nodup := h.bi.nd
    exact nodup_at hnd c1 hj c2
  subst this
  exact ⟨i, b1, b2, b3, c3⟩
theorem Built.idx (h : Built x t) {i : Nat} (hi : i < t.patterns.length) : idxL t.patterns (t.patterns.getD i []) = i := by
  refine idxF_some (j := i) hi (fun q hq => ?_) ?_
  · rw [List.mem_take_iff_getElem] at hq
    obtain ⟨k, hk, rfl⟩ := hq
    refine decide_eq_false fun e => ?_
    rw [getD_get hi] at e
    have hnd : t.patterns.Nodup := h.bi.nd
    have := nodup_at hnd (by omega) hi e
    omega
  · exact decide_eq_true (getD_get hi).symm
end
end Go.Proofs.YtajkhdbdkjhilaaGreat

namespace Go.Proofs.YtajkhdbdkjhilaaGreat
open Go.RowKit
set_option maxRecDepth 10000
/-- the patterns of reachable states are entries -/
theorem Built.reach {x : Puzzle} {t : Table} (h : Built x t) {s : List Int} (hs : reachB x s = true) : PM.comp t.tracked s ∈ t.patterns := by
  have hg := validPz_pn h.v
  have hf := validPz_facts h.v
  have htr := trackB_iff.1 h.tk
  have hG : PM.Grp x.points.toNat x.moves s := by
    unfold reachB memB at hs
    rw [Bool.and_eq_true] at hs
    exact @of_decide_eq_true _ (Classical.propDecidable _) hs.2
  have hr : ∀ z ∈ t.tracked, 0 ≤ z ∧ z < x.points.toNat := fun z hz => by have := htr.2.1 z hz; omega
  have h0 : t.patterns.getD 0 [] = t.tracked := h.bi.p0
  have hne : 0 < t.patterns.length := h.bi.ne
  have := PM.grp_sub (n := x.points.toNat) (G := x.moves) hg (S := fun p => PM.PN x.points.toNat p ∧ PM.comp t.tracked p ∈ t.patterns) (fun p hp => hp.1) ⟨PM.PN.id _, ?_⟩ ?_ hG
  · exact this.2
  · have e : PM.comp t.tracked (PM.pts x.points.toNat) = t.tracked := by
      unfold PM.comp
      refine (List.map_congr_left fun z hz => ?_).trans (List.map_id _)
      exact PM.at_pts (hr z hz).1 (hr z hz).2
    rw [e, ← h0, getD_get hne]
    exact List.getElem_mem hne
  · rintro p g ⟨hp, hm⟩ hgm
    refine ⟨hp.comp (hg g hgm), ?_⟩
    obtain ⟨k, hk, rfl⟩ := List.getElem_of_mem hgm
    obtain ⟨j, hj, e⟩ := List.getElem_of_mem hm
    have hl : ((k : Int) + 1) ∈ ltrs x.moves.length := mem_ltrs.2 ⟨by omega, by omega, by omega⟩
    obtain ⟨i, hi, e2, -⟩ := h.step hj hl
    have e3 : PM.comp t.tracked (PM.comp p x.moves[k]) = nxt x (PM.comp t.tracked p) ((k : Int) + 1) := by
      unfold nxt
      rw [mv_pos rfl hk]
      unfold PM.comp
      rw [List.map_map]
      refine List.map_congr_left fun z hz => ?_
      have := hr z hz
      exact PM.at_comp this.1 (by rw [hp.1]; omega)
    rw [e3, ← e, ← getD_get (z := []) hj, ← e2, getD_get hi]
    exact List.getElem_mem hi
end Go.Proofs.YtajkhdbdkjhilaaGreat

namespace Go.Proofs.YtajkhdbdkjhilaaGreat
open Go.RowKit
set_option maxRecDepth 10000

def Good (x : Puzzle) (t : Table) : Prop := ∀ i, i < t.patterns.length → entF x t i = []
theorem one_nil {b : Bool} {f : Fault} : one b f = [] ↔ b = false := by unfold one; cases b <;> simp
theorem faultsTo_nil {x : Puzzle} {t : Table} {k : Nat} : faultsTo x t k = [] ↔ ∀ i, i < k → entF x t i = [] := by
  unfold faultsTo
  rw [List.flatMap_eq_nil_iff]
  exact ⟨fun h i hi => h i (List.mem_range.2 hi), fun h i hi => h i (List.mem_range.1 hi)⟩
theorem tableFaults_nil {x : Puzzle} {t : Table} : tableFaults x t = [] ↔ checkT x t = true ∧ Good x t := by
  unfold tableFaults Good
  rw [← faultsTo_nil]
  split
  · rename_i h
    rw [List.take_eq_nil_iff]
    simp [h]
  · rename_i h
    simp [h]
theorem tableFaults_len0 {x : Puzzle} {t : Table} : (tableFaults x t).length = 0 ↔ checkT x t = true ∧ Good x t := by
  rw [List.length_eq_zero_iff]; exact tableFaults_nil
theorem descL_leads {x : Puzzle} {t : Table} {p : List Int} {d : Int} (h : descL x t p d ≠ 0) : descL x t p d ∈ ltrs x.moves.length ∧ leads x t p d (descL x t p d) = true := by
  unfold descL at h ⊢
  cases hf : (ltrs x.moves.length).find? (leads x t p d) with
  | none => rw [hf] at h; exact absurd rfl h
  | some l => exact ⟨List.mem_of_find?_eq_some hf, List.find?_some hf⟩
theorem descL_ne {x : Puzzle} {t : Table} {p : List Int} {d : Int} {l : Int} (hl : l ∈ ltrs x.moves.length) (h : leads x t p d l = true) : descL x t p d ≠ 0 := by
  unfold descL
  cases hf : (ltrs x.moves.length).find? (leads x t p d) with
  | none => have := List.find?_eq_none.1 hf l hl; rw [h] at this; exact absurd rfl this
  | some l' => exact (mem_ltrs.1 (List.mem_of_find?_eq_some hf)).1
theorem leads_iffD {x : Puzzle} {t : Table} {p : List Int} {d l : Int} : leads x t p d l = true ↔ 0 ≤ nextI x t p l ∧ atD t (nextI x t p l) = d := by
  unfold leads atD
  rw [Bool.and_eq_true, decide_eq_true_iff, decide_eq_true_iff]
section
variable {x : Puzzle} {t t' : Table}
/-- what an entry without faults says -/
theorem ent_nil {i : Nat} : entF x t i = [] ↔ (i = 0 → atD t 0 = 0 ∧ atP t 0 = t.tracked) ∧ (i : Int) ≤ idxL t.patterns (atP t i) ∧ (0 < i → atD t i ≠ 0) ∧
    (∀ l ∈ ltrs x.moves.length, 0 ≤ nextI x t (atP t i) l ∧ -1 ≤ atD t (nextI x t (atP t i) l) - atD t i ∧ atD t (nextI x t (atP t i) l) - atD t i ≤ 1) ∧ (0 < atD t i → descL x t (atP t i) (atD t i - 1) ≠ 0) := by
  unfold entF
  rw [List.append_eq_nil_iff, List.append_eq_nil_iff, List.append_eq_nil_iff, List.append_eq_nil_iff, one_nil, one_nil, one_nil, one_nil, List.flatMap_eq_nil_iff]
  have hl : ∀ l, letF x t i l = [] ↔ 0 ≤ nextI x t (atP t i) l ∧ -1 ≤ atD t (nextI x t (atP t i) l) - atD t i ∧ atD t (nextI x t (atP t i) l) - atD t i ≤ 1 := fun l => by
    unfold letF
    split
    · rename_i h; simp; omega
    · rename_i h
      split
      · rename_i h2; rw [inR_iff] at h2; simp; omega
      · rename_i h2; rw [inR_iff] at h2; simp; omega
  constructor
  · rintro ⟨a, b, c, d, e⟩
    refine ⟨fun h0 => ?_, ?_, fun h0 => ?_, fun l h => (hl l).1 (d l h), fun h0 h1 => ?_⟩
    · subst h0
      simp only [decide_true, Bool.true_and, Bool.or_eq_false_iff, decide_eq_false_iff_not] at a
      exact ⟨Decidable.of_not_not a.1, Decidable.of_not_not a.2⟩
    · have := of_decide_eq_false b; omega
    · intro h1; simp [h0, h1] at c
    · simp [h0, h1] at e
  · rintro ⟨a, b, c, d, e⟩
    refine ⟨?_, decide_eq_false (by omega), ?_, fun l h => (hl l).2 (d l h), ?_⟩
    · by_cases h0 : i = 0
      · subst h0; obtain ⟨a1, a2⟩ := a rfl
        simp [a1, a2]
      · simp [h0]
    · by_cases h0 : 0 < i
      · simp [h0, c h0]
      · simp [h0]
    · by_cases h0 : 0 < atD t i
      · simp [e h0]
      · simp [h0]
theorem atD_nat (i : Nat) : atD t i = t.distances.getD i 0 := by unfold atD; rw [Int.toNat_natCast]
theorem Built.good (h : Built x t) : Good x t := by
  intro i hi
  have hstep : ∀ l ∈ ltrs x.moves.length, ∃ i' : Nat, i' < t.patterns.length ∧ t.patterns.getD i' [] = nxt x (atP t i) l ∧ nextI x t (atP t i) l = i' ∧ atD t i' ≤ atD t i + 1 ∧ atD t i ≤ atD t i' + 1 := fun l hl => by
    obtain ⟨i', a1, a2, a3, a4⟩ := h.step hi hl
    refine ⟨i', a1, a2, ?_, by rw [atD_nat, atD_nat]; exact a3, by rw [atD_nat, atD_nat]; exact a4⟩
    show idxL t.patterns (nxt x (t.patterns.getD i []) l) = i'
    rw [← a2]; exact h.idx a1
  refine ent_nil.2 ⟨fun h0 => ?_, ?_, fun h0 => ?_, fun l hl => ?_, fun h0 => ?_⟩
  · have a := h.bi.d0; have b := h.bi.p0
    simp only at a b
    exact ⟨a, b⟩
  · rw [show atP t i = t.patterns.getD i [] from rfl, h.idx hi]; exact Int.le_refl _
  · have := (h.dep i hi).2.2 h0
    rw [atD_nat]; omega
  · obtain ⟨i', a1, a2, a3, a4, a5⟩ := hstep l hl
    rw [a3]; omega
  · have hi0 : 0 < i := by
      rcases Nat.eq_zero_or_pos i with h1 | h1
      · subst h1
        have := h.bi.d0
        simp only at this
        rw [atD_nat, this] at h0; omega
      · exact h1
    obtain ⟨j, l, a1, a2, a3, a4⟩ := h.bi.par i hi0 hi
    simp only at a3 a4
    have hj : j < t.patterns.length := by omega
    have hjm : t.patterns.getD j [] ∈ t.patterns := by rw [getD_get hj]; exact List.getElem_mem hj
    have hb : nxt x (atP t i) (-l) = t.patterns.getD j [] := by
      rw [show atP t i = t.patterns.getD i [] from rfl, ← a3]
      exact nxt_back h.v (h.bi.pat _ hjm) a2
    refine descL_ne (ltrs_neg a2) (leads_iffD.2 ?_)
    have hn : nextI x t (atP t i) (-l) = j := by
      show idxL t.patterns (nxt x (atP t i) (-l)) = j
      rw [hb]; exact h.idx hj
    rw [hn, atD_nat, atD_nat]
    omega
theorem Built.check (h : Built x t) : checkT x t = true := by
  obtain ⟨h1, h2, h3, h4⟩ := validPz_facts h.v
  have h5 := trackB_iff.1 h.tk
  have hd := h.bi.dl
  simp only at hd
  have h20 : ∀ p, patB x.points t.tracked.length p = true → patB 20 t.tracked.length p = true := fun p hp => by
    obtain ⟨a, b, c⟩ := patB_iff.1 hp
    exact patB_iff.2 ⟨a, fun y hy => by have := b y hy; omega, c⟩
  refine checkT_iff.2 ⟨h.v, wfT_iff.2 ⟨trackB_iff.2 ⟨h5.1, fun y hy => by have := h5.2.1 y hy; omega, h5.2.2⟩, ⟨?_, ?_⟩, hd, fun p hp => h20 p (h.bi.pat p hp), fun d hdm => ?_⟩, h.tk, h.bi.pat⟩
  · have := h.bi.ne; simp only at this; omega
  · have := h.ll; omega
  · obtain ⟨i, hi, rfl⟩ := List.getElem_of_mem hdm
    have hil : i < t.patterns.length := by omega
    have := h.dep i hil
    rw [getD_get hi] at this
    have := h.ll
    rw [inR_iff]; omega
theorem Good.dist0 (_ : Good x t) (hc : checkT x t = true) : ∀ i : Nat, i < t.patterns.length → 0 ≤ atD t i := fun i hi => by
  have hw := wfT_iff.1 (checkT_iff.1 hc).2.1
  have hi' : i < t.distances.length := by omega
  rw [atD_nat, getD_get hi']
  have := inR_iff.1 (hw.2.2.2.2 _ (List.getElem_mem hi')); omega
/-- two tables without faults, with the same patterns, have the same distances: one half -/
theorem Good.le (h : Good x t) (hc : checkT x t = true) (h' : Good x t') (hc' : checkT x t' = true) (hp : t'.patterns = t.patterns) : ∀ (n : Nat) (i : Nat), i < t.patterns.length → atD t i = n → atD t' i ≤ n
  | 0, i, hi, hd => by
    have e := ent_nil.1 (h i hi)
    have e' := ent_nil.1 (h' i (by rw [hp]; exact hi))
    have h0 : i = 0 := by
      rcases Nat.eq_zero_or_pos i with h1 | h1
      · exact h1
      · exact absurd (by simpa using hd) (e.2.2.1 h1)
    subst h0
    have := (e'.1 rfl).1
    have e0 : atD t' ((0 : Nat) : Int) = 0 := this
    rw [e0]; exact Int.le_refl _
  | n + 1, i, hi, hd => by
    have e := ent_nil.1 (h i hi)
    have e' := ent_nil.1 (h' i (by rw [hp]; exact hi))
    have hne := e.2.2.2.2 (by rw [hd]; omega)
    obtain ⟨hl, hlead⟩ := descL_leads hne
    obtain ⟨a1, a2⟩ := leads_iffD.1 hlead
    obtain ⟨b1, b2, b3⟩ := e'.2.2.2.1 _ hl
    have hn : nextI x t' (atP t' i) (descL x t (atP t i) (atD t i - 1)) = nextI x t (atP t i) (descL x t (atP t i) (atD t i - 1)) := by
      unfold nextI atP; rw [hp]
    have hlt := (idxL_lt (l := t.patterns) (p := nxt x (atP t i) (descL x t (atP t i) (atD t i - 1)))).2
    obtain ⟨j, hj⟩ : ∃ j : Nat, nextI x t (atP t i) (descL x t (atP t i) (atD t i - 1)) = j := ⟨_, (Int.toNat_of_nonneg a1).symm⟩
    have hjl : j < t.patterns.length := by unfold nextI at hj; omega
    rw [hn, hj] at b2 b3
    rw [hj] at a2
    have := Good.le h hc h' hc' hp n j hjl (by rw [a2, hd]; omega)
    omega
theorem Good.same (h : Good x t) (hc : checkT x t = true) (h' : Good x t') (hc' : checkT x t' = true) (hp : t'.patterns = t.patterns) {i : Nat} (hi : i < t.patterns.length) : atD t i = atD t' i := by
  have h1 := h.dist0 hc i hi
  have h2 := h'.dist0 hc' i (by rw [hp]; exact hi)
  have a := Good.le h hc h' hc' hp (atD t i).toNat i hi (by omega)
  have b := Good.le h' hc' h hc hp.symm (atD t' i).toNat i (by rw [hp]; exact hi) (by omega)
  omega
/-- one distance changed -/
theorem Built.changed (h : Built x t) {k : Nat} (hk : k < t.distances.length) {d : Int} (hd : d ≠ t.distances.getD k 0) : (tableFaults x ⟨t.tracked, t.patterns, t.distances.set k d⟩).length ≠ 0 := by
  intro h0
  obtain ⟨hc, hg⟩ := tableFaults_len0.1 h0
  have hdl := h.bi.dl
  simp only at hdl
  have hi : k < t.patterns.length := by omega
  have := Good.same h.good h.check hg hc rfl hi
  rw [atD_nat, atD_nat] at this
  apply hd
  rw [this]
  show d = (t.distances.set k d).getD k 0
  rw [getD_get (by simpa using hk)]
  simp
end
end Go.Proofs.YtajkhdbdkjhilaaGreat

namespace Go.Proofs.YtajkhdbdkjhilaaGreat
open Go.RowKit
set_option maxRecDepth 10000

section
variable {x : Puzzle} {t : Table}
theorem idxL_getD {l : List (List Int)} {p : List Int} (h : 0 ≤ idxL l p) : l.getD (idxL l p).toNat [] = p := by
  rcases idxF_nonneg_or (fun q => decide (q = p)) l with h1 | ⟨k, hk, h1, h2⟩
  · unfold idxL at h; omega
  · unfold idxL
    rw [h1, Int.toNat_natCast, getD_get hk]
    exact of_decide_eq_true h2
theorem Built.root (h : Built x t) {i : Nat} (hi : i < t.patterns.length) : t.patterns.getD i [] = t.tracked ↔ i = 0 := by
  have h0 : t.patterns.getD 0 [] = t.tracked := h.bi.p0
  constructor
  · intro e
    rw [← h0, getD_get hi, getD_get (by omega)] at e
    have hnd : t.patterns.Nodup := h.bi.nd
    exact nodup_at hnd hi (by omega) e
  · rintro rfl; exact h0
theorem Built.dLet_ (h : Built x t) {i : Nat} (hi : i < t.patterns.length) : dLet x t (t.patterns.getD i []) = descL x t (t.patterns.getD i []) (atD t i - 1) := by
  have hx := h.idx hi
  rw [dLet_yes h.check (by rw [hx]; omega), hx]
theorem Built.word (h : Built x t) : ∀ (n m i : Nat), i < t.patterns.length → atD t i = n → n ≤ m →
    ∃ w, dW x t m (t.patterns.getD i []) = some w ∧ w.length = n ∧ (∀ l ∈ w, l ∈ ltrs x.moves.length) ∧ w.foldl (nxt x) (t.patterns.getD i []) = t.tracked
  | 0, m, i, hi, hd, hm => by
    have h0 : i = 0 := by
      rcases Nat.eq_zero_or_pos i with h1 | h1
      · exact h1
      · have := (h.dep i hi).2.2 h1
        rw [atD_nat] at hd; omega
    have hr := (h.root hi).2 h0
    refine ⟨[], ?_, rfl, by simp, hr⟩
    cases m <;> (unfold dW; rw [if_pos hr])
  | n + 1, 0, i, hi, hd, hm => by omega
  | n + 1, m + 1, i, hi, hd, hm => by
    have hr : t.patterns.getD i [] ≠ t.tracked := fun e => by
      have := (h.root hi).1 e
      subst this
      have h0 : t.distances.getD 0 0 = 0 := h.bi.d0
      rw [atD_nat, h0] at hd; omega
    have hg := ent_nil.1 (h.good i hi)
    have hne : descL x t (t.patterns.getD i []) (atD t i - 1) ≠ 0 := hg.2.2.2.2 (by rw [hd]; omega)
    obtain ⟨hl, hlead⟩ := descL_leads hne
    obtain ⟨a1, a2⟩ := leads_iffD.1 hlead
    rw [← h.dLet_ hi] at hl a1 a2 hne
    have hj : t.patterns.getD (nextI x t (t.patterns.getD i []) (dLet x t (t.patterns.getD i []))).toNat [] = nxt x (t.patterns.getD i []) (dLet x t (t.patterns.getD i [])) := idxL_getD a1
    have hlt := (idxL_lt (l := t.patterns) (p := nxt x (t.patterns.getD i []) (dLet x t (t.patterns.getD i [])))).2
    obtain ⟨j, hjj⟩ : ∃ j : Nat, nextI x t (t.patterns.getD i []) (dLet x t (t.patterns.getD i [])) = j := ⟨_, (Int.toNat_of_nonneg a1).symm⟩
    rw [hjj] at a2 hj
    rw [Int.toNat_natCast] at hj
    have hjl : j < t.patterns.length := by unfold nextI at hjj; omega
    obtain ⟨w, b1, b2, b3, b4⟩ := Built.word h n m j hjl (by rw [a2, hd]; omega) (by omega)
    refine ⟨dLet x t (t.patterns.getD i []) :: w, ?_, by simp [b2], ?_, ?_⟩
    · show (if _ then _ else _) = _
      rw [if_neg hr, if_neg hne, ← hj, b1]; rfl
    · intro l hl2
      rcases List.mem_cons.1 hl2 with rfl | hl2
      · exact hl
      · exact b3 l hl2
    · rw [List.foldl_cons, ← hj]; exact b4
theorem Built.letter (h : Built x t) {i : Nat} (hi : i < t.patterns.length) : dLet x t (t.patterns.getD i []) = 0 ↔ atD t i = 0 := by
  have h0 := (h.dep i hi).1
  rw [← atD_nat] at h0
  rw [h.dLet_ hi]
  have hg := ent_nil.1 (h.good i hi)
  constructor
  · intro e
    rcases Int.lt_or_le 0 (atD t i) with h1 | h1
    · exact absurd e (hg.2.2.2.2 h1)
    · omega
  · intro e
    rcases Decidable.em (descL x t (t.patterns.getD i []) (atD t i - 1) = 0) with h1 | h1
    · exact h1
    · obtain ⟨-, hlead⟩ := descL_leads h1
      obtain ⟨a1, a2⟩ := leads_iffD.1 hlead
      have hlt := (idxL_lt (l := t.patterns) (p := nxt x (t.patterns.getD i []) (descL x t (t.patterns.getD i []) (atD t i - 1)))).2
      obtain ⟨j, hj⟩ : ∃ j : Nat, nextI x t (t.patterns.getD i []) (descL x t (t.patterns.getD i []) (atD t i - 1)) = j := ⟨_, (Int.toNat_of_nonneg a1).symm⟩
      have hjl : j < t.patterns.length := by unfold nextI at hj; omega
      rw [hj, atD_nat] at a2
      have := (h.dep j hjl).1
      omega
end
/-- so many patterns at most -/
theorem BI.bound {x : Puzzle} {tr : List Int} {k : Nat} {done : List Int} {s : Met16} (h : BI x tr k done s) : s.1.length ≤ (PM.allL (PM.pts x.points.toNat) tr.length).length := by
  refine PM.nodup_sub_len h.nd fun q hq => ?_
  obtain ⟨a, b, -⟩ := patB_iff.1 (h.pat q hq)
  rw [← a]
  exact PM.mem_allL q fun y hy => PM.mem_pts.2 (by have := b y hy; omega)
end Go.Proofs.YtajkhdbdkjhilaaGreat

namespace Go.Proofs.YtajkhdbdkjhilaaGreat
open Go.RowKit
set_option maxRecDepth 10000
theorem grp_nxt {x : Puzzle} (hv : validPz x = true) {s : List Int} (hs : PM.Grp x.points.toNat x.moves s) {l : Int} (hl : l ∈ ltrs x.moves.length) : PM.Grp x.points.toNat x.moves (nxt x s l) := by
  have h3 := validPz_pn hv
  refine PM.Grp.comp h3 hs ?_
  rcases letter_cases hl with ⟨k, hk, rfl⟩ | ⟨k, hk, rfl⟩
  · rw [mv_pos rfl hk]; exact PM.Grp.gen h3 (List.getElem_mem hk)
  · rw [mv_neg (k := k) rfl hk]; exact PM.Grp.gen_inv h3 (List.getElem_mem hk)
theorem BI.grp {x : Puzzle} {k : Nat} {done : List Int} {s : Met16} (hv : validPz x = true) (h : BI x (PM.pts x.points.toNat) k done s) : ∀ i, i < s.1.length → PM.Grp x.points.toNat x.moves (s.1.getD i []) := by
  intro i
  induction i using Nat.strongRecOn with
  | ind i ih =>
    intro hi
    by_cases h0 : i = 0
    · subst h0; rw [h.p0]; exact .id
    · obtain ⟨j, l, a1, a2, a3, -⟩ := h.par i (by omega) hi
      rw [← a3]
      exact grp_nxt hv (ih j a1 (Nat.lt_trans a1 hi)) a2
section
variable {x : Puzzle} {t : Table}
end
end Go.Proofs.YtajkhdbdkjhilaaGreat

namespace Go.Proofs.YtajkhdbdkjhilaaGreat
open Go.RowKit
set_option maxRecDepth 10000
end Go.Proofs.YtajkhdbdkjhilaaGreat

namespace Go.Proofs.YtajkhdbdkjhilaaGreat
open Go.RowKit
set_option maxRecDepth 10000
end Go.Proofs.YtajkhdbdkjhilaaGreat

namespace Go.Proofs.YtajkhdbdkjhilaaGreat
open Go.RowKit
set_option maxRecDepth 10000
section
variable {n : Nat} {gens : List (List Int)} {G : PM.Gens} {T : PM.Rows} (h : PM.Chain n gens G T) (hn : 0 < n) (hp : ∀ g ∈ gens, PM.PN n g)
end
end Go.Proofs.YtajkhdbdkjhilaaGreat

namespace Go.Proofs.YtajkhdbdkjhilaaGreat
open Go.RowKit
set_option maxRecDepth 10000
theorem AccI.low2 {B B' : Nat} {e : TypeId} {w : World} {v : Value} {l : List Int} (h : AccI B e w v l) (hB : B' ≤ B) : AccI B' e w v l := by
  obtain ⟨h1, h2⟩ := h.row
  refine AccI.ofRow ⟨h1.1, ?_⟩ h2
  rcases h1.2 with h3 | ⟨g, cap, cur, h3, h4, h5⟩
  · exact .inl h3
  · exact .inr ⟨g, cap, cur, h3, Nat.le_trans hB h4, h5⟩
end Go.Proofs.YtajkhdbdkjhilaaGreat

namespace Go.Proofs.YtajkhdbdkjhilaaGreat
open Go.RowKit
set_option maxRecDepth 10000

theorem row_keep {w w' : World} {B : Nat} {e : TypeId} {size n : Nat} {v : Value} {xs : List Value} (h : w.ownsRow B e size v n xs) (ho : Only [] w w') : w'.ownsRow B e size v n xs := by
  refine ⟨h.1, ?_⟩
  rcases h.2 with ⟨rfl, h0⟩ | ⟨g, cp, cur, rfl, hb, hg, hrest⟩
  · exact .inl ⟨rfl, h0⟩
  · exact .inr ⟨g, cp, cur, rfl, hb, by rw [ho.block g (Array.getElem?_eq_some_iff.1 hg).1 (by simp)]; exact hg, hrest⟩
section
variable {P : Program} (w : World)
/-- an append as one step of a region that draws its order -/
theorem step_app {ops : Array Oper} {o : Oper} {a : Act} {K : Act → World → Prop} {Q : Exit → Act → World → Prop} {E : Prop} (hgd : o.guard = none) (s x : Operand) (t : TypeId)
    (ho : o.op = .call { callee := .builtin .append, args := #[s, x], argTypes := #[t, t] })
    (base : Nat) (e : TypeId) (i : TypeInfo) (z : Value) (size bytes : Nat) (ht : P.underlying t = some (.slice e)) (hi : P.info? e = some i) (hz : i.zero = some z)
    (hsize : i.size = size) (hby : i.bytes = bytes) (hzs : z.cells.size = size) (hsz : 0 < size)
    (v : Value) (n : Nat) (xs : List Value) (hs : a.eval s = v) (hown : w.ownsRow base e size v n xs)
    (A : Option Addr) (m c : Nat) (news : List Value) (hx : a.eval x = .slice A m c) (hl : news.length = m * size) (hsrc : ∀ ad, A = some ad → ∀ j u, news[j]? = some u → w.cell? (ad.add j) = some u) (hA : A = none → m = 0) (h1 : ∀ u ∈ news, u.oneCell' = true)
    (h63 : n + m ≤ maxLen) (hbytes : (n + m) * bytes ≤ 140737488355328) (hbase : base ≤ w.heap.size)
    (h : ∀ v' w', w'.ownsRow base e size v' (n + m) (xs ++ news) → w.grownBy w' v.ownBlock → (v'.ownBlock = v.ownBlock ∨ v'.ownBlock = some w.heap.size) → K (a.put o.dst v') w') : if Region.wanted o (yielded ops a.tmps) = true then Oper.wp P o a w K Q else E := by
  have hw : Region.wanted o (yielded ops a.tmps) = true := by simp [Region.wanted, hgd]
  rw [if_pos hw]
  exact wp_app w s x t ho base e i z size bytes ht hi hz hsize hby hzs hsz v n xs hs hown A m c news hx hl hsrc hA h1 h63 hbytes hbase h
end
set_option maxHeartbeats 4000000 in
theorem drawPerm_any (g : Nat) (fc : List Nat) (l : List UInt8) (n : Nat) (w : World) (h : Src w g fc l) (hn : n ≤ 1000) (hl : l.length ≤ 4096) :
    Calls Tryz.prog 110 #[.pointer (some ⟨g, 0, none⟩), .int .i64 n] w fun e w' => ∃ v p, e = .returned v ∧ AccI w.heap.size 2 w' v p ∧ PM.PN n p ∧ Src w' g fc l ∧ Only [g] w w' := by
  obtain ⟨i0, hi, hz0, hz1, hz2⟩ := info_parts Tryz.info2
  go_enter Tryz.func110, Tryz.ntmps110
  go_wp2
  go_loopw [5, 6] (fun o i wr => ∃ (j : Nat) (p : List Int) (fp : List Nat), j ≤ n ∧ i = .int .i64 j ∧ (∃ b off c, o = .slice (some ⟨b, off, none⟩) p.length c ∧ IntsA wr (some ⟨b, off, none⟩) c p fp) ∧ AccI w.heap.size 2 wr o p ∧ PM.PN j p ∧ Fresh w.heap.size wr fp ∧ Src wr g fc l ∧ Only [g] w wr)
    (fun _ i _ => n - (intOf i).toNat)
  case atStart => exact ⟨0, [], [], Nat.zero_le _, rfl, ⟨w.heap.size, 0, 0, rfl, IntsA.nil _ _ (by simp [maxLen])⟩, AccI.made w w.heap.size _ rfl (Nat.le_refl _), ⟨rfl, by simp [PM.IsP]⟩, Fresh.nil _ _, h.keep ((Only.refl _ _).alloc _), (Only.refl _ _).alloc _⟩
  case round =>
    obtain ⟨W2, hnew⟩ : ∃ W, W = wr := ⟨_, rfl⟩
    subst hnew
    obtain ⟨j, p, fp, hj, rfl, ⟨b, off, c, rfl, I⟩, hA, hp, hF, hD, hK⟩ := hrel
    by_cases hlt : j < n
    · have hwj : IntKind.i64.wrap ((j : Int) + 1) = (j : Int) + 1 := by rw [IntKind.wrap_i64]; omega
      go_upto_region 6 with ((go_at_call 52; (with_reducible refine (srcBelow_any g fc l ((j : Int) + 1) _ hD hl (by omega)).mono ?_); rintro e w3 ⟨r, rfl, q1, q2, D3, K3⟩))
      obtain ⟨k, rfl⟩ := Int.eq_ofNat_of_zero_le q1
      have hpl := hp.1
      have hcap := I.len
      have hkp : k ≤ p.length := by omega
      have hkc : k ≤ c := by omega
      have hkp' : (k : Int) ≤ (p.length : Int) := by omega
      have hkc' : (k : Int) ≤ (c : Int) := by omega
      have hc0 : (p.length : Int) ≤ (c : Int) := by omega
      have Hpl := Lib.hid hpl
      have Hp := Lib.hid hp
      clear hpl hp hA
      have K3' : Only [g] w w3 := hK.trans K3
      have hg := h.lt
      have I3 := I.only K3 (fun b hb hm => by have := hF.ge b hb; simp at hm; omega)
      have hk0 : (0 : Int) ≤ (k : Int) := by omega
      have hlk : (p.take k).length = k := by rw [List.length_take]; omega
      have HK := Lib.hid hlk
      clear hlk
      have hTk : Rd w3 (.slice (some ⟨b, off, none⟩) k c) (p.take k) fp := by
        have := (I3.take k).rd
        rwa [HK.out] at this
      have hTl : (p.take k).length ≤ 1073741824 := by have := HK.out; omega
      have hj1000 : j ≤ 1000 := by omega
      have hpl1 : p.length ≤ 1000 := by have := Hpl.out; omega
      have hend : ∀ v6 w6, w6.ownsRow w3.heap.size 2 1 v6 (k + 1 + (p.length - k)) (((p.take k).map (Value.int .i64) ++ [.int .i64 (j : Int)]) ++ (p.drop k).map (Value.int .i64)) → Only [] w3 w6 →
          ∃ (p' : List Int) (fp' : List Nat), (∃ b off c, v6 = .slice (some ⟨b, off, none⟩) p'.length c ∧ IntsA w6 (some ⟨b, off, none⟩) c p' fp') ∧ AccI w.heap.size 2 w6 v6 p' ∧ PM.PN (j + 1) p' ∧ Fresh w.heap.size w6 fp' ∧ Src w6 g fc l ∧ Only [g] w w6 := fun v6 w6 hO ho => by
        have hcells : ((p.take k).map (Value.int .i64) ++ [Value.int .i64 (j : Int)]) ++ (p.drop k).map (Value.int .i64) = (p.take k ++ ((p.length : Int) :: p.drop k)).map (Value.int .i64) := by
          rw [Hpl.out]; simp
        rw [hcells] at hO
        have hP := ins_isP Hp.out.2 hkp
        have hlen : (p.take k ++ ((p.length : Int) :: p.drop k)).length = j + 1 := by
          rw [List.length_append, List.length_cons, HK.out, List.length_drop]; have := Hpl.out; omega
        have hwf : ∀ x ∈ p.take k ++ ((p.length : Int) :: p.drop k), I64 x := fun x hx => by have := hP.1 x hx; rw [hlen] at this; unfold I64; omega
        have hn6 : k + 1 + (p.length - k) = (p.take k ++ ((p.length : Int) :: p.drop k)).length := by rw [hlen]; have := Hpl.out; omega
        rw [hn6] at hO
        have hA6 := (AccI.ofRow hO hwf).low2 K3'.size
        obtain ⟨a6, c6, hv6, -, I6, F6⟩ := own_ints hO hwf
        obtain ⟨b6, o6, ha6, -, -⟩ := I6.at_ 0 (by rw [hlen]; omega)
        subst ha6
        exact ⟨_, _, ⟨b6, o6, c6, hv6, I6⟩, hA6, ⟨hlen, hP⟩, F6.mono K3'.size, D3.keep ho, K3'.keepThen ho⟩
      have HcC : Hid (∀ V : World, Only [] w3 V → Calls Tryz.prog 75 #[.slice (some ⟨b, off, none⟩) k c] V fun e w' => ∃ a4 q4, e = .returned (.slice a4 k q4) ∧ w'.ownsRow w3.heap.size 2 1 (.slice a4 k q4) k ((p.take k).map (Value.int .i64)) ∧ Only [] V w') := Lib.hid (fun V hV => by
        refine (copyInts_aI (.slice (some ⟨b, off, none⟩) k c) (p.take k) fp V (Rp.keep hTk hV) hTl).mono ?_
        rintro e w' ⟨v4, rfl, hA4, o4⟩
        have hO4 := (hA4.low2 hV.size).row.1
        rw [HK.out] at hO4
        obtain ⟨a4, q4, e4⟩ := hA4.form
        rw [HK.out] at e4
        subst e4
        exact ⟨a4, q4, rfl, hO4, o4⟩)
      by_cases hck : c = k
      · subst hck
        have hd0 : p.drop c = [] := List.drop_eq_nil_of_le (by omega)
        have Hd0 := Lib.hid hd0
        clear hd0
        go_region_law (first
          | (go_simp; go_at_call 75; (with_reducible refine (HcC.out _ (by with_reducible repeat (first | exact Only.refl _ _ | assumption | refine Only.drewN ?_ _ | refine Only.drew ?_ | refine Only.alloc ?_ _ | refine Only.trans ?_ (by assumption)))).mono ?_); rintro en w4 ⟨a4, q4, rfl, hO4, o4⟩; have o4w : Only [] w3 w4 := Only.trans (by with_reducible repeat (first | exact Only.refl _ _ | assumption | refine Only.drewN ?_ _ | refine Only.drew ?_ | refine Only.alloc ?_ _ | refine Only.trans ?_ (by assumption))) o4)
          | (refine step_app _ rfl (.tmp 21) (.tmp 23) 27 rfl w3.heap.size 2 i0 _ 1 8 Tryz.underlying27 hi hz0 hz1 hz2 rfl (by omega) (.slice a4 c q4) c ((p.take c).map (Value.int .i64)) rfl (row_keep hO4 (by with_reducible repeat (first | exact Only.refl _ _ | assumption | refine Only.drewN ?_ _ | refine Only.drew ?_ | refine Only.alloc ?_ _ | refine Only.trans ?_ (by assumption)))) _ 1 1 [.int .i64 (j : Int)] rfl rfl (by first | exact lit_srcA _ [.int .i64 (j : Int)] 2 rfl | exact (fun ad hh j1 u hu => o4.cell (by simp) (lit_srcA _ [.int .i64 (j : Int)] 2 rfl ad hh j1 u hu))) (by intro hh; cases hh) (by intro u hu; simp at hu; subst hu; rfl) (by unfold maxLen; omega) (by omega) (Only.size (fp := []) (by with_reducible repeat (first | exact Only.refl _ _ | assumption | refine Only.drewN ?_ _ | refine Only.drew ?_ | refine Only.alloc ?_ _ | refine Only.trans ?_ (by assumption)))) ?_; intro v5 w5 hO5 hg5 hb5; have o5 : Only [] w3 w5 := Only.grown (by with_reducible repeat (first | exact Only.refl _ _ | assumption | refine Only.drewN ?_ _ | refine Only.drew ?_ | refine Only.alloc ?_ _ | refine Only.trans ?_ (by assumption))) hg5 (by intro z hz hzl; have := (hO4.lt z hz).1; omega); have ID := (I3.keep o5).drop hkp; have s5 := ints_src ID; have hdl : ((p.drop c).map (Value.int .i64)).length = (p.length - c) * 1 := (by simp); have Hdl := Lib.hid hdl; clear hdl)
          | (refine step_app _ rfl (.tmp 24) (.tmp 27) 27 rfl w3.heap.size 2 i0 _ 1 8 Tryz.underlying27 hi hz0 hz1 hz2 rfl (by omega) v5 (c + 1) ((p.take c).map (Value.int .i64) ++ [.int .i64 (j : Int)]) rfl (row_keep hO5 (by with_reducible repeat (first | exact Only.refl _ _ | assumption | refine Only.drewN ?_ _ | refine Only.drew ?_ | refine Only.alloc ?_ _ | refine Only.trans ?_ (by assumption)))) (some ⟨b, off, none⟩) 0 0 [] rfl rfl (by intro ad hh j1 u hu; simp at hu) (by intro hh; cases hh) (by intro u hu; simp at hu) (by unfold maxLen; omega) (by omega) (Only.size (fp := []) (by with_reducible repeat (first | exact Only.refl _ _ | assumption | refine Only.drewN ?_ _ | refine Only.drew ?_ | refine Only.alloc ?_ _ | refine Only.trans ?_ (by assumption)))) ?_; intro v6 w6 hO6 hg6 hb6; have o6 : Only [] w3 w6 := Only.grown (by with_reducible repeat (first | exact Only.refl _ _ | assumption | refine Only.drewN ?_ _ | refine Only.drew ?_ | refine Only.alloc ?_ _ | refine Only.trans ?_ (by assumption))) hg6 (by intro z hz hzl; have := (hO5.lt z hz).1; omega))
          | fail "no arm")
        all_goals (
          have hfin := hend v6 w6 (by have e : p.length - c = 0 := (by omega); rw [e, Hd0.out]; simpa using hO6) o6
          obtain ⟨p', fp', e1, e2, e3, e4, e5, e6⟩ := hfin
          go_wp2_with fail
          exact ⟨⟨j + 1, p', fp', by omega, by go_num, e1, e2, e3, e4, e5, e6⟩, by simp [intOf]; omega⟩)
      · go_region_law (first
          | (go_simp; go_at_call 75; (with_reducible refine (HcC.out _ (by with_reducible repeat (first | exact Only.refl _ _ | assumption | refine Only.drewN ?_ _ | refine Only.drew ?_ | refine Only.alloc ?_ _ | refine Only.trans ?_ (by assumption)))).mono ?_); rintro en w4 ⟨a4, q4, rfl, hO4, o4⟩; have o4w : Only [] w3 w4 := Only.trans (by with_reducible repeat (first | exact Only.refl _ _ | assumption | refine Only.drewN ?_ _ | refine Only.drew ?_ | refine Only.alloc ?_ _ | refine Only.trans ?_ (by assumption))) o4)
          | (refine step_app _ rfl (.tmp 21) (.tmp 23) 27 rfl w3.heap.size 2 i0 _ 1 8 Tryz.underlying27 hi hz0 hz1 hz2 rfl (by omega) (.slice a4 k q4) k ((p.take k).map (Value.int .i64)) rfl (row_keep hO4 (by with_reducible repeat (first | exact Only.refl _ _ | assumption | refine Only.drewN ?_ _ | refine Only.drew ?_ | refine Only.alloc ?_ _ | refine Only.trans ?_ (by assumption)))) _ 1 1 [.int .i64 (j : Int)] rfl rfl (by first | exact lit_srcA _ [.int .i64 (j : Int)] 2 rfl | exact (fun ad hh j1 u hu => o4.cell (by simp) (lit_srcA _ [.int .i64 (j : Int)] 2 rfl ad hh j1 u hu))) (by intro hh; cases hh) (by intro u hu; simp at hu; subst hu; rfl) (by unfold maxLen; omega) (by omega) (Only.size (fp := []) (by with_reducible repeat (first | exact Only.refl _ _ | assumption | refine Only.drewN ?_ _ | refine Only.drew ?_ | refine Only.alloc ?_ _ | refine Only.trans ?_ (by assumption)))) ?_; intro v5 w5 hO5 hg5 hb5; have o5 : Only [] w3 w5 := Only.grown (by with_reducible repeat (first | exact Only.refl _ _ | assumption | refine Only.drewN ?_ _ | refine Only.drew ?_ | refine Only.alloc ?_ _ | refine Only.trans ?_ (by assumption))) hg5 (by intro z hz hzl; have := (hO4.lt z hz).1; omega); have ID := (I3.keep o5).drop hkp; have s5 := ints_src ID; have hdl : ((p.drop k).map (Value.int .i64)).length = (p.length - k) * 1 := (by simp); have Hdl := Lib.hid hdl; clear hdl)
          | (refine step_app _ rfl (.tmp 24) (.tmp 27) 27 rfl w3.heap.size 2 i0 _ 1 8 Tryz.underlying27 hi hz0 hz1 hz2 rfl (by omega) v5 (k + 1) ((p.take k).map (Value.int .i64) ++ [.int .i64 (j : Int)]) rfl (row_keep hO5 (by with_reducible repeat (first | exact Only.refl _ _ | assumption | refine Only.drewN ?_ _ | refine Only.drew ?_ | refine Only.alloc ?_ _ | refine Only.trans ?_ (by assumption)))) (some ⟨b, off + k, none⟩) (p.length - k) (c - k) ((p.drop k).map (Value.int .i64)) rfl Hdl.out s5.1 (by intro hh; cases hh) (ints_one _) (by unfold maxLen; omega) (by omega) (Only.size (fp := []) (by with_reducible repeat (first | exact Only.refl _ _ | assumption | refine Only.drewN ?_ _ | refine Only.drew ?_ | refine Only.alloc ?_ _ | refine Only.trans ?_ (by assumption)))) ?_; intro v6 w6 hO6 hg6 hb6; have o6 : Only [] w3 w6 := Only.grown (by with_reducible repeat (first | exact Only.refl _ _ | assumption | refine Only.drewN ?_ _ | refine Only.drew ?_ | refine Only.alloc ?_ _ | refine Only.trans ?_ (by assumption))) hg6 (by intro z hz hzl; have := (hO5.lt z hz).1; omega))
          | fail "no arm")
        all_goals (
          have hfin := hend v6 w6 hO6 o6
          obtain ⟨p', fp', e1, e2, e3, e4, e5, e6⟩ := hfin
          go_wp2_with fail
          exact ⟨⟨j + 1, p', fp', by omega, by go_num, e1, e2, e3, e4, e5, e6⟩, by simp [intOf]; omega⟩)
    · obtain rfl : j = n := by omega
      go_wp2
      go_ret
      exact ⟨_, p, rfl, hA, hp, hD, hK⟩
end Go.Proofs.YtajkhdbdkjhilaaGreat

namespace Go.Proofs.YtajkhdbdkjhilaaGreat
open Go.RowKit
set_option maxRecDepth 10000

/-- where the first pattern with this key lies -/
def firstG (l : List (List Int)) (s : ByteArray) : Option Int := (l.findIdx? fun p => kB p = s).map fun i : Nat => (i : Int)
end Go.Proofs.YtajkhdbdkjhilaaGreat

namespace Go.Proofs.YtajkhdbdkjhilaaGreat
open Go.RowKit
set_option maxRecDepth 10000

theorem Mp.mono {w : World} {M k k' : Nat} {g : ByteArray → Option Int} (h : Mp w M k g) (hk : k ≤ k') : Mp w M k' g := by
  obtain ⟨D, h1, h2⟩ := h
  exact ⟨D, h1.mono hk, h2⟩
/-- block g is the proof of a table -/
def Prf (w : World) (g : Nat) (x : Puzzle) (t : Table) : Prop :=
  ∃ v0 v1 v2 vl vm M f0 f1 f2 fl fm k, Blk w g [v0, v1, v2, vl, vm, .map (some M)] ∧ Rd w v0 t.tracked f0 ∧ Rd w v1 t.patterns f1 ∧ Rd w v2 t.distances f2 ∧ Rd w vl (ltrs x.moves.length) fl ∧
    Rd w vm ((ltrs x.moves.length).map (mv x.moves)) fm ∧ Mp w M k (firstG t.patterns)
theorem Prf.keep {w w' : World} {g : Nat} {x : Puzzle} {t : Table} (h : Prf w g x t) (ho : Only [] w w') : Prf w' g x t := by
  obtain ⟨v0, v1, v2, vl, vm, M, f0, f1, f2, fl, fm, k, hb, h0, h1, h2, h3, h4, h5⟩ := h
  exact ⟨v0, v1, v2, vl, vm, M, f0, f1, f2, fl, fm, k, hb.keep ho, Rp.keep h0 ho, Rp.keep h1 ho, Rp.keep h2 ho, Rp.keep h3 ho, Rp.keep h4 ho, h5.keep ho⟩
end Go.Proofs.YtajkhdbdkjhilaaGreat


namespace Go.Proofs.YtajkhdbdkjhilaaGreat
open Go.RowKit
set_option maxRecDepth 10000
end Go.Proofs.YtajkhdbdkjhilaaGreat

namespace Go.Proofs.YtajkhdbdkjhilaaGreat
open Go.RowKit
set_option maxRecDepth 10000
end Go.Proofs.YtajkhdbdkjhilaaGreat

namespace Go.Proofs.YtajkhdbdkjhilaaGreat
open Go.RowKit
set_option maxRecDepth 10000
end Go.Proofs.YtajkhdbdkjhilaaGreat

namespace Go.Proofs.YtajkhdbdkjhilaaGreat
open Go.RowKit
set_option maxRecDepth 10000

theorem wpList_push2 {P : Program} {α : Type} [Rp α] {ops : Array Oper} {rest : List Oper} {o : Oper} {a : Act} {w : World} {Q : Exit → Act → World → Prop} (hgd : o.guard = none) (s x : Operand) (t : TypeId)
    (ho : o.op = .call { callee := .builtin .append, args := #[s, x], argTypes := #[t, t] })
    (B : Nat) (e : TypeId) (i : TypeInfo) (z : Value) (bytes : Nat) (ht : P.underlying t = some (.slice e)) (hi : P.info? e = some i) (hz : i.zero = some z)
    (hsize : i.size = Rp.size α) (hby : i.bytes = bytes) (hzs : z.cells.size = Rp.size α) (hsz : 0 < Rp.size α) (hbb : bytes ≤ 65536)
    (w0 : World) (v : Value) (l : List α) (fs : List (List Nat)) (hs : a.eval s = v) (hA : Acc B e w0 v l fs) (hK0 : Only [] w0 w) (hB : B ≤ w0.heap.size)
    (g c : Nat) (cs : List Value) (y : α) (fp : List Nat) (hx : a.eval x = .slice (some ⟨g, 0, none⟩) 1 c) (hsrc : ∀ j u, cs[j]? = some u → w.cell? ⟨g, j, none⟩ = some u) (hcs : ∀ u ∈ cs, u.oneCell' = true)
    (hy : Rp.rep w cs y fp) (hap : ∀ b ∈ fp, v.ownBlock ≠ some b) (hlen : l.length + 1 ≤ 1073741824)
    (h : ∀ v' w', Acc B e w' v' (l ++ [y]) (fs ++ [fp]) → Only v.ownBlock.toList w w' → (v'.ownBlock = v.ownBlock ∨ v'.ownBlock = some w.heap.size) → wpList P ops Q rest (a.put o.dst v') w') : wpList P ops Q (o :: rest) a w :=
  wpList_plain hgd fun _ hK => wp_push2 s x t ho B e i z bytes ht hi hz hsize hby hzs hsz hbb w0 v l fs hs hA hK0 hB g c cs y fp hx hsrc hcs hy hap hlen fun v' w' h1 h2 _ _ h5 => hK _ _ (h v' w' h1 h2 h5)


end Go.Proofs.YtajkhdbdkjhilaaGreat
