/- IsPermutation: the reference's and the program's. The identity permutation: the reference's and the program's. Composition and inverse of permutations: the reference's and the program's. The program's stabilizer chain. Plain facts on the making of stabilizer chains: the queue of a row, the products of a row and its generators. What the making of a chain leaves of memory; what its walk reads. What the exact laws share: marks are kept by marking again; a struct's block. The program's chain with one permutation more. Plain facts on the making of stabilizer chains product by product. -/
import Derived.Test.YtpkplmnpepkdaaaGreatRowAdmissibleTablesG2
import Derived.Test.YtpkplmnpepkdaaaGreatRowAdmissibleTablesG1
import Derived.Deep.RegionHeld3
import Derived.Deep.DeepCutAuto
import Derived.Deep.RegionLaw
import Derived.WalkSpells
import Derived.Deep.AppendLies
namespace Go.Proofs.YtpkplmnpepkdaaaGreat
open Go.RowKit
set_option maxRecDepth 10000

/-- the same as quiet_drewN at a function's beginning -/
theorem quiet_drewN0 {P : Program} {f : FuncId} {args : Array Value} {w : World} {n : Nat} {v : Value}
    (h : Calls P f args (w.drewN n) fun e w' => e = .returned v ∧ Drew (w.drewN n) w') :
    Calls P f args (w.drewN n) fun e w'' => e = .returned v ∧ ∃ m, w'' = w.drewN m :=
  h.mono fun _ _ ⟨he, m, hm⟩ => ⟨he, n + m, by rw [hm, World.drewN_drewN]⟩
theorem IntsA.take {w : World} {a : Option Addr} {cap : Nat} {l : List Int} {fp : List Nat} (h : IntsA w a cap l fp) (j : Nat) : IntsA w a cap (l.take j) fp := by
  refine ⟨Nat.le_trans (by simp; omega) h.len, h.cap, fun x hx => h.wf x (List.mem_of_mem_take hx), fun k hk => ?_, h.lt, h.one⟩
  have hk' : k < l.length := by simp at hk; omega
  obtain ⟨b, off, e1, e2, e3⟩ := h.at_ k hk'
  exact ⟨b, off, e1, e2, by rw [e3]; simp⟩
def permB (l : List Int) : Bool := inR l.length 1 20 && decide (PM.IsP l)
theorem permB_iff {l : List Int} : permB l = true ↔ (1 ≤ l.length ∧ l.length ≤ 20) ∧ PM.IsP l := by
  simp [permB, inR]; omega
theorem mem_take_step {l : List Int} {j : Nat} (h : j < l.length) {P : Int → Prop} (h1 : ∀ x ∈ l.take j, P x) (h2 : P l[j]) : ∀ x ∈ l.take (j + 1), P x := by
  rw [take_succ_get l j h]
  intro x hx
  rcases List.mem_append.1 hx with hx | hx
  · exact h1 x hx
  · simp at hx; subst hx; exact h2
theorem nodup_take_step {l : List Int} {j : Nat} (h : j < l.length) (h1 : (l.take j).Nodup) (h2 : l[j] ∉ l.take j) : (l.take (j + 1)).Nodup := by
  rw [take_succ_get l j h]
  exact List.nodup_append.2 ⟨h1, by simp, by intro a ha b hb e; simp at hb; subst hb; subst e; exact h2 ha⟩
theorem nodup_take_not {l : List Int} {j : Nat} (h : j < l.length) (h2 : l[j] ∈ l.take j) : ¬ l.Nodup := by
  intro hn
  have h3 : (l.take (j + 1)).Nodup := List.Nodup.sublist (List.take_sublist _ _) hn
  rw [take_succ_get l j h] at h3
  exact (List.nodup_append.1 h3).2.2 _ h2 _ (by simp) rfl

set_option maxHeartbeats 400000 in
theorem containsInt_any (a : Option Addr) (cap : Nat) (l : List Int) (n : Int) (fp : List Nat) (w : World) (h : IntsA w a cap l fp) :
    Calls Tryz.prog 92 #[.slice a l.length cap, .int .i64 n] w fun e w' => e = .returned (.bool (decide (n ∈ l))) ∧ Drew w w' := by
  have hb := h.bound
  go_enter Tryz.func92, Tryz.ntmps92
  go_wp2
  go_loopw [5] (fun i wr => ∃ j : Nat, j ≤ l.length ∧ i = .int .i64 j ∧ n ∉ l.take j ∧ Drew w wr)
    (fun i _ => l.length - (intOf i).toNat)
  case atStart => exact ⟨0, Nat.zero_le _, rfl, by simp, Drew.refl _⟩
  case round =>
    obtain ⟨j, hj, rfl, hr, k, rfl⟩ := hrel
    have Hr := Lib.hid hr; clear hr
    by_cases hlt : j < l.length
    · obtain ⟨b, off, rfl, -, hc⟩ := h.at_ j hlt
      by_cases hx : l[j] = n
      · have hq : (l[j] == n) = true := by simp [hx]
        have Hx := Lib.hid hx; clear hx
        go_wp2
        go_ret
        exact ⟨ret_bool (decide_eq_true (by rw [← Hx.out]; exact List.getElem_mem _)).symm, ⟨_, rfl⟩⟩
      · have hq : (l[j] == n) = false := by simp [hx]
        have Hx := Lib.hid hx; clear hx
        go_wp2
        go_roundw
        case rel => exact ⟨j + 1, by omega, by go_num, by
          rw [take_succ_get l j hlt]; intro hm
          rcases List.mem_append.1 hm with hm | hm
          · exact Hr.out hm
          · simp at hm; exact Hx.out hm.symm, ⟨_, rfl⟩⟩
        case measure => simp [intOf]; omega
    · go_wp2
      go_ret
      exact ⟨ret_bool (decide_eq_false (by have := Hr.out; rwa [List.take_of_length_le (by omega)] at this)).symm, ⟨_, rfl⟩⟩
theorem containsInt_pre (a : Option Addr) (cap : Nat) (l : List Int) (j : Nat) (n : Int) (fp : List Nat) (w : World) (h : IntsA w a cap l fp) (hj : j ≤ l.length) :
    Calls Tryz.prog 92 #[.slice a j cap, .int .i64 n] w fun e w' => e = .returned (.bool (decide (n ∈ l.take j))) ∧ Drew w w' := by
  have := containsInt_any a cap (l.take j) n fp w (h.take j)
  rwa [show (l.take j).length = j by simp; omega] at this
theorem inRange_q (x lo hi : Int) (w : World) :
    Calls Tryz.prog 53 #[.int .i64 x, .int .i64 lo, .int .i64 hi] w fun e w' => e = .returned (.bool (inR x lo hi)) ∧ Drew w w' :=
  (inRange_any x lo hi w).mono fun _ _ ⟨h1, h2⟩ => ⟨h1, by rw [h2]; exact Drew.refl _⟩
set_option maxHeartbeats 1000000 in
theorem specIsPerm_any (a : Option Addr) (cap : Nat) (l : List Int) (fp : List Nat) (w : World) (h : IntsA w a cap l fp) :
    Calls Tryz.prog 85 #[.slice a l.length cap] w fun e w' => e = .returned (.bool (permB l)) ∧ Drew w w' := by
  have hb := h.bound
  rcases hq : inR l.length 1 20
  · go_enter Tryz.func85, Tryz.ntmps85
    go_wp2_with ((go_at_call 53; (with_reducible refine (inRange_any l.length 1 20 _).mono ?_); rintro e w1 ⟨rfl, rfl⟩))
    go_ret
    exact ⟨ret_bool (by unfold permB; rw [hq]; rfl), Drew.refl _⟩
  have hfin : permB l = decide (PM.IsP l) := by unfold permB; rw [hq]; rfl
  have Hfin := Lib.hid hfin; clear hfin
  obtain ⟨g1, g2⟩ := inR_iff.1 hq
  go_enter Tryz.func85, Tryz.ntmps85
  go_wp2_with ((go_at_call 53; (with_reducible refine (inRange_any l.length 1 20 _).mono ?_); rintro e w ⟨rfl, rfl⟩))
  go_loopw [4] (fun i wr => ∃ j : Nat, j ≤ l.length ∧ i = .int .i64 j ∧ (∀ x ∈ l.take j, 0 ≤ x ∧ x < l.length) ∧ (l.take j).Nodup ∧ Drew w wr)
    (fun i _ => l.length - (intOf i).toNat)
  case atStart => exact ⟨0, Nat.zero_le _, rfl, by simp, by simp, Drew.refl _⟩
  case round =>
    obtain ⟨j, hj, rfl, hr, hn, k, rfl⟩ := hrel
    have Hr := Lib.hid hr; clear hr
    have Hn := Lib.hid hn; clear hn
    by_cases hlt : j < l.length
    · obtain ⟨b, off, rfl, -, hc⟩ := h.at_ j hlt
      have hcap := h.len
      have hi1 : (0 : Int) ≤ (j : Int) := by omega
      have hi2 : (j : Int) < (l.length : Int) := by omega
      rcases c1 : inR l[j] 0 (l.length - 1)
      · go_wp2
        go_quiet ((go_at_call 53; exact quiet_drewN (inRange_q l[j] 0 (l.length - 1) _)))
        go_wp2
        go_ret
        exact ⟨ret_bool (by rw [Hfin.out, eq_comm, decide_eq_false_iff_not]; intro hp; have := hp.1 l[j] (List.getElem_mem _); rw [inR_not] at c1; omega), ((Drew.refl _).drewN _).drewN _⟩
      have hx := inR_iff.1 c1
      have Hx := Lib.hid hx; clear hx
      rcases c2 : decide (l[j] ∈ l.take j)
      all_goals go_wp2
      all_goals go_quiet (first
        | (go_at_call 53; exact quiet_drewN (inRange_q l[j] 0 (l.length - 1) _))
        | (go_at_call 92; exact quiet_drewN (containsInt_pre (some ⟨b, off, none⟩) cap l j l[j] fp _ (h.keep (Only.ofDrewN _ _ _)) hj)))
      · have C2 := Lib.hid (of_decide_eq_false c2); clear c2
        go_wp2
        go_roundw
        case rel => exact ⟨j + 1, by omega, by go_num, mem_take_step hlt Hr.out (by have := Hx.out; omega), nodup_take_step hlt Hn.out C2.out, ⟨_, rfl⟩⟩
        case measure => simp [intOf]; omega
      · have C2 := Lib.hid (of_decide_eq_true c2); clear c2
        go_wp2
        go_ret
        exact ⟨ret_bool (by rw [Hfin.out, eq_comm, decide_eq_false_iff_not]; intro hp; exact nodup_take_not hlt C2.out hp.2), ((Drew.refl _).drewN _).drewN _⟩
    · go_wp2
      go_ret
      exact ⟨ret_bool (by rw [Hfin.out, eq_comm, decide_eq_true_iff]; have h1 := Hr.out; have h2 := Hn.out; rw [List.take_of_length_le (by omega)] at h1 h2; exact ⟨h1, h2⟩), ⟨_, rfl⟩⟩
theorem specIsPerm_rd (v : Value) (l : List Int) (fp : List Nat) (w : World) (h : Rd w v l fp) :
    Calls Tryz.prog 85 #[v] w fun e w' => e = .returned (.bool (permB l)) ∧ Drew w w' := by
  obtain ⟨a, cap, rfl, hI⟩ := h.ints
  exact specIsPerm_any a cap l fp w hI
theorem lengthRows_rd (v : Value) (l : List (List Int)) (fp : List Nat) (w : World) (h : Rd w v l fp) :
    Calls Tryz.prog 78 #[v] w fun e w' => e = .returned (.int .i64 l.length) ∧ w' = w := by
  obtain ⟨a, cap, ob, fps, rfl, -, hs⟩ := h.open_
  have hb := hs.bound
  go_enter Tryz.func78, Tryz.ntmps78
  go_wp2
  go_ret
  exact ⟨rfl, rfl⟩
theorem lengthInt_rd (v : Value) (l : List Int) (fp : List Nat) (w : World) (h : Rd w v l fp) :
    Calls Tryz.prog 102 #[v] w fun e w' => e = .returned (.int .i64 l.length) ∧ w' = w := by
  obtain ⟨a, cap, rfl, hI⟩ := h.ints
  have hb := hI.bound
  go_enter Tryz.func102, Tryz.ntmps102
  go_wp2
  go_ret
  exact ⟨rfl, rfl⟩
theorem wrap64_small (n : Int) (h0 : 0 ≤ n) (h1 : n < 9223372036854775808) : wrap64 n = n := by
  unfold wrap64; omega
theorem pow_small {k : Nat} (h : k ≤ 20) : (2 : Int) ^ k ≤ 1048576 ∧ 1 ≤ (2 : Int) ^ k := by
  have h1 : 2 ^ k ≤ 2 ^ 20 := Nat.pow_le_pow_right (by decide) h
  have h2 : 1 ≤ 2 ^ k := Nat.one_le_two_pow
  have e : ((2 : Int) ^ k) = ((2 ^ k : Nat) : Int) := by simp
  rw [e]
  constructor
  · have : (2 : Nat) ^ 20 = 1048576 := by decide
    omega
  · omega
theorem or_step (m : Nat) (hm : m < 2 ^ 20) (x : Int) (h0 : 0 ≤ x) (h1 : x ≤ 19) : bits BinOp.or IntKind.i64 (m : Int) (wrap64 (2 ^ x.toNat)) = ((m ||| 2 ^ x.toNat : Nat) : Int) := by
  have hp := pow_small (k := x.toNat) (by omega)
  rw [wrap64_small _ (by omega) (by omega)]
  have e : ((2 : Int) ^ x.toNat) = ((2 ^ x.toNat : Nat) : Int) := by simp
  rw [e]
  refine (bits_nat .i64 20 (by decide) ?_ m (2 ^ x.toNat) hm (Nat.pow_lt_pow_right (by decide) (by omega))).2
  intro n hn0 hn1
  have : (2 : Int) ^ 20 = 1048576 := by decide
  rw [IntKind.wrap_i64]; omega
theorem mask_end (l : List Int) (h : ∀ x ∈ l, 0 ≤ x ∧ x < l.length) (hl : l.length ≤ 20) : ((PM.mask l : Int) == wrap64 (wrap64 (2 ^ l.length) - 1)) = decide (PM.IsP l) := by
  have hp := pow_small hl
  rw [wrap64_small (2 ^ l.length) (by omega) (by omega), wrap64_small _ (by omega) (by omega)]
  have h1 : 1 ≤ 2 ^ l.length := Nat.one_le_two_pow
  have e : ((2 : Int) ^ l.length) - 1 = ((2 ^ l.length - 1 : Nat) : Int) := by
    rw [Int.natCast_sub h1]; simp
  rw [e]
  by_cases hm : PM.IsP l
  · rw [decide_eq_true hm, (PM.mask_full l h).2 hm]; simp
  · rw [decide_eq_false hm]
    have : PM.mask l ≠ 2 ^ l.length - 1 := fun he => hm ((PM.mask_full l h).1 he)
    simp only [beq_eq_false_iff_ne, ne_eq]
    omega
set_option maxHeartbeats 1000000 in
theorem implIsPerm_any (a : Option Addr) (cap : Nat) (l : List Int) (fp : List Nat) (w : World) (h : IntsA w a cap l fp) :
    Calls Tryz.prog 103 #[.slice a l.length cap] w fun e w' => e = .returned (.bool (permB l)) ∧ Drew w w' := by
  have hb := h.bound
  rcases hq : inR l.length 1 20
  · go_enter Tryz.func103, Tryz.ntmps103
    go_wp2_with (first | (go_at_call 102; (with_reducible refine (lengthInt_rd _ l fp _ h.rd).mono ?_); rintro e w ⟨rfl, rfl⟩) | (go_at_call 47; (with_reducible refine (within_any l.length 1 20 _).mono ?_); rintro e w ⟨rfl, rfl⟩))
    go_ret
    exact ⟨ret_bool (by unfold permB; rw [hq]; rfl), Drew.refl _⟩
  have hfin : permB l = decide (PM.IsP l) := by unfold permB; rw [hq]; rfl
  have Hfin := Lib.hid hfin; clear hfin
  obtain ⟨g1, g2⟩ := inR_iff.1 hq
  go_enter Tryz.func103, Tryz.ntmps103
  go_wp2_with (first | (go_at_call 102; (with_reducible refine (lengthInt_rd _ l fp _ h.rd).mono ?_); rintro e w ⟨rfl, rfl⟩) | (go_at_call 47; (with_reducible refine (within_any l.length 1 20 _).mono ?_); rintro e w ⟨rfl, rfl⟩))
  go_loopw [3, 12] (fun sn i wr => ∃ j : Nat, j ≤ l.length ∧ i = .int .i64 j ∧ sn = .int .i64 (PM.mask (l.take j) : Nat) ∧ (∀ x ∈ l.take j, 0 ≤ x ∧ x < l.length) ∧ Drew w wr)
    (fun _ i _ => l.length - (intOf i).toNat)
  case atStart => exact ⟨0, Nat.zero_le _, rfl, rfl, by simp, Drew.refl _⟩
  case round =>
    obtain ⟨j, hj, rfl, rfl, hr, k, rfl⟩ := hrel
    have Hr := Lib.hid hr; clear hr
    by_cases hlt : j < l.length
    · obtain ⟨b, off, ha, -, hc⟩ := h.at_ j hlt
      subst ha
      rcases c1 : inR l[j] 0 (l.length - 1)
      · go_wp2_with (first | (go_at_call 102; (with_reducible refine (lengthInt_rd _ l fp _ (Rp.keep h.rd (Only.ofDrewN _ _ _))).mono ?_); rintro e w1 ⟨rfl, rfl⟩) | (go_at_call 47; (with_reducible refine (within_any l[j] 0 (l.length - 1) _).mono ?_); rintro e w1 ⟨rfl, rfl⟩))
        go_ret
        exact ⟨ret_bool (by rw [Hfin.out, eq_comm, decide_eq_false_iff_not]; intro hp; have := hp.1 l[j] (List.getElem_mem _); rw [inR_not] at c1; omega), ⟨_, rfl⟩⟩
      have hx := inR_iff.1 c1
      have Hx := Lib.hid hx; clear hx
      have hx0 : 0 ≤ l[j] := Hx.out.1
      have hx1 : l[j] ≤ 19 := by have := Hx.out; omega
      have hm := or_step (PM.mask (l.take j)) (Nat.lt_of_lt_of_le (PM.mask_lt _ l.length Hr.out) (Nat.pow_le_pow_right (by decide) (by omega))) l[j] hx0 hx1
      have Hm := Lib.hid hm; clear hm
      go_wp2_with (first | (go_at_call 102; (with_reducible refine (lengthInt_rd _ l fp _ (Rp.keep h.rd (Only.ofDrewN _ _ _))).mono ?_); rintro e w1 ⟨rfl, rfl⟩) | (go_at_call 47; (with_reducible refine (within_any l[j] 0 (l.length - 1) _).mono ?_); rintro e w1 ⟨rfl, rfl⟩))
      refine ⟨⟨j + 1, by omega, by go_num, ?_, mem_take_step hlt Hr.out (by have := Hx.out; omega), ⟨_, rfl⟩⟩, by simp [intOf]; omega⟩
      rw [take_succ_get l j hlt, PM.mask_append, Hm.out]
    · go_wp2
      go_ret
      exact ⟨ret_bool (by have h1 := Hr.out; rw [List.take_of_length_le (by omega)] at h1 ⊢; rw [Hfin.out]; exact mask_end l h1 (by omega)), ⟨_, rfl⟩⟩
theorem implIsPerm_rd (v : Value) (l : List Int) (fp : List Nat) (w : World) (h : Rd w v l fp) :
    Calls Tryz.prog 103 #[v] w fun e w' => e = .returned (.bool (permB l)) ∧ Drew w w' := by
  obtain ⟨a, cap, rfl, hI⟩ := h.ints
  exact implIsPerm_any a cap l fp w hI
end Go.Proofs.YtpkplmnpepkdaaaGreat

namespace Go.Proofs.YtpkplmnpepkdaaaGreat
open Go.RowKit
set_option maxRecDepth 10000

theorem pts_succ (k : Nat) : PM.pts (k + 1) = PM.pts k ++ [(k : Int)] := by simp [PM.pts, List.range_succ]
set_option maxHeartbeats 1000000 in
theorem specIdentity_any (m : Nat) (w : World) (hm : m ≤ 1000) :
    Calls Tryz.prog 61 #[.int .i64 m] w fun e w' => ∃ v fp', e = .returned v ∧ Rd w' v (PM.pts m) fp' ∧ Fresh w.heap.size w' fp' ∧ Only [] w w' := by
  obtain ⟨i0, hi, hz0, hz1, hz2⟩ := info_parts Tryz.info2
  go_enter Tryz.func61, Tryz.ntmps61
  go_wp2
  go_loopw [3, 4] (fun o i wr => ∃ (j : Nat) (fs : List (List Nat)), j ≤ m ∧ i = .int .i64 j ∧ Acc w.heap.size 2 wr o (PM.pts j) fs ∧ Fresh w.heap.size wr fs.flatten ∧ Only [] w wr)
    (fun _ i _ => m - (intOf i).toNat)
  case atStart => exact ⟨0, [], Nat.zero_le _, rfl, Acc.made w w.heap.size _ rfl (Nat.le_refl _), Fresh.nil _ _, (Only.refl _ _).alloc _⟩
  case round =>
    obtain ⟨j, fs, hj, rfl, hA, hF, hK⟩ := hrel
    by_cases hlt : j < m
    · have hsz := hK.size
      have hlj : (PM.pts j).length + 1 ≤ 1073741824 := by rw [PM.pts_len]; omega
      have hI : I64 (j : Int) := by unfold I64; omega
      have HI := Lib.hid hI; clear hI
      go_wp2_with ((at_builtin; refine wpList_pushF rfl _ _ 27 rfl w.heap.size 2 i0 _ 8 Tryz.underlying27 hi hz0 hz1 hz2 rfl (by decide) (by decide) wr _ (PM.pts j) fs rfl hA hF ((Only.refl _ _).alloc _) hsz wr.heap.size 1 [.int .i64 (j : Int)] (j : Int) [] rfl (lit_src wr [.int .i64 (j : Int)] _ rfl) (by intro u hu; simp at hu; subst hu; rfl) (int_rd _ HI.out) (Fresh.nil _ _) hlj w (hK.alloc _) (Nat.le_refl _) ?_; intro v3 w3 hA3 hF3 hK3 _))
      go_roundw
      case rel => exact ⟨j + 1, _, by omega, by go_num, by rw [pts_succ]; exact hA3, hF3, hK3⟩
      case measure => simp [intOf]; omega
    · have hjl : j = m := by omega
      rw [hjl] at hA
      have HA := Lib.hid hA
      clear hjl hA
      go_wp2
      go_ret
      exact ⟨_, _, rfl, HA.out.rd (by decide), HA.out.fresh hF, hK⟩

theorem specIdentity_i (n : Int) (w : World) (h0 : 0 ≤ n) (h1 : n ≤ 1000) :
    Calls Tryz.prog 61 #[.int .i64 n] w fun e w' => ∃ v fp', e = .returned v ∧ Rd w' v (PM.pts n.toNat) fp' ∧ Fresh w.heap.size w' fp' ∧ Only [] w w' := by
  obtain ⟨m, rfl⟩ := Int.eq_ofNat_of_zero_le h0
  exact specIdentity_any m w (by omega)

end Go.Proofs.YtpkplmnpepkdaaaGreat

namespace Go.Proofs.YtpkplmnpepkdaaaGreat
open Go.RowKit
set_option maxRecDepth 10000

theorem PN_i64 {n : Nat} {p : List Int} (h : PM.PN n p) (hn : n ≤ 1000) : ∀ x ∈ p, I64 x := fun x hx => by
  have := h.2.1 x hx; rw [h.1] at this; unfold I64; omega
/-- the cell of a permutation's entry -/
theorem IntsA.at_pm {w : World} {a : Option Addr} {cap : Nat} {l : List Int} {fp : List Nat} (h : IntsA w a cap l fp) {x : Int} (h0 : 0 ≤ x) (h1 : x < l.length) :
    ∃ b off, a = some ⟨b, off, none⟩ ∧ fp = [b] ∧ w.cell? ⟨b, off + x.toNat, none⟩ = some (.int .i64 (PM.at_ l x)) := by
  obtain ⟨b, off, e1, e2, e3⟩ := h.at_ x.toNat (by omega)
  refine ⟨b, off, e1, e2, ?_⟩
  rw [e3]; simp [PM.at_, show x.toNat < l.length by omega]
theorem comp_take_succ (p q : List Int) (j : Nat) (h : j < p.length) : PM.comp (p.take (j + 1)) q = PM.comp (p.take j) q ++ [PM.at_ q p[j]] := by
  unfold PM.comp; rw [take_succ_get p j h, List.map_append]; rfl
/-- the inverse as far as it is laid -/
def invTo (p : List Int) (j : Nat) : List Int := (PM.pts p.length).map fun y => if y ∈ p.take j then (p.idxOf y : Int) else 0
theorem invTo_len (p : List Int) (j : Nat) : (invTo p j).length = p.length := by simp [invTo, PM.pts_len]
theorem invTo_get (p : List Int) (j k : Nat) (h : k < (invTo p j).length) : (invTo p j)[k] = if (k : Int) ∈ p.take j then (p.idxOf (k : Int) : Int) else 0 := by
  have h1 : k < (PM.pts p.length).length := by rw [invTo_len] at h; rw [PM.pts_len]; exact h
  have : (invTo p j)[k] = (fun y : Int => if y ∈ p.take j then (p.idxOf y : Int) else 0) ((PM.pts p.length)[k]) := List.getElem_map ..
  rw [this, PM.pts_get]
theorem invTo_zero (p : List Int) : invTo p 0 = List.replicate p.length 0 := by
  apply List.ext_getElem (by simp [invTo_len])
  intro k h1 h2; rw [invTo_get]; simp
theorem invTo_all {n : Nat} {p : List Int} (hp : PM.PN n p) {j : Nat} (hj : p.length ≤ j) : invTo p j = PM.inv p := by
  unfold invTo PM.inv
  rw [List.take_of_length_le hj]
  apply List.map_congr_left
  intro y hy
  rw [if_pos (hp.2.all hy)]
theorem invTo_succ {n : Nat} {p : List Int} (hp : PM.PN n p) {j : Nat} (hj : j < p.length) : invTo p (j + 1) = (invTo p j).set (p[j]).toNat (j : Int) := by
  have hx := hp.2.1 p[j] (List.getElem_mem hj)
  apply List.ext_getElem (by simp [invTo_len])
  intro k h1 h2
  rw [invTo_len] at h1
  rw [List.getElem_set]
  rw [invTo_get, invTo_get]
  by_cases hk : (p[j]).toNat = k
  · rw [if_pos hk]
    have e : (k : Int) = p[j] := by omega
    have hm : p[j] ∈ p.take (j + 1) := by rw [take_succ_get p j hj]; exact List.mem_append_right _ (List.mem_singleton.2 rfl)
    rw [e, if_pos hm]
    have hi : p.idxOf p[j] < p.length := List.idxOf_lt_length_of_mem (List.getElem_mem hj)
    have hg : p[p.idxOf p[j]] = p[j] := by simp
    have := PM.nodup_inj hp.2.2 hi hj hg
    rw [this]
  · rw [if_neg hk, take_succ_get p j hj]
    have : ((k : Int) ∈ p.take j ++ [p[j]]) ↔ (k : Int) ∈ p.take j := by
      rw [List.mem_append, List.mem_singleton]
      constructor
      · rintro (h | h)
        · exact h
        · omega
      · exact .inl
    simp only [this]
/-- the identity of the model's zeros -/
theorem map_zero (n : Nat) : (List.replicate n (0 : Int)).map (Value.int .i64) = List.replicate n (.int .i64 0) := by simp


set_option maxHeartbeats 1000000 in
theorem specCompose_rd (n : Nat) (vp vq : Value) (p q : List Int) (fp fq : List Nat) (w : World) (hp : Rd w vp p fp) (hq : Rd w vq q fq) (pp : PM.PN n p) (pq : PM.PN n q) (hn : n ≤ 1000) :
    Calls Tryz.prog 90 #[vp, vq] w fun e w' => ∃ v fp', e = .returned v ∧ Rd w' v (PM.comp p q) fp' ∧ Fresh w.heap.size w' fp' ∧ Only [] w w' := by
  obtain ⟨ap, cp, rfl, IP⟩ := hp.ints
  obtain ⟨aq, cq, rfl, IQ⟩ := hq.ints
  obtain ⟨i0, hi, hz0, hz1, hz2⟩ := info_parts Tryz.info2
  have hlp := pp.1
  have hlq := pq.1
  have hpn : p.length ≤ 1000 := by omega
  have HPP := Lib.hid pp; have HPQ := Lib.hid pq
  have HLP := Lib.hid hlp; have HLQ := Lib.hid hlq
  clear hlp hlq pp pq
  have hb1 := IP.bound
  have hb2 := IQ.bound
  go_enter Tryz.func90, Tryz.ntmps90
  go_wp2
  go_loopw [5, 6] (fun o i wr => ∃ (j : Nat) (fs : List (List Nat)), j ≤ p.length ∧ i = .int .i64 j ∧ Acc w.heap.size 2 wr o (PM.comp (p.take j) q) fs ∧ Fresh w.heap.size wr fs.flatten ∧ Only [] w wr)
    (fun _ i _ => p.length - (intOf i).toNat)
  case atStart => exact ⟨0, [], Nat.zero_le _, rfl, by simpa [PM.comp] using Acc.made w w.heap.size _ rfl (Nat.le_refl _), Fresh.nil _ _, (Only.refl _ _).alloc _⟩
  case round =>
    obtain ⟨j, fs, hj, rfl, hA, hF, hK⟩ := hrel
    by_cases hlt : j < p.length
    · have hsz := hK.size
      obtain ⟨bp, op, rfl, -, hcp0⟩ := IP.at_ j hlt
      have hcp := hK.cell (by simp) hcp0
      have hr := HPP.out.2.1 p[j] (List.getElem_mem hlt)
      have hx0 : 0 ≤ p[j] := hr.1
      have hx1 : p[j] < (q.length : Int) := by have := HLP.out; have := HLQ.out; omega
      obtain ⟨bq, oq, rfl, -, hcq0⟩ := IQ.at_pm hx0 hx1
      have hcq := hK.cell (by simp) hcq0
      have hlj : (PM.comp (p.take j) q).length + 1 ≤ 1073741824 := by rw [PM.comp_len, List.length_take]; omega
      have hI : I64 (PM.at_ q p[j]) := PN_i64 HPQ.out hn _ (PM.at_mem hx0 hx1)
      have HI := Lib.hid hI
      clear hI hcp0 hcq0 hr
      go_wp2_with ((at_builtin; refine wpList_pushF rfl _ _ 27 rfl w.heap.size 2 i0 _ 8 Tryz.underlying27 hi hz0 hz1 hz2 rfl (by decide) (by decide) wr _ (PM.comp (p.take j) q) fs rfl hA hF ((Only.refl _ _).alloc _) hsz wr.heap.size 1 [.int .i64 (PM.at_ q p[j])] (PM.at_ q p[j]) [] rfl (lit_src wr [.int .i64 (PM.at_ q p[j])] _ rfl) (by intro u hu; simp at hu; subst hu; rfl) (int_rd _ HI.out) (Fresh.nil _ _) hlj w (hK.alloc _) (Nat.le_refl _) ?_; intro v3 w3 hA3 hF3 hK3 _))
      go_roundw
      case rel => exact ⟨j + 1, _, by omega, by go_num, by rw [comp_take_succ p q j hlt]; exact hA3, hF3, hK3⟩
      case measure => simp [intOf]; omega
    · have hjl : j = p.length := by omega
      rw [hjl, List.take_length] at hA
      have HA := Lib.hid hA
      clear hjl hA
      go_wp2
      go_ret
      exact ⟨_, _, rfl, HA.out.rd (by decide), HA.out.fresh hF, hK⟩
set_option maxHeartbeats 1000000 in
theorem specInv_rd (n : Nat) (vp : Value) (p : List Int) (fp : List Nat) (w : World) (hp : Rd w vp p fp) (pp : PM.PN n p) (hn : n ≤ 1000) :
    Calls Tryz.prog 91 #[vp] w fun e w' => ∃ v fp', e = .returned v ∧ Rd w' v (PM.inv p) fp' ∧ Fresh w.heap.size w' fp' ∧ Only [] w w' := by
  obtain ⟨ap, cp, rfl, IP⟩ := hp.ints
  obtain ⟨i0, hi, hz0, hz1, hz2⟩ := info_parts Tryz.info2
  have hlp := pp.1
  have hpn : p.length ≤ 1000 := by omega
  have HPP := Lib.hid pp
  clear hlp pp
  have hb1 := IP.bound
  go_enter Tryz.func91, Tryz.ntmps91
  go_wp2_with (at_make; refine wpList_make_full _ rfl _ _ 27 rfl w.heap.size 2 i0 _ 1 Tryz.underlying27 hi hz0 hz1 _ _ _ _ p.length rfl rfl rfl rfl (by rw [hz2]; omega) (by unfold maxLen; omega) (Nat.le_refl _) ?_; intro w1 hown hg)
  rw [madeInts, Nat.mul_one] at hown
  have hs1 := hg.size
  go_loopw [4] (fun i wr => ∃ j : Nat, j ≤ p.length ∧ i = .int .i64 j ∧
      wr.ownsRow w.heap.size 2 1 (.slice (some ⟨w.heap.size, 0, none⟩) p.length p.length) p.length ((invTo p j).map (Value.int .i64)) ∧ Only [] w wr)
    (fun i _ => p.length - (intOf i).toNat)
  case atStart => exact ⟨0, Nat.zero_le _, rfl, by rw [invTo_zero, map_zero]; exact hown, (Only.refl _ _).grown hg (by simp)⟩
  case round =>
    obtain ⟨j, hj, rfl, hO, hK⟩ := hrel
    by_cases hlt : j < p.length
    · obtain ⟨bp, op, rfl, -, hcp0⟩ := IP.at_ j hlt
      have hcp := hK.cell (by simp) hcp0
      have hr := HPP.out.2.1 p[j] (List.getElem_mem hlt)
      have hx0 : 0 ≤ p[j] := hr.1
      have hx1 : p[j] < (p.length : Int) := hr.2
      obtain ⟨hO2, hg2⟩ := hO.stored (p[j]).toNat (.int .i64 j)
      have hstep : ((invTo p j).map (Value.int .i64)).set (p[j]).toNat (.int .i64 (j : Int)) = (invTo p (j + 1)).map (Value.int .i64) := by
        rw [invTo_succ HPP.out hlt, List.map_set]
      rw [hstep] at hO2
      have hc2 : ∃ u, wr.cell? ⟨w.heap.size, (p[j]).toNat, none⟩ = some (.int .i64 u) := by
        rw [hO.cellAt _ (by omega)]
        have : (p[j]).toNat < (invTo p j).length := by rw [invTo_len]; omega
        exact ⟨(invTo p j)[(p[j]).toNat], by simp [this]⟩
      obtain ⟨u, hc2⟩ := hc2
      have hf2 := hO.frozenAt (p[j]).toNat
      have hK2 := hK.setCell (p := ⟨w.heap.size, (p[j]).toNat, none⟩) (by simp) (.int .i64 j)
      have HO := Lib.hid hO2
      clear hO hO2 hg hg2 hown hstep hcp0 hr
      go_wp2
      go_roundw
      case rel => exact ⟨j + 1, by omega, by go_num, HO.out, hK2⟩
      case measure => simp [intOf]; omega
    · have hjl : p.length ≤ j := by omega
      rw [invTo_all HPP.out hjl] at hO
      have hw := PN_i64 HPP.out.inv hn
      have hO' : wr.ownsRow w.heap.size 2 1 (.slice (some ⟨w.heap.size, 0, none⟩) p.length p.length) (PM.inv p).length ((PM.inv p).map (Value.int .i64)) := by rw [PM.inv_len]; exact hO
      obtain ⟨a', cap', hv, -, hI, hF⟩ := own_ints hO' hw
      have HI := Lib.hid hI
      have Hv := Lib.hid hv
      clear hO hO' hv hown hI hw
      go_wp2
      go_ret
      refine ⟨_, _, rfl, ?_, hF, hK⟩
      have hr := HI.out.rd
      rw [← Hv.out] at hr; exact hr
end Go.Proofs.YtpkplmnpepkdaaaGreat

namespace Go.Proofs.YtpkplmnpepkdaaaGreat
open Go.RowKit
set_option maxRecDepth 10000

theorem has_step {T : PM.Rows} {n j : Nat} (hj : j < n) (q : List Int) : PM.has T n (n - j) q = if PM.tr T j (PM.at_ q (j : Int)) = [] then false else PM.has T n (n - (j + 1)) (PM.comp q (PM.inv (PM.tr T j (PM.at_ q (j : Int))))) := by
  have h1 : n - j = (n - (j + 1)) + 1 := by omega
  have h2 : n - (n - (j + 1) + 1) = j := by omega
  rw [h1]; simp only [PM.has, h2]
theorem has_end {T : PM.Rows} {n j : Nat} (hj : n ≤ j) (q : List Int) : PM.has T n (n - j) q = true := by
  rw [show n - j = 0 by omega]; rfl
theorem IntsA.at_pn {w : World} {a : Option Addr} {cap : Nat} {l : List Int} {fp : List Nat} (h : IntsA w a cap l fp) {j : Nat} (hj : j < l.length) :
    ∃ b off, a = some ⟨b, off, none⟩ ∧ fp = [b] ∧ w.cell? ⟨b, off + j, none⟩ = some (.int .i64 (PM.at_ l (j : Int))) := by
  obtain ⟨b, off, e1, e2, e3⟩ := h.at_ j hj
  exact ⟨b, off, e1, e2, by rw [e3, PM.at_nat l j hj]⟩

/-- the points of a row -/
def orb (n : Nat) (T : PM.Rows) (k : Nat) : List Int := (PM.pts n).filter fun y => decide (PM.tr T k y ≠ [])
def orbTo (j : Nat) (T : PM.Rows) (k : Nat) : List Int := (PM.pts j).filter fun y => decide (PM.tr T k y ≠ [])
theorem orbTo_succ (j : Nat) (T : PM.Rows) (k : Nat) : orbTo (j + 1) T k = if PM.tr T k (j : Int) = [] then orbTo j T k else orbTo j T k ++ [(j : Int)] := by
  unfold orbTo
  rw [pts_succ, List.filter_append]
  by_cases h : PM.tr T k (j : Int) = []
  · rw [if_pos h]; simp [h]
  · rw [if_neg h]; simp [h]
theorem orbTo_len (j : Nat) (T : PM.Rows) (k : Nat) : (orbTo j T k).length ≤ j := by
  unfold orbTo
  have := List.length_filter_le (fun y => decide (PM.tr T k y ≠ [])) (PM.pts j)
  rwa [PM.pts_len] at this
theorem mem_orb {n : Nat} {T : PM.Rows} {k : Nat} {y : Int} : y ∈ orb n T k ↔ (0 ≤ y ∧ y < n) ∧ PM.tr T k y ≠ [] := by
  unfold orb
  rw [List.mem_filter, PM.mem_pts]; simp
end Go.Proofs.YtpkplmnpepkdaaaGreat

namespace PM

/-- how many places of a row are filled -/
def cntR (n : Nat) (T : Rows) (k : Nat) : Nat := ((pts n).filter fun y => decide (tr T k y ≠ [])).length
theorem cntR_le (n : Nat) (T : Rows) (k : Nat) : cntR n T k ≤ n := by
  have := List.length_filter_le (fun y => decide (tr T k y ≠ [])) (pts n)
  rwa [pts_len] at this
theorem filter_more {α : Type} [DecidableEq α] {l : List α} {p q : α → Bool} {m : α} (hn : l.Nodup) (hm : m ∈ l) (hp : p m = false) (hq : q m = true) (ho : ∀ x, x ≠ m → q x = p x) :
    (l.filter q).length = (l.filter p).length + 1 := by
  induction l with
  | nil => cases hm
  | cons x l ih =>
    obtain ⟨h1, h2⟩ := List.nodup_cons.1 hn
    by_cases hx : x = m
    · subst hx
      have : l.filter q = l.filter p := List.filter_congr fun y hy => ho y fun e => h1 (e ▸ hy)
      simp [hp, hq, this]
    · have hm' : m ∈ l := by
        rcases List.mem_cons.1 hm with e | e
        · exact absurd e.symm hx
        · exact e
      have := ih h2 hm'
      simp only [List.filter_cons, ho x hx]
      split <;> simp [this]
theorem cntR_set {n k m : Nat} {T : Rows} (hk : k < T.length) (hm : m < (T.getD k []).length) (hmn : m < n) {p : List Int} (hp : p ≠ []) (h0 : tr T k (m : Int) = []) : cntR n (setT T k m p) k = cntR n T k + 1 := by
  have hl := fun y => tr_setT hk hm p k y
  refine filter_more (m := (m : Int)) (pts_nodup n) (mem_pts.2 (by omega)) (by simp [h0]) ?_ fun x hx => ?_
  · rw [hl, if_pos ⟨rfl, rfl⟩]; simpa using hp
  · rw [hl, if_neg (by simpa using hx)]

/-- how many places of the last m rows are filled -/
def sumM (n : Nat) (T : Rows) : Nat → Nat
  | 0 => 0
  | m + 1 => cntR n T (n - (m + 1)) + sumM n T m
theorem sumM_le (n : Nat) (T : Rows) : ∀ m, sumM n T m ≤ m * n := by
  intro m
  induction m with
  | zero => simp [sumM]
  | succ m ih =>
    have := cntR_le n T (n - (m + 1))
    simp only [sumM, Nat.succ_mul]; omega
theorem cntR_mono {n k : Nat} {T T' : Rows} (h : Ext T T') : cntR n T k ≤ cntR n T' k := by
  unfold cntR
  refine List.Sublist.length_le ?_
  have : (pts n).filter (fun y => decide (tr T k y ≠ [])) = ((pts n).filter fun y => decide (tr T' k y ≠ [])).filter fun y => decide (tr T k y ≠ []) := by
    rw [List.filter_filter]
    refine List.filter_congr fun y _ => ?_
    by_cases hy : tr T k y = []
    · simp [hy]
    · simp [h k y hy, hy]
  rw [this]; exact List.filter_sublist
theorem sumM_mono {n : Nat} {T T' : Rows} (h : Ext T T') : ∀ m, sumM n T m ≤ sumM n T' m := by
  intro m
  induction m with
  | zero => simp [sumM]
  | succ m ih => have := cntR_mono (n := n) (k := n - (m + 1)) h; simp only [sumM]; omega
theorem tr_out {n k : Nat} {G : Gens} {T : Rows} (hs : Shape n G T) (hk : k < n) {y : Int} (hy : ¬ (0 ≤ y ∧ y < n)) : tr T k y = [] := by
  unfold tr
  split
  · rfl
  · rw [List.getD_eq_getElem?_getD, List.getElem?_eq_none (by rw [hs.lr k hk]; omega)]; rfl
/-- rows of which no more places are filled are the same -/
theorem cntR_same {n k : Nat} {G G' : Gens} {T T' : Rows} (_hs : Shape n G T) (hs' : Shape n G' T') (hk : k < n) (h : Ext T T') (hc : cntR n T' k ≤ cntR n T k) : ∀ y, tr T' k y = tr T k y := by
  intro y
  by_cases hy : tr T k y = []
  · rw [hy]
    apply Classical.byContradiction
    intro hn
    have hyr : 0 ≤ y ∧ y < n := Classical.byContradiction fun hh => hn (tr_out hs' hk hh)
    have hsub : ((pts n).filter fun y => decide (tr T' k y ≠ [])) ⊆ (pts n).filter fun y => decide (tr T k y ≠ []) := by
      refine nodup_sub_all (List.Nodup.sublist List.filter_sublist (pts_nodup n)) (fun z hz => ?_) hc
      rw [List.mem_filter] at hz ⊢
      have hz2 : tr T k z ≠ [] := by simpa using hz.2
      exact ⟨hz.1, by rw [h k z hz2]; simpa using hz2⟩
    have := hsub (List.mem_filter.2 ⟨mem_pts.2 hyr, by simpa using hn⟩)
    rw [List.mem_filter] at this
    exact (by simpa using this.2 : tr T k y ≠ []) hy
  · exact h k y hy
theorem sumM_same {n : Nat} {G G' : Gens} {T T' : Rows} (hs : Shape n G T) (hs' : Shape n G' T') (h : Ext T T') : ∀ m, m ≤ n → sumM n T' m ≤ sumM n T m → ∀ j y, n - m ≤ j → j < n → tr T' j y = tr T j y := by
  intro m
  induction m with
  | zero => intro _ _ j y h1 h2; omega
  | succ m ih =>
    intro hm hc j y h1 h2
    simp only [sumM] at hc
    have c1 := cntR_mono (n := n) (k := n - (m + 1)) h
    have c2 := sumM_mono (n := n) h m
    by_cases hj : j = n - (m + 1)
    · subst hj; exact cntR_same hs hs' h2 h (by omega) y
    · exact ih (by omega) (by omega) j y (by omega) h2
theorem has_cong2 {T T' : Rows} {n m : Nat} (hm : m ≤ n) (h : ∀ j y, n - m ≤ j → j < n → tr T' j y = tr T j y) : ∀ p, has T n m p = has T' n m p := by
  induction m with
  | zero => intro p; rfl
  | succ m ih =>
    intro p
    simp only [has]
    rw [h _ _ (Nat.le_refl _) (by omega), ih (by omega) (fun j y h1 h2 => h j y (by omega) h2)]
theorem sumM_lt {n k : Nat} {G G' : Gens} {T T' : Rows} {p : List Int} (hs : Shape n G T) (hs' : Shape n G' T') (h : Ext T T') (h0 : has T n (n - k) p = false) (h1 : has T' n (n - k) p = true) : sumM n T (n - k) < sumM n T' (n - k) := by
  apply Classical.byContradiction
  intro hc
  have := has_cong2 (Nat.sub_le n k) (sumM_same hs hs' h (n - k) (Nat.sub_le n k) (by omega)) p
  rw [h0, h1] at this; cases this
/-- the levels from k on have few generators -/
def Ln (n k : Nat) (G : Gens) (T : Rows) : Prop := ∀ j, k ≤ j → j < n → (lv G j).length ≤ sumM n T (n - j)
theorem Ln.le {n k : Nat} {G : Gens} {T : Rows} (h : Ln n k G T) {j : Nat} (hj : k ≤ j) (hjn : j < n) (hn : n ≤ 20) : (lv G j).length ≤ 400 := by
  have h1 := h j hj hjn
  have h2 := sumM_le n T (n - j)
  have h3 : (n - j) * n ≤ 20 * 20 := Nat.mul_le_mul (by omega) hn
  omega
theorem Ln.mono {n k k' : Nat} {G : Gens} {T : Rows} (h : Ln n k G T) (hk : k ≤ k') : Ln n k' G T := fun j h1 h2 => h j (by omega) h2
theorem Ln.ext {n k : Nat} {G G' : Gens} {T T' : Rows} (h : Ln n k G T) (hG : ∀ j, k ≤ j → lv G' j = lv G j) (hT : Ext T T') : Ln n k G' T' := fun j h1 h2 => by
  rw [hG j h1]; exact Nat.le_trans (h j h1 h2) (sumM_mono hT _)
/-- one generator more, that was not known and is now -/
theorem Ln.more {n k : Nat} {G G' : Gens} {T T' : Rows} {p : List Int} (hs : Shape n G T) (hs' : Shape n G' T') (h : Ln n k G T) (h' : Ln n (k + 1) G' T') (he : Ext T T') (h0 : has T n (n - k) p = false) (h1 : has T' n (n - k) p = true)
    (hl : (lv G' k).length = (lv G k).length + 1) : Ln n k G' T' := fun j hj hjn => by
  by_cases e : j = k
  · subst e
    have := sumM_lt hs hs' he h0 h1
    have := h j (Nat.le_refl _) hjn
    omega
  · exact h' j (by omega) hjn
theorem Ln.zero (n : Nat) : Ln n 0 (G0 n) (T0 n) := fun j _ _ => by rw [lv_G0]; simp
end PM

namespace Go.Proofs.YtpkplmnpepkdaaaGreat
open Go.RowKit
set_option maxRecDepth 10000

theorem step_push2c {P : Program} {α : Type} [Rp α] {ops : Array Oper} {o : Oper} {a : Act} {w : World} {Q : Exit → Act → World → Prop} {K : Act → World → Prop} {E : Prop} (hgd : o.guard = none) (s x : Operand) (t : TypeId)
    (ho : o.op = .call { callee := .builtin .append, args := #[s, x], argTypes := #[t, t] })
    (B : Nat) (e : TypeId) (i : TypeInfo) (z : Value) (bytes : Nat) (ht : P.underlying t = some (.slice e)) (hi : P.info? e = some i) (hz : i.zero = some z)
    (hsize : i.size = Rp.size α) (hby : i.bytes = bytes) (hzs : z.cells.size = Rp.size α) (hsz : 0 < Rp.size α) (hbb : bytes ≤ 65536)
    (w0 : World) (v : Value) (l : List α) (fs : List (List Nat)) (hs : a.eval s = v) (hA : Acc B e w0 v l fs) (hK0 : Only [] w0 w) (hB : B ≤ w0.heap.size)
    (g c : Nat) (cs : List Value) (y : α) (fp : List Nat) (hx : a.eval x = .slice (some ⟨g, 0, none⟩) 1 c) (hsrc : ∀ j u, cs[j]? = some u → w.cell? ⟨g, j, none⟩ = some u) (hcs : ∀ u ∈ cs, u.oneCell' = true)
    (hy : Rp.rep w cs y fp) (hap : ∀ b ∈ fp, v.ownBlock ≠ some b) (hlen : l.length + 1 ≤ 1073741824)
    (h : ∀ v' w', Acc B e w' v' (l ++ [y]) (fs ++ [fp]) → Only v.ownBlock.toList w w' → (v'.ownBlock = v.ownBlock ∨ v'.ownBlock = some w.heap.size) → K (a.put o.dst v') w') : if Region.wanted o (yielded ops a.tmps) = true then Oper.wp P o a w K Q else E := by
  rw [if_pos (by simp [Region.wanted, hgd])]
  exact wp_push2 s x t ho B e i z bytes ht hi hz hsize hby hzs hsz hbb w0 v l fs hs hA hK0 hB g c cs y fp hx hsrc hcs hy hap hlen fun v' w' h1 h2 _ _ h5 => h v' w' h1 h2 h5

/-- from w to w' a chain has been made further, levels below k untouched; f: what it was handed -/
structure Mv (L : Lay) (k : Nat) (gv gv' : Nat → Value) (M M' F F' f : List Nat) (w w' : World) : Prop where
  only : Only M w w'
  gvs : ∀ j, j < k → gv' j = gv j
  rows : ∀ j, j < k → w'.heap[L.rb j]? = w.heap[L.rb j]?
  m : ∀ b ∈ M', b ∈ M ∨ w.heap.size ≤ b
  m' : ∀ b ∈ M, b ∈ M'
  f : ∀ b ∈ F', b ∈ F ∨ b ∈ f ∨ w.heap.size ≤ b
  f' : ∀ b ∈ F, b ∈ F'
theorem Mv.refl (L : Lay) (k : Nat) (gv : Nat → Value) (M F f : List Nat) (w : World) : Mv L k gv gv M M F F f w w :=
  ⟨Only.refl _ _, fun _ _ => rfl, fun _ _ => rfl, fun _ h => .inl h, fun _ h => h, fun _ h => .inl h, fun _ h => h⟩
theorem Mv.keep {L : Lay} {k : Nat} {gv gv' : Nat → Value} {M M' F F' f : List Nat} {w w1 w' : World} (h : Mv L k gv gv' M M' F F' f w w1) (ho : Only [] w1 w') (hr : ∀ j, j < k → L.rb j < w.heap.size) : Mv L k gv gv' M M' F F' f w w' :=
  ⟨h.only.keepThen ho, h.gvs, fun j hj => (ho.block _ (Nat.lt_of_lt_of_le (hr j hj) h.only.size) (by simp)).trans (h.rows j hj), h.m, h.m', h.f, h.f'⟩
theorem Mv.before {L : Lay} {k : Nat} {gv gv' : Nat → Value} {M M' F F' f : List Nat} {w w1 w' : World} (ho : Only [] w w1) (h : Mv L k gv gv' M M' F F' f w1 w') (hr : ∀ j, j < k → L.rb j < w.heap.size) : Mv L k gv gv' M M' F F' f w w' :=
  ⟨(ho.weaken M).trans h.only, h.gvs, fun j hj => (h.rows j hj).trans (ho.block _ (hr j hj) (by simp)), fun b hb => (h.m b hb).imp id fun h1 => Nat.le_trans ho.size h1, h.m', fun b hb => (h.f b hb).imp id fun h1 => h1.imp id fun h2 => Nat.le_trans ho.size h2, h.f'⟩
theorem Mv.trans {L : Lay} {k : Nat} {gv gv1 gv' : Nat → Value} {M M1 M' F F1 F' f f1 : List Nat} {w w1 w' : World} (h : Mv L k gv gv1 M M1 F F1 f w w1) (h' : Mv L k gv1 gv' M1 M' F1 F' f1 w1 w')
    (hf : ∀ b ∈ f1, b ∈ F ∨ b ∈ f ∨ w.heap.size ≤ b) : Mv L k gv gv' M M' F F' f w w' := by
  refine ⟨h.only.then_ h'.only fun x hx hl => ?_, fun j hj => (h'.gvs j hj).trans (h.gvs j hj), fun j hj => (h'.rows j hj).trans (h.rows j hj), fun b hb => ?_, fun b hb => h'.m' b (h.m' b hb), fun b hb => ?_, fun b hb => h'.f' b (h.f' b hb)⟩
  · rcases h.m x hx with h1 | h1
    · exact h1
    · omega
  · rcases h'.m b hb with h1 | h1
    · exact h.m b h1
    · exact .inr (Nat.le_trans h.only.size h1)
  · rcases h'.f b hb with h1 | h1 | h1
    · exact h.f b h1
    · exact hf b h1
    · exact .inr (.inr (Nat.le_trans h.only.size h1))
theorem Mv.mono {L : Lay} {k k' : Nat} {gv gv' : Nat → Value} {M M' F F' f f1 : List Nat} {w w' : World} (h : Mv L k gv gv' M M' F F' f w w') (hk : k' ≤ k) (hf : ∀ b ∈ f, b ∈ F ∨ b ∈ f1 ∨ w.heap.size ≤ b) : Mv L k' gv gv' M M' F F' f1 w w' :=
  ⟨h.only, fun j hj => h.gvs j (by omega), fun j hj => h.rows j (by omega), h.m, h.m', fun b hb => by
    rcases h.f b hb with h1 | h1 | h1
    · exact .inl h1
    · exact hf b h1
    · exact .inr (.inr h1), h.f'⟩

/-- a chain with one permutation more at level k -/
def AddP (e : TypeId) (B : Nat) (L : Lay) (n k : Nat) (p : List Int) (G : PM.Gens) (T : PM.Rows) (M F f : List Nat) (gv : Nat → Value) (w w' : World) : Prop :=
  ∃ gv' G' T' M' F', Ch e B w' L gv' n G' T' M' F' ∧ PM.Added n k p G T G' T' ∧ PM.Ln n k G' T' ∧ Mv L k gv gv' M M' F F' f w w'

section
variable {e : TypeId} {B : Nat} {w w' : World} {L : Lay} {gv : Nat → Value} {n : Nat} {G : PM.Gens} {T : PM.Rows} {M F : List Nat}
/-- a generator of a level -/
theorem Ch.genAt (h : Ch e B w L gv n G T M F) {k : Nat} (hk : k < n) {j : Nat} (hj : j < (PM.lv G k).length) :
    ∃ g c u f, gv k = .slice (some ⟨g, 0, none⟩) (PM.lv G k).length c ∧ w.cell? ⟨g, j, none⟩ = some u ∧ Rd w u (PM.lv G k)[j] f ∧ ∀ b ∈ f, b ∈ F := by
  obtain ⟨fs, hA, hF⟩ := h.acc k hk
  obtain ⟨css, ho, hcl, hr⟩ := hA.own
  have hfl := hA.fl
  rcases ho.2 with ⟨-, h0⟩ | ⟨g, cap, cur, hv, hb, hg, h1, h2, h3, h4⟩
  · omega
  · have hcs : css[j] = [css.flatten[j]'(by rw [ho.1]; show j < (PM.lv G k).length * 1; omega)] := by
      have hone : ∀ c ∈ css, c.length = 1 := by
        intro c hc
        obtain ⟨i, hi, rfl⟩ := List.getElem_of_mem hc
        exact Rp.len (hr i hi (by omega) (by omega))
      have key : ∀ (cs : List (List Value)), (∀ c ∈ cs, c.length = 1) → ∀ i (h1 : i < cs.length) (h2 : i < cs.flatten.length), cs[i] = [cs.flatten[i]] := by
        intro cs
        induction cs with
        | nil => intro _ i h1; cases h1
        | cons c cs ih =>
          intro hc i h1 h2
          have hc1 := hc c (by simp)
          match c, hc1 with
          | [v], _ =>
            cases i with
            | zero => simp
            | succ i => simpa using ih (fun c hc' => hc c (by simp [hc'])) i (by simpa using h1) (by simpa using h2)
      exact key css hone j (by omega) _
    refine ⟨g, cap, css.flatten[j]'(by rw [ho.1]; show j < (PM.lv G k).length * 1; omega), fs[j], hv, ?_, ?_, fun b hb => hF b (List.mem_flatten.2 ⟨_, List.getElem_mem _, hb⟩)⟩
    · have := ho.cells (g := g) (by rw [hv]; rfl) j (css.flatten[j]'(by rw [ho.1]; show j < (PM.lv G k).length * 1; omega)) (List.getElem?_eq_getElem _)
      have hadd : (⟨g, 0, none⟩ : Addr).add j = ⟨g, j, none⟩ := by unfold Addr.add; split <;> simp_all
      rwa [hadd] at this
    · have := hr j (by omega) hj (by omega)
      rw [hcs] at this; exact this
end
section
variable {eG eI : TypeId} {B Bq : Nat} {L : Lay} {gv : Nat → Value} {n k : Nat} {G : PM.Gens} {T : PM.Rows} {M F : List Nat} {wb wr : World} {y0 : Int} {qs : List Int} {j c0 : Nat} {s : Value}
end
section
variable {e : TypeId} {B : Nat} {L : Lay} {gv gv1 gv' : Nat → Value} {n k : Nat} {G G1 G' : PM.Gens} {T T1 T' : PM.Rows} {M M1 M' F F0 F1 F' f : List Nat} {w W2 W wr : World} {S : List Int → Prop}
end
end Go.Proofs.YtpkplmnpepkdaaaGreat

namespace Go.Proofs.YtpkplmnpepkdaaaGreat
open Go.RowKit
set_option maxRecDepth 10000
theorem and_of {a b : Prop} (h : a) (k : a → b) : a ∧ b := ⟨h, k h⟩
/-- block g holds just the cells cs -/
def Blk (w : World) (g : Nat) (cs : List Value) : Prop := ∃ t, w.heap[g]? = some (.cells cs.toArray t (0, 0))
theorem Blk.lt {w : World} {g : Nat} {cs : List Value} (h : Blk w g cs) : g < w.heap.size := by
  obtain ⟨t, h⟩ := h; exact (Array.getElem?_eq_some_iff.1 h).1
theorem Blk.new (w : World) (cs : List Value) (t : TypeId) : Blk (w.alloc (.cells cs.toArray t)) w.heap.size cs := ⟨t, heap_alloc_new w _⟩
theorem Blk.new_at {w : World} {cs : List Value} {t : TypeId} {g : Nat} (h : g = w.heap.size) : Blk (w.alloc (.cells cs.toArray t)) g cs := by subst h; exact Blk.new _ _ _
theorem Blk.only {w w' : World} {g : Nat} {cs : List Value} {fp : List Nat} (h : Blk w g cs) (ho : Only fp w w') (hn : g ∉ fp) : Blk w' g cs := by
  have := h.lt
  obtain ⟨t, h⟩ := h; exact ⟨t, (ho.block g this hn).trans h⟩
theorem Blk.keep {w w' : World} {g : Nat} {cs : List Value} (h : Blk w g cs) (ho : Only [] w w') : Blk w' g cs := h.only ho (by simp)
theorem Blk.cell {w : World} {g : Nat} {cs : List Value} (h : Blk w g cs) (i : Nat) {v : Value} (hv : cs[i]? = some v) : w.cell? ⟨g, i, none⟩ = some v := by
  obtain ⟨t, h⟩ := h
  rw [cell_of_row w g i _ t (0, 0) h]; simpa using hv
end Go.Proofs.YtpkplmnpepkdaaaGreat

namespace Go.Proofs.YtpkplmnpepkdaaaGreat
open Go.RowKit
set_option maxRecDepth 10000

/-- the first cut: a generator more -/
def A1 (e : TypeId) (B : Nat) (L : Lay) (gv : Nat → Value) (n k : Nat) (p : List Int) (G : PM.Gens) (T : PM.Rows) (M F f : List Nat) (w wx : World) : Prop :=
  ∃ a9 c9 M1 F1, Ch e B wx L (upd gv k (.slice a9 ((PM.lv G k).length + 1) c9)) n (G.set k (PM.lv G k ++ [p])) T M1 F1 ∧ Mv L k gv (upd gv k (.slice a9 ((PM.lv G k).length + 1) c9)) M M1 F F1 f w wx
theorem A1.of {e : TypeId} {B : Nat} {L : Lay} {gv : Nat → Value} {n k : Nat} {p : List Int} {G : PM.Gens} {T : PM.Rows} {M F f : List Nat} {w w1 w8 w9 : World} (hC1 : Ch e B w1 L gv n G T M F) (h1 : Only [] w w1) (hk : k < n) (h8 : Only [] w1 w8)
    (hO : Only (gv k).ownBlock.toList w8 w9) {a9 : Option Addr} {n9 c9 : Nat} {fs : List (List Nat)} (hA : Acc B e w9 (.slice a9 n9 c9) (PM.lv G k ++ [p]) fs) (hfs : ∀ b ∈ fs.flatten, b ∈ F ∨ b ∈ f) (hf : ∀ b ∈ f, b ∉ M ∧ b < w.heap.size)
    (hb : (Value.slice a9 n9 c9).ownBlock = (gv k).ownBlock ∨ (Value.slice a9 n9 c9).ownBlock = some w8.heap.size) (hr : ∀ j, j < k → L.rb j < w.heap.size) : A1 e B L gv n k p G T M F f w (w9.setCell ⟨L.bg, k, none⟩ (.slice a9 n9 c9)) := by
  have hn9 : n9 = (PM.lv G k).length + 1 := by
    obtain ⟨a, c, hh⟩ := hA.form
    injection hh with _ h2 _
    rw [h2]; simp
  subst hn9
  have hC8 := hC1.keep h8
  have hs8 : w.heap.size ≤ w8.heap.size := Nat.le_trans h1.size h8.size
  have hgen := hC8.setGen hk hO hA (f := f) hfs (fun b hb => ⟨(hf b hb).1, Nat.lt_of_lt_of_le (hf b hb).2 hs8⟩) hb
  have hW : Only M w (w9.setCell ⟨L.bg, k, none⟩ (.slice a9 ((PM.lv G k).length + 1) c9)) :=
    ((((h1.trans h8).weaken M).trans (hO.mono fun b hb _ => hC1.ma k b hk (by simpa using hb))).setCell (fun _ => hC1.mg) _)
  refine ⟨a9, c9, _, _, hgen, hW, fun j hj => upd_other _ _ (by omega), fun j hj => ?_, fun b hb' => ?_, fun b hb' => List.mem_append_right _ hb', fun b hb' => ?_, fun b hb' => List.mem_append_left _ hb'⟩
  · have hjn : j < n := by omega
    have e1 := (h1.trans h8).block (L.rb j) (hr j hj) (by simp)
    have e2 := hO.block (L.rb j) (Nat.lt_of_lt_of_le (hr j hj) hs8) (fun hm => (hC1.ag k _ hk (by simpa using hm)).2 j hjn rfl)
    have e3 := (setCell_only w9 L.bg k (.slice a9 ((PM.lv G k).length + 1) c9)).block (L.rb j) (Nat.lt_of_lt_of_le (Nat.lt_of_lt_of_le (hr j hj) hs8) hO.size) (by simpa using hC1.rg j hjn)
    exact e3.trans (e2.trans e1)
  · rcases List.mem_append.1 hb' with h | h
    · rcases hb with e | e
      · rw [e] at h; exact .inl (hC1.ma k b hk (by simpa using h))
      · rw [e] at h; exact .inr (by have : b = w8.heap.size := (by simpa [eq_comm] using h); omega)
    · exact .inl h
  · rcases List.mem_append.1 hb' with h | h
    · exact .inl h
    · exact .inr (.inl h)
theorem notin_fresh {M f : List Nat} {s s1 : Nat} {w : World} (h : ∀ b ∈ M, b < s) (hs : s ≤ s1) (hf : Fresh s1 w f) : ∀ b ∈ f, b ∉ M := fun b hb hm => by
  have := h b hm
  have := hf.ge b hb
  omega
end Go.Proofs.YtpkplmnpepkdaaaGreat

namespace PM

theorem has_one {n : Nat} {T : Rows} (hw : WF n T) : ∀ m, m ≤ n → has T n m (pts n) = true := by
  intro m
  induction m with
  | zero => intro _; rfl
  | succ m ih =>
    intro hm
    have e : at_ (pts n) ((n - (m + 1) : Nat) : Int) = ((n - (m + 1) : Nat) : Int) := at_pts (by omega) (by omega)
    have e2 := hw.one (n - (m + 1)) (by omega)
    simp only [has]
    rw [e, e2, if_neg (pts_ne (by omega)), comp_inv (PN.id n)]
    exact ih (by omega)

/-- the products of the new entries of row k with the generators L are known -/
def New (n k : Nat) (L : List (List Int)) (T T' : Rows) : Prop := ∀ y g, tr T k y = [] → tr T' k y ≠ [] → g ∈ L → Ok T' n k (comp (tr T' k y) g)
theorem New.refl (n k : Nat) (L : List (List Int)) (T : Rows) : New n k L T T := fun _ _ h h' _ => absurd h h'
theorem New.trans {n k : Nat} {L : List (List Int)} {T T1 T2 : Rows} (h : New n k L T T1) (he : Ext T1 T2) (h' : New n k L T1 T2) : New n k L T T2 := fun y g h0 h2 hg => by
  by_cases h1 : tr T1 k y = []
  · exact h' y g h1 h2 hg
  · rw [he k y h1]; exact (h y g h0 h1 hg).mono he
theorem New.same {n k : Nat} {L : List (List Int)} {T T' : Rows} (h : ∀ y, tr T' k y = tr T k y) : New n k L T T' := fun y _ h0 h1 _ => absurd (by rw [h]; exact h0) h1

/-- what the treatment of a product q leaves -/
structure Prod (n k : Nat) (q : List Int) (G : Gens) (T : Rows) (G' : Gens) (T' : Rows) : Prop where
  base : Base n G' T'
  cpl : Cpl n (k + 1) G' T'
  grew : Grew n k G T G' T'
  lvk : lv G' k = lv G k
  ok : Ok T' n k q
  new : New n k (lv G k) T T'
theorem Prod.deep {n k : Nat} {q : List Int} {G G' : Gens} {T T' : Rows} (hn : tr T k (at_ q (k : Int)) ≠ []) (h : Added n (k + 1) (res T k q) G T G' T') : Prod n k q G T G' T' := by
  obtain ⟨a, b, c, d⟩ := h.up hn
  exact ⟨a, b, c.mono (Nat.le_succ k), c.low k (by omega), d, New.same fun y => c.lowT k y (by omega)⟩

/-- products Ps treated one after the other, the first j of them done -/
structure PL (n k : Nat) (G1 : Gens) (T1 : Rows) (Ps : List (List Int)) (j : Nat) (G' : Gens) (T' : Rows) : Prop where
  base : Base n G' T'
  cpl : Cpl n (k + 1) G' T'
  grew : Grew n k G1 T1 G' T'
  lvk : lv G' k = lv G1 k
  oks : ∀ q ∈ Ps.take j, Ok T' n k q
  new : New n k (lv G1 k) T1 T'
theorem PL.start {n k : Nat} {G : Gens} {T : Rows} (hB : Base n G T) (hC : Cpl n (k + 1) G T) (Ps : List (List Int)) : PL n k G T Ps 0 G T :=
  ⟨hB, hC, Grew.refl _ _ _ _, rfl, fun q hq => by simp at hq, New.refl _ _ _ _⟩
theorem PL.step {n k : Nat} {G1 G' G2 : Gens} {T1 T' T2 : Rows} {Ps : List (List Int)} {j : Nat} (h : PL n k G1 T1 Ps j G' T') (hj : j < Ps.length) (hp : Prod n k Ps[j] G' T' G2 T2) : PL n k G1 T1 Ps (j + 1) G2 T2 := by
  refine ⟨hp.base, hp.cpl, h.grew.trans hp.grew, hp.lvk.trans h.lvk, fun q hq => ?_, h.new.trans hp.grew.ext ?_⟩
  · rw [List.take_succ_eq_append_getElem hj] at hq
    rcases List.mem_append.1 hq with hq | hq
    · exact (h.oks q hq).mono hp.grew.ext
    · have : q = Ps[j] := by simpa using hq
      subst this; exact hp.ok
  · have := hp.new
    rwa [h.lvk] at this
/-- a product that is a new entry of the row: its own products have been treated -/
theorem Prod.fresh {n k : Nat} {G G' : Gens} {T T' : Rows} {q : List Int} {m : Nat} {j : Nat} (hs : Shape n G T) (hk : k < n) (hB : Base n G T) (hC : Cpl n (k + 1) G T) (hq : PN n q) (hf : Fix k q) (hg : Grp n (lv G k) q)
    (hm : at_ q (k : Int) = (m : Int)) (hmn : m < n) (h0 : tr T k (m : Int) = []) (hj : ((lv G k).map (comp q)).length ≤ j) (h : PL n k G (setT T k m q) ((lv G k).map (comp q)) j G' T') : Prod n k q G T G' T' := by
  obtain ⟨-, -, g3⟩ := step_row hs hk hB hC hq hf hg hm hmn h0
  have hl := fun j y => tr_setT (T := T) (k := k) (m := m) (by rw [hs.lt]; exact hk) (by rw [hs.lr k hk]; exact hmn) q j y
  have hne : q ≠ [] := hq.ne (by omega)
  have e1 : tr (setT T k m q) k (m : Int) = q := by rw [hl, if_pos ⟨rfl, rfl⟩]
  have e2 : tr T' k (m : Int) = q := by rw [h.grew.ext k _ (by rw [e1]; exact hne), e1]
  refine ⟨h.base, h.cpl, g3.trans h.grew, h.lvk, ⟨by rw [hm, e2]; exact hne, ?_⟩, fun y g hy hy' hgg => ?_⟩
  · unfold res
    rw [hm, e2, comp_inv hq]
    exact has_one h.base.wf _ (by omega)
  · by_cases hym : y = (m : Int)
    · subst hym
      rw [e2]
      exact h.oks _ (by rw [List.take_of_length_le hj]; exact List.mem_map_of_mem hgg)
    · exact h.new y g (by rw [hl, if_neg (by simp [hym])]; exact hy) hy' hgg
/-- a generator more, whose products with the known entries have been treated -/
theorem Added.ofPL {n k : Nat} {G G' : Gens} {T T' : Rows} {p : List Int} {Ps : List (List Int)} {j : Nat} (hs : Shape n G T) (hk : k < n) (hI : Inv n k G T) (hp : May n k p G)
    (hPs : ∀ y, tr T k y ≠ [] → comp (tr T k y) p ∈ Ps) (hj : Ps.length ≤ j) (h : PL n k (G.set k (lv G k ++ [p])) T Ps j G' T') : Added n k p G T G' T' := by
  obtain ⟨s1, s2, s3⟩ := step_gen hs hk hI hp
  have hl : lv (G.set k (lv G k ++ [p])) k = lv G k ++ [p] := by rw [lv_set (by rw [hs.lg]; exact hk), if_pos rfl]
  have hlv : lv G' k = lv G k ++ [p] := h.lvk.trans hl
  refine Added.level hk h.base h.cpl (s3.trans h.grew) (fun y g hy hg => ?_) (by rw [hlv]; simp) (fun g hg => by rw [hlv] at hg; simpa using hg)
  by_cases h0 : tr T k y = []
  · exact h.new y g h0 hy (by rw [← h.lvk]; exact hg)
  · have e := h.grew.ext k y h0
    rw [e]
    rw [hlv] at hg
    rcases List.mem_append.1 hg with hg | hg
    · exact ((inv_iff.1 hI).2 k y g (Nat.le_refl _) hk h0 hg).mono h.grew.ext
    · have : g = p := by simpa using hg
      subst this
      exact h.oks _ (by rw [List.take_of_length_le hj]; exact hPs y h0)
theorem PL.res_may {n k : Nat} {G : Gens} {T : Rows} {q : List Int} (hk : k < n) (hB : Base n G T) (hq : PN n q) (hf : Fix k q) (hg : Grp n (lv G k) q) (hn : tr T k (at_ q (k : Int)) ≠ []) : May n (k + 1) (res T k q) G := step_res hk hB hq hf hg hn
end PM
