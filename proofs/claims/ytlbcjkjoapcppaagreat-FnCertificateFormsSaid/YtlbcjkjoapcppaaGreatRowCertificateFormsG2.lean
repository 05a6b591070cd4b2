/- Small values in memory: the empty slice, a literal of one element, a number; slices.Clone. Plain facts on permutations as lists of numbers. IsPermutation: the reference's and the program's. IsGeneratorSet: the reference's and the program's. What the exact laws share: marks are kept by marking again; a struct's block. Table: plain data, how it lies in memory, the laws' own helpers on it. (Printed by gen_struct.py.) The laws' own helpers on slices of tables: eq, mark, held, to, sz. Puzzle: plain data, how it lies in memory, the laws' own helpers on it. (Printed by gen_struct.py.) IsValidPuzzle: the reference's and the program's. Equality of plain data: the reference's and the program's. -/
import Derived.Test.YtlbcjkjoapcppaaGreatRowCertificateFormsG1
import Derived.StillTailTactics
namespace Go.Proofs.YtlbcjkjoapcppaaGreat
open Go.RowKit
set_option maxRecDepth 10000

set_option maxHeartbeats 400000 in
theorem Clone_rd (v : Value) (l : List Int) (fp : List Nat) (w : World) (h : Rd w v l fp) (hl : l.length ≤ 1073741824) :
    Calls Tryz.prog 26 #[v] w fun e w' => ∃ v fp', e = .returned v ∧ Rd w' v l fp' ∧ Fresh w.heap.size w' fp' ∧ Only [] w w' := by
  obtain ⟨a, cap, rfl, hI⟩ := h.ints
  rcases a with _ | ad
  · have h0 : l.length = 0 := (ints_src hI).2 rfl
    have : l = [] := List.eq_nil_of_length_eq_zero h0
    subst this
    have hnil := fun W => Lib.run_eql_slice_nil (P := Tryz.prog) W 24 2 none 0 cap 0 0 Tryz.underlying24
    go_enter Tryz.func26, Tryz.ntmps26
    go_wp2
    go_ret
    exact ⟨_, [], rfl, (IntsA.nil w none (cap := 0) (by simp [maxLen])).rd, Fresh.nil _ _, (by with_reducible repeat (first | exact Only.refl _ _ | assumption | refine Only.drewN ?_ _ | refine Only.drew ?_ | refine Only.alloc ?_ _ | refine Only.setCell ?_ (by intro hh; exfalso; simp at hh; try omega) _ | refine Only.trans ?_ (by assumption)))⟩
  · obtain ⟨i0, hi, hz0, hz1, hz2⟩ := info_parts Tryz.info2
    obtain ⟨q1, q2⟩ := ints_src (hI.keep ((Only.refl _ w).alloc (.cells #[] 2)))
    have hnil := fun W => Lib.run_eql_slice_nil (P := Tryz.prog) W 24 2 (some ad) l.length cap 0 0 Tryz.underlying24
    go_enter Tryz.func26, Tryz.ntmps26
    go_wp2_with (at_builtin; refine wpList_app _ rfl _ _ 24 rfl w.heap.size 2 i0 _ 1 8 Tryz.underlying24 hi hz0 hz1 hz2 rfl (by omega) (.slice (some ⟨w.heap.size, 0, none⟩) 0 0) 0 [] rfl (World.ownsRow_made w #[] 0 (Nat.le_refl _) (by unfold maxLen; omega) rfl) (some ad) l.length cap (l.map (Value.int .i64)) rfl (by simp) q1 q2 (ints_one l) (by unfold maxLen; omega) (by omega) (by simp) ?_; intro v1 w1 hO hg hb)
    rw [Nat.zero_add, List.nil_append] at hO
    obtain ⟨a', cap', hv, -, hI', hF⟩ := own_ints hO hI.wf
    have Hv := Lib.hid hv
    have hK : Only [] w w1 := ((Only.refl _ _).alloc _).grown hg (by simp [Value.ownBlock])
    clear hO hg hb hv q1 q2
    go_wp2
    go_ret
    refine ⟨_, _, rfl, ?_, hF, hK⟩
    have hr := hI'.rd
    rw [← Hv.out] at hr; exact hr

theorem nil_rd {α : Type} [Rp α] (w : World) : Rd w (.slice none 0 0) ([] : List α) [] := ⟨none, 0, [], [], rfl, rfl, SeqA.nil w none (by simp [maxLen])⟩
theorem int_rd {n : Int} (w : World) (h : I64 n) : Rd w (.int .i64 n) n [] := ⟨rfl, h, rfl⟩
/-- a slice literal of one element -/
theorem one_rd {α : Type} [Rp α] {w : World} {v : Value} {x : α} {fp : List Nat} (h : Rd w v x fp) (e : TypeId) (B : Nat) (hF : Fresh B w fp) {g : Nat} (hgs : g = w.heap.size) (hB : B ≤ g) :
    Rd (w.alloc (.cells #[v] e)) (.slice (some ⟨g, 0, none⟩) 1 1) [x] (g :: fp) ∧ Fresh B (w.alloc (.cells #[v] e)) (g :: fp) := by
  subst hgs
  have hK : Only [] w (w.alloc (.cells #[v] e)) := (Only.refl _ _).alloc _
  have hg : (w.alloc (.cells #[v] e)).heap[w.heap.size]? = some (.cells #[v] e (0, 0)) := heap_alloc_new w _
  constructor
  · refine ⟨some ⟨w.heap.size, 0, none⟩, 1, [w.heap.size], [fp], rfl, by simp, ⟨by simp, by simp [maxLen], rfl, fun k hk => ?_, by simp, by simp⟩⟩
    have : k = 0 := by simpa using hk
    subst this
    refine ⟨w.heap.size, 0, [v], rfl, rfl, fun j u hu => ?_, Rp.keep h hK⟩
    cases j with
    | zero => simp at hu; subst hu; rw [cell_of_row _ _ _ _ _ _ hg]; simp
    | succ j => simp at hu
  · refine ⟨List.nodup_cons.2 ⟨fun hm => by have := hF.lt _ hm; omega, hF.nd⟩, fun b hb => ?_, fun b hb => ?_⟩
    · rcases List.mem_cons.1 hb with rfl | hb
      · exact hB
      · exact hF.ge b hb
    · rcases List.mem_cons.1 hb with rfl | hb
      · exact ⟨_, _, hg⟩
      · exact (hF.own.keep hK) b hb

end Go.Proofs.YtlbcjkjoapcppaaGreat

namespace PM

section
variable {α : Type} [DecidableEq α]
theorem nodup_sub_len : ∀ {l1 l2 : List α}, l1.Nodup → l1 ⊆ l2 → l1.length ≤ l2.length := by
  intro l1
  induction l1 with
  | nil => intro l2 _ _; simp
  | cons a t ih =>
    intro l2 hn hs
    obtain ⟨ha, ht⟩ := List.nodup_cons.1 hn
    have ham : a ∈ l2 := hs (by simp)
    have h1 : t ⊆ l2.erase a := by
      intro x hx
      refine (List.mem_erase_of_ne ?_).2 (hs (by simp [hx]))
      intro e; subst e; exact ha hx
    have h2 := ih ht h1
    have h3 := List.length_erase_of_mem ham
    have h4 : 0 < l2.length := List.length_pos_of_mem ham
    simp only [List.length_cons]
    omega
/-- a list without repetitions that lies within a list no longer has all of it -/
theorem nodup_sub_all {l1 l2 : List α} (hn : l1.Nodup) (hs : l1 ⊆ l2) (hl : l2.length ≤ l1.length) : l2 ⊆ l1 := by
  intro x hx
  apply Classical.byContradiction
  intro hxn
  have h := nodup_sub_len (List.nodup_cons.2 ⟨hxn, hn⟩) (l2 := l2) (by
    intro y hy
    rcases List.mem_cons.1 hy with rfl | hy
    · exact hx
    · exact hs hy)
  simp at h
  omega
end

/-- the numbers 0, 1, .., n-1 -/
def pts (n : Nat) : List Int := (List.range n).map (fun k : Nat => (k : Int))
theorem pts_len (n : Nat) : (pts n).length = n := by simp [pts]
theorem mem_pts {n : Nat} {x : Int} : x ∈ pts n ↔ 0 ≤ x ∧ x < n := by
  simp only [pts, List.mem_map, List.mem_range]
  constructor
  · rintro ⟨k, hk, rfl⟩; omega
  · intro ⟨h1, h2⟩; exact ⟨x.toNat, by omega, by omega⟩
theorem pts_nodup (n : Nat) : (pts n).Nodup := by
  exact List.Pairwise.map _ (fun a b (h : a ≠ b) hab => h (by omega)) List.nodup_range
theorem pts_get (n k : Nat) (h : k < (pts n).length) : (pts n)[k] = (k : Int) := by simp [pts]

/-- p is a permutation of its indices -/
def IsP (p : List Int) : Prop := (∀ x ∈ p, 0 ≤ x ∧ x < p.length) ∧ p.Nodup
instance (p : List Int) : Decidable (IsP p) := by unfold IsP; exact inferInstance
theorem IsP.sub {p : List Int} (h : IsP p) : p ⊆ pts p.length := fun x hx => mem_pts.2 (h.1 x hx)
theorem IsP.all {p : List Int} (h : IsP p) : pts p.length ⊆ p := nodup_sub_all h.2 h.sub (by rw [pts_len]; exact Nat.le_refl _)
end PM

namespace Go.Proofs.YtlbcjkjoapcppaaGreat
open Go.RowKit
set_option maxRecDepth 10000

/-- the same as quiet_drewN at a function's beginning -/
theorem quiet_drewN0 {P : Program} {f : FuncId} {args : Array Value} {w : World} {n : Nat} {v : Value}
    (h : Calls P f args (w.drewN n) fun e w' => e = .returned v ∧ Drew (w.drewN n) w') :
    Calls P f args (w.drewN n) fun e w'' => e = .returned v ∧ ∃ m, w'' = w.drewN m :=
  h.mono fun _ _ ⟨he, m, hm⟩ => ⟨he, n + m, by rw [hm, World.drewN_drewN]⟩
theorem IntsA.take {w : World} {a : Option Addr} {cap : Nat} {l : List Int} {fp : List Nat} (h : IntsA w a cap l fp) (j : Nat) : IntsA w a cap (l.take j) fp := by
  refine ⟨Nat.le_trans (by simp; omega) h.len, h.cap, fun x hx => h.wf x (List.mem_of_mem_take hx), fun k hk => ?_, h.lt, h.one⟩
  have hk' : k < l.length := by simp at hk; omega
  obtain ⟨b, off, e1, e2, e3⟩ := h.at_ k hk'
  exact ⟨b, off, e1, e2, by rw [e3]; simp⟩
def permB (l : List Int) : Bool := inR l.length 1 20 && decide (PM.IsP l)
theorem permB_iff {l : List Int} : permB l = true ↔ (1 ≤ l.length ∧ l.length ≤ 20) ∧ PM.IsP l := by
  simp [permB, inR]; omega
theorem mem_take_step {l : List Int} {j : Nat} (h : j < l.length) {P : Int → Prop} (h1 : ∀ x ∈ l.take j, P x) (h2 : P l[j]) : ∀ x ∈ l.take (j + 1), P x := by
  rw [take_succ_get l j h]
  intro x hx
  rcases List.mem_append.1 hx with hx | hx
  · exact h1 x hx
  · simp at hx; subst hx; exact h2
theorem nodup_take_step {l : List Int} {j : Nat} (h : j < l.length) (h1 : (l.take j).Nodup) (h2 : l[j] ∉ l.take j) : (l.take (j + 1)).Nodup := by
  rw [take_succ_get l j h]
  exact List.nodup_append.2 ⟨h1, by simp, by intro a ha b hb e; simp at hb; subst hb; subst e; exact h2 ha⟩
theorem nodup_take_not {l : List Int} {j : Nat} (h : j < l.length) (h2 : l[j] ∈ l.take j) : ¬ l.Nodup := by
  intro hn
  have h3 : (l.take (j + 1)).Nodup := List.Nodup.sublist (List.take_sublist _ _) hn
  rw [take_succ_get l j h] at h3
  exact (List.nodup_append.1 h3).2.2 _ h2 _ (by simp) rfl

set_option maxHeartbeats 400000 in
theorem containsInt_any (a : Option Addr) (cap : Nat) (l : List Int) (n : Int) (fp : List Nat) (w : World) (h : IntsA w a cap l fp) :
    Calls Tryz.prog 102 #[.slice a l.length cap, .int .i64 n] w fun e w' => e = .returned (.bool (decide (n ∈ l))) ∧ Drew w w' := by
  have hb := h.bound
  go_enter Tryz.func102, Tryz.ntmps102
  go_wp2
  go_loopw [5] (fun i wr => ∃ j : Nat, j ≤ l.length ∧ i = .int .i64 j ∧ n ∉ l.take j ∧ Drew w wr)
    (fun i _ => l.length - (intOf i).toNat)
  case atStart => exact ⟨0, Nat.zero_le _, rfl, by simp, Drew.refl _⟩
  case round =>
    obtain ⟨j, hj, rfl, hr, k, rfl⟩ := hrel
    have Hr := Lib.hid hr; clear hr
    by_cases hlt : j < l.length
    · obtain ⟨b, off, rfl, -, hc⟩ := h.at_ j hlt
      by_cases hx : l[j] = n
      · have hq : (l[j] == n) = true := by simp [hx]
        have Hx := Lib.hid hx; clear hx
        go_wp2
        go_ret
        exact ⟨ret_bool (decide_eq_true (by rw [← Hx.out]; exact List.getElem_mem _)).symm, ⟨_, rfl⟩⟩
      · have hq : (l[j] == n) = false := by simp [hx]
        have Hx := Lib.hid hx; clear hx
        go_wp2
        go_roundw
        case rel => exact ⟨j + 1, by omega, by go_num, by
          rw [take_succ_get l j hlt]; intro hm
          rcases List.mem_append.1 hm with hm | hm
          · exact Hr.out hm
          · simp at hm; exact Hx.out hm.symm, ⟨_, rfl⟩⟩
        case measure => simp [intOf]; omega
    · go_wp2
      go_ret
      exact ⟨ret_bool (decide_eq_false (by have := Hr.out; rwa [List.take_of_length_le (by omega)] at this)).symm, ⟨_, rfl⟩⟩
theorem containsInt_pre (a : Option Addr) (cap : Nat) (l : List Int) (j : Nat) (n : Int) (fp : List Nat) (w : World) (h : IntsA w a cap l fp) (hj : j ≤ l.length) :
    Calls Tryz.prog 102 #[.slice a j cap, .int .i64 n] w fun e w' => e = .returned (.bool (decide (n ∈ l.take j))) ∧ Drew w w' := by
  have := containsInt_any a cap (l.take j) n fp w (h.take j)
  rwa [show (l.take j).length = j by simp; omega] at this
theorem inRange_q (x lo hi : Int) (w : World) :
    Calls Tryz.prog 51 #[.int .i64 x, .int .i64 lo, .int .i64 hi] w fun e w' => e = .returned (.bool (inR x lo hi)) ∧ Drew w w' :=
  (inRange_any x lo hi w).mono fun _ _ ⟨h1, h2⟩ => ⟨h1, by rw [h2]; exact Drew.refl _⟩
set_option maxHeartbeats 1000000 in
theorem specIsPerm_any (a : Option Addr) (cap : Nat) (l : List Int) (fp : List Nat) (w : World) (h : IntsA w a cap l fp) :
    Calls Tryz.prog 91 #[.slice a l.length cap] w fun e w' => e = .returned (.bool (permB l)) ∧ Drew w w' := by
  have hb := h.bound
  rcases hq : inR l.length 1 20
  · go_enter Tryz.func91, Tryz.ntmps91
    go_wp2_with ((go_at_call 51; (with_reducible refine (inRange_any l.length 1 20 _).mono ?_); rintro e w1 ⟨rfl, rfl⟩))
    go_ret
    exact ⟨ret_bool (by unfold permB; rw [hq]; rfl), Drew.refl _⟩
  have hfin : permB l = decide (PM.IsP l) := by unfold permB; rw [hq]; rfl
  have Hfin := Lib.hid hfin; clear hfin
  obtain ⟨g1, g2⟩ := inR_iff.1 hq
  go_enter Tryz.func91, Tryz.ntmps91
  go_wp2_with ((go_at_call 51; (with_reducible refine (inRange_any l.length 1 20 _).mono ?_); rintro e w ⟨rfl, rfl⟩))
  go_loopw [4] (fun i wr => ∃ j : Nat, j ≤ l.length ∧ i = .int .i64 j ∧ (∀ x ∈ l.take j, 0 ≤ x ∧ x < l.length) ∧ (l.take j).Nodup ∧ Drew w wr)
    (fun i _ => l.length - (intOf i).toNat)
  case atStart => exact ⟨0, Nat.zero_le _, rfl, by simp, by simp, Drew.refl _⟩
  case round =>
    obtain ⟨j, hj, rfl, hr, hn, k, rfl⟩ := hrel
    have Hr := Lib.hid hr; clear hr
    have Hn := Lib.hid hn; clear hn
    by_cases hlt : j < l.length
    · obtain ⟨b, off, rfl, -, hc⟩ := h.at_ j hlt
      have hcap := h.len
      have hi1 : (0 : Int) ≤ (j : Int) := by omega
      have hi2 : (j : Int) < (l.length : Int) := by omega
      rcases c1 : inR l[j] 0 (l.length - 1)
      · go_wp2
        go_quiet ((go_at_call 51; exact quiet_drewN (inRange_q l[j] 0 (l.length - 1) _)))
        go_wp2
        go_ret
        exact ⟨ret_bool (by rw [Hfin.out, eq_comm, decide_eq_false_iff_not]; intro hp; have := hp.1 l[j] (List.getElem_mem _); rw [inR_not] at c1; omega), ((Drew.refl _).drewN _).drewN _⟩
      have hx := inR_iff.1 c1
      have Hx := Lib.hid hx; clear hx
      rcases c2 : decide (l[j] ∈ l.take j)
      all_goals go_wp2
      all_goals go_quiet (first
        | (go_at_call 51; exact quiet_drewN (inRange_q l[j] 0 (l.length - 1) _))
        | (go_at_call 102; exact quiet_drewN (containsInt_pre (some ⟨b, off, none⟩) cap l j l[j] fp _ (h.keep (Only.ofDrewN _ _ _)) hj)))
      · have C2 := Lib.hid (of_decide_eq_false c2); clear c2
        go_wp2
        go_roundw
        case rel => exact ⟨j + 1, by omega, by go_num, mem_take_step hlt Hr.out (by have := Hx.out; omega), nodup_take_step hlt Hn.out C2.out, ⟨_, rfl⟩⟩
        case measure => simp [intOf]; omega
      · have C2 := Lib.hid (of_decide_eq_true c2); clear c2
        go_wp2
        go_ret
        exact ⟨ret_bool (by rw [Hfin.out, eq_comm, decide_eq_false_iff_not]; intro hp; exact nodup_take_not hlt C2.out hp.2), ((Drew.refl _).drewN _).drewN _⟩
    · go_wp2
      go_ret
      exact ⟨ret_bool (by rw [Hfin.out, eq_comm, decide_eq_true_iff]; have h1 := Hr.out; have h2 := Hn.out; rw [List.take_of_length_le (by omega)] at h1 h2; exact ⟨h1, h2⟩), ⟨_, rfl⟩⟩
theorem specIsPerm_rd (v : Value) (l : List Int) (fp : List Nat) (w : World) (h : Rd w v l fp) :
    Calls Tryz.prog 91 #[v] w fun e w' => e = .returned (.bool (permB l)) ∧ Drew w w' := by
  obtain ⟨a, cap, rfl, hI⟩ := h.ints
  exact specIsPerm_any a cap l fp w hI

end Go.Proofs.YtlbcjkjoapcppaaGreat

namespace Go.Proofs.YtlbcjkjoapcppaaGreat
open Go.RowKit
set_option maxRecDepth 10000



def genB (n : Int) (g : List Int) : Bool := decide ((g.length : Int) = n) && permB g
def gensB (n : Int) (gens : List (List Int)) : Bool := inR n 1 20 && decide (gens.length ≤ 8) && gens.all (genB n)
set_option maxHeartbeats 1000000 in
theorem specIsGens_any (n : Int) (a : Option Addr) (cap : Nat) (l : List (List Int)) (ob : List Nat) (fps : List (List Nat)) (w : World) (h : SeqA w a cap l ob fps) :
    Calls Tryz.prog 77 #[.int .i64 n, .slice a l.length cap] w fun e w' => e = .returned (.bool (gensB n l)) ∧ Drew w w' := by
  have hb := h.bound
  rcases hq : inR n 1 20
  · go_enter Tryz.func77, Tryz.ntmps77
    go_wp2_with ((go_at_call 51; (with_reducible refine (inRange_any n 1 20 _).mono ?_); rintro e w ⟨rfl, rfl⟩))
    go_ret
    exact ⟨ret_bool (by unfold gensB; rw [hq]; rfl), Drew.refl _⟩
  by_cases hl : 8 < l.length
  · go_enter Tryz.func77, Tryz.ntmps77
    go_wp2_with ((go_at_call 51; (with_reducible refine (inRange_any n 1 20 _).mono ?_); rintro e w ⟨rfl, rfl⟩))
    go_ret
    exact ⟨ret_bool (by unfold gensB; rw [hq, decide_eq_false (by omega)]; rfl), Drew.refl _⟩
  have hfin : gensB n l = l.all (genB n) := by unfold gensB; rw [hq, decide_eq_true (by omega)]; rfl
  have Hfin := Lib.hid hfin; clear hfin
  go_enter Tryz.func77, Tryz.ntmps77
  go_wp2_with ((go_at_call 51; (with_reducible refine (inRange_any n 1 20 _).mono ?_); rintro e w ⟨rfl, rfl⟩))
  go_loopw [5] (fun i wr => ∃ j : Nat, j ≤ l.length ∧ i = .int .i64 j ∧ (∀ x ∈ l.take j, genB n x = true) ∧ Drew w wr)
    (fun i _ => l.length - (intOf i).toNat)
  case atStart => exact ⟨0, Nat.zero_le _, rfl, by simp, Drew.refl _⟩
  case round =>
    obtain ⟨j, hj, rfl, hr, k, rfl⟩ := hrel
    have Hr := Lib.hid hr; clear hr
    by_cases hlt : j < l.length
    · obtain ⟨b, off, v, rfl, -, hc, hv⟩ := h.atRow j hlt
      obtain ⟨a2, c2, rfl, hI⟩ := hv.ints
      have hb2 := hI.bound
      by_cases c1 : (l[j].length : Int) = n
      · have d1 : ((l[j].length : Int) != n) = false := by simp [c1]
        have C1 := Lib.hid c1; clear c1
        rcases c2 : permB l[j]
        all_goals go_wp2_with ((go_at_call 91; (with_reducible refine (specIsPerm_rd _ l[j] _ _ (Rp.keep hv (Only.ofDrewN _ _ _))).mono ?_); rintro e w1 ⟨rfl, n1, rfl⟩))
        · go_ret
          exact ⟨ret_bool (by rw [Hfin.out, eq_comm, List.all_eq_false]; exact ⟨l[j], List.getElem_mem _, by simp [genB, c2]⟩), ⟨_, rfl⟩⟩
        · go_roundw
          case rel => exact ⟨j + 1, by omega, by go_num, by
            rw [take_succ_get l j hlt]; intro x hx
            rcases List.mem_append.1 hx with hx | hx
            · exact Hr.out x hx
            · simp at hx; subst hx; simp [genB, c2, C1.out], ⟨_, rfl⟩⟩
          case measure => simp [intOf]; omega
      · have d1 : ((l[j].length : Int) != n) = true := by simp [c1]
        have C1 := Lib.hid c1; clear c1
        go_wp2
        go_ret
        exact ⟨ret_bool (by rw [Hfin.out, eq_comm, List.all_eq_false]; exact ⟨l[j], List.getElem_mem _, by simp [genB, C1.out]⟩), ⟨_, rfl⟩⟩
    · go_wp2
      go_ret
      exact ⟨ret_bool (by rw [Hfin.out, eq_comm, List.all_eq_true]; have := Hr.out; rwa [List.take_of_length_le (by omega)] at this), ⟨_, rfl⟩⟩
theorem specIsGens_rd (n : Int) (v : Value) (l : List (List Int)) (fp : List Nat) (w : World) (h : Rd w v l fp) :
    Calls Tryz.prog 77 #[.int .i64 n, v] w fun e w' => e = .returned (.bool (gensB n l)) ∧ Drew w w' := by
  obtain ⟨a, cap, ob, fps, rfl, -, hs⟩ := h.open_
  exact specIsGens_any n a cap l ob fps w hs



end Go.Proofs.YtlbcjkjoapcppaaGreat

namespace Go.Proofs.YtlbcjkjoapcppaaGreat
open Go.RowKit
set_option maxRecDepth 10000

class MkL (α : Type) [Mk α] : Prop where
  idem : ∀ (k : Int) (x : α), Mk.mark k (Mk.mark k x) = Mk.mark k x
  cnt : ∀ (k : Int) (x : α), Mk.cnt (Mk.mark k x) = Mk.cnt x
instance : MkL Int := ⟨fun _ _ => rfl, fun _ _ => rfl⟩
theorem markL_cnt {α : Type} [Mk α] [MkL α] (k : Int) (l : List α) : cntL (markL k l) = cntL l := by
  induction l generalizing k with
  | nil => rfl
  | cons x l ih => simp [markL, cntL, ih, MkL.cnt]
theorem markL_idem {α : Type} [Mk α] [MkL α] (k : Int) (l : List α) : markL k (markL k l) = markL k l := by
  induction l generalizing k with
  | nil => rfl
  | cons x l ih => simp [markL, ih, MkL.cnt, MkL.idem]
instance {α : Type} [Mk α] [MkL α] : MkL (List α) := ⟨markL_idem, markL_cnt⟩
/-- how many numbers there are, against the size that the laws reckon -/
class CntSz (α : Type) [Mk α] [Sz α] : Prop where
  le : ∀ x : α, Mk.cnt x ≤ Sz.sz x
instance : CntSz (List Int) := ⟨fun l => by simp [Mk.cnt, cntL_ints, Sz.sz]⟩
theorem cntL_szL {α : Type} [Mk α] [Sz α] [CntSz α] (l : List α) : cntL l ≤ szL l := by
  induction l with
  | nil => simp [cntL]
  | cons x l ih => have := CntSz.le x; simp only [cntL, szL]; omega
instance {α : Type} [Mk α] [Sz α] [CntSz α] : CntSz (List α) := ⟨fun l => by have := cntL_szL l; show cntL l ≤ l.length + szL l; omega⟩

theorem and_of {a b : Prop} (h : a) (k : a → b) : a ∧ b := ⟨h, k h⟩
/-- block g holds just the cells cs -/
def Blk (w : World) (g : Nat) (cs : List Value) : Prop := ∃ t, w.heap[g]? = some (.cells cs.toArray t (0, 0))
theorem Blk.lt {w : World} {g : Nat} {cs : List Value} (h : Blk w g cs) : g < w.heap.size := by
  obtain ⟨t, h⟩ := h; exact (Array.getElem?_eq_some_iff.1 h).1
theorem Blk.new (w : World) (cs : List Value) (t : TypeId) : Blk (w.alloc (.cells cs.toArray t)) w.heap.size cs := ⟨t, heap_alloc_new w _⟩
theorem Blk.new_at {w : World} {cs : List Value} {t : TypeId} {g : Nat} (h : g = w.heap.size) : Blk (w.alloc (.cells cs.toArray t)) g cs := by subst h; exact Blk.new _ _ _
theorem Blk.only {w w' : World} {g : Nat} {cs : List Value} {fp : List Nat} (h : Blk w g cs) (ho : Only fp w w') (hn : g ∉ fp) : Blk w' g cs := by
  have := h.lt
  obtain ⟨t, h⟩ := h; exact ⟨t, (ho.block g this hn).trans h⟩
theorem Blk.keep {w w' : World} {g : Nat} {cs : List Value} (h : Blk w g cs) (ho : Only [] w w') : Blk w' g cs := h.only ho (by simp)
theorem Blk.cell {w : World} {g : Nat} {cs : List Value} (h : Blk w g cs) (i : Nat) {v : Value} (hv : cs[i]? = some v) : w.cell? ⟨g, i, none⟩ = some v := by
  obtain ⟨t, h⟩ := h
  rw [cell_of_row w g i _ t (0, 0) h]; simpa using hv
end Go.Proofs.YtlbcjkjoapcppaaGreat

namespace Go.Proofs.YtlbcjkjoapcppaaGreat
open Go.RowKit
set_option maxRecDepth 10000

structure Table where
  tracked : List Int
  patterns : List (List Int)
  distances : List Int

instance : Rp Table where
  size := 3
  rep w cs x fp := ∃ v0 v1 v2 f0 f1 f2, cs = [v0] ++ [v1] ++ [v2] ∧ fp = f0 ++ (f1 ++ f2) ∧ Rd w v0 x.tracked f0 ∧ Rd w v1 x.patterns f1 ∧ Rd w v2 x.distances f2
  len h := by
    obtain ⟨v0, v1, v2, f0, f1, f2, rfl, -, h0, h1, h2⟩ := h
    rfl
  frame h hf := by
    obtain ⟨v0, v1, v2, f0, f1, f2, hcs, rfl, h0, h1, h2⟩ := h
    exact ⟨v0, v1, v2, f0, f1, f2, hcs, rfl, Rp.frame h0 fun b hb => hf b (by simp [hb]), Rp.frame h1 fun b hb => hf b (by simp [hb]), Rp.frame h2 fun b hb => hf b (by simp [hb])⟩
  lt h := by
    obtain ⟨v0, v1, v2, f0, f1, f2, hcs, rfl, h0, h1, h2⟩ := h
    intro b hb
    simp only [List.mem_append] at hb
    rcases hb with hb | hb | hb
    · exact Rp.lt h0 b hb
    · exact Rp.lt h1 b hb
    · exact Rp.lt h2 b hb

instance : Mk Table where
  mark k x := ⟨Mk.mark (k) x.tracked, Mk.mark (k + (Mk.cnt x.tracked : Nat)) x.patterns, Mk.mark (k + (Mk.cnt x.tracked : Nat) + (Mk.cnt x.patterns : Nat)) x.distances⟩
  cnt x := Mk.cnt x.tracked + Mk.cnt x.patterns + Mk.cnt x.distances
instance : Sz Table where
  sz x := Sz.sz x.tracked + Sz.sz x.patterns + Sz.sz x.distances
instance : Sm Table where
  sm x := Sm.sm x.tracked ∧ Sm.sm x.patterns ∧ Sm.sm x.distances
instance : SzSm Table := ⟨fun x h => by
  have h' : Sz.sz x.tracked + Sz.sz x.patterns + Sz.sz x.distances ≤ 2097152 := h
  exact ⟨SzSm.of_ _ (by omega), SzSm.of_ _ (by omega), SzSm.of_ _ (by omega)⟩⟩
instance : CntSz Table := ⟨fun x => by
  have h' : Mk.cnt x.tracked + Mk.cnt x.patterns + Mk.cnt x.distances ≤ Sz.sz x.tracked + Sz.sz x.patterns + Sz.sz x.distances := by have := CntSz.le x.tracked; have := CntSz.le x.patterns; have := CntSz.le x.distances; omega
  exact h'⟩
instance : MkL Table := ⟨fun k x => by simp [Mk.mark, Mk.cnt, markL_idem, markL_cnt], fun k x => by simp [Mk.mark, Mk.cnt, markL_cnt]⟩
theorem Table.eq_iff {x y : Table} : x = y ↔ x.tracked = y.tracked ∧ x.patterns = y.patterns ∧ x.distances = y.distances := by
  cases x; cases y; simp





end Go.Proofs.YtlbcjkjoapcppaaGreat


namespace Go.Proofs.YtlbcjkjoapcppaaGreat
open Go.RowKit
set_option maxRecDepth 10000

theorem SeqA.at3 {w : World} {a : Option Addr} {cap : Nat} {xs : List Table} {ob : List Nat} {fps : List (List Nat)} (h : SeqA w a cap xs ob fps) (k : Nat) (hk : k < xs.length) :
    ∃ b off v1 v2 v3, a = some ⟨b, off, none⟩ ∧ ob = [b] ∧ w.cell? ⟨b, off + k * 3, none⟩ = some v1 ∧ w.cell? ⟨b, off + k * 3 + 1, none⟩ = some v2 ∧ w.cell? ⟨b, off + k * 3 + 2, none⟩ = some v3 ∧ Rp.rep w [v1, v2, v3] xs[k] (fps[k]'(by rw [h.nf]; exact hk)) := by
  obtain ⟨b, off, cs, ha, hob, hc, hr⟩ := h.at_ k hk
  have hl := Rp.len hr
  match cs, hl with
  | [v1, v2, v3], _ => exact ⟨b, off, v1, v2, v3, ha, hob, hc 0 v1 rfl, hc 1 v2 rfl, hc 2 v3 rfl, hr⟩





/-- the first elements of a list whose elements take several cells, read one by one -/
structure ReadsC {α : Type} [Rp α] (w : World) (B : Nat) (css : List (List Value)) (xs : List α) (fps : List (List Nat)) : Prop where
  vl : css.length = xs.length
  fl : fps.length = xs.length
  at_ : ∀ k (h1 : k < css.length) (h2 : k < xs.length) (h3 : k < fps.length), Rp.rep w css[k] xs[k] fps[k]
  fresh : Fresh B w fps.flatten
section
variable {α : Type} [Rp α] {w w' : World} {B : Nat} {css : List (List Value)} {xs : List α} {fps : List (List Nat)}
theorem ReadsC.nil (w : World) (B : Nat) : ReadsC w B [] ([] : List α) [] := ⟨rfl, rfl, by simp, Fresh.nil _ _⟩
theorem ReadsC.only {fp : List Nat} (h : ReadsC w B css xs fps) (ho : Only fp w w') (hd : ∀ b ∈ fp, b < B ∨ w.heap.size ≤ b) : ReadsC w' B css xs fps :=
  ⟨h.vl, h.fl, fun k h1 h2 h3 => Rp.only (h.at_ k h1 h2 h3) ho (fun b hb hm => by
      have h4 := h.fresh.ge b (mem_flatten_get h3 hb); have h5 := h.fresh.lt b (mem_flatten_get h3 hb); have := hd b hm; omega),
    h.fresh.only ho (fun b hb hm => by have h4 := h.fresh.ge b hb; have h5 := h.fresh.lt b hb; have := hd b hm; omega)⟩
end
theorem set3 (L : List Value) (n j : Nat) (z a b c : Value) (h : j < n) (hl : L.length = j * 3) :
    (((L ++ List.replicate ((n - j) * 3) z).set (j * 3) a).set (j * 3 + 1) b).set (j * 3 + 2) c = (L ++ [a, b, c]) ++ List.replicate ((n - (j + 1)) * 3) z := by
  have h2 : (n - j) * 3 = (n - (j + 1)) * 3 + 1 + 1 + 1 := by omega
  rw [h2, List.replicate_succ, List.replicate_succ, List.replicate_succ]
  rw [List.set_append_right _ _ (by omega), List.set_append_right _ _ (by omega), List.set_append_right _ _ (by omega)]
  have e0 : j * 3 - L.length = 0 := by omega
  have e1 : j * 3 + 1 - L.length = 1 := by omega
  have e2 : j * 3 + 2 - L.length = 2 := by omega
  rw [e0, e1, e2]
  simp only [List.set, List.append_assoc, List.cons_append, List.nil_append]

theorem Tryz.infoTable : (Tryz.prog.info? 53).map (fun i => (i.zero, i.size, i.bytes)) = some (some (.agg #[.slice none 0 0, .slice none 0 0, .slice none 0 0]), 3, 72) := by kernel_rfl
theorem madeNils3 (n : Nat) : (madeCells (Value.cells (.agg #[.slice none 0 0, .slice none 0 0, .slice none 0 0])) n).toList = List.replicate n (.slice none 0 0) := by
  apply List.ext_getElem (by simp [madeCells])
  intro i h1 h2
  have hi : i % 3 = 0 ∨ i % 3 = 1 ∨ i % 3 = 2 := by omega
  rcases hi with hi | hi | hi <;> simp [madeCells, Value.cells, hi]

end Go.Proofs.YtlbcjkjoapcppaaGreat


namespace Go.Proofs.YtlbcjkjoapcppaaGreat
open Go.RowKit
set_option maxRecDepth 10000

structure Puzzle where
  points : Int
  names : ByteArray
  moves : List (List Int)

instance : Rp Puzzle where
  size := 3
  rep w cs x fp := ∃ v2, cs = [Value.int .i64 x.points] ++ [Value.string x.names] ++ [v2] ∧ I64 x.points ∧ x.names.size ≤ maxLen ∧ Rd w v2 x.moves fp
  len h := by
    obtain ⟨v2, rfl, p0, p1, h2⟩ := h
    rfl
  frame h hf := by
    obtain ⟨v2, hcs, p0, p1, h2⟩ := h
    exact ⟨v2, hcs, p0, p1, Rp.frame h2 fun b hb => hf b (by simp [hb])⟩
  lt h := by
    obtain ⟨v2, hcs, p0, p1, h2⟩ := h
    intro b hb
    exact Rp.lt h2 b hb

instance : Mk Puzzle where
  mark k x := ⟨x.points, x.names, Mk.mark (k) x.moves⟩
  cnt x := Mk.cnt x.moves
instance : Sz Puzzle where
  sz x := x.names.size + Sz.sz x.moves
instance : Sm Puzzle where
  sm x := Sm.sm x.moves
instance : SzSm Puzzle := ⟨fun x h => by
  have h' : x.names.size + Sz.sz x.moves ≤ 2097152 := h
  exact SzSm.of_ x.moves (by omega)⟩
instance : CntSz Puzzle := ⟨fun x => by
  have h' : Mk.cnt x.moves ≤ x.names.size + Sz.sz x.moves := by have := CntSz.le x.moves; omega
  exact h'⟩
instance : MkL Puzzle := ⟨fun k x => by simp [Mk.mark, markL_idem], fun k x => by simp [Mk.mark, Mk.cnt, markL_cnt]⟩
theorem Puzzle.eq_iff {x y : Puzzle} : x = y ↔ x.points = y.points ∧ x.names = y.names ∧ x.moves = y.moves := by
  cases x; cases y; simp





end Go.Proofs.YtlbcjkjoapcppaaGreat


namespace Go.Proofs.YtlbcjkjoapcppaaGreat
open Go.RowKit
set_option maxRecDepth 10000

/-- the bytes of a string, as numbers -/
def bl (s : ByteArray) : List Int := s.data.toList.map fun b => (b.toNat : Int)
theorem bl_len (s : ByteArray) : (bl s).length = s.size := by
  unfold bl; rw [List.length_map, Array.length_toList]; rfl
theorem bl_get (s : ByteArray) (i : Nat) (h : i < s.size) (h' : i < (bl s).length) : (bl s)[i] = (s[i].toNat : Int) := by
  simp [bl]; rfl
def moveNameB (L : List Int) (i : Nat) : Bool := match L[i]? with
  | some b => inR b 65 90 && decide (b ∉ L.take i)
  | none => false
theorem moveNameB_of {L : List Int} {i : Nat} (h : i < L.length) : moveNameB L i = (inR L[i] 65 90 && decide (L[i] ∉ L.take i)) := by
  simp [moveNameB, h]
def namesB (s : ByteArray) : Bool := inR s.size 1 8 && ((bl s).all (fun b => inR b 65 90) && decide (bl s).Nodup)
def validPz (p : Puzzle) : Bool := gensB p.points p.moves && (namesB p.names && decide (p.names.size = p.moves.length))
theorem names_of {L : List Int} : (L.all (fun b => inR b 65 90) && decide L.Nodup) = true ↔ (∀ x ∈ L, inR x 65 90 = true) ∧ L.Nodup := by simp

set_option maxHeartbeats 1000000 in
theorem isMoveName_any (s : ByteArray) (i : Nat) (w : World) (hs : s.size ≤ maxLen) (hi : i < s.size) :
    Calls Tryz.prog 92 #[.string s, .int .i64 i] w fun e w' => e = .returned (.bool (moveNameB (bl s) i)) ∧ Drew w w' := by
  unfold maxLen at hs
  have hi1 : (0 : Int) ≤ (i : Int) := by omega
  have hi2 : (i : Int) < (s.size : Int) := by omega
  have hL : i < (bl s).length := by rw [bl_len]; exact hi
  have hfin : moveNameB (bl s) i = (inR (s[i].toNat : Int) 65 90 && decide ((s[i].toNat : Int) ∉ (bl s).take i)) := by rw [moveNameB_of hL, bl_get s i hi hL]
  have Hfin := Lib.hid hfin; clear hfin
  by_cases c1 : (s[i].toNat : Int) < 65
  · go_enter Tryz.func92, Tryz.ntmps92
    go_wp2
    go_ret
    exact ⟨ret_bool (by rw [Hfin.out, show inR (s[i].toNat : Int) 65 90 = false by rw [inR_not]; omega]; rfl), ⟨0, rfl⟩⟩
  by_cases c2 : 90 < (s[i].toNat : Int)
  · go_enter Tryz.func92, Tryz.ntmps92
    go_wp2
    go_ret
    exact ⟨ret_bool (by rw [Hfin.out, show inR (s[i].toNat : Int) 65 90 = false by rw [inR_not]; omega]; rfl), ⟨0, rfl⟩⟩
  have hR : moveNameB (bl s) i = decide ((s[i].toNat : Int) ∉ (bl s).take i) := by rw [Hfin.out, show inR (s[i].toNat : Int) 65 90 = true by rw [inR_iff]; omega]; rfl
  have HR := Lib.hid hR; clear hR Hfin
  go_enter Tryz.func92, Tryz.ntmps92
  go_wp2
  go_loopw [5] (fun t wr => ∃ j : Nat, j ≤ i ∧ t = .int .i64 j ∧ (s[i].toNat : Int) ∉ (bl s).take j ∧ Drew w wr)
    (fun t _ => i - (intOf t).toNat)
  case atStart => exact ⟨0, Nat.zero_le _, rfl, by simp, Drew.refl _⟩
  case round =>
    obtain ⟨j, hj, rfl, hr, k, rfl⟩ := hrel
    have Hr := Lib.hid hr; clear hr
    by_cases hlt : j < i
    · have hjs : j < s.size := by omega
      have hj1 : (0 : Int) ≤ (j : Int) := by omega
      have hj2 : (j : Int) < (s.size : Int) := by omega
      have hbj : (bl s)[j]'(by rw [bl_len]; exact hjs) = (s[j].toNat : Int) := bl_get s j hjs _
      have Hbj := Lib.hid hbj; clear hbj
      by_cases hx : (s[j].toNat : Int) = (s[i].toNat : Int)
      · have hq : ((s[j].toNat : Int) == (s[i].toNat : Int)) = true := by simp [hx]
        have Hx := Lib.hid hx; clear hx
        go_wp2
        go_quiet (fail)
        go_wp2
        go_ret
        exact ⟨ret_bool (by rw [HR.out, eq_comm, decide_eq_false_iff_not, Classical.not_not, ← Hx.out, ← Hbj.out]; exact List.mem_take_iff_getElem.2 ⟨j, by rw [bl_len]; omega, rfl⟩), ((Drew.refl _).drewN _).drewN _⟩
      · have hq : ((s[j].toNat : Int) == (s[i].toNat : Int)) = false := by simpa using hx
        have Hx := Lib.hid hx; clear hx
        go_wp2
        go_quiet (fail)
        go_wp2
        go_roundw
        case rel => exact ⟨j + 1, by omega, by go_num, by
          rw [take_succ_get (bl s) j (by rw [bl_len]; exact hjs)]; intro hm
          rcases List.mem_append.1 hm with hm | hm
          · exact Hr.out hm
          · simp at hm; rw [Hbj.out] at hm; exact Hx.out hm.symm, ⟨_, rfl⟩⟩
        case measure => simp [intOf]; omega
    · go_wp2
      go_ret
      exact ⟨ret_bool (by rw [HR.out, eq_comm, decide_eq_true_iff]; have := Hr.out; have e : j = i := (by omega); rwa [e] at this), ⟨_, rfl⟩⟩
theorem namesB_yes {L : List Int} (h : ∀ k, k < L.length → moveNameB L k = true) : (L.all (fun b => inR b 65 90) && decide L.Nodup) = true := by
  rw [names_of]
  have hk : ∀ k (hk : k < L.length), inR L[k] 65 90 = true ∧ L[k] ∉ L.take k := by
    intro k hk
    have := h k hk
    rw [moveNameB_of hk] at this
    simpa using this
  refine ⟨fun x hx => ?_, ?_⟩
  · obtain ⟨k, hk', rfl⟩ := List.getElem_of_mem hx
    exact (hk k hk').1
  · rw [List.nodup_iff_pairwise_ne, List.pairwise_iff_getElem]
    intro i j hi hj hij he
    exact (hk j hj).2 (List.mem_take_iff_getElem.2 ⟨i, by omega, he⟩)
theorem namesB_no {L : List Int} {k : Nat} (hk : k < L.length) (h : moveNameB L k = false) : (L.all (fun b => inR b 65 90) && decide L.Nodup) = false := by
  rw [← Bool.not_eq_true, names_of]
  rintro ⟨h1, h2⟩
  rw [moveNameB_of hk, h1 _ (List.getElem_mem _)] at h
  simp at h
  exact nodup_take_not hk h h2
set_option maxHeartbeats 2000000 in
theorem specIsValidPuzzle_any (cs : List Value) (x : Puzzle) (fp : List Nat) (w : World) (h : Rp.rep w cs x fp) :
    Calls Tryz.prog 79 #[.agg cs.toArray] w fun e w' => e = .returned (.bool (validPz x)) ∧ Only [] w w' := by
  obtain ⟨v2, rfl, p0, p1, h2⟩ := h
  obtain ⟨A2, C2, ob, fps, rfl, -, hs⟩ := h2.open_
  have hb := hs.bound
  have hm := p1; unfold maxLen at hm
  by_cases c1 : x.moves.length = 0
  · have hf : validPz x = false := by
      unfold validPz namesB
      rw [Bool.and_eq_false_iff, Bool.and_eq_false_iff, Bool.and_eq_false_iff]
      right
      by_cases hz : x.names.size = x.moves.length
      · left; left; rw [inR_not]; omega
      · right; exact decide_eq_false hz
    have Hf := Lib.hid hf; clear hf
    have d1 : ((x.moves.length : Int) == 0) = true := by simp [c1]
    have C1 := Lib.hid c1; clear c1
    go_enter Tryz.func79, Tryz.ntmps79
    go_wp2
    go_ret
    exact ⟨ret_bool Hf.out.symm, (by with_reducible repeat (first | exact Only.refl _ _ | assumption | refine Only.drewN ?_ _ | refine Only.drew ?_ | refine Only.alloc ?_ _ | refine Only.setCell ?_ (by intro hh; exfalso; simp at hh; try omega) _ | refine Only.trans ?_ (by assumption)))⟩
  have d1 : ((x.moves.length : Int) == 0) = false := by rw [beq_eq_false_iff_ne]; omega
  by_cases c2 : x.names.size = x.moves.length
  · have d2 : ((x.names.size : Int) != (x.moves.length : Int)) = false := by simp [c2]
    rcases c3 : gensB x.points x.moves
    · have hf : validPz x = false := by unfold validPz; rw [c3]; rfl
      have Hf := Lib.hid hf; clear hf
      have C2' := Lib.hid c2; clear c2
      have C1 := Lib.hid c1; clear c1
      go_enter Tryz.func79, Tryz.ntmps79
      go_wp2_with ((go_at_call 77; (with_reducible refine (specIsGens_rd x.points _ x.moves _ _ (Rp.keep h2 (by with_reducible repeat (first | exact Only.refl _ _ | assumption | refine Only.drewN ?_ _ | refine Only.drew ?_ | refine Only.alloc ?_ _ | refine Only.setCell ?_ (by intro hh; exfalso; simp at hh; try omega) _ | refine Only.trans ?_ (by assumption))))).mono ?_); rintro e w1 ⟨rfl, n1, rfl⟩))
      go_ret
      exact ⟨ret_bool Hf.out.symm, (by with_reducible repeat (first | exact Only.refl _ _ | assumption | refine Only.drewN ?_ _ | refine Only.drew ?_ | refine Only.alloc ?_ _ | refine Only.setCell ?_ (by intro hh; exfalso; simp at hh; try omega) _ | refine Only.trans ?_ (by assumption)))⟩
    have hl8 : x.moves.length ≤ 8 := by
      unfold gensB at c3; simp only [Bool.and_eq_true, decide_eq_true_eq] at c3; exact c3.1.2
    have hf : validPz x = ((bl x.names).all (fun b => inR b 65 90) && decide (bl x.names).Nodup) := by
      unfold validPz namesB; rw [c3, decide_eq_true c2, show inR x.names.size 1 8 = true by rw [inR_iff]; omega]; simp
    have Hf := Lib.hid hf; clear hf
    have C2' := Lib.hid c2; clear c2
    have C1 := Lib.hid c1; clear c1
    go_enter Tryz.func79, Tryz.ntmps79
    go_wp2_with ((go_at_call 77; (with_reducible refine (specIsGens_rd x.points _ x.moves _ _ (Rp.keep h2 (by with_reducible repeat (first | exact Only.refl _ _ | assumption | refine Only.drewN ?_ _ | refine Only.drew ?_ | refine Only.alloc ?_ _ | refine Only.setCell ?_ (by intro hh; exfalso; simp at hh; try omega) _ | refine Only.trans ?_ (by assumption))))).mono ?_); rintro e w1 ⟨rfl, n1, rfl⟩))
    go_loopw [3] (fun i wr => ∃ j : Nat, j ≤ x.names.size ∧ i = .int .i64 j ∧ (∀ k, k < j → moveNameB (bl x.names) k = true) ∧ Drew ((w.alloc (.cells #[.int .i64 x.points, .string x.names, .slice A2 x.moves.length C2] 42))) wr)
      (fun i _ => x.names.size - (intOf i).toNat)
    case atStart => exact ⟨0, Nat.zero_le _, rfl, by simp, ⟨_, rfl⟩⟩
    case round =>
      obtain ⟨j, hj, rfl, hr, k, rfl⟩ := hrel
      have Hr := Lib.hid hr; clear hr
      by_cases hlt : j < x.names.size
      · rcases c4 : moveNameB (bl x.names) j
        all_goals go_wp2_with ((go_at_call 92; (with_reducible refine (isMoveName_any x.names j _ p1 hlt).mono ?_); rintro e w1 ⟨rfl, n1, rfl⟩))
        · go_ret
          exact ⟨ret_bool (by rw [Hf.out, namesB_no (by rw [bl_len]; exact hlt) c4]), (by with_reducible repeat (first | exact Only.refl _ _ | assumption | refine Only.drewN ?_ _ | refine Only.drew ?_ | refine Only.alloc ?_ _ | refine Only.setCell ?_ (by intro hh; exfalso; simp at hh; try omega) _ | refine Only.trans ?_ (by assumption)))⟩
        · go_roundw
          case rel => exact ⟨j + 1, by omega, by go_num, fun k hk => by
            by_cases hkj : k = j
            · subst hkj; exact c4
            · exact Hr.out k (by omega), ⟨_, rfl⟩⟩
          case measure => simp [intOf]; omega
      · go_wp2
        go_ret
        exact ⟨ret_bool (by rw [Hf.out, namesB_yes (fun k hk => Hr.out k (by rw [bl_len] at hk; omega))]), (by with_reducible repeat (first | exact Only.refl _ _ | assumption | refine Only.drewN ?_ _ | refine Only.drew ?_ | refine Only.alloc ?_ _ | refine Only.setCell ?_ (by intro hh; exfalso; simp at hh; try omega) _ | refine Only.trans ?_ (by assumption)))⟩
  · have d2 : ((x.names.size : Int) != (x.moves.length : Int)) = true := by simp only [bne_iff_ne, ne_eq]; omega
    have hf : validPz x = false := by unfold validPz; rw [decide_eq_false c2]; simp
    have Hf := Lib.hid hf; clear hf
    have C2' := Lib.hid c2; clear c2
    have C1 := Lib.hid c1; clear c1
    go_enter Tryz.func79, Tryz.ntmps79
    go_wp2
    go_ret
    exact ⟨ret_bool Hf.out.symm, (by with_reducible repeat (first | exact Only.refl _ _ | assumption | refine Only.drewN ?_ _ | refine Only.drew ?_ | refine Only.alloc ?_ _ | refine Only.setCell ?_ (by intro hh; exfalso; simp at hh; try omega) _ | refine Only.trans ?_ (by assumption)))⟩


end Go.Proofs.YtlbcjkjoapcppaaGreat

namespace Go.Proofs.YtlbcjkjoapcppaaGreat
open Go.RowKit
set_option maxRecDepth 10000

set_option maxHeartbeats 400000 in
theorem equalInts_any (a a' : Option Addr) (cap cap' : Nat) (l l' : List Int) (fp fp' : List Nat) (w : World) (h : IntsA w a cap l fp) (h' : IntsA w a' cap' l' fp') :
    Calls Tryz.prog 28 #[.slice a l.length cap, .slice a' l'.length cap'] w fun e w' => e = .returned (.bool (eqV l l')) ∧ Drew w w' := by
  have hb := h.bound
  have hb' := h'.bound
  by_cases hl : l.length = l'.length
  · have hne : ((l.length : Int) != (l'.length : Int)) = false := by simp [hl]
    have Hl := Lib.hid hl; clear hl
    go_enter Tryz.func28, Tryz.ntmps28
    go_wp2
    go_loopw [5] (fun i wr => ∃ j : Nat, j ≤ l.length ∧ i = .int .i64 j ∧ l.take j = l'.take j ∧ Drew w wr)
      (fun i _ => l.length - (intOf i).toNat)
    case atStart => exact ⟨0, Nat.zero_le _, rfl, rfl, Drew.refl _⟩
    case round =>
      obtain ⟨j, hj, rfl, hr, n, rfl⟩ := hrel
      have Hr := Lib.hid hr; clear hr
      by_cases hlt : j < l.length
      · have hlt' : j < l'.length := by have := Hl.out; omega
        obtain ⟨b, off, ha, -, hc⟩ := h.at_ j hlt
        obtain ⟨b', off', ha', -, hc'⟩ := h'.at_ j hlt'
        go_wp2
        go_quiet (fail)
        go_wp2
        · have hne : (l[j] != l'[j]) = true := by assumption
          go_ret
          exact ⟨ret_bool (eqInts_no hlt hlt' hne).symm, ((Drew.refl _).drewN _).drewN _⟩
        · have heq : (l[j] != l'[j]) = false := by assumption
          go_roundw
          case rel => exact ⟨j + 1, by omega, by go_num, eqInts_step hlt hlt' heq Hr.out, ⟨_, rfl⟩⟩
          case measure => simp [intOf]; omega
      · go_wp2
        go_ret
        exact ⟨ret_bool (eqL_yes Hl.out hlt Hr.out).symm, (Drew.refl _).drewN n⟩
  · have hne : ((l.length : Int) != (l'.length : Int)) = true := by simp; omega
    go_enter Tryz.func28, Tryz.ntmps28
    go_wp2
    go_ret
    exact ⟨ret_bool (eqL_len hne).symm, Drew.refl _⟩

theorem equalInts_rd (v v' : Value) (l l' : List Int) (fp fp' : List Nat) (w : World) (h : Rd w v l fp) (h' : Rd w v' l' fp') :
    Calls Tryz.prog 28 #[v, v'] w fun e w' => e = .returned (.bool (eqV l l')) ∧ Drew w w' := by
  obtain ⟨a, cap, rfl, hI⟩ := h.ints
  obtain ⟨a', cap', rfl, hI'⟩ := h'.ints
  exact equalInts_any a a' cap cap' l l' fp fp' w hI hI'
set_option maxHeartbeats 400000 in
theorem equalPartitions_any (a a' : Option Addr) (cap cap' : Nat) (l l' : List (List Int)) (ob ob' : List Nat) (fps fps' : List (List Nat)) (w : World) (h : SeqA w a cap l ob fps) (h' : SeqA w a' cap' l' ob' fps') :
    Calls Tryz.prog 29 #[.slice a l.length cap, .slice a' l'.length cap'] w fun e w' => e = .returned (.bool (eqV l l')) ∧ Drew w w' := by
  have hb := h.bound
  have hb' := h'.bound
  by_cases hl : l.length = l'.length
  · have hne : ((l.length : Int) != (l'.length : Int)) = false := by simp [hl]
    have Hl := Lib.hid hl; clear hl
    go_enter Tryz.func29, Tryz.ntmps29
    go_wp2
    go_loopw [5] (fun i wr => ∃ j : Nat, j ≤ l.length ∧ i = .int .i64 j ∧ l.take j = l'.take j ∧ Drew w wr)
      (fun i _ => l.length - (intOf i).toNat)
    case atStart => exact ⟨0, Nat.zero_le _, rfl, rfl, Drew.refl _⟩
    case round =>
      obtain ⟨j, hj, rfl, hr, n, rfl⟩ := hrel
      have Hr := Lib.hid hr; clear hr
      by_cases hlt : j < l.length
      · have hlt' : j < l'.length := by have := Hl.out; omega
        obtain ⟨b, off, v, rfl, -, hc, hv⟩ := h.atRow j hlt
        obtain ⟨b', off', v', rfl, -, hc', hv'⟩ := h'.atRow j hlt'
        rcases hq : eqV l[j] l'[j]
        all_goals go_wp2
        all_goals go_quiet ((go_at_call 28; exact quiet_drewN (equalInts_rd v v' l[j] l'[j] _ _ _ (Rp.keep hv (Only.ofDrewN _ _ _)) (Rp.keep hv' (Only.ofDrewN _ _ _)))))
        all_goals go_wp2
        · go_ret
          exact ⟨ret_bool (eqL_no hlt hlt' hq).symm, ((Drew.refl _).drewN _).drewN _⟩
        · go_roundw
          case rel => exact ⟨j + 1, by omega, by go_num, eqL_step hlt hlt' hq Hr.out, ⟨_, rfl⟩⟩
          case measure => simp [intOf]; omega
      · go_wp2
        go_ret
        exact ⟨ret_bool (eqL_yes Hl.out hlt Hr.out).symm, (Drew.refl _).drewN n⟩
  · have hne : ((l.length : Int) != (l'.length : Int)) = true := by simp; omega
    go_enter Tryz.func29, Tryz.ntmps29
    go_wp2
    go_ret
    exact ⟨ret_bool (eqL_len hne).symm, Drew.refl _⟩
theorem equalPartitions_rd (v v' : Value) (l l' : List (List Int)) (fp fp' : List Nat) (w : World) (h : Rd w v l fp) (h' : Rd w v' l' fp') :
    Calls Tryz.prog 29 #[v, v'] w fun e w' => e = .returned (.bool (eqV l l')) ∧ Drew w w' := by
  obtain ⟨a, cap, ob, fps, rfl, -, hs⟩ := h.open_
  obtain ⟨a', cap', ob', fps', rfl, -, hs'⟩ := h'.open_
  exact equalPartitions_any a a' cap cap' l l' ob ob' fps fps' w hs hs'

set_option maxHeartbeats 400000 in
theorem Equal_any (a a' : Option Addr) (cap cap' : Nat) (l l' : List Int) (fp fp' : List Nat) (w : World) (h : IntsA w a cap l fp) (h' : IntsA w a' cap' l' fp') :
    Calls Tryz.prog 38 #[.slice a l.length cap, .slice a' l'.length cap'] w fun e w' => e = .returned (.bool (eqV l l')) ∧ Drew w w' := by
  have hb := h.bound
  have hb' := h'.bound
  by_cases hl : l.length = l'.length
  · have hne : ((l.length : Int) != (l'.length : Int)) = false := by simp [hl]
    have Hl := Lib.hid hl; clear hl
    go_enter Tryz.func38, Tryz.ntmps38
    go_wp2
    go_loopw [5, 13] (fun _ i wr => ∃ j : Nat, j ≤ l.length ∧ i = .int .i64 j ∧ l.take j = l'.take j ∧ Drew w wr)
      (fun _ i _ => l.length - (intOf i).toNat)
    case atStart => exact ⟨0, Nat.zero_le _, rfl, rfl, Drew.refl _⟩
    case round =>
      obtain ⟨j, hj, rfl, hr, n, rfl⟩ := hrel
      have Hr := Lib.hid hr; clear hr
      by_cases hlt : j < l.length
      · have hlt' : j < l'.length := by have := Hl.out; omega
        obtain ⟨b, off, ha, -, hc⟩ := h.at_ j hlt
        obtain ⟨b', off', ha', -, hc'⟩ := h'.at_ j hlt'
        go_wp2
        go_quiet (fail)
        go_wp2
        · have hne : (l[j] != l'[j]) = true := by assumption
          go_ret
          exact ⟨ret_bool (eqInts_no hlt hlt' hne).symm, ((Drew.refl _).drewN _).drewN _⟩
        · have heq : (l[j] != l'[j]) = false := by assumption
          go_roundw
          case rel => exact ⟨j + 1, by omega, by go_num, eqInts_step hlt hlt' heq Hr.out, ⟨_, rfl⟩⟩
          case measure => simp [intOf]; omega
      · go_wp2
        go_ret
        exact ⟨ret_bool (eqL_yes Hl.out hlt Hr.out).symm, (Drew.refl _).drewN n⟩
  · have hne : ((l.length : Int) != (l'.length : Int)) = true := by simp; omega
    go_enter Tryz.func38, Tryz.ntmps38
    go_wp2
    go_ret
    exact ⟨ret_bool (eqL_len hne).symm, Drew.refl _⟩

theorem Equal_rd (v v' : Value) (l l' : List Int) (fp fp' : List Nat) (w : World) (h : Rd w v l fp) (h' : Rd w v' l' fp') :
    Calls Tryz.prog 38 #[v, v'] w fun e w' => e = .returned (.bool (eqV l l')) ∧ Drew w w' := by
  obtain ⟨a, cap, rfl, hI⟩ := h.ints
  obtain ⟨a', cap', rfl, hI'⟩ := h'.ints
  exact Equal_any a a' cap cap' l l' fp fp' w hI hI'
set_option maxHeartbeats 1000000 in
/-- slices.EqualFunc over slices of slices: the function says whether two elements are equal -/
theorem EqualFunc_rows (f : FuncId) (caps : Array Value) (hcf : ∀ args w, (callFunc f args).run Tryz.prog w = .ok (.enter f args) w)
    (v v' : Value) (l l' : List (List Int)) (fp fp' : List Nat) (w : World) (h : Rd w v l fp) (h' : Rd w v' l' fp')
    (hc : ∀ (u u' : Value) (x x' : List Int) (f1 f1' : List Nat) (w' : World), Rd w' u x f1 → Rd w' u' x' f1' → Calls Tryz.prog f (#[u, u'] ++ caps) w' fun e w'' => e = .returned (.bool (eqV x x')) ∧ Only [] w' w'') :
    Calls Tryz.prog 57 #[v, v', .func (.func f) #[] caps] w fun e w' => e = .returned (.bool (eqV l l')) ∧ Only [] w w' := by
  obtain ⟨a, cap, ob, fps, rfl, -, hs⟩ := h.open_
  obtain ⟨a', cap', ob', fps', rfl, -, hs'⟩ := h'.open_
  have hb := hs.bound
  have hb' := hs'.bound
  have HC := Lib.hid hc
  clear hc
  by_cases hl : l.length = l'.length
  · have hne : ((l.length : Int) != (l'.length : Int)) = false := by simp [hl]
    have Hl := Lib.hid hl; clear hl
    go_enter Tryz.func57, Tryz.ntmps57
    go_wp2
    go_loopw [7, 8, 9, 17] (fun _ _ _ i wr => ∃ j : Nat, j ≤ l.length ∧ i = .int .i64 j ∧ l.take j = l'.take j ∧ Only [] w wr)
      (fun _ _ _ i _ => l.length - (intOf i).toNat)
    case atStart => exact ⟨0, Nat.zero_le _, rfl, rfl, Only.refl _ _⟩
    case round =>
      obtain ⟨j, hj, rfl, hr, hK⟩ := hrel
      have Hr := Lib.hid hr; clear hr
      by_cases hlt : j < l.length
      · have hlt' : j < l'.length := by have := Hl.out; omega
        obtain ⟨b, off, u, rfl, -, c0, hv⟩ := hs.atRow j hlt
        obtain ⟨b', off', u', rfl, -, c0', hv'⟩ := hs'.atRow j hlt'
        have c := hK.cell (by simp) c0
        have c' := hK.cell (by simp) c0'
        clear c0 c0'
        rcases hq : eqV l[j] l'[j]
        all_goals go_wp2_with (with_reducible refine (HC.out u u' l[j] l'[j] _ _ wr (Rp.keep hv hK) (Rp.keep hv' hK)).mono ?_; rintro e w1 ⟨rfl, hk1⟩)
        · go_ret
          exact ⟨ret_bool (eqL_no hlt hlt' hq).symm, hK.trans hk1⟩
        · go_roundw
          case rel => exact ⟨j + 1, by omega, by go_num, eqL_step hlt hlt' hq Hr.out, hK.trans hk1⟩
          case measure => simp [intOf]; omega
      · go_wp2
        go_ret
        exact ⟨ret_bool (eqL_yes Hl.out hlt Hr.out).symm, hK⟩
  · have hne : ((l.length : Int) != (l'.length : Int)) = true := by simp; omega
    go_enter Tryz.func57, Tryz.ntmps57
    go_wp2
    go_ret
    exact ⟨ret_bool (eqL_len hne).symm, Only.refl _ _⟩

theorem samePartition_closure (u u' : Value) (x x' : List Int) (f1 f1' : List Nat) (w : World) (h : Rd w u x f1) (h' : Rd w u' x' f1') :
    Calls Tryz.prog 58 #[u, u'] w fun e w' => e = .returned (.bool (eqV x x')) ∧ Only [] w w' := by
  go_enter Tryz.func58, Tryz.ntmps58
  go_wp2_with ((go_at_call 38; (with_reducible refine (Equal_rd u u' x x' _ _ _ h h').mono ?_); rintro e w1 ⟨rfl, d1⟩))
  go_ret
  exact ⟨rfl, d1.only _⟩
theorem samePartition_rd (v v' : Value) (l l' : List (List Int)) (fp fp' : List Nat) (w : World) (h : Rd w v l fp) (h' : Rd w v' l' fp') :
    Calls Tryz.prog 39 #[v, v'] w fun e w' => e = .returned (.bool (eqV l l')) ∧ Only [] w w' := by
  have Hc := Lib.hid (EqualFunc_rows 58 #[] Tryz.call58 v v' l l' fp fp' w h h' (fun u u' x x' f1 f1' w' r r' => samePartition_closure u u' x x' f1 f1' w' r r'))
  go_enter Tryz.func39, Tryz.ntmps39
  go_wp2_with ((go_at_call 57; (with_reducible refine (Hc.out).mono ?_); rintro e w1 ⟨rfl, t1⟩))
  go_ret
  exact ⟨rfl, t1⟩

theorem Table.ne1 {t t' : Table} (h : eqV t.tracked t'.tracked = false) : eqV t t' = false := eqV_no fun he => (eqV_iff'.1 h) (by rw [he])
theorem Table.ne2 {t t' : Table} (h : eqV t.patterns t'.patterns = false) : eqV t t' = false := eqV_no fun he => (eqV_iff'.1 h) (by rw [he])
theorem Table.ne3 {t t' : Table} (h : eqV t.distances t'.distances = false) : eqV t t' = false := eqV_no fun he => (eqV_iff'.1 h) (by rw [he])
theorem Table.eq3 {t t' : Table} (h1 : eqV t.tracked t'.tracked = true) (h2 : eqV t.patterns t'.patterns = true) (h3 : eqV t.distances t'.distances = true) : eqV t t' = true :=
  eqV_yes (Table.eq_iff.2 ⟨eqV_iff.1 h1, eqV_iff.1 h2, eqV_iff.1 h3⟩)

set_option maxHeartbeats 1000000 in
theorem implSameTable_any (cs cs' : List Value) (t t' : Table) (fp fp' : List Nat) (w : World) (h : Rp.rep w cs t fp) (h' : Rp.rep w cs' t' fp') :
    Calls Tryz.prog 41 #[.agg cs.toArray, .agg cs'.toArray] w fun e w' => e = .returned (.bool (eqV t t')) ∧ Only [] w w' := by
  obtain ⟨v0, v1, v2, f0, f1, f2, rfl, rfl, h0, h1, h2⟩ := h
  obtain ⟨v0', v1', v2', f0', f1', f2', rfl, rfl, h0', h1', h2'⟩ := h'
  rcases q0 : eqV t.tracked t'.tracked
  · go_enter Tryz.func41, Tryz.ntmps41
    go_wp2_with ((go_at_call 38; (with_reducible refine (Equal_rd v0 v0' t.tracked t'.tracked _ _ _ (Rp.keep h0 (by with_reducible repeat (first | exact Only.refl _ _ | assumption | refine Only.drewN ?_ _ | refine Only.drew ?_ | refine Only.alloc ?_ _ | refine Only.setCell ?_ (by intro hh; exfalso; simp at hh; try omega) _ | refine Only.trans ?_ (by assumption)))) (Rp.keep h0' (by with_reducible repeat (first | exact Only.refl _ _ | assumption | refine Only.drewN ?_ _ | refine Only.drew ?_ | refine Only.alloc ?_ _ | refine Only.setCell ?_ (by intro hh; exfalso; simp at hh; try omega) _ | refine Only.trans ?_ (by assumption))))).mono ?_); rintro e w1 ⟨rfl, n1, rfl⟩))
    go_ret
    exact ⟨ret_bool (Table.ne1 q0).symm, (by with_reducible repeat (first | exact Only.refl _ _ | assumption | refine Only.drewN ?_ _ | refine Only.drew ?_ | refine Only.alloc ?_ _ | refine Only.setCell ?_ (by intro hh; exfalso; simp at hh; try omega) _ | refine Only.trans ?_ (by assumption)))⟩
  rcases q1 : eqV t.patterns t'.patterns
  · go_enter Tryz.func41, Tryz.ntmps41
    go_wp2_with (first
      | (go_at_call 38; (with_reducible refine (Equal_rd v0 v0' t.tracked t'.tracked _ _ _ (Rp.keep h0 (by with_reducible repeat (first | exact Only.refl _ _ | assumption | refine Only.drewN ?_ _ | refine Only.drew ?_ | refine Only.alloc ?_ _ | refine Only.setCell ?_ (by intro hh; exfalso; simp at hh; try omega) _ | refine Only.trans ?_ (by assumption)))) (Rp.keep h0' (by with_reducible repeat (first | exact Only.refl _ _ | assumption | refine Only.drewN ?_ _ | refine Only.drew ?_ | refine Only.alloc ?_ _ | refine Only.setCell ?_ (by intro hh; exfalso; simp at hh; try omega) _ | refine Only.trans ?_ (by assumption))))).mono ?_); rintro e w1 ⟨rfl, n1, rfl⟩)
      | (go_at_call 39; (with_reducible refine (samePartition_rd v1 v1' t.patterns t'.patterns _ _ _ (Rp.keep h1 (by with_reducible repeat (first | exact Only.refl _ _ | assumption | refine Only.drewN ?_ _ | refine Only.drew ?_ | refine Only.alloc ?_ _ | refine Only.setCell ?_ (by intro hh; exfalso; simp at hh; try omega) _ | refine Only.trans ?_ (by assumption)))) (Rp.keep h1' (by with_reducible repeat (first | exact Only.refl _ _ | assumption | refine Only.drewN ?_ _ | refine Only.drew ?_ | refine Only.alloc ?_ _ | refine Only.setCell ?_ (by intro hh; exfalso; simp at hh; try omega) _ | refine Only.trans ?_ (by assumption))))).mono ?_); rintro e w2 ⟨rfl, t2⟩))
    go_ret
    exact ⟨ret_bool (Table.ne2 q1).symm, (by with_reducible repeat (first | exact Only.refl _ _ | assumption | refine Only.drewN ?_ _ | refine Only.drew ?_ | refine Only.alloc ?_ _ | refine Only.setCell ?_ (by intro hh; exfalso; simp at hh; try omega) _ | refine Only.trans ?_ (by assumption)))⟩
  rcases q2 : eqV t.distances t'.distances
  all_goals go_enter Tryz.func41, Tryz.ntmps41
  all_goals go_wp2_with (first
      | (go_at_call 38; (with_reducible refine (Equal_rd v0 v0' t.tracked t'.tracked _ _ _ (Rp.keep h0 (by with_reducible repeat (first | exact Only.refl _ _ | assumption | refine Only.drewN ?_ _ | refine Only.drew ?_ | refine Only.alloc ?_ _ | refine Only.setCell ?_ (by intro hh; exfalso; simp at hh; try omega) _ | refine Only.trans ?_ (by assumption)))) (Rp.keep h0' (by with_reducible repeat (first | exact Only.refl _ _ | assumption | refine Only.drewN ?_ _ | refine Only.drew ?_ | refine Only.alloc ?_ _ | refine Only.setCell ?_ (by intro hh; exfalso; simp at hh; try omega) _ | refine Only.trans ?_ (by assumption))))).mono ?_); rintro e w1 ⟨rfl, n1, rfl⟩)
      | (go_at_call 39; (with_reducible refine (samePartition_rd v1 v1' t.patterns t'.patterns _ _ _ (Rp.keep h1 (by with_reducible repeat (first | exact Only.refl _ _ | assumption | refine Only.drewN ?_ _ | refine Only.drew ?_ | refine Only.alloc ?_ _ | refine Only.setCell ?_ (by intro hh; exfalso; simp at hh; try omega) _ | refine Only.trans ?_ (by assumption)))) (Rp.keep h1' (by with_reducible repeat (first | exact Only.refl _ _ | assumption | refine Only.drewN ?_ _ | refine Only.drew ?_ | refine Only.alloc ?_ _ | refine Only.setCell ?_ (by intro hh; exfalso; simp at hh; try omega) _ | refine Only.trans ?_ (by assumption))))).mono ?_); rintro e w2 ⟨rfl, t2⟩; have y0 := t2.cells_eq w.heap.size (by simp; try omega) (by simp); have y1 := t2.cells_eq (w.heap.size + 1) (by simp) (by simp))
      | (go_at_call 38; (with_reducible refine (Equal_rd v2 v2' t.distances t'.distances _ _ _ (Rp.keep h2 (by with_reducible repeat (first | exact Only.refl _ _ | assumption | refine Only.drewN ?_ _ | refine Only.drew ?_ | refine Only.alloc ?_ _ | refine Only.setCell ?_ (by intro hh; exfalso; simp at hh; try omega) _ | refine Only.trans ?_ (by assumption)))) (Rp.keep h2' (by with_reducible repeat (first | exact Only.refl _ _ | assumption | refine Only.drewN ?_ _ | refine Only.drew ?_ | refine Only.alloc ?_ _ | refine Only.setCell ?_ (by intro hh; exfalso; simp at hh; try omega) _ | refine Only.trans ?_ (by assumption))))).mono ?_); rintro e w3 ⟨rfl, n3, rfl⟩))
  · go_ret
    exact ⟨ret_bool (Table.ne3 q2).symm, (by with_reducible repeat (first | exact Only.refl _ _ | assumption | refine Only.drewN ?_ _ | refine Only.drew ?_ | refine Only.alloc ?_ _ | refine Only.setCell ?_ (by intro hh; exfalso; simp at hh; try omega) _ | refine Only.trans ?_ (by assumption)))⟩
  · go_ret
    exact ⟨ret_bool (Table.eq3 q0 q1 q2).symm, (by with_reducible repeat (first | exact Only.refl _ _ | assumption | refine Only.drewN ?_ _ | refine Only.drew ?_ | refine Only.alloc ?_ _ | refine Only.setCell ?_ (by intro hh; exfalso; simp at hh; try omega) _ | refine Only.trans ?_ (by assumption)))⟩

set_option maxHeartbeats 1000000 in
theorem specSameTable_any (cs cs' : List Value) (t t' : Table) (fp fp' : List Nat) (w : World) (h : Rp.rep w cs t fp) (h' : Rp.rep w cs' t' fp') :
    Calls Tryz.prog 30 #[.agg cs.toArray, .agg cs'.toArray] w fun e w' => e = .returned (.bool (eqV t t')) ∧ Only [] w w' := by
  obtain ⟨v0, v1, v2, f0, f1, f2, rfl, rfl, h0, h1, h2⟩ := h
  obtain ⟨v0', v1', v2', f0', f1', f2', rfl, rfl, h0', h1', h2'⟩ := h'
  rcases q0 : eqV t.tracked t'.tracked
  · go_enter Tryz.func30, Tryz.ntmps30
    go_wp2_with ((go_at_call 28; (with_reducible refine (equalInts_rd v0 v0' t.tracked t'.tracked _ _ _ (Rp.keep h0 (by with_reducible repeat (first | exact Only.refl _ _ | assumption | refine Only.drewN ?_ _ | refine Only.drew ?_ | refine Only.alloc ?_ _ | refine Only.setCell ?_ (by intro hh; exfalso; simp at hh; try omega) _ | refine Only.trans ?_ (by assumption)))) (Rp.keep h0' (by with_reducible repeat (first | exact Only.refl _ _ | assumption | refine Only.drewN ?_ _ | refine Only.drew ?_ | refine Only.alloc ?_ _ | refine Only.setCell ?_ (by intro hh; exfalso; simp at hh; try omega) _ | refine Only.trans ?_ (by assumption))))).mono ?_); rintro e w1 ⟨rfl, n1, rfl⟩))
    go_ret
    exact ⟨ret_bool (Table.ne1 q0).symm, (by with_reducible repeat (first | exact Only.refl _ _ | assumption | refine Only.drewN ?_ _ | refine Only.drew ?_ | refine Only.alloc ?_ _ | refine Only.setCell ?_ (by intro hh; exfalso; simp at hh; try omega) _ | refine Only.trans ?_ (by assumption)))⟩
  rcases q2 : eqV t.distances t'.distances
  · go_enter Tryz.func30, Tryz.ntmps30
    go_wp2_with (first
      | (go_at_call 28; (with_reducible refine (equalInts_rd v0 v0' t.tracked t'.tracked _ _ _ (Rp.keep h0 (by with_reducible repeat (first | exact Only.refl _ _ | assumption | refine Only.drewN ?_ _ | refine Only.drew ?_ | refine Only.alloc ?_ _ | refine Only.setCell ?_ (by intro hh; exfalso; simp at hh; try omega) _ | refine Only.trans ?_ (by assumption)))) (Rp.keep h0' (by with_reducible repeat (first | exact Only.refl _ _ | assumption | refine Only.drewN ?_ _ | refine Only.drew ?_ | refine Only.alloc ?_ _ | refine Only.setCell ?_ (by intro hh; exfalso; simp at hh; try omega) _ | refine Only.trans ?_ (by assumption))))).mono ?_); rintro e w1 ⟨rfl, n1, rfl⟩)
      | (go_at_call 28; (with_reducible refine (equalInts_rd v2 v2' t.distances t'.distances _ _ _ (Rp.keep h2 (by with_reducible repeat (first | exact Only.refl _ _ | assumption | refine Only.drewN ?_ _ | refine Only.drew ?_ | refine Only.alloc ?_ _ | refine Only.setCell ?_ (by intro hh; exfalso; simp at hh; try omega) _ | refine Only.trans ?_ (by assumption)))) (Rp.keep h2' (by with_reducible repeat (first | exact Only.refl _ _ | assumption | refine Only.drewN ?_ _ | refine Only.drew ?_ | refine Only.alloc ?_ _ | refine Only.setCell ?_ (by intro hh; exfalso; simp at hh; try omega) _ | refine Only.trans ?_ (by assumption))))).mono ?_); rintro e w3 ⟨rfl, n3, rfl⟩))
    go_ret
    exact ⟨ret_bool (Table.ne3 q2).symm, (by with_reducible repeat (first | exact Only.refl _ _ | assumption | refine Only.drewN ?_ _ | refine Only.drew ?_ | refine Only.alloc ?_ _ | refine Only.setCell ?_ (by intro hh; exfalso; simp at hh; try omega) _ | refine Only.trans ?_ (by assumption)))⟩
  generalize hl : t.patterns = l at *
  generalize hl' : t'.patterns = l' at *
  have L1 := Lib.hid hl
  have L2 := Lib.hid hl'
  clear hl hl'
  obtain ⟨a, cap, ob, fps, rfl, rfl, hs⟩ := h1.open_
  obtain ⟨a', cap', ob', fps', rfl, rfl, hs'⟩ := h1'.open_
  have hb := hs.bound
  have hb' := hs'.bound
  by_cases hlen : l.length ≠ l'.length
  · have hne : ((l.length : Int) != (l'.length : Int)) = true := by simp; omega
    go_enter Tryz.func30, Tryz.ntmps30
    go_wp2_with (first
      | (go_at_call 28; (with_reducible refine (equalInts_rd v0 v0' t.tracked t'.tracked _ _ _ (Rp.keep h0 (by with_reducible repeat (first | exact Only.refl _ _ | assumption | refine Only.drewN ?_ _ | refine Only.drew ?_ | refine Only.alloc ?_ _ | refine Only.setCell ?_ (by intro hh; exfalso; simp at hh; try omega) _ | refine Only.trans ?_ (by assumption)))) (Rp.keep h0' (by with_reducible repeat (first | exact Only.refl _ _ | assumption | refine Only.drewN ?_ _ | refine Only.drew ?_ | refine Only.alloc ?_ _ | refine Only.setCell ?_ (by intro hh; exfalso; simp at hh; try omega) _ | refine Only.trans ?_ (by assumption))))).mono ?_); rintro e w1 ⟨rfl, n1, rfl⟩)
      | (go_at_call 28; (with_reducible refine (equalInts_rd v2 v2' t.distances t'.distances _ _ _ (Rp.keep h2 (by with_reducible repeat (first | exact Only.refl _ _ | assumption | refine Only.drewN ?_ _ | refine Only.drew ?_ | refine Only.alloc ?_ _ | refine Only.setCell ?_ (by intro hh; exfalso; simp at hh; try omega) _ | refine Only.trans ?_ (by assumption)))) (Rp.keep h2' (by with_reducible repeat (first | exact Only.refl _ _ | assumption | refine Only.drewN ?_ _ | refine Only.drew ?_ | refine Only.alloc ?_ _ | refine Only.setCell ?_ (by intro hh; exfalso; simp at hh; try omega) _ | refine Only.trans ?_ (by assumption))))).mono ?_); rintro e w3 ⟨rfl, n3, rfl⟩))
    go_ret
    exact ⟨ret_bool (Table.ne2 (by rw [L1.out, L2.out]; exact eqL_len hne)).symm, (by with_reducible repeat (first | exact Only.refl _ _ | assumption | refine Only.drewN ?_ _ | refine Only.drew ?_ | refine Only.alloc ?_ _ | refine Only.setCell ?_ (by intro hh; exfalso; simp at hh; try omega) _ | refine Only.trans ?_ (by assumption)))⟩
  have hlen := Classical.not_not.1 hlen
  have hne : ((l.length : Int) != (l'.length : Int)) = false := by simp [hlen]
  have Hl := Lib.hid hlen; clear hlen
  go_enter Tryz.func30, Tryz.ntmps30
  go_wp2_with (first
      | (go_at_call 28; (with_reducible refine (equalInts_rd v0 v0' t.tracked t'.tracked _ _ _ (Rp.keep h0 (by with_reducible repeat (first | exact Only.refl _ _ | assumption | refine Only.drewN ?_ _ | refine Only.drew ?_ | refine Only.alloc ?_ _ | refine Only.setCell ?_ (by intro hh; exfalso; simp at hh; try omega) _ | refine Only.trans ?_ (by assumption)))) (Rp.keep h0' (by with_reducible repeat (first | exact Only.refl _ _ | assumption | refine Only.drewN ?_ _ | refine Only.drew ?_ | refine Only.alloc ?_ _ | refine Only.setCell ?_ (by intro hh; exfalso; simp at hh; try omega) _ | refine Only.trans ?_ (by assumption))))).mono ?_); rintro e w1 ⟨rfl, n1, rfl⟩)
      | (go_at_call 28; (with_reducible refine (equalInts_rd v2 v2' t.distances t'.distances _ _ _ (Rp.keep h2 (by with_reducible repeat (first | exact Only.refl _ _ | assumption | refine Only.drewN ?_ _ | refine Only.drew ?_ | refine Only.alloc ?_ _ | refine Only.setCell ?_ (by intro hh; exfalso; simp at hh; try omega) _ | refine Only.trans ?_ (by assumption)))) (Rp.keep h2' (by with_reducible repeat (first | exact Only.refl _ _ | assumption | refine Only.drewN ?_ _ | refine Only.drew ?_ | refine Only.alloc ?_ _ | refine Only.setCell ?_ (by intro hh; exfalso; simp at hh; try omega) _ | refine Only.trans ?_ (by assumption))))).mono ?_); rintro e w3 ⟨rfl, n3, rfl⟩))
  go_loopw [5] (fun i wr => ∃ j : Nat, j ≤ l.length ∧ i = .int .i64 j ∧ l.take j = l'.take j ∧ Drew ((w.alloc (.cells #[v0, .slice a l.length cap, v2] 53)).alloc (.cells #[v0', .slice a' l'.length cap', v2'] 53)) wr)
    (fun i _ => l.length - (intOf i).toNat)
  case atStart => exact ⟨0, Nat.zero_le _, rfl, rfl, ⟨_, rfl⟩⟩
  case round =>
    obtain ⟨j, hj, rfl, hr, n, rfl⟩ := hrel
    have Hr := Lib.hid hr; clear hr
    by_cases hlt : j < l.length
    · have hlt' : j < l'.length := by have := Hl.out; omega
      obtain ⟨b, off, u, rfl, -, c0, hv⟩ := hs.atRow j hlt
      obtain ⟨b', off', u', rfl, -, c0', hv'⟩ := hs'.atRow j hlt'
      have k0 := World.block_lt_of_cell? w _ c0
      have k0' := World.block_lt_of_cell? w _ c0'
      simp only at k0 k0'
      have l0 : b < w.heap.size + 1 := by omega
      have l0' : b' < w.heap.size + 1 := by omega
      rcases hq : eqV l[j] l'[j]
      all_goals go_wp2
      all_goals go_quiet ((go_at_call 28; exact quiet_drewN (equalInts_rd u u' l[j] l'[j] _ _ _ (Rp.keep hv ((((Only.refl [] w).alloc _).alloc _).drewN _)) (Rp.keep hv' ((((Only.refl [] w).alloc _).alloc _).drewN _)))))
      all_goals go_wp2
      · go_ret
        exact ⟨ret_bool (Table.ne2 (by rw [L1.out, L2.out]; exact eqL_no hlt hlt' hq)).symm, (by with_reducible repeat (first | exact Only.refl _ _ | assumption | refine Only.drewN ?_ _ | refine Only.drew ?_ | refine Only.alloc ?_ _ | refine Only.setCell ?_ (by intro hh; exfalso; simp at hh; try omega) _ | refine Only.trans ?_ (by assumption)))⟩
      · go_roundw
        case rel => exact ⟨j + 1, by omega, by go_num, eqL_step hlt hlt' hq Hr.out, ⟨_, rfl⟩⟩
        case measure => simp [intOf]; omega
    · go_wp2
      go_ret
      exact ⟨ret_bool (Table.eq3 q0 (by rw [L1.out, L2.out]; exact eqL_yes Hl.out hlt Hr.out) q2).symm, (by with_reducible repeat (first | exact Only.refl _ _ | assumption | refine Only.drewN ?_ _ | refine Only.drew ?_ | refine Only.alloc ?_ _ | refine Only.setCell ?_ (by intro hh; exfalso; simp at hh; try omega) _ | refine Only.trans ?_ (by assumption)))⟩

end Go.Proofs.YtlbcjkjoapcppaaGreat
