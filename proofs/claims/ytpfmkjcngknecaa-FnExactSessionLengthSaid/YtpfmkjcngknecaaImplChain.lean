/- The program's stabilizer chain. -/
import Derived.Test.YtpfmkjcngknecaaChn
import Derived.Test.YtpfmkjcngknecaaCompInv
import Derived.Deep.RegionHeld3
import Derived.Deep.DeepCutAuto
import Derived.Deep.RegionLaw
import Derived.WalkSpells
namespace Go.Proofs.Ytpfmkjcngknecaa
open Go.RowKit
set_option maxRecDepth 10000

theorem has_step {T : PM.Rows} {n j : Nat} (hj : j < n) (q : List Int) : PM.has T n (n - j) q = if PM.tr T j (PM.at_ q (j : Int)) = [] then false else PM.has T n (n - (j + 1)) (PM.comp q (PM.inv (PM.tr T j (PM.at_ q (j : Int))))) := by
  have h1 : n - j = (n - (j + 1)) + 1 := by omega
  have h2 : n - (n - (j + 1) + 1) = j := by omega
  rw [h1]; simp only [PM.has, h2]
theorem has_end {T : PM.Rows} {n j : Nat} (hj : n ≤ j) (q : List Int) : PM.has T n (n - j) q = true := by
  rw [show n - j = 0 by omega]; rfl
theorem IntsA.at_pn {w : World} {a : Option Addr} {cap : Nat} {l : List Int} {fp : List Nat} (h : IntsA w a cap l fp) {j : Nat} (hj : j < l.length) :
    ∃ b off, a = some ⟨b, off, none⟩ ∧ fp = [b] ∧ w.cell? ⟨b, off + j, none⟩ = some (.int .i64 (PM.at_ l (j : Int))) := by
  obtain ⟨b, off, e1, e2, e3⟩ := h.at_ j hj
  exact ⟨b, off, e1, e2, by rw [e3, PM.at_nat l j hj]⟩
set_option maxHeartbeats 1000000 in
theorem implHas_any {e : TypeId} {B : Nat} {L : Lay} {gv : Nat → Value} {n : Nat} {G : PM.Gens} {T : PM.Rows} {M F : List Nat} (w : World) (hC : Ch e B w L gv n G T M F) (hw : PM.WF n T) (hT : L.oT = 2)
    (k : Nat) (vp : Value) (p : List Int) (fp : List Nat) (hk : k ≤ n) (hp : Rd w vp p fp) (pp : PM.PN n p) :
    Calls Try.prog 81 #[.pointer (some ⟨L.g, 0, none⟩), .int .i64 k, vp] w fun e w' => e = .returned (.bool (PM.has T n (n - k) p)) ∧ Only [] w w' := by
  have hn20 := hC.le
  have HW := Lib.hid hw
  have HC := Lib.hid hC
  have hcT := hC.ct
  rw [hT] at hcT
  have HT := Lib.hid hT
  have Hp := Lib.hid hp
  have HPP := Lib.hid pp
  clear hT hC hw hp pp
  go_enter Try.func81, Try.ntmps81
  go_wp2
  go_loopw [2, 7] (fun s i wr => ∃ (j : Nat) (q : List Int) (f : List Nat), j ≤ n ∧ i = .int .i64 j ∧ Rd wr s q f ∧ PM.PN n q ∧ PM.has T n (n - k) p = PM.has T n (n - j) q ∧ Only [] w wr)
    (fun _ i _ => n - (intOf i).toNat)
  case atStart => exact ⟨k, p, fp, hk, rfl, Hp.out, HPP.out, rfl, Only.refl _ _⟩
  case round =>
    obtain ⟨j, q, f, hj, rfl, hq, hqn, hh, hK⟩ := hrel
    have HH := Lib.hid hh
    have HQN := Lib.hid hqn
    have HK := Lib.hid hK
    have c0 := hK.cell (by simp) HC.out.cn
    have c2 := hK.cell (by simp) hcT
    by_cases hlt : j < n
    · have hjn : (j : Int) < (n : Int) := by omega
      have hj0 : (0 : Int) ≤ (j : Int) := by omega
      have hC' := HC.out.keep hK
      obtain ⟨aq, cq, rfl, IQ⟩ := hq.ints
      have hb := IQ.bound
      have hlen : (j : Int) < (q.length : Int) := by have := hqn.1; omega
      obtain ⟨bq, oq, rfl, -, hcq⟩ := IQ.at_pn (by omega : j < q.length)
      have hr := hqn.rng (x := (j : Int)) (by omega) (by omega)
      have hy0 := hr.1
      have hy1 := hr.2
      have c3 := hC'.row j hlt
      have hst := has_step (T := T) hlt q
      have Hst := Lib.hid hst
      clear hst hh hqn hK hr
      by_cases ht : PM.tr T j (PM.at_ q (j : Int)) = []
      · have c4 := hC'.at_nil hlt hy0 hy1 ht
        have hnil := fun W => Lib.run_eql_slice_nil (P := Try.prog) W 25 2 none 0 0 0 0 Try.underlying25
        have Ht := Lib.hid ht
        clear ht hC'
        go_wp2
        go_quiet (fail)
        go_wp2
        go_ret
        exact ⟨ret_bool (by rw [HH.out, Hst.out, if_pos Ht.out]), HK.out.drewN _⟩
      · obtain ⟨b, off, cap, f4, c4, hR, -⟩ := hC'.at_some hlt hy0 hy1 ht
        have hnil := fun W => Lib.run_eql_slice_nil (P := Try.prog) W 25 2 (some ⟨b, off, none⟩) (PM.tr T j (PM.at_ q (j : Int))).length cap 0 0 Try.underlying25
        have htn := HW.out.pn j _ hlt ht
        have Htn := Lib.hid htn
        have Ht := Lib.hid ht
        clear ht hC' htn
        go_wp2
        go_quiet (fail)
        go_wp2_with (first
          | (go_at_call 115; (with_reducible refine (implInv_rd n _ _ _ _ (Rp.keep hR (by with_reducible repeat (first | exact Only.refl _ _ | assumption | refine Only.drewN ?_ _ | refine Only.drew ?_ | refine Only.alloc ?_ _ | refine Only.setCell ?_ (by intro hh; exfalso; simp at hh; try omega) _ | refine Only.trans ?_ (by assumption)))) Htn.out (by omega)).mono ?_); rintro e w1 ⟨v1, f1, rfl, r1, F1, t1⟩)
          | (go_at_call 104; (with_reducible refine (implCompose_rd n _ _ _ _ _ _ _ (Rp.keep hq (by with_reducible repeat (first | exact Only.refl _ _ | assumption | refine Only.drewN ?_ _ | refine Only.drew ?_ | refine Only.alloc ?_ _ | refine Only.setCell ?_ (by intro hh; exfalso; simp at hh; try omega) _ | refine Only.trans ?_ (by assumption)))) r1 HQN.out Htn.out.inv (by omega)).mono ?_); rintro e w2 ⟨v2, f2, rfl, r2, F2, t2⟩))
        go_roundw
        case rel => exact ⟨j + 1, _, f2, by omega, by go_num, r2, HQN.out.comp Htn.out.inv, by rw [HH.out, Hst.out, if_neg Ht.out], (HK.out.drewN _).trans (t1.trans t2)⟩
        case measure => simp [intOf]; omega
    · have hjn : ¬ (j : Int) < (n : Int) := by omega
      clear hh hqn
      go_wp2
      go_ret
      exact ⟨ret_bool (by rw [HH.out, has_end (by omega)]), HK.out⟩
/-- the points of a row -/
def orb (n : Nat) (T : PM.Rows) (k : Nat) : List Int := (PM.pts n).filter fun y => decide (PM.tr T k y ≠ [])
def orbTo (j : Nat) (T : PM.Rows) (k : Nat) : List Int := (PM.pts j).filter fun y => decide (PM.tr T k y ≠ [])
theorem orbTo_succ (j : Nat) (T : PM.Rows) (k : Nat) : orbTo (j + 1) T k = if PM.tr T k (j : Int) = [] then orbTo j T k else orbTo j T k ++ [(j : Int)] := by
  unfold orbTo
  rw [pts_succ, List.filter_append]
  by_cases h : PM.tr T k (j : Int) = []
  · rw [if_pos h]; simp [h]
  · rw [if_neg h]; simp [h]
theorem orbTo_len (j : Nat) (T : PM.Rows) (k : Nat) : (orbTo j T k).length ≤ j := by
  unfold orbTo
  have := List.length_filter_le (fun y => decide (PM.tr T k y ≠ [])) (PM.pts j)
  rwa [PM.pts_len] at this
theorem mem_orb {n : Nat} {T : PM.Rows} {k : Nat} {y : Int} : y ∈ orb n T k ↔ (0 ≤ y ∧ y < n) ∧ PM.tr T k y ≠ [] := by
  unfold orb
  rw [List.mem_filter, PM.mem_pts]; simp
theorem orb_nodup (n : Nat) (T : PM.Rows) (k : Nat) : (orb n T k).Nodup := List.Nodup.sublist List.filter_sublist (PM.pts_nodup n)
theorem orb_i64 {n : Nat} (hn : n ≤ 1000) (T : PM.Rows) (k : Nat) : ∀ x ∈ orb n T k, I64 x := fun x hx => by
  have := (mem_orb.1 hx).1; unfold I64; omega
set_option maxHeartbeats 1000000 in
theorem orbitOf_any {e : TypeId} {B : Nat} {L : Lay} {gv : Nat → Value} {n : Nat} {G : PM.Gens} {T : PM.Rows} {M F : List Nat} (w : World) (hC : Ch e B w L gv n G T M F) (k : Nat) (hk : k < n) :
    Calls Try.prog 135 #[.slice (some ⟨L.rb k, 0, none⟩) n n] w fun e w' => ∃ v fs, e = .returned v ∧ Acc w.heap.size 2 w' v (orb n T k) fs ∧ Fresh w.heap.size w' fs.flatten ∧ Only [] w w' := by
  obtain ⟨i0, hi, hz0, hz1, hz2⟩ := info_parts Try.info2
  have hn20 := hC.le
  have HC := Lib.hid hC
  clear hC
  go_enter Try.func135, Try.ntmps135
  go_wp2
  go_loopw [3, 8] (fun o i wr => ∃ (j : Nat) (fs : List (List Nat)), j ≤ n ∧ i = .int .i64 j ∧ Acc w.heap.size 2 wr o (orbTo j T k) fs ∧ Fresh w.heap.size wr fs.flatten ∧ Only [] w wr)
    (fun _ i _ => n - (intOf i).toNat)
  case atStart => exact ⟨0, [], Nat.zero_le _, rfl, by simpa [orbTo, PM.pts] using Acc.nil w w.heap.size _, Fresh.nil _ _, Only.refl _ _⟩
  case round =>
    obtain ⟨j, fs, hj, rfl, hA, hF, hK⟩ := hrel
    by_cases hlt : j < n
    · have hsz := hK.size
      have hC' := HC.out.keep hK
      have hjl := orbTo_len j T k
      have hlj : (orbTo j T k).length + 1 ≤ 1073741824 := by omega
      have hI : I64 (j : Int) := by unfold I64; omega
      have HI := Lib.hid hI
      have hsu := orbTo_succ j T k
      have Hsu := Lib.hid hsu
      clear hI hsu
      by_cases ht : PM.tr T k (j : Int) = []
      · have c4 := hC'.at_nil hk (y := (j : Int)) (by omega) (by omega) ht
        simp only [Int.toNat_natCast] at c4
        have hnil := fun W => run_neq_slice_nil_any (P := Try.prog) W 25 2 none 0 0 0 0 Try.underlying25
        have Ht := Lib.hid ht
        clear ht hC'
        go_wp2
        go_roundw
        case rel => exact ⟨j + 1, fs, by omega, by go_num, by rw [Hsu.out, if_pos Ht.out]; exact hA, hF, hK⟩
        case measure => simp [intOf]; omega
      · obtain ⟨b, off, cap, f4, c4, -, -⟩ := hC'.at_some hk (y := (j : Int)) (by omega) (by omega) ht
        simp only [Int.toNat_natCast] at c4
        have hnil := fun W => run_neq_slice_nil_any (P := Try.prog) W 25 2 (some ⟨b, off, none⟩) (PM.tr T k (j : Int)).length cap 0 0 Try.underlying25
        have Ht := Lib.hid ht
        clear ht hC'
        go_wp2_with ((at_builtin; refine wpList_pushF rfl _ _ 25 rfl w.heap.size 2 i0 _ 8 Try.underlying25 hi hz0 hz1 hz2 rfl (by decide) (by decide) wr _ (orbTo j T k) fs rfl hA hF ((Only.refl _ _).alloc _) hsz wr.heap.size 1 [.int .i64 (j : Int)] (j : Int) [] rfl (lit_src wr [.int .i64 (j : Int)] _ rfl) (by intro u hu; simp at hu; subst hu; rfl) (int_rd _ HI.out) (Fresh.nil _ _) hlj w (hK.alloc _) (Nat.le_refl _) ?_; intro v3 w3 hA3 hF3 hK3 _))
        go_roundw
        case rel => exact ⟨j + 1, _, by omega, by go_num, by rw [Hsu.out, if_neg Ht.out]; exact hA3, hF3, hK3⟩
        case measure => simp [intOf]; omega
    · have hjl : j = n := by omega
      rw [hjl] at hA
      have HA := Lib.hid hA
      clear hjl hA
      go_wp2
      go_ret
      exact ⟨_, fs, rfl, HA.out, hF, hK⟩
end Go.Proofs.Ytpfmkjcngknecaa
