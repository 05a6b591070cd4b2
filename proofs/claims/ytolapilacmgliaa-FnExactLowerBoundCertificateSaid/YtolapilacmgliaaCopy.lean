/- Copies of lists and of tables: the reference's and the program's. -/
import Derived.Test.YtolapilacmgliaaAcc
import Derived.Test.YtolapilacmgliaaSolCert
import Derived.Test.YtolapilacmgliaaLawCertificate
import Derived.Deep.RegionHeld3
import Derived.Deep.DeepCutAuto
namespace Go.Proofs.Ytolapilacmgliaa
open Go.RowKit
set_option maxHeartbeats 1000000 in
theorem copyLists_any (a : Option Addr) (cap : Nat) (l : List (List Int)) (ob : List Nat) (fps : List (List Nat)) (w : World) (h : SeqA w a cap l ob fps) (hl : l.length ≤ 2097152) (hl2 : ∀ x ∈ l, x.length ≤ 2097152) :
    Calls Try.prog 59 #[.slice a l.length cap] w fun e w' => ∃ v fp', e = .returned v ∧ Rd w' v l fp' ∧ Fresh w.heap.size w' fp' ∧ Only [] w w' := by
  obtain ⟨i0, hi, hz0, hz1, hz2⟩ := info_parts Try.info22
  have hb := h.bound
  go_enter Try.func59, Try.ntmps59
  go_wp2
  go_loopw [3, 4] (fun o i wr => ∃ (j : Nat) (fs : List (List Nat)), j ≤ l.length ∧ i = .int .i64 j ∧ Acc w.heap.size 22 wr o (l.take j) fs ∧ Fresh w.heap.size wr fs.flatten ∧ Only [] w wr)
    (fun _ i _ => l.length - (intOf i).toNat)
  case atStart => exact ⟨0, [], Nat.zero_le _, rfl, Acc.made w w.heap.size _ rfl (Nat.le_refl _), Fresh.nil _ _, (Only.refl _ _).alloc _⟩
  case round =>
    obtain ⟨j, fs, hj, rfl, hA, hF, hK⟩ := hrel
    by_cases hlt : j < l.length
    · obtain ⟨b, off, v, rfl, -, hc0, hv0⟩ := h.atRow j hlt
      have hc := hK.cell (by simp) hc0
      have hv := Rp.keep hv0 hK
      have hlen := hl2 l[j] (List.getElem_mem _)
      have hsz := hK.size
      have hlj : (l.take j).length + 1 ≤ 1073741824 := by simp; omega
      go_wp2_with (first
        | (go_at_call 28; refine (copyInts_rd v l[j] _ _ hv (by omega)).mono ?_; rintro e w2 ⟨v2, fp2, rfl, hv2, hF2, hK2⟩; have hq := hv2.open_; obtain ⟨a2, c2, _, _, rfl, -⟩ := hq)
        | (at_builtin; refine wpList_pushF rfl _ _ 23 rfl w.heap.size 22 i0 _ 24 Try.underlying23 hi hz0 hz1 hz2 rfl (by decide) (by decide) wr _ (l.take j) fs rfl hA hF (hK2.alloc _) hsz w2.heap.size 1 [.slice a2 l[j].length c2] l[j] fp2 rfl (lit_src w2 [.slice a2 l[j].length c2] _ rfl) (by intro u hu; simp at hu; subst hu; rfl) (Rp.keep hv2 ((Only.refl _ _).alloc _)) (hF2.keep ((Only.refl _ _).alloc _)) hlj w ((hK.trans hK2).alloc _) (Nat.le_refl _) ?_; intro v3 w3 hA3 hF3 hK3 _))
      go_roundw
      case rel => exact ⟨j + 1, _, by omega, by go_num, by rw [take_succ_get l j hlt]; exact hA3, hF3, hK3⟩
      case measure => simp [intOf]; omega
    · have hjl : j = l.length := by omega
      rw [hjl, List.take_length] at hA
      have HA := Lib.hid hA
      clear hjl hA
      go_wp2
      go_ret
      exact ⟨_, _, rfl, HA.out.rd (by decide), HA.out.fresh hF, hK⟩
theorem copyLists_rd (v : Value) (l : List (List Int)) (fp : List Nat) (w : World) (h : Rd w v l fp) (hl : l.length ≤ 2097152) (hl2 : ∀ x ∈ l, x.length ≤ 2097152) :
    Calls Try.prog 59 #[v] w fun e w' => ∃ v fp', e = .returned v ∧ Rd w' v l fp' ∧ Fresh w.heap.size w' fp' ∧ Only [] w w' := by
  obtain ⟨a, cap, ob, fps, rfl, -, hs⟩ := h.open_
  exact copyLists_any a cap l ob fps w hs hl hl2
set_option maxHeartbeats 1000000 in
theorem cloneLists_any (a : Option Addr) (cap : Nat) (l : List (List Int)) (ob : List Nat) (fps : List (List Nat)) (w : World) (h : SeqA w a cap l ob fps) (hl : l.length ≤ 2097152) (hl2 : ∀ x ∈ l, x.length ≤ 2097152) :
    Calls Try.prog 60 #[.slice a l.length cap] w fun e w' => ∃ v fp', e = .returned v ∧ Rd w' v l fp' ∧ Fresh w.heap.size w' fp' ∧ Only [] w w' := by
  obtain ⟨i0, hi, hz0, hz1, hz2⟩ := info_parts Try.info22
  have hb := h.bound
  go_enter Try.func60, Try.ntmps60
  go_wp2
  go_loopw [3, 8] (fun o i wr => ∃ (j : Nat) (fs : List (List Nat)), j ≤ l.length ∧ i = .int .i64 j ∧ Acc w.heap.size 22 wr o (l.take j) fs ∧ Fresh w.heap.size wr fs.flatten ∧ Only [] w wr)
    (fun _ i _ => l.length - (intOf i).toNat)
  case atStart => exact ⟨0, [], Nat.zero_le _, rfl, Acc.nil w _ _, Fresh.nil _ _, Only.refl _ _⟩
  case round =>
    obtain ⟨j, fs, hj, rfl, hA, hF, hK⟩ := hrel
    by_cases hlt : j < l.length
    · obtain ⟨b, off, v, rfl, -, hc0, hv0⟩ := h.atRow j hlt
      have hc := hK.cell (by simp) hc0
      have hv := Rp.keep hv0 hK
      have hlen := hl2 l[j] (List.getElem_mem _)
      have hsz := hK.size
      have hlj : (l.take j).length + 1 ≤ 1073741824 := by simp; omega
      go_wp2_with (first
        | (go_at_call 30; refine (Clone_rd v l[j] _ _ hv (by omega)).mono ?_; rintro e w2 ⟨v2, fp2, rfl, hv2, hF2, hK2⟩; have hq := hv2.open_; obtain ⟨a2, c2, _, _, rfl, -⟩ := hq)
        | (at_builtin; refine wpList_pushF rfl _ _ 23 rfl w.heap.size 22 i0 _ 24 Try.underlying23 hi hz0 hz1 hz2 rfl (by decide) (by decide) wr _ (l.take j) fs rfl hA hF (hK2.alloc _) hsz w2.heap.size 1 [.slice a2 l[j].length c2] l[j] fp2 rfl (lit_src w2 [.slice a2 l[j].length c2] _ rfl) (by intro u hu; simp at hu; subst hu; rfl) (Rp.keep hv2 ((Only.refl _ _).alloc _)) (hF2.keep ((Only.refl _ _).alloc _)) hlj w ((hK.trans hK2).alloc _) (Nat.le_refl _) ?_; intro v3 w3 hA3 hF3 hK3 _))
      go_roundw
      case rel => exact ⟨j + 1, _, by omega, by go_num, by rw [take_succ_get l j hlt]; exact hA3, hF3, hK3⟩
      case measure => simp [intOf]; omega
    · have hjl : j = l.length := by omega
      rw [hjl, List.take_length] at hA
      have HA := Lib.hid hA
      clear hjl hA
      go_wp2
      go_ret
      exact ⟨_, _, rfl, HA.out.rd (by decide), HA.out.fresh hF, hK⟩
theorem cloneLists_rd (v : Value) (l : List (List Int)) (fp : List Nat) (w : World) (h : Rd w v l fp) (hl : l.length ≤ 2097152) (hl2 : ∀ x ∈ l, x.length ≤ 2097152) :
    Calls Try.prog 60 #[v] w fun e w' => ∃ v fp', e = .returned v ∧ Rd w' v l fp' ∧ Fresh w.heap.size w' fp' ∧ Only [] w w' := by
  obtain ⟨a, cap, ob, fps, rfl, -, hs⟩ := h.open_
  exact cloneLists_any a cap l ob fps w hs hl hl2
set_option maxHeartbeats 1000000 in
theorem copyTables_any (a : Option Addr) (cap : Nat) (l : List Table) (ob : List Nat) (fps : List (List Nat)) (w : World) (h : SeqA w a cap l ob fps) (hsm : Sm.sm l) :
    Calls Try.prog 48 #[.slice a l.length cap] w fun e w' => ∃ v fp', e = .returned v ∧ Rd w' v l fp' ∧ Fresh w.heap.size w' fp' ∧ Only [] w w' := by
  obtain ⟨hl, hl2⟩ := hsm
  obtain ⟨i0, hi, hz0, hz1, hz2⟩ := info_parts Try.infoTable
  have hb := h.bound
  go_enter Try.func48, Try.ntmps48
  go_wp2
  go_loopw [3, 4] (fun o i wr => ∃ (j : Nat) (fs : List (List Nat)), j ≤ l.length ∧ i = .int .i64 j ∧ Acc w.heap.size 52 wr o (l.take j) fs ∧ Fresh w.heap.size wr fs.flatten ∧ Only [] w wr)
    (fun _ i _ => l.length - (intOf i).toNat)
  case atStart => exact ⟨0, [], Nat.zero_le _, rfl, Acc.made w w.heap.size _ rfl (Nat.le_refl _), Fresh.nil _ _, (Only.refl _ _).alloc _⟩
  case round =>
    obtain ⟨j, fs, hj, rfl, hA, hF, hK⟩ := hrel
    by_cases hlt : j < l.length
    · obtain ⟨b, off, v1, v2, v3, rfl, -, c1, c2, c3, hv0⟩ := h.at3 j hlt
      have q := hv0
      obtain ⟨_, _, _, g1, g2, g3, hq, -, s1, s2, s3⟩ := q
      injection hq with e1 hq; injection hq with e2 hq; injection hq with e3 hq; subst e1; subst e2; subst e3
      clear hq
      obtain ⟨m1, m2, m3⟩ := hl2 l[j] (List.getElem_mem _)
      have hsz := hK.size
      have hlj : (l.take j).length + 1 ≤ 1073741824 := by simp; omega
      have ml1 := m1.1
      have ml2 : l[j].patterns.length ≤ 2097152 := m2.1
      have mr2 : ∀ x ∈ l[j].patterns, x.length ≤ 2097152 := fun x hx => (m2.2 x hx).1
      have ml3 := m3.1
      obtain ⟨A1, C1, _, _, rfl, -⟩ := s1.open_
      obtain ⟨A2, C2, _, _, rfl, -⟩ := s2.open_
      obtain ⟨A3, C3, _, _, rfl, -⟩ := s3.open_
      have hi1 : (0 : Int) ≤ (j : Int) := by omega
      have hi2 : (j : Int) < (l.length : Int) := by omega
      have d1 := hK.cell (by simp) c1
      have d2 := hK.cell (by simp) c2
      have d3 := hK.cell (by simp) c3
      skip
      go_upto_region 5 with fail
      go_region_held3 (fun w' => Only [] w w' ∧ w'.cell? ⟨b, off + j * 3, none⟩ = some (.slice A1 l[j].tracked.length C1) ∧ w'.cell? ⟨b, off + j * 3 + 1, none⟩ = some (.slice A2 l[j].patterns.length C2) ∧ w'.cell? ⟨b, off + j * 3 + 2, none⟩ = some (.slice A3 l[j].distances.length C3)) ((refine and_of ?_ (fun h__ => ⟨h__.cell (by simp) c1, h__.cell (by simp) c2, h__.cell (by simp) c3⟩); first | assumption | exact hK.drew | exact Only.trans (And.left (by assumption)) (by assumption) | exact Only.alloc (And.left (by assumption)) _)) (first
        | (go_at_call 28; (with_reducible refine (copyInts_rd (.slice A1 l[j].tracked.length C1) l[j].tracked _ _ (Rp.keep s1 (And.left (by assumption))) (by omega)).mono ?_); rintro e x1 ⟨p1, q1, rfl, r1, F1, y1⟩; have hq := r1.open_; obtain ⟨a1, k1, _, _, rfl, -⟩ := hq)
        | (go_at_call 59; (with_reducible refine (copyLists_rd (.slice A2 l[j].patterns.length C2) l[j].patterns _ _ (Rp.keep s2 (And.left (by assumption))) ml2 mr2).mono ?_); rintro e x2 ⟨p2, q2, rfl, r2, F2, y2⟩; have hq := r2.open_; obtain ⟨a2, k2, _, _, rfl, -⟩ := hq)
        | (go_at_call 28; (with_reducible refine (copyInts_rd (.slice A3 l[j].distances.length C3) l[j].distances _ _ (Rp.keep s3 (And.left (by assumption))) (by omega)).mono ?_); rintro e x3 ⟨p3, q3, rfl, r3, F3, y3⟩; have hq := r3.open_; obtain ⟨a3, k3, _, _, rfl, -⟩ := hq; have F23 := (F2.keep y3).append F3 y2.size (fun b hb => F2.lt b hb); have F := (F1.keep (y2.trans y3)).append F23 y1.size (fun b hb => F1.lt b hb))
        | (refine step_pushF rfl _ _ 24 rfl w.heap.size 52 i0 _ 72 Try.underlying24 hi hz0 hz1 hz2 rfl (by decide) (by decide) wr _ (l.take j) fs rfl hA hF ((((((Only.refl [] wr).drew).trans y1).trans y2).trans y3).alloc _) hsz x3.heap.size 1 [.slice a1 l[j].tracked.length k1, .slice a2 l[j].patterns.length k2, .slice a3 l[j].distances.length k3] l[j] (q1 ++ (q2 ++ q3)) rfl (lit_src x3 [.slice a1 l[j].tracked.length k1, .slice a2 l[j].patterns.length k2, .slice a3 l[j].distances.length k3] _ rfl) (by intro u hu; simp at hu; rcases hu with rfl | rfl | rfl <;> rfl) ⟨_, _, _, q1, q2, q3, rfl, rfl, Rp.keep r1 ((y2.trans y3).alloc _), Rp.keep r2 (y3.alloc _), Rp.keep r3 ((Only.refl _ _).alloc _)⟩ (F.keep ((Only.refl _ _).alloc _)) hlj w (And.left (by assumption)) (Nat.le_refl _) ?_; intro v3 w3 hA3 hF3 hK3 hW3)
        | fail "no arm")
      go_wp2
      go_roundw
      case rel => exact ⟨j + 1, _, by omega, by go_num, by rw [take_succ_get l j hlt]; exact hA3, hF3, hK3⟩
      case measure => simp [intOf]; omega
    · have hjl : j = l.length := by omega
      rw [hjl, List.take_length] at hA
      have HA := Lib.hid hA
      clear hjl hA
      go_wp2
      go_ret
      exact ⟨_, _, rfl, HA.out.rd (by decide), HA.out.fresh hF, hK⟩
theorem copyTables_rd (v : Value) (l : List Table) (fp : List Nat) (w : World) (h : Rd w v l fp) (hsm : Sm.sm l) :
    Calls Try.prog 48 #[v] w fun e w' => ∃ v fp', e = .returned v ∧ Rd w' v l fp' ∧ Fresh w.heap.size w' fp' ∧ Only [] w w' := by
  obtain ⟨a, cap, ob, fps, rfl, -, hs⟩ := h.open_
  exact copyTables_any a cap l ob fps w hs hsm
set_option maxHeartbeats 1000000 in
theorem cloneTables_any (a : Option Addr) (cap : Nat) (l : List Table) (ob : List Nat) (fps : List (List Nat)) (w : World) (h : SeqA w a cap l ob fps) (hsm : Sm.sm l) :
    Calls Try.prog 52 #[.slice a l.length cap] w fun e w' => ∃ v fp', e = .returned v ∧ Rd w' v l fp' ∧ Fresh w.heap.size w' fp' ∧ Only [] w w' := by
  obtain ⟨hl, hl2⟩ := hsm
  obtain ⟨i0, hi, hz0, hz1, hz2⟩ := info_parts Try.infoTable
  have hb := h.bound
  go_enter Try.func52, Try.ntmps52
  go_wp2
  go_loopw [3, 8] (fun o i wr => ∃ (j : Nat) (fs : List (List Nat)), j ≤ l.length ∧ i = .int .i64 j ∧ Acc w.heap.size 52 wr o (l.take j) fs ∧ Fresh w.heap.size wr fs.flatten ∧ Only [] w wr)
    (fun _ i _ => l.length - (intOf i).toNat)
  case atStart => exact ⟨0, [], Nat.zero_le _, rfl, Acc.nil w _ _, Fresh.nil _ _, Only.refl _ _⟩
  case round =>
    obtain ⟨j, fs, hj, rfl, hA, hF, hK⟩ := hrel
    by_cases hlt : j < l.length
    · obtain ⟨b, off, v1, v2, v3, rfl, -, c1, c2, c3, hv0⟩ := h.at3 j hlt
      have q := hv0
      obtain ⟨_, _, _, g1, g2, g3, hq, -, s1, s2, s3⟩ := q
      injection hq with e1 hq; injection hq with e2 hq; injection hq with e3 hq; subst e1; subst e2; subst e3
      clear hq
      obtain ⟨m1, m2, m3⟩ := hl2 l[j] (List.getElem_mem _)
      have hsz := hK.size
      have hlj : (l.take j).length + 1 ≤ 1073741824 := by simp; omega
      have ml1 := m1.1
      have ml2 : l[j].patterns.length ≤ 2097152 := m2.1
      have mr2 : ∀ x ∈ l[j].patterns, x.length ≤ 2097152 := fun x hx => (m2.2 x hx).1
      have ml3 := m3.1
      obtain ⟨A1, C1, _, _, rfl, -⟩ := s1.open_
      obtain ⟨A2, C2, _, _, rfl, -⟩ := s2.open_
      obtain ⟨A3, C3, _, _, rfl, -⟩ := s3.open_
      have hi1 : (0 : Int) ≤ (j : Int) := by omega
      have hi2 : (j : Int) < (l.length : Int) := by omega
      have d1 := hK.cell (by simp) c1
      have d2 := hK.cell (by simp) c2
      have d3 := hK.cell (by simp) c3
      have HB := Lib.hid (Blk.new_at (w := wr) (cs := [.slice A1 l[j].tracked.length C1, .slice A2 l[j].patterns.length C2, .slice A3 l[j].distances.length C3]) (t := 52) rfl); have hne := Lib.hid (hA.own_ne (Nat.le_refl _))
      go_upto_region 5 with fail
      go_region_held3 (fun w' => Only [] w w' ∧ Only u3.ownBlock.toList (wr.alloc (.cells #[.slice A1 l[j].tracked.length C1, .slice A2 l[j].patterns.length C2, .slice A3 l[j].distances.length C3] 52)) w' ∧ w'.cell? ⟨wr.heap.size, 0, none⟩ = some (.slice A1 l[j].tracked.length C1) ∧ w'.cell? ⟨wr.heap.size, 1, none⟩ = some (.slice A2 l[j].patterns.length C2) ∧ w'.cell? ⟨wr.heap.size, 2, none⟩ = some (.slice A3 l[j].distances.length C3)) ((refine and_of ?_ (fun h__ => and_of ?_ (fun h2__ => ⟨(Blk.only HB.out h2__ hne.out).cell 0 rfl, (Blk.only HB.out h2__ hne.out).cell 1 rfl, (Blk.only HB.out h2__ hne.out).cell 2 rfl⟩)); (first | assumption | exact (hK.alloc _).drew | exact Only.trans (And.left (by assumption)) (by assumption) | exact Only.alloc (And.left (by assumption)) _); (first | exact (Only.refl _ _).drew | exact Only.keepThen (And.left (And.right (by assumption))) (by assumption) | exact Only.alloc (And.left (And.right (by assumption))) _ | exact Only.trans (And.left (And.right (by assumption))) (by assumption)))) (first
        | (go_at_call 30; (with_reducible refine (Clone_rd (.slice A1 l[j].tracked.length C1) l[j].tracked _ _ (Rp.keep s1 (And.left (by assumption))) (by omega)).mono ?_); rintro e x1 ⟨p1, q1, rfl, r1, F1, y1⟩; have hq := r1.open_; obtain ⟨a1, k1, _, _, rfl, -⟩ := hq)
        | (go_at_call 60; (with_reducible refine (cloneLists_rd (.slice A2 l[j].patterns.length C2) l[j].patterns _ _ (Rp.keep s2 (And.left (by assumption))) ml2 mr2).mono ?_); rintro e x2 ⟨p2, q2, rfl, r2, F2, y2⟩; have hq := r2.open_; obtain ⟨a2, k2, _, _, rfl, -⟩ := hq)
        | (go_at_call 30; (with_reducible refine (Clone_rd (.slice A3 l[j].distances.length C3) l[j].distances _ _ (Rp.keep s3 (And.left (by assumption))) (by omega)).mono ?_); rintro e x3 ⟨p3, q3, rfl, r3, F3, y3⟩; have hq := r3.open_; obtain ⟨a3, k3, _, _, rfl, -⟩ := hq; have F23 := (F2.keep y3).append F3 y2.size (fun b hb => F2.lt b hb); have F := (F1.keep (y2.trans y3)).append F23 y1.size (fun b hb => F1.lt b hb))
        | (refine step_pushF rfl _ _ 24 rfl w.heap.size 52 i0 _ 72 Try.underlying24 hi hz0 hz1 hz2 rfl (by decide) (by decide) wr _ (l.take j) fs rfl hA hF (((((((Only.refl [] wr).alloc _).drew).trans y1).trans y2).trans y3).alloc _) hsz x3.heap.size 1 [.slice a1 l[j].tracked.length k1, .slice a2 l[j].patterns.length k2, .slice a3 l[j].distances.length k3] l[j] (q1 ++ (q2 ++ q3)) rfl (lit_src x3 [.slice a1 l[j].tracked.length k1, .slice a2 l[j].patterns.length k2, .slice a3 l[j].distances.length k3] _ rfl) (by intro u hu; simp at hu; rcases hu with rfl | rfl | rfl <;> rfl) ⟨_, _, _, q1, q2, q3, rfl, rfl, Rp.keep r1 ((y2.trans y3).alloc _), Rp.keep r2 (y3.alloc _), Rp.keep r3 ((Only.refl _ _).alloc _)⟩ ((F.mono (by simp)).keep ((Only.refl _ _).alloc _)) hlj w (And.left (by assumption)) (Nat.le_refl _) ?_; intro v3 w3 hA3 hF3 hK3 hW3)
        | fail "no arm")
      go_wp2
      go_roundw
      case rel => exact ⟨j + 1, _, by omega, by go_num, by rw [take_succ_get l j hlt]; exact hA3, hF3, hK3⟩
      case measure => simp [intOf]; omega
    · have hjl : j = l.length := by omega
      rw [hjl, List.take_length] at hA
      have HA := Lib.hid hA
      clear hjl hA
      go_wp2
      go_ret
      exact ⟨_, _, rfl, HA.out.rd (by decide), HA.out.fresh hF, hK⟩
theorem cloneTables_rd (v : Value) (l : List Table) (fp : List Nat) (w : World) (h : Rd w v l fp) (hsm : Sm.sm l) :
    Calls Try.prog 52 #[v] w fun e w' => ∃ v fp', e = .returned v ∧ Rd w' v l fp' ∧ Fresh w.heap.size w' fp' ∧ Only [] w w' := by
  obtain ⟨a, cap, ob, fps, rfl, -, hs⟩ := h.open_
  exact cloneTables_any a cap l ob fps w hs hsm
end Go.Proofs.Ytolapilacmgliaa
