/- The reference's copyLists, copyTables, BuildTables, with results that can be appended to (the draws of certificates; laws 45, 59). (Printed by mkcopya.py.) The checksum of a string: both builds. Texts of the reference: parseInt (the draws of puzzles; laws 45, 50, 55 ..). (Printed by mktxt.py.) Texts of the reference: splitText (the draws of puzzles; laws 45, 50, 55 ..). Texts of the reference: parseCycle (the draws of puzzles; laws 45, 50, 55 ..). Claim: plain data, how it lies in memory, the law's own comparison. laws.toClaim: a claim of the laws' own turned to the program's; sizes of claims. The reference's formatInt (laws 2, 4): the decimal numeral. The reference's formatInt (laws 2, 4): its walk. The cycles of a permutation; its cycle type (laws 32, 44; the notation of cycles). All members of a chain, level by level, are the members of the ranks in their order (laws 32, 36, 44). All members of a chain are the members of the ranks (laws 32, 36, 44). Maps from int64 to int64 that a call makes. (Printed by mkmapv.py out of XMap.) The program's walk down a chain: values, take, from (laws 33, 47). The program's walk down a chain: sorted, from; its generator (laws 33, 47). The program's RandomMember (laws 35, 47). The program's memberAt: the member of a rank (laws 33, 34, ..). -/
import Derived.Test.YtlbcjkjoapcppaaGreatRowCertificateFormsG9
import Derived.Test.YtlbcjkjoapcppaaGreatRowCertificateFormsG11
import Derived.Test.YtlbcjkjoapcppaaGreatRowCertificateFormsG2
import Derived.Test.YtlbcjkjoapcppaaGreatRowCertificateFormsG10
import Derived.Test.YtlbcjkjoapcppaaGreatRowCertificateFormsG1
import Derived.Deep.AppendLies
import Derived.Deep.RegionHeld3
import Derived.Test.YtlbcjkjoapcppaaGreatRowCertificateFormsG3
import Derived.Deep.RegionLaw
import Derived.Lib.ItoaMem
import Derived.Lib.Strings
import Derived.Lib.ItoaLen
import Derived.Maps.RangeWalk
import Derived.Test.YtlbcjkjoapcppaaGreatRowCertificateFormsG4
import Derived.Test.YtlbcjkjoapcppaaGreatRowCertificateFormsG7
import Derived.Deep.QuietTactic
namespace Go.Proofs.YtlbcjkjoapcppaaGreat
open Go.RowKit
set_option maxRecDepth 10000

/-- a list of numbers in a row of its own -/
structure OwnI where
  l : List Int
theorem AccI.frame {B : Nat} {e : TypeId} {w w' : World} {v : Value} {l : List Int} (h : AccI B e w v l) (hf : ∀ b ∈ v.ownBlock.toList, w'.heap[b]? = w.heap[b]?) : AccI B e w' v l := by
  obtain ⟨hO, hw⟩ := h.row
  refine AccI.ofRow ⟨hO.1, ?_⟩ hw
  rcases hO.2 with h1 | ⟨g, cp, cur, rfl, hb, hg, hrest⟩
  · exact .inl h1
  · exact .inr ⟨g, cp, cur, rfl, hb, by rw [hf g (by simp [Value.ownBlock])]; exact hg, hrest⟩
instance : Rp OwnI where
  size := 1
  rep w cs x fp := ∃ v, cs = [v] ∧ AccI 0 2 w v x.l ∧ fp = v.ownBlock.toList
  len h := by obtain ⟨v, rfl, -⟩ := h; rfl
  frame h hf := by
    obtain ⟨v, rfl, hA, rfl⟩ := h
    exact ⟨v, rfl, hA.frame hf, rfl⟩
  lt h := by
    obtain ⟨v, rfl, hA, rfl⟩ := h
    exact fun b hb => (hA.ownlt b (by simpa using hb)).2
theorem own_rd {w : World} {cs : List Value} {x : OwnI} {fp : List Nat} (h : Rp.rep w cs x fp) : Rp.rep w cs x.l fp := by
  obtain ⟨v, rfl, hA, rfl⟩ := h
  exact hA.rd
theorem Acc.ofOwn {B : Nat} {e : TypeId} {w : World} {v : Value} {L : List OwnI} {fs : List (List Nat)} (h : Acc B e w v L fs) : Acc B e w v (L.map OwnI.l) fs := by
  obtain ⟨⟨css, ho, hcl, hr⟩, hf, ha⟩ := h
  refine ⟨⟨css, ?_, by rw [List.length_map]; exact hcl, fun k h1 h2 h3 => ?_⟩, by rw [List.length_map]; exact hf, ha⟩
  · rw [List.length_map]; exact ho
  · rw [List.length_map] at h2
    have := own_rd (hr k h1 h2 h3)
    simpa using this
set_option maxHeartbeats 1000000 in
theorem copyLists_own (a : Option Addr) (cap : Nat) (l : List (List Int)) (ob : List Nat) (fps : List (List Nat)) (w : World) (h : SeqA w a cap l ob fps) (hl : l.length ≤ 2097152) (hl2 : ∀ x ∈ l, x.length ≤ 2097152) :
    Calls Tryz.prog 52 #[.slice a l.length cap] w fun e w' => ∃ v fs, e = .returned v ∧ Acc w.heap.size 24 w' v (l.map OwnI.mk) fs ∧ Fresh w.heap.size w' fs.flatten ∧ Only [] w w' := by
  obtain ⟨i0, hi, hz0, hz1, hz2⟩ := info_parts Tryz.info22
  have hb := h.bound
  go_enter Tryz.func52, Tryz.ntmps52
  go_wp2
  go_loopw [3, 4] (fun o i wr => ∃ (j : Nat) (fs : List (List Nat)), j ≤ l.length ∧ i = .int .i64 j ∧ Acc w.heap.size 24 wr o ((l.take j).map OwnI.mk) fs ∧ Fresh w.heap.size wr fs.flatten ∧ Only [] w wr)
    (fun _ i _ => l.length - (intOf i).toNat)
  case atStart => exact ⟨0, [], Nat.zero_le _, rfl, Acc.made (α := OwnI) w w.heap.size _ rfl (Nat.le_refl _), Fresh.nil _ _, (Only.refl _ _).alloc _⟩
  case round =>
    obtain ⟨j, fs, hj, rfl, hA, hF, hK⟩ := hrel
    by_cases hlt : j < l.length
    · obtain ⟨b, off, v, rfl, -, hc0, hv0⟩ := h.atRow j hlt
      have hc := hK.cell (by simp) hc0
      have hv := Rp.keep hv0 hK
      have hlen := hl2 l[j] (List.getElem_mem _)
      have hsz := hK.size
      have hlj : ((l.take j).map OwnI.mk).length + 1 ≤ 1073741824 := by simp; omega
      go_wp2_with (first
        | (go_at_call 33; refine (copyInts_aI v l[j] _ _ hv (by omega)).mono ?_; rintro e w2 ⟨v2, rfl, hA2, hK2⟩; have hF2 := hA2.fresh; obtain ⟨a2, c2, rfl⟩ := hA2.form; have hv2 : Rp.rep w2 [.slice a2 l[j].length c2] (OwnI.mk l[j]) (Value.slice a2 l[j].length c2).ownBlock.toList := ⟨_, rfl, hA2.low2 (Nat.zero_le _), rfl⟩)
        | (at_builtin; refine wpList_pushF (α := OwnI) rfl _ _ 30 rfl w.heap.size 24 i0 _ 24 Tryz.underlying30 hi hz0 hz1 hz2 rfl (by decide) (by decide) wr _ ((l.take j).map OwnI.mk) fs rfl hA hF (hK2.alloc _) hsz w2.heap.size 1 [.slice a2 l[j].length c2] (OwnI.mk l[j]) _ rfl (lit_src w2 [.slice a2 l[j].length c2] _ rfl) (by intro u hu; simp at hu; subst hu; rfl) (Rp.keep hv2 ((Only.refl _ _).alloc _)) (hF2.keep ((Only.refl _ _).alloc _)) hlj w ((hK.trans hK2).alloc _) (Nat.le_refl _) ?_; intro v3 w3 hA3 hF3 hK3 _))
      go_roundw
      case rel => exact ⟨j + 1, _, by omega, by go_num, by rw [take_succ_get l j hlt, List.map_append]; exact hA3, hF3, hK3⟩
      case measure => simp [intOf]; omega
    · have hjl : j = l.length := by omega
      rw [hjl, List.take_length] at hA
      have HA := Lib.hid hA
      clear hjl hA
      go_wp2
      go_ret
      exact ⟨_, _, rfl, HA.out, hF, hK⟩
set_option maxHeartbeats 1000000 in
theorem copyTables_acc (a : Option Addr) (cap : Nat) (l : List Table) (ob : List Nat) (fps : List (List Nat)) (w : World) (h : SeqA w a cap l ob fps) (hsm : Sm.sm l) :
    Calls Tryz.prog 34 #[.slice a l.length cap] w fun e w' => ∃ v fs, e = .returned v ∧ Acc w.heap.size 53 w' v l fs ∧ Fresh w.heap.size w' fs.flatten ∧ Only [] w w' := by
  obtain ⟨hl, hl2⟩ := hsm
  obtain ⟨i0, hi, hz0, hz1, hz2⟩ := info_parts Tryz.infoTable
  have hb := h.bound
  go_enter Tryz.func34, Tryz.ntmps34
  go_wp2
  go_loopw [3, 4] (fun o i wr => ∃ (j : Nat) (fs : List (List Nat)), j ≤ l.length ∧ i = .int .i64 j ∧ Acc w.heap.size 53 wr o (l.take j) fs ∧ Fresh w.heap.size wr fs.flatten ∧ Only [] w wr)
    (fun _ i _ => l.length - (intOf i).toNat)
  case atStart => exact ⟨0, [], Nat.zero_le _, rfl, Acc.made w w.heap.size _ rfl (Nat.le_refl _), Fresh.nil _ _, (Only.refl _ _).alloc _⟩
  case round =>
    obtain ⟨j, fs, hj, rfl, hA, hF, hK⟩ := hrel
    by_cases hlt : j < l.length
    · obtain ⟨b, off, v1, v2, v3, rfl, -, c1, c2, c3, hv0⟩ := h.at3 j hlt
      have q := hv0
      obtain ⟨_, _, _, g1, g2, g3, hq, -, s1, s2, s3⟩ := q
      injection hq with e1 hq; injection hq with e2 hq; injection hq with e3 hq; subst e1; subst e2; subst e3
      clear hq
      obtain ⟨m1, m2, m3⟩ := hl2 l[j] (List.getElem_mem _)
      have hsz := hK.size
      have hlj : (l.take j).length + 1 ≤ 1073741824 := by simp; omega
      have ml1 := m1.1
      have ml2 : l[j].patterns.length ≤ 2097152 := m2.1
      have mr2 : ∀ x ∈ l[j].patterns, x.length ≤ 2097152 := fun x hx => (m2.2 x hx).1
      have ml3 := m3.1
      obtain ⟨A1, C1, _, _, rfl, -⟩ := s1.open_
      obtain ⟨A2, C2, _, _, rfl, -⟩ := s2.open_
      obtain ⟨A3, C3, _, _, rfl, -⟩ := s3.open_
      have hi1 : (0 : Int) ≤ (j : Int) := by omega
      have hi2 : (j : Int) < (l.length : Int) := by omega
      have d1 := hK.cell (by simp) c1
      have d2 := hK.cell (by simp) c2
      have d3 := hK.cell (by simp) c3
      skip
      go_upto_region 5 with fail
      go_region_held3 (fun w' => Only [] w w' ∧ w'.cell? ⟨b, off + j * 3, none⟩ = some (.slice A1 l[j].tracked.length C1) ∧ w'.cell? ⟨b, off + j * 3 + 1, none⟩ = some (.slice A2 l[j].patterns.length C2) ∧ w'.cell? ⟨b, off + j * 3 + 2, none⟩ = some (.slice A3 l[j].distances.length C3)) ((refine and_of ?_ (fun h__ => ⟨h__.cell (by simp) c1, h__.cell (by simp) c2, h__.cell (by simp) c3⟩); first | assumption | exact hK.drew | exact Only.trans (And.left (by assumption)) (by assumption) | exact Only.alloc (And.left (by assumption)) _)) (first
        | (go_at_call 33; (with_reducible refine (copyInts_rd (.slice A1 l[j].tracked.length C1) l[j].tracked _ _ (Rp.keep s1 (And.left (by assumption))) (by omega)).mono ?_); rintro e x1 ⟨p1, q1, rfl, r1, F1, y1⟩; have hq := r1.open_; obtain ⟨a1, k1, _, _, rfl, -⟩ := hq)
        | (go_at_call 52; (with_reducible refine (copyLists_rd (.slice A2 l[j].patterns.length C2) l[j].patterns _ _ (Rp.keep s2 (And.left (by assumption))) ml2 mr2).mono ?_); rintro e x2 ⟨p2, q2, rfl, r2, F2, y2⟩; have hq := r2.open_; obtain ⟨a2, k2, _, _, rfl, -⟩ := hq)
        | (go_at_call 33; (with_reducible refine (copyInts_rd (.slice A3 l[j].distances.length C3) l[j].distances _ _ (Rp.keep s3 (And.left (by assumption))) (by omega)).mono ?_); rintro e x3 ⟨p3, q3, rfl, r3, F3, y3⟩; have hq := r3.open_; obtain ⟨a3, k3, _, _, rfl, -⟩ := hq; have F23 := (F2.keep y3).append F3 y2.size (fun b hb => F2.lt b hb); have F := (F1.keep (y2.trans y3)).append F23 y1.size (fun b hb => F1.lt b hb))
        | (refine step_pushF rfl _ _ 25 rfl w.heap.size 53 i0 _ 72 Tryz.underlying25 hi hz0 hz1 hz2 rfl (by decide) (by decide) wr _ (l.take j) fs rfl hA hF ((((((Only.refl [] wr).drew).trans y1).trans y2).trans y3).alloc _) hsz x3.heap.size 1 [.slice a1 l[j].tracked.length k1, .slice a2 l[j].patterns.length k2, .slice a3 l[j].distances.length k3] l[j] (q1 ++ (q2 ++ q3)) rfl (lit_src x3 [.slice a1 l[j].tracked.length k1, .slice a2 l[j].patterns.length k2, .slice a3 l[j].distances.length k3] _ rfl) (by intro u hu; simp at hu; rcases hu with rfl | rfl | rfl <;> rfl) ⟨_, _, _, q1, q2, q3, rfl, rfl, Rp.keep r1 ((y2.trans y3).alloc _), Rp.keep r2 (y3.alloc _), Rp.keep r3 ((Only.refl _ _).alloc _)⟩ (F.keep ((Only.refl _ _).alloc _)) hlj w (And.left (by assumption)) (Nat.le_refl _) ?_; intro v3 w3 hA3 hF3 hK3 hW3)
        | fail "no arm")
      go_wp2
      go_roundw
      case rel => exact ⟨j + 1, _, by omega, by go_num, by rw [take_succ_get l j hlt]; exact hA3, hF3, hK3⟩
      case measure => simp [intOf]; omega
    · have hjl : j = l.length := by omega
      rw [hjl, List.take_length] at hA
      have HA := Lib.hid hA
      clear hjl hA
      go_wp2
      go_ret
      exact ⟨_, _, rfl, HA.out, hF, hK⟩
set_option maxHeartbeats 4000000 in
theorem specBuildTables_acc (cs : List Value) (x : Puzzle) (fp : List Nat) (v : Value) (trs : List (List Int)) (ft : List Nat) (w : World) (h : Rp.rep w cs x fp) (hv : Rd w v trs ft) (hsm : ∀ y ∈ trs, y.length ≤ 2097152) :
    Calls Tryz.prog 46 #[.agg cs.toArray, v] w fun e w' => ∃ u fs, e = .returned (.tuple #[u, .bool (bTabs x trs).isSome]) ∧ Acc w.heap.size 53 w' u ((bTabs x trs).getD []) fs ∧ Fresh w.heap.size w' fs.flatten ∧ Only [] w w' := by
  have h0 := h
  obtain ⟨v2, rfl, p0, p1, h2⟩ := h
  obtain ⟨A2, C2, _, _, rfl, -, -⟩ := h2.open_
  obtain ⟨a, cap, ob, fps, rfl, -, hS⟩ := hv.open_
  have hb := hS.bound
  obtain ⟨i0, hi, hz0, hz1, hz2⟩ := info_parts Tryz.infoTab
  clear p0 p1
  rcases hq : inR trs.length 1 4
  · have Hn := Lib.hid (by unfold bTabs; rw [hq]; rfl : bTabs x trs = none)
    have Hq := Lib.hid hq
    clear hq
    go_enter Tryz.func46, Tryz.ntmps46
    go_wp2_with (first
      | (go_at_call 51; (with_reducible refine (inRange_any trs.length 1 4 _).mono ?_); rintro e w1 ⟨he, h1⟩; subst h1; rw [Hq.out] at he; subst he)
      | fail "no arm")
    refine bodyPost_ret (v := .tuple #[.slice (some ⟨w.heap.size + 1, 0, none⟩) 0 0, .bool false]) (by simp [results, Tryz.results46, go_sem]) rfl ⟨.slice (some ⟨w.heap.size + 1, 0, none⟩) 0 0, [], by rw [Hn.out]; rfl, ?_, Fresh.nil _ _, (by with_reducible repeat (first | exact Only.refl _ _ | assumption | refine Only.drewN ?_ _ | refine Only.drew ?_ | refine Only.alloc ?_ _ | refine Only.setCell ?_ (by intro hh; exfalso; simp at hh; try omega) _ | refine Only.trans ?_ (by assumption)))⟩
    rw [Hn.out]
    exact Acc.made _ _ _ (by simp) (by omega)
  · have Hn := Lib.hid (by unfold bTabs; rw [if_pos hq] : bTabs x trs = bTabsK x trs)
    obtain ⟨q1, q2⟩ := inR_iff.1 hq
    have Hq := Lib.hid hq
    have Hsm := Lib.hid hsm
    clear hq hsm
    go_enter Tryz.func46, Tryz.ntmps46
    go_wp2_with (first
      | (go_at_call 51; (with_reducible refine (inRange_any trs.length 1 4 _).mono ?_); rintro e w1 ⟨he, h1⟩; subst h1; rw [Hq.out] at he; subst he)
      | fail "no arm")
    have X1 := Blk.new w [.int .i64 x.points, .string x.names, .slice A2 x.moves.length C2] 42
    have hA0 : Acc (w.heap.size + 1) 53 ((w.alloc (.cells #[.int .i64 x.points, .string x.names, .slice A2 x.moves.length C2] 42)).alloc (.cells #[] 53)) (.slice (some ⟨w.heap.size + 1, 0, none⟩) 0 0) ([] : List Table) [] := Acc.made _ _ _ (by simp) (by omega)
    have K1 : Only [] w (w.alloc (.cells #[.int .i64 x.points, .string x.names, .slice A2 x.moves.length C2] 42)) := (Only.refl _ _).alloc _
    have s1 : (w.alloc (.cells #[.int .i64 x.points, .string x.names, .slice A2 x.moves.length C2] 42)).heap.size = w.heap.size + 1 := by simp
    simp only [List.toArray] at X1
    obtain ⟨w1, hw1⟩ : ∃ w1, w1 = (w.alloc (.cells #[.int .i64 x.points, .string x.names, .slice A2 x.moves.length C2] 42)) := ⟨_, rfl⟩
    rw [← hw1] at X1 hA0 K1 s1 ⊢
    have hs1 := Nat.le_of_eq s1
    have hs2 := Nat.le_of_eq s1.symm
    clear hw1 s1
    go_loopw [6, 7] (fun o i wr => ∃ (j : Nat) (ts : List Table) (fs : List (List Nat)), j ≤ trs.length ∧ i = .int .i64 j ∧ bTabsK x (trs.take j) = some ts ∧ ts.length = j ∧ Acc (w.heap.size + 1) 53 wr o ts fs ∧ Fresh (w.heap.size + 1) wr fs.flatten ∧ Only [] w1 wr)
      (fun _ i _ => trs.length - (intOf i).toNat)
    case atStart => exact ⟨0, [], [], Nat.zero_le _, rfl, rfl, rfl, hA0, Fresh.nil _ _, (Only.refl _ _).alloc _⟩
    case round =>
      obtain ⟨W2, hnew⟩ : ∃ W, W = wr := ⟨_, rfl⟩
      subst hnew
      obtain ⟨j, ts, fs, hj, rfl, hts, htl, hA, hF, hK⟩ := hrel
      have Hts := Lib.hid hts
      have htl4 : ts.length ≤ 4 := by omega
      have Htl := Lib.hid htl
      clear hts htl
      by_cases hlt : j < trs.length
      · obtain ⟨b, off, u, rfl, -, hc0, hu0⟩ := hS.atRow j hlt
        have hc := (K1.trans hK).cell (by simp) hc0
        have hu := Rp.keep hu0 (K1.trans hK)
        have X2 := X1.keep hK
        have x0 := X2.cell 0 rfl
        have x1 := X2.cell 1 rfl
        have x2 := X2.cell 2 rfl
        have KK := K1.trans hK
        have Hc := Lib.hid (fun (W : World) (hh : Only [] W2 W) => specBuildTable_any [.int .i64 x.points, .string x.names, .slice A2 x.moves.length C2] x _ u trs[j] _ W (Rp.keep h0 (KK.trans hh)) (Rp.keep hu hh) (Hsm.out _ (List.getElem_mem hlt)))
        have ka := (Only.refl [] W2).alloc (.cells #[.slice none 0 0, .slice none 0 0, .slice none 0 0] 53)
        have hca := ka.cell (by simp) hc
        have xa0 := ka.cell (by simp) x0
        have xa1 := ka.cell (by simp) x1
        have xa2 := ka.cell (by simp) x2
        clear hc0 hu0
        go_upto_region 7 with fail
        have hzW := KK.size
        have hc3 : ([.slice none 0 0, .slice none 0 0, .slice none 0 0] : List Value).length = 3 := rfl
        go_cut [8, 9] (fun s8 s9 wx => BT1 W2 wx s8 s9 (bTab x trs[j]))
        case first =>
          go_region_law (first
            | (go_simp; go_at_call 63; (with_reducible refine (Hc.out _ (by with_reducible repeat (first | exact Only.refl _ _ | assumption | refine Only.drewN ?_ _ | refine Only.drew ?_ | refine Only.alloc ?_ _ | refine Only.setCell ?_ (by intro hh; exfalso; simp at hh; try omega) _ | refine Only.trans ?_ (by assumption)))).mono ?_); rintro e w4 ⟨cs4, f4, he4, r4, F4, t4⟩; have rr := id r4; obtain ⟨u1, u2, u3, e1, e2, e3, rfl, -, s1, s2, s3⟩ := r4; simp only [List.cons_append, List.nil_append] at rr; have hq1 := s1.open_; have hq2 := s2.open_; have hq3 := s3.open_; obtain ⟨a1, k1, _, _, rfl, -, -⟩ := hq1; obtain ⟨a2, k2, _, _, rfl, -, -⟩ := hq2; obtain ⟨a3, k3, _, _, rfl, -, -⟩ := hq3; subst he4; have hz4 := t4.size; simp at hz4; first
              | (have Z := (Blk.new W2 [.slice none 0 0, .slice none 0 0, .slice none 0 0] 53).keep t4; have hgf : W2.heap.size ∉ f4 := (fun hm => by have := F4.ge _ hm; simp at this; omega); have FF := F4.mono (B' := W2.heap.size) (by simp); have g0 := Z.cell 0 rfl; have g1 := Z.cell 1 rfl; have g2 := Z.cell 2 rfl; have p0 := Z.frozen 0; have p1 := Z.frozen 1; have p2 := Z.frozen 2)
              | (have Z := ((Blk.new W2 [.slice none 0 0, .slice none 0 0, .slice none 0 0] 53).keep ((Only.refl [] _).drew)).keep t4; have hgf : W2.heap.size ∉ f4 := (fun hm => by have := F4.ge _ hm; simp at this; omega); have FF := F4.mono (B' := W2.heap.size) (by simp); have g0 := Z.cell 0 rfl; have g1 := Z.cell 1 rfl; have g2 := Z.cell 2 rfl; have p0 := Z.frozen 0; have p1 := Z.frozen 1; have p2 := Z.frozen 2)
              | (have Z := Blk.new w4 [.slice none 0 0, .slice none 0 0, .slice none 0 0] 53; have hgf : w4.heap.size ∉ f4 := (fun hm => by have := F4.lt _ hm; omega); have FF := F4.mono (B' := W2.heap.size) (by simp); have rra := Rp.keep rr ((Only.refl [] w4).alloc (.cells #[.slice none 0 0, .slice none 0 0, .slice none 0 0] 53)); have FFa := FF.keep ((Only.refl [] w4).alloc (.cells #[.slice none 0 0, .slice none 0 0, .slice none 0 0] 53)); have g0 := Z.cell 0 rfl; have g1 := Z.cell 1 rfl; have g2 := Z.cell 2 rfl; have p0 := Z.frozen 0; have p1 := Z.frozen 1; have p2 := Z.frozen 2))
            | fail "no arm")
          all_goals go_wp2_with fail
          all_goals go_meet
          all_goals have KK5 : Only [] W2 w4 := (by with_reducible repeat (first | exact Only.refl _ _ | assumption | refine Only.drew ?_ | refine Only.alloc ?_ _ | refine Only.trans ?_ (by assumption)))
          all_goals first
            | with_reducible exact BT1.of2 KK5 rfl rfl rfl rr FF rfl
            | with_reducible exact BT1.of Z hc3 (KK5.alloc _) rfl rfl rfl rra FFa hgf (by omega)
            | with_reducible exact BT1.of Z hc3 KK5 rfl rfl rfl rr FF hgf (by omega)
        case rest =>
          have q7 := hcut
          clear hcut
          obtain ⟨g, B1, B2, B3, D1, D2, D3, f, rfl, rfl, z, r, F, k⟩ := q7
          rcases hbt : bTab x trs[j] with _ | t
          · have Hno := Lib.hid (bTabsK_none (List.getElem_mem hlt) hbt)
            rw [hbt] at z r
            simp only [Option.getD, Option.isSome] at z r ⊢
            clear hbt
            go_wp2
            refine bodyPost_ret (v := .tuple #[.slice (some ⟨wc.heap.size, 0, none⟩) 0 0, .bool false]) (by simp [results, Tryz.results46, go_sem]) rfl ⟨.slice (some ⟨wc.heap.size, 0, none⟩) 0 0, [], by rw [Hn.out, Hno.out]; rfl, by rw [Hn.out, Hno.out]; exact Acc.made _ _ _ rfl (by have := (KK.trans k).size; omega), Fresh.nil _ _, (KK.trans k).alloc _⟩
          · have hsn : bTabsK x (trs.take (j + 1)) = some (ts ++ [t]) := by rw [take_succ_get trs j hlt, bTabsK_snoc, Hts.out, hbt]; rfl
            have Hsn := Lib.hid hsn
            rw [hbt] at z r
            simp only [Option.getD, Option.isSome] at z r ⊢
            have d0 := z.cell 0 rfl
            have d1 := z.cell 1 rfl
            have d2 := z.cell 2 rfl
            clear hbt hsn
            have hF3 := F.keep ((Only.refl [] wc).alloc (.cells #[.slice B1 t.tracked.length D1, .slice B2 t.patterns.length D2, .slice B3 t.distances.length D3] 53))
            have hr3 := Rp.keep r ((Only.refl [] wc).alloc (.cells #[.slice B1 t.tracked.length D1, .slice B2 t.patterns.length D2, .slice B3 t.distances.length D3] 53))
            have kz := (hK.trans k).alloc (.cells #[.slice B1 t.tracked.length D1, .slice B2 t.patterns.length D2, .slice B3 t.distances.length D3] 53)
            have hwB : w.heap.size + 1 ≤ W2.heap.size := Nat.le_trans hs2 hK.size
            go_wp2_with (at_builtin; refine wpList_pushF rfl _ _ 25 rfl (w.heap.size + 1) 53 i0 _ 72 Tryz.underlying25 hi hz0 hz1 hz2 rfl (by decide) (by decide) W2 _ ts fs rfl hA hF (k.alloc _) hwB wc.heap.size 1 [.slice B1 t.tracked.length D1, .slice B2 t.patterns.length D2, .slice B3 t.distances.length D3] t f rfl (lit_src wc [.slice B1 t.tracked.length D1, .slice B2 t.patterns.length D2, .slice B3 t.distances.length D3] _ rfl) (by intro u hu; simp at hu; rcases hu with rfl | rfl | rfl <;> rfl) hr3 hF3 (by omega) w1 kz hs1 ?_; intro v9 w9 hA9 hF9 hK9 hW9)
            go_roundw
            case rel => exact ⟨j + 1, ts ++ [t], fs ++ [f], by omega, by go_num, Hsn.out, by simp [Htl.out], hA9, hF9, hK9⟩
            case measure => simp [intOf]; omega
      · obtain rfl : j = trs.length := by omega
        rw [List.take_length] at Hts
        have HA := Lib.hid hA
        clear hA
        go_wp2
        refine bodyPost_ret (v := .tuple #[u6, .bool true]) (by simp [results, Tryz.results46, go_sem]) rfl ⟨u6, _, by rw [Hn.out, Hts.out]; rfl, ?_, hF.mono (by omega), K1.trans hK⟩
        rw [Hn.out, Hts.out]
        exact HA.out.low3 (by omega)
end Go.Proofs.YtlbcjkjoapcppaaGreat

namespace Go.Proofs.YtlbcjkjoapcppaaGreat
open Go.RowKit
set_option maxRecDepth 10000
end Go.Proofs.YtlbcjkjoapcppaaGreat

namespace Go.Proofs.YtlbcjkjoapcppaaGreat
open Go.RowKit
set_option maxRecDepth 10000

/-- a number, and whether it was one -/
def PI (e : Ending) (w w' : World) : Prop := ∃ (x : Int) (b : Bool), e = .returned (.tuple #[.int .i64 x, .bool b]) ∧ 0 ≤ x ∧ x ≤ 999999999 ∧ Only [] w w'
theorem PI.mk {x : Int} {b : Bool} {w w' : World} (h0 : 0 ≤ x) (h1 : x ≤ 999999999) (k : Only [] w w') : PI (.returned (.tuple #[.int .i64 x, .bool b])) w w' := ⟨x, b, rfl, h0, h1, k⟩
theorem pow10_le {j : Nat} (h : j ≤ 9) : 10 ^ j ≤ 1000000000 := Nat.pow_le_pow_right (n := 10) (by omega) h
theorem pow10_le8 {j : Nat} (h : j ≤ 8) : 10 ^ j ≤ 100000000 := Nat.pow_le_pow_right (n := 10) (by omega) h
set_option maxHeartbeats 2000000 in
theorem parseInt_any (s : ByteArray) (w : World) :
    Calls Tryz.prog 97 #[.string s] w fun e w' => PI e w w' := by
  by_cases h1 : s.size < 1
  · have h1I : (s.size : Int) < 1 := by omega
    go_enter Tryz.func97, Tryz.ntmps97
    go_wp2
    refine bodyPost_ret (v := .tuple #[.int .i64 0, .bool false]) (by simp [results, Tryz.results97, go_sem]) rfl (PI.mk (by omega) (by omega) (Only.refl _ _))
  by_cases h9 : 9 < s.size
  · have h9I : (9 : Int) < (s.size : Int) := by omega
    have h1I : ¬ (s.size : Int) < 1 := by omega
    go_enter Tryz.func97, Tryz.ntmps97
    go_wp2
    refine bodyPost_ret (v := .tuple #[.int .i64 0, .bool false]) (by simp [results, Tryz.results97, go_sem]) rfl (PI.mk (by omega) (by omega) (Only.refl _ _))
  have h0 : 0 < s.size := by omega
  have h0I : (0 : Int) < (s.size : Int) := by omega
  have h1I : ¬ (s.size : Int) < 1 := by omega
  have h9I : ¬ (9 : Int) < (s.size : Int) := by omega
  rcases hc0 : ((s[0].toNat : Int) == 48)
  · go_enter Tryz.func97, Tryz.ntmps97
    go_wp2
    go_loopw [4, 5] (fun nv kv wr => ∃ (j x : Nat), j ≤ s.size ∧ kv = .int .i64 j ∧ nv = .int .i64 (x : Int) ∧ Hid (x < 10 ^ j) ∧ Only [] w wr)
      (fun _ kv _ => s.size - (intOf kv).toNat)
    case atStart => exact ⟨0, 0, Nat.zero_le _, rfl, rfl, Lib.hid (by decide), Only.refl _ _⟩
    case round =>
      obtain ⟨W2, hnew⟩ : ∃ W, W = wr := ⟨_, rfl⟩
      subst hnew
      obtain ⟨j, x, hj, rfl, rfl, hx, hO⟩ := hrel
      by_cases hlt : j < s.size
      · have hj1 : (0 : Int) ≤ (j : Int) := by omega
        have hj2 : (j : Int) < (s.size : Int) := by omega
        have hx8 : x < 100000000 := Nat.lt_of_lt_of_le hx.out (pow10_le8 (by omega))
        have hb := UInt8.toNat_lt s[j]
        by_cases d1 : (s[j].toNat : Int) < 48
        · go_wp2
          refine bodyPost_ret (v := .tuple #[.int .i64 0, .bool false]) (by simp [results, Tryz.results97, go_sem]) rfl (PI.mk (by omega) (by omega) hO)
        · by_cases d2 : (57 : Int) < (s[j].toNat : Int)
          · go_wp2
            refine bodyPost_ret (v := .tuple #[.int .i64 0, .bool false]) (by simp [results, Tryz.results97, go_sem]) rfl (PI.mk (by omega) (by omega) hO)
          · obtain ⟨d, hd⟩ : ∃ d : Nat, (d : Int) = (s[j].toNat : Int) - 48 := ⟨s[j].toNat - 48, by omega⟩
            have hd9 : d ≤ 9 := by omega
            have Hst : Hid (x * 10 + d < 10 ^ (j + 1)) := Lib.hid (by have := hx.out; rw [Nat.pow_succ]; omega)
            have hwd : IntKind.u8.wrap ((s[j].toNat : Int) - 48) = (s[j].toNat : Int) - 48 := by unfold IntKind.wrap; simp [IntKind.signed, IntKind.bits]; omega
            go_wp2
            go_roundw
            case rel => exact ⟨j + 1, x * 10 + d, by omega, by go_num, by congr 1; push_cast; omega, Hst, hO⟩
            case measure => simp [intOf]; omega
      · have hj9 : j = s.size := by omega
        have hx9 : x < 1000000000 := Nat.lt_of_lt_of_le hx.out (pow10_le (by omega))
        go_wp2
        refine bodyPost_ret (v := .tuple #[.int .i64 (x : Int), .bool true]) (by simp [results, Tryz.results97, go_sem]) rfl (PI.mk (by omega) (by omega) hO)
  · by_cases h2 : 1 < s.size
    · have h2I : (1 : Int) < (s.size : Int) := by omega
      go_enter Tryz.func97, Tryz.ntmps97
      go_wp2
      refine bodyPost_ret (v := .tuple #[.int .i64 0, .bool false]) (by simp [results, Tryz.results97, go_sem]) rfl (PI.mk (by omega) (by omega) (Only.refl _ _))
    · have h2I : ¬ (1 : Int) < (s.size : Int) := by omega
      go_enter Tryz.func97, Tryz.ntmps97
      go_wp2
      go_loopw [4, 5] (fun nv kv wr => ∃ (j x : Nat), j ≤ s.size ∧ kv = .int .i64 j ∧ nv = .int .i64 (x : Int) ∧ Hid (x < 10 ^ j) ∧ Only [] w wr)
        (fun _ kv _ => s.size - (intOf kv).toNat)
      case atStart => exact ⟨0, 0, Nat.zero_le _, rfl, rfl, Lib.hid (by decide), Only.refl _ _⟩
      case round =>
        obtain ⟨W2, hnew⟩ : ∃ W, W = wr := ⟨_, rfl⟩
        subst hnew
        obtain ⟨j, x, hj, rfl, rfl, hx, hO⟩ := hrel
        by_cases hlt : j < s.size
        · have hj1 : (0 : Int) ≤ (j : Int) := by omega
          have hj2 : (j : Int) < (s.size : Int) := by omega
          have hx8 : x < 100000000 := Nat.lt_of_lt_of_le hx.out (pow10_le8 (by omega))
          have hb := UInt8.toNat_lt s[j]
          by_cases d1 : (s[j].toNat : Int) < 48
          · go_wp2
            refine bodyPost_ret (v := .tuple #[.int .i64 0, .bool false]) (by simp [results, Tryz.results97, go_sem]) rfl (PI.mk (by omega) (by omega) hO)
          · by_cases d2 : (57 : Int) < (s[j].toNat : Int)
            · go_wp2
              refine bodyPost_ret (v := .tuple #[.int .i64 0, .bool false]) (by simp [results, Tryz.results97, go_sem]) rfl (PI.mk (by omega) (by omega) hO)
            · obtain ⟨d, hd⟩ : ∃ d : Nat, (d : Int) = (s[j].toNat : Int) - 48 := ⟨s[j].toNat - 48, by omega⟩
              have hd9 : d ≤ 9 := by omega
              have Hst : Hid (x * 10 + d < 10 ^ (j + 1)) := Lib.hid (by have := hx.out; rw [Nat.pow_succ]; omega)
              have hwd : IntKind.u8.wrap ((s[j].toNat : Int) - 48) = (s[j].toNat : Int) - 48 := by unfold IntKind.wrap; simp [IntKind.signed, IntKind.bits]; omega
              go_wp2
              go_roundw
              case rel => exact ⟨j + 1, x * 10 + d, by omega, by go_num, by congr 1; push_cast; omega, Hst, hO⟩
              case measure => simp [intOf]; omega
        · have hj9 : j = s.size := by omega
          have hx9 : x < 1000000000 := Nat.lt_of_lt_of_le hx.out (pow10_le (by omega))
          go_wp2
          refine bodyPost_ret (v := .tuple #[.int .i64 (x : Int), .bool true]) (by simp [results, Tryz.results97, go_sem]) rfl (PI.mk (by omega) (by omega) hO)
end Go.Proofs.YtlbcjkjoapcppaaGreat

namespace Go.Proofs.YtlbcjkjoapcppaaGreat
open Go.RowKit
set_option maxRecDepth 10000

instance : Rp ByteArray where
  size := 1
  rep _ cs s fp := cs = [.string s] ∧ s.size ≤ maxLen ∧ fp = []
  len h := by rw [h.1]; rfl
  frame h _ := h
  lt h := by rw [h.2.2]; simp
theorem str_rd (w : World) {s : ByteArray} (h : s.size ≤ maxLen) : Rp.rep w [.string s] s [] := ⟨rfl, h, rfl⟩
theorem Tryz.infoStr : (Tryz.prog.info? 9).map (fun i => (i.zero, i.size, i.bytes)) = some (some (.string ⟨#[]⟩), 1, 16) := by kernel_rfl
theorem extract_le (s : ByteArray) (a b : Nat) : (s.extract a b).size ≤ s.size := by rw [ByteArray.size_extract]; omega
set_option maxHeartbeats 4000000 in
theorem splitText_any (s : ByteArray) (c : Int) (w : World) (hs : s.size ≤ 1000000) :
    Calls Tryz.prog 86 #[.string s, .int .u8 c] w fun e w' => ∃ v L fs, e = .returned v ∧ Acc w.heap.size 9 w' v (L : List ByteArray) fs ∧ Fresh w.heap.size w' fs.flatten ∧ L.length ≤ s.size + 1 ∧ (∀ x ∈ L, x.size ≤ s.size) ∧ Only [] w w' := by
  obtain ⟨i0, hi, hz0, hz1, hz2⟩ := info_parts Tryz.infoStr
  have hA0 := Acc.made (α := ByteArray) w w.heap.size 9 rfl (Nat.le_refl _)
  have ho : Only [] w (w.alloc (.cells #[] 9)) := (Only.refl _ _).alloc _
  go_enter Tryz.func86, Tryz.ntmps86
  go_wp2
  go_loopw [5, 6, 7] (fun o fv iv wr => ∃ (i fr : Nat) (L : List ByteArray) (fs : List (List Nat)), i ≤ s.size + 1 ∧ fr ≤ i ∧ fv = .int .i64 fr ∧ iv = .int .i64 i ∧ Acc w.heap.size 9 wr o L fs ∧ Fresh w.heap.size wr fs.flatten ∧ Hid (L.length ≤ i ∧ ∀ x ∈ L, x.size ≤ s.size) ∧ Only [] w wr)
    (fun _ _ iv _ => s.size + 1 - (intOf iv).toNat)
  case atStart => exact ⟨0, 0, [], [], by omega, Nat.le_refl _, rfl, rfl, hA0, Fresh.nil _ _, Lib.hid ⟨by simp, by simp⟩, ho⟩
  case round =>
    obtain ⟨W2, hnew⟩ : ∃ W, W = wr := ⟨_, rfl⟩
    subst hnew
    clear hA0 ho
    obtain ⟨i, fr, L, fs, hi1, hfr, rfl, rfl, hA, hF, hL, hO⟩ := hrel
    have hsz := hO.size
    by_cases hgo : i ≤ s.size
    · have hgoI : (i : Int) ≤ (s.size : Int) := by omega
      have hi00 : (0 : Int) ≤ (i : Int) := by omega
      have hf00 : (0 : Int) ≤ (fr : Int) := by omega
      have hfiI : (fr : Int) ≤ (i : Int) := by omega
      have hlen : L.length + 1 ≤ 1073741824 := by have := hL.out.1; omega
      have hex : (s.extract fr i).size ≤ maxLen := by have := extract_le s fr i; unfold maxLen; omega
      have Hex := Lib.hid hex
      clear hex
      obtain ⟨x, hx⟩ : ∃ x, x = s.extract fr i := ⟨_, rfl⟩
      have hxs : Hid (x.size ≤ s.size) := Lib.hid (by rw [hx]; exact extract_le _ _ _)
      rw [← hx] at Hex
      have Hx := Lib.hid hx
      clear hx
      by_cases hend : i = s.size
      · subst hend
        go_wp2_with (first
          | (at_builtin; refine wpList_pushF (α := ByteArray) rfl _ _ 98 rfl w.heap.size 9 i0 _ 16 Tryz.underlying98 hi hz0 hz1 hz2 rfl (by decide) (by decide) W2 _ L fs rfl hA hF ((Only.refl _ _).alloc _) hsz W2.heap.size 1 [.string (s.extract fr s.size)] (s.extract fr s.size) [] rfl (lit_src W2 [_] _ rfl) (by intro u hu; simp at hu; subst hu; rfl) (str_rd _ (by rw [← Hx.out]; exact Hex.out)) (Fresh.nil _ _) hlen w (hO.alloc _) (Nat.le_refl _) ?_; intro v3 w3 hA3 hF3 hK3 _)
          | fail "no arm")
        go_roundw
        case rel => exact ⟨s.size + 1, s.size + 1, _, _, by omega, Nat.le_refl _, by go_num, by go_num, hA3, hF3, Lib.hid ⟨by rw [List.length_append, List.length_singleton]; have := hL.out.1; omega, fun y hy => by
          rcases List.mem_append.1 hy with h | h
          · exact hL.out.2 y h
          · rw [List.mem_singleton.1 h, ← Hx.out]; exact hxs.out⟩, hK3⟩
        case measure => simp [intOf]
      · have hlt : i < s.size := by omega
        have hltI : (i : Int) < (s.size : Int) := by omega
        have he1 : ((i : Int) == (s.size : Int)) = false := by
          have : (i : Int) ≠ (s.size : Int) := by omega
          simpa using this
        rcases hcc : ((s[i].toNat : Int) == c)
        · clear hend
          go_wp2
          go_roundw
          case rel => exact ⟨i + 1, fr, L, fs, by omega, by omega, rfl, by go_num, hA, hF, Lib.hid ⟨by have := hL.out.1; omega, hL.out.2⟩, hO⟩
          case measure => simp [intOf]; omega
        · clear hend
          go_wp2_with (first
            | (at_builtin; refine wpList_pushF (α := ByteArray) rfl _ _ 98 rfl w.heap.size 9 i0 _ 16 Tryz.underlying98 hi hz0 hz1 hz2 rfl (by decide) (by decide) W2 _ L fs rfl hA hF ((Only.refl _ _).alloc _) hsz W2.heap.size 1 [.string (s.extract fr i)] (s.extract fr i) [] rfl (lit_src W2 [_] _ rfl) (by intro u hu; simp at hu; subst hu; rfl) (str_rd _ (by rw [← Hx.out]; exact Hex.out)) (Fresh.nil _ _) hlen w (hO.alloc _) (Nat.le_refl _) ?_; intro v3 w3 hA3 hF3 hK3 _)
            | fail "no arm")
          go_roundw
          case rel => exact ⟨i + 1, i + 1, _, _, by omega, Nat.le_refl _, by go_num, by go_num, hA3, hF3, Lib.hid ⟨by rw [List.length_append, List.length_singleton]; have := hL.out.1; omega, fun y hy => by
            rcases List.mem_append.1 hy with h | h
            · exact hL.out.2 y h
            · rw [List.mem_singleton.1 h, ← Hx.out]; exact hxs.out⟩, hK3⟩
          case measure => simp [intOf]; omega
    · have hge : ¬ (i : Int) ≤ (s.size : Int) := by omega
      have hLl : L.length ≤ s.size + 1 := by have := hL.out.1; omega
      go_wp2
      go_ret
      exact ⟨_, rfl, L, fs, hA, hF, hLl, hL.out.2, hO⟩
end Go.Proofs.YtlbcjkjoapcppaaGreat

namespace Go.Proofs.YtlbcjkjoapcppaaGreat
open Go.RowKit
set_option maxRecDepth 10000

def PC (B : Nat) (v : Value) (n : Nat) (w : World) (e : Ending) (w' : World) : Prop := ∃ (b : Bool) (p' : List Int), e = .returned (.bool b) ∧ AccI B 2 w' v p' ∧ p'.length = n ∧ Only v.ownBlock.toList w w'
theorem PC.mk {B : Nat} {v : Value} {n : Nat} {w w' : World} {b : Bool} {p' : List Int} (h : AccI B 2 w' v p') (hl : p'.length = n) (k : Only v.ownBlock.toList w w') : PC B v n w (.returned (.bool b)) w' := ⟨b, p', rfl, h, hl, k⟩
theorem SeqA.strAt {w : World} {a : Option Addr} {cap : Nat} {xs : List ByteArray} {ob : List Nat} {fps : List (List Nat)} (h : SeqA w a cap xs ob fps) (k : Nat) (hk : k < xs.length) : ∃ b off, a = some ⟨b, off, none⟩ ∧ w.cell? ⟨b, off + k, none⟩ = some (.string xs[k]) := by
  obtain ⟨b, off, cs, e, -, hc, hr⟩ := h.at_ k hk
  obtain ⟨rfl, -, -⟩ := hr
  have h1 := hc 0 (.string xs[k]) rfl
  refine ⟨b, off, e, ?_⟩
  have e2 : Rp.size ByteArray = 1 := rfl
  rw [e2, Nat.mul_one, Nat.add_zero] at h1
  exact h1
set_option maxHeartbeats 4000000 in
theorem parseCycle_any (B : Nat) (v : Value) (p : List Int) (s : ByteArray) (w : World) (hA : AccI B 2 w v p) (hp : p.length ≤ 20) (hs : s.size ≤ 1000000) :
    Calls Tryz.prog 87 #[v, .string s] w fun e w' => PC B v p.length w e w' := by
  obtain ⟨i0, hi, hz0, hz1, hz2⟩ := info_parts Tryz.info2
  obtain ⟨av, cv, rfl⟩ := hA.form
  have HA := Lib.hid hA
  clear hA
  go_enter Tryz.func87, Tryz.ntmps87
  go_wp2_with (first
    | (go_at_call 86; (with_reducible refine (splitText_any s 32 w hs).mono ?_); rintro e w1 ⟨v1, L, fs1, rfl, A1, F1, l1, l2, t1⟩; obtain ⟨a1, c1, ob1, fps1, rfl, -, S1⟩ := (A1.rd (by decide)).open_)
    | fail "no arm")
  have hb1 := S1.bound
  have hz1' := t1.size
  have hA0 := Acc.made (α := Int) w1 w1.heap.size 2 rfl (Nat.le_refl _)
  have ho : Only [] w1 (w1.alloc (.cells #[] 2)) := (Only.refl _ _).alloc _
  go_loopw [6, 7] (fun o iv wr => ∃ (i : Nat) (ps : List Int) (fs : List (List Nat)), i ≤ L.length ∧ iv = .int .i64 i ∧ Acc w1.heap.size 2 wr o ps fs ∧ Fresh w1.heap.size wr fs.flatten ∧ Hid (ps.length ≤ i ∧ ∀ y ∈ ps, 0 ≤ y ∧ y < p.length) ∧ Only [] w1 wr)
    (fun _ iv _ => L.length - (intOf iv).toNat)
  case atStart => exact ⟨0, [], [], Nat.zero_le _, rfl, hA0, Fresh.nil _ _, Lib.hid ⟨by simp, by simp⟩, ho⟩
  case round =>
    obtain ⟨W2, hnew⟩ : ∃ W, W = wr := ⟨_, rfl⟩
    subst hnew
    clear hA0 ho
    obtain ⟨i, ps, fs, hi1, rfl, hAp, hF, hL, hO⟩ := hrel
    have hsz := hO.size
    by_cases hgo : i < L.length
    · have hgoI : (i : Int) < (L.length : Int) := by omega
      have hi00 : (0 : Int) ≤ (i : Int) := by omega
      obtain ⟨b, off, rfl, hc0⟩ := S1.strAt i hgo
      have hc := hO.cell (by simp) hc0
      have hlen : ps.length + 1 ≤ 1073741824 := by have := hL.out.1; omega
      go_wp2_with (first
        | (go_at_call 97; (with_reducible refine (parseInt_any L[i] W2).mono ?_); rintro e w3 ⟨x, ok, rfl, x0, x1, t3⟩; have k3 := hO.trans t3; have hAp3 := hAp.keep t3; have hF3 := hF.keep t3; have hsz3 := k3.size; have hxI : I64 x := (by unfold I64; omega))
        | (at_builtin; refine wpList_pushF rfl _ _ 24 rfl w1.heap.size 2 i0 _ 8 Tryz.underlying24 hi hz0 hz1 hz2 rfl (by decide) (by decide) w3 _ ps fs rfl hAp3 hF3 ((Only.refl _ _).alloc _) hsz3 w3.heap.size 1 [.int .i64 x] x [] rfl (lit_src w3 [_] _ rfl) (by intro u hu; simp at hu; subst hu; rfl) (int_rd _ hxI) (Fresh.nil _ _) hlen w1 (k3.alloc _) (Nat.le_refl _) ?_; intro v4 w4 hA4 hF4 hK4 _)
        | fail "no arm")
      · go_ret
        exact PC.mk (HA.out.keep (t1.trans k3)) rfl ((t1.trans k3).weaken _)
      · refine ⟨⟨i + 1, ps ++ [x], _, by omega, by go_num, hA4, hF4, Lib.hid ⟨by rw [List.length_append, List.length_singleton]; have := hL.out.1; omega, fun y hy => ?_⟩, hK4⟩, by simp [intOf]; omega⟩
        rcases List.mem_append.1 hy with h | h
        · exact hL.out.2 y h
        · rw [List.mem_singleton.1 h]; omega
      · go_ret
        exact PC.mk (HA.out.keep (t1.trans k3)) rfl ((t1.trans k3).weaken _)
    · have hge : ¬ (i : Int) < (L.length : Int) := by omega
      have hRp := hAp.rd (by decide)
      obtain ⟨ap, cp, rfl, Ip⟩ := Rd.ints hRp
      have hpb := Ip.bound
      have hplo := hAp.ownlt
      have hA2 := HA.out.keep (t1.trans hO)
      have Hps := Lib.hid hL.out.2
      have Hlen := Lib.hid (show p.length ≤ 20 from hp)
      have hv1 : ∀ q, (Value.slice av p.length cv).ownBlock = some q → q < w.heap.size := fun q hq => (HA.out.ownlt q hq).2
      have hw1 : w.heap.size ≤ w1.heap.size := hz1'
      have kW : Only (Value.slice av p.length cv).ownBlock.toList w W2 := (t1.trans hO).weaken _
      have hdis : ∀ q ∈ (Value.slice ap ps.length cp).ownBlock.toList ++ fs.flatten, q ∉ (Value.slice av p.length cv).ownBlock.toList := fun q hq hm => by
        rw [hAp.flat0, List.append_nil] at hq
        have h1 := (hplo q (by simpa using hq)).1
        have h2 := hv1 q (by simpa using hm)
        omega
      have Hdis := Lib.hid hdis
      have Hv1 := Lib.hid hv1
      clear hdis hv1 hplo
      go_wp2
      go_loopw [10] (fun iv wr => ∃ (j : Nat) (q : List Int), j ≤ ps.length ∧ iv = .int .i64 j ∧ AccI B 2 wr (.slice av p.length cv) q ∧ q.length = p.length ∧ Only (Value.slice av p.length cv).ownBlock.toList W2 wr)
        (fun iv _ => ps.length - (intOf iv).toNat)
      case atStart => exact ⟨0, p, Nat.zero_le _, rfl, hA2, rfl, Only.refl _ _⟩
      case round =>
        obtain ⟨W4, hnew⟩ : ∃ W, W = wr := ⟨_, rfl⟩
        subst hnew
        clear hA2
        obtain ⟨j, q, hj1, rfl, hAq, hql, hOq⟩ := hrel
        by_cases hlt : j < ps.length
        · have hltI : (j : Int) < (ps.length : Int) := by omega
          have hj00 : (0 : Int) ≤ (j : Int) := by omega
          have hn0 : (ps.length : Int) ≠ 0 := by omega
          have hn1 : ¬ ps.length = 0 := by omega
          have hn2 : ps ≠ [] := by intro e; rw [e] at hlt; simp at hlt
          have hwj : IntKind.i64.wrap ((j : Int) + 1) = (j : Int) + 1 := by rw [IntKind.wrap_i64]; omega
          obtain ⟨m, hm⟩ : ∃ m, m = (j + 1) % ps.length := ⟨_, rfl⟩
          have hml : m < ps.length := by rw [hm]; exact Nat.mod_lt _ (by omega)
          have hmd : ((j : Int) + 1) % (ps.length : Int) = (m : Int) := by rw [hm]; push_cast; rfl
          have hmd2 : Int.tmod ((j : Int) + 1) (ps.length : Int) = (m : Int) := by rw [Int.tmod_eq_emod_of_nonneg (by omega)]; exact hmd
          have hmI : (m : Int) < (ps.length : Int) := by omega
          have hm00 : (0 : Int) ≤ (m : Int) := by omega
          have IpW := Rp.only Ip.rd hOq (fun b hb => Hdis.out b hb)
          obtain ⟨a', c', e', I4⟩ := Rd.ints IpW
          injection e' with e1 _ e2
          subst e1
          subst e2
          obtain ⟨b, off, e3, -, hc1⟩ := I4.at_ j hlt
          obtain ⟨b', off', e4, -, hc2⟩ := I4.at_ m hml
          rw [e3] at e4
          injection e4 with e4
          injection e4 with e5 e6 _
          subst e5
          subst e6
          obtain ⟨y0, y1⟩ := Hps.out ps[j] (List.getElem_mem hlt)
          obtain ⟨z0, z1⟩ := Hps.out ps[m] (List.getElem_mem hml)
          obtain ⟨y, hy⟩ := Int.eq_ofNat_of_zero_le y0
          obtain ⟨z, hz⟩ := Int.eq_ofNat_of_zero_le z0
          rw [hy] at hc1 y1
          rw [hz] at hc2 z1
          have hyl : y < p.length := by omega
          have hyI : (y : Int) < (p.length : Int) := by omega
          have hy00 : (0 : Int) ≤ (y : Int) := by omega
          have hl20 := Hlen.out
          obtain ⟨g3, c3, e7, hc3, hf3, hb3, hA3⟩ := hAq.put (i := y) (by rw [hql]; exact hyl) (x := (z : Int)) (by unfold I64; omega)
          injection e7 with e8 e10 e9
          clear e10
          subst e8
          subst e9
          subst e3
          obtain ⟨y3, hy3⟩ : ∃ t, W4.cell? ⟨g3, y, none⟩ = some (.int .i64 t) := ⟨_, hc3⟩
          have HA3 := Lib.hid hA3
          have Hql := Lib.hid hql
          clear hA3 hql hc3 hAq hy hz hm I4 IpW HA
          go_wp2
          go_region_law (fail)
          all_goals go_wp2
          all_goals exact ⟨⟨j + 1, _, by omega, by go_num, HA3.out.keep ((Only.refl _ _).drew), by rw [List.length_set]; exact Hql.out, hOq.then_ (((Only.refl [g3] W4).drew).setCell (by simp) _) (fun b hb hl => by simpa [Value.ownBlock] using hb)⟩, by simp [intOf]; omega⟩
        · have hge2 : ¬ (j : Int) < (ps.length : Int) := by omega
          have Hql := Lib.hid hql
          clear hql
          go_wp2
          go_ret
          exact PC.mk hAq Hql.out (kW.trans hOq)
end Go.Proofs.YtlbcjkjoapcppaaGreat

namespace Go.Proofs.YtlbcjkjoapcppaaGreat
open Go.RowKit
set_option maxRecDepth 10000

structure Claim where
  kind : Int
  value : Int
instance : Rp Claim where
  size := 2
  rep _ cs x fp := cs = [Value.int .i64 x.kind, Value.int .i64 x.value] ∧ I64 x.kind ∧ I64 x.value ∧ fp = []
  len h := by rw [h.1]; rfl
  frame h _ := h
  lt h := by rw [h.2.2.2]; simp
theorem Claim.eq_iff {x y : Claim} : x = y ↔ x.kind = y.kind ∧ x.value = y.value := by
  cases x; cases y; simp
end Go.Proofs.YtlbcjkjoapcppaaGreat

namespace Go.Proofs.YtlbcjkjoapcppaaGreat
open Go.RowKit
set_option maxRecDepth 10000

instance : Mk Claim where
  mark _ x := x
  cnt _ := 0
instance : Sz Claim where
  sz _ := 0
instance : Sm Claim where
  sm _ := True

end Go.Proofs.YtlbcjkjoapcppaaGreat


namespace Go.Proofs.YtlbcjkjoapcppaaGreat
open Go.RowKit
set_option maxRecDepth 10000

def bA (l : List UInt8) : ByteArray := ⟨l.toArray⟩
theorem bA_add (a b : List UInt8) : bA a ++ bA b = bA (a ++ b) := by
  unfold bA
  apply ByteArray.ext
  simp [ByteArray.data_append]
/-- what is left of a numeral, and what is written -/
def FmS (N u : Nat) (tl : List UInt8) : Prop := if u = 0 ∧ tl ≠ [] then tl = Lib.decDigits N else Lib.decDigits N = Lib.decDigits u ++ tl
theorem FmS.start (N : Nat) : FmS N N [] := by unfold FmS; rw [if_neg (by simp)]; simp
theorem FmS.step {N u : Nat} {tl : List UInt8} (h : FmS N u tl) (hg : tl = [] ∨ u ≠ 0) : FmS N (u / 10) (UInt8.ofNat (48 + u % 10) :: tl) := by
  have h1 : Lib.decDigits N = Lib.decDigits u ++ tl := by
    unfold FmS at h
    rw [if_neg (by rintro ⟨a, b⟩; rcases hg with e | e; exact b e; exact e a)] at h
    exact h
  unfold FmS
  by_cases hu : u < 10
  · have e1 : u / 10 = 0 := by omega
    rw [e1, if_pos ⟨rfl, by simp⟩, h1, Lib.decDigits, dif_pos hu, show u % 10 = u by omega]
    rfl
  · rw [if_neg (by rintro ⟨a, b⟩; omega), h1]
    conv => lhs; rw [Lib.decDigits, dif_neg hu]
    simp
theorem FmS.fin {N u : Nat} {tl : List UInt8} (h : FmS N u tl) (h0 : u = 0) (h1 : tl ≠ []) : tl = Lib.decDigits N := by
  unfold FmS at h
  rwa [if_pos ⟨h0, h1⟩] at h
end Go.Proofs.YtlbcjkjoapcppaaGreat

namespace Go.Proofs.YtlbcjkjoapcppaaGreat
open Go.RowKit
set_option maxRecDepth 10000

def lenOf : Value → Nat
  | .string s => s.size
  | _ => 0
theorem bA_size (l : List UInt8) : (bA l).size = l.length := by unfold bA; simp [ByteArray.size]
theorem bA_list (l : List UInt8) : (bA l).toList = l := by
  rw [Go.Lib.toList_data]
  unfold bA
  simp
theorem str1 (d : Nat) : strOfNums [48 + (d : Int)] = bA [UInt8.ofNat (48 + d)] := by
  unfold strOfNums bA
  have : (48 + (d : Int)).toNat = 48 + d := by omega
  simp [this]
theorem FmS.len {N u : Nat} {tl : List UInt8} (h : FmS N u tl) (hN : N ≤ 9223372036854775808) : tl.length ≤ 20 := by
  have h1 : (Lib.decDigits N).length ≤ 20 := by rw [Lib.decDigits_length]; exact Lib.nDigits_le20 N (by omega)
  unfold FmS at h
  split at h
  · rw [h]; exact h1
  · rw [h, List.length_append] at h1; omega
set_option maxHeartbeats 1000000 in
theorem formatInt_pos (N : Nat) (hN : N ≤ 9223372036854775807) (w : World) :
    Calls Tryz.prog 109 #[.int .i64 (N : Int)] w fun e w' => e = .returned (.string (bA (Lib.decDigits N))) ∧ Only [] w w' := by
  go_enter Tryz.func109, Tryz.ntmps109
  go_wp2
  go_loopw [0, 3] (fun nv sv wr => ∃ (u : Nat) (tl : List UInt8), nv = .int .i64 (u : Int) ∧ sv = .string (bA tl) ∧ Hid (FmS N u tl) ∧ u ≤ 9223372036854775807 ∧ Only [] w wr)
    (fun nv sv _ => (intOf nv).toNat + (1 - lenOf sv))
  case atStart => exact ⟨N, [], rfl, rfl, Lib.hid (FmS.start N), hN, Only.refl _ _⟩
  case round =>
    obtain ⟨W2, hnew⟩ : ∃ W, W = wr := ⟨_, rfl⟩
    subst hnew
    obtain ⟨u, tl, rfl, rfl, hF, hu, hO⟩ := hrel
    have hN0 : ¬ ((N : Int) < 0) := by omega
    obtain ⟨em, hem⟩ : ∃ em, em = tl.isEmpty := ⟨_, rfl⟩
    have hE : (bA tl).toList.isEmpty = em := by rw [bA_list, hem]
    by_cases hgo : tl = [] ∨ u ≠ 0
    · obtain ⟨d, hd⟩ : ∃ d, d = u % 10 := ⟨_, rfl⟩
      have hd10 : d < 10 := by omega
      have hmd : (u : Int) % 10 = (d : Int) := by omega
      obtain ⟨q, hqd⟩ : ∃ q, q = u / 10 := ⟨_, rfl⟩
      have hq : (u : Int) / 10 = (q : Int) := by omega
      have hst := hF.out.step hgo
      rw [← hd, ← hqd] at hst
      have Hd := Lib.hid hd
      have Hqd := Lib.hid hqd
      have hg2 : (em || (u : Int) != 0) = true := by
        rcases hgo with e | e
        · subst e; rw [hem]; simp
        · simp [e]
      have Hme : Hid (q + (1 - (tl.length + 1)) < u + (1 - tl.length)) := Lib.hid (by
        rcases hgo with e | e
        · subst e; simp; omega
        · omega)
      have hcv := run_convert_bytes_arg (P := Tryz.prog) (W2.alloc (.cells #[.int .u8 (48 + (d : Int))] 5)) 22 5 Tryz.underlying22 Tryz.underlying5 W2.heap.size 0 1 1 [48 + (d : Int)] (by simp) (fun i hi => by
        match i, hi with
        | 0, _ => simp) 9 Tryz.underlying9
      rw [str1] at hcv
      obtain ⟨ch, hch⟩ : ∃ ch, ch = UInt8.ofNat (48 + d) := ⟨_, rfl⟩
      rw [← hch] at hcv hst
      have Hst := Lib.hid hst
      have hsz : ¬ 9223372036854775807 < (bA [ch]).size + (bA tl).size := by have := hF.out.len (by omega); rw [bA_size, bA_size, List.length_singleton]; omega
      clear hst hd hqd hF hem hgo hch
      rcases em with _ | _
      · have hu1 : ((u : Int) != 0) = true := by simpa using hg2
        go_wp2
        go_roundw
        case rel => exact ⟨q, ch :: tl, rfl, by rw [bA_add]; rfl, Hst, by have := Hqd.out; omega, hO.trans ((Only.refl _ _).alloc _)⟩
        case measure =>
          have := Hme.out
          simp only [intOf, lenOf, bA_add, bA_size, List.length_append, List.length_singleton]
          omega
      · go_wp2
        go_roundw
        case rel => exact ⟨q, ch :: tl, rfl, by rw [bA_add]; rfl, Hst, by have := Hqd.out; omega, hO.trans ((Only.refl _ _).alloc _)⟩
        case measure =>
          have := Hme.out
          simp only [intOf, lenOf, bA_add, bA_size, List.length_append, List.length_singleton]
          omega
    · have ht : tl ≠ [] := fun e => hgo (.inl e)
      have hu0 : u = 0 := by
        rcases Nat.eq_zero_or_pos u with e | e
        · exact e
        · exact absurd (.inr (by omega)) hgo
      have hfin := Lib.hid (hF.out.fin hu0 ht)
      have hem2 : em = false := by rw [hem]; cases tl with
        | nil => exact absurd rfl ht
        | cons => rfl
      subst hem2
      subst hu0
      clear hF hem hgo ht
      go_wp2
      go_ret
      exact ⟨by rw [hfin.out]; rfl, hO⟩
set_option maxHeartbeats 1000000 in
theorem formatInt_neg (N : Nat) (hN1 : 1 ≤ N) (hN : N ≤ 9223372036854775808) (w : World) :
    Calls Tryz.prog 109 #[.int .i64 (-(N : Int))] w fun e w' => e = .returned (.string (bA (45 :: Lib.decDigits N))) ∧ Only [] w w' := by
  have hNneg : -(N : Int) < 0 := by omega
  obtain ⟨y, hy⟩ : ∃ y, y = -(N : Int) := ⟨_, rfl⟩
  rw [← hy] at hNneg ⊢
  have Hy := Lib.hid hy
  clear hy
  go_enter Tryz.func109, Tryz.ntmps109
  go_wp2
  go_loopw [0, 3] (fun nv sv wr => ∃ (u : Nat) (x : Int) (tl : List UInt8), Hid (x = -(u : Int)) ∧ nv = .int .i64 x ∧ sv = .string (bA tl) ∧ Hid (FmS N u tl) ∧ u ≤ 9223372036854775808 ∧ Only [] w wr)
    (fun nv sv _ => (intOf nv).natAbs + (1 - lenOf sv))
  case atStart => exact ⟨N, y, [], Hy, rfl, rfl, Lib.hid (FmS.start N), hN, Only.refl _ _⟩
  case round =>
    obtain ⟨W2, hnew⟩ : ∃ W, W = wr := ⟨_, rfl⟩
    subst hnew
    obtain ⟨u, x, tl, hx, rfl, rfl, hF, hu, hO⟩ := hrel
    have hN0 : decide (y < 0) = true := by simpa using hNneg
    obtain ⟨em, hem⟩ : ∃ em, em = tl.isEmpty := ⟨_, rfl⟩
    have hE : (bA tl).toList.isEmpty = em := by rw [bA_list, hem]
    by_cases hgo : tl = [] ∨ u ≠ 0
    · obtain ⟨d, hd⟩ : ∃ d, d = u % 10 := ⟨_, rfl⟩
      have hd10 : d < 10 := by omega
      have hmd : Int.tmod x 10 = -(d : Int) := by rw [hx.out, Int.neg_tmod, Int.tmod_eq_emod_of_nonneg (by omega)]; omega
      obtain ⟨q, hqd⟩ : ∃ q, q = u / 10 := ⟨_, rfl⟩
      have hq : Int.tdiv x 10 = -(q : Int) := by rw [hx.out, Int.neg_tdiv, Int.tdiv_eq_ediv_of_nonneg (by omega)]; omega
      obtain ⟨x', hx'⟩ : ∃ x', x' = -(q : Int) := ⟨_, rfl⟩
      rw [← hx'] at hq
      have Hx' := Lib.hid hx'
      have hxI : IntKind.i64.wrap x' = x' := by rw [IntKind.wrap_i64]; omega
      have hst := hF.out.step hgo
      rw [← hd, ← hqd] at hst
      have Hd := Lib.hid hd
      have Hqd := Lib.hid hqd
      have hg2 : (em || x != 0) = true := by
        rcases hgo with e | e
        · subst e; rw [hem]; simp
        · have : x ≠ 0 := by rw [hx.out]; omega
          simp [this]
      have Hme : Hid (q + (1 - (tl.length + 1)) < u + (1 - tl.length)) := Lib.hid (by
        rcases hgo with e | e
        · subst e; simp; omega
        · omega)
      have hcv := run_convert_bytes_arg (P := Tryz.prog) (W2.alloc (.cells #[.int .u8 (48 + (d : Int))] 5)) 22 5 Tryz.underlying22 Tryz.underlying5 W2.heap.size 0 1 1 [48 + (d : Int)] (by simp) (fun i hi => by
        match i, hi with
        | 0, _ => simp) 9 Tryz.underlying9
      rw [str1] at hcv
      obtain ⟨ch, hch⟩ : ∃ ch, ch = UInt8.ofNat (48 + d) := ⟨_, rfl⟩
      rw [← hch] at hcv hst
      have Hst := Lib.hid hst
      have hsz : ¬ 9223372036854775807 < (bA [ch]).size + (bA tl).size := by have := hF.out.len (by omega); rw [bA_size, bA_size, List.length_singleton]; omega
      clear hst hd hqd hF hem hgo hch hx'
      by_cases hd0 : d = 0
      · subst hd0
        have hmd0 : Int.tmod x 10 = 0 := by simpa using hmd
        simp only [Int.ofNat_zero, Int.add_zero] at hcv
        clear hmd
        rcases em with _ | _
        · have hu1 : (x != 0) = true := by simpa using hg2
          go_wp2
          go_roundw
          case rel => exact ⟨q, x', ch :: tl, Hx', rfl, by rw [bA_add]; rfl, Hst, by have := Hqd.out; omega, hO.trans ((Only.refl _ _).alloc _)⟩
          case measure =>
            have := Hme.out
            have e1 : x'.natAbs = q := by rw [Hx'.out]; omega
            have e2 : x.natAbs = u := by rw [hx.out]; omega
            simp only [intOf, lenOf, bA_add, bA_size, List.length_append, List.length_singleton, e1, e2]
            omega
        · go_wp2
          go_roundw
          case rel => exact ⟨q, x', ch :: tl, Hx', rfl, by rw [bA_add]; rfl, Hst, by have := Hqd.out; omega, hO.trans ((Only.refl _ _).alloc _)⟩
          case measure =>
            have := Hme.out
            have e1 : x'.natAbs = q := by rw [Hx'.out]; omega
            have e2 : x.natAbs = u := by rw [hx.out]; omega
            simp only [intOf, lenOf, bA_add, bA_size, List.length_append, List.length_singleton, e1, e2]
            omega
      · have hd1 : 0 < d := by omega
        clear hd0
        rcases em with _ | _
        · have hu1 : (x != 0) = true := by simpa using hg2
          go_wp2
          go_roundw
          case rel => exact ⟨q, x', ch :: tl, Hx', rfl, by rw [bA_add]; rfl, Hst, by have := Hqd.out; omega, hO.trans ((Only.refl _ _).alloc _)⟩
          case measure =>
            have := Hme.out
            have e1 : x'.natAbs = q := by rw [Hx'.out]; omega
            have e2 : x.natAbs = u := by rw [hx.out]; omega
            simp only [intOf, lenOf, bA_add, bA_size, List.length_append, List.length_singleton, e1, e2]
            omega
        · go_wp2
          go_roundw
          case rel => exact ⟨q, x', ch :: tl, Hx', rfl, by rw [bA_add]; rfl, Hst, by have := Hqd.out; omega, hO.trans ((Only.refl _ _).alloc _)⟩
          case measure =>
            have := Hme.out
            have e1 : x'.natAbs = q := by rw [Hx'.out]; omega
            have e2 : x.natAbs = u := by rw [hx.out]; omega
            simp only [intOf, lenOf, bA_add, bA_size, List.length_append, List.length_singleton, e1, e2]
            omega
    · have ht : tl ≠ [] := fun e => hgo (.inl e)
      have hu0 : u = 0 := by
        rcases Nat.eq_zero_or_pos u with e | e
        · exact e
        · exact absurd (.inr (by omega)) hgo
      have hfin := Lib.hid (hF.out.fin hu0 ht)
      have hem2 : em = false := by rw [hem]; cases tl with
        | nil => exact absurd rfl ht
        | cons => rfl
      subst hem2
      have hx0 : x = 0 := by rw [hx.out, hu0]; rfl
      have hbn : ¬ 9223372036854775807 < (⟨#[45]⟩ : ByteArray).size + (bA tl).size := by
        have h1 := hF.out.len (by omega)
        have h2 : (⟨#[45]⟩ : ByteArray).size = 1 := rfl
        rw [h2, bA_size]; omega
      subst hx0
      subst hu0
      clear hF hem hgo ht hx
      go_wp2
      go_ret
      exact ⟨by
        show Ending.returned (Value.string ((⟨#[45]⟩ : ByteArray) ++ bA tl)) = _
        rw [hfin.out, show (⟨#[45]⟩ : ByteArray) = bA [45] from rfl, bA_add]
        rfl, hO⟩
theorem formatInt_any (n : Int) (hn : I64 n) (w : World) :
    Calls Tryz.prog 109 #[.int .i64 n] w fun e w' => e = .returned (.string (bA (Lib.itoa n))) ∧ Only [] w w' := by
  unfold I64 at hn
  by_cases h : n < 0
  · obtain ⟨N, rfl⟩ : ∃ N : Nat, n = -(N : Int) := ⟨n.natAbs, by omega⟩
    rw [Lib.itoa_neg N (by omega)]
    exact formatInt_neg N (by omega) (by omega) w
  · obtain ⟨N, rfl⟩ := Int.eq_ofNat_of_zero_le (show 0 ≤ n by omega)
    rw [Lib.itoa_nonneg N]
    exact formatInt_pos N (by omega) w
end Go.Proofs.YtlbcjkjoapcppaaGreat

namespace PM

/-- where x is after k steps -/
def it (p : List Int) : Nat → Int → Int
  | 0, x => x
  | k + 1, x => at_ p (it p k x)
theorem it_add (p : List Int) (a : Nat) (x : Int) : ∀ b, it p (b + a) x = it p b (it p a x)
  | 0 => by simp [it]
  | b + 1 => by rw [Nat.succ_add]; show at_ p (it p (b + a) x) = at_ p (it p b (it p a x)); rw [it_add p a x b]
theorem it_rng {n : Nat} {p : List Int} (hp : PN n p) {x : Int} (h0 : 0 ≤ x) (h1 : x < n) : ∀ k, 0 ≤ it p k x ∧ it p k x < n
  | 0 => ⟨h0, h1⟩
  | k + 1 => hp.rng (it_rng hp h0 h1 k).1 (it_rng hp h0 h1 k).2
theorem it_inj {n : Nat} {p : List Int} (hp : PN n p) {x y : Int} (x0 : 0 ≤ x) (x1 : x < n) (y0 : 0 ≤ y) (y1 : y < n) : ∀ k, it p k x = it p k y → x = y
  | 0, h => h
  | k + 1, h => it_inj hp x0 x1 y0 y1 k (hp.inj (it_rng hp x0 x1 k).1 (it_rng hp x0 x1 k).2 (it_rng hp y0 y1 k).1 (it_rng hp y0 y1 k).2 h)
theorem it_ret {n : Nat} {p : List Int} (hp : PN n p) {x : Int} (x0 : 0 ≤ x) (x1 : x < n) {i j : Nat} (h : i < j) (e : it p i x = it p j x) : it p (j - i) x = x := by
  have hj : j = i + (j - i) := by omega
  rw [hj, it_add] at e
  exact (it_inj hp x0 x1 (it_rng hp x0 x1 _).1 (it_rng hp x0 x1 _).2 i e).symm
theorem least_of (P : Nat → Prop) : ∀ k, P k → ∃ m, P m ∧ m ≤ k ∧ ∀ j, j < m → ¬ P j := by
  intro k
  induction k using Nat.strongRecOn with
  | ind k ih =>
    intro h
    by_cases hx : ∃ j, j < k ∧ P j
    · obtain ⟨j, hj, hP⟩ := hx
      obtain ⟨m, h1, h2, h3⟩ := ih j hj hP
      exact ⟨m, h1, by omega, h3⟩
    · exact ⟨k, h, Nat.le_refl _, fun j hj hP => hx ⟨j, hj, hP⟩⟩
theorem it_back {n : Nat} {p : List Int} (hp : PN n p) {x : Int} (x0 : 0 ≤ x) (x1 : x < n) : ∃ k, (0 < k ∧ it p k x = x) ∧ k ≤ n := by
  apply Classical.byContradiction
  intro hno
  have hnd : ((List.range (n + 1)).map fun i => it p i x).Nodup := by
    unfold List.Nodup
    rw [List.pairwise_map]
    refine List.Pairwise.imp_of_mem (R := fun a b => a < b) (fun {a b} ha hb hab e => ?_) (List.pairwise_lt_range)
    exact hno ⟨b - a, ⟨by omega, it_ret hp x0 x1 hab e⟩, by have := List.mem_range.1 hb; omega⟩
  have := nodup_sub_len hnd (l2 := pts n) fun y hy => by
    obtain ⟨k, -, rfl⟩ := List.mem_map.1 hy
    exact mem_pts.2 (it_rng hp x0 x1 k)
  rw [pts_len, List.length_map, List.length_range] at this
  omega
open Classical in
/-- after how many steps x is back -/
noncomputable def per (p : List Int) (x : Int) : Nat := if h : ∃ m, (0 < m ∧ it p m x = x) ∧ ∀ j, j < m → ¬ (0 < j ∧ it p j x = x) then choose h else 0
theorem per_ok {n : Nat} {p : List Int} (hp : PN n p) {x : Int} (x0 : 0 ≤ x) (x1 : x < n) : 0 < per p x ∧ per p x ≤ n ∧ it p (per p x) x = x ∧ ∀ j, 0 < j → j < per p x → it p j x ≠ x := by
  obtain ⟨k, hk, hkn⟩ := it_back hp x0 x1
  obtain ⟨m, h1, h2, h3⟩ := least_of (fun k => 0 < k ∧ it p k x = x) k hk
  have hex : ∃ m, (0 < m ∧ it p m x = x) ∧ ∀ j, j < m → ¬ (0 < j ∧ it p j x = x) := ⟨m, h1, h3⟩
  have hper : per p x = Classical.choose hex := by unfold per; rw [dif_pos hex]
  obtain ⟨⟨c1, c2⟩, c3⟩ := Classical.choose_spec hex
  rw [hper]
  refine ⟨c1, ?_, c2, fun j h0 hj e => c3 j hj ⟨h0, e⟩⟩
  have : Classical.choose hex ≤ m := by
    apply Classical.byContradiction
    intro hlt
    exact c3 m (by omega) h1
  omega
/-- the first steps of a cycle -/
def cyT (p : List Int) (x : Int) (k : Nat) : List Int := (List.range k).map fun i => it p i x
/-- the cycle of x -/
noncomputable def cyl (p : List Int) (x : Int) : List Int := cyT p x (per p x)
theorem cyT_len (p : List Int) (x : Int) (k : Nat) : (cyT p x k).length = k := by simp [cyT]
theorem cyT_succ (p : List Int) (x : Int) (k : Nat) : cyT p x (k + 1) = cyT p x k ++ [it p k x] := by unfold cyT; rw [List.range_succ, List.map_append]; rfl
theorem cyl_len (p : List Int) (x : Int) : (cyl p x).length = per p x := cyT_len ..
section
variable {n : Nat} {p : List Int} (hp : PN n p) {x : Int} (x0 : 0 ≤ x) (x1 : x < n)
end
/-- the smallest of its cycle -/
def Mn (p : List Int) (x : Int) : Prop := ∀ y ∈ cyl p x, x ≤ y
open Classical in
/-- the cycles that begin with a number less than k -/
noncomputable def mns (p : List Int) (k : Nat) : List Int := (pts k).filter fun x => decide (Mn p x)
noncomputable def cycs (p : List Int) (k : Nat) : List (List Int) := (mns p k).map (cyl p)
theorem pts_succ (n : Nat) : pts (n + 1) = pts n ++ [(n : Int)] := by unfold pts; rw [List.range_succ, List.map_append]; rfl
theorem mns_yes {p : List Int} {k : Nat} (h : Mn p k) : mns p (k + 1) = mns p k ++ [(k : Int)] := by
  unfold mns; rw [pts_succ, List.filter_append]; simp [h]
theorem mns_no {p : List Int} {k : Nat} (h : ¬ Mn p k) : mns p (k + 1) = mns p k := by
  unfold mns; rw [pts_succ, List.filter_append]; simp [h]
theorem cycs_yes {p : List Int} {k : Nat} (h : Mn p k) : cycs p (k + 1) = cycs p k ++ [cyl p k] := by unfold cycs; rw [mns_yes h, List.map_append]; rfl
theorem cycs_no {p : List Int} {k : Nat} (h : ¬ Mn p k) : cycs p (k + 1) = cycs p k := by unfold cycs; rw [mns_no h]
theorem mem_mns {p : List Int} {k : Nat} {x : Int} : x ∈ mns p k ↔ (0 ≤ x ∧ x < k) ∧ Mn p x := by
  unfold mns; rw [List.mem_filter, mem_pts]; simp
theorem cycs_count (p : List Int) (k : Nat) : (cycs p k).length ≤ k := by
  have h : (mns p k).length ≤ (pts k).length := List.length_filter_le ..
  rw [pts_len] at h
  unfold cycs; rw [List.length_map]; exact h
end PM

namespace PM

/-- the members that begin as m, by the levels that are left -/
def dn (T : Rows) (n : Nat) : Nat → Nat → List Int → List (List Int)
  | 0, _, m => [m]
  | k + 1, i, m => (cho n T i m).flatMap fun v => dn T n k (i + 1) (putV T i m v)
end PM

namespace Go.Proofs.YtlbcjkjoapcppaaGreat
open Go.RowKit
set_option maxRecDepth 10000
end Go.Proofs.YtlbcjkjoapcppaaGreat

namespace Go.Proofs.YtlbcjkjoapcppaaGreat
open Go.RowKit
set_option maxRecDepth 10000
open Go.Maps (Keyed)
/-- block M is a map of at most k entries; g: what lies at a key -/
def Mpv (w : World) (M k : Nat) (g : Int → Option Int) : Prop :=
  ∃ D : DataW Unit, w.ownsMap Tryz.prog 2 (plainElem Tryz.prog 2) M k D ∧ ∀ s : Int, I64 s →
    Go.Maps.has D (.int .i64 s) = (g s).isSome ∧ ∀ n, g s = some n → D.atKey (.int .i64 s) (.lit (.int .i64 0)) = .lit (.int .i64 n)
theorem Mpv.lt {w : World} {M k : Nat} {g : Int → Option Int} (h : Mpv w M k g) : M < w.heap.size := by
  obtain ⟨D, h1, -⟩ := h; exact h1.lt
theorem Mpv.frame {w w' : World} {M k : Nat} {g : Int → Option Int} (h : Mpv w M k g) (hf : w'.heap[M]? = w.heap[M]?) : Mpv w' M k g := by
  obtain ⟨D, ⟨es, c, h1, h2⟩, h3⟩ := h
  exact ⟨D, ⟨es, c, by rw [hf]; exact h1, h2⟩, h3⟩
theorem Mpv.only {w w' : World} {fp : List Nat} {M k : Nat} {g : Int → Option Int} (h : Mpv w M k g) (ho : Only fp w w') (hn : M ∉ fp) : Mpv w' M k g := h.frame (ho.block M h.lt hn)
theorem Mpv.keep {w w' : World} {M k : Nat} {g : Int → Option Int} (h : Mpv w M k g) (ho : Only [] w w') : Mpv w' M k g := h.only ho (by simp)
theorem Mpv.made (w : World) {M : Nat} (hM : M = w.heap.size) : Mpv (w.alloc (.map #[] 0)) M 0 (fun _ => none) := by
  subst hM
  exact ⟨.map [], World.ownsMap_made _ _ _ _, fun s _ => ⟨rfl, by simp⟩⟩
theorem Mpv.congr {w : World} {M k : Nat} {g g' : Int → Option Int} (h : Mpv w M k g) (hg : ∀ s, g s = g' s) : Mpv w M k g' := by
  have : g = g' := funext hg
  rw [← this]; exact h
section
variable {w : World} {M k : Nat} {g : Int → Option Int}
end

end Go.Proofs.YtlbcjkjoapcppaaGreat

namespace Go.Proofs.YtlbcjkjoapcppaaGreat
open Go.RowKit
set_option maxRecDepth 10000
theorem Mpv.mono {w : World} {M k k' : Nat} {g : Int → Option Int} (h : Mpv w M k g) (hk : k ≤ k') : Mpv w M k' g := by
  obtain ⟨D, h1, h2⟩ := h
  exact ⟨D, h1.mono hk, h2⟩

/-- the walk has taken a value: q is chosen, the level is still i -/
def TK (w : World) (L : Lay) (b i : Nat) (q : List Int) (wx : World) : Prop :=
  ∃ a c f', Blk wx b [.pointer (some ⟨L.g, 0, none⟩), .int .i64 i, .slice a q.length c] ∧ Rd wx (.slice a q.length c) q f' ∧ Fresh w.heap.size wx f' ∧ Only [b] w wx
theorem TK.of {w w1 w5 w6 : World} {L : Lay} {b i : Nat} {q : List Int} {a : Option Addr} {c : Nat} {f' : List Nat} {v : Value} (t1 : Only [] w w1) (k5 : Only [] w1 w5) (Y5 : Blk w5 b [.pointer (some ⟨L.g, 0, none⟩), .int .i64 i, v]) (hb : b < w.heap.size)
    (r5 : Rd w5 (.slice a q.length c) q f') (F5 : Fresh w1.heap.size w5 f') (h6 : w6 = w5.setCell ⟨b, 2, none⟩ (.slice a q.length c)) : TK w L b i q w6 := by
  subst h6
  have hs : Only [b] w5 (w5.setCell ⟨b, 2, none⟩ (.slice a q.length c)) := (Only.refl _ _).setCell (by simp) _
  have hsz := t1.size
  have hd : ∀ z ∈ f', z ∉ [b] := fun z hz hm => by have := F5.ge z hz; simp at hm; omega
  have hB := Y5.set 2 (.slice a q.length c)
  simp only [List.set] at hB
  exact ⟨a, c, f', hB, Rp.only r5 hs hd, (F5.mono hsz).only hs hd, ((t1.trans k5).weaken _).trans hs⟩
end Go.Proofs.YtlbcjkjoapcppaaGreat

namespace Go.Proofs.YtlbcjkjoapcppaaGreat
open Go.RowKit
set_option maxRecDepth 10000
theorem AccI.low {B B' : Nat} {e : TypeId} {w : World} {v : Value} {l : List Int} (h : AccI B e w v l) (hB : B' ≤ B) : AccI B' e w v l := by
  obtain ⟨h1, h2⟩ := h.row
  refine AccI.ofRow ⟨h1.1, ?_⟩ h2
  rcases h1.2 with h3 | ⟨g, cap, cur, h3, h4, h5⟩
  · exact .inl h3
  · exact .inr ⟨g, cap, cur, h3, Nat.le_trans hB h4, h5⟩
theorem same_int (a b : Int) : (Lit.int .i64 a).sameKey (.int .i64 b) = decide (a = b) := by
  show decide (IntKind.i64 = IntKind.i64 ∧ a = b) = _
  by_cases h : a = b <;> simp [h]
/-- the keys met so far: l; those to come: left -/
structure KL (C : List Int) (left : Lit → Bool) (l : List Int) : Prop where
  nd : l.Nodup
  iff : ∀ x, I64 x → (x ∈ l ↔ x ∈ C ∧ left (.int .i64 x) = false)
  big : ∀ x ∈ l, I64 x
  dom : ∀ x, I64 x → left (.int .i64 x) = true → x ∈ C
theorem KL.step {C : List Int} {left : Lit → Bool} {l : List Int} (h : KL C left l) {x : Int} (hx : I64 x) (hl : left (.int .i64 x) = true) : KL C (fun z => left z && !z.sameKey (.int .i64 x)) (l ++ [x]) := by
  have hn : x ∉ l := fun hm => by have := ((h.iff x hx).1 hm).2; rw [hl] at this; cases this
  refine ⟨?_, fun y hy => ?_, fun y hy => ?_, fun y hy hl2 => ?_⟩
  · rw [List.nodup_append]
    exact ⟨h.nd, by simp, fun a ha b hb => by simp at hb; subst hb; intro e; subst e; exact hn ha⟩
  · rw [List.mem_append, h.iff y hy]
    simp only [List.mem_singleton, same_int]
    by_cases he : y = x
    · subst he; simp [h.dom _ hx hl]
    · simp [he]
  · rcases List.mem_append.1 hy with hy | hy
    · exact h.big y hy
    · simp at hy; subst hy; exact hx
  · simp only [same_int, Bool.and_eq_true] at hl2
    exact h.dom y hy hl2.1
end Go.Proofs.YtlbcjkjoapcppaaGreat

namespace Go.Proofs.YtlbcjkjoapcppaaGreat
open Go.RowKit
set_option maxRecDepth 10000




end Go.Proofs.YtlbcjkjoapcppaaGreat

namespace Go.Proofs.YtlbcjkjoapcppaaGreat
open Go.RowKit
set_option maxRecDepth 10000


end Go.Proofs.YtlbcjkjoapcppaaGreat
