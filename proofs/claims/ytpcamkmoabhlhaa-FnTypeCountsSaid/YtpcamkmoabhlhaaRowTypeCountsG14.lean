/- The program's cycleType, CycleType; the reference's CycleType; CountMembersOfType of both (laws 32, 44). The reference's CycleType, the program's CycleType; CountMembersOfType of both (laws 32, 44). What the laws on members draw: drawMember, drawGroupAndMember, DrawCountMembersOfType (law 44; drawn states). What the laws on ranks and random members draw (laws 34, 35). The laws' drawn tracked sets (laws 10, 11). The laws' drawn puzzles (laws 10, 11). The laws' own comparison of numbers: likeInts (laws 10, 11). The law on cycle types (law 44): its walk. -/
import Derived.Test.YtpcamkmoabhlhaaRowTypeCountsG13
import Derived.Test.YtpcamkmoabhlhaaRowTypeCountsG8
import Derived.Test.YtpcamkmoabhlhaaRowTypeCountsG11
namespace Go.Proofs.Ytpcamkmoabhlhaa
open Go.RowKit
set_option maxRecDepth 10000

theorem lng_rng {n : Nat} {p : List Int} (hp : PM.PN n p) (j : Nat) : 0 ≤ ((PM.lng p n).take j).sum ∧ ((PM.lng p n).take j).sum ≤ n := by
  have h1 := PM.lng_sum_le hp
  have h2 : ∀ (l : List Int), (∀ z ∈ l, 0 ≤ z) → ∀ j, 0 ≤ (l.take j).sum ∧ (l.take j).sum ≤ l.sum := by
    intro l
    induction l with
    | nil => intro _ j; simp
    | cons a l ih =>
      intro h j
      have ha := h a (by simp)
      have hl := ih fun z hz => h z (List.mem_cons_of_mem _ hz)
      cases j with
      | zero => have := hl l.length; rw [List.take_length] at this; simp; omega
      | succ j => have := hl j; simp; omega
  have h3 := h2 (PM.lng p n) (fun z hz => by have := PM.lens_rng hp z (List.mem_filter.1 hz).1; omega) j
  omega
theorem lng_get {p : List Int} {n j : Nat} (h : j < (lcy p n).length) : (PM.lng p n).take (j + 1) = (PM.lng p n).take j ++ [(((lcy p n)[j]).length : Int)] := by
  rw [← lcy_lng, ← List.map_take, ← List.map_take, List.take_succ_eq_append_getElem h, List.map_append]; rfl
theorem lng_len (p : List Int) (n : Nat) : (PM.lng p n).length = (lcy p n).length := by rw [← lcy_lng, List.length_map]
theorem sum_snoc (l : List Int) (a : Int) : (l ++ [a]).sum = l.sum + a := by rw [List.sum_append]; simp
/-- the cycle type as the program makes it -/
theorem cyt_prog {n : Nat} {p : List Int} (hp : PM.PN n p) : ((PM.lng p n ++ List.replicate ((n : Int) - (PM.lng p n).sum).toNat 1).mergeSort fun x y => decide (x ≤ y)).reverse = PM.cyt p := by
  refine PM.cyt_eq hp (((List.reverse_perm _).trans (List.mergeSort_perm _ _)).trans (PM.lng_perm hp)) ?_
  rw [List.pairwise_reverse]
  have h1 := List.pairwise_mergeSort (le := fun (x y : Int) => decide (x ≤ y)) (by intro a b c h1 h2; simp at *; omega) (by intro a b; simp; omega) (PM.lng p n ++ List.replicate ((n : Int) - (PM.lng p n).sum).toNat 1)
  exact h1.imp fun h => by simpa using h
theorem sort_ne {l : List Int} (h : l ≠ []) : (l.mergeSort fun x y => decide (x ≤ y)) ≠ [] := fun e => by
  have h1 := List.length_mergeSort (le := fun (x y : Int) => decide (x ≤ y)) l
  rw [e] at h1
  exact h (List.eq_nil_of_length_eq_zero h1.symm)
set_option maxHeartbeats 8000000 in
theorem implCycleType_any (n : Nat) (v : Value) (p : List Int) (fp : List Nat) (w : World) (h : Rd w v p fp) (hp : PM.PN n p) (hn : n ≤ 1000) (hn0 : 0 < n) :
    Calls Try.prog 61 #[v] w fun e w' => ∃ v', e = .returned v' ∧ AccI w.heap.size 2 w' v' (PM.cyt p) ∧ Only [] w w' := by
  obtain ⟨i1, gi, gz0, gz1, gz2⟩ := info_parts Try.info2
  have Hpl := Lib.hid hp.1
  have Hp := Lib.hid hp
  have hprog := cyt_prog hp
  have hlen0 := (PM.lng_perm hp).length_eq
  obtain ⟨L, hL⟩ : ∃ L, L = PM.lng p n := ⟨_, rfl⟩
  have Hrng := Lib.hid (fun j => lng_rng hp j)
  have Hget := Lib.hid (fun j (h : j < (lcy p n).length) => lng_get (p := p) h)
  have Hll := Lib.hid (lng_len p n)
  rw [← hL] at hprog Hrng Hget Hll hlen0
  have hRne : (L ++ List.replicate ((n : Int) - L.sum).toNat 1) ≠ [] := fun e => by
    have h2 : (PM.cyt p).length = (PM.lens p n).length := (PM.cyt_perm hp).length_eq
    have h3 := PM.lens_sum hp
    rw [e] at hlen0
    have : PM.lens p n = [] := List.eq_nil_of_length_eq_zero hlen0.symm
    rw [this] at h3
    simp at h3
    omega
  have hRlen : (L ++ List.replicate ((n : Int) - L.sum).toNat 1).length ≤ 1000 := by
    rw [hlen0]
    unfold PM.lens
    rw [List.length_map]
    have := PM.cycs_count p n
    omega
  have Hprog := Lib.hid hprog
  have Hne := Lib.hid hRne
  have Hln := Lib.hid hRlen
  clear hp hprog hlen0 hRne hRlen hL
  go_enter Try.func61, Try.ntmps61
  go_wp2_with (first
    | (go_at_call 39; (with_reducible refine (lengthInt_rd v p fp w h).mono ?_); rintro e w0 ⟨he, h0⟩; rw [Hpl.out] at he; subst he; subst h0)
    | (go_at_call 85; (with_reducible refine (implCycles_any n v p fp _ h Hp.out hn hn0).mono ?_); rintro e w1 ⟨v1, f1, rfl, r1, F1, t1⟩; obtain ⟨a1, c1, ob1, fps1, rfl, -, S1⟩ := r1.open_)
    | fail "no arm")
  have hb1 := S1.bound
  obtain ⟨LL, hLL⟩ : ∃ LL, LL = lcy p n := ⟨_, rfl⟩
  rw [← hLL] at S1 hb1 Hget Hll ⊢
  clear hLL
  have z1 := t1.size
  go_loopw [3, 4, 12] (fun o x y wr => ∃ j : Nat, j ≤ LL.length ∧ y = .int .i64 j ∧ x = .int .i64 ((n : Int) - (L.take j).sum) ∧ AccI w1.heap.size 2 wr o (L.take j) ∧ Only [] w1 wr)
    (fun _ _ y _ => LL.length - (intOf y).toNat)
  case atStart => exact ⟨0, Nat.zero_le _, rfl, by simp, AccI.nil _ _ _, Only.refl _ _⟩
  case round =>
    obtain ⟨W2, hnew⟩ : ∃ W, W = wr := ⟨_, rfl⟩
    subst hnew
    obtain ⟨j, hj, rfl, rfl, hA, hO⟩ := hrel
    have hsz := hO.size
    by_cases hlt : j < LL.length
    · have hltI : (j : Int) < (LL.length : Int) := by omega
      obtain ⟨b, off, u, rfl, -, hc0, hu0⟩ := S1.atRow j hlt
      have hg := Hget.out j hlt
      have hr1 := Hrng.out j
      have hr2 := Hrng.out (j + 1)
      rw [hg, sum_snoc] at hr2
      obtain ⟨c, hc⟩ : ∃ c, c = LL[j] := ⟨_, rfl⟩
      rw [← hc] at hg hr2 hu0
      obtain ⟨sm, hsm⟩ : ∃ sm, sm = (L.take j).sum := ⟨_, rfl⟩
      rw [← hsm] at hr1 hr2 ⊢
      have hst : (L.take (j + 1)).sum = sm + (c.length : Int) := by rw [hg, sum_snoc, hsm]
      have cc := hO.cell (by simp) hc0
      have Hu := Lib.hid (fun (W : World) (hW : Only [] w1 W) => Rp.keep hu0 hW)
      have HcI := Lib.hid (show I64 (c.length : Int) by unfold I64; omega)
      have hlen : (L.take j).length + 1 ≤ 1073741824 := by have := Hln.out; rw [List.length_append] at this; rw [List.length_take]; omega
      have hw : IntKind.i64.wrap ((n : Int) - sm - (c.length : Int)) = (n : Int) - sm - (c.length : Int) := by rw [IntKind.wrap_i64]; omega
      have Hg := Lib.hid hg
      have Hst := Lib.hid hst
      have HA := Lib.hid hA
      have k1 : Only [] w1 W2 := hO
      clear hg hst hA hc hsm hu0 hc0
      go_wp2_with (first
        | (go_at_call 39; (with_reducible refine (lengthInt_rd u c _ _ (Hu.out _ (by with_reducible assumption))).mono ?_); rintro e w3 ⟨rfl, h3⟩; rw [h3]; clear h3)
        | (at_builtin; refine wpList_pushI rfl _ _ 23 rfl w1.heap.size 2 i1 _ Try.underlying23 gi gz0 gz1 gz2 rfl W2 u3 (L.take j) rfl HA.out ((Only.refl _ _).alloc _) hsz W2.heap.size 1 (c.length : Int) rfl (lit1 _ _ _ rfl) HcI.out hlen ?_; intro v7 w7 hA7 hO7 hP7 hN7; have k7 := hP7 w1 (k1.alloc _) (Nat.le_refl _); clear hO7 hP7 hN7)
        | fail "no arm")
      go_roundw
      case rel => exact ⟨j + 1, by omega, by go_num, by rw [Hst.out]; congr 1; omega, by rw [Hg.out]; exact hA7, k7⟩
      case measure => simp [intOf]; omega
    · obtain rfl : j = LL.length := by omega
      have hge : ¬ ((LL.length : Int) < (LL.length : Int)) := by omega
      have htk : L.take LL.length = L := List.take_of_length_le (by rw [Hll.out]; exact Nat.le_refl _)
      have hr1 := Hrng.out LL.length
      rw [htk] at hA hr1 ⊢
      obtain ⟨m, hm⟩ : ∃ m : Nat, m = ((n : Int) - L.sum).toNat := ⟨_, rfl⟩
      have hmI : (n : Int) - L.sum = (m : Int) := by omega
      rw [hmI]
      have Hm := Lib.hid hm
      have k1 : Only [] w1 W2 := hO
      have hml : m ≤ n := by omega
      clear hm hmI htk hr1
      go_wp2
      go_loopw [3, 4] (fun o x wr => ∃ r : Nat, r ≤ m ∧ x = .int .i64 ((m : Int) - (r : Int)) ∧ AccI w1.heap.size 2 wr o (L ++ List.replicate r 1) ∧ Only [] w1 wr)
        (fun _ x _ => (intOf x).toNat)
      case atStart => exact ⟨0, Nat.zero_le _, by simp, by simpa using hA, k1⟩
      case round =>
        obtain ⟨W4, hnew⟩ : ∃ W, W = wr := ⟨_, rfl⟩
        subst hnew
        clear hA
        obtain ⟨r, hr, rfl, hA, hO4⟩ := hrel
        have hsz4 := hO4.size
        by_cases hlr : r < m
        · have hpos : (0 : Int) < (m : Int) - (r : Int) := by omega
          have hlen : (L ++ List.replicate r (1 : Int)).length + 1 ≤ 1073741824 := by have := Hln.out; rw [← Hm.out, List.length_append, List.length_replicate] at this; rw [List.length_append, List.length_replicate]; omega
          have Hone := Lib.hid (show I64 (1 : Int) by unfold I64; omega)
          have hst : L ++ List.replicate (r + 1) (1 : Int) = (L ++ List.replicate r 1) ++ [1] := by rw [List.replicate_succ', List.append_assoc]
          have hw : IntKind.i64.wrap ((m : Int) - (r : Int) - 1) = (m : Int) - (r : Int) - 1 := by rw [IntKind.wrap_i64]; omega
          have Hst := Lib.hid hst
          have HA := Lib.hid hA
          clear hst hA
          go_wp2_with (first
            | (at_builtin; refine wpList_pushI rfl _ _ 23 rfl w1.heap.size 2 i1 _ Try.underlying23 gi gz0 gz1 gz2 rfl W4 u3 (L ++ List.replicate r 1) rfl HA.out ((Only.refl _ _).alloc _) hsz4 W4.heap.size 1 1 rfl (lit1 _ _ _ rfl) Hone.out hlen ?_; intro v7 w7 hA7 hO7 hP7 hN7; have k7 := hP7 w1 (hO4.alloc _) (Nat.le_refl _); clear hO7 hP7 hN7)
            | fail "no arm")
          go_roundw
          case rel => exact ⟨r + 1, by omega, by congr 1; push_cast; omega, by rw [Hst.out]; exact hA7, k7⟩
          case measure => simp [intOf]; omega
        · obtain rfl : r = m := by omega
          have hz : (r : Int) - (r : Int) = 0 := by omega
          rw [hz]
          rw [Hm.out] at hA
          have HA := Lib.hid hA
          have HneS := Lib.hid (sort_ne Hne.out)
          have HlnS := Lib.hid (show ((L ++ List.replicate ((n : Int) - L.sum).toNat 1).mergeSort fun x y => decide (x ≤ y)).length ≤ 1000 by rw [List.length_mergeSort]; exact Hln.out)
          have hown := hA.ownlt
          clear hA hz
          go_wp2_with (first
            | (go_at_call 86; (with_reducible refine (sort_accI W4 u3 _ HA.out Hne.out Hln.out).mono ?_); rintro e w5 ⟨rfl, A5, O5⟩)
            | (go_at_call 87; (with_reducible refine (reverse_accI w5 u3 _ A5 HneS.out HlnS.out).mono ?_); rintro e w6 ⟨rfl, A6, O6⟩)
            | fail "no arm")
          go_ret
          refine ⟨u3, rfl, ?_, ?_⟩
          · rw [← Hprog.out]
            exact A6.low2 z1
          · have k5 : Only [] w1 w5 := hO4.then_ O5 (fun b hb hl => by have := (hown b (by simpa using hb)).1; omega)
            have k6 : Only [] w1 w6 := k5.then_ O6 (fun b hb hl => by have := (hown b (by simpa using hb)).1; omega)
            exact t1.trans k6
end Go.Proofs.Ytpcamkmoabhlhaa

namespace Go.Proofs.Ytpcamkmoabhlhaa
open Go.RowKit
set_option maxRecDepth 10000

theorem lens_cyc (p : List Int) (n : Nat) : PM.lens p n = (PM.cycs p n).map fun c => (c.length : Int) := rfl
theorem drop_filter (l : List Int) (m : Int) (i : Nat) (h : i < l.length) : (l.drop i).filter (fun z => decide (z = m)) = (if l[i] = m then [m] else []) ++ (l.drop (i + 1)).filter (fun z => decide (z = m)) := by
  rw [List.drop_eq_getElem_cons h, List.filter_cons]
  by_cases e : l[i] = m
  · simp [e]
  · simp [e]
set_option maxHeartbeats 8000000 in
theorem specCycleType_any (n : Nat) (v : Value) (p : List Int) (fp : List Nat) (w : World) (h : Rd w v p fp) (hp : PM.PN n p) (hn20 : n ≤ 20) (hn0 : 0 < n) :
    Calls Try.prog 30 #[v] w fun e w' => ∃ v', e = .returned v' ∧ AccI w.heap.size 2 w' v' (PM.cyt p) ∧ Only [] w w' := by
  obtain ⟨A, C, rfl, I⟩ := id h.ints
  obtain ⟨i1, gi, gz0, gz1, gz2⟩ := info_parts Try.info2
  have hb := I.bound
  have hn : n ≤ 1000 := by omega
  have Hpl := Lib.hid hp.1
  have Hp := Lib.hid hp
  have Hpb := Lib.hid (permB_iff.2 ⟨by rw [hp.1]; omega, hp.2⟩)
  obtain ⟨R, hR⟩ : ∃ R, R = PM.cyt p := ⟨_, rfl⟩
  have hRd : R = PM.dsc (PM.lens p n) n := by rw [hR]; unfold PM.cyt; rw [hp.1]
  have hRlen : R.length ≤ 1000 := by
    rw [hR, (PM.cyt_perm hp).length_eq, lens_cyc, List.length_map]
    have := PM.cycs_count p n
    omega
  rw [← hR]
  have Hlc := Lib.hid (PM.cycs_count p n)
  have A0 := AccI.made w w.heap.size 2 rfl (Nat.le_refl _)
  have hpn : p.length ≤ 1000 := by rw [hp.1]; exact hn
  clear hp hR
  go_enter Try.func30, Try.ntmps30
  go_wp2_with (first
    | (go_at_call 49; (with_reducible refine (specIsPerm_rd (.slice A p.length C) p fp _ (Rp.keep h (by with_reducible repeat (first | exact Only.refl _ _ | assumption | refine Only.drewN ?_ _ | refine Only.drew ?_ | refine Only.alloc ?_ _ | refine Only.setCell ?_ (by intro hh; exfalso; simp at hh; try omega) _ | refine Only.trans ?_ (by assumption))))).mono ?_); rintro e w1 ⟨he, t1⟩; rw [Hpb.out] at he; subst he; have t1 := t1.only [])
    | (go_at_call 53; (with_reducible refine (allCycles_any n (.slice A p.length C) p fp w1 (Rp.keep h (((Only.refl [] w).alloc _).trans t1)) Hp.out hn).mono ?_); rintro e w2 ⟨v2, f2, rfl, r2, F2, t2⟩; obtain ⟨a2, c2, ob2, fps2, rfl, hf2, S2⟩ := r2.open_)
    | fail "no arm")
  have k2 := ((Only.refl [] w).alloc (.cells #[] 2)).trans (t1.trans t2)
  have hz1 := (((Only.refl [] w).alloc (.cells #[] 2)).trans t1).size
  have hs1 := t1.size
  have X0 : AccG w w2 f2 2 w2 (.slice (some ⟨w.heap.size, 0, none⟩) 0 0) [] := ⟨A0.keep (t1.trans t2), k2, fun _ _ => rfl, fun b hb e => by
    have := F2.ge b hb
    have e2 : w.heap.size = b := by simpa [Value.ownBlock] using e
    simp at hs1
    omega, F2.lt⟩
  have hSb := S2.bound
  have hcc : (PM.cycs p n).length ≤ 1000 := by have := Hlc.out; omega
  obtain ⟨CL, hCL⟩ : ∃ CL, CL = PM.cycs p n := ⟨_, rfl⟩
  obtain ⟨LN, hLN⟩ : ∃ LN, LN = PM.lens p n := ⟨_, rfl⟩
  have hln : LN = CL.map fun c => (c.length : Int) := by rw [hLN, hCL]; rfl
  rw [← hLN] at hRd
  rw [← hCL] at S2 hSb hcc ⊢
  have Hln := Lib.hid hln
  have Hf2 := Lib.hid hf2
  have HRd := Lib.hid hRd
  have hnle : p.length ≤ n := by rw [Hpl.out]; exact Nat.le_refl _
  clear hCL hLN hln hf2 hRd hs1 t1 t2 A0 r2
  go_loopw [3, 5] (fun o x wr => ∃ (m : Nat) (l : List Int), m ≤ n ∧ x = .int .i64 m ∧ Hid (R = l ++ PM.dsc LN m) ∧ AccG w w2 f2 2 wr o l)
    (fun _ x _ => (intOf x).toNat)
  case atStart => exact ⟨p.length, [], hnle, rfl, Lib.hid (by rw [List.nil_append, Hpl.out]; exact HRd.out), X0⟩
  case round =>
    obtain ⟨W2, hnew⟩ : ∃ W, W = wr := ⟨_, rfl⟩
    subst hnew
    clear X0 k2
    obtain ⟨m, l, hm, rfl, hl, hG⟩ := hrel
    by_cases hpos : 0 < m
    · have hposI : (0 : Int) < (m : Int) := by omega
      obtain ⟨m', hm'⟩ : ∃ m', m = m' + 1 := ⟨m - 1, by omega⟩
      have hw : IntKind.i64.wrap ((m : Int) - 1) = (m' : Int) := by rw [IntKind.wrap_i64]; omega
      have hds : PM.dsc LN m = LN.filter (fun z => decide (z = (m : Int))) ++ PM.dsc LN m' := by rw [hm']; rfl
      have hstart : R = l ++ ((LN.drop 0).filter (fun z => decide (z = (m : Int))) ++ PM.dsc LN m') := by rw [hl.out, hds, List.drop_zero]
      have Hstart := Lib.hid hstart
      have Hm' := Lib.hid hm'
      clear hds hstart hm' hl
      go_wp2
      go_loopw [3, 6] (fun o y wr => ∃ (i : Nat) (l : List Int), i ≤ CL.length ∧ y = .int .i64 i ∧ Hid (R = l ++ ((LN.drop i).filter (fun z => decide (z = (m : Int))) ++ PM.dsc LN m')) ∧ AccG w w2 f2 2 wr o l)
        (fun _ y _ => CL.length - (intOf y).toNat)
      case atStart => exact ⟨0, l, Nat.zero_le _, rfl, Hstart, hG⟩
      case round =>
        obtain ⟨W4, hnew⟩ : ∃ W, W = wr := ⟨_, rfl⟩
        subst hnew
        clear hG Hstart
        obtain ⟨i, l, hi, rfl, hl, hG⟩ := hrel
        by_cases hlt : i < CL.length
        · have hltI : (i : Int) < (CL.length : Int) := by omega
          obtain ⟨b, off, u, rfl, hob, hc0, hu0⟩ := S2.atRow i hlt
          obtain ⟨c, hc⟩ : ∃ c, c = CL[i] := ⟨_, rfl⟩
          rw [← hc] at hu0
          obtain ⟨a4, c4, rfl, I4⟩ := hu0.ints
          have hbG : b ∈ f2 := by rw [Hf2.out, hob]; simp
          have cc := (World.cell?_of_block (w := w2) (hG.kp b hbG)).trans hc0
          have hlni : i < LN.length := by rw [Hln.out, List.length_map]; exact hlt
          have hli : LN[i] = (c.length : Int) := by simp only [Hln.out, List.getElem_map, hc]
          have hst := drop_filter LN (m : Int) i hlni
          rw [hli] at hst
          have hRI := IntsA.bound I4
          have hsz := hG.on.size
          have HG := Lib.hid hG
          have hi0 : (0 : Int) ≤ (i : Int) := by omega
          by_cases hq : c.length = m
          · rw [if_pos (by omega)] at hst
            have q1 : (c.length : Int) ≤ (m : Int) := by omega
            have q2 : (m : Int) ≤ (c.length : Int) := by omega
            have HmI := Lib.hid (show I64 (m : Int) by unfold I64; omega)
            have hR2 : R = (l ++ [(m : Int)]) ++ ((LN.drop (i + 1)).filter (fun z => decide (z = (m : Int))) ++ PM.dsc LN m') := by rw [hl.out, hst]; simp
            have HR2 := Lib.hid hR2
            have hlen : l.length + 1 ≤ 1073741824 := by
              have h1 := hRlen
              rw [hl.out, List.length_append] at h1
              omega
            clear hR2 hst hq hli hlni hc hl hG hc0 hob hbG
            go_wp2_with (first
              | (at_builtin; refine wpList_pushI rfl _ _ 23 rfl w.heap.size 2 i1 _ Try.underlying23 gi gz0 gz1 gz2 rfl W4 u3 l rfl HG.out.acc ((Only.refl _ _).alloc _) hsz W4.heap.size 1 (m : Int) rfl (lit1 _ _ _ rfl) HmI.out hlen ?_; intro v7 w7 hA7 hO7 hP7 hN7; have G7 := (HG.out.keep ((Only.refl [] W4).alloc _)).push hA7 hO7 hP7 hN7; clear hA7 hO7 hP7 hN7)
              | fail "no arm")
            go_roundw
            case rel => exact ⟨i + 1, _, by omega, by go_num, HR2, G7⟩
            case measure => simp [intOf]; omega
          · rw [if_neg (by omega), List.nil_append] at hst
            have q1 : ¬ ((c.length : Int) = (m : Int)) := by omega
            have hR2 : R = l ++ ((LN.drop (i + 1)).filter (fun z => decide (z = (m : Int))) ++ PM.dsc LN m') := by rw [hl.out, hst]
            have HR2 := Lib.hid hR2
            clear hR2 hst hq hli hlni hc hl hG hc0 hob hbG
            go_wp2
            go_roundw
            case rel => exact ⟨i + 1, _, by omega, by go_num, HR2, HG.out⟩
            case measure => simp [intOf]; omega
        · obtain rfl : i = CL.length := by omega
          have hge : ¬ ((CL.length : Int) < (CL.length : Int)) := by omega
          have hR2 : R = l ++ PM.dsc LN m' := by
            have := hl.out
            rw [List.drop_eq_nil_of_le (by rw [Hln.out, List.length_map]; exact Nat.le_refl _)] at this
            simpa using this
          have HR2 := Lib.hid hR2
          clear hR2 hl
          go_wp2
          go_roundw
          case rel => exact ⟨m', l, by have := Hm'.out; omega, rfl, HR2, hG⟩
          case measure => have := Hm'.out; simp [intOf]; omega
    · have hge : ¬ ((0 : Int) < (m : Int)) := by omega
      have hR2 : R = l := by
        have h0 : m = 0 := by omega
        rw [hl.out, h0]
        simp [PM.dsc]
      have HR2 := Lib.hid hR2
      clear hR2 hl
      go_wp2
      go_ret
      exact ⟨u3, rfl, by rw [HR2.out]; exact hG.acc, hG.on⟩
set_option maxHeartbeats 2000000 in
theorem implCycleTypeP_any (n : Nat) (v : Value) (p : List Int) (fp : List Nat) (w : World) (h : Rd w v p fp) (hp : PM.PN n p) (hn20 : n ≤ 20) (hn0 : 0 < n) :
    Calls Try.prog 35 #[v] w fun e w' => ∃ v', e = .returned v' ∧ AccI w.heap.size 2 w' v' (PM.cyt p) ∧ Only [] w w' := by
  have Hpb := Lib.hid (permB_iff.2 ⟨by rw [hp.1]; omega, hp.2⟩)
  have Hp := Lib.hid hp
  clear hp
  go_enter Try.func35, Try.ntmps35
  go_wp2_with (first
    | (go_at_call 57; (with_reducible refine (implIsPerm_rd v p fp w h).mono ?_); rintro e w1 ⟨he, t1⟩; rw [Hpb.out] at he; subst he; have t1 := t1.only [])
    | (go_at_call 61; (with_reducible refine (implCycleType_any n v p fp w1 (Rp.keep h t1) Hp.out (by omega) hn0).mono ?_); rintro e w2 ⟨v2, rfl, A2, t2⟩)
    | fail "no arm")
  go_ret
  exact ⟨v2, rfl, A2.low2 t1.size, t1.trans t2⟩
/-- how many members of a list have a cycle type -/
noncomputable def cntK (l : List (List Int)) (kind : List Int) : Nat := (l.filter fun m => eqV (PM.cyt m) kind).length
theorem cntK_yes {l : List (List Int)} {m kind : List Int} (h : eqV (PM.cyt m) kind = true) : cntK (l ++ [m]) kind = cntK l kind + 1 := by
  unfold cntK; rw [List.filter_append]; simp [h]
theorem cntK_no {l : List (List Int)} {m kind : List Int} (h : eqV (PM.cyt m) kind = false) : cntK (l ++ [m]) kind = cntK l kind := by
  unfold cntK; rw [List.filter_append]; simp [h]
theorem cntK_le (l : List (List Int)) (kind : List Int) : cntK l kind ≤ l.length := List.length_filter_le ..
/-- the number of members of a cycle type, -1 where they are not listed -/
noncomputable def cntT (n : Int) (gens : List (List Int)) (kind : List Int) : Int :=
  if gensB n gens = true then (if 3000 < ordC n.toNat gens n.toNat then -1 else (cntK (allMem n.toNat gens) kind : Nat)) else -1
theorem lsM_pn {n : Nat} {gens : List (List Int)} (hn : 0 < n) (hp : ∀ g ∈ gens, PM.PN n g) {G : PM.Gens} {T : PM.Rows} (h : PM.Chain n gens G T) : ∀ m ∈ lsM n gens, PM.PN n m := by
  intro m hm
  unfold lsM at hm
  by_cases hg : 3000 < ordC n gens n
  · rw [if_pos hg] at hm; cases hm
  · rw [if_neg hg] at hm
    exact (allMem_grp h hn hp m hm).pn hp
set_option maxHeartbeats 4000000 in
theorem specCountT_yes (n : Nat) (vg vk : Value) (gens : List (List Int)) (kind : List Int) (fpg fpk : List Nat) (w : World) (hg : Rd w vg gens fpg) (hk : Rd w vk kind fpk) (hgs : gensB n gens = true) {G : PM.Gens} {T : PM.Rows} (hCh : PM.Chain n gens G T) :
    Calls Try.prog 7 #[.int .i64 n, vg, vk] w fun e w' => e = .returned (.int .i64 (cntT n gens kind)) ∧ Only [] w w' := by
  obtain ⟨⟨n1, n20⟩, hgl, hpn⟩ := gensB_iff.1 hgs
  have hpn' : ∀ g ∈ gens, PM.PN n g := by simpa using hpn
  have hn : 0 < n := by omega
  have hn20 : n ≤ 20 := by omega
  have hop := ordC_pos hCh hn hpn' (j := n) (Nat.le_refl _)
  have hall := lsM_pn hn hpn' hCh
  have Hgs := Lib.hid hgs
  obtain ⟨R, hR⟩ : ∃ R, R = cntT n gens kind := ⟨_, rfl⟩
  rw [← hR]
  have hRd : R = if 3000 < ordC n gens n then -1 else ((cntK (allMem n gens) kind : Nat) : Int) := by
    rw [hR]; unfold cntT; rw [if_pos hgs]; rfl
  have hlsl : (lsM n gens).length = if 3000 < ordC n gens n then 0 else ordC n gens n := by
    unfold lsM
    by_cases hgt : 3000 < ordC n gens n
    · rw [if_pos hgt, if_pos hgt]; rfl
    · rw [if_neg hgt, if_neg hgt, allMem_len]
  have HRd : Hid (if 0 < (lsM n gens).length then R = ((cntK (lsM n gens) kind : Nat) : Int) ∧ (lsM n gens).length ≤ 3000 else R = -1) := Lib.hid (by
    rw [hlsl]
    by_cases hgt : 3000 < ordC n gens n
    · rw [if_pos hgt, if_neg (by omega), hRd, if_pos hgt]
    · rw [if_neg hgt, if_pos (by omega), hRd, if_neg hgt]
      refine ⟨?_, by omega⟩
      unfold lsM
      rw [if_neg hgt])
  have Hall := Lib.hid hall
  obtain ⟨LS, hLS⟩ : ∃ LS, LS = lsM n gens := ⟨_, rfl⟩
  have HaM := Lib.hid (fun (W : World) (hW : Rd W vg gens fpg) => allMembers_any n vg gens fpg W hW hgs)
  rw [← hLS] at HRd Hall HaM
  clear hpn hpn' hgs hall hR hRd hlsl hop hCh hLS
  have hq := HRd.out
  by_cases h0 : 0 < LS.length
  · rw [if_pos h0] at hq
    obtain ⟨hq1, hq2⟩ := hq
    have HR := Lib.hid hq1
    have h0I : ((LS.length : Int) == 0) = false := by
      have : (LS.length : Int) ≠ 0 := by omega
      simpa using this
    clear HRd hq1
    go_enter Try.func7, Try.ntmps7
    go_wp2_with (first
      | (go_at_call 25; (with_reducible refine (specIsGens_rd n vg gens fpg w hg).mono ?_); rintro e w1 ⟨he, t1⟩; rw [Hgs.out] at he; subst he; have t1 := t1.only [])
      | (go_at_call 27; (with_reducible refine (HaM.out w1 (Rp.keep hg t1)).mono ?_); rintro e w2 ⟨v2, f2, rfl, r2, F2, t2⟩; obtain ⟨a2, c2, ob2, fps2, rfl, -, S2⟩ := r2.open_)
      | fail "no arm")
    have k2 := t1.trans t2
    have hb := S2.bound
    go_loopw [8, 9] (fun s y wr => ∃ j : Nat, j ≤ LS.length ∧ y = .int .i64 j ∧ s = .int .i64 (cntK (LS.take j) kind : Nat) ∧ Only [] w2 wr)
      (fun _ y _ => LS.length - (intOf y).toNat)
    case atStart => exact ⟨0, Nat.zero_le _, rfl, rfl, Only.refl _ _⟩
    case round =>
      obtain ⟨W2, hnew⟩ : ∃ W, W = wr := ⟨_, rfl⟩
      subst hnew
      obtain ⟨j, hj, rfl, rfl, hO⟩ := hrel
      by_cases hlt : j < LS.length
      · have hltI : (j : Int) < (LS.length : Int) := by omega
        obtain ⟨b, off, u, rfl, hob, hc0, hu0⟩ := S2.atRow j hlt
        have hpm := Hall.out LS[j] (List.getElem_mem hlt)
        have hsn := take_succ_get LS j hlt
        obtain ⟨m, hm⟩ : ∃ m, m = LS[j] := ⟨_, rfl⟩
        rw [← hm] at hu0 hpm hsn
        have cc := hO.cell (by simp) hc0
        have Hu := Lib.hid (Rp.keep hu0 hO)
        have Hk := Lib.hid (Rp.keep hk (k2.trans hO))
        have Hpm := Lib.hid hpm
        have hcl := cntK_le (LS.take j) kind
        rw [List.length_take] at hcl
        have HcT := Lib.hid (specCycleType_any n u m _ W2 Hu.out Hpm.out hn20 hn)
        have hyes := fun h => cntK_yes (l := LS.take j) (m := m) (kind := kind) h
        have hno := fun h => cntK_no (l := LS.take j) (m := m) (kind := kind) h
        rw [← hsn] at hyes hno
        obtain ⟨cn, hcn⟩ : ∃ cn, cn = cntK (LS.take j) kind := ⟨_, rfl⟩
        rw [← hcn] at hyes hno hcl ⊢
        have Hyes := Lib.hid hyes
        have Hno := Lib.hid hno
        have hj0 : (0 : Int) ≤ (j : Int) := by omega
        clear hpm hsn hm hcn hyes hno hu0 hc0 hob
        rcases hq : eqV (PM.cyt m) kind
        · have Hq := Lib.hid hq
          clear hq
          go_wp2_with (first
            | (go_at_call 30; (with_reducible refine (HcT.out).mono ?_); rintro e w3 ⟨v3, rfl, A3, t3⟩)
            | (go_at_call 29; (with_reducible refine (equalInts_rd v3 vk (PM.cyt m) kind _ _ w3 A3.rd (Rp.keep Hk.out t3)).mono ?_); rintro e w4 ⟨he, t4⟩; rw [Hq.out] at he; subst he; have t4 := t4.only [])
            | (go_at_call 28; (with_reducible refine (boolToInt_any false _).mono ?_); rintro e w5 ⟨rfl, h5⟩; rw [h5]; clear h5)
            | fail "no arm")
          go_roundw
          case rel => exact ⟨j + 1, by omega, by go_num, by rw [Hno.out Hq.out], (hO.trans t3).trans t4⟩
          case measure => simp [intOf]; omega
        · have Hq := Lib.hid hq
          clear hq
          go_wp2_with (first
            | (go_at_call 30; (with_reducible refine (HcT.out).mono ?_); rintro e w3 ⟨v3, rfl, A3, t3⟩)
            | (go_at_call 29; (with_reducible refine (equalInts_rd v3 vk (PM.cyt m) kind _ _ w3 A3.rd (Rp.keep Hk.out t3)).mono ?_); rintro e w4 ⟨he, t4⟩; rw [Hq.out] at he; subst he; have t4 := t4.only [])
            | (go_at_call 28; (with_reducible refine (boolToInt_any true _).mono ?_); rintro e w5 ⟨rfl, h5⟩; rw [h5]; clear h5)
            | fail "no arm")
          go_roundw
          case rel => exact ⟨j + 1, by omega, by go_num, by rw [Hyes.out Hq.out]; go_num, (hO.trans t3).trans t4⟩
          case measure => simp [intOf]; omega
      · obtain rfl : j = LS.length := by omega
        have hge : ¬ ((LS.length : Int) < (LS.length : Int)) := by omega
        rw [List.take_length]
        go_wp2
        go_ret
        exact ⟨ret_int HR.out.symm, k2.trans hO⟩
  · rw [if_neg h0] at hq
    have HR := Lib.hid hq
    clear HRd hq
    go_enter Try.func7, Try.ntmps7
    go_wp2_with (first
      | (go_at_call 25; (with_reducible refine (specIsGens_rd n vg gens fpg w hg).mono ?_); rintro e w1 ⟨he, t1⟩; rw [Hgs.out] at he; subst he; have t1 := t1.only [])
      | (go_at_call 27; (with_reducible refine (HaM.out w1 (Rp.keep hg t1)).mono ?_); rintro e w2 ⟨v2, f2, rfl, r2, F2, t2⟩; obtain ⟨a2, c2, ob2, fps2, rfl, -, S2⟩ := r2.open_)
      | fail "no arm")
    go_ret
    exact ⟨ret_int HR.out.symm, t1.trans t2⟩
set_option maxHeartbeats 4000000 in
theorem implCountT_yes (n : Nat) (vg vk : Value) (gens : List (List Int)) (kind : List Int) (fpg fpk : List Nat) (w : World) (hg : Rd w vg gens fpg) (hk : Rd w vk kind fpk) (hgs : gensB n gens = true) {G : PM.Gens} {T : PM.Rows} (hCh : PM.Chain n gens G T) :
    Calls Try.prog 10 #[.int .i64 n, vg, vk] w fun e w' => e = .returned (.int .i64 (cntT n gens kind)) ∧ Only [] w w' := by
  obtain ⟨⟨n1, n20⟩, hgl, hpn⟩ := gensB_iff.1 hgs
  have hpn' : ∀ g ∈ gens, PM.PN n g := by simpa using hpn
  have hn : 0 < n := by omega
  have hn20 : n ≤ 20 := by omega
  have hall := lsM_pn hn hpn' hCh
  have Hgs := Lib.hid hgs
  have Hpn := Lib.hid hpn'
  obtain ⟨R, hR⟩ : ∃ R, R = cntT n gens kind := ⟨_, rfl⟩
  rw [← hR]
  have hRd : R = if 3000 < ordC n gens n then -1 else ((cntK (allMem n gens) kind : Nat) : Int) := by
    rw [hR]; unfold cntT; rw [if_pos hgs]; rfl
  have HRd : Hid (if ordC n gens n ≤ 3000 then R = ((cntK (lsM n gens) kind : Nat) : Int) ∧ (lsM n gens).length ≤ 3000 else R = -1) := Lib.hid (by
    by_cases hgt : 3000 < ordC n gens n
    · rw [if_neg (by omega), hRd, if_pos hgt]
    · rw [if_pos (by omega), hRd, if_neg hgt]
      unfold lsM
      rw [if_neg hgt, allMem_len]
      exact ⟨rfl, by omega⟩)
  have Hall := Lib.hid hall
  have HcM := Lib.hid (fun (B : Nat) (L : Lay) (gv : Nat → Value) (G : PM.Gens) (T : PM.Rows) (M F : List Nat) (w : World) (hC : Ch 23 B w L gv n G T M F) (hCh : PM.Chain n gens G T) (hT : L.oT = 2) => implMembers_ch n w hC hCh hT hpn')
  obtain ⟨LS, hLS⟩ : ∃ LS, LS = lsM n gens := ⟨_, rfl⟩
  rw [← hLS] at HRd Hall HcM
  clear hpn hpn' hgs hall hR hRd hCh hLS
  have hq := HRd.out
  by_cases h0 : ordC n gens n ≤ 3000
  · rw [if_pos h0] at hq
    rw [decide_eq_true h0] at HcM
    obtain ⟨hq1, hq2⟩ := hq
    have HR := Lib.hid hq1
    clear HRd hq1 h0
    go_enter Try.func10, Try.ntmps10
    go_wp2_with (first
      | (go_at_call 31; (with_reducible refine (implIsGens_rd n vg gens fpg w hg).mono ?_); rintro en w1 ⟨he, t1⟩; rw [Hgs.out] at he; subst he)
      | (go_at_call 32; (with_reducible refine (implNewChain_any n hn hn20 vg gens fpg w1 (Rp.keep hg t1) Hpn.out (by omega)).mono ?_); rintro en w4 ⟨L, gv, G, T, M, F, rfl, -, hoT, hC, hCh, t4⟩; have HC := Lib.hid hC; have HCh := Lib.hid hCh; have HoT := Lib.hid hoT; clear hC hCh hoT)
      | (go_at_call 33; (with_reducible refine (HcM.out _ _ _ _ _ _ _ w4 HC.out HCh.out HoT.out).mono ?_); rintro e w2 ⟨v2, f2, rfl, r2, F2, t2⟩; obtain ⟨a2, c2, ob2, fps2, rfl, -, S2⟩ := r2.open_)
      | fail "no arm")
    have k2 := (t1.trans t4).trans t2
    have hb := S2.bound
    go_loopw [9, 27] (fun s y wr => ∃ j : Nat, j ≤ LS.length ∧ y = .int .i64 j ∧ s = .int .i64 (cntK (LS.take j) kind : Nat) ∧ Only [] w2 wr)
      (fun _ y _ => LS.length - (intOf y).toNat)
    case atStart => exact ⟨0, Nat.zero_le _, rfl, rfl, Only.refl _ _⟩
    case round =>
      obtain ⟨W2, hnew⟩ : ∃ W, W = wr := ⟨_, rfl⟩
      subst hnew
      obtain ⟨j, hj, rfl, rfl, hO⟩ := hrel
      by_cases hlt : j < LS.length
      · have hltI : (j : Int) < (LS.length : Int) := by omega
        obtain ⟨b, off, u, rfl, hob, hc0, hu0⟩ := S2.atRow j hlt
        have hpm := Hall.out LS[j] (List.getElem_mem hlt)
        have hsn := take_succ_get LS j hlt
        obtain ⟨m, hm⟩ : ∃ m, m = LS[j] := ⟨_, rfl⟩
        rw [← hm] at hu0 hpm hsn
        have cc := hO.cell (by simp) hc0
        have Hu := Lib.hid (Rp.keep hu0 hO)
        have Hk := Lib.hid (Rp.keep hk (k2.trans hO))
        have Hpm := Lib.hid hpm
        have hcl := cntK_le (LS.take j) kind
        rw [List.length_take] at hcl
        have HcT := Lib.hid (implCycleTypeP_any n u m _ W2 Hu.out Hpm.out hn20 hn)
        have hyes := fun h => cntK_yes (l := LS.take j) (m := m) (kind := kind) h
        have hno := fun h => cntK_no (l := LS.take j) (m := m) (kind := kind) h
        rw [← hsn] at hyes hno
        obtain ⟨cn, hcn⟩ : ∃ cn, cn = cntK (LS.take j) kind := ⟨_, rfl⟩
        rw [← hcn] at hyes hno hcl ⊢
        have Hyes := Lib.hid hyes
        have Hno := Lib.hid hno
        have hj0 : (0 : Int) ≤ (j : Int) := by omega
        clear hpm hsn hm hcn hyes hno hu0 hc0 hob
        rcases hq : eqV (PM.cyt m) kind
        · have Hq := Lib.hid hq
          clear hq
          go_wp2_with (first
            | (go_at_call 35; (with_reducible refine (HcT.out).mono ?_); rintro e w3 ⟨v3, rfl, A3, t3⟩)
            | (go_at_call 34; (with_reducible refine (Equal_rd v3 vk (PM.cyt m) kind _ _ w3 A3.rd (Rp.keep Hk.out t3)).mono ?_); rintro e w4 ⟨he, t4⟩; rw [Hq.out] at he; subst he; have t4 := t4.only [])
            | fail "no arm")
          go_roundw
          case rel => exact ⟨j + 1, by omega, by go_num, by rw [Hno.out Hq.out], (hO.trans t3).trans t4⟩
          case measure => simp [intOf]; omega
        · have Hq := Lib.hid hq
          clear hq
          go_wp2_with (first
            | (go_at_call 35; (with_reducible refine (HcT.out).mono ?_); rintro e w3 ⟨v3, rfl, A3, t3⟩)
            | (go_at_call 34; (with_reducible refine (Equal_rd v3 vk (PM.cyt m) kind _ _ w3 A3.rd (Rp.keep Hk.out t3)).mono ?_); rintro e w4 ⟨he, t4⟩; rw [Hq.out] at he; subst he; have t4 := t4.only [])
            | fail "no arm")
          go_roundw
          case rel => exact ⟨j + 1, by omega, by go_num, by rw [Hyes.out Hq.out]; go_num, (hO.trans t3).trans t4⟩
          case measure => simp [intOf]; omega
      · obtain rfl : j = LS.length := by omega
        have hge : ¬ ((LS.length : Int) < (LS.length : Int)) := by omega
        rw [List.take_length]
        go_wp2
        go_ret
        exact ⟨ret_int HR.out.symm, k2.trans hO⟩
  · rw [if_neg h0] at hq
    rw [decide_eq_false h0] at HcM
    have HR := Lib.hid hq
    clear HRd hq
    go_enter Try.func10, Try.ntmps10
    go_wp2_with (first
      | (go_at_call 31; (with_reducible refine (implIsGens_rd n vg gens fpg w hg).mono ?_); rintro en w1 ⟨he, t1⟩; rw [Hgs.out] at he; subst he)
      | (go_at_call 32; (with_reducible refine (implNewChain_any n hn hn20 vg gens fpg w1 (Rp.keep hg t1) Hpn.out (by omega)).mono ?_); rintro en w4 ⟨L, gv, G, T, M, F, rfl, -, hoT, hC, hCh, t4⟩; have HC := Lib.hid hC; have HCh := Lib.hid hCh; have HoT := Lib.hid hoT; clear hC hCh hoT)
      | (go_at_call 33; (with_reducible refine (HcM.out _ _ _ _ _ _ _ w4 HC.out HCh.out HoT.out).mono ?_); rintro e w2 ⟨v2, f2, rfl, r2, F2, t2⟩)
      | fail "no arm")
    go_ret
    exact ⟨ret_int HR.out.symm, (t1.trans t4).trans t2⟩
theorem specCountT_no (n : Int) (vg vk : Value) (gens : List (List Int)) (fpg : List Nat) (w : World) (hg : Rd w vg gens fpg) (hgs : gensB n gens = false) :
    Calls Try.prog 7 #[.int .i64 n, vg, vk] w fun e w' => e = .returned (.int .i64 (-1)) ∧ Only [] w w' := by
  have Hgs := Lib.hid hgs
  clear hgs
  go_enter Try.func7, Try.ntmps7
  go_wp2_with (first
    | (go_at_call 25; (with_reducible refine (specIsGens_rd n vg gens fpg w hg).mono ?_); rintro e w1 ⟨he, t1⟩; rw [Hgs.out] at he; subst he; have t1 := t1.only [])
    | fail "no arm")
  go_ret
  exact ⟨rfl, t1⟩
theorem implCountT_no (n : Int) (vg vk : Value) (gens : List (List Int)) (fpg : List Nat) (w : World) (hg : Rd w vg gens fpg) (hgs : gensB n gens = false) :
    Calls Try.prog 10 #[.int .i64 n, vg, vk] w fun e w' => e = .returned (.int .i64 (-1)) ∧ Only [] w w' := by
  have Hgs := Lib.hid hgs
  clear hgs
  go_enter Try.func10, Try.ntmps10
  go_wp2_with (first
    | (go_at_call 31; (with_reducible refine (implIsGens_rd n vg gens fpg w hg).mono ?_); rintro e w1 ⟨he, t1⟩; rw [Hgs.out] at he; subst he)
    | fail "no arm")
  go_ret
  exact ⟨rfl, t1⟩
/-- the two counts, at all arguments -/
theorem specCountT_any (n : Int) (vg vk : Value) (gens : List (List Int)) (kind : List Int) (fpg fpk : List Nat) (w : World) (hg : Rd w vg gens fpg) (hk : Rd w vk kind fpk) :
    Calls Try.prog 7 #[.int .i64 n, vg, vk] w fun e w' => e = .returned (.int .i64 (cntT n gens kind)) ∧ Only [] w w' := by
  rcases hgs : gensB n gens
  · have e1 : cntT n gens kind = -1 := by unfold cntT; rw [if_neg (by rw [hgs]; simp)]
    rw [e1]
    exact specCountT_no n vg vk gens fpg w hg hgs
  · obtain ⟨⟨n1, n20⟩, hgl, hpn⟩ := gensB_iff.1 hgs
    obtain ⟨m, rfl⟩ := Int.eq_ofNat_of_zero_le (show 0 ≤ n by omega)
    obtain ⟨G, T, hCh⟩ := rank_chain m vg gens fpg w hg hgs
    exact specCountT_yes m vg vk gens kind fpg fpk w hg hk hgs hCh
theorem implCountT_any (n : Int) (vg vk : Value) (gens : List (List Int)) (kind : List Int) (fpg fpk : List Nat) (w : World) (hg : Rd w vg gens fpg) (hk : Rd w vk kind fpk) :
    Calls Try.prog 10 #[.int .i64 n, vg, vk] w fun e w' => e = .returned (.int .i64 (cntT n gens kind)) ∧ Only [] w w' := by
  rcases hgs : gensB n gens
  · have e1 : cntT n gens kind = -1 := by unfold cntT; rw [if_neg (by rw [hgs]; simp)]
    rw [e1]
    exact implCountT_no n vg vk gens fpg w hg hgs
  · obtain ⟨⟨n1, n20⟩, hgl, hpn⟩ := gensB_iff.1 hgs
    obtain ⟨m, rfl⟩ := Int.eq_ofNat_of_zero_le (show 0 ≤ n by omega)
    obtain ⟨G, T, hCh⟩ := rank_chain m vg gens fpg w hg hgs
    exact implCountT_yes m vg vk gens kind fpg fpk w hg hk hgs hCh
end Go.Proofs.Ytpcamkmoabhlhaa

namespace Go.Proofs.Ytpcamkmoabhlhaa
open Go.RowKit
set_option maxRecDepth 10000

set_option maxHeartbeats 4000000 in
theorem drawMember_any (g : Nat) (fc : List Nat) (l : List UInt8) (n : Int) (vg : Value) (gs : List (List Int)) (fp : List Nat) (w : World) (h : Src w g fc l) (hl : l.length ≤ 4096) (hn : I64 n) (hg : Rd w vg gs fp) (hfp : ∀ b ∈ fp, b ≠ g) :
    Calls Try.prog 72 #[.pointer (some ⟨g, 0, none⟩), .int .i64 n, vg] w fun e w' => ∃ v, ∃ p : List Int, ∃ f, e = .returned v ∧ Rd w' v p f ∧ Fresh w.heap.size w' f ∧ p.length ≤ 60 ∧ Src w' g fc l ∧ Only [g] w w' := by
  have hgl := h.lt
  have hnb := hn
  unfold I64 at hnb
  have Hnf := Lib.hid (show ∀ b ∈ fp, b ∉ [g] from fun b hb hm => hfp b hb (by simpa using hm))
  clear hn
  rcases hgs : gensB n gs
  · obtain ⟨k, hk⟩ : ∃ k : Nat, min (max n 1) 7 = (k : Int) := ⟨(min (max n 1) 7).toNat, by omega⟩
    have hk1 : 1 ≤ k := by omega
    have hk7 : k ≤ 7 := by omega
    have Hk := Lib.hid hk
    have Hgs := Lib.hid hgs
    have HcD := Lib.hid (fun (W : World) (D : Src W g fc l) => drawAny_any g fc l k W D hl ⟨hk1, by omega⟩)
    clear hgs
    go_enter Try.func72, Try.ntmps72
    go_wp2_with (first
      | (go_at_call 25; (with_reducible refine (specIsGens_rd n vg gs fp w hg).mono ?_); rintro e w1 ⟨he, t1⟩; rw [Hgs.out] at he; subst he; have t1 := t1.only [])
      | (go_at_call 67; (with_reducible refine (HcD.out w1 (h.keep t1)).mono ?_); rintro e w2 ⟨v2, p2, f2, rfl, r2, F2, l2, D2, K2⟩)
      | fail "no arm")
    go_ret
    exact ⟨v2, p2, f2, rfl, r2, F2.mono t1.size, by omega, D2, (t1.weaken [g]).trans K2⟩
  · obtain ⟨⟨n1, n20⟩, hgl, hpn⟩ := gensB_iff.1 hgs
    obtain ⟨m, rfl⟩ := Int.eq_ofNat_of_zero_le (show 0 ≤ n by omega)
    have hpn' : ∀ g ∈ gs, PM.PN m g := by simpa using hpn
    obtain ⟨A, C, ob, fps, rfl, hfe, hS⟩ := id hg.open_
    have hb := hS.bound
    have Hgs := Lib.hid hgs
    have Hpn := Lib.hid hpn'
    have Hfe := Lib.hid hfe
    clear hgs hpn hpn' hfe
    go_enter Try.func72, Try.ntmps72
    go_wp2_with (first
      | (go_at_call 25; (with_reducible refine (specIsGens_rd (m : Int) (.slice A gs.length C) gs fp w hg).mono ?_); rintro e w1 ⟨he, t1⟩; rw [Hgs.out] at he; subst he; have t1 := t1.only [])
      | (go_at_call 50; (with_reducible refine (specIdentity_any m w1 (by omega)).mono ?_); rintro e w2 ⟨v2, f2, rfl, r2, F2, t2⟩)
      | (go_at_call 65; (with_reducible refine (srcBelow_any g fc l 8 w2 ((h.keep t1).keep t2) hl (by omega)).mono ?_); rintro e w3 ⟨k, rfl, k0, k8, D3, K3⟩)
      | fail "no arm")
    have k2 : Only [] w w2 := t1.trans t2
    have K3' : Only [g] w w3 := (k2.weaken [g]).trans K3
    have hF2 : Fresh w.heap.size w2 f2 := F2.mono t1.size
    have hd2 : ∀ b ∈ f2, b ∉ [g] := fun b hb hm => by have := hF2.ge b hb; simp at hm; omega
    have r3 := Rp.only r2 K3 hd2
    have F3 := hF2.only K3 hd2
    have hPm := PM.PN.id m
    have k8' : k ≤ 8 := by omega
    clear t1 t2 k2 K3 hF2 hd2 r2 F2
    go_loopw [7, 8] (fun o x wr => ∃ (k : Int) (p : List Int) (f : List Nat), 0 ≤ k ∧ k ≤ 8 ∧ x = .int .i64 k ∧ Rd wr o p f ∧ PM.PN m p ∧ Fresh w.heap.size wr f ∧ Src wr g fc l ∧ Only [g] w wr)
      (fun _ x _ => (intOf x).toNat)
    case atStart => exact ⟨k, _, f2, k0, k8', rfl, r3, hPm, F3, D3, K3'⟩
    case round =>
      obtain ⟨W2, hnew⟩ : ∃ W, W = wr := ⟨_, rfl⟩
      subst hnew
      clear r3 F3 D3 K3' hPm k8' k0 k8
      obtain ⟨k, p, f, k0, k8, rfl, hr, hp, hF, hD, hO⟩ := hrel
      have Hp := Lib.hid hp
      have hdf : ∀ b ∈ f, b ∉ [g] := fun b hb hm => by have := hF.ge b hb; simp at hm; omega
      have Hdf := Lib.hid hdf
      have hpl : p.length ≤ 60 := by rw [hp.1]; omega
      clear hp hdf
      by_cases hgo : 0 < k ∧ 0 < gs.length
      · obtain ⟨h1, h2⟩ := hgo
        have h2I : (0 : Int) < (gs.length : Int) := by omega
        have hw : IntKind.i64.wrap (k - 1) = k - 1 := by rw [IntKind.wrap_i64]; omega
        go_wp2_with (first
          | (go_at_call 65; (with_reducible refine (srcBelow_any g fc l (gs.length : Int) W2 hD hl (by omega)).mono ?_); rintro e w4 ⟨r, rfl, r0, r1, D4, K4⟩; obtain ⟨q, rfl⟩ := Int.eq_ofNat_of_zero_le r0; have hql : q < gs.length := (by omega); have hqI : (q : Int) < (gs.length : Int) := (by omega); obtain ⟨b, off, u, rfl, hob, hc0, hu0⟩ := hS.atRow q hql; have K4' := hO.trans K4; have hnb : b ∉ [g] := Hnf.out b (by rw [Hfe.out, hob]; simp); have cc := K4'.cell hnb hc0; have hu4 := Rp.only hu0 K4' (fun b hb => Hnf.out b (by rw [Hfe.out]; exact List.mem_append_right _ (List.mem_flatten.2 ⟨_, List.getElem_mem _, hb⟩))); have hpm := Hpn.out gs[q] (List.getElem_mem hql); have hr4 := Rp.only hr K4 Hdf.out; have F4 := hF.only K4 Hdf.out)
          | (go_at_call 75; (with_reducible refine (specCompose_rd m _ u p gs[q] _ _ w4 hr4 hu4 Hp.out hpm (by omega)).mono ?_); rintro e w5 ⟨v5, f5, rfl, r5, F5, t5⟩)
          | fail "no arm")
        go_roundw
        case rel => exact ⟨k - 1, _, f5, by omega, by omega, rfl, r5, Hp.out.comp hpm, F5.mono (by have := K4'.size; omega), D4.keep t5, K4'.keepThen t5⟩
        case measure => simp [intOf]; omega
      · have hend : ¬ (0 < k) ∨ ¬ ((0 : Int) < (gs.length : Int)) := by
          by_cases h1 : 0 < k
          · exact Or.inr (by omega)
          · exact Or.inl h1
        clear hgo
        rcases hend with h1 | h1
        · go_wp2_with (first
            | (go_at_call 63; (with_reducible refine (oneIn_any g fc l 3 W2 hD hl (by omega)).mono ?_); rintro e w4 ⟨b4, rfl, D4, K4⟩)
            | (go_at_call 67; (with_reducible refine (drawAny_any g fc l m w4 D4 hl ⟨by omega, by omega⟩).mono ?_); rintro e w5 ⟨v5, p5, f5, rfl, r5, F5, l5, D5, K5⟩)
            | fail "no arm")
          · go_ret
            exact ⟨v5, p5, f5, rfl, r5, F5.mono (by have := (hO.trans K4).size; omega), by omega, D5, (hO.trans K4).trans K5⟩
          · go_ret
            exact ⟨u7, p, f, rfl, Rp.only hr K4 Hdf.out, hF.only K4 Hdf.out, hpl, D4, hO.trans K4⟩
        · by_cases hk : 0 < k
          · go_wp2_with (first
              | (go_at_call 63; (with_reducible refine (oneIn_any g fc l 3 W2 hD hl (by omega)).mono ?_); rintro e w4 ⟨b4, rfl, D4, K4⟩)
              | (go_at_call 67; (with_reducible refine (drawAny_any g fc l m w4 D4 hl ⟨by omega, by omega⟩).mono ?_); rintro e w5 ⟨v5, p5, f5, rfl, r5, F5, l5, D5, K5⟩)
              | fail "no arm")
            · go_ret
              exact ⟨v5, p5, f5, rfl, r5, F5.mono (by have := (hO.trans K4).size; omega), by omega, D5, (hO.trans K4).trans K5⟩
            · go_ret
              exact ⟨u7, p, f, rfl, Rp.only hr K4 Hdf.out, hF.only K4 Hdf.out, hpl, D4, hO.trans K4⟩
          · go_wp2_with (first
              | (go_at_call 63; (with_reducible refine (oneIn_any g fc l 3 W2 hD hl (by omega)).mono ?_); rintro e w4 ⟨b4, rfl, D4, K4⟩)
              | (go_at_call 67; (with_reducible refine (drawAny_any g fc l m w4 D4 hl ⟨by omega, by omega⟩).mono ?_); rintro e w5 ⟨v5, p5, f5, rfl, r5, F5, l5, D5, K5⟩)
              | fail "no arm")
            · go_ret
              exact ⟨v5, p5, f5, rfl, r5, F5.mono (by have := (hO.trans K4).size; omega), by omega, D5, (hO.trans K4).trans K5⟩
            · go_ret
              exact ⟨u7, p, f, rfl, Rp.only hr K4 Hdf.out, hF.only K4 Hdf.out, hpl, D4, hO.trans K4⟩
/-- drawn: a degree, generators, a permutation -/
def DGM (w : World) (g : Nat) (fc : List Nat) (l : List UInt8) (s4 s5 s6 : Value) (wx : World) : Prop :=
  ∃ (n : Int) (gs : List (List Int)) (fp : List Nat) (p : List Int) (f : List Nat), s4 = .int .i64 n ∧ I64 n ∧ Rd wx s5 gs fp ∧ Fresh w.heap.size wx fp ∧ Rd wx s6 p f ∧ Fresh w.heap.size wx f ∧ gs.length ≤ 9 ∧ (∀ y : List Int, y ∈ gs → y.length ≤ 30) ∧ p.length ≤ 60 ∧ Src wx g fc l ∧ Only [g] w wx
set_option maxHeartbeats 2000000 in
theorem drawGroupAndMember_any (g : Nat) (fc : List Nat) (l : List UInt8) (w : World) (h : Src w g fc l) (hl : l.length ≤ 4096) :
    Calls Try.prog 47 #[.pointer (some ⟨g, 0, none⟩)] w fun e w' => ∃ s4 s5 s6, e = .returned (.tuple #[s4, s5, s6]) ∧ DGM w g fc l s4 s5 s6 w' := by
  have hgl := h.lt
  go_enter Try.func47, Try.ntmps47
  go_wp2_with (first
    | (go_at_call 37; (with_reducible refine (drawGroup_any g fc l w h hl).mono ?_); rintro e w2 ⟨s4, s5, rfl, n, gs, fp, rfl, hn, r2, F2, l9, l30, D2, K2⟩; obtain ⟨a2, c2, ob2, fps2, rfl, -, -⟩ := id r2.open_; have hnf : ∀ b ∈ fp, b ≠ g := (fun b hb e => by have := F2.ge b hb; omega))
    | (go_at_call 72; (with_reducible refine (drawMember_any g fc l n (.slice a2 gs.length c2) gs fp w2 D2 hl hn r2 hnf).mono ?_); rintro e w3 ⟨v3, p3, f3, rfl, r3, F3, l3, D3, K3⟩; obtain ⟨a3, c3, rfl, -⟩ := id r3.ints)
    | fail "no arm")
  have hd : ∀ b ∈ fp, b ∉ [g] := fun b hb hm => hnf b hb (by simpa using hm)
  exact bodyPost_ret (v := .tuple #[.int .i64 n, .slice a2 gs.length c2, .slice a3 p3.length c3]) (by simp [results, Try.results47, go_sem]) rfl ⟨_, _, _, rfl, n, gs, fp, p3, f3, rfl, hn, Rp.only r2 K3 hd, F2.only K3 hd, r3, F3.mono K2.size, l9, l30, l3, D3, K2.trans K3⟩
/-- the reference's CycleType at whatever list -/
theorem specCycleType_all (v : Value) (p : List Int) (fp : List Nat) (w : World) (h : Rd w v p fp) :
    Calls Try.prog 30 #[v] w fun e w' => ∃ v', ∃ q : List Int, ∃ f, e = .returned v' ∧ Rd w' v' q f ∧ Fresh w.heap.size w' f ∧ q.length ≤ 20 ∧ Only [] w w' := by
  by_cases hp : permB p = true
  · obtain ⟨⟨h1, h20⟩, hP⟩ := permB_iff.1 hp
    have hPN : PM.PN p.length p := ⟨rfl, hP⟩
    refine (specCycleType_any p.length v p fp w h hPN h20 (by omega)).mono ?_
    rintro e w' ⟨v', rfl, A, t⟩
    refine ⟨v', _, _, rfl, A.rd, A.fresh, ?_, t⟩
    rw [(PM.cyt_perm hPN).length_eq, lens_cyc, List.length_map]
    have := PM.cycs_count p p.length
    omega
  · have Hpb : Hid (permB p = false) := Lib.hid (by simpa using hp)
    clear hp
    obtain ⟨A, C, rfl, I⟩ := id h.ints
    go_enter Try.func30, Try.ntmps30
    go_wp2_with (first
      | (go_at_call 49; (with_reducible refine (specIsPerm_rd (.slice A p.length C) p fp _ (Rp.keep h (by with_reducible repeat (first | exact Only.refl _ _ | assumption | refine Only.drewN ?_ _ | refine Only.drew ?_ | refine Only.alloc ?_ _ | refine Only.setCell ?_ (by intro hh; exfalso; simp at hh; try omega) _ | refine Only.trans ?_ (by assumption))))).mono ?_); rintro e w1 ⟨he, t1⟩; rw [Hpb.out] at he; subst he; have t1 := t1.only [])
      | fail "no arm")
    go_ret
    have k := ((Only.refl [] w).alloc (.cells #[] 2)).trans t1
    exact ⟨_, [], [], rfl, (SeqA.nil (α := Int) _ _ (by simp [maxLen])).rd, Fresh.nil _ _, by simp, k⟩
/-- drawn: a degree, generators, a list -/
def DGL (w : World) (s0 s1 s2 : Value) (wx : World) : Prop :=
  ∃ (n : Int) (gs : List (List Int)) (fp : List Nat) (p : List Int) (f : List Nat), s0 = .int .i64 n ∧ I64 n ∧ Rd wx s1 gs fp ∧ Rd wx s2 p f ∧ gs.length ≤ 9 ∧ (∀ y : List Int, y ∈ gs → y.length ≤ 30) ∧ p.length ≤ 60 ∧ Only [] w wx
set_option maxHeartbeats 2000000 in
theorem drawCountT_any (v : Value) (l : List UInt8) (fc : List Nat) (w : World) (h : Rd w v l fc) (hl : l.length ≤ 4096) :
    Calls Try.prog 24 #[v] w fun e w' => ∃ s0 s1 s2, e = .returned (.tuple #[s0, s1, s2]) ∧ DGL w s0 s1 s2 w' := by
  go_enter Try.func24, Try.ntmps24
  go_wp2_with (first
    | (go_at_call 36; (with_reducible refine (newSource_any v l fc w h hl).mono ?_); rintro e w1 ⟨g, rfl, D1, hg, t1⟩)
    | (go_at_call 47; (with_reducible refine (drawGroupAndMember_any g fc l w1 D1 hl).mono ?_); rintro e w2 ⟨s4, s5, s6, rfl, n, gs, fp, p, f, rfl, hn, r2, F2, r3, F3, l9, l30, lp, D2, K2⟩; obtain ⟨a2, c2, ob2, fps2, rfl, -, -⟩ := id r2.open_; obtain ⟨a3, c3, rfl, -⟩ := id r3.ints)
    | (go_at_call 30; (with_reducible refine (specCycleType_all (.slice a3 p.length c3) p f w2 r3).mono ?_); rintro e w3 ⟨v4, q, f4, rfl, r4, F4, l4, t3⟩; obtain ⟨a4, c4, rfl, -⟩ := id r4.ints)
    | fail "no arm")
  exact bodyPost_ret (v := .tuple #[.int .i64 n, .slice a2 gs.length c2, .slice a4 q.length c4]) (by simp [results, Try.results24, go_sem]) rfl ⟨_, _, _, rfl, n, gs, fp, q, f4, rfl, hn, Rp.keep r2 t3, r4, l9, l30, by omega, (((t1.weaken [g]).trans K2).keepThen t3).mono fun b hb hl => by simp at hb; omega⟩
end Go.Proofs.Ytpcamkmoabhlhaa

namespace Go.Proofs.Ytpcamkmoabhlhaa
open Go.RowKit
set_option maxRecDepth 10000

/-- drawn: a degree, generators, a number -/
def DM (w : World) (s0 s1 s2 : Value) (wx : World) : Prop :=
  ∃ (n : Int) (gs : List (List Int)) (fp : List Nat) (k : Int), s0 = .int .i64 n ∧ s2 = .int .i64 k ∧ I64 n ∧ I64 k ∧ Rd wx s1 gs fp ∧ Fresh w.heap.size wx fp ∧ gs.length ≤ 9 ∧ (∀ y : List Int, y ∈ gs → y.length ≤ 30) ∧ Only [] w wx
theorem DM.of {w w1 w2 w4 : World} {g : Nat} {fc : List Nat} {l : List UInt8} {n k : Int} {v : Value} {gs : List (List Int)} {fp : List Nat} (t1 : Only [] w w1) (hg : w.heap.size ≤ g) (D1 : Src w1 g fc l) (hn : I64 n) (hk : I64 k) (r2 : Rd w2 v gs fp) (F2 : Fresh w1.heap.size w2 fp) (l9 : gs.length ≤ 9) (l30 : ∀ y : List Int, y ∈ gs → y.length ≤ 30) (K2 : Only [g] w1 w2) (K4 : Only [g] w2 w4) : DM w (.int .i64 n) v (.int .i64 k) w4 := by
  have hgl := D1.lt
  have hd : ∀ q ∈ fp, q ∉ [g] := fun q hq hm => by have := F2.ge q hq; simp at hm; omega
  exact ⟨n, gs, fp, k, rfl, rfl, hn, hk, Rp.only r2 K4 hd, (F2.only K4 hd).mono t1.size, l9, l30, ((t1.weaken [g]).trans (K2.trans K4)).mono fun b hb hl => by simp at hb; omega⟩

set_option maxHeartbeats 1000000 in
theorem specGroupOrder_no (n : Int) (vg : Value) (gens : List (List Int)) (fpg : List Nat) (w : World) (hg : Rd w vg gens fpg) (hgs : gensB n gens = false) :
    Calls Try.prog 18 #[.int .i64 n, vg] w fun e w' => e = .returned (.int .i64 0) ∧ Only [] w w' := by
  have Hgs := Lib.hid hgs
  clear hgs
  go_enter Try.func18, Try.ntmps18
  go_wp2_with (first
    | (go_at_call 25; (with_reducible refine (specIsGens_rd n vg gens fpg w hg).mono ?_); rintro en w1 ⟨he, t1⟩; rw [Hgs.out] at he; subst he; have t1 := t1.only [])
    | fail "no arm")
  go_ret
  exact ⟨rfl, t1⟩
/-- the order of a group, 0 of no group -/
noncomputable def ordG (n : Int) (gens : List (List Int)) : Nat := if gensB n gens = true then ordC n.toNat gens n.toNat else 0
theorem specGroupOrder_any (n : Int) (vg : Value) (gens : List (List Int)) (fpg : List Nat) (w : World) (hg : Rd w vg gens fpg) :
    Calls Try.prog 18 #[.int .i64 n, vg] w fun e w' => e = .returned (.int .i64 (ordG n gens : Nat)) ∧ ordG n gens ≤ 2432902008176640000 ∧ (gensB n gens = true → 1 ≤ ordG n gens) ∧ Only [] w w' := by
  by_cases h : gensB n gens = true
  · have e1 : ordG n gens = ordC n.toNat gens n.toNat := by unfold ordG; rw [if_pos h]
    rw [e1]
    refine (specGroupOrder_i n vg gens fpg w hg h).mono ?_
    rintro e w' ⟨h1, h2, h3, h4⟩
    exact ⟨h1, h3, fun _ => h2, h4⟩
  · have e1 : ordG n gens = 0 := by unfold ordG; rw [if_neg h]
    rw [e1]
    refine (specGroupOrder_no n vg gens fpg w hg (by simpa using h)).mono ?_
    rintro e w' ⟨h1, h4⟩
    exact ⟨h1, by omega, fun hh => absurd hh h, h4⟩

end Go.Proofs.Ytpcamkmoabhlhaa

namespace Go.Proofs.Ytpcamkmoabhlhaa
open Go.RowKit
set_option maxRecDepth 10000
end Go.Proofs.Ytpcamkmoabhlhaa

namespace Go.Proofs.Ytpcamkmoabhlhaa
open Go.RowKit
set_option maxRecDepth 10000
end Go.Proofs.Ytpcamkmoabhlhaa

namespace Go.Proofs.Ytpcamkmoabhlhaa
open Go.RowKit
set_option maxRecDepth 10000
end Go.Proofs.Ytpcamkmoabhlhaa

namespace Go.Proofs.Ytpcamkmoabhlhaa
open Go.RowKit
set_option maxRecDepth 10000

/-- the identity alone has all cycles of length 1 -/
theorem cyt_ones_id {n : Nat} (_hn : 0 < n) : PM.cyt (PM.pts n) = List.replicate n 1 := by
  have hp := PM.PN.id n
  have hper : ∀ x : Int, 0 ≤ x → x < n → PM.per (PM.pts n) x = 1 := fun x x0 x1 => by
    obtain ⟨q0, q1, q2, q3⟩ := PM.per_ok hp x0 x1
    apply Classical.byContradiction
    intro hne
    refine q3 1 (by omega) (by omega) ?_
    show PM.at_ (PM.pts n) x = x
    exact PM.at_pts x0 x1
  have hmn : ∀ x : Int, 0 ≤ x → x < n → PM.Mn (PM.pts n) x := fun x x0 x1 y hy => by
    unfold PM.cyl at hy
    rw [hper x x0 x1] at hy
    obtain ⟨i, hi, e⟩ := PM.mem_cyT.1 hy
    obtain rfl : i = 0 := by omega
    have : x = y := e
    omega
  have hl : PM.lens (PM.pts n) n = List.replicate n 1 := by
    have hm : PM.mns (PM.pts n) n = PM.pts n := by
      unfold PM.mns
      rw [List.filter_eq_self]
      intro x hx
      obtain ⟨h0, h1⟩ := PM.mem_pts.1 hx
      exact @decide_eq_true _ (Classical.propDecidable _) (hmn x h0 h1)
    unfold PM.lens PM.cycs
    rw [hm, List.map_map, List.eq_replicate_iff]
    refine ⟨by rw [List.length_map, PM.pts_len], fun z hz => ?_⟩
    obtain ⟨x, hx, rfl⟩ := List.mem_map.1 hz
    obtain ⟨h0, h1⟩ := PM.mem_pts.1 hx
    simp only [Function.comp_def, PM.cyl_len, hper x h0 h1]
    rfl
  refine (PM.cyt_eq hp (l := List.replicate n 1) (by rw [hl]) ?_).symm
  rw [List.pairwise_replicate]
  exact Or.inr (Int.le_refl _)
theorem cyt_ones {n : Nat} {p : List Int} (hp : PM.PN n p) (h : PM.cyt p = List.replicate n 1) : p = PM.pts n := by
  have hall : ∀ z ∈ PM.lens p n, z = 1 := fun z hz => by
    have := (PM.cyt_perm hp).mem_iff.2 hz
    rw [h] at this
    exact List.eq_of_mem_replicate this
  have hfix : ∀ x : Int, 0 ≤ x → x < n → PM.at_ p x = x := fun x x0 x1 => by
    obtain ⟨y, hy1, hy2⟩ := PM.min_of hp x0 x1
    have hyr := PM.cyl_rng hp x0 x1 y hy1
    have hmem : (PM.per p y : Int) ∈ PM.lens p n := by
      unfold PM.lens PM.cycs
      rw [List.map_map]
      refine List.mem_map.2 ⟨y, PM.mem_mns.2 ⟨hyr, hy2⟩, ?_⟩
      simp only [Function.comp_def, PM.cyl_len]
    have h1 := hall _ hmem
    have hper : PM.per p y = 1 := by omega
    have hxy := PM.cyl_back hp x0 x1 hy1
    unfold PM.cyl at hxy
    rw [hper] at hxy
    obtain ⟨i, hi, e⟩ := PM.mem_cyT.1 hxy
    obtain rfl : i = 0 := by omega
    have e2 : y = x := e
    subst e2
    have := (PM.per_ok hp x0 x1).2.2.1
    rw [hper] at this
    exact this
  refine PM.ext_at (by rw [hp.1, PM.pts_len]) fun x x0 x1 => ?_
  rw [hp.1] at x1
  rw [hfix x x0 x1, PM.at_pts x0 x1]
theorem lex_ne {n : Nat} {p : List Int} : ¬ PM.Lex n p p := fun ⟨_, _, _, h⟩ => Int.lt_irrefl _ h
theorem cntK_ones {n : Nat} {gens : List (List Int)} {G : PM.Gens} {T : PM.Rows} (h : PM.Chain n gens G T) (hn : 0 < n) (hp : ∀ g ∈ gens, PM.PN n g) : cntK (allMem n gens) (List.replicate n 1) = 1 := by
  have hnd : (allMem n gens).Nodup := by
    have h1 : (allMem n gens).Pairwise (PM.Lex n) := by
      rw [← lv_allMem h hn hp]
      exact PM.lvA_lex h.inv.wf
    unfold List.Nodup
    exact h1.imp fun {a b} hab (e : a = b) => by subst e; exact lex_ne hab
  have hid : PM.pts n ∈ allMem n gens := by
    apply Classical.byContradiction
    intro hno
    have h2 : (PM.pts n :: allMem n gens).Nodup := List.nodup_cons.2 ⟨hno, hnd⟩
    have h3 := h.order_le hn hp h2 (fun q hq => by
      rcases List.mem_cons.1 hq with rfl | hq
      · exact .id
      · exact allMem_grp h hn hp q hq)
    rw [List.length_cons, allMem_len, ordC_eq h hn hp (Nat.le_refl _)] at h3
    omega
  have hf : ((allMem n gens).filter fun m => eqV (PM.cyt m) (List.replicate n 1)) = [PM.pts n] := by
    have hnd2 : ((allMem n gens).filter fun m => eqV (PM.cyt m) (List.replicate n 1)).Nodup := hnd.sublist List.filter_sublist
    have hperm : ((allMem n gens).filter fun m => eqV (PM.cyt m) (List.replicate n 1)).Perm [PM.pts n] := (List.perm_ext_iff_of_nodup hnd2 (by simp)).2 fun m => by
      rw [List.mem_filter, List.mem_singleton, eqV_iff]
      constructor
      · rintro ⟨hm, he⟩
        exact cyt_ones ((allMem_grp h hn hp m hm).pn hp) he
      · rintro rfl
        exact ⟨hid, cyt_ones_id hn⟩
    exact List.perm_singleton.1 hperm
  unfold cntK
  rw [hf]
  rfl
set_option maxHeartbeats 8000000 in
theorem FnTypeCounts_any (w : World) (v : Value) (l : List UInt8) (fc : List Nat) (h : Rd w v l fc) :
    Calls Try.prog 5 #[v] w fun e w' => e = .returned (.bool true) ∧ Only [] w w' := by
  by_cases hb : 4096 < l.length
  · have hd : decide (4096 < l.length) = true := by simp [hb]
    go_enter Try.func5, Try.ntmps5
    go_wp2_with ((go_at_call 13; (with_reducible refine (big_any v l fc _ h).mono ?_); rintro e w1 ⟨he, t1⟩; rw [hd] at he; subst he))
    go_ret
    exact ⟨rfl, (by with_reducible repeat (first | exact Only.refl _ _ | assumption | refine Only.drewN ?_ _ | refine Only.drew ?_ | refine Only.alloc ?_ _ | refine Only.setCell ?_ (by intro hh; exfalso; simp at hh; try omega) _ | refine Only.trans ?_ (by assumption)))⟩
  have hd : decide (4096 < l.length) = false := by simp [hb]
  have hl : l.length ≤ 4096 := by omega
  obtain ⟨i0, hi, hz0, hz1, hz2⟩ := info_parts Try.info2
  go_enter Try.func5, Try.ntmps5
  go_upto_region 4 with (first
    | (go_at_call 13; (with_reducible refine (big_any v l fc _ h).mono ?_); rintro e w1 ⟨he, t1⟩; rw [hd] at he; subst he; have k1 : Only [] w w1 := (by with_reducible repeat (first | exact Only.refl _ _ | assumption | refine Only.drewN ?_ _ | refine Only.drew ?_ | refine Only.alloc ?_ _ | refine Only.setCell ?_ (by intro hh; exfalso; simp at hh; try omega) _ | refine Only.trans ?_ (by assumption))))
    | (go_at_call 24; (with_reducible refine (drawCountT_any v l fc w1 (Rp.keep h k1) hl).mono ?_); rintro e w2 ⟨s0, s1, s2, rfl, n, gs, fp, q, fq, rfl, hn, rM, rQ, l9, l30, lq, t2⟩; obtain ⟨a2, c2, ob2, fps2, rfl, -, -⟩ := id rM.open_; obtain ⟨a3, c3, rfl, -⟩ := id rQ.ints)
    | fail "no arm")
  have kW : Only [] w w2 := k1.trans t2
  clear k1 t1 t2 hb hd l9 l30
  have HcI := Lib.hid (fun (W : World) (hW : Only [] w2 W) => implCountT_any n (.slice a2 gs.length c2) (.slice a3 q.length c3) gs q fp fq W (Rp.keep rM hW) (Rp.keep rQ hW))
  have HcS := Lib.hid (fun (W : World) (hW : Only [] w2 W) => specCountT_any n (.slice a2 gs.length c2) (.slice a3 q.length c3) gs q fp fq W (Rp.keep rM hW) (Rp.keep rQ hW))
  obtain ⟨cn, hcn⟩ : ∃ cn, cn = cntT n gs q := ⟨_, rfl⟩
  rw [← hcn] at HcI HcS
  rcases hgs : gensB n gs
  · have Hgs := Lib.hid hgs
    have hc1 : cn = -1 := by rw [hcn]; unfold cntT; rw [if_neg (by rw [hgs]; simp)]
    rw [hc1] at HcI HcS
    clear hgs hcn hc1
    go_wp2_with (first
      | (go_at_call 10; (with_reducible refine (HcI.out w2 (Only.refl _ _)).mono ?_); rintro e w3 ⟨rfl, t3⟩)
      | (go_at_call 7; (with_reducible refine (HcS.out w3 t3).mono ?_); rintro e w4 ⟨rfl, t4⟩; have k4 := t3.trans t4)
      | (go_at_call 25; (with_reducible refine (specIsGens_rd n _ gs fp w4 (Rp.keep rM k4)).mono ?_); rintro e w5 ⟨he, t5⟩; rw [Hgs.out] at he; subst he; have t5 := t5.only [])
      | fail "no arm")
    go_ret
    exact ⟨rfl, (kW.trans k4).trans t5⟩
  · obtain ⟨⟨n1, n20⟩, hgl, hpn⟩ := gensB_iff.1 hgs
    obtain ⟨m, rfl⟩ := Int.eq_ofNat_of_zero_le (show 0 ≤ n by omega)
    have hpn' : ∀ g ∈ gs, PM.PN m g := by simpa using hpn
    have hm0 : 0 < m := by omega
    have hm20 : m ≤ 20 := by omega
    obtain ⟨G, T, hCh⟩ := rank_chain m _ gs fp w2 rM hgs
    have hone := cntK_ones hCh hm0 hpn'
    have hoG : ordG (m : Int) gs = ordC m gs m := by unfold ordG; rw [if_pos hgs]; rfl
    have hc1 : ordC m gs m ≤ 3000 → cntT (m : Int) gs (List.replicate m 1) = 1 := fun h3 => by
      unfold cntT
      rw [if_pos hgs, if_neg (by simp; omega)]
      simp only [Int.toNat_natCast]
      rw [hone]
      rfl
    have HcP := Lib.hid (fun (W : World) (hW : Only [] w2 W) => specGroupOrder_any (m : Int) (.slice a2 gs.length c2) gs fp W (Rp.keep rM hW))
    rw [hoG] at HcP
    obtain ⟨od, hod⟩ : ∃ od, od = ordC m gs m := ⟨_, rfl⟩
    rw [← hod] at HcP hc1
    have Hgs := Lib.hid hgs
    have Hc1 := Lib.hid hc1
    clear hgs hgl hpn hpn' hCh hone hoG hc1 hod hcn
    go_wp2_with (first
      | (go_at_call 10; (with_reducible refine (HcI.out w2 (Only.refl _ _)).mono ?_); rintro e w3 ⟨rfl, t3⟩)
      | (go_at_call 7; (with_reducible refine (HcS.out w3 t3).mono ?_); rintro e w4 ⟨rfl, t4⟩; have k4 := t3.trans t4)
      | (go_at_call 25; (with_reducible refine (specIsGens_rd (m : Int) _ gs fp w4 (Rp.keep rM k4)).mono ?_); rintro e w5 ⟨he, t5⟩; rw [Hgs.out] at he; subst he; have t5 := t5.only []; have k5 := k4.trans t5)
      | fail "no arm")
    have hz5 := k5.size
    go_loopw [7, 8] (fun o y wr => ∃ j : Nat, j ≤ m ∧ y = .int .i64 j ∧ AccI w2.heap.size 2 wr o (List.replicate j 1) ∧ Only [] w2 wr)
      (fun _ y _ => m - (intOf y).toNat)
    case atStart => exact ⟨0, Nat.zero_le _, rfl, AccI.made w5 w2.heap.size 2 rfl hz5, k5.alloc _⟩
    case round =>
      obtain ⟨W2, hnew⟩ : ∃ W, W = wr := ⟨_, rfl⟩
      subst hnew
      obtain ⟨j, hj, rfl, hA, hO⟩ := hrel
      have hsz := hO.size
      by_cases hlt : j < m
      · have hltI : (j : Int) < (m : Int) := by omega
        have Hone := Lib.hid (show I64 (1 : Int) by unfold I64; omega)
        have Hst := Lib.hid (show List.replicate (j + 1) (1 : Int) = List.replicate j 1 ++ [1] from List.replicate_succ')
        have HA := Lib.hid hA
        have hlen : (List.replicate j (1 : Int)).length + 1 ≤ 1073741824 := by rw [List.length_replicate]; omega
        clear hA
        go_wp2_with (first
          | (at_builtin; refine wpList_pushI rfl _ _ 23 rfl w2.heap.size 2 i0 _ Try.underlying23 hi hz0 hz1 hz2 rfl W2 u7 (List.replicate j 1) rfl HA.out ((Only.refl _ _).alloc _) hsz W2.heap.size 1 1 rfl (lit1 _ _ _ rfl) Hone.out hlen ?_; intro v7 w7 hA7 hO7 hP7 hN7; have k7 := hP7 w2 (hO.alloc _) (Nat.le_refl _))
          | fail "no arm")
        go_roundw
        case rel => exact ⟨j + 1, by omega, by go_num, by rw [Hst.out]; exact hA7, k7⟩
        case measure => simp [intOf]; omega
      · obtain rfl : j = m := by omega
        have hge : ¬ ((j : Int) < (j : Int)) := by omega
        have HcC := Lib.hid (fun (W : World) (hW : Only [] W2 W) => implCountT_any (j : Int) (.slice a2 gs.length c2) u7 gs (List.replicate j 1) fp _ W (Rp.keep rM (hO.trans hW)) (Rp.keep hA.rd hW))
        by_cases h3 : od ≤ 3000
        · rw [Hc1.out h3] at HcC
          have h3I : ¬ (3000 : Int) < (od : Int) := by omega
          clear hA
          go_wp2_with (first
            | (go_at_call 18; (with_reducible refine (HcP.out W2 hO).mono ?_); rintro e w9 ⟨rfl, -, -, t9⟩)
            | (go_at_call 10; (with_reducible refine (HcC.out w9 t9).mono ?_); rintro e wA ⟨rfl, tA⟩)
            | fail "no arm")
          go_ret
          exact ⟨rfl, ((kW.trans hO).trans t9).trans tA⟩
        · have h3I : (3000 : Int) < (od : Int) := by omega
          clear hA
          go_wp2_with (first
            | (go_at_call 18; (with_reducible refine (HcP.out W2 hO).mono ?_); rintro e w9 ⟨rfl, -, -, t9⟩)
            | fail "no arm")
          go_ret
          exact ⟨rfl, (kW.trans hO).trans t9⟩
end Go.Proofs.Ytpcamkmoabhlhaa
