/- The reference's allMembers and Members; the program's members and Members (laws 32, 36, 44). The reference's cycles of a permutation: cycleOf, isSmallest, allCycles, CycleType (laws 32, 44; the notation of cycles). slices.Reverse at []int64, walked; the slice is the call's own. The program's cycles of a permutation: cycles, cycleType, CycleType; the reference's CycleType (laws 32, 44). The program's walk down a chain: how many values are less (laws 34, 35). The reference's MemberAt: the member of a rank (laws 33, 34, ..). The reference's Rank of the member of a rank (laws 34, 35, 53). The program's countBelow and Rank of the member of a rank (laws 34, 35). RandomState, of the reference and of the program (law 33). The program's Rank, IsMember, MemberAt, FirstNonIdentity; random members of no group (laws 34, 35). The program's members, Members, GroupOrder, OrbitSizes, hasAll, SameGroup; the reference's Members, OrbitSizes, PermutationLess (laws 32, 36, 44). -/
import Derived.Test.YtpcamkmoabhlhaaRowTypeCountsG12
import Derived.Test.YtpcamkmoabhlhaaRowTypeCountsG10
import Derived.Test.YtpcamkmoabhlhaaRowTypeCountsG1
import Derived.Deep.RegionHeld3
import Derived.Test.YtpcamkmoabhlhaaRowTypeCountsG9
import Derived.Test.YtpcamkmoabhlhaaRowTypeCountsG3
import Derived.Test.YtpcamkmoabhlhaaRowTypeCountsG4
import Derived.Deep.LoopGhost
import Derived.Lib.Walk
import Derived.Sort.WalkB12
import Derived.Lib.SlicesMore
import Derived.Deep.QuietTactic
import Derived.Test.YtpcamkmoabhlhaaRowTypeCountsG7
namespace PM
theorem lvA_len {T : Rows} {n : Nat} (hw : WF n T) {i : Nat} (h : i < n) : (lvA T n (i + 1)).length = (lvA T n i).length * cntR n T i := by
  show ((lvA T n i).flatMap fun m => (cho n T i m).map (putV T i m)).length = _
  have hp := lvA_pn hw i (by omega)
  generalize lvA T n i = L at hp
  induction L with
  | nil => simp
  | cons m L ih =>
    rw [List.flatMap_cons, List.length_append, List.length_map, cho_len (hp m (by simp)), ih fun x hx => hp x (List.mem_cons_of_mem _ hx), List.length_cons, Nat.succ_mul]
    omega
theorem lvA_mono {T : Rows} {n : Nat} (hw : WF n T) : ∀ d i, i + d = n → (lvA T n i).length ≤ (lvA T n n).length
  | 0, i, h => by rw [show i = n by omega]; exact Nat.le_refl _
  | d + 1, i, h => by
    refine Nat.le_trans ?_ (lvA_mono hw d (i + 1) (by omega))
    rw [lvA_len hw (by omega)]
    have := cntR_pos hw (show i < n by omega)
    exact Nat.le_mul_of_pos_right _ this
theorem lvA_le {T : Rows} {n : Nat} (hw : WF n T) {i : Nat} (h : i ≤ n) : (lvA T n i).length ≤ ordM T n n := by
  have h1 := lvA_mono hw (n - i) i (by omega)
  rw [lvA_all hw, List.length_map, List.length_range] at h1
  exact h1
/-- what stands behind a member at a level -/
def ups (T : Rows) (n i : Nat) (m : List Int) : List (List Int) := (cho n T i m).map (putV T i m)
theorem lvA_succ (T : Rows) (n i : Nat) : lvA T n (i + 1) = (lvA T n i).flatMap (ups T n i) := rfl
theorem fm_take_succ {α β : Type} (f : α → List β) (l : List α) (k : Nat) (h : k < l.length) : (l.take (k + 1)).flatMap f = (l.take k).flatMap f ++ f l[k] := by
  rw [List.take_succ_eq_append_getElem h, List.flatMap_append]; simp
theorem fm_part_le {α β : Type} (f : α → List β) (l : List α) (k : Nat) (h : k < l.length) (j : Nat) : ((l.take k).flatMap f ++ (f l[k]).take j).length ≤ (l.flatMap f).length := by
  have e : l.flatMap f = (l.take (k + 1)).flatMap f ++ (l.drop (k + 1)).flatMap f := by rw [← List.flatMap_append, List.take_append_drop]
  rw [e, fm_take_succ f l k h, List.length_append, List.length_append, List.length_append, List.length_take]
  omega
theorem ups_take_succ (T : Rows) (n i : Nat) (m : List Int) (j : Nat) (h : j < (cho n T i m).length) : (ups T n i m).take (j + 1) = (ups T n i m).take j ++ [putV T i m (cho n T i m)[j]] := by
  unfold ups
  rw [← List.map_take, ← List.map_take, List.take_succ_eq_append_getElem h, List.map_append]; rfl
theorem ups_len (T : Rows) (n i : Nat) (m : List Int) : (ups T n i m).length = (cho n T i m).length := by unfold ups; simp
end PM
namespace Go.Proofs.Ytpcamkmoabhlhaa
open Go.RowKit
set_option maxRecDepth 10000

theorem seq_lit1 {w : World} {v : Value} {x : List Int} {f : List Nat} (e : TypeId) (h : Rd w v x f) : SeqA (w.alloc (.cells #[v] e)) (some ⟨w.heap.size, 0, none⟩) 1 [x] [w.heap.size] [f] := by
  refine ⟨Nat.le_refl _, by unfold maxLen; omega, rfl, fun k hk => ?_, by simp, by simp⟩
  obtain rfl : k = 0 := by simp at hk; omega
  exact ⟨w.heap.size, 0, [v], rfl, rfl, fun j u hu => by simpa [Rp.size] using lit_src w [v] e rfl j u hu, Rp.keep h ((Only.refl _ _).alloc _)⟩
theorem fresh_lit {B : Nat} {w : World} {v : Value} {e : TypeId} {f : List Nat} (h : Fresh B w f) (hB : B ≤ w.heap.size) : Fresh B (w.alloc (.cells #[v] e)) ([w.heap.size] ++ [f].flatten) := by
  have h2 := h.keep ((Only.refl [] w).alloc (.cells #[v] e))
  have hb := heap_alloc_new w (.cells #[v] e)
  refine ⟨?_, ?_, ?_⟩
  · simp only [List.flatten_cons, List.flatten_nil, List.append_nil, List.singleton_append]
    refine List.nodup_cons.2 ⟨fun hm => ?_, h.nd⟩
    have := h.lt _ hm; omega
  · intro b hm
    simp only [List.flatten_cons, List.flatten_nil, List.append_nil, List.singleton_append] at hm
    rcases List.mem_cons.1 hm with rfl | hm
    · exact hB
    · exact h.ge b hm
  · simp only [List.flatten_cons, List.flatten_nil, List.append_nil, List.singleton_append]
    intro b hm
    rcases List.mem_cons.1 hm with rfl | hm
    · exact ⟨_, _, hb⟩
    · exact h2.own b hm
section
variable {α : Type} [Rp α] {w0 W wx : World} {B : Nat} {e : TypeId} {G : List Nat} {v : Value} {l : List α}
/-- nothing is held any more -/
theorem AccK.drop (h : AccK w0 B e G W wx v l) (W' : World) : AccK w0 B e [] W' wx v l := by
  obtain ⟨fs, a, b, c, d, f, g⟩ := h
  exact ⟨fs, a, b, c, by simp, by simp, by simp⟩
theorem AccK.apart (h : AccK w0 B e G W wx v l) : (∀ b ∈ G, b ∉ v.ownBlock.toList) ∧ ∀ b ∈ v.ownBlock.toList, B ≤ b := by
  obtain ⟨fs, a, b, c, d, f, g⟩ := h
  exact ⟨g, fun x hx => (a.ownlt x (by simpa using hx)).1⟩
theorem AccK.begin (W : World) (e : TypeId) : AccK W W.heap.size e [] W (W.alloc (.cells #[] e)) (.slice (some ⟨W.heap.size, 0, none⟩) 0 0) ([] : List α) :=
  ⟨[], Acc.made W W.heap.size _ rfl (Nat.le_refl _), Fresh.nil _ _, (Only.refl _ _).alloc _, by simp, by simp, by simp⟩
end
/-- the members that are listed -/
noncomputable def lsM (n : Nat) (gens : List (List Int)) : List (List Int) := if 3000 < ordC n gens n then [] else allMem n gens
set_option maxHeartbeats 8000000 in
theorem allMembers_any (n : Nat) (vg : Value) (gens : List (List Int)) (fpg : List Nat) (w : World) (hg : Rd w vg gens fpg) (hgs : gensB n gens = true) :
    Calls Try.prog 27 #[.int .i64 n, vg] w fun e w' => ∃ v f, e = .returned v ∧ Rd w' v (lsM n gens) f ∧ Fresh w.heap.size w' f ∧ Only [] w w' := by
  obtain ⟨⟨n1, n20⟩, hgl, hpn⟩ := gensB_iff.1 hgs
  have hpn' : ∀ g ∈ gens, PM.PN n g := by simpa using hpn
  have hn : 0 < n := by omega
  have hn20 : n ≤ 20 := by omega
  have Hpn := Lib.hid hpn'
  clear hpn hpn' hgs
  obtain ⟨i0, hi, hz0, hz1, hz2⟩ := info_parts Try.info22
  obtain ⟨R, hR⟩ : ∃ R, R = lsM n gens := ⟨_, rfl⟩
  rw [← hR]
  have HR := Lib.hid hR
  clear hR
  go_enter Try.func27, Try.ntmps27
  go_wp2_with (first
    | (go_at_call 42; (with_reducible refine (buildChain_any n hn hn20 vg gens fpg w hg Hpn.out (by omega)).mono ?_); rintro en w3 ⟨L, gv, G, T, M, F, rfl, hoG, hoT, hC, hCh, t3⟩; have hoe := ordC_eq hCh hn Hpn.out (Nat.le_refl n); obtain ⟨od, hod⟩ : ∃ od, od = ordC n gens n := ⟨_, rfl⟩; rw [← hod] at hoe; have Hod := Lib.hid hod; have Hoe := Lib.hid hoe; clear hod hoe; have HC := Lib.hid hC; have HCh := Lib.hid hCh; have HoT := Lib.hid hoT; clear hC hCh hoT)
    | (go_at_call 41; (with_reducible refine (chainOrder_any w3 HC.out HCh.out.inv.wf HoT.out).mono ?_); rintro en w4 ⟨he, t4⟩; rw [Hoe.out] at he; subst he)
    | (go_at_call 50; (with_reducible refine (specIdentity_any n w4 (by omega)).mono ?_); rintro en w5 ⟨v5, f5, rfl, r5, F5, t5⟩; obtain ⟨a5, c5, rfl, -⟩ := id r5.ints)
    | fail "no arm")
  · have hlt : 3000 < ordC n gens n := by have := Hod.out; omega
    go_ret
    refine ⟨.slice (some ⟨w4.heap.size, 0, none⟩) 0 0, [], rfl, ?_, Fresh.nil _ _, ((t3.trans t4).alloc _)⟩
    rw [HR.out]
    unfold lsM
    rw [if_pos hlt]
    exact (SeqA.nil (α := List Int) _ _ (by simp [maxLen])).rd
  have hod3 : od ≤ 3000 := by omega
  have hRl : R = PM.lvA T n n := by rw [HR.out, lv_allMem HCh.out hn Hpn.out]; unfold lsM; rw [if_neg (by have := Hod.out; omega)]
  have hlv : ∀ i, i ≤ n → (PM.lvA T n i).length ≤ 3000 := fun i hi => by have := PM.lvA_le HCh.out.inv.wf hi; rw [Hoe.out] at this; omega
  have HRl := Lib.hid hRl
  have Hlv := Lib.hid hlv
  have kk := (t3.trans t4).trans t5
  have hk5 := kk.size
  have hC5 := Lib.hid ((HC.out.keep t4).keep t5)
  have kw5 : Only [] w w5 := kk
  have hF5 : Fresh w.heap.size w5 f5 := F5.mono (by have := (t3.trans t4).size; omega)
  have S5 := seq_lit1 23 r5
  clear hRl hlv t3 t4 t5 kk F5
  go_loopw [6, 7] (fun o i wr => ∃ (j : Nat) (l : List (List Int)) (f : List Nat), j ≤ n ∧ i = .int .i64 j ∧ Hid (l = PM.lvA T n j) ∧ Rd wr o l f ∧ Fresh w.heap.size wr f ∧ Only [] w5 wr)
    (fun _ i _ => n - (intOf i).toNat)
  case atStart => exact ⟨0, [PM.pts n], _, Nat.zero_le _, rfl, Lib.hid rfl, S5.rd, fresh_lit hF5 hk5, (Only.refl _ _).alloc _⟩
  case round =>
    obtain ⟨W2, hnew⟩ : ∃ W, W = wr := ⟨_, rfl⟩
    subst hnew
    obtain ⟨j, l, f, hj, rfl, hl, hr, hF, hO⟩ := hrel
    obtain ⟨A, C, ob, fps, rfl, -, hS⟩ := id hr.open_
    have hb := hS.bound
    have hll : l.length ≤ 3000 := by rw [hl.out]; exact Hlv.out j hj
    by_cases hlt : j < n
    · have hltI : (j : Int) < (n : Int) := by omega
      have hpl : ∀ m ∈ l, PM.PN n m := by rw [hl.out]; exact PM.lvA_pn HCh.out.inv.wf j hj
      have hnx : (l.flatMap (PM.ups T n j)).length ≤ 3000 := by
        have := Hlv.out (j + 1) (by omega)
        rw [PM.lvA_succ, ← hl.out] at this
        exact this
      have hnl : PM.lvA T n (j + 1) = l.flatMap (PM.ups T n j) := by rw [PM.lvA_succ, ← hl.out]
      have HC2 := Lib.hid (hC5.out.keep hO)
      have Hpl := Lib.hid hpl
      have Hnx := Lib.hid hnx
      have Hnl := Lib.hid hnl
      have hw2 : w.heap.size ≤ W2.heap.size := by have := kw5.size; have := hO.size; omega
      have X0 := AccK.begin (α := List Int) W2 23
      clear hpl hnx hnl hr
      go_wp2
      go_loopw [8, 9] (fun o y wr => ∃ (k : Nat), k ≤ l.length ∧ y = .int .i64 k ∧ AccK W2 W2.heap.size 23 [] W2 wr o ((l.take k).flatMap (PM.ups T n j)))
        (fun _ y _ => l.length - (intOf y).toNat)
      case atStart => exact ⟨0, Nat.zero_le _, rfl, X0⟩
      case round =>
        obtain ⟨W4, hnew⟩ : ∃ W, W = wr := ⟨_, rfl⟩
        subst hnew
        obtain ⟨k, hk, rfl, hA⟩ := hrel
        have hO4 := hA.only
        by_cases hlk : k < l.length
        · have hlkI : (k : Int) < (l.length : Int) := by omega
          obtain ⟨b, off, u, rfl, -, hc0, hu0⟩ := hS.atRow k hlk
          have hc := hO4.cell (by simp) hc0
          have hpm := Hpl.out l[k] (List.getElem_mem hlk)
          obtain ⟨mm, hmm⟩ : ∃ mm, mm = l[k] := ⟨_, rfl⟩
          rw [← hmm] at hpm hu0
          obtain ⟨Cc, hCc⟩ : ∃ Cc, Cc = PM.cho n T j mm := ⟨_, rfl⟩
          have hCcl : Cc.length ≤ 20 := by rw [hCc, PM.cho_len hpm]; have := PM.cntR_le n T j; omega
          have HcS := Lib.hid (fun (W : World) (hW : Only [] W2 W) => choicesAt_any W (HC2.out.keep hW) HoT.out j hlt u mm _ (Rp.keep hu0 hW) hpm)
          rw [← hCc] at HcS
          have HCc := Lib.hid hCc
          have Hpm := Lib.hid hpm
          have Hmm := Lib.hid hmm
          have Hu0 := Lib.hid hu0
          have HX := Lib.hid hA
          clear hCc hpm hmm hu0 hA
          go_wp2_with (first
            | (go_at_call 51; (with_reducible refine (HcS.out _ hO4).mono ?_); rintro en w6 ⟨b6, o6, c6, f6, rfl, I6, F6, t6⟩)
            | fail "no arm")
          have X6 := HX.out.hold t6 F6.lt F6.ge
          clear hc
          go_loopw [8, 11] (fun o y wr => ∃ (q : Nat), q ≤ Cc.length ∧ y = .int .i64 q ∧ AccK W2 W2.heap.size 23 ([] ++ f6) w6 wr o ((l.take k).flatMap (PM.ups T n j) ++ (PM.ups T n j mm).take q))
            (fun _ y _ => Cc.length - (intOf y).toNat)
          case atStart => exact ⟨0, Nat.zero_le _, rfl, by rw [List.take_zero, List.append_nil]; exact X6⟩
          case round =>
            obtain ⟨W6, hnew⟩ : ∃ W, W = wr := ⟨_, rfl⟩
            subst hnew
            obtain ⟨q, hq, rfl, hA⟩ := hrel
            have hO6 := hA.only
            by_cases hlq : q < Cc.length
            · have hlqI : (q : Int) < (Cc.length : Int) := by omega
              obtain ⟨b8, o8, e8, hf8, c8⟩ := I6.at_ q hlq
              injection e8 with e8; injection e8 with e81 e82; subst e81; subst e82
              have cc := hA.cell c8 (by rw [hf8]; simp)
              have cl := hO6.cell (by simp) hc0
              have hmem : Cc[q] ∈ PM.cho n T j mm := by have := List.getElem_mem hlq; rw [← HCc.out]; exact this
              have hlen : ((l.take k).flatMap (PM.ups T n j) ++ (PM.ups T n j mm).take q).length + 1 ≤ 1073741824 := by
                have := PM.fm_part_le (PM.ups T n j) l k hlk q
                have h2 := Hnx.out
                rw [← Hmm.out] at this
                omega
              have hst : (PM.ups T n j mm).take (q + 1) = (PM.ups T n j mm).take q ++ [PM.putV T j mm Cc[q]] := by
                have h := PM.ups_take_succ T n j mm q (by rw [← HCc.out]; exact hlq)
                have e : Cc[q] = (PM.cho n T j mm)[q]'(by rw [← HCc.out]; exact hlq) := by simp only [HCc.out]
                rw [h, e]
              have HcW := Lib.hid (fun (W : World) (hW : Only [] W2 W) => withEntry_any W (HC2.out.keep hW) HCh.out.inv.wf HoT.out j hlt u mm _ (Rp.keep Hu0.out hW) Hpm.out Cc[q] hmem)
              have hap := hA.apart
              have nb : b6 ∉ u8.ownBlock.toList := hap.1 b6 (by rw [hf8]; simp)
              have hbl := World.block_lt_of_cell? _ _ hc0
              have ng : b ∉ u8.ownBlock.toList := fun hm => by have := hap.2 b hm; simp at hbl; omega
              have Hth := Lib.hid (fun (W : World) (hW : Only u8.ownBlock.toList W6 W) => hO6.then_ hW (fun x hx hl => by have := hap.2 x hx; omega))
              have Hst := Lib.hid hst
              have HA := Lib.hid hA
              clear hap hbl
              have hz6 := hO6.size
              have hi0 : (0 : Int) ≤ (k : Int) := by omega
              have hi1 : (0 : Int) ≤ (q : Int) := by omega
              obtain ⟨y, hy⟩ : ∃ y, y = Cc[q] := ⟨_, rfl⟩
              rw [← hy] at cc HcW
              have Hy := Lib.hid hy
              clear hmem hst hA c8 hy
              go_upto_region 16 with fail
              go_region_held3 (fun w' => Only u8.ownBlock.toList W6 w' ∧ w'.cell? ⟨b, off + k, none⟩ = some u ∧ w'.cell? ⟨b6, o6 + q, none⟩ = some (.int .i64 y)) ((refine and_of ?_ (fun h__ => ⟨h__.cell ng cl, h__.cell nb cc⟩); first | with_reducible exact (Only.refl _ _).drew | with_reducible exact Only.keepThen (And.left (by assumption)) (by assumption) | with_reducible exact Only.trans (And.left (by assumption)) (by assumption) | with_reducible exact Only.alloc (And.left (by assumption)) _ | assumption)) (first
                | (go_at_call 52; (with_reducible refine (HcW.out _ (Hth.out _ (And.left (by assumption)))).mono ?_); rintro x1 w7 ⟨v7, f7, rfl, r7, F7, y1⟩; obtain ⟨a7, c7, rfl, I7⟩ := id r7.ints)
                | (refine step_pushK (v := u8) rfl _ _ 22 rfl 23 i0 _ 24 Try.underlying22 hi hz0 hz1 hz2 rfl (by decide) (by decide) rfl HA.out (((Only.refl [] W6).drew.trans y1).alloc _) (Nat.le_refl _) hz6 w7.heap.size 1 [_] _ f7 rfl (lit_src w7 [_] _ rfl) (by intro u hu; simp at hu; subst hu; rfl) (Rp.keep r7 ((Only.refl [] w7).alloc _)) (F7.keep ((Only.refl [] w7).alloc _)) hlen ?_; intro v9 w9 hA9 hW9)
                | fail "no arm")
              go_wp2
              go_roundw
              case rel => exact ⟨q + 1, by omega, by go_num, by rw [Hst.out, ← List.append_assoc, ← Hy.out]; exact hA9⟩
              case measure => simp [intOf]; omega
            · obtain rfl : q = Cc.length := by omega
              have hge : ¬ ((Cc.length : Int) < (Cc.length : Int)) := by omega
              have hfin : (l.take (k + 1)).flatMap (PM.ups T n j) = (l.take k).flatMap (PM.ups T n j) ++ (PM.ups T n j mm).take Cc.length := by
                rw [PM.fm_take_succ _ l k hlk, ← Hmm.out, List.take_of_length_le (l := PM.ups T n j mm) (by rw [PM.ups_len, ← HCc.out]; exact Nat.le_refl _)]
              have HA := Lib.hid (hA.drop W2)
              rw [← hfin] at HA
              clear hA hfin
              go_wp2
              go_roundw
              case rel => exact ⟨k + 1, by omega, by go_num, HA.out⟩
              case measure => simp [intOf]; omega
        · obtain rfl : k = l.length := by omega
          have hge : ¬ ((l.length : Int) < (l.length : Int)) := by omega
          obtain ⟨f9, r9, F9⟩ := hA.rd (by decide)
          rw [List.take_length] at r9
          have Hr9 := Lib.hid r9
          clear r9 hA
          go_wp2
          go_roundw
          case rel => exact ⟨j + 1, _, f9, by omega, by go_num, Lib.hid Hnl.out.symm, Hr9.out, F9.mono hw2, hO.trans hO4⟩
          case measure => simp [intOf]; omega
    · obtain rfl : j = n := by omega
      have hge : ¬ ((j : Int) < (j : Int)) := by omega
      have hRR : R = l := by rw [HRl.out, hl.out]
      have HRR := Lib.hid hRR
      clear hRR hl
      go_wp2
      go_ret
      exact ⟨_, rfl, f, by rw [HRR.out]; exact hr, hF, kw5.trans hO⟩
end Go.Proofs.Ytpcamkmoabhlhaa

namespace Go.Proofs.Ytpcamkmoabhlhaa
open Go.RowKit
set_option maxRecDepth 10000
set_option maxHeartbeats 4000000 in
theorem cycleOf_any (n : Nat) (v : Value) (p : List Int) (fp : List Nat) (x : Int) (w : World) (h : Rd w v p fp) (hp : PM.PN n p) (x0 : 0 ≤ x) (x1 : x < n) (hn : n ≤ 1000) :
    Calls Try.prog 77 #[v, .int .i64 x] w fun e w' => ∃ v', e = .returned v' ∧ AccI w.heap.size 2 w' v' (PM.cyl p x) ∧ Only [] w w' := by
  obtain ⟨A, C, rfl, I⟩ := h.ints
  obtain ⟨i0, hi, hz0, hz1, hz2⟩ := info_parts Try.info2
  have hpl := hp.1
  obtain ⟨q0, q1, q2, q3⟩ := PM.per_ok hp x0 x1
  obtain ⟨m, hm⟩ : ∃ m, m = PM.per p x := ⟨_, rfl⟩
  have hcy : PM.cyl p x = PM.cyT p x m := by rw [hm]; rfl
  rw [← hm] at q0 q1 q2 q3
  obtain ⟨b, off, rfl, -, c0⟩ := I.at_pm x0 (by rw [hpl]; omega)
  have hat : PM.at_ p x = PM.it p 1 x := rfl
  rw [hat] at c0
  have x1l : x < (p.length : Int) := by rw [hpl]; exact x1
  have hxI : I64 x := by unfold I64; omega
  have Hcy := Lib.hid hcy
  have Hpl := Lib.hid hpl
  have Hq2 := Lib.hid q2
  have Hq3 := Lib.hid q3
  have Hp := Lib.hid hp
  have HI := Lib.hid hxI
  have A0 := AccI.one hxI w w.heap.size 2 rfl (Nat.le_refl _)
  have c0' := ((Only.refl [] w).alloc (.cells #[.int .i64 x] 2)).cell (by simp) c0
  clear hcy hpl q2 q3 hp hxI hm hat
  go_enter Try.func77, Try.ntmps77
  go_wp2
  go_loopw [5, 6] (fun o y wr => ∃ k : Nat, 1 ≤ k ∧ k ≤ m ∧ y = .int .i64 (PM.it p k x) ∧ AccI w.heap.size 2 wr o (PM.cyT p x k) ∧ Only [] w wr)
    (fun o _ _ => m - lenV o)
  case atStart => exact ⟨1, Nat.le_refl _, q0, rfl, A0, (Only.refl _ _).alloc _⟩
  case round =>
    obtain ⟨W2, hnew⟩ : ∃ W, W = wr := ⟨_, rfl⟩
    subst hnew
    obtain ⟨k, k1, hk, rfl, hA, hO⟩ := hrel
    obtain ⟨a5, c5, hf5⟩ := hA.form
    have hl5 : lenV u5 = k := by rw [hf5, PM.cyT_len]; rfl
    have Hl5 := Lib.hid hl5
    clear hf5 hl5
    by_cases hlt : k < m
    · obtain ⟨y, hy⟩ : ∃ y, y = PM.it p k x := ⟨_, rfl⟩
      have hyr := PM.it_rng Hp.out x0 x1 k
      rw [← hy] at hyr ⊢
      have hne : ¬ (y = x) := by rw [hy]; exact Hq3.out k (by omega) hlt
      obtain ⟨b2, off2, e2, -, c1⟩ := I.at_pm (x := y) hyr.1 (by rw [Hpl.out]; omega)
      injection e2 with e2; injection e2 with e21 e22; subst e21; subst e22
      have hnx : PM.at_ p y = PM.it p (k + 1) x := by rw [hy]; rfl
      rw [hnx] at c1
      have hst : PM.cyT p x (k + 1) = PM.cyT p x k ++ [y] := by rw [PM.cyT_succ, hy]
      have hyI : I64 y := by unfold I64; omega
      have y0 : 0 ≤ y := hyr.1
      have y1 : y < (p.length : Int) := by rw [Hpl.out]; exact hyr.2
      have hlen : (PM.cyT p x k).length + 1 ≤ 1073741824 := by rw [PM.cyT_len]; omega
      have hsz := hO.size
      have Hst := Lib.hid hst
      have HyI := Lib.hid hyI
      have HA := Lib.hid hA
      clear hy hyr hnx hst hyI hA
      go_wp2_with (first
        | (at_builtin; refine wpList_pushI rfl _ _ 23 rfl w.heap.size 2 i0 _ Try.underlying23 hi hz0 hz1 hz2 rfl W2 u5 (PM.cyT p x k) rfl HA.out ((Only.refl _ _).alloc _) hsz W2.heap.size 1 y rfl (lit1 W2 _ _ rfl) HyI.out hlen ?_; intro v3 w3 hA3 hO3 hP3 hN3; have k3 := hP3 w (hO.alloc _) (Nat.le_refl _); have c3 := k3.cell (by simp) c1; clear hO3 hP3 hN3)
        | fail "no arm")
      obtain ⟨a3, c3', hf3⟩ := hA3.form
      have hl3 : lenV v3 = k + 1 := by rw [hf3]; show (PM.cyT p x k ++ [y]).length = k + 1; rw [List.length_append, PM.cyT_len]; rfl
      clear hf3
      go_roundw
      case rel => exact ⟨k + 1, by omega, by omega, rfl, by rw [Hst.out]; exact hA3, k3⟩
      case measure => have := Hl5.out; omega
    · obtain rfl : k = m := by omega
      have he : PM.it p k x = x := Hq2.out
      rw [he]
      clear he
      go_wp2
      go_ret
      exact ⟨u5, rfl, by rw [Hcy.out]; exact hA, hO⟩
/-- the first number of a list is its least -/
def smB (l : List Int) : Bool := decide (∀ y ∈ l, l.getD 0 0 ≤ y)
set_option maxHeartbeats 2000000 in
theorem isSmallest_any (a : Option Addr) (c : Nat) (l : List Int) (f : List Nat) (w : World) (h : IntsA w a c l f) (hl : 0 < l.length) :
    Calls Try.prog 78 #[.slice a l.length c] w fun e w' => e = .returned (.bool (smB l)) ∧ Only [] w w' := by
  have hb := h.bound
  obtain ⟨z, hz⟩ : ∃ z, z = l.getD 0 0 := ⟨_, rfl⟩
  obtain ⟨b, off, rfl, -, c0⟩ := h.at_ 0 hl
  have hz0 : l[0] = z := by rw [hz, List.getD_eq_getElem?_getD, List.getElem?_eq_getElem hl]; rfl
  rw [hz0, Nat.add_zero] at c0
  have hsm : smB l = decide (∀ y ∈ l, z ≤ y) := by rw [hz]; rfl
  rw [hsm]
  have Hz0 := Lib.hid hz0
  clear hz hz0 hsm
  go_enter Try.func78, Try.ntmps78
  go_wp2
  go_loopw [3] (fun y wr => ∃ j : Nat, 1 ≤ j ∧ j ≤ l.length ∧ y = .int .i64 j ∧ Hid (∀ q ∈ l.take j, z ≤ q) ∧ Only [] w wr)
    (fun y _ => l.length - (intOf y).toNat)
  case atStart => exact ⟨1, Nat.le_refl _, hl, rfl, Lib.hid (fun q hq => by
    have h1 : l.take 1 = [l[0]] := by rw [List.take_succ_eq_append_getElem hl]; rfl
    rw [h1, Hz0.out] at hq
    rw [List.mem_singleton.1 hq]; exact Int.le_refl _), Only.refl _ _⟩
  case round =>
    obtain ⟨W2, hnew⟩ : ∃ W, W = wr := ⟨_, rfl⟩
    subst hnew
    obtain ⟨j, j1, hj, rfl, hq, hO⟩ := hrel
    by_cases hlt : j < l.length
    · have hltI : (j : Int) < (l.length : Int) := by omega
      obtain ⟨b2, off2, e2, -, c1⟩ := h.at_ j hlt
      injection e2 with e2; injection e2 with e21 e22; subst e21; subst e22
      obtain ⟨y, hy⟩ : ∃ y, y = l[j] := ⟨_, rfl⟩
      rw [← hy] at c1
      have d0 := hO.cell (by simp) c0
      have d1 := hO.cell (by simp) c1
      have hl0 : (0 : Int) < (l.length : Int) := by omega
      have hj0 : (0 : Int) ≤ (j : Int) := by omega
      have Hy := Lib.hid hy
      clear hy
      go_wp2
      go_quiet (fail)
      go_wp2
      · rename_i hylt
        go_ret
        refine ⟨ret_bool ?_, hO.drewN _⟩
        refine (decide_eq_false fun hall => ?_).symm
        have := hall l[j] (List.getElem_mem hlt)
        rw [← Hy.out] at this
        omega
      · rename_i hyge
        go_roundw
        case rel => exact ⟨j + 1, by omega, by omega, by go_num, Lib.hid (fun q hq2 => by
          rw [take_succ_get l j hlt] at hq2
          rcases List.mem_append.1 hq2 with hq2 | hq2
          · exact hq.out q hq2
          · rw [List.mem_singleton.1 hq2, ← Hy.out]; omega), hO.drewN _⟩
        case measure => simp [intOf]; omega
    · have hge : ¬ ((j : Int) < (l.length : Int)) := by omega
      go_wp2
      go_ret
      refine ⟨ret_bool ?_, hO⟩
      have := hq.out
      rw [List.take_of_length_le (by omega)] at this
      exact (decide_eq_true this).symm
theorem smB_cyl {n : Nat} {p : List Int} (hp : PM.PN n p) {x : Int} (x0 : 0 ≤ x) (x1 : x < n) : smB (PM.cyl p x) = true ↔ PM.Mn p x := by
  have h0 := (PM.per_ok hp x0 x1).1
  have h1 : (PM.cyl p x).getD 0 0 = x := by
    unfold PM.cyl PM.cyT
    rw [List.getD_eq_getElem?_getD, List.getElem?_map, List.getElem?_range h0]
    rfl
  unfold smB
  rw [decide_eq_true_iff, h1]
  rfl
set_option maxHeartbeats 4000000 in
theorem allCycles_any (n : Nat) (v : Value) (p : List Int) (fp : List Nat) (w : World) (h : Rd w v p fp) (hp : PM.PN n p) (hn : n ≤ 1000) :
    Calls Try.prog 53 #[v] w fun e w' => ∃ v' f, e = .returned v' ∧ Rd w' v' (PM.cycs p n) f ∧ Fresh w.heap.size w' f ∧ Only [] w w' := by
  obtain ⟨A, C, rfl, I⟩ := id h.ints
  obtain ⟨i0, hi, hz0, hz1, hz2⟩ := info_parts Try.info22
  have hpl := hp.1
  have hb := I.bound
  have Hp := Lib.hid hp
  have Hpl := Lib.hid hpl
  clear hp hpl
  go_enter Try.func53, Try.ntmps53
  go_wp2
  go_loopw [3, 4] (fun o y wr => ∃ (k : Nat) (fs : List (List Nat)), k ≤ n ∧ y = .int .i64 k ∧ Acc w.heap.size 23 wr o (PM.cycs p k) fs ∧ Fresh w.heap.size wr fs.flatten ∧ Only [] w wr)
    (fun _ y _ => n - (intOf y).toNat)
  case atStart => exact ⟨0, [], Nat.zero_le _, rfl, Acc.made w w.heap.size _ rfl (Nat.le_refl _), Fresh.nil _ _, (Only.refl _ _).alloc _⟩
  case round =>
    obtain ⟨W2, hnew⟩ : ∃ W, W = wr := ⟨_, rfl⟩
    subst hnew
    obtain ⟨k, fs, hk, rfl, hA, hF, hO⟩ := hrel
    have hsz := hO.size
    by_cases hlt : k < n
    · have hltI : (k : Int) < (p.length : Int) := by rw [Hpl.out]; omega
      have hcl := PM.cycs_count p k
      have hlen : (PM.cycs p k).length + 1 ≤ 1073741824 := by omega
      obtain ⟨cy, hcy⟩ : ∃ cy, cy = PM.cyl p (k : Int) := ⟨_, rfl⟩
      have HcC := Lib.hid (cycleOf_any n (.slice A p.length C) p fp (k : Int) W2 (Rp.keep h hO) Hp.out (by omega) (by omega) hn)
      have hsm := smB_cyl Hp.out (x := (k : Int)) (by omega) (by omega)
      have hcl0 : 0 < cy.length := by rw [hcy, PM.cyl_len]; exact (PM.per_ok Hp.out (x := (k : Int)) (by omega) (by omega)).1
      rw [← hcy] at HcC hsm
      have HA := Lib.hid hA
      have Hcy := Lib.hid hcy
      clear hcy hA hcl
      by_cases hmn : PM.Mn p (k : Int)
      · have Hsb := Lib.hid (hsm.2 hmn)
        have Hst := Lib.hid (PM.cycs_yes hmn)
        clear hsm hmn
        go_wp2_with (first
          | (go_at_call 77; (with_reducible refine (HcC.out).mono ?_); rintro en w3 ⟨v3, rfl, A3, t3⟩; obtain ⟨a3, c3, rfl, I3⟩ := id A3.rd.ints)
          | (go_at_call 78; (with_reducible refine (isSmallest_any a3 c3 cy _ w3 I3 hcl0).mono ?_); rintro en w4 ⟨he, t4⟩; rw [Hsb.out] at he; subst he)
          | (at_builtin; refine wpList_pushF rfl _ _ 22 rfl w.heap.size 23 i0 _ 24 Try.underlying22 hi hz0 hz1 hz2 rfl (by decide) (by decide) W2 u3 (PM.cycs p k) fs rfl HA.out hF ((t3.trans t4).alloc _) hsz w4.heap.size 1 [.slice a3 cy.length c3] cy _ rfl (lit_src w4 [.slice a3 cy.length c3] _ rfl) (by intro u hu; simp at hu; subst hu; rfl) (Rp.keep A3.rd (t4.alloc _)) (A3.fresh.keep (t4.alloc _)) hlen w (((hO.trans t3).trans t4).alloc _) (Nat.le_refl _) ?_; intro v5 w5 hA5 hF5 hK5 _)
          | fail "no arm")
        go_roundw
        case rel => exact ⟨k + 1, _, by omega, by go_num, by rw [Hst.out, ← Hcy.out]; exact hA5, hF5, hK5⟩
        case measure => simp [intOf]; omega
      · have Hsb : Hid (smB cy = false) := Lib.hid (by rw [Bool.eq_false_iff]; exact fun h => hmn (hsm.1 h))
        have Hst := Lib.hid (PM.cycs_no hmn)
        clear hsm hmn
        go_wp2_with (first
          | (go_at_call 77; (with_reducible refine (HcC.out).mono ?_); rintro en w3 ⟨v3, rfl, A3, t3⟩; obtain ⟨a3, c3, rfl, I3⟩ := id A3.rd.ints)
          | (go_at_call 78; (with_reducible refine (isSmallest_any a3 c3 cy _ w3 I3 hcl0).mono ?_); rintro en w4 ⟨he, t4⟩; rw [Hsb.out] at he; subst he)
          | fail "no arm")
        go_roundw
        case rel => exact ⟨k + 1, fs, by omega, by go_num, by rw [Hst.out]; exact (HA.out.keep t3).keep t4, (hF.keep t3).keep t4, (hO.trans t3).trans t4⟩
        case measure => simp [intOf]; omega
    · obtain rfl : k = n := by omega
      have hge : ¬ ((k : Int) < (p.length : Int)) := by rw [Hpl.out]; omega
      have HA := Lib.hid hA
      clear hA
      go_wp2
      go_ret
      exact ⟨_, rfl, _, HA.out.rd (by decide), HA.out.fresh hF, hO⟩
end Go.Proofs.Ytpcamkmoabhlhaa

namespace Go.Proofs.Ytpcamkmoabhlhaa
open Go.RowKit Go.Shelf Go.Sort Go.Proofs Go.Lib
set_option maxRecDepth 10000

set_option maxHeartbeats 4000000 in
theorem reverse_raw (blk off cap : Nat) (d : Array Int) (w : World) (hH : Holds encI w blk off d) (hsz : d.size ≤ 9223372036854775807) :
    Calls Try.prog 87 #[.slice (some ⟨blk, off, none⟩) d.size cap] w fun e w' => e = .returned (.tuple #[]) ∧ ∃ n, w' = putRow encI (Sort.ahead w n) blk off d.reverse := by
  go_enter Try.func87, Try.ntmps87
  go_wp2
  go_loopg [2, 3] d.size (fun k s2 s3 wr => ∃ (i jn : Nat) (jz : Int) (dk : Array Int) (n : Nat), s2 = .int .i64 i ∧ s3 = .int .i64 jz ∧ ((i : Int) < jz → jz = jn ∧ jn < d.size) ∧ (¬ (i : Int) < jz → ¬ i < jn) ∧ jn - i ≤ k ∧
    dk.size = d.size ∧ wr = putRow encI (Sort.ahead w n) blk off dk ∧ reverseLoop i jn dk = reverseLoop 0 (d.size - 1) d)
  case atStart => exact ⟨0, d.size - 1, (d.size : Int) - 1, d, 0, rfl, rfl, fun h => ⟨by omega, by omega⟩, fun h => by omega, by omega, rfl, (putRow_self encI w blk off d hH).symm, rfl⟩
  case round =>
    obtain ⟨i, jn, jz, dk, n, rfl, rfl, h1, h2, hk, hds, hwr, heq⟩ := hrel
    by_cases hlt : (i : Int) < jz
    · obtain ⟨rfl, hjn⟩ := h1 hlt
      have hij : i < jn := by omega
      have hHk : Holds encI wr blk off dk := by rw [hwr]; exact holds_putRow encI _ blk off d dk (holds_ahead encI w n blk off d hH) hds
      obtain ⟨ci, fi⟩ := hHk i (by omega)
      obtain ⟨cj, fj⟩ := hHk jn (by omega)
      have A : Aside (wr = putRow encI (Sort.ahead w n) blk off dk) := hwr
      clear hwr hHk hH h1 h2
      go_wp2_with fail
      go_region
      all_goals go_wp2
      all_goals go_roundg (jn - 1 - (i + 1))
      case measure => omega
      case rel =>
        rw [reverseLoop, if_pos hij] at heq
        exact ⟨i + 1, jn - 1, (jn : Int) - 1, swp dk i jn, n + 1, by simp, rfl, fun h => ⟨by omega, by omega⟩, fun h => by omega, Nat.le_refl _, by rw [size_swp]; exact hds,
          swap_world encI (by omega) (by omega) A.out (by first | rfl | simp [encI, getElem!_pos, show jn < dk.size by omega]) (by first | rfl | simp [encI, getElem!_pos, show i < dk.size by omega]), heq⟩
    · have hnot := h2 hlt
      go_wp2
      go_end0
      refine ⟨rfl, n, ?_⟩
      rw [reverseLoop, if_neg hnot] at heq
      rw [← Lib.reverseLoop_reverse, ← heq]
theorem reverse_accI {B : Nat} (w : World) (v : Value) (l : List Int) (h : AccI B 2 w v l) (hl : l ≠ []) (hsz : l.length ≤ 1000) :
    Calls Try.prog 87 #[v] w fun e w' => e = .returned (.tuple #[]) ∧ AccI B 2 w' v l.reverse ∧ Only v.ownBlock.toList w w' := by
  obtain ⟨ho, hI⟩ := h.row
  rcases ho.2 with ⟨-, h0⟩ | ⟨g, cap, cur, rfl, hb, hg, h1, h2, h3, h4⟩
  · exact absurd (List.length_eq_zero_iff.1 h0) hl
  · rw [Nat.mul_one] at h4
    have hc := reverse_raw g 0 cap l.toArray w (holds_of_blockI hg h4) (by simp; omega)
    simp only [List.size_toArray] at hc
    refine hc.mono ?_
    rintro e w' ⟨he, n, rfl⟩
    have hlen : l.reverse.length = l.length := List.length_reverse
    have hgr : ∀ X : World, Sort.grow X #[] = X := fun X => by simp [Sort.grow]
    have hr := ownsRow_sortedI (n := n) (os := #[]) (ts := l.reverse) (ss := l) hlen hb hg h1 h2 h3
    simp only [List.reverse_toArray]
    rw [← hgr (putRow encI (Sort.ahead w n) g 0 l.reverse.toArray)]
    refine ⟨he, AccI.ofRow ?_ (fun x hx => hI x (List.mem_reverse.1 hx)), ?_⟩
    · rw [hlen]; exact hr
    · exact (Only.refl _ _).grown (grownBy_sortedI _) (by intro j hj _; injection hj with hj; subst hj; simp [Value.ownBlock])
end Go.Proofs.Ytpcamkmoabhlhaa

namespace Go.Proofs.Ytpcamkmoabhlhaa
open Go.RowKit
set_option maxRecDepth 10000

theorem madeBools (n : Nat) : (madeCells (Value.cells (.bool false)) n).toList = List.replicate n (.bool false) := by
  apply List.ext_getElem (by simp [madeCells])
  intro i h1 h2
  simp [madeCells, Value.cells, Nat.mod_one]
/-- whether something holds -/
noncomputable def dB (P : Prop) : Bool := @decide P (Classical.propDecidable P)
theorem dB_yes {P : Prop} (h : P) : dB P = true := @decide_eq_true P (Classical.propDecidable P) h
theorem dB_no {P : Prop} (h : ¬ P) : dB P = false := @decide_eq_false P (Classical.propDecidable P) h
theorem dB_congr {P Q : Prop} (h : P ↔ Q) : dB P = dB Q := by rw [propext h]
/-- what a row of marks holds: which numbers below n are seen -/
noncomputable def mkB (n : Nat) (S : Int → Prop) : List Value := (PM.pts n).map fun y => Value.bool (dB (S y))
theorem mkB_len (n : Nat) (S : Int → Prop) : (mkB n S).length = n := by simp [mkB, PM.pts_len]
theorem mkB_get {n : Nat} {S : Int → Prop} {k : Nat} (h : k < n) : (mkB n S)[k]? = some (.bool (dB (S (k : Int)))) := by
  have h2 : k < (PM.pts n).length := by rw [PM.pts_len]; exact h
  unfold mkB
  rw [List.getElem?_map, List.getElem?_eq_getElem h2, PM.pts_get]
  rfl
theorem mkB_congr {n : Nat} {S S' : Int → Prop} (h : ∀ y : Int, 0 ≤ y → y < n → (S y ↔ S' y)) : mkB n S = mkB n S' := by
  unfold mkB
  apply List.map_congr_left
  intro y hy
  obtain ⟨h0, h1⟩ := PM.mem_pts.1 hy
  rw [dB_congr (h y h0 h1)]
theorem mkB_set {n : Nat} {S : Int → Prop} {x : Int} (h0 : 0 ≤ x) (_h1 : x < n) : (mkB n S).set x.toNat (.bool true) = mkB n (fun y => S y ∨ y = x) := by
  apply List.ext_getElem?
  intro k
  by_cases hk : k < n
  · rw [mkB_get hk, List.getElem?_set]
    by_cases e : x.toNat = k
    · rw [if_pos e, if_pos (by rw [mkB_len]; omega), dB_yes (Or.inr (by omega))]
    · rw [if_neg e, mkB_get hk, dB_congr (P := S (k : Int)) (Q := S (k : Int) ∨ (k : Int) = x) ⟨Or.inl, fun h => h.elim id (fun h => by omega)⟩]
  · rw [List.getElem?_eq_none (by simp [mkB_len]; omega), List.getElem?_eq_none (by rw [mkB_len]; omega)]
theorem mkB_none (n : Nat) : mkB n (fun _ => False) = List.replicate n (.bool false) := by
  apply List.ext_getElem?
  intro k
  by_cases hk : k < n
  · rw [mkB_get hk, List.getElem?_replicate, if_pos hk, dB_no id]
  · rw [List.getElem?_eq_none (by rw [mkB_len]; omega), List.getElem?_eq_none (by simp; omega)]
/-- the longer cycles that begin below k -/
noncomputable def lcy (p : List Int) (k : Nat) : List (List Int) := (PM.cycs p k).filter fun c => decide (1 < c.length)
theorem lcy_yes {p : List Int} {k : Nat} (h : PM.Mn p k) (hl : 1 < PM.per p k) : lcy p (k + 1) = lcy p k ++ [PM.cyl p k] := by
  unfold lcy; rw [PM.cycs_yes h, List.filter_append]; simp [PM.cyl_len, hl]
theorem lcy_one {p : List Int} {k : Nat} (h : PM.Mn p k) (hl : ¬ 1 < PM.per p k) : lcy p (k + 1) = lcy p k := by
  unfold lcy; rw [PM.cycs_yes h, List.filter_append]; simp [PM.cyl_len, hl]
theorem lcy_no {p : List Int} {k : Nat} (h : ¬ PM.Mn p k) : lcy p (k + 1) = lcy p k := by unfold lcy; rw [PM.cycs_no h]
theorem lcy_len (p : List Int) (k : Nat) : (lcy p k).length ≤ k := Nat.le_trans (List.length_filter_le ..) (PM.cycs_count p k)
theorem lcy_lng (p : List Int) (k : Nat) : ((lcy p k).map fun c => (c.length : Int)) = PM.lng p k := by
  unfold lcy PM.lng PM.lens
  rw [List.filter_map]
  congr 1
  apply List.filter_congr
  intro c _
  simp only [Function.comp_def]
  exact decide_eq_decide.2 (by omega)
theorem row_only {w w' : World} {B : Nat} {e : TypeId} {size n : Nat} {v : Value} {xs : List Value} {fp : List Nat} (h : w.ownsRow B e size v n xs) (ho : Only fp w w') (hv : ∀ g, v.ownBlock = some g → g ∉ fp) : w'.ownsRow B e size v n xs := by
  refine ⟨h.1, ?_⟩
  rcases h.2 with ⟨rfl, h0⟩ | ⟨g, cp, cur, rfl, hb, hg, hrest⟩
  · exact .inl ⟨rfl, h0⟩
  · exact .inr ⟨g, cp, cur, rfl, hb, by rw [ho.block g (Array.getElem?_eq_some_iff.1 hg).1 (hv g rfl)]; exact hg, hrest⟩
theorem fresh_snoc {B : Nat} {w w' : World} {fs : List (List Nat)} {fp own : List Nat} (h : Fresh B w fs.flatten) (h2 : Fresh B w fp) (hd : ∀ b ∈ fs.flatten, b ∉ fp) (ho : Only own w w') (h3 : ∀ b ∈ fs.flatten, b ∉ own) (h4 : ∀ b ∈ fp, b ∉ own) : Fresh B w' (fs ++ [fp]).flatten := by
  rw [List.flatten_append]
  simp only [List.flatten_cons, List.flatten_nil, List.append_nil]
  have h5 : Fresh B w (fs.flatten ++ fp) := ⟨List.nodup_append.2 ⟨h.nd, h2.nd, fun a ha b hb e => hd a ha (e ▸ hb)⟩, fun b hb => by
    rcases List.mem_append.1 hb with hb | hb
    · exact h.ge b hb
    · exact h2.ge b hb, h.own.append h2.own⟩
  exact h5.only ho fun b hb => by
    rcases List.mem_append.1 hb with hb | hb
    · exact h3 b hb
    · exact h4 b hb
/-- what a round of the program's cycles does: the cycle of k, where k is the smallest of it -/
theorem cyc_round {n : Nat} {p : List Int} (hp : PM.PN n p) {k : Nat} (hk : k < n) : ∃ Q, Q ≤ n ∧ (∀ q, q < Q → ¬ (PM.Seen p k (PM.it p q k) ∨ PM.it p q k ∈ PM.cyT p k q)) ∧ (PM.Seen p k (PM.it p Q k) ∨ PM.it p Q k ∈ PM.cyT p k Q) ∧
    (∀ y : Int, 0 ≤ y → y < n → (PM.Seen p (k + 1) y ↔ PM.Seen p k y ∨ y ∈ PM.cyT p k Q)) ∧ (1 < Q → lcy p (k + 1) = lcy p k ++ [PM.cyT p k Q]) ∧ (¬ 1 < Q → lcy p (k + 1) = lcy p k) := by
  have x0 : (0 : Int) ≤ (k : Int) := by omega
  have x1 : (k : Int) < (n : Int) := by omega
  obtain ⟨q0, q1, q2, q3⟩ := PM.per_ok hp x0 x1
  by_cases hm : PM.Mn p k
  · refine ⟨PM.per p k, q1, fun q hq => ?_, Or.inr ?_, fun y _ _ => PM.seen_succ hm, fun h => lcy_yes hm h, fun h => lcy_one hm h⟩
    · rintro (h | h)
      · exact PM.seen_apart hp hk hm ((PM.mem_cyl hp x0 x1).2 ⟨q, rfl⟩) h
      · obtain ⟨i, hi, e⟩ := PM.mem_cyT.1 h
        exact q3 (q - i) (by omega) (by omega) (PM.it_ret hp x0 x1 hi e)
    · rw [q2]
      exact PM.mem_cyT.2 ⟨0, q0, rfl⟩
  · refine ⟨0, Nat.zero_le _, fun q hq => by omega, Or.inl ((PM.seen_iff hp hk).2 hm), fun y _ _ => ?_, fun h => by omega, fun _ => lcy_no hm⟩
    rw [PM.seen_skip hm]
    simp [PM.cyT]
theorem hown_size {w w1 : World} {e : TypeId} {n : Nat} {xs : List Value} (h : w1.ownsRow w.heap.size e 1 (.slice (some ⟨w.heap.size, 0, none⟩) n n) n xs) : w.heap.size + 1 ≤ w1.heap.size := by
  have := (h.lt w.heap.size rfl).2
  omega
theorem Try.infoB : (Try.prog.info? 4).map (fun i => (i.zero, i.size, i.bytes)) = some (some (.bool false), 1, 1) := by kernel_rfl
set_option maxHeartbeats 8000000 in
theorem implCycles_any (n : Nat) (v : Value) (p : List Int) (fp : List Nat) (w : World) (h : Rd w v p fp) (hp : PM.PN n p) (hn : n ≤ 1000) (hn0 : 0 < n) :
    Calls Try.prog 85 #[v] w fun e w' => ∃ v' f, e = .returned v' ∧ Rd w' v' (lcy p n) f ∧ Fresh w.heap.size w' f ∧ Only [] w w' := by
  obtain ⟨A, C, rfl, I⟩ := id h.ints
  obtain ⟨i0, hi, hz0, hz1, hz2⟩ := info_parts Try.info22
  obtain ⟨i1, gi, gz0, gz1, gz2⟩ := info_parts Try.info2
  obtain ⟨ib, bi, bz0, bz1, bz2⟩ := info_parts Try.infoB
  have hpl := hp.1
  have Hp := Lib.hid hp
  have Hpl := Lib.hid hpl
  have hpn : p.length ≤ 1000 := by omega
  clear hp hpl
  go_enter Try.func85, Try.ntmps85
  go_wp2_with (at_make; refine wpList_make_full _ rfl _ _ 103 rfl w.heap.size 4 ib _ 1 Try.underlying103 bi bz0 bz1 _ _ _ _ p.length rfl rfl rfl rfl (by rw [bz2]; omega) (by unfold maxLen; omega) (Nat.le_refl _) ?_; intro w1 hown hg)
  rw [madeBools, Nat.mul_one, ← mkB_none] at hown
  have hs1 := hg.size
  have h1s := hown_size hown
  have R0 : w1.ownsRow w.heap.size 4 1 (.slice (some ⟨w.heap.size, 0, none⟩) p.length p.length) p.length (mkB p.length (PM.Seen p 0)) := by
    rw [mkB_congr (S' := PM.Seen p 0) (fun y _ _ => ⟨False.elim, fun ⟨x, hx, _⟩ => by simp [PM.mns, PM.pts] at hx⟩)] at hown
    exact hown
  have k01 : Only [] w w1 := (Only.refl _ _).grown hg (by simp)
  clear hown hg
  go_loopw [3, 13] (fun o y wr => ∃ (k : Nat) (fs : List (List Nat)), k ≤ p.length ∧ y = .int .i64 k ∧ Acc (w.heap.size + 1) 23 wr o (lcy p k) fs ∧ Fresh (w.heap.size + 1) wr fs.flatten ∧
      wr.ownsRow w.heap.size 4 1 (.slice (some ⟨w.heap.size, 0, none⟩) p.length p.length) p.length (mkB p.length (PM.Seen p k)) ∧ Only [] w wr ∧ w.heap.size + 1 ≤ wr.heap.size)
    (fun _ y _ => p.length - (intOf y).toNat)
  case atStart => exact ⟨0, [], Nat.zero_le _, rfl, Acc.nil _ _ _, Fresh.nil _ _, R0, k01, by omega⟩
  case round =>
    obtain ⟨W2, hnew⟩ : ∃ W, W = wr := ⟨_, rfl⟩
    subst hnew
    clear R0 k01 hs1 h1s
    obtain ⟨k, fs, hk, rfl, hA, hF, hR, hO, hsz⟩ := hrel
    by_cases hlt : k < p.length
    · have hltI : (k : Int) < (p.length : Int) := by omega
      have hPN : PM.PN p.length p := by rw [Hpl.out]; exact Hp.out
      obtain ⟨Q, hQn, hQ1, hQ2, hQ3, hQ4, hQ5⟩ := cyc_round hPN hlt
      have HA := Lib.hid hA
      have HF := Lib.hid hF
      have HQ1 := Lib.hid hQ1
      have HQ2 := Lib.hid hQ2
      have HQ3 := Lib.hid hQ3
      have HQ4 := Lib.hid hQ4
      have HQ5 := Lib.hid hQ5
      have HPN := Lib.hid hPN
      have hR0 : W2.ownsRow w.heap.size 4 1 (.slice (some ⟨w.heap.size, 0, none⟩) p.length p.length) p.length (mkB p.length (fun y => PM.Seen p k y ∨ y ∈ PM.cyT p k 0)) := by
        rw [mkB_congr (S' := PM.Seen p k) (fun y _ _ => by simp [PM.cyT])]
        exact hR
      clear hA hF hQ1 hQ2 hQ3 hQ4 hQ5 hPN hR
      go_wp2
      go_loopw [6, 7] (fun c x wr => ∃ q : Nat, q ≤ Q ∧ x = .int .i64 (PM.it p q k) ∧ AccI W2.heap.size 2 wr c (PM.cyT p k q) ∧
          wr.ownsRow w.heap.size 4 1 (.slice (some ⟨w.heap.size, 0, none⟩) p.length p.length) p.length (mkB p.length (fun y => PM.Seen p k y ∨ y ∈ PM.cyT p k q)) ∧ Only [] w wr ∧ Only [w.heap.size] W2 wr)
        (fun c _ _ => Q - lenV c)
      case atStart => exact ⟨0, Nat.zero_le _, rfl, AccI.nil _ _ _, hR0, hO, Only.refl _ _⟩
      case round =>
        obtain ⟨W4, hnew⟩ : ∃ W, W = wr := ⟨_, rfl⟩
        subst hnew
        clear hR0
        obtain ⟨q, hq, rfl, hC, hR4, hO4, hK4⟩ := hrel
        have hsz4 := hK4.size
        obtain ⟨x, hx⟩ : ∃ x, x = PM.it p q k := ⟨_, rfl⟩
        have hxr := PM.it_rng HPN.out (x := (k : Int)) (by omega) hltI q
        rw [← hx] at hxr ⊢
        have x0 : 0 ≤ x := hxr.1
        have x1 : x < (p.length : Int) := hxr.2
        have hxn : x.toNat < p.length := by omega
        have c4 := hR4.cellAt x.toNat (by rw [Nat.mul_one]; exact hxn)
        rw [mkB_get hxn, show ((x.toNat : Nat) : Int) = x by omega] at c4
        by_cases hlq : q < Q
        · have hun := HQ1.out q hlq
          rw [← hx] at hun
          rw [dB_no hun] at c4
          obtain ⟨hR5, hg5⟩ := hR4.stored x.toNat (.bool true)
          rw [mkB_set x0 x1, mkB_congr (S' := fun y => PM.Seen p k y ∨ y ∈ PM.cyT p k (q + 1)) (fun y _ _ => by
            rw [PM.cyT_succ, ← hx]
            constructor
            · rintro ((h | h) | h)
              · exact Or.inl h
              · exact Or.inr (List.mem_append_left _ h)
              · exact Or.inr (List.mem_append_right _ (List.mem_singleton.2 h))
            · rintro (h | h)
              · exact Or.inl (Or.inl h)
              · rcases List.mem_append.1 h with h | h
                · exact Or.inl (Or.inr h)
                · exact Or.inr (List.mem_singleton.1 h))] at hR5
          have hf5 := hR4.frozenAt x.toNat
          have hK5 : Only [w.heap.size] W2 (W4.setCell ⟨w.heap.size, x.toNat, none⟩ (.bool true)) := hK4.setCell (by intro _; simp) _
          have hO5 : Only [] w (W4.setCell ⟨w.heap.size, x.toNat, none⟩ (.bool true)) := hO4.setCell (by intro hh; simp at hh) _
          have hC5 : AccI W2.heap.size 2 (W4.setCell ⟨w.heap.size, x.toNat, none⟩ (.bool true)) u6 (PM.cyT p k q) := hC.only (fp := [w.heap.size]) ((Only.refl _ _).setCell (by intro _; simp) _) (fun g hg hm => by
            have := (hC.ownlt g hg).1
            rw [List.mem_singleton.1 hm] at this
            omega)
          obtain ⟨a6, c6, hf6⟩ := hC.form
          have hl6 : lenV u6 = q := by rw [hf6, PM.cyT_len]; rfl
          obtain ⟨b2, off2, rfl, -, cp0⟩ := I.at_pm x0 x1
          have hnx : PM.at_ p x = PM.it p (q + 1) k := by rw [hx]; rfl
          rw [hnx] at cp0
          have hst : PM.cyT p k (q + 1) = PM.cyT p k q ++ [x] := by rw [PM.cyT_succ, ← hx]
          have hlen : (PM.cyT p k q).length + 1 ≤ 1073741824 := by rw [PM.cyT_len]; omega
          have HxI := Lib.hid (show I64 x by unfold I64; omega)
          have Hl6 := Lib.hid hl6
          have Hst := Lib.hid hst
          have HC5 := Lib.hid hC5
          have HR5 := Lib.hid hR5
          have hsz5 : W2.heap.size ≤ (W4.setCell ⟨w.heap.size, x.toNat, none⟩ (.bool true)).heap.size := hK5.size
          have hwo : ∀ b ∈ u6.ownBlock.toList, W2.heap.size ≤ b := fun b hb => (hC.ownlt b (by simpa using hb)).1
          have hRn : ∀ g, (Value.slice (some ⟨w.heap.size, 0, none⟩) p.length p.length).ownBlock = some g → g ∉ u6.ownBlock.toList := fun g hg hm => by
            have := hwo g hm
            have e : w.heap.size = g := by simpa [Value.ownBlock] using hg
            omega
          have Hwo := Lib.hid hwo
          have HRn := Lib.hid hRn
          clear hx hxr hun hR5 hg5 hC5 hf6 hl6 hnx hst hC hR4 hwo hRn
          go_wp2_with (first
            | (at_builtin; refine wpList_pushI rfl _ _ 23 rfl W2.heap.size 2 i1 _ Try.underlying23 gi gz0 gz1 gz2 rfl (W4.setCell ⟨w.heap.size, x.toNat, none⟩ (.bool true)) u6 (PM.cyT p k q) rfl HC5.out ((Only.refl _ _).alloc _) hsz5 W4.heap.size 1 x rfl (lit1 _ _ _ (by simp)) HxI.out hlen ?_; intro v7 w7 hA7 hO7 hP7 hN7; have k7 := hP7 w (hO5.alloc _) (by omega); have cp := k7.cell (by simp) cp0; have R7 := row_only (row_only HR5.out ((Only.refl [] _).alloc _) (by simp)) hO7 HRn.out; have kk7 := (hK5.alloc _).then_ hO7 (fun b hb hl => by have := Hwo.out b hb; omega); clear hO7 hP7 hN7)
            | fail "no arm")
          obtain ⟨a7, c7, hf7⟩ := hA7.form
          have hl7 : lenV v7 = q + 1 := by rw [hf7]; show (PM.cyT p k q ++ [x]).length = q + 1; rw [List.length_append, PM.cyT_len]; rfl
          clear hf7
          go_roundw
          case rel => exact ⟨q + 1, by omega, rfl, by rw [Hst.out]; exact hA7, R7, k7, kk7⟩
          case measure => have := Hl6.out; omega
        · obtain rfl : q = Q := by omega
          have hs := HQ2.out
          rw [← hx] at hs
          rw [dB_yes hs] at c4
          obtain ⟨a6, c6, rfl⟩ := hC.form
          have hl6 : (PM.cyT p k q).length = q := PM.cyT_len ..
          have hA4 : Acc (w.heap.size + 1) 23 W4 u3 (lcy p k) fs := HA.out.only hK4 (fun b hb hm => by
            have := HF.out.ge b hb
            rw [List.mem_singleton.1 hm] at this
            omega) (fun g hg hm => by
            have := (HA.out.ownlt g hg).1
            rw [List.mem_singleton.1 hm] at this
            omega)
          have hF4 : Fresh (w.heap.size + 1) W4 fs.flatten := HF.out.only hK4 (fun b hb hm => by
            have := HF.out.ge b hb
            rw [List.mem_singleton.1 hm] at this
            omega)
          have hB4 : w.heap.size + 1 ≤ W4.heap.size := by omega
          have hrow : mkB p.length (fun y => PM.Seen p k y ∨ y ∈ PM.cyT p k q) = mkB p.length (PM.Seen p (k + 1)) := mkB_congr (fun y y0 y1 => (HQ3.out y y0 y1).symm)
          rw [hrow] at hR4
          have HR4 := Lib.hid hR4
          have HA4 := Lib.hid hA4
          have HF4 := Lib.hid hF4
          have HC := Lib.hid hC
          have Hl6 := Lib.hid hl6
          by_cases h1 : 1 < q
          · have h1I : (1 : Int) < ((PM.cyT p k q).length : Int) := by rw [hl6]; omega
            have hlen : (lcy p k).length + 1 ≤ 1073741824 := by have := lcy_len p k; omega
            have hown3 : ∀ b ∈ fs.flatten, b < W2.heap.size := HF.out.lt
            have hge6 : ∀ b ∈ (Value.slice a6 (PM.cyT p k q).length c6).ownBlock.toList, W2.heap.size ≤ b := fun b hb => (hC.ownlt b (by simpa using hb)).1
            have hlt3 : ∀ g, u3.ownBlock = some g → w.heap.size + 1 ≤ g ∧ g < W2.heap.size := HA.out.ownlt
            have Hst := Lib.hid (HQ4.out h1)
            have Hge6 := Lib.hid hge6
            have Hlt3 := Lib.hid hlt3
            have Hown3 := Lib.hid hown3
            clear hs hl6 hA4 hF4 hrow hR4 hC hx hxr hown3 hge6 hlt3
            go_wp2_with (first
              | (at_builtin; refine wpList_push rfl _ _ 22 rfl (w.heap.size + 1) 23 i0 _ 24 Try.underlying22 hi hz0 hz1 hz2 rfl (by decide) (by decide) W4 u3 (lcy p k) fs rfl HA4.out ((Only.refl _ _).alloc _) hB4 W4.heap.size 1 [.slice a6 (PM.cyT p k q).length c6] (PM.cyT p k q) _ rfl (lit_src W4 [_] _ rfl) (by intro u hu; simp at hu; subst hu; rfl) (Rp.keep HC.out.rd ((Only.refl [] W4).alloc _)) (fun b hb e => by have h2 := Hge6.out b hb; have h3 := Hlt3.out b e; omega) hlen ?_; intro v8 w8 hA8 hO8 hP8 hN8)
              | fail "no arm")
            go_roundw
            case rel =>
              refine ⟨k + 1, _, by omega, by go_num, by rw [Hst.out]; exact hA8, ?_, ?_, hP8 w (hO4.alloc _) (by omega), by have := hO8.size; simp at this; omega⟩
              · exact fresh_snoc (HF4.out.keep ((Only.refl [] W4).alloc _)) ((HC.out.fresh.keep ((Only.refl [] W4).alloc _)).mono (by omega)) (fun b hb hm => by have h2 := Hown3.out b hb; have h3 := Hge6.out b hm; omega) hO8 (fun b hb hm => HA4.out.apart b (by simpa using hm) hb) (fun b hb hm => by have h2 := Hge6.out b hb; have h3 := Hlt3.out b (by simpa using hm); omega)
              · exact row_only (row_only HR4.out ((Only.refl [] _).alloc _) (by simp)) hO8 (fun g hg hm => by
                  have e : w.heap.size = g := by simpa [Value.ownBlock] using hg
                  have h3 := Hlt3.out g (by simpa using hm)
                  omega)
            case measure => simp [intOf]; omega
          · have h1I : ¬ (1 : Int) < ((PM.cyT p k q).length : Int) := by rw [hl6]; omega
            have Hst := Lib.hid (HQ5.out h1)
            clear hs hl6 hA4 hF4 hrow hR4 hC hx hxr
            go_wp2
            go_roundw
            case rel => exact ⟨k + 1, fs, by omega, by go_num, by rw [Hst.out]; exact HA4.out, HF4.out, HR4.out, hO4, hB4⟩
            case measure => simp [intOf]; omega
    · obtain rfl : k = p.length := by omega
      have hge : ¬ ((p.length : Int) < (p.length : Int)) := by omega
      rw [Hpl.out] at hA
      have HA := Lib.hid hA
      have HF := Lib.hid (hF.mono (show w.heap.size ≤ w.heap.size + 1 by omega))
      clear hA hR hF
      go_wp2
      go_ret
      exact ⟨_, rfl, _, HA.out.rd (by decide), (HA.out.mono (by omega)).fresh HF.out, hO⟩
end Go.Proofs.Ytpcamkmoabhlhaa

namespace Go.Proofs.Ytpcamkmoabhlhaa
open Go.RowKit
set_option maxRecDepth 10000
end Go.Proofs.Ytpcamkmoabhlhaa

namespace Go.Proofs.Ytpcamkmoabhlhaa
open Go.RowKit
set_option maxRecDepth 10000


end Go.Proofs.Ytpcamkmoabhlhaa

namespace PM
end PM
namespace Go.Proofs.Ytpcamkmoabhlhaa
open Go.RowKit
set_option maxRecDepth 10000
theorem rank_chain (n : Nat) (vg : Value) (gens : List (List Int)) (fpg : List Nat) (w : World) (hg : Rd w vg gens fpg) (hgs : gensB n gens = true) : ∃ G T, PM.Chain n gens G T := by
  obtain ⟨⟨n1, n20⟩, hgl, hpn⟩ := gensB_iff.1 hgs
  obtain ⟨e, w', fr, ⟨L, gv, G, T, M, F, -, -, -, -, h, -⟩, -⟩ := buildChain_any n (by omega) (by omega) vg gens fpg w hg (by simpa using hpn) (by omega) []
  exact ⟨G, T, h⟩


end Go.Proofs.Ytpcamkmoabhlhaa

namespace Go.Proofs.Ytpcamkmoabhlhaa
open Go.RowKit
set_option maxRecDepth 10000


end Go.Proofs.Ytpcamkmoabhlhaa

namespace Go.Proofs.Ytpcamkmoabhlhaa
open Go.RowKit
set_option maxRecDepth 10000
set_option maxHeartbeats 1000000 in
theorem specGroupOrder_yes (n : Nat) (vg : Value) (gens : List (List Int)) (fpg : List Nat) (w : World) (hg : Rd w vg gens fpg) (hgs : gensB n gens = true) :
    Calls Try.prog 18 #[.int .i64 n, vg] w fun e w' => e = .returned (.int .i64 (ordC n gens n : Nat)) ∧ 1 ≤ ordC n gens n ∧ ordC n gens n ≤ 2432902008176640000 ∧ Only [] w w' := by
  obtain ⟨⟨n1, n20⟩, hgl, hpn⟩ := gensB_iff.1 hgs
  have hpn' : ∀ g ∈ gens, PM.PN n g := by simpa using hpn
  have hn : 0 < n := by omega
  have hn20 : n ≤ 20 := by omega
  have Hgs := Lib.hid hgs
  have Hpn := Lib.hid hpn'
  clear hpn hpn' hgs
  go_enter Try.func18, Try.ntmps18
  go_wp2_with (first
    | (go_at_call 25; (with_reducible refine (specIsGens_rd n vg gens fpg w hg).mono ?_); rintro en w1 ⟨he, t1⟩; rw [Hgs.out] at he; subst he; have t1 := t1.only [])
    | (go_at_call 42; (with_reducible refine (buildChain_any n hn hn20 vg gens fpg w1 (Rp.keep hg t1) Hpn.out (by omega)).mono ?_); rintro en w3 ⟨L, gv, G, T, M, F, rfl, hoG, hoT, hC, hCh, t3⟩; have HC := Lib.hid hC; have HCh := Lib.hid hCh; have HoT := Lib.hid hoT; clear hC hCh hoT hoG)
    | (go_at_call 41; (with_reducible refine (chainOrder_any w3 HC.out HCh.out.inv.wf HoT.out).mono ?_); rintro en w4 ⟨he, t4⟩; rw [ordC_eq HCh.out hn Hpn.out (Nat.le_refl _)] at he; subst he)
    | fail "no arm")
  go_ret
  exact ⟨rfl, ordC_pos HCh.out hn Hpn.out (Nat.le_refl _), ordC_le HCh.out hn Hpn.out hn20 (Nat.le_refl _), (t1.trans t3).trans t4⟩
theorem specGroupOrder_i (n : Int) (vg : Value) (gens : List (List Int)) (fpg : List Nat) (w : World) (hg : Rd w vg gens fpg) (hgs : gensB n gens = true) :
    Calls Try.prog 18 #[.int .i64 n, vg] w fun e w' => e = .returned (.int .i64 (ordC n.toNat gens n.toNat : Nat)) ∧ 1 ≤ ordC n.toNat gens n.toNat ∧ ordC n.toNat gens n.toNat ≤ 2432902008176640000 ∧ Only [] w w' := by
  obtain ⟨⟨n1, n20⟩, -, -⟩ := gensB_iff.1 hgs
  obtain ⟨m, rfl⟩ := Int.eq_ofNat_of_zero_le (by omega : 0 ≤ n)
  exact specGroupOrder_yes m vg gens fpg w hg hgs



end Go.Proofs.Ytpcamkmoabhlhaa

namespace Go.Proofs.Ytpcamkmoabhlhaa
open Go.RowKit
set_option maxRecDepth 10000
end Go.Proofs.Ytpcamkmoabhlhaa

namespace Go.Proofs.Ytpcamkmoabhlhaa
open Go.RowKit
set_option maxRecDepth 10000

theorem allMem_get {n : Nat} {gens : List (List Int)} {k : Nat} (h : k < (allMem n gens).length) : (allMem n gens)[k] = memAt n gens k := by simp [allMem]
theorem allMem_take_succ {n : Nat} {gens : List (List Int)} {k : Nat} (h : k < ordC n gens n) : (allMem n gens).take (k + 1) = (allMem n gens).take k ++ [memAt n gens k] := by
  rw [List.take_succ_eq_append_getElem (by rw [allMem_len]; exact h), allMem_get]
set_option maxHeartbeats 4000000 in
theorem implMembers_ch (n : Nat) {B : Nat} {L : Lay} {gv : Nat → Value} {gens : List (List Int)} {G : PM.Gens} {T : PM.Rows} {M F : List Nat} (w : World) (hC : Ch 23 B w L gv n G T M F) (hCh : PM.Chain n gens G T) (hT : L.oT = 2) (hpn : ∀ g ∈ gens, PM.PN n g) :
    Calls Try.prog 33 #[.pointer (some ⟨L.g, 0, none⟩)] w fun e w' => ∃ v f, e = .returned (.tuple #[v, .bool (decide (ordC n gens n ≤ 3000))]) ∧ Rd w' v (lsM n gens) f ∧ Fresh w.heap.size w' f ∧ Only [] w w' := by
  have hn : 0 < n := hC.pos
  obtain ⟨i0, hi, hz0, hz1, hz2⟩ := info_parts Try.info22
  obtain ⟨R, hR⟩ : ∃ R, R = lsM n gens := ⟨_, rfl⟩
  rw [← hR]
  obtain ⟨od, hod⟩ : ∃ od, od = ordC n gens n := ⟨_, rfl⟩
  rw [← hod]
  have HcO : Hid (∀ W, Only [] w W → Calls Try.prog 38 #[.pointer (some ⟨L.g, 0, none⟩), .int .i64 0] W fun e w' => e = .returned (.int .i64 (od : Nat)) ∧ Only [] W w') := Lib.hid (by
    rw [hod, ← ordC_eq hCh hn hpn (Nat.le_refl _)]
    exact fun W hW => implOrder0 (hC.keep hW) hCh.inv.wf hT)
  have hole := ordC_le hCh hn hpn hC.le (j := n) (Nat.le_refl _)
  rw [← hod] at hole
  have HC := Lib.hid hC
  have HCh := Lib.hid hCh
  have HT := Lib.hid hT
  have Hpn := Lib.hid hpn
  have HR := Lib.hid hR
  have Hod := Lib.hid hod
  clear hC hCh hT hpn hR hod
  by_cases hgt : 3000 < od
  · have hgI : (3000 : Int) < (od : Int) := by omega
    have Hd := Lib.hid (decide_eq_false (show ¬ od ≤ 3000 by omega))
    have HRe : Hid (R = []) := Lib.hid (by rw [HR.out]; unfold lsM; rw [if_pos (by rw [← Hod.out]; exact hgt)])
    go_enter Try.func33, Try.ntmps33
    go_wp2_with (first
      | (go_at_call 38; (with_reducible refine (HcO.out w (Only.refl _ _)).mono ?_); rintro en w1 ⟨rfl, t1⟩)
      | fail "no arm")
    exact bodyPost_ret (v := .tuple #[.slice none 0 0, .bool false]) (by simp [results, Try.results33, go_sem]) rfl ⟨.slice none 0 0, [], by rw [Hd.out], by rw [HRe.out]; exact nil_rd _, Fresh.nil _ _, t1⟩
  · have hgI : ¬ (3000 : Int) < (od : Int) := by omega
    have Hd := Lib.hid (decide_eq_true (show od ≤ 3000 by omega))
    have HRe : Hid (R = allMem n gens) := Lib.hid (by rw [HR.out]; unfold lsM; rw [if_neg (by rw [← Hod.out]; exact hgt)])
    clear HR
    go_enter Try.func33, Try.ntmps33
    go_wp2_with (first
      | (go_at_call 38; (with_reducible refine (HcO.out w (Only.refl _ _)).mono ?_); rintro e w1 ⟨rfl, t1⟩)
      | (go_at_call 38; (with_reducible refine (HcO.out w1 t1).mono ?_); rintro e w2 ⟨rfl, t2⟩)
      | fail "no arm")
    have k2 := t1.trans t2
    clear t1 t2
    go_loopw [4, 13] (fun o y wr => ∃ (k : Nat) (fs : List (List Nat)), k ≤ od ∧ y = .int .i64 k ∧ Acc w.heap.size 23 wr o ((allMem n gens).take k) fs ∧ Fresh w.heap.size wr fs.flatten ∧ Only [] w wr)
      (fun _ y _ => od - (intOf y).toNat)
    case atStart => exact ⟨0, [], Nat.zero_le _, rfl, Acc.nil _ _ _, Fresh.nil _ _, k2⟩
    case round =>
      obtain ⟨W2, hnew⟩ : ∃ W, W = wr := ⟨_, rfl⟩
      subst hnew
      obtain ⟨k, fs, hk, rfl, hA, hF, hO⟩ := hrel
      have hsz := hO.size
      by_cases hlt : k < od
      · have hltI : (k : Int) < (od : Int) := by omega
        have hklt : k < ordC n gens n := by rw [← Hod.out]; exact hlt
        have Hst := Lib.hid (allMem_take_succ hklt)
        have Hkl := Lib.hid hklt
        have hlen : ((allMem n gens).take k).length + 1 ≤ 1073741824 := by rw [List.length_take]; omega
        have HA := Lib.hid hA
        clear hklt hA
        go_wp2_with (first
          | (go_at_call 60; (with_reducible refine (memberAt_yes n k W2 (HC.out.keep hO) HCh.out HT.out Hpn.out Hkl.out).mono ?_); rintro en w5 ⟨v5, f5, rfl, r5, F5, t5⟩; obtain ⟨a5, c5, rfl, I5⟩ := id r5.ints)
          | (at_builtin; refine wpList_pushF rfl _ _ 22 rfl w.heap.size 23 i0 _ 24 Try.underlying22 hi hz0 hz1 hz2 rfl (by decide) (by decide) W2 u4 ((allMem n gens).take k) fs rfl HA.out hF (t5.alloc _) hsz w5.heap.size 1 [_] (memAt n gens k) f5 rfl (lit_src w5 [_] _ rfl) (by intro u hu; simp at hu; subst hu; rfl) (Rp.keep r5 ((Only.refl [] w5).alloc _)) (F5.keep ((Only.refl [] w5).alloc _)) hlen w ((hO.trans t5).alloc _) (Nat.le_refl _) ?_; intro v6 w6 hA6 hF6 hK6 _)
          | fail "no arm")
        go_roundw
        case rel => exact ⟨k + 1, _, by omega, by go_num, by rw [Hst.out]; exact hA6, hF6, hK6⟩
        case measure => simp [intOf]; omega
      · obtain rfl : k = od := by omega
        have hge : ¬ ((k : Int) < (k : Int)) := by omega
        have htk : (allMem n gens).take k = R := by rw [HRe.out]; exact List.take_of_length_le (by rw [allMem_len, ← Hod.out]; exact Nat.le_refl _)
        rw [htk] at hA
        have HA := Lib.hid hA
        clear htk hA
        go_wp2
        exact bodyPost_ret (v := .tuple #[u4, .bool true]) (by simp [results, Try.results33, go_sem]) rfl ⟨u4, by rw [Hd.out], _, HA.out.rd (by decide), HA.out.fresh hF, hO⟩
end Go.Proofs.Ytpcamkmoabhlhaa
