/- The states of a puzzle: how many there are, what the search of them finds (laws 20, 38). The program's group order and number of states (laws 20, 38). The reference's orbit sizes, chain order, members per choice (laws 33, 34, ..). The member of a rank, in plain words (laws 33, 34, ..). The reference's chain order, members per choice, MemberAt (laws 33, 34, ..). The reference's MemberAt: the member of a rank (laws 33, 34, ..). Maps from int64 to int64 that a call makes. (Printed by mkmapv.py out of XMap.) The program's walk down a chain: values, take, from (laws 33, 47). The program's walk down a chain: sorted, from; its generator (laws 33, 47). -/
import Derived.Test.YtndcifpbbnebmaaGreatRowRandomStatesG9
import Derived.Test.YtndcifpbbnebmaaGreatRowRandomStatesG13
import Derived.Test.YtndcifpbbnebmaaGreatRowRandomStatesG3
import Derived.Test.YtndcifpbbnebmaaGreatRowRandomStatesG10
import Derived.Test.YtndcifpbbnebmaaGreatRowRandomStatesG12
import Derived.Test.YtndcifpbbnebmaaGreatRowRandomStatesG8
import Derived.Maps.RangeWalk
import Derived.Test.YtndcifpbbnebmaaGreatRowRandomStatesG7
import Derived.Deep.RegionLaw
namespace Go.Proofs.YtndcifpbbnebmaaGreat
open Go.RowKit
set_option maxRecDepth 10000

/-- the members of a group, each once -/
noncomputable def grpL (n : Nat) (gens : List (List Int)) : List (List Int) := Classical.choose (PM.nodup_exists (PM.allL (PM.pts n) n) (PM.Grp n gens))
theorem grpL_nodup (n : Nat) (gens : List (List Int)) : (grpL n gens).Nodup := (Classical.choose_spec (PM.nodup_exists (PM.allL (PM.pts n) n) (PM.Grp n gens))).1
theorem mem_grpL {n : Nat} {gens : List (List Int)} (hp : ∀ g ∈ gens, PM.PN n g) {p : List Int} : p ∈ grpL n gens ↔ PM.Grp n gens p := by
  have h := (Classical.choose_spec (PM.nodup_exists (PM.allL (PM.pts n) n) (PM.Grp n gens))).2 p
  show p ∈ Classical.choose _ ↔ _
  rw [h]
  refine ⟨fun h => h.2, fun hg => ⟨?_, hg⟩⟩
  have hpn := PM.Grp.pn hp hg
  have := PM.mem_allL (A := PM.pts n) p fun x hx => PM.mem_pts.2 (by have := hpn.2.1 x hx; rw [hpn.1] at this; exact this)
  rwa [hpn.1] at this
/-- how many states can be reached -/
noncomputable def cardG (x : Puzzle) : Nat := (grpL x.points.toNat x.moves).length
theorem chain_card {n : Nat} {gens : List (List Int)} {G : PM.Gens} {T : PM.Rows} (h : PM.Chain n gens G T) (hn : 0 < n) (hp : ∀ g ∈ gens, PM.PN n g) : PM.ordM T n n = (grpL n gens).length :=
  Nat.le_antisymm (h.order_ge hn hp fun _ hg => (mem_grpL hp).2 hg) (h.order_le hn hp (grpL_nodup _ _) fun _ hx => (mem_grpL hp).1 hx)
theorem cardG_pos {x : Puzzle} (hv : validPz x = true) : 1 ≤ cardG x := List.length_pos_of_mem ((mem_grpL (validPz_pn hv)).2 .id)
theorem pts_inc (n : Nat) : Inc (n : Int) (PM.pts n) := by
  refine ⟨fun z hz => PM.mem_pts.1 hz, ?_⟩
  unfold PM.pts
  rw [List.pairwise_map]
  exact List.Pairwise.imp (fun h => by omega) (List.pairwise_lt_range (n := n))
theorem pts_track {x : Puzzle} (hv : validPz x = true) : trackB x.points (PM.pts x.points.toNat) = true := by
  have := validPz_facts hv
  rw [trackB_iff]
  refine ⟨by rw [PM.pts_len]; omega, ?_⟩
  have h := pts_inc x.points.toNat
  rwa [show ((x.points.toNat : Nat) : Int) = x.points by omega] at h
/-- the search of all states -/
def expl (x : Puzzle) : Option Table := bTab x (PM.pts x.points.toNat)
theorem grp_nxt {x : Puzzle} (hv : validPz x = true) {s : List Int} (hs : PM.Grp x.points.toNat x.moves s) {l : Int} (hl : l ∈ ltrs x.moves.length) : PM.Grp x.points.toNat x.moves (nxt x s l) := by
  have h3 := validPz_pn hv
  refine PM.Grp.comp h3 hs ?_
  rcases letter_cases hl with ⟨k, hk, rfl⟩ | ⟨k, hk, rfl⟩
  · rw [mv_pos rfl hk]; exact PM.Grp.gen h3 (List.getElem_mem hk)
  · rw [mv_neg (k := k) rfl hk]; exact PM.Grp.gen_inv h3 (List.getElem_mem hk)
theorem BI.grp {x : Puzzle} {k : Nat} {done : List Int} {s : Met16} (hv : validPz x = true) (h : BI x (PM.pts x.points.toNat) k done s) : ∀ i, i < s.1.length → PM.Grp x.points.toNat x.moves (s.1.getD i []) := by
  intro i
  induction i using Nat.strongRecOn with
  | ind i ih =>
    intro hi
    by_cases h0 : i = 0
    · subst h0; rw [h.p0]; exact .id
    · obtain ⟨j, l, a1, a2, a3, -⟩ := h.par i (by omega) hi
      rw [← a3]
      exact grp_nxt hv (ih j a1 (Nat.lt_trans a1 hi)) a2
theorem BI.full {x : Puzzle} {k : Nat} {done : List Int} {s : Met16} (hv : validPz x = true) (hc : cardG x ≤ 3000) (h : BI x (PM.pts x.points.toNat) k done s) (hk : k < s.1.length) {l : Int} (hl : l ∈ ltrs x.moves.length) (hn : nxt x (s.1.getD k []) l ∉ s.1) : s.1.length ≠ 3000 := by
  intro h3
  have hg := h.grp hv
  have hall : ∀ p ∈ s.1 ++ [nxt x (s.1.getD k []) l], PM.Grp x.points.toNat x.moves p := fun p hp => by
    rcases List.mem_append.1 hp with hp | hp
    · obtain ⟨i, hi, rfl⟩ := List.getElem_of_mem hp
      have := hg i hi
      rwa [getD_get hi] at this
    · simp at hp; subst hp
      exact grp_nxt hv (hg k hk) hl
  have hnd : (s.1 ++ [nxt x (s.1.getD k []) l]).Nodup := by
    rw [List.nodup_append]
    exact ⟨h.nd, by simp, fun a ha b hb e => hn (by rw [← List.mem_singleton.1 hb, ← e]; exact ha)⟩
  have := PM.nodup_sub_len hnd fun p hp => (mem_grpL (validPz_pn hv)).2 (hall p hp)
  unfold cardG at hc
  simp only [List.length_append, List.length_singleton] at this
  omega
theorem BI.lets_some2 {x : Puzzle} {k : Nat} (hv : validPz x = true) (hc : cardG x ≤ 3000) : ∀ {ls done : List Int} {s : Met16}, BI x (PM.pts x.points.toNat) k done s → k < s.1.length → (∀ l ∈ ls, l ∈ ltrs x.moves.length) → (bLets x (s.1.getD k []) (s.2.getD k 0 + 1) ls s).isSome = true
  | [], done, s, h, hk, _ => rfl
  | l :: ls, done, s, h, hk, hl => by
    unfold bLets
    have h1 : ∃ s1, bMeet s (s.2.getD k 0 + 1) (nxt x (s.1.getD k []) l) = some s1 := by
      unfold bMeet
      split
      · exact ⟨_, rfl⟩
      · rename_i hn
        rw [if_neg (h.full hv hc hk (hl l (by simp)) hn)]
        exact ⟨_, rfl⟩
    obtain ⟨s1, e1⟩ := h1
    obtain ⟨b1, b2, b3, b4⟩ := h.meet hv hk (hl l (by simp)) e1
    have := BI.lets_some2 (ls := ls) hv hc b1 b4 (fun l hl2 => hl l (by simp [hl2]))
    rw [b2, b3] at this
    rw [e1]; exact this
theorem BI.from_some2 {x : Puzzle} (hv : validPz x = true) (hc : cardG x ≤ 3000) : ∀ {n k : Nat} {s : Met16}, BI x (PM.pts x.points.toNat) k [] s → (bFrom x n k s).isSome = true
  | 0, k, s, h => rfl
  | n + 1, k, s, h => by
    unfold bFrom
    split
    · rename_i hk
      obtain ⟨s1, e1⟩ := Option.isSome_iff_exists.1 (BI.lets_some2 hv hc h hk (fun l hl => hl))
      obtain ⟨done', c1, c2, c3, -⟩ := h.lets hv hk (fun l hl => hl) e1
      rw [e1]
      exact BI.from_some2 hv hc (c1.next c2 c3)
    · rfl
theorem expl_some {x : Puzzle} (hv : validPz x = true) (hc : cardG x ≤ 3000) : ∃ t, expl x = some t := by
  have h := BI.from_some2 (n := 3001) hv hc (BI.start (trackB_pat (pts_track hv)))
  obtain ⟨s, hs⟩ := Option.isSome_iff_exists.1 h
  refine ⟨⟨PM.pts x.points.toNat, s.1, s.2⟩, ?_⟩
  unfold expl bTab
  rw [bfs16_yes (by rw [hv, pts_track hv]; rfl), hs]; rfl
theorem expl_none {x : Puzzle} (h : validPz x = false) : expl x = none := by
  unfold expl bTab
  rw [bfs16_no (by rw [h]; rfl)]; rfl
section
variable {x : Puzzle} {t : Table}
theorem expl_built (h : expl x = some t) : Built x t ∧ t.tracked = PM.pts x.points.toNat := bTab_built h
theorem expl_mem (h : expl x = some t) {q : List Int} : q ∈ t.patterns ↔ PM.Grp x.points.toNat x.moves q := by
  obtain ⟨hb, ht⟩ := expl_built h
  have hi := hb.bi
  rw [ht] at hi
  constructor
  · intro hq
    obtain ⟨i, hil, rfl⟩ := List.getElem_of_mem hq
    have := hi.grp hb.v i hil
    rwa [getD_get hil] at this
  · intro hg
    have hpn := PM.Grp.pn (validPz_pn hb.v) hg
    have hf := validPz_facts hb.v
    have hr : reachB x q = true := by
      unfold reachB stateB memB
      rw [Bool.and_eq_true, Bool.and_eq_true]
      exact ⟨⟨hb.v, (genB_iff hf.1 hf.2.1).2 hpn⟩, @decide_eq_true _ (Classical.propDecidable _) hg⟩
    have := hb.reach hr
    rwa [ht, PM.id_comp hpn] at this
theorem expl_len (h : expl x = some t) : t.patterns.length = cardG x := by
  obtain ⟨hb, -⟩ := expl_built h
  have hnd : t.patterns.Nodup := hb.bi.nd
  exact Nat.le_antisymm (PM.nodup_sub_len hnd fun q hq => (mem_grpL (validPz_pn hb.v)).2 ((expl_mem h).1 hq)) (PM.nodup_sub_len (grpL_nodup _ _) fun q hq => (expl_mem h).2 ((mem_grpL (validPz_pn hb.v)).1 hq))
theorem expl_iff (hv : validPz x = true) : (∃ t, expl x = some t) ↔ cardG x ≤ 3000 :=
  ⟨fun ⟨_, ht⟩ => by rw [← expl_len ht]; exact (expl_built ht).1.ll, expl_some hv⟩
theorem expl_reach (h : expl x = some t) {q : List Int} : q ∈ t.patterns ↔ reachB x q = true := by
  obtain ⟨hb, -⟩ := expl_built h
  have hf := validPz_facts hb.v
  rw [expl_mem h]
  unfold reachB stateB memB
  rw [Bool.and_eq_true, Bool.and_eq_true]
  constructor
  · intro hg
    exact ⟨⟨hb.v, (genB_iff hf.1 hf.2.1).2 (PM.Grp.pn (validPz_pn hb.v) hg)⟩, @decide_eq_true _ (Classical.propDecidable _) hg⟩
  · rintro ⟨-, hg⟩
    exact @of_decide_eq_true _ (Classical.propDecidable _) hg
end
/-- the distance of a state, -1 if it has none -/
noncomputable def distX (x : Puzzle) (s : List Int) : Int := match expl x with
  | some t => if reachB x s = true then atD t (idxL t.patterns s) else -1
  | none => -1
theorem distX_none {x : Puzzle} {s : List Int} (h : expl x = none) : distX x s = -1 := by unfold distX; rw [h]
theorem distX_no {x : Puzzle} {s : List Int} (h : reachB x s = false) : distX x s = -1 := by
  unfold distX
  rw [h]
  cases expl x <;> rfl
theorem distX_yes {x : Puzzle} {t : Table} {s : List Int} (h : expl x = some t) (hs : reachB x s = true) : ∃ i : Nat, i < t.patterns.length ∧ t.patterns.getD i [] = s ∧ idxL t.patterns s = i ∧ distX x s = t.distances.getD i 0 ∧ 0 ≤ t.distances.getD i 0 ∧ t.distances.getD i 0 ≤ 3000 := by
  obtain ⟨hb, -⟩ := expl_built h
  obtain ⟨i, hi, e⟩ := List.getElem_of_mem ((expl_reach h).2 hs)
  have e2 : t.patterns.getD i [] = s := by rw [getD_get hi, e]
  have hx := hb.idx hi
  rw [e2] at hx
  have hd := hb.dep i hi
  have := hb.ll
  refine ⟨i, hi, e2, hx, ?_, hd.1, by omega⟩
  unfold distX
  rw [h]
  show (if reachB x s = true then atD t (idxL t.patterns s) else -1) = _
  rw [if_pos hs, hx]
  unfold atD
  rw [Int.toNat_natCast]
theorem distX_or (x : Puzzle) (s : List Int) : distX x s = -1 ∨ (0 ≤ distX x s ∧ distX x s ≤ 3000 ∧ reachB x s = true ∧ ∃ t, expl x = some t) := by
  rcases he : expl x with _ | t
  · exact .inl (distX_none he)
  · rcases hr : reachB x s
    · exact .inl (distX_no hr)
    · obtain ⟨i, -, -, -, h1, h2, h3⟩ := distX_yes he hr
      exact .inr ⟨by omega, by omega, rfl, t, rfl⟩
end Go.Proofs.YtndcifpbbnebmaaGreat

namespace Go.Proofs.YtndcifpbbnebmaaGreat
open Go.RowKit
set_option maxRecDepth 10000

theorem ord_step {T : PM.Rows} {n i : Nat} (hi : i < n) : PM.ordM T n (n - i) = PM.cntR n T i * PM.ordM T n (n - (i + 1)) := by
  have h1 : n - i = (n - (i + 1)) + 1 := by omega
  have h2 : n - (n - (i + 1) + 1) = i := by omega
  rw [h1]; simp only [PM.ordM, h2]
theorem ord_end {T : PM.Rows} {n i : Nat} (hi : n ≤ i) : PM.ordM T n (n - i) = 1 := by
  rw [show n - i = 0 by omega]; rfl
theorem orb_cnt (n : Nat) (T : PM.Rows) (k : Nat) : (orb n T k).length = PM.cntR n T k := rfl
set_option maxHeartbeats 2000000 in
theorem implOrder_any {e : TypeId} {B : Nat} {L : Lay} {gv : Nat → Value} {n : Nat} {G : PM.Gens} {T : PM.Rows} {M F : List Nat} (w : World) (hC : Ch e B w L gv n G T M F) (hw : PM.WF n T) (hT : L.oT = 2) (k : Nat) (hk : k ≤ n) :
    Calls Tryz.prog 24 #[.pointer (some ⟨L.g, 0, none⟩), .int .i64 k] w fun e w' => e = .returned (.int .i64 (PM.ordM T n (n - k) : Nat)) ∧ Only [] w w' := by
  have hn20 := hC.le
  have hct := hC.ct
  rw [hT] at hct
  have hcn := hC.cn
  have HC := Lib.hid hC
  have Hw := Lib.hid hw
  clear hC hw
  go_enter Tryz.func24, Tryz.ntmps24
  go_wp2
  go_loopw [5, 6] (fun o i wr => ∃ (j m : Nat), k ≤ j ∧ j ≤ n ∧ i = .int .i64 j ∧ o = .int .i64 (m : Nat) ∧ 1 ≤ m ∧ m * PM.ordM T n (n - j) = PM.ordM T n (n - k) ∧ Only [] w wr)
    (fun _ i _ => n - (intOf i).toNat)
  case atStart => exact ⟨k, 1, Nat.le_refl _, hk, rfl, rfl, Nat.le_refl _, Nat.one_mul _, Only.refl _ _⟩
  case round =>
    obtain ⟨W2, hnew⟩ : ∃ W, W = wr := ⟨_, rfl⟩
    subst hnew
    obtain ⟨j, m, hkj, hj, rfl, rfl, hm1, hm, hK⟩ := hrel
    have Hm := Lib.hid hm
    clear hm
    have y0 := hK.cell (by simp) hcn
    have y1 := hK.cell (by simp) hct
    by_cases hlt : j < n
    · have hC2 := HC.out.keep hK
      have y2 := hC2.row j hlt
      have hstep := ord_step (T := T) hlt
      have hoc := orb_cnt n T j
      have hcp := PM.cntR_pos Hw.out hlt
      have hor := PM.ordM_rng Hw.out (n - (j + 1)) (by omega)
      have hmul : (m * PM.cntR n T j) * PM.ordM T n (n - (j + 1)) = PM.ordM T n (n - k) := by rw [Nat.mul_assoc, ← hstep]; exact Hm.out
      have hle : m * PM.cntR n T j ≤ 2432902008176640000 := by
        have h1 := PM.ordM_le Hw.out hn20 (m := n - k) (by omega)
        have h2 : m * PM.cntR n T j ≤ (m * PM.cntR n T j) * PM.ordM T n (n - (j + 1)) := Nat.le_mul_of_pos_right _ hor.1
        omega
      have hpos : 1 ≤ m * PM.cntR n T j := Nat.mul_le_mul hm1 hcp
      obtain ⟨cn, hcnn⟩ : ∃ cn, cn = PM.cntR n T j := ⟨_, rfl⟩
      rw [← hcnn] at hmul hle hoc hpos
      have Hmul := Lib.hid hmul
      have Hoc := Lib.hid hoc
      have hwr : IntKind.i64.wrap ((m : Int) * (cn : Int)) = ((m * cn : Nat) : Int) := by rw [IntKind.wrap_i64]; push_cast; omega
      clear hstep hor hmul hoc hcnn hcp
      go_wp2_with (first
        | (go_at_call 47; (with_reducible refine (orbitOf_any _ (hC2.keep (by with_reducible repeat (first | exact Only.refl _ _ | assumption | refine Only.drewN ?_ _ | refine Only.drew ?_ | refine Only.alloc ?_ _ | refine Only.setCell ?_ (by intro hh; exfalso; simp at hh; try omega) _ | refine Only.trans ?_ (by assumption)))) j hlt).mono ?_); rintro e w3 ⟨v3, f3, rfl, A3, F3, t3⟩; have r3 := A3.rd (by decide))
        | (go_at_call 46; (with_reducible refine (lengthInt_rd v3 (orb n T j) _ _ (Rp.keep r3 (by with_reducible repeat (first | exact Only.refl _ _ | assumption | refine Only.drewN ?_ _ | refine Only.drew ?_ | refine Only.alloc ?_ _ | refine Only.setCell ?_ (by intro hh; exfalso; simp at hh; try omega) _ | refine Only.trans ?_ (by assumption))))).mono ?_); rintro e w4 ⟨he, rfl⟩; rw [Hoc.out] at he; subst he)
        | fail "no arm")
      go_roundw
      case rel => exact ⟨j + 1, m * cn, by omega, by omega, by go_num, rfl, hpos, Hmul.out, (by with_reducible repeat (first | exact Only.refl _ _ | assumption | refine Only.drewN ?_ _ | refine Only.drew ?_ | refine Only.alloc ?_ _ | refine Only.setCell ?_ (by intro hh; exfalso; simp at hh; try omega) _ | refine Only.trans ?_ (by assumption)))⟩
      case measure => simp [intOf]; omega
    · have he : j = n := by omega
      have hend := ord_end (T := T) (n := n) (i := j) (by omega)
      have hfin : m = PM.ordM T n (n - k) := by have := Hm.out; rw [hend, Nat.mul_one] at this; exact this
      have Hfin := Lib.hid hfin
      clear he hend hfin
      go_wp2
      go_ret
      exact ⟨ret_int (by rw [Hfin.out]), hK⟩
theorem implOrder0 {e : TypeId} {B : Nat} {L : Lay} {gv : Nat → Value} {n : Nat} {G : PM.Gens} {T : PM.Rows} {M F : List Nat} {w : World} (hC : Ch e B w L gv n G T M F) (hw : PM.WF n T) (hT : L.oT = 2) :
    Calls Tryz.prog 24 #[.pointer (some ⟨L.g, 0, none⟩), .int .i64 0] w fun e w' => e = .returned (.int .i64 (PM.ordM T n n : Nat)) ∧ Only [] w w' :=
  implOrder_any w hC hw hT 0 (Nat.zero_le _)
set_option maxHeartbeats 1000000 in
theorem implStateCount_any (cs : List Value) (x : Puzzle) (fp : List Nat) (w : World) (h : Rp.rep w cs x fp) :
    Calls Tryz.prog 109 #[.agg cs.toArray] w fun e w' => e = .returned (.int .i64 (if validPz x = true then (cardG x : Int) else 0)) ∧ Only [] w w' := by
  have h0 := h
  obtain ⟨v2, rfl, p0, p1, h2⟩ := h
  obtain ⟨A2, C2, ob, fps, rfl, -, -⟩ := h2.open_
  rcases hq : validPz x
  · go_enter Tryz.func109, Tryz.ntmps109
    go_wp2_with (first
      | (go_at_call 20; (with_reducible refine (implIsValidPuzzle_any [.int .i64 x.points, .string x.names, .slice A2 x.moves.length C2] x _ _ (Rp.keep h0 (by with_reducible repeat (first | exact Only.refl _ _ | assumption | refine Only.drewN ?_ _ | refine Only.drew ?_ | refine Only.alloc ?_ _ | refine Only.setCell ?_ (by intro hh; exfalso; simp at hh; try omega) _ | refine Only.trans ?_ (by assumption))))).mono ?_); rintro e w1 ⟨he, t1⟩; rw [hq] at he; subst he) | fail "no arm")
    go_ret
    exact ⟨rfl, (by with_reducible repeat (first | exact Only.refl _ _ | assumption | refine Only.drewN ?_ _ | refine Only.drew ?_ | refine Only.alloc ?_ _ | refine Only.setCell ?_ (by intro hh; exfalso; simp at hh; try omega) _ | refine Only.trans ?_ (by assumption)))⟩
  · obtain ⟨n1, n20, hml, -⟩ := validPz_facts hq
    have hmp := validPz_pn hq
    have Hmp := Lib.hid hmp
    clear hmp
    have X0 := Blk.new w [.int .i64 x.points, .string x.names, .slice A2 x.moves.length C2] 29
    simp only [List.toArray] at X0
    go_enter Tryz.func109, Tryz.ntmps109
    go_wp2_with (first
      | (go_at_call 20; (with_reducible refine (implIsValidPuzzle_any [.int .i64 x.points, .string x.names, .slice A2 x.moves.length C2] x _ _ (Rp.keep h0 (by with_reducible repeat (first | exact Only.refl _ _ | assumption | refine Only.drewN ?_ _ | refine Only.drew ?_ | refine Only.alloc ?_ _ | refine Only.setCell ?_ (by intro hh; exfalso; simp at hh; try omega) _ | refine Only.trans ?_ (by assumption))))).mono ?_); rintro e w1 ⟨he, t1⟩; rw [hq] at he; subst he; have X1 := X0.keep t1; have y0 := X1.cell 0 rfl; have y1 := X1.cell 1 rfl; have y2 := X1.cell 2 rfl)
      | (go_at_call 22; (with_reducible refine (implNewChain_i x.points n1 n20 _ x.moves _ _ (Rp.keep h2 (by with_reducible repeat (first | exact Only.refl _ _ | assumption | refine Only.drewN ?_ _ | refine Only.drew ?_ | refine Only.alloc ?_ _ | refine Only.setCell ?_ (by intro hh; exfalso; simp at hh; try omega) _ | refine Only.trans ?_ (by assumption)))) Hmp.out (by omega)).mono ?_); rintro en w3 ⟨L, gv, G, T, M, F, rfl, hoG, hoT, hC, hCh, t3⟩; have HC := Lib.hid hC; have HCh := Lib.hid hCh; have HoT := Lib.hid hoT; clear hC hCh hoT hoG)
      | (go_at_call 24; (with_reducible refine (implOrder0 HC.out HCh.out.inv.wf HoT.out).mono ?_); rintro en w4 ⟨he, t4⟩; rw [chain_card HCh.out (by omega) Hmp.out] at he; subst he) | fail "no arm")
    go_ret
    exact ⟨rfl, (by with_reducible repeat (first | exact Only.refl _ _ | assumption | refine Only.drewN ?_ _ | refine Only.drew ?_ | refine Only.alloc ?_ _ | refine Only.setCell ?_ (by intro hh; exfalso; simp at hh; try omega) _ | refine Only.trans ?_ (by assumption)))⟩
end Go.Proofs.YtndcifpbbnebmaaGreat

namespace Go.Proofs.YtndcifpbbnebmaaGreat
open Go.RowKit
set_option maxRecDepth 10000

/-- the sizes of the first levels -/
def orbL (n : Nat) (T : PM.Rows) (j : Nat) : List Int := (List.range j).map fun k => (PM.cntR n T k : Int)
theorem orbL_succ (n : Nat) (T : PM.Rows) (j : Nat) : orbL n T (j + 1) = orbL n T j ++ [(PM.cntR n T j : Int)] := by
  unfold orbL; rw [List.range_succ, List.map_append]; rfl
theorem orbL_len (n : Nat) (T : PM.Rows) (j : Nat) : (orbL n T j).length = j := by unfold orbL; simp
theorem orbL_get {n : Nat} {T : PM.Rows} {j k : Nat} (h : k < (orbL n T j).length) : (orbL n T j)[k] = (PM.cntR n T k : Int) := by simp only [orbL, List.getElem_map, List.getElem_range]
theorem orbTo_n (n : Nat) (T : PM.Rows) (k : Nat) : (orbTo n T k).length = PM.cntR n T k := rfl
theorem boolToInt_any (b : Bool) (w : World) :
    Calls Tryz.prog 88 #[.bool b] w fun e w' => e = .returned (.int .i64 (if b then 1 else 0)) ∧ w' = w := by
  cases b
  · go_enter Tryz.func88, Tryz.ntmps88
    go_wp2
    go_ret
    exact ⟨rfl, rfl⟩
  · go_enter Tryz.func88, Tryz.ntmps88
    go_wp2
    go_ret
    exact ⟨rfl, rfl⟩
set_option maxHeartbeats 4000000 in
theorem orbitSizes_any {e : TypeId} {B : Nat} {L : Lay} {gv : Nat → Value} {n : Nat} {G : PM.Gens} {T : PM.Rows} {M F : List Nat} (w : World) (hC : Ch e B w L gv n G T M F) (hT : L.oT = 1) :
    Calls Tryz.prog 75 #[.pointer (some ⟨L.g, 0, none⟩)] w fun e w' => ∃ v, e = .returned v ∧ AccI w.heap.size 2 w' v (orbL n T n) ∧ Only [] w w' := by
  obtain ⟨i0, hii, hz0, hz1, hz2⟩ := info_parts Tryz.info2
  have hn20 := hC.le
  have cn := hC.cn
  have ct := hC.ct
  rw [hT] at ct
  have HC := Lib.hid hC
  clear hC
  go_enter Tryz.func75, Tryz.ntmps75
  go_wp2
  go_loopw [3, 4] (fun o y wr => ∃ (i : Nat) (l : List Int), i ≤ n ∧ y = .int .i64 i ∧ Hid (l = orbL n T i) ∧ AccI w.heap.size 2 wr o l ∧ Only [] w wr)
    (fun _ y _ => n - (intOf y).toNat)
  case atStart => exact ⟨0, [], Nat.zero_le _, rfl, Lib.hid rfl, AccI.made w _ _ rfl (Nat.le_refl _), (Only.refl _ _).alloc _⟩
  case round =>
    obtain ⟨W2, hnew⟩ : ∃ W, W = wr := ⟨_, rfl⟩
    subst hnew
    obtain ⟨i, l, hi, rfl, hl, hA, hO⟩ := hrel
    have y0 := hO.cell (by simp) cn
    have hll : l.length ≤ 1000 := by rw [hl.out, orbL_len]; omega
    have hsz := hO.size
    by_cases hlt : i < n
    · have yt := hO.cell (by simp) ct
      have yr := hO.cell (by simp) (HC.out.row i hlt)
      have hltI : (i : Int) < (n : Int) := by omega
      have hC2 := Lib.hid (HC.out.keep hO)
      go_wp2_with fail
      go_loopw [5, 6] (fun s y wr => ∃ (j : Nat), j ≤ n ∧ y = .int .i64 j ∧ s = .int .i64 ((orbTo j T i).length : Nat) ∧ wr = W2)
        (fun _ y _ => n - (intOf y).toNat)
      case atStart => exact ⟨0, Nat.zero_le _, rfl, rfl, rfl⟩
      case round =>
        obtain ⟨j, hj, rfl, rfl, hww⟩ := hrel
        subst hww
        have hol := orbTo_len j T i
        by_cases hjl : j < n
        · have hsu := orbTo_succ j T i
          have hltJ : (j : Int) < (n : Int) := by omega
          by_cases ht : PM.tr T i (j : Int) = []
          · have c4 := hC2.out.at_nil hlt (y := (j : Int)) (by omega) (by omega) ht
            simp only [Int.toNat_natCast] at c4
            rw [if_pos ht] at hsu
            have Hsu := Lib.hid hsu
            obtain ⟨s, hs⟩ : ∃ s, s = (orbTo j T i).length := ⟨_, rfl⟩
            rw [← hs] at hol ⊢
            have Hs := Lib.hid hs
            clear ht hsu hs
            go_wp2_with (first
              | (go_at_call 88; (with_reducible refine (boolToInt_any false _).mono ?_); rintro en w5 ⟨rfl, h5⟩; rw [h5]; clear h5)
              | fail "no arm")
            go_roundw
            case rel => exact ⟨j + 1, by omega, by go_num, by rw [Hsu.out, ← Hs.out], trivial⟩
            case measure => simp [intOf]; omega
          · obtain ⟨b4, off4, cap4, f4, c4, -, -⟩ := hC2.out.at_some hlt (y := (j : Int)) (by omega) (by omega) ht
            simp only [Int.toNat_natCast] at c4
            have hpos : (0 : Int) < ((PM.tr T i (j : Int)).length : Int) := by have := List.length_pos_iff.2 ht; omega
            have hposN : 0 < (PM.tr T i (j : Int)).length := List.length_pos_iff.2 ht
            rw [if_neg ht] at hsu
            have hsl : (orbTo (j + 1) T i).length = (orbTo j T i).length + 1 := by rw [hsu]; simp
            have Hsl := Lib.hid hsl
            obtain ⟨s, hs⟩ : ∃ s, s = (orbTo j T i).length := ⟨_, rfl⟩
            rw [← hs] at hol ⊢
            have Hs := Lib.hid hs
            clear ht hsu hs hsl
            go_wp2_with (first
              | (go_at_call 88; (with_reducible refine (boolToInt_any true _).mono ?_); rintro en w5 ⟨rfl, h5⟩; rw [h5]; clear h5)
              | fail "no arm")
            go_roundw
            case rel => exact ⟨j + 1, by omega, by go_num, by rw [Hsl.out, ← Hs.out]; go_num, trivial⟩
            case measure => simp [intOf]; omega
        · obtain rfl : j = n := by omega
          have hge : ¬ ((j : Int) < (j : Int)) := by omega
          have hcs : (orbTo j T i).length = PM.cntR j T i := orbTo_n j T i
          have hcl := PM.cntR_le j T i
          have HI := Lib.hid (show I64 ((PM.cntR j T i : Nat) : Int) by unfold I64; omega)
          rw [hcs]
          clear hcs hol
          go_wp2_with (first
            | (at_builtin; refine wpList_pushI rfl _ _ 32 rfl w.heap.size 2 i0 _ Tryz.underlying32 hii hz0 hz1 hz2 rfl wr u3 l rfl hA ((Only.refl _ _).alloc _) hsz wr.heap.size 1 ((PM.cntR j T i : Nat) : Int) rfl (lit1 wr _ _ rfl) HI.out (by omega) ?_; intro v3 w3 hA3 hO3 hP3 hN3)
            | fail "no arm")
          go_roundw
          case rel => exact ⟨i + 1, _, by omega, by go_num, Lib.hid (by rw [orbL_succ, ← hl.out]), hA3, hP3 w (hO.alloc _) (Nat.le_refl _)⟩
          case measure => simp [intOf]; omega
    · obtain rfl : i = n := by omega
      have hge : ¬ ((i : Int) < (i : Int)) := by omega
      have hfl : l = orbL i T i := hl.out
      have Hfl := Lib.hid hfl
      clear hfl hl
      go_wp2
      go_ret
      exact ⟨u3, rfl, by rw [← Hfl.out]; exact hA, hO⟩
end Go.Proofs.YtndcifpbbnebmaaGreat

namespace Go.Proofs.YtndcifpbbnebmaaGreat
open Go.RowKit
set_option maxRecDepth 10000

/-- how many members fix the first points, by the levels that are left -/
noncomputable def ordC (n : Nat) (gens : List (List Int)) (j : Nat) : Nat := PM.ordM (PM.chainR n gens) n j
/-- the selection of a rank -/
noncomputable def msel (n : Nat) (gens : List (List Int)) (k i _len : Nat) : Nat := (k % ordC n gens (n - i)) / ordC n gens (n - (i + 1))
noncomputable def memAt (n : Nat) (gens : List (List Int)) (k : Nat) : List Int := PM.descG n gens (msel n gens k)
section
variable {n : Nat} {gens : List (List Int)} {G : PM.Gens} {T : PM.Rows} (h : PM.Chain n gens G T) (hn : 0 < n) (hp : ∀ g ∈ gens, PM.PN n g)
include h hn hp
theorem ordC_eq {j : Nat} (hj : j ≤ n) : PM.ordM T n j = ordC n gens j := by
  obtain ⟨G', h'⟩ := h.chainR
  exact h.ordM_congr hn hp h' j hj
theorem ordC_step {i : Nat} (hi : i < n) : ordC n gens (n - i) = PM.cntR n T i * ordC n gens (n - (i + 1)) := by
  rw [← ordC_eq h hn hp (by omega), ← ordC_eq h hn hp (by omega)]
  exact ord_step hi
theorem ordC_pos {j : Nat} (hj : j ≤ n) : 1 ≤ ordC n gens j := by
  rw [← ordC_eq h hn hp hj]
  exact (PM.ordM_rng h.inv.wf j hj).1
theorem ordC_le (hn20 : n ≤ 20) {j : Nat} (hj : j ≤ n) : ordC n gens j ≤ 2432902008176640000 := by
  rw [← ordC_eq h hn hp hj]
  exact PM.ordM_le h.inv.wf hn20 hj
theorem msel_good (k : Nat) : ∀ i, i < n → msel n gens k i (PM.cntR n T i) < PM.cntR n T i := fun i hi => by
  unfold msel
  have h1 := ordC_pos h hn hp (j := n - (i + 1)) (by omega)
  have h2 := ordC_pos h hn hp (j := n - i) (by omega)
  have h3 := ordC_step h hn hp hi
  refine Nat.div_lt_of_lt_mul ?_
  rw [Nat.mul_comm, ← h3]
  exact Nat.mod_lt _ h2
theorem mod_step (k : Nat) {i : Nat} (hi : i < n) : k % ordC n gens (n - i) % ordC n gens (n - (i + 1)) = k % ordC n gens (n - (i + 1)) :=
  Nat.mod_mod_of_dvd k ⟨PM.cntR n T i, by rw [ordC_step h hn hp hi, Nat.mul_comm]⟩
end
theorem tdiv_nat (a b : Nat) : Int.tdiv (a : Int) (b : Int) = ((a / b : Nat) : Int) := by
  rw [Int.tdiv_eq_ediv_of_nonneg (by omega)]; rfl
theorem tmod_nat (a b : Nat) : Int.tmod (a : Int) (b : Int) = ((a % b : Nat) : Int) := by
  rw [Int.tmod_eq_emod_of_nonneg (by omega)]; rfl
/-- the next value of a scramble's generator -/
def nxR (s : Int) : Int := (48271 * (s % 2147483647) + 11) % 2147483647
theorem nxR_rng (s : Int) : 0 ≤ nxR s ∧ nxR s < 2147483647 := ⟨Int.emod_nonneg _ (by decide), Int.emod_lt_of_pos _ (by decide)⟩
theorem tmod_fixR (s : Int) : (if s.tmod 2147483647 < 0 then s.tmod 2147483647 + 2147483647 else s.tmod 2147483647) = s % 2147483647 := by
  have h1 := Int.mul_tdiv_add_tmod s 2147483647
  have h2 := Int.tmod_lt_of_pos s (show (0:Int) < 2147483647 by decide)
  have h3 := Int.lt_tmod_of_pos s (show (0:Int) < 2147483647 by decide)
  split <;> omega
theorem tmod_rngR (s : Int) : -2147483647 < s.tmod 2147483647 ∧ s.tmod 2147483647 < 2147483647 :=
  ⟨Int.lt_tmod_of_pos s (by decide), Int.tmod_lt_of_pos s (by decide)⟩
theorem implNextRandom_any (x : Int) (w : World) :
    Calls Tryz.prog 9 #[.int .i64 x] w fun e w' => e = .returned (.int .i64 (nxR x)) ∧ w' = w := by
  have hf := tmod_fixR x
  have hr := tmod_rngR x
  obtain ⟨r, hrd⟩ : ∃ r, r = x.tmod 2147483647 := ⟨_, rfl⟩
  have hrw : Int.tmod x 2147483647 = r := hrd.symm
  rw [← hrd] at hf hr
  obtain ⟨y, hy⟩ : ∃ y, y = x % 2147483647 := ⟨_, rfl⟩
  have hy0 : 0 ≤ y ∧ y < 2147483647 := by rw [hy]; exact ⟨Int.emod_nonneg _ (by decide), Int.emod_lt_of_pos _ (by decide)⟩
  have hn : nxR x = (48271 * y + 11) % 2147483647 := by unfold nxR; rw [← hy]
  rw [← hy] at hf
  have hw1 : IntKind.i64.wrap (r + 2147483647) = r + 2147483647 := by rw [IntKind.wrap_i64]; omega
  have hw2 : IntKind.i64.wrap (48271 * y) = 48271 * y := by rw [IntKind.wrap_i64]; omega
  have hw3 : IntKind.i64.wrap (48271 * y + 11) = 48271 * y + 11 := by rw [IntKind.wrap_i64]; omega
  have ht : Int.tmod (48271 * y + 11) 2147483647 = (48271 * y + 11) % 2147483647 := Int.tmod_eq_emod_of_nonneg (by omega)
  obtain ⟨z, hz⟩ : ∃ z, z = (48271 * y + 11) % 2147483647 := ⟨_, rfl⟩
  rw [hn, ← hz]
  rw [← hz] at ht
  clear hn hz hrd hy
  by_cases hneg : r < 0
  · rw [if_pos hneg] at hf
    obtain rfl : y = r + 2147483647 := hf.symm
    clear hf
    go_enter Tryz.func9, Tryz.ntmps9
    go_wp2
    go_ret
    exact ⟨rfl, rfl⟩
  · rw [if_neg hneg] at hf
    obtain rfl : r = y := hf
    go_enter Tryz.func9, Tryz.ntmps9
    go_wp2
    go_ret
    exact ⟨rfl, rfl⟩
theorem specNextRandom_any (x : Int) (w : World) :
    Calls Tryz.prog 11 #[.int .i64 x] w fun e w' => e = .returned (.int .i64 (nxR x)) ∧ w' = w := by
  have hf := tmod_fixR x
  have hr := tmod_rngR x
  obtain ⟨r, hrd⟩ : ∃ r, r = x.tmod 2147483647 := ⟨_, rfl⟩
  have hrw : Int.tmod x 2147483647 = r := hrd.symm
  rw [← hrd] at hf hr
  obtain ⟨y, hy⟩ : ∃ y, y = x % 2147483647 := ⟨_, rfl⟩
  have hy0 : 0 ≤ y ∧ y < 2147483647 := by rw [hy]; exact ⟨Int.emod_nonneg _ (by decide), Int.emod_lt_of_pos _ (by decide)⟩
  have hn : nxR x = (48271 * y + 11) % 2147483647 := by unfold nxR; rw [← hy]
  rw [← hy] at hf
  have hw1 : IntKind.i64.wrap (r + 2147483647) = r + 2147483647 := by rw [IntKind.wrap_i64]; omega
  have hw2 : IntKind.i64.wrap (48271 * y) = 48271 * y := by rw [IntKind.wrap_i64]; omega
  have hw3 : IntKind.i64.wrap (48271 * y + 11) = 48271 * y + 11 := by rw [IntKind.wrap_i64]; omega
  have ht : Int.tmod (48271 * y + 11) 2147483647 = (48271 * y + 11) % 2147483647 := Int.tmod_eq_emod_of_nonneg (by omega)
  obtain ⟨z, hz⟩ : ∃ z, z = (48271 * y + 11) % 2147483647 := ⟨_, rfl⟩
  rw [hn, ← hz]
  rw [← hz] at ht
  clear hn hz hrd hy
  by_cases hneg : r < 0
  · rw [if_pos hneg] at hf
    obtain rfl : y = r + 2147483647 := hf.symm
    clear hf
    go_enter Tryz.func11, Tryz.ntmps11
    go_wp2
    go_ret
    exact ⟨rfl, rfl⟩
  · rw [if_neg hneg] at hf
    obtain rfl : r = y := hf
    go_enter Tryz.func11, Tryz.ntmps11
    go_wp2
    go_ret
    exact ⟨rfl, rfl⟩
theorem implIsSeed_any (x : Int) (w : World) : Calls Tryz.prog 21 #[.int .i64 x] w fun e w' => e = .returned (.bool (inR x 0 2147483646)) ∧ w' = w := by
  go_enter Tryz.func21, Tryz.ntmps21
  go_wp2_with (first
    | (go_at_call 41; (with_reducible refine (within_any x 0 2147483646 _).mono ?_); rintro e w1 ⟨rfl, rfl⟩)
    | fail "no arm")
  go_ret
  exact ⟨rfl, rfl⟩

end Go.Proofs.YtndcifpbbnebmaaGreat

namespace Go.Proofs.YtndcifpbbnebmaaGreat
open Go.RowKit
set_option maxRecDepth 10000

/-- the members of each choice, for the levels from j on -/
def perL (n : Nat) (T : PM.Rows) (j : Nat) : List Int := (List.range n).map fun k => if j ≤ k then (PM.ordM T n (n - (k + 1)) : Int) else 0
theorem perL_len (n : Nat) (T : PM.Rows) (j : Nat) : (perL n T j).length = n := by unfold perL; simp
theorem perL_n (n : Nat) (T : PM.Rows) : perL n T n = List.replicate n 0 := by
  unfold perL
  apply List.ext_getElem (by simp)
  intro k h1 h2
  have hk : k < n := by simpa using h2
  simp only [List.getElem_map, List.getElem_range, List.getElem_replicate]
  rw [if_neg (by omega)]
theorem perL_set {n : Nat} {T : PM.Rows} {j : Nat} (_hj : j < n) : (perL n T (j + 1)).set j (PM.ordM T n (n - (j + 1)) : Int) = perL n T j := by
  apply List.ext_getElem (by simp [perL_len])
  intro k h1 h2
  rw [List.getElem_set]
  simp only [perL, List.getElem_map, List.getElem_range]
  by_cases hk : j = k
  · subst hk; rw [if_pos rfl, if_pos (Nat.le_refl _)]
  · rw [if_neg hk]
    by_cases h : j ≤ k
    · rw [if_pos h, if_pos (by omega)]
    · rw [if_neg h, if_neg (by omega)]
theorem perL_get {n : Nat} {T : PM.Rows} {k : Nat} (h : k < (perL n T 0).length) : (perL n T 0)[k] = (PM.ordM T n (n - (k + 1)) : Int) := by
  simp only [perL, List.getElem_map, List.getElem_range]
  rw [if_pos (Nat.zero_le _)]
theorem AccI.low2 {B B' : Nat} {e : TypeId} {w : World} {v : Value} {l : List Int} (h : AccI B e w v l) (hB : B' ≤ B) : AccI B' e w v l := by
  obtain ⟨h1, h2⟩ := h.row
  refine AccI.ofRow ⟨h1.1, ?_⟩ h2
  rcases h1.2 with h3 | ⟨g, cap, cur, h3, h4, h5⟩
  · exact .inl h3
  · exact .inr ⟨g, cap, cur, h3, Nat.le_trans hB h4, h5⟩
theorem perL_i64 {n : Nat} {T : PM.Rows} (hw : PM.WF n T) (hn20 : n ≤ 20) (j : Nat) : ∀ x ∈ perL n T j, I64 x := fun x hx => by
  obtain ⟨k, hk, rfl⟩ := List.mem_map.1 hx
  have hkn := List.mem_range.1 hk
  split
  · have := PM.ordM_le hw hn20 (m := n - (k + 1)) (by omega)
    unfold I64; omega
  · unfold I64; omega
set_option maxHeartbeats 2000000 in
theorem chainOrder_any {e : TypeId} {B : Nat} {L : Lay} {gv : Nat → Value} {n : Nat} {G : PM.Gens} {T : PM.Rows} {M F : List Nat} (w : World) (hC : Ch e B w L gv n G T M F) (hw : PM.WF n T) (hT : L.oT = 1) :
    Calls Tryz.prog 60 #[.pointer (some ⟨L.g, 0, none⟩)] w fun e w' => e = .returned (.int .i64 (PM.ordM T n n : Nat)) ∧ Only [] w w' := by
  have hn20 := hC.le
  have HcS := Lib.hid (orbitSizes_any w hC hT)
  obtain ⟨sz, hsz⟩ : ∃ sz, sz = orbL n T n := ⟨_, rfl⟩
  rw [← hsz] at HcS
  have hszl : sz.length = n := by rw [hsz, orbL_len]
  have Hszl := Lib.hid hszl
  have Hsz := Lib.hid hsz
  have Hw := Lib.hid hw
  clear hC hw hsz hszl
  go_enter Tryz.func60, Tryz.ntmps60
  go_wp2_with (first
    | (go_at_call 75; (with_reducible refine (HcS.out).mono ?_); rintro en w1 ⟨v1, rfl, hA, t1⟩; obtain ⟨a1, c1, rfl, I1⟩ := hA.rd.ints)
    | fail "no arm")
  go_loopw [3, 5] (fun o i wr => ∃ (j m : Nat), j ≤ n ∧ i = .int .i64 j ∧ o = .int .i64 (m : Nat) ∧ 1 ≤ m ∧ m * PM.ordM T n (n - j) = PM.ordM T n n ∧ wr = w1)
    (fun _ i _ => n - (intOf i).toNat)
  case atStart => exact ⟨0, 1, Nat.zero_le _, rfl, rfl, Nat.le_refl _, by rw [Nat.one_mul, Nat.sub_zero], rfl⟩
  case round =>
    obtain ⟨j, m, hj, rfl, rfl, hm1, hm, hww⟩ := hrel
    have Hm := Lib.hid hm
    clear hm
    by_cases hlt : j < n
    · have hjs : j < sz.length := by rw [Hszl.out]; exact hlt
      have hjI : (j : Int) < (sz.length : Int) := by omega
      obtain ⟨b2, o2, rfl, -, c2⟩ := I1.at_ j hjs
      have hg : sz[j] = (PM.cntR n T j : Int) := by have h1 := Hsz.out; subst h1; exact orbL_get hjs
      rw [hg] at c2
      have hstep := ord_step (T := T) hlt
      have hcp := PM.cntR_pos Hw.out hlt
      have hor := PM.ordM_rng Hw.out (n - (j + 1)) (by omega)
      have hmul : (m * PM.cntR n T j) * PM.ordM T n (n - (j + 1)) = PM.ordM T n n := by rw [Nat.mul_assoc, ← hstep]; exact Hm.out
      have hle : m * PM.cntR n T j ≤ 2432902008176640000 := by
        have h1 := PM.ordM_le Hw.out hn20 (m := n) (Nat.le_refl _)
        have h2 : m * PM.cntR n T j ≤ (m * PM.cntR n T j) * PM.ordM T n (n - (j + 1)) := Nat.le_mul_of_pos_right _ hor.1
        omega
      have hpos : 1 ≤ m * PM.cntR n T j := Nat.mul_le_mul hm1 hcp
      obtain ⟨cn, hcnn⟩ : ∃ cn, cn = PM.cntR n T j := ⟨_, rfl⟩
      rw [← hcnn] at hmul hle hpos c2
      have Hmul := Lib.hid hmul
      have hwr : IntKind.i64.wrap ((m : Int) * (cn : Int)) = ((m * cn : Nat) : Int) := by rw [IntKind.wrap_i64]; push_cast; omega
      subst hww
      clear hstep hor hmul hcnn hcp hg
      go_wp2
      go_roundw
      case rel => exact ⟨j + 1, m * cn, by omega, by go_num, rfl, hpos, Hmul.out, trivial⟩
      case measure => simp [intOf]; omega
    · have he : j = n := by omega
      have hend := ord_end (T := T) (n := n) (i := j) (by omega)
      have hfin : m = PM.ordM T n n := by have := Hm.out; rw [hend, Nat.mul_one] at this; exact this
      have Hfin := Lib.hid hfin
      have hjI : ¬ ((j : Int) < (sz.length : Int)) := by rw [Hszl.out]; omega
      subst hww
      clear he hend hfin
      go_wp2
      go_ret
      exact ⟨ret_int (by rw [Hfin.out]), t1⟩
set_option maxHeartbeats 2000000 in
theorem perChoice_any {e : TypeId} {B : Nat} {L : Lay} {gv : Nat → Value} {n : Nat} {G : PM.Gens} {T : PM.Rows} {M F : List Nat} (w : World) (hC : Ch e B w L gv n G T M F) (hw : PM.WF n T) (hT : L.oT = 1) :
    Calls Tryz.prog 51 #[.pointer (some ⟨L.g, 0, none⟩)] w fun e w' => ∃ v, e = .returned v ∧ AccI w.heap.size 2 w' v (perL n T 0) ∧ Only [] w w' := by
  obtain ⟨i0, hi, hz0, hz1, hz2⟩ := info_parts Tryz.info2
  have hn20 := hC.le
  have hn1 := hC.pos
  have HcS := Lib.hid (orbitSizes_any w hC hT)
  have Hw := Lib.hid hw
  clear hC hw
  go_enter Tryz.func51, Tryz.ntmps51
  go_wp2_with (first
    | (go_at_call 75; (with_reducible refine (HcS.out).mono ?_); rintro en w1 ⟨v1, rfl, hA, t1⟩; have z1 := t1.size; have hA' := hA; obtain ⟨a1, c1, he1, I1⟩ := hA.rd.ints; rw [orbL_len] at he1; subst he1)
    | (at_make; refine wpList_make_full _ rfl _ _ 32 rfl w1.heap.size 2 i0 _ 1 Tryz.underlying32 hi hz0 hz1 _ _ _ _ n rfl rfl rfl rfl (by rw [hz2]; omega) (by unfold maxLen; omega) (Nat.le_refl _) ?_; intro w2 hown hg)
    | fail "no arm")
  rw [madeInts, Nat.mul_one] at hown
  have o2 : Only [] w1 w2 := (Only.refl _ _).grown hg (by simp)
  have I2 := I1.keep o2
  have hown0 : w2.ownsRow w1.heap.size 2 1 (.slice (some ⟨w1.heap.size, 0, none⟩) n n) n ((perL n T n).map (Value.int .i64)) := by rw [perL_n, map_zero]; exact hown
  have k2 : Only [] w w2 := t1.trans o2
  have h1n : w1.heap.size < w2.heap.size := (hown.lt w1.heap.size rfl).2
  have hon : PM.ordM T n (n - n) = 1 := ord_end (Nat.le_refl _)
  have Hon := Lib.hid hon
  have HO0 := Lib.hid hown0
  have hfr := hA.fresh
  have hoL := orbL_len n T n
  have HoL := Lib.hid hoL
  clear hown hg hown0 hA hA' I1 hon hoL
  have hw0 : IntKind.i64.wrap ((n : Int) - 1) = (n : Int) - 1 := by rw [IntKind.wrap_i64]; omega
  go_wp2_with fail
  go_loopw [5, 6] (fun c i wr => ∃ (j : Nat) (x : Int), j ≤ n ∧ x = (j : Int) - 1 ∧ i = .int .i64 x ∧ c = .int .i64 (PM.ordM T n (n - j) : Nat) ∧
      wr.ownsRow w1.heap.size 2 1 (.slice (some ⟨w1.heap.size, 0, none⟩) n n) n ((perL n T j).map (Value.int .i64)) ∧ Only [w1.heap.size] w2 wr)
    (fun _ i _ => ((intOf i) + 1).toNat)
  case atStart => exact ⟨n, (n : Int) - 1, Nat.le_refl _, rfl, by go_num, by rw [Hon.out]; rfl, HO0.out, Only.refl _ _⟩
  case round =>
    obtain ⟨W2, hnew⟩ : ∃ W, W = wr := ⟨_, rfl⟩
    subst hnew
    obtain ⟨j, x, hj, hx, rfl, rfl, hO, hK⟩ := hrel
    cases j with
    | zero =>
      have hxn : ¬ (0 ≤ x) := by omega
      have hxn2 : x < 0 := by omega
      have hA0 := AccI.ofRow (l := perL n T 0) (by rw [perL_len]; exact hO) (perL_i64 Hw.out hn20 0)
      have HA0 := Lib.hid hA0
      have Hx := Lib.hid hx
      clear hA0 hO hx
      go_wp2
      go_ret
      exact ⟨_, rfl, AccI.low2 HA0.out z1, k2.then_ hK (fun z hz hl => by simp at hz; omega)⟩
    | succ j =>
      obtain rfl : x = (j : Int) := by omega
      have hlt : j < n := by omega
      have hjs : j < (orbL n T n).length := by rw [HoL.out]; exact hlt
      have hjI : (j : Int) < (n : Int) := by omega
      obtain ⟨b2, o2', rfl, -, c2⟩ := (I2.only hK (fun b hb hm => by have := hfr.lt b hb; have := hfr.ge b hb; simp at hm; omega)).at_ j hjs
      rw [orbL_get hjs] at c2
      obtain ⟨hO2, hg2⟩ := hO.stored j (.int .i64 (PM.ordM T n (n - (j + 1)) : Nat))
      have hstep : ((perL n T (j + 1)).map (Value.int .i64)).set j (.int .i64 (PM.ordM T n (n - (j + 1)) : Nat)) = (perL n T j).map (Value.int .i64) := by
        rw [← perL_set hlt, List.map_set]
      rw [hstep] at hO2
      have hc2 : ∃ u, W2.cell? ⟨w1.heap.size, j, none⟩ = some (.int .i64 u) := by
        rw [hO.cellAt _ (by omega)]
        have : j < (perL n T (j + 1)).length := by rw [perL_len]; exact hlt
        exact ⟨(perL n T (j + 1))[j], by simp [this]⟩
      obtain ⟨u, hc2⟩ := hc2
      have hf2 := hO.frozenAt j
      have hs2 : Only [w1.heap.size] W2 (W2.setCell ⟨w1.heap.size, j, none⟩ (.int .i64 (PM.ordM T n (n - (j + 1)) : Nat))) := (Only.refl _ _).setCell (by simp) _
      have hK2 := hK.trans hs2
      have hne2 : b2 ≠ w1.heap.size := by have := hfr.lt b2 (by simp [Value.ownBlock]); omega
      have c3 := hs2.cell (by simp; exact hne2) c2
      have hord := ord_step (T := T) hlt
      have hle := PM.ordM_le Hw.out hn20 (m := n - j) (by omega)
      obtain ⟨cn, hcn⟩ : ∃ cn, cn = PM.cntR n T j := ⟨_, rfl⟩
      obtain ⟨r, hr⟩ : ∃ r, r = PM.ordM T n (n - (j + 1)) := ⟨_, rfl⟩
      obtain ⟨q, hq⟩ : ∃ q, q = PM.ordM T n (n - j) := ⟨_, rfl⟩
      rw [← hcn, ← hr, ← hq] at hord
      rw [← hq] at hle
      rw [← hcn] at c2 c3
      rw [← hr] at hO2 hs2 hK2 c3 ⊢
      have hwr : IntKind.i64.wrap ((r : Int) * (cn : Int)) = (q : Int) := by rw [IntKind.wrap_i64, hord, Nat.mul_comm cn r]; push_cast; rw [hord, Nat.mul_comm cn r] at hle; omega
      have hwi : IntKind.i64.wrap ((j : Int) - 1) = (j : Int) - 1 := by rw [IntKind.wrap_i64]; omega
      have HO := Lib.hid hO2
      have Hq := Lib.hid hq
      have hx0 : 0 ≤ (j : Int) := by omega
      clear hO hO2 hg2 hstep hord hcn hr hq hx hs2
      go_wp2
      go_roundw
      case rel => exact ⟨j, (j : Int) - 1, by omega, rfl, by go_num, by rw [← Hq.out], HO.out, hK2⟩
      case measure => simp [intOf]; try omega
end Go.Proofs.YtndcifpbbnebmaaGreat

namespace Go.Proofs.YtndcifpbbnebmaaGreat
open Go.RowKit
set_option maxRecDepth 10000


end Go.Proofs.YtndcifpbbnebmaaGreat

namespace Go.Proofs.YtndcifpbbnebmaaGreat
open Go.RowKit
set_option maxRecDepth 10000
open Go.Maps (Keyed)

theorem Tryz.lawI64 : Keyed Tryz.prog 2 := Go.Maps.int_keyed Tryz.underlying2
theorem Tryz.zeroV64 (w : World) : (zeroValue 2).run Tryz.prog w = .ok (.int .i64 0) w := by kernel_rfl
/-- block M is a map of at most k entries; g: what lies at a key -/
def Mpv (w : World) (M k : Nat) (g : Int → Option Int) : Prop :=
  ∃ D : DataW Unit, w.ownsMap Tryz.prog 2 (plainElem Tryz.prog 2) M k D ∧ ∀ s : Int, I64 s →
    Go.Maps.has D (.int .i64 s) = (g s).isSome ∧ ∀ n, g s = some n → D.atKey (.int .i64 s) (.lit (.int .i64 0)) = .lit (.int .i64 n)
theorem Mpv.lt {w : World} {M k : Nat} {g : Int → Option Int} (h : Mpv w M k g) : M < w.heap.size := by
  obtain ⟨D, h1, -⟩ := h; exact h1.lt
theorem Mpv.frame {w w' : World} {M k : Nat} {g : Int → Option Int} (h : Mpv w M k g) (hf : w'.heap[M]? = w.heap[M]?) : Mpv w' M k g := by
  obtain ⟨D, ⟨es, c, h1, h2⟩, h3⟩ := h
  exact ⟨D, ⟨es, c, by rw [hf]; exact h1, h2⟩, h3⟩
theorem Mpv.only {w w' : World} {fp : List Nat} {M k : Nat} {g : Int → Option Int} (h : Mpv w M k g) (ho : Only fp w w') (hn : M ∉ fp) : Mpv w' M k g := h.frame (ho.block M h.lt hn)
theorem Mpv.keep {w w' : World} {M k : Nat} {g : Int → Option Int} (h : Mpv w M k g) (ho : Only [] w w') : Mpv w' M k g := h.only ho (by simp)
theorem Mpv.made (w : World) {M : Nat} (hM : M = w.heap.size) : Mpv (w.alloc (.map #[] 0)) M 0 (fun _ => none) := by
  subst hM
  exact ⟨.map [], World.ownsMap_made _ _ _ _, fun s _ => ⟨rfl, by simp⟩⟩
theorem Mpv.congr {w : World} {M k : Nat} {g g' : Int → Option Int} (h : Mpv w M k g) (hg : ∀ s, g s = g' s) : Mpv w M k g' := by
  have : g = g' := funext hg
  rw [← this]; exact h
section
variable {w : World} {M k : Nat} {g : Int → Option Int}
/-- v, ok := m[k], as an equation -/
theorem Mpv.run_ok (h : Mpv w M k g) {s : Int} (hs : I64 s) : (Instr.lookup 100 (.map (some M)) (.int .i64 s) true).run Tryz.prog w = .ok (.tuple #[.int .i64 ((g s).getD 0), .bool (g s).isSome]) w := by
  obtain ⟨D, hown, hg⟩ := h
  obtain ⟨h1, h2⟩ := hg s hs
  obtain ⟨v, ps, hrun, hv⟩ := hown.look_ok Tryz.lawI64 Tryz.underlying100 (Tryz.zeroV64 w) (plainElem_int Tryz.underlying2 (by decide)) (Go.Maps.keyOf_int_mk Tryz.underlying2 (WalkArith.wf_i64 hs))
  obtain ⟨c, rfl, hc, -⟩ := plainElem_int_inv Tryz.underlying2 hv
  have hc1 : D.atKey (.int .i64 s) (.lit (.int .i64 0)) = .lit (.int .i64 c) := congrArg Prod.fst hc
  have hcv : c = (g s).getD 0 := by
    cases hgs : g s with
    | none =>
      rw [hgs] at h1
      rw [Go.Maps.atKey_of_not_has h1] at hc1
      injection hc1 with hc1; injection hc1 with _ hc1; simp [hc1]
    | some n =>
      rw [h2 n hgs] at hc1
      injection hc1 with hc1; injection hc1 with _ hc1; simp [hc1]
  rw [hrun, hcv, h1]
theorem Mpv.run_no (h : Mpv w M k g) {s : Int} (hs : I64 s) (hg : g s = none) : (Instr.lookup 100 (.map (some M)) (.int .i64 s) true).run Tryz.prog w = .ok (.tuple #[.int .i64 0, .bool false]) w := by
  rw [h.run_ok hs, hg]; rfl
theorem Mpv.run_yes (h : Mpv w M k g) {s : Int} (hs : I64 s) {n : Int} (hg : g s = some n) : (Instr.lookup 100 (.map (some M)) (.int .i64 s) true).run Tryz.prog w = .ok (.tuple #[.int .i64 n, .bool true]) w := by
  rw [h.run_ok hs, hg]; rfl
/-- m[k] -/
theorem Mpv.run_at (h : Mpv w M k g) {s : Int} (hs : I64 s) : (Instr.lookup 100 (.map (some M)) (.int .i64 s) false).run Tryz.prog w = .ok (.int .i64 ((g s).getD 0)) w := by
  obtain ⟨D, hown, hg⟩ := h
  obtain ⟨h1, h2⟩ := hg s hs
  obtain ⟨c, hrun, hc1, -⟩ := hown.lookup_int Tryz.lawI64 Tryz.underlying100 Tryz.underlying2 (Tryz.zeroV64 w) (Go.Maps.keyOf_int_mk Tryz.underlying2 (WalkArith.wf_i64 hs))
  have hcv : c = (g s).getD 0 := by
    cases hgs : g s with
    | none =>
      rw [hgs] at h1
      rw [Go.Maps.atKey_of_not_has h1] at hc1
      injection hc1 with hc1; injection hc1 with _ hc1; simp [hc1]
    | some n =>
      rw [h2 n hgs] at hc1
      injection hc1 with hc1; injection hc1 with _ hc1; simp [hc1]
  rw [hrun, hcv]
theorem Mpv.run_at_yes (h : Mpv w M k g) {s : Int} (hs : I64 s) {n : Int} (hg : g s = some n) : (Instr.lookup 100 (.map (some M)) (.int .i64 s) false).run Tryz.prog w = .ok (.int .i64 n) w := by
  rw [h.run_at hs, hg]; rfl
/-- m[k] = v -/
theorem Mpv.run_put (h : Mpv w M k g) {s : Int} (hs : I64 s) {n : Int} (hn : I64 n) (hk : k < maxLen) :
    ∃ w', (Instr.mapUpdate 100 (.map (some M)) (.int .i64 s) (.int .i64 n)).run Tryz.prog w = .ok () w' ∧ Mpv w' M (k + 1) (fun s' => if s' = s then some n else g s') ∧ Only [M] w w' := by
  obtain ⟨D, hown, hg⟩ := h
  have hwf : (Lit.int .i64 n).wf = true := WalkArith.wf_i64 hn
  obtain ⟨w', hrun, r1, r2⟩ := hown.store Tryz.lawI64 Tryz.underlying100 hk (Go.Maps.keyOf_int_mk Tryz.underlying2 (WalkArith.wf_i64 hs)) (plainElem_int Tryz.underlying2 hwf)
  have hmap := hown.isMap
  refine ⟨w', hrun, ⟨_, r1, fun s' hs' => ?_⟩, ?_⟩
  · by_cases he : s' = s
    · subst he
      have hkl : WideAt.IsKeyLit (Lit.int .i64 s') := trivial
      exact ⟨by rw [Go.Maps.has_put_same hmap hkl]; simp, fun m' hm' => by
        rw [Go.Maps.atKey_put_same hmap hkl]; simp at hm'; rw [hm']⟩
    · have hne : (Lit.int .i64 s') ≠ .int .i64 s := by
        intro e; injection e with _ e; exact he e
      obtain ⟨h1, h2⟩ := hg s' hs'
      exact ⟨by rw [Go.Maps.has_put_other hne, h1]; simp [he], fun m' hm' => by
        rw [Go.Maps.atKey_put_other hne]; simp [he] at hm'; exact h2 m' hm'⟩
  · exact (Only.refl _ _).grown r2.grown (by intro j hj _; injection hj with hj; subst hj; simp)
end
end Go.Proofs.YtndcifpbbnebmaaGreat

namespace Go.Proofs.YtndcifpbbnebmaaGreat
open Go.RowKit
set_option maxRecDepth 10000

/-- a value's point -/
def gV (m ys : List Int) (x : Int) : Option Int := if x ∈ PM.choO m ys then some (PM.at_ (PM.inv m) x) else none
theorem gV_nil (m : List Int) (x : Int) : gV m [] x = none := rfl
theorem gV_snoc {n : Nat} {m : List Int} (hm : PM.PN n m) {ys : List Int} {y : Int} (h0 : 0 ≤ y) (h1 : y < n) (x : Int) : (if x = PM.at_ m y then some y else gV m ys x) = gV m (ys ++ [y]) x := by
  unfold gV
  rw [PM.choO_snoc]
  by_cases hx : x = PM.at_ m y
  · rw [if_pos hx, if_pos (PM.mem_insU.2 (Or.inl hx)), hx, PM.at_inv hm h0 h1]
  · rw [if_neg hx]
    by_cases hm2 : x ∈ PM.choO m ys
    · rw [if_pos hm2, if_pos (PM.mem_insU.2 (Or.inr hm2))]
    · rw [if_neg hm2, if_neg (fun h => (PM.mem_insU.1 h).elim hx hm2)]
theorem Mpv.mono {w : World} {M k k' : Nat} {g : Int → Option Int} (h : Mpv w M k g) (hk : k ≤ k') : Mpv w M k' g := by
  obtain ⟨D, h1, h2⟩ := h
  exact ⟨D, h1.mono hk, h2⟩
set_option maxHeartbeats 2000000 in
theorem values_any {e : TypeId} {B : Nat} {L : Lay} {gv : Nat → Value} {n : Nat} {G : PM.Gens} {T : PM.Rows} {M F : List Nat} (w : World) (hC : Ch e B w L gv n G T M F) (hT : L.oT = 2) (b i : Nat) (hi : i < n) (v : Value) (m : List Int) (fm : List Nat)
    (hb : Blk w b [.pointer (some ⟨L.g, 0, none⟩), .int .i64 i, v]) (hv : Rd w v m fm) (hm : PM.PN n m) :
    Calls Tryz.prog 72 #[.pointer (some ⟨b, 0, none⟩)] w fun e w' => ∃ K, e = .returned (.map (some K)) ∧ w.heap.size ≤ K ∧ Mpv w' K 1000 (gV m (orb n T i)) ∧ Only [] w w' := by
  obtain ⟨A, C, rfl, IM⟩ := hv.ints
  have hn20 := hC.le
  have hml := hm.1
  have ct := hC.ct
  rw [hT] at ct
  have cr := hC.row i hi
  have kA : Only [] w (w.alloc (.map #[] 0)) := (Only.refl _ _).alloc _
  have z0 := kA.cell (by simp) (hb.cell 0 rfl)
  have z1 := kA.cell (by simp) (hb.cell 1 rfl)
  have zt := kA.cell (by simp) ct
  have zr := kA.cell (by simp) cr
  have y2 := hb.cell 2 rfl
  have hmm := @run_makeMap Tryz.prog
  have M0 := (Mpv.made w rfl).congr (fun x => (gV_nil m x).symm)
  obtain ⟨ys, hys⟩ : ∃ ys, ys = orb n T i := ⟨_, rfl⟩
  have hyr : ∀ y ∈ ys, 0 ≤ y ∧ y < n := fun y hy => by rw [hys] at hy; exact (mem_orb.1 hy).1
  have hyl : ys.length ≤ 20 := by
    rw [hys]
    have h1 : (orb n T i).length ≤ (PM.pts n).length := PM.nodup_sub_len (orb_nodup n T i) fun y hy => PM.mem_pts.2 (mem_orb.1 hy).1
    rw [PM.pts_len] at h1
    omega
  rw [← hys]
  have Hys := Lib.hid hys
  have HC := Lib.hid hC
  have Hm := Lib.hid hm
  have HIM := Lib.hid IM
  have HM0 := Lib.hid M0
  have Hyr := Lib.hid hyr
  have Hml := Lib.hid hml
  clear hC hm M0 hT hys hyr IM hml ct cr
  go_enter Tryz.func72, Tryz.ntmps72
  go_wp2_with fail
  go_region_held3 (fun w' => Only [] (w.alloc (.map #[] 0)) w' ∧ w'.cell? ⟨b, 0, none⟩ = some (.pointer (some ⟨L.g, 0, none⟩)) ∧ w'.cell? ⟨b, 1, none⟩ = some (.int .i64 i) ∧ w'.cell? ⟨L.g, 2, none⟩ = some (.slice (some ⟨L.bt, 0, none⟩) n L.cT) ∧ w'.cell? ⟨L.bt, i, none⟩ = some (.slice (some ⟨L.rb i, 0, none⟩) n n)) (((refine and_of ?_ (fun h__ => ⟨h__.cell (by simp) z0, h__.cell (by simp) z1, h__.cell (by simp) zt, h__.cell (by simp) zr⟩)); first | exact (Only.refl _ _).drew | exact ((Only.refl _ _).drewN _).drew | exact Only.trans (And.left (by assumption)) (by assumption) | exact Only.alloc (And.left (by assumption)) _ | assumption)) (first | (go_at_call 47; (with_reducible refine (orbitOf_any _ (HC.out.keep (kA.trans (And.left (by assumption)))) i hi).mono ?_); rintro e w1 ⟨vo, fo, rfl, A1, F1, t1⟩; rw [← Hys.out] at A1; have kX : Only [] (w.alloc (.map #[] 0)) w1 := Only.trans (And.left (by assumption)) t1; have kB := Only.trans kA kX; have r1 := A1.rd (by decide); have F2 := A1.fresh F1; obtain ⟨ao, co, rfl, IO⟩ := r1.ints) | fail "no arm")
  have hge : ∀ b ∈ ((Value.slice ao ys.length co).ownBlock.toList ++ fo.flatten), w.heap.size < b := fun b hb => by
    have := F2.ge b hb
    simp at this
    omega
  have HIO := Lib.hid IO
  have Hge := Lib.hid hge
  clear A1 F1 F2 r1 IO hge z0 z1 zt zr t1
  go_wp2_with fail
  go_loopw [22] (fun i wr => ∃ j : Nat, j ≤ ys.length ∧ i = .int .i64 j ∧ Mpv wr w.heap.size j (gV m (ys.take j)) ∧ Only [w.heap.size] w1 wr)
    (fun i _ => ys.length - (intOf i).toNat)
  case atStart => exact ⟨0, Nat.zero_le _, rfl, HM0.out.keep kX, Only.refl _ _⟩
  case round =>
    obtain ⟨W2, hnew⟩ : ∃ W, W = wr := ⟨_, rfl⟩
    subst hnew
    obtain ⟨j, hj, rfl, hM, hO⟩ := hrel
    have KO : Only [] w W2 := kB.then_ hO (fun b hb hl => by simp at hb; omega)
    by_cases hlt : j < ys.length
    · obtain ⟨y, hy⟩ : ∃ y, y = ys[j] := ⟨_, rfl⟩
      have hyr := Hyr.out y (by rw [hy]; exact List.getElem_mem hlt)
      obtain ⟨b2, o2, rfl, -, c2⟩ := (HIO.out.only hO (fun b hb hm => by have := Hge.out b hb; simp at hm; omega)).at_ j hlt
      rw [← hy] at c2
      obtain ⟨b3, o3, rfl, -, c3⟩ := (HIM.out.keep KO).at_pm (x := y) hyr.1 (by rw [Hml.out]; exact hyr.2)
      have y2' := KO.cell (by simp) y2
      have hym : y < (m.length : Int) := by rw [Hml.out]; exact hyr.2
      have hy0 := hyr.1
      have hmr := Hm.out.rng hyr.1 hyr.2
      obtain ⟨w3, hrun3, hM3, hO3⟩ := hM.run_put (s := PM.at_ m y) (by unfold I64; omega) (n := y) (by unfold I64; omega) (by unfold maxLen; omega)
      have htk : ys.take (j + 1) = ys.take j ++ [y] := by rw [take_succ_get ys j hlt, hy]
      have Htk := Lib.hid htk
      clear htk hy
      go_wp2
      go_roundw
      case rel => exact ⟨j + 1, by omega, by go_num, hM3.congr (fun x => by rw [Htk.out]; exact gV_snoc Hm.out hyr.1 hyr.2 x), hO.trans hO3⟩
      case measure => simp [intOf]; omega
    · have hfin : Mpv W2 w.heap.size 1000 (gV m ys) := by
        rw [List.take_of_length_le (by omega)] at hM
        exact hM.mono (by omega)
      go_wp2
      go_ret
      exact ⟨w.heap.size, rfl, Nat.le_refl _, hfin, KO⟩
theorem gV_yes {n : Nat} {T : PM.Rows} {i : Nat} {m : List Int} {vv : Int} (h : vv ∈ PM.cho n T i m) : gV m (orb n T i) vv = some (PM.at_ (PM.inv m) vv) := if_pos h
theorem gV_no {n : Nat} {T : PM.Rows} {i : Nat} {m : List Int} {vv : Int} (h : vv ∉ PM.cho n T i m) : gV m (orb n T i) vv = none := if_neg h
/-- the walk has taken a value: q is chosen, the level is still i -/
def TK (w : World) (L : Lay) (b i : Nat) (q : List Int) (wx : World) : Prop :=
  ∃ a c f', Blk wx b [.pointer (some ⟨L.g, 0, none⟩), .int .i64 i, .slice a q.length c] ∧ Rd wx (.slice a q.length c) q f' ∧ Fresh w.heap.size wx f' ∧ Only [b] w wx
theorem TK.of {w w1 w5 w6 : World} {L : Lay} {b i : Nat} {q : List Int} {a : Option Addr} {c : Nat} {f' : List Nat} {v : Value} (t1 : Only [] w w1) (k5 : Only [] w1 w5) (Y5 : Blk w5 b [.pointer (some ⟨L.g, 0, none⟩), .int .i64 i, v]) (hb : b < w.heap.size)
    (r5 : Rd w5 (.slice a q.length c) q f') (F5 : Fresh w1.heap.size w5 f') (h6 : w6 = w5.setCell ⟨b, 2, none⟩ (.slice a q.length c)) : TK w L b i q w6 := by
  subst h6
  have hs : Only [b] w5 (w5.setCell ⟨b, 2, none⟩ (.slice a q.length c)) := (Only.refl _ _).setCell (by simp) _
  have hsz := t1.size
  have hd : ∀ z ∈ f', z ∉ [b] := fun z hz hm => by have := F5.ge z hz; simp at hm; omega
  have hB := Y5.set 2 (.slice a q.length c)
  simp only [List.set] at hB
  exact ⟨a, c, f', hB, Rp.only r5 hs hd, (F5.mono hsz).only hs hd, ((t1.trans k5).weaken _).trans hs⟩
set_option maxHeartbeats 4000000 in
theorem take_yes {e : TypeId} {B : Nat} {L : Lay} {gv : Nat → Value} {n : Nat} {G : PM.Gens} {T : PM.Rows} {M F : List Nat} (w : World) (hC : Ch e B w L gv n G T M F) (hw : PM.WF n T) (hT : L.oT = 2) (b i : Nat) (hi : i < n) (v : Value) (m : List Int) (fm : List Nat)
    (hb : Blk w b [.pointer (some ⟨L.g, 0, none⟩), .int .i64 i, v]) (hv : Rd w v m fm) (hm : PM.PN n m) (vv : Int) (hvv : vv ∈ PM.cho n T i m) :
    Calls Tryz.prog 45 #[.pointer (some ⟨b, 0, none⟩), .int .i64 vv] w fun e w' => e = .returned (.bool true) ∧ (∃ v' f', Blk w' b [.pointer (some ⟨L.g, 0, none⟩), .int .i64 ((i : Int) + 1), v'] ∧ Rd w' v' (PM.putV T i m vv) f' ∧ Fresh w.heap.size w' f') ∧ Only [b] w w' := by
  have hn20 := hC.le
  obtain ⟨hv0, hv1, hp0, hp1, hp2, hp3⟩ := PM.cho_pre hm hvv
  have hI : I64 vv := by unfold I64; omega
  have HcV := Lib.hid (values_any w hC hT b i hi v m fm hb hv hm)
  have Hyes := Lib.hid (gV_yes hvv)
  obtain ⟨A, C, rfl, IM⟩ := hv.ints
  obtain ⟨y, hy⟩ : ∃ y, y = PM.at_ (PM.inv m) vv := ⟨_, rfl⟩
  rw [← hy] at Hyes hp0 hp1 hp2 hp3
  have hput : PM.putV T i m vv = PM.comp (PM.tr T i y) m := by unfold PM.putV; rw [← hy]
  have ct := hC.ct
  rw [hT] at ct
  have cr := hC.row i hi
  obtain ⟨bt, ot, capt, ft, crt, hrt, -⟩ := hC.at_some hi hp0 hp1 hp2
  have htp := hw.pn i y hi hp2
  have hlt := Lib.hid htp.1
  have HC := Lib.hid hC
  have Hm := Lib.hid hm
  have Hp := Lib.hid hput
  have Htp := Lib.hid htp
  have HI := Lib.hid hI
  have y0 := hb.cell 0 rfl
  have y1 := hb.cell 1 rfl
  have y2 := hb.cell 2 rfl
  have hblt := hb.lt
  clear hC hm hvv hI hy hput hp2 hp3 htp hv0 hv1 IM
  go_enter Tryz.func45, Tryz.ntmps45
  go_upto_region 4 with (first
    | (go_at_call 72; (with_reducible refine (HcV.out).mono ?_); rintro en w1 ⟨K, rfl, hK, hM, t1⟩; have hrun := hM.run_yes HI.out Hyes.out)
    | fail "no arm")
  have x0 := t1.cell (by simp) y0
  have x1 := t1.cell (by simp) y1
  have x2 := t1.cell (by simp) y2
  have xt := t1.cell (by simp) ct
  have xr := t1.cell (by simp) cr
  have xy := t1.cell (by simp) crt
  clear y0 y1 y2 ct cr crt hrun hM
  have kd : Only [] w1 w1.drew := (Only.refl _ _).drew
  have d0 := kd.cell (by simp) x0
  have d1 := kd.cell (by simp) x1
  have d2 := kd.cell (by simp) x2
  have dt := kd.cell (by simp) xt
  have dr := kd.cell (by simp) xr
  have dy := kd.cell (by simp) xy
  have HcC := Lib.hid (fun (W : World) (hW : Only [] w1 W) => implCompose_rd n _ _ (PM.tr T i y) m _ _ W (Rp.keep hrt (Only.trans t1 hW)) (Rp.keep hv (Only.trans t1 hW)) Htp.out Hm.out (by omega))
  have Hb := Lib.hid (fun (W : World) (hW : Only [] w1 W) => hb.keep (t1.trans hW))
  clear kd
  go_cut [] (fun wx => TK w L b i (PM.comp (PM.tr T i y) m) wx)
  case first =>
   go_region_law (first
    | (go_simp; go_at_call 70; (with_reducible refine (HcC.out _ (by with_reducible repeat (first | exact Only.refl _ _ | refine Only.drew ?_))).mono ?_); rintro e w5 ⟨v5, f5, rfl, r5, F5, t5⟩; have k5 : Only [] w1 w5 := Only.trans (by with_reducible repeat (first | exact Only.refl _ _ | refine Only.drew ?_)) t5; have Y5 := Hb.out _ k5; have x5 := Y5.cell 2 rfl; have q5 := Y5.frozen 2; have r50 := r5; obtain ⟨a5, c5, rfl, _⟩ := r5.ints)
    | fail "no arm")
   all_goals go_wp2_with fail
   all_goals go_meet
   all_goals exact TK.of t1 k5 Y5 hblt r50 (F5.mono (by simp)) rfl
  case rest =>
    obtain ⟨a6, c6, f6, B6, r6, F6, O6⟩ := hcut
    obtain ⟨W2, hnew⟩ : ∃ W, W = wc := ⟨_, rfl⟩
    subst hnew
    have z1 := B6.cell 1 rfl
    have p1 := B6.frozen 1
    have hs : Only [b] W2 (W2.setCell ⟨b, 1, none⟩ (.int .i64 ((i : Int) + 1))) := (Only.refl _ _).setCell (by simp) _
    have hd : ∀ z ∈ f6, z ∉ [b] := fun z hz hm => by have := F6.ge z hz; simp at hm; omega
    have hB := B6.set 1 (.int .i64 ((i : Int) + 1))
    simp only [List.set] at hB
    have hfin := (⟨⟨_, _, hB, Rp.only r6 hs hd, F6.only hs hd⟩, O6.trans hs⟩ : (∃ v' f', Blk (W2.setCell ⟨b, 1, none⟩ (.int .i64 ((i : Int) + 1))) b [.pointer (some ⟨L.g, 0, none⟩), .int .i64 ((i : Int) + 1), v'] ∧ Rd (W2.setCell ⟨b, 1, none⟩ (.int .i64 ((i : Int) + 1))) v' (PM.comp (PM.tr T i y) m) f' ∧ Fresh w.heap.size (W2.setCell ⟨b, 1, none⟩ (.int .i64 ((i : Int) + 1))) f') ∧ Only [b] w (W2.setCell ⟨b, 1, none⟩ (.int .i64 ((i : Int) + 1))))
    have hwi : IntKind.i64.wrap ((i : Int) + 1) = (i : Int) + 1 := by rw [IntKind.wrap_i64]; omega
    have Hfin := Lib.hid hfin
    clear hfin hB hs hd r6 F6 O6
    go_wp2
    go_ret
    rw [Hp.out]
    exact ⟨rfl, Hfin.out⟩
end Go.Proofs.YtndcifpbbnebmaaGreat

namespace Go.Proofs.YtndcifpbbnebmaaGreat
open Go.RowKit
set_option maxRecDepth 10000

theorem ranges_frame {P : Program} {k : TypeId} {R : Value → Option (DataW Unit × List MemPlace)} {b r n cnt : Nat} {D : DataW Unit} {left : Lit → Bool} {w w' : World} (h : w.ranges P k R b r n D left cnt) (hb : w'.heap[b]? = w.heap[b]?) (hr : w'.heap[r]? = w.heap[r]?) : w'.ranges P k R b r n D left cnt := by
  obtain ⟨es, clock, since, seen, c0, h1, F, hs, hD, h2, rest⟩ := h
  exact ⟨es, clock, since, seen, c0, hb.trans h1, F, hs, hD, hr.trans h2, rest⟩
theorem AccI.low {B B' : Nat} {e : TypeId} {w : World} {v : Value} {l : List Int} (h : AccI B e w v l) (hB : B' ≤ B) : AccI B' e w v l := by
  obtain ⟨h1, h2⟩ := h.row
  refine AccI.ofRow ⟨h1.1, ?_⟩ h2
  rcases h1.2 with h3 | ⟨g, cap, cur, h3, h4, h5⟩
  · exact .inl h3
  · exact .inr ⟨g, cap, cur, h3, Nat.le_trans hB h4, h5⟩
theorem same_int (a b : Int) : (Lit.int .i64 a).sameKey (.int .i64 b) = decide (a = b) := by
  show decide (IntKind.i64 = IntKind.i64 ∧ a = b) = _
  by_cases h : a = b <;> simp [h]
/-- the keys met so far: l; those to come: left -/
structure KL (C : List Int) (left : Lit → Bool) (l : List Int) : Prop where
  nd : l.Nodup
  iff : ∀ x, I64 x → (x ∈ l ↔ x ∈ C ∧ left (.int .i64 x) = false)
  big : ∀ x ∈ l, I64 x
  dom : ∀ x, I64 x → left (.int .i64 x) = true → x ∈ C
theorem KL.step {C : List Int} {left : Lit → Bool} {l : List Int} (h : KL C left l) {x : Int} (hx : I64 x) (hl : left (.int .i64 x) = true) : KL C (fun z => left z && !z.sameKey (.int .i64 x)) (l ++ [x]) := by
  have hn : x ∉ l := fun hm => by have := ((h.iff x hx).1 hm).2; rw [hl] at this; cases this
  refine ⟨?_, fun y hy => ?_, fun y hy => ?_, fun y hy hl2 => ?_⟩
  · rw [List.nodup_append]
    exact ⟨h.nd, by simp, fun a ha b hb => by simp at hb; subst hb; intro e; subst e; exact hn ha⟩
  · rw [List.mem_append, h.iff y hy]
    simp only [List.mem_singleton, same_int]
    by_cases he : y = x
    · subst he; simp [h.dom _ hx hl]
    · simp [he]
  · rcases List.mem_append.1 hy with hy | hy
    · exact h.big y hy
    · simp at hy; subst hy; exact hx
  · simp only [same_int, Bool.and_eq_true] at hl2
    exact h.dom y hy hl2.1
theorem KL.end_ {C : List Int} {left : Lit → Bool} {l : List Int} (h : KL C left l) (hl : ∀ z, left z = false) (hC : PM.Asc C) (hCb : ∀ x ∈ C, I64 x) : (l.mergeSort fun x y => decide (x ≤ y)) = C := by
  refine PM.asc_ext (sorted_asc h.nd) hC fun x => ?_
  rw [sorted_mem]
  constructor
  · intro hx; exact ((h.iff x (h.big x hx)).1 hx).1
  · intro hx; exact (h.iff x (hCb x hx)).2 ⟨hx, hl _⟩
set_option maxHeartbeats 4000000 in
theorem walkSorted_any {e : TypeId} {B : Nat} {L : Lay} {gv : Nat → Value} {n : Nat} {G : PM.Gens} {T : PM.Rows} {M F : List Nat} (w : World) (hC : Ch e B w L gv n G T M F) (hw : PM.WF n T) (hT : L.oT = 2) (b i : Nat) (hi : i < n) (v : Value) (m : List Int) (fm : List Nat)
    (hb : Blk w b [.pointer (some ⟨L.g, 0, none⟩), .int .i64 i, v]) (hv : Rd w v m fm) (hm : PM.PN n m) :
    Calls Tryz.prog 44 #[.pointer (some ⟨b, 0, none⟩)] w fun e w' => ∃ v', e = .returned v' ∧ AccI w.heap.size 2 w' v' (PM.cho n T i m) ∧ Only [] w w' := by
  obtain ⟨i0, hii, hz0, hz1, hz2⟩ := info_parts Tryz.info2
  have HcV := Lib.hid (values_any w hC hT b i hi v m fm hb hv hm)
  obtain ⟨C, hCd⟩ : ∃ C, C = PM.cho n T i m := ⟨_, rfl⟩
  have hn20 := hC.le
  have hAs : PM.Asc C := by rw [hCd]; exact PM.choO_asc _ _
  have hCb : ∀ x ∈ C, I64 x := fun x hx => by rw [hCd] at hx; have := PM.cho_pre hm hx; unfold I64; omega
  have hCl : C.length ≤ 1000 := by rw [hCd, PM.cho_len hm]; have := PM.cntR_le n T i; omega
  have hCne : C ≠ [] := fun hc => by
    have h1 := PM.cho_len (T := T) (i := i) hm
    rw [← hCd, hc] at h1
    have h2 := PM.cntR_pos hw hi
    simp at h1; omega
  have hgC : ∀ x, (gV m (orb n T i) x).isSome = decide (x ∈ C) := fun x => by
    rw [hCd]
    by_cases hx : x ∈ PM.cho n T i m
    · rw [gV_yes hx]; simp [hx]
    · rw [gV_no hx]; simp [hx]
  rw [← hCd]
  have HAs := Lib.hid hAs
  have HCb := Lib.hid hCb
  have HCne := Lib.hid hCne
  have HgC := Lib.hid hgC
  clear hC hm hb hv hw hAs hCb hCne hgC hCd
  go_enter Tryz.func44, Tryz.ntmps44
  go_wp2_with (first
    | (go_at_call 72; (with_reducible refine (HcV.out).mono ?_); rintro en w1 ⟨K, rfl, hK, hM, t1⟩; obtain ⟨D, hown, hg⟩ := hM)
    | (at_range; refine wpList_range_own _ rfl _ 100 rfl 2 2 Tryz.lawI64 Tryz.underlying100 _ K 1000 D rfl hown ?_; intro w0 hrg0 hg0 hs0)
    | fail "no arm")
  go_frame
  have hKl := hown.lt
  have k01 : Only [] w1 w0 := (Only.refl _ _).grown hg0 (by intro j hj; cases hj)
  have kw0 : Only [] w w0 := t1.trans k01
  have hl0 : KL C (Go.Maps.has D) [] := ⟨List.nodup_nil, fun x hx => by
      rw [(hg x hx).1, HgC.out]
      by_cases hm : x ∈ C <;> simp [hm], by simp, fun x hx hl => by rw [(hg x hx).1, HgC.out] at hl; simpa using hl⟩
  clear hg hg0 hown t1 k01
  go_loopw [3] (fun o wr => ∃ (left : Lit → Bool) (cnt : Nat) (l : List Int), wr.ranges Tryz.prog 2 (plainElem Tryz.prog 2) K w1.heap.size 1000 D left cnt ∧ AccI (w1.heap.size + 1) 2 wr o l ∧ KL C left l ∧ Only [] w wr ∧ w1.heap.size + 1 ≤ wr.heap.size)
    (fun _ wr => wr.rangeLeft K w1.heap.size)
  case atStart => exact ⟨_, _, [], hrg0, AccI.nil _ _ _, hl0, kw0, by omega⟩
  case round =>
    obtain ⟨W2, hnew⟩ : ∃ W, W = wr := ⟨_, rfl⟩
    subst hnew
    obtain ⟨left, cnt, l, hrg, hA, hKL, hO, hsz⟩ := hrel
    have hll : l.length ≤ 1000 := Nat.le_trans (PM.nodup_sub_len hKL.nd fun x hx => ((hKL.iff x (hKL.big x hx)).1 hx).1) hCl
    have hlow : w.heap.size ≤ w1.heap.size + 1 := by have := kw0.size; omega
    go_wp2_with (first
      | (at_next; refine wpList_next_ranges_ii _ rfl _ rfl 2 2 .i64 .i64 Tryz.lawI64 Tryz.underlying2 Tryz.underlying2 K w1.heap.size 1000 _ _ _ rfl hrg ?_ ?_)
      | fail "no arm")
    · intro _ hl0
      have hfin := hKL.end_ hl0 HAs.out HCb.out
      have hlne : l ≠ [] := fun hc => HCne.out (by rw [← hfin, hc]; simp)
      have Hfin := Lib.hid hfin
      obtain ⟨a, c, ho⟩ := hA.form
      subst ho
      clear hfin hl0
      go_wp2_with (first
        | (go_at_call 73; (with_reducible refine (sort_accI W2 _ l hA hlne hll).mono ?_); rintro en w3 ⟨rfl, hA3, hO3⟩; rw [Hfin.out] at hA3)
        | fail "no arm")
      go_ret
      exact ⟨_, rfl, hA3.low hlow, hO.then_ hO3 (fun z hz hl => by have := (hA.ownlt z (by simpa using hz)).1; omega)⟩
    · intro x c w2 cnt1 hwx hwc hlx hat hrg1 hlt hg1 hs1 hen
      have hxI : I64 x := by have h9 := hwx; simp [Lit.wf, IntKind.min, IntKind.max, IntKind.signed, IntKind.bits] at h9; unfold I64; omega
      have k2 : Only [w1.heap.size] W2 w2 := (Only.refl _ _).grown hg1 (by intro j hj _; injection hj with hj; subst hj; simp)
      have hA2 := hA.only k2 (fun g hg hm => by have := (hA.ownlt g hg).1; simp at hm; omega)
      have hO2 : Only [] w w2 := hO.then_ k2 (fun z hz hl => by simp at hz; have := kw0.size; omega)
      have hK2 := hKL.step hxI hlx
      have HXI := Lib.hid hxI
      have hsB : w1.heap.size + 1 ≤ w2.heap.size := by omega
      have Hs1 := Lib.hid hs1
      clear hs1
      clear hKL hxI hat hwx hwc hlx
      go_wp2_with (first
        | (at_builtin; refine wpList_pushI rfl _ _ 32 rfl (w1.heap.size + 1) 2 i0 _ Tryz.underlying32 hii hz0 hz1 hz2 rfl w2 u3 l rfl hA2 ((Only.refl _ _).alloc _) hsB w2.heap.size 1 x rfl (lit1 w2 _ _ rfl) HXI.out (by omega) ?_; intro v3 w3 hA3 hO3 hP3 hN3)
        | fail "no arm")
      have hsz2 : w2.heap.size = W2.heap.size := Hs1.out
      have hne : ∀ g, g ≤ w1.heap.size → w3.heap[g]? = w2.heap[g]? := fun g hg => by
        have h1 : g < w2.heap.size := by omega
        have h2 := hO3.block g (by simp; omega) (fun hm => by have := (hA2.ownlt g (by simpa using hm)).1; omega)
        have h3 := ((Only.refl [] w2).alloc (.cells #[.int .i64 x] 2)).block g h1 (by simp)
        exact h2.trans h3
      have hrg3 := ranges_frame hrg1 (hne K (by omega)) (hne _ (Nat.le_refl _))
      have hsz3 := hO3.size
      simp at hsz3
      go_roundw
      case rel => exact ⟨_, cnt1, l ++ [x], hrg3, hA3, hK2, hP3 w (hO2.alloc _) hlow, by omega⟩
      case measure => rw [hrg3.left_eq, hrg.left_eq]; exact hlt
end Go.Proofs.YtndcifpbbnebmaaGreat
