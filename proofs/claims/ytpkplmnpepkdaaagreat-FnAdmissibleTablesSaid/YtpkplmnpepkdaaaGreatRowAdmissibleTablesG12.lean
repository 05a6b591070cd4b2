/- The states of a puzzle: how many there are, what the search of them finds (laws 20, 38). The program's group order and number of states (laws 20, 38). The reference's orbit sizes, chain order, members per choice (laws 33, 34, ..). The member of a rank, in plain words (laws 33, 34, ..). The reference's chain order, members per choice, MemberAt (laws 33, 34, ..). The reference's drawn permutations and generators (laws 34, 35, ..). The first pattern with a key, in plain words. -/
import Derived.Test.YtpkplmnpepkdaaaGreatRowAdmissibleTablesG7
import Derived.Test.YtpkplmnpepkdaaaGreatRowAdmissibleTablesG11
import Derived.Test.YtpkplmnpepkdaaaGreatRowAdmissibleTablesG3
import Derived.Test.YtpkplmnpepkdaaaGreatRowAdmissibleTablesG8
import Derived.Test.YtpkplmnpepkdaaaGreatRowAdmissibleTablesG10
import Derived.Test.YtpkplmnpepkdaaaGreatRowAdmissibleTablesG5
import Derived.Deep.RegionLaw
namespace Go.Proofs.YtpkplmnpepkdaaaGreat
open Go.RowKit
set_option maxRecDepth 10000

/-- the members of a group, each once -/
noncomputable def grpL (n : Nat) (gens : List (List Int)) : List (List Int) := Classical.choose (PM.nodup_exists (PM.allL (PM.pts n) n) (PM.Grp n gens))
theorem grpL_nodup (n : Nat) (gens : List (List Int)) : (grpL n gens).Nodup := (Classical.choose_spec (PM.nodup_exists (PM.allL (PM.pts n) n) (PM.Grp n gens))).1
theorem mem_grpL {n : Nat} {gens : List (List Int)} (hp : ∀ g ∈ gens, PM.PN n g) {p : List Int} : p ∈ grpL n gens ↔ PM.Grp n gens p := by
  have h := (Classical.choose_spec (PM.nodup_exists (PM.allL (PM.pts n) n) (PM.Grp n gens))).2 p
  show p ∈ Classical.choose _ ↔ _
  rw [h]
  refine ⟨fun h => h.2, fun hg => ⟨?_, hg⟩⟩
  have hpn := PM.Grp.pn hp hg
  have := PM.mem_allL (A := PM.pts n) p fun x hx => PM.mem_pts.2 (by have := hpn.2.1 x hx; rw [hpn.1] at this; exact this)
  rwa [hpn.1] at this
/-- how many states can be reached -/
noncomputable def cardG (x : Puzzle) : Nat := (grpL x.points.toNat x.moves).length
theorem pts_inc (n : Nat) : Inc (n : Int) (PM.pts n) := by
  refine ⟨fun z hz => PM.mem_pts.1 hz, ?_⟩
  unfold PM.pts
  rw [List.pairwise_map]
  exact List.Pairwise.imp (fun h => by omega) (List.pairwise_lt_range (n := n))
theorem pts_track {x : Puzzle} (hv : validPz x = true) : trackB x.points (PM.pts x.points.toNat) = true := by
  have := validPz_facts hv
  rw [trackB_iff]
  refine ⟨by rw [PM.pts_len]; omega, ?_⟩
  have h := pts_inc x.points.toNat
  rwa [show ((x.points.toNat : Nat) : Int) = x.points by omega] at h
/-- the search of all states -/
def expl (x : Puzzle) : Option Table := bTab x (PM.pts x.points.toNat)
theorem grp_nxt {x : Puzzle} (hv : validPz x = true) {s : List Int} (hs : PM.Grp x.points.toNat x.moves s) {l : Int} (hl : l ∈ ltrs x.moves.length) : PM.Grp x.points.toNat x.moves (nxt x s l) := by
  have h3 := validPz_pn hv
  refine PM.Grp.comp h3 hs ?_
  rcases letter_cases hl with ⟨k, hk, rfl⟩ | ⟨k, hk, rfl⟩
  · rw [mv_pos rfl hk]; exact PM.Grp.gen h3 (List.getElem_mem hk)
  · rw [mv_neg (k := k) rfl hk]; exact PM.Grp.gen_inv h3 (List.getElem_mem hk)
theorem BI.grp {x : Puzzle} {k : Nat} {done : List Int} {s : Met16} (hv : validPz x = true) (h : BI x (PM.pts x.points.toNat) k done s) : ∀ i, i < s.1.length → PM.Grp x.points.toNat x.moves (s.1.getD i []) := by
  intro i
  induction i using Nat.strongRecOn with
  | ind i ih =>
    intro hi
    by_cases h0 : i = 0
    · subst h0; rw [h.p0]; exact .id
    · obtain ⟨j, l, a1, a2, a3, -⟩ := h.par i (by omega) hi
      rw [← a3]
      exact grp_nxt hv (ih j a1 (Nat.lt_trans a1 hi)) a2
theorem BI.full {x : Puzzle} {k : Nat} {done : List Int} {s : Met16} (hv : validPz x = true) (hc : cardG x ≤ 3000) (h : BI x (PM.pts x.points.toNat) k done s) (hk : k < s.1.length) {l : Int} (hl : l ∈ ltrs x.moves.length) (hn : nxt x (s.1.getD k []) l ∉ s.1) : s.1.length ≠ 3000 := by
  intro h3
  have hg := h.grp hv
  have hall : ∀ p ∈ s.1 ++ [nxt x (s.1.getD k []) l], PM.Grp x.points.toNat x.moves p := fun p hp => by
    rcases List.mem_append.1 hp with hp | hp
    · obtain ⟨i, hi, rfl⟩ := List.getElem_of_mem hp
      have := hg i hi
      rwa [getD_get hi] at this
    · simp at hp; subst hp
      exact grp_nxt hv (hg k hk) hl
  have hnd : (s.1 ++ [nxt x (s.1.getD k []) l]).Nodup := by
    rw [List.nodup_append]
    exact ⟨h.nd, by simp, fun a ha b hb e => hn (by rw [← List.mem_singleton.1 hb, ← e]; exact ha)⟩
  have := PM.nodup_sub_len hnd fun p hp => (mem_grpL (validPz_pn hv)).2 (hall p hp)
  unfold cardG at hc
  simp only [List.length_append, List.length_singleton] at this
  omega
theorem BI.lets_some2 {x : Puzzle} {k : Nat} (hv : validPz x = true) (hc : cardG x ≤ 3000) : ∀ {ls done : List Int} {s : Met16}, BI x (PM.pts x.points.toNat) k done s → k < s.1.length → (∀ l ∈ ls, l ∈ ltrs x.moves.length) → (bLets x (s.1.getD k []) (s.2.getD k 0 + 1) ls s).isSome = true
  | [], done, s, h, hk, _ => rfl
  | l :: ls, done, s, h, hk, hl => by
    unfold bLets
    have h1 : ∃ s1, bMeet s (s.2.getD k 0 + 1) (nxt x (s.1.getD k []) l) = some s1 := by
      unfold bMeet
      split
      · exact ⟨_, rfl⟩
      · rename_i hn
        rw [if_neg (h.full hv hc hk (hl l (by simp)) hn)]
        exact ⟨_, rfl⟩
    obtain ⟨s1, e1⟩ := h1
    obtain ⟨b1, b2, b3, b4⟩ := h.meet hv hk (hl l (by simp)) e1
    have := BI.lets_some2 (ls := ls) hv hc b1 b4 (fun l hl2 => hl l (by simp [hl2]))
    rw [b2, b3] at this
    rw [e1]; exact this
theorem BI.from_some2 {x : Puzzle} (hv : validPz x = true) (hc : cardG x ≤ 3000) : ∀ {n k : Nat} {s : Met16}, BI x (PM.pts x.points.toNat) k [] s → (bFrom x n k s).isSome = true
  | 0, k, s, h => rfl
  | n + 1, k, s, h => by
    unfold bFrom
    split
    · rename_i hk
      obtain ⟨s1, e1⟩ := Option.isSome_iff_exists.1 (BI.lets_some2 hv hc h hk (fun l hl => hl))
      obtain ⟨done', c1, c2, c3, -⟩ := h.lets hv hk (fun l hl => hl) e1
      rw [e1]
      exact BI.from_some2 hv hc (c1.next c2 c3)
    · rfl
theorem expl_some {x : Puzzle} (hv : validPz x = true) (hc : cardG x ≤ 3000) : ∃ t, expl x = some t := by
  have h := BI.from_some2 (n := 3001) hv hc (BI.start (trackB_pat (pts_track hv)))
  obtain ⟨s, hs⟩ := Option.isSome_iff_exists.1 h
  refine ⟨⟨PM.pts x.points.toNat, s.1, s.2⟩, ?_⟩
  unfold expl bTab
  rw [bfs16_yes (by rw [hv, pts_track hv]; rfl), hs]; rfl
theorem expl_none {x : Puzzle} (h : validPz x = false) : expl x = none := by
  unfold expl bTab
  rw [bfs16_no (by rw [h]; rfl)]; rfl
section
variable {x : Puzzle} {t : Table}
theorem expl_built (h : expl x = some t) : Built x t ∧ t.tracked = PM.pts x.points.toNat := bTab_built h
theorem expl_mem (h : expl x = some t) {q : List Int} : q ∈ t.patterns ↔ PM.Grp x.points.toNat x.moves q := by
  obtain ⟨hb, ht⟩ := expl_built h
  have hi := hb.bi
  rw [ht] at hi
  constructor
  · intro hq
    obtain ⟨i, hil, rfl⟩ := List.getElem_of_mem hq
    have := hi.grp hb.v i hil
    rwa [getD_get hil] at this
  · intro hg
    have hpn := PM.Grp.pn (validPz_pn hb.v) hg
    have hf := validPz_facts hb.v
    have hr : reachB x q = true := by
      unfold reachB stateB memB
      rw [Bool.and_eq_true, Bool.and_eq_true]
      exact ⟨⟨hb.v, (genB_iff hf.1 hf.2.1).2 hpn⟩, @decide_eq_true _ (Classical.propDecidable _) hg⟩
    have := hb.reach hr
    rwa [ht, PM.id_comp hpn] at this
theorem expl_len (h : expl x = some t) : t.patterns.length = cardG x := by
  obtain ⟨hb, -⟩ := expl_built h
  have hnd : t.patterns.Nodup := hb.bi.nd
  exact Nat.le_antisymm (PM.nodup_sub_len hnd fun q hq => (mem_grpL (validPz_pn hb.v)).2 ((expl_mem h).1 hq)) (PM.nodup_sub_len (grpL_nodup _ _) fun q hq => (expl_mem h).2 ((mem_grpL (validPz_pn hb.v)).1 hq))
theorem expl_iff (hv : validPz x = true) : (∃ t, expl x = some t) ↔ cardG x ≤ 3000 :=
  ⟨fun ⟨_, ht⟩ => by rw [← expl_len ht]; exact (expl_built ht).1.ll, expl_some hv⟩
theorem expl_reach (h : expl x = some t) {q : List Int} : q ∈ t.patterns ↔ reachB x q = true := by
  obtain ⟨hb, -⟩ := expl_built h
  have hf := validPz_facts hb.v
  rw [expl_mem h]
  unfold reachB stateB memB
  rw [Bool.and_eq_true, Bool.and_eq_true]
  constructor
  · intro hg
    exact ⟨⟨hb.v, (genB_iff hf.1 hf.2.1).2 (PM.Grp.pn (validPz_pn hb.v) hg)⟩, @decide_eq_true _ (Classical.propDecidable _) hg⟩
  · rintro ⟨-, hg⟩
    exact @of_decide_eq_true _ (Classical.propDecidable _) hg
end
/-- the distance of a state, -1 if it has none -/
noncomputable def distX (x : Puzzle) (s : List Int) : Int := match expl x with
  | some t => if reachB x s = true then atD t (idxL t.patterns s) else -1
  | none => -1
theorem distX_none {x : Puzzle} {s : List Int} (h : expl x = none) : distX x s = -1 := by unfold distX; rw [h]
theorem distX_no {x : Puzzle} {s : List Int} (h : reachB x s = false) : distX x s = -1 := by
  unfold distX
  rw [h]
  cases expl x <;> rfl
theorem distX_yes {x : Puzzle} {t : Table} {s : List Int} (h : expl x = some t) (hs : reachB x s = true) : ∃ i : Nat, i < t.patterns.length ∧ t.patterns.getD i [] = s ∧ idxL t.patterns s = i ∧ distX x s = t.distances.getD i 0 ∧ 0 ≤ t.distances.getD i 0 ∧ t.distances.getD i 0 ≤ 3000 := by
  obtain ⟨hb, -⟩ := expl_built h
  obtain ⟨i, hi, e⟩ := List.getElem_of_mem ((expl_reach h).2 hs)
  have e2 : t.patterns.getD i [] = s := by rw [getD_get hi, e]
  have hx := hb.idx hi
  rw [e2] at hx
  have hd := hb.dep i hi
  have := hb.ll
  refine ⟨i, hi, e2, hx, ?_, hd.1, by omega⟩
  unfold distX
  rw [h]
  show (if reachB x s = true then atD t (idxL t.patterns s) else -1) = _
  rw [if_pos hs, hx]
  unfold atD
  rw [Int.toNat_natCast]
theorem distX_or (x : Puzzle) (s : List Int) : distX x s = -1 ∨ (0 ≤ distX x s ∧ distX x s ≤ 3000 ∧ reachB x s = true ∧ ∃ t, expl x = some t) := by
  rcases he : expl x with _ | t
  · exact .inl (distX_none he)
  · rcases hr : reachB x s
    · exact .inl (distX_no hr)
    · obtain ⟨i, -, -, -, h1, h2, h3⟩ := distX_yes he hr
      exact .inr ⟨by omega, by omega, rfl, t, rfl⟩
end Go.Proofs.YtpkplmnpepkdaaaGreat

namespace Go.Proofs.YtpkplmnpepkdaaaGreat
open Go.RowKit
set_option maxRecDepth 10000

theorem ord_step {T : PM.Rows} {n i : Nat} (hi : i < n) : PM.ordM T n (n - i) = PM.cntR n T i * PM.ordM T n (n - (i + 1)) := by
  have h1 : n - i = (n - (i + 1)) + 1 := by omega
  have h2 : n - (n - (i + 1) + 1) = i := by omega
  rw [h1]; simp only [PM.ordM, h2]
theorem ord_end {T : PM.Rows} {n i : Nat} (hi : n ≤ i) : PM.ordM T n (n - i) = 1 := by
  rw [show n - i = 0 by omega]; rfl
end Go.Proofs.YtpkplmnpepkdaaaGreat

namespace Go.Proofs.YtpkplmnpepkdaaaGreat
open Go.RowKit
set_option maxRecDepth 10000

/-- the sizes of the first levels -/
def orbL (n : Nat) (T : PM.Rows) (j : Nat) : List Int := (List.range j).map fun k => (PM.cntR n T k : Int)
theorem orbL_succ (n : Nat) (T : PM.Rows) (j : Nat) : orbL n T (j + 1) = orbL n T j ++ [(PM.cntR n T j : Int)] := by
  unfold orbL; rw [List.range_succ, List.map_append]; rfl
theorem orbL_len (n : Nat) (T : PM.Rows) (j : Nat) : (orbL n T j).length = j := by unfold orbL; simp
theorem orbL_get {n : Nat} {T : PM.Rows} {j k : Nat} (h : k < (orbL n T j).length) : (orbL n T j)[k] = (PM.cntR n T k : Int) := by simp only [orbL, List.getElem_map, List.getElem_range]
theorem orbTo_n (n : Nat) (T : PM.Rows) (k : Nat) : (orbTo n T k).length = PM.cntR n T k := rfl
theorem boolToInt_any (b : Bool) (w : World) :
    Calls Tryz.prog 109 #[.bool b] w fun e w' => e = .returned (.int .i64 (if b then 1 else 0)) ∧ w' = w := by
  cases b
  · go_enter Tryz.func109, Tryz.ntmps109
    go_wp2
    go_ret
    exact ⟨rfl, rfl⟩
  · go_enter Tryz.func109, Tryz.ntmps109
    go_wp2
    go_ret
    exact ⟨rfl, rfl⟩
set_option maxHeartbeats 4000000 in
theorem orbitSizes_any {e : TypeId} {B : Nat} {L : Lay} {gv : Nat → Value} {n : Nat} {G : PM.Gens} {T : PM.Rows} {M F : List Nat} (w : World) (hC : Ch e B w L gv n G T M F) (hT : L.oT = 1) :
    Calls Tryz.prog 88 #[.pointer (some ⟨L.g, 0, none⟩)] w fun e w' => ∃ v, e = .returned v ∧ AccI w.heap.size 2 w' v (orbL n T n) ∧ Only [] w w' := by
  obtain ⟨i0, hii, hz0, hz1, hz2⟩ := info_parts Tryz.info2
  have hn20 := hC.le
  have cn := hC.cn
  have ct := hC.ct
  rw [hT] at ct
  have HC := Lib.hid hC
  clear hC
  go_enter Tryz.func88, Tryz.ntmps88
  go_wp2
  go_loopw [3, 4] (fun o y wr => ∃ (i : Nat) (l : List Int), i ≤ n ∧ y = .int .i64 i ∧ Hid (l = orbL n T i) ∧ AccI w.heap.size 2 wr o l ∧ Only [] w wr)
    (fun _ y _ => n - (intOf y).toNat)
  case atStart => exact ⟨0, [], Nat.zero_le _, rfl, Lib.hid rfl, AccI.made w _ _ rfl (Nat.le_refl _), (Only.refl _ _).alloc _⟩
  case round =>
    obtain ⟨W2, hnew⟩ : ∃ W, W = wr := ⟨_, rfl⟩
    subst hnew
    obtain ⟨i, l, hi, rfl, hl, hA, hO⟩ := hrel
    have y0 := hO.cell (by simp) cn
    have hll : l.length ≤ 1000 := by rw [hl.out, orbL_len]; omega
    have hsz := hO.size
    by_cases hlt : i < n
    · have yt := hO.cell (by simp) ct
      have yr := hO.cell (by simp) (HC.out.row i hlt)
      have hltI : (i : Int) < (n : Int) := by omega
      have hC2 := Lib.hid (HC.out.keep hO)
      go_wp2_with fail
      go_loopw [5, 6] (fun s y wr => ∃ (j : Nat), j ≤ n ∧ y = .int .i64 j ∧ s = .int .i64 ((orbTo j T i).length : Nat) ∧ wr = W2)
        (fun _ y _ => n - (intOf y).toNat)
      case atStart => exact ⟨0, Nat.zero_le _, rfl, rfl, rfl⟩
      case round =>
        obtain ⟨j, hj, rfl, rfl, hww⟩ := hrel
        subst hww
        have hol := orbTo_len j T i
        by_cases hjl : j < n
        · have hsu := orbTo_succ j T i
          have hltJ : (j : Int) < (n : Int) := by omega
          by_cases ht : PM.tr T i (j : Int) = []
          · have c4 := hC2.out.at_nil hlt (y := (j : Int)) (by omega) (by omega) ht
            simp only [Int.toNat_natCast] at c4
            rw [if_pos ht] at hsu
            have Hsu := Lib.hid hsu
            obtain ⟨s, hs⟩ : ∃ s, s = (orbTo j T i).length := ⟨_, rfl⟩
            rw [← hs] at hol ⊢
            have Hs := Lib.hid hs
            clear ht hsu hs
            go_wp2_with (first
              | (go_at_call 109; (with_reducible refine (boolToInt_any false _).mono ?_); rintro en w5 ⟨rfl, h5⟩; rw [h5]; clear h5)
              | fail "no arm")
            go_roundw
            case rel => exact ⟨j + 1, by omega, by go_num, by rw [Hsu.out, ← Hs.out], trivial⟩
            case measure => simp [intOf]; omega
          · obtain ⟨b4, off4, cap4, f4, c4, -, -⟩ := hC2.out.at_some hlt (y := (j : Int)) (by omega) (by omega) ht
            simp only [Int.toNat_natCast] at c4
            have hpos : (0 : Int) < ((PM.tr T i (j : Int)).length : Int) := by have := List.length_pos_iff.2 ht; omega
            have hposN : 0 < (PM.tr T i (j : Int)).length := List.length_pos_iff.2 ht
            rw [if_neg ht] at hsu
            have hsl : (orbTo (j + 1) T i).length = (orbTo j T i).length + 1 := by rw [hsu]; simp
            have Hsl := Lib.hid hsl
            obtain ⟨s, hs⟩ : ∃ s, s = (orbTo j T i).length := ⟨_, rfl⟩
            rw [← hs] at hol ⊢
            have Hs := Lib.hid hs
            clear ht hsu hs hsl
            go_wp2_with (first
              | (go_at_call 109; (with_reducible refine (boolToInt_any true _).mono ?_); rintro en w5 ⟨rfl, h5⟩; rw [h5]; clear h5)
              | fail "no arm")
            go_roundw
            case rel => exact ⟨j + 1, by omega, by go_num, by rw [Hsl.out, ← Hs.out]; go_num, trivial⟩
            case measure => simp [intOf]; omega
        · obtain rfl : j = n := by omega
          have hge : ¬ ((j : Int) < (j : Int)) := by omega
          have hcs : (orbTo j T i).length = PM.cntR j T i := orbTo_n j T i
          have hcl := PM.cntR_le j T i
          have HI := Lib.hid (show I64 ((PM.cntR j T i : Nat) : Int) by unfold I64; omega)
          rw [hcs]
          clear hcs hol
          go_wp2_with (first
            | (at_builtin; refine wpList_pushI rfl _ _ 27 rfl w.heap.size 2 i0 _ Tryz.underlying27 hii hz0 hz1 hz2 rfl wr u3 l rfl hA ((Only.refl _ _).alloc _) hsz wr.heap.size 1 ((PM.cntR j T i : Nat) : Int) rfl (lit1 wr _ _ rfl) HI.out (by omega) ?_; intro v3 w3 hA3 hO3 hP3 hN3)
            | fail "no arm")
          go_roundw
          case rel => exact ⟨i + 1, _, by omega, by go_num, Lib.hid (by rw [orbL_succ, ← hl.out]), hA3, hP3 w (hO.alloc _) (Nat.le_refl _)⟩
          case measure => simp [intOf]; omega
    · obtain rfl : i = n := by omega
      have hge : ¬ ((i : Int) < (i : Int)) := by omega
      have hfl : l = orbL i T i := hl.out
      have Hfl := Lib.hid hfl
      clear hfl hl
      go_wp2
      go_ret
      exact ⟨u3, rfl, by rw [← Hfl.out]; exact hA, hO⟩
end Go.Proofs.YtpkplmnpepkdaaaGreat

namespace Go.Proofs.YtpkplmnpepkdaaaGreat
open Go.RowKit
set_option maxRecDepth 10000

/-- how many members fix the first points, by the levels that are left -/
noncomputable def ordC (n : Nat) (gens : List (List Int)) (j : Nat) : Nat := PM.ordM (PM.chainR n gens) n j
/-- the selection of a rank -/
noncomputable def msel (n : Nat) (gens : List (List Int)) (k i _len : Nat) : Nat := (k % ordC n gens (n - i)) / ordC n gens (n - (i + 1))
noncomputable def memAt (n : Nat) (gens : List (List Int)) (k : Nat) : List Int := PM.descG n gens (msel n gens k)
section
variable {n : Nat} {gens : List (List Int)} {G : PM.Gens} {T : PM.Rows} (h : PM.Chain n gens G T) (hn : 0 < n) (hp : ∀ g ∈ gens, PM.PN n g)
include h hn hp
theorem ordC_eq {j : Nat} (hj : j ≤ n) : PM.ordM T n j = ordC n gens j := by
  obtain ⟨G', h'⟩ := h.chainR
  exact h.ordM_congr hn hp h' j hj
theorem ordC_step {i : Nat} (hi : i < n) : ordC n gens (n - i) = PM.cntR n T i * ordC n gens (n - (i + 1)) := by
  rw [← ordC_eq h hn hp (by omega), ← ordC_eq h hn hp (by omega)]
  exact ord_step hi
theorem ordC_pos {j : Nat} (hj : j ≤ n) : 1 ≤ ordC n gens j := by
  rw [← ordC_eq h hn hp hj]
  exact (PM.ordM_rng h.inv.wf j hj).1
theorem ordC_le (hn20 : n ≤ 20) {j : Nat} (hj : j ≤ n) : ordC n gens j ≤ 2432902008176640000 := by
  rw [← ordC_eq h hn hp hj]
  exact PM.ordM_le h.inv.wf hn20 hj
theorem msel_good (k : Nat) : ∀ i, i < n → msel n gens k i (PM.cntR n T i) < PM.cntR n T i := fun i hi => by
  unfold msel
  have h1 := ordC_pos h hn hp (j := n - (i + 1)) (by omega)
  have h2 := ordC_pos h hn hp (j := n - i) (by omega)
  have h3 := ordC_step h hn hp hi
  refine Nat.div_lt_of_lt_mul ?_
  rw [Nat.mul_comm, ← h3]
  exact Nat.mod_lt _ h2
theorem mod_step (k : Nat) {i : Nat} (hi : i < n) : k % ordC n gens (n - i) % ordC n gens (n - (i + 1)) = k % ordC n gens (n - (i + 1)) :=
  Nat.mod_mod_of_dvd k ⟨PM.cntR n T i, by rw [ordC_step h hn hp hi, Nat.mul_comm]⟩
end
theorem tdiv_nat (a b : Nat) : Int.tdiv (a : Int) (b : Int) = ((a / b : Nat) : Int) := by
  rw [Int.tdiv_eq_ediv_of_nonneg (by omega)]; rfl
theorem tmod_nat (a b : Nat) : Int.tmod (a : Int) (b : Int) = ((a % b : Nat) : Int) := by
  rw [Int.tmod_eq_emod_of_nonneg (by omega)]; rfl
/-- the next value of a scramble's generator -/
def nxR (s : Int) : Int := (48271 * (s % 2147483647) + 11) % 2147483647
theorem nxR_rng (s : Int) : 0 ≤ nxR s ∧ nxR s < 2147483647 := ⟨Int.emod_nonneg _ (by decide), Int.emod_lt_of_pos _ (by decide)⟩
theorem tmod_fixR (s : Int) : (if s.tmod 2147483647 < 0 then s.tmod 2147483647 + 2147483647 else s.tmod 2147483647) = s % 2147483647 := by
  have h1 := Int.mul_tdiv_add_tmod s 2147483647
  have h2 := Int.tmod_lt_of_pos s (show (0:Int) < 2147483647 by decide)
  have h3 := Int.lt_tmod_of_pos s (show (0:Int) < 2147483647 by decide)
  split <;> omega
theorem tmod_rngR (s : Int) : -2147483647 < s.tmod 2147483647 ∧ s.tmod 2147483647 < 2147483647 :=
  ⟨Int.lt_tmod_of_pos s (by decide), Int.tmod_lt_of_pos s (by decide)⟩

theorem specNextRandom_any (x : Int) (w : World) :
    Calls Tryz.prog 22 #[.int .i64 x] w fun e w' => e = .returned (.int .i64 (nxR x)) ∧ w' = w := by
  have hf := tmod_fixR x
  have hr := tmod_rngR x
  obtain ⟨r, hrd⟩ : ∃ r, r = x.tmod 2147483647 := ⟨_, rfl⟩
  have hrw : Int.tmod x 2147483647 = r := hrd.symm
  rw [← hrd] at hf hr
  obtain ⟨y, hy⟩ : ∃ y, y = x % 2147483647 := ⟨_, rfl⟩
  have hy0 : 0 ≤ y ∧ y < 2147483647 := by rw [hy]; exact ⟨Int.emod_nonneg _ (by decide), Int.emod_lt_of_pos _ (by decide)⟩
  have hn : nxR x = (48271 * y + 11) % 2147483647 := by unfold nxR; rw [← hy]
  rw [← hy] at hf
  have hw1 : IntKind.i64.wrap (r + 2147483647) = r + 2147483647 := by rw [IntKind.wrap_i64]; omega
  have hw2 : IntKind.i64.wrap (48271 * y) = 48271 * y := by rw [IntKind.wrap_i64]; omega
  have hw3 : IntKind.i64.wrap (48271 * y + 11) = 48271 * y + 11 := by rw [IntKind.wrap_i64]; omega
  have ht : Int.tmod (48271 * y + 11) 2147483647 = (48271 * y + 11) % 2147483647 := Int.tmod_eq_emod_of_nonneg (by omega)
  obtain ⟨z, hz⟩ : ∃ z, z = (48271 * y + 11) % 2147483647 := ⟨_, rfl⟩
  rw [hn, ← hz]
  rw [← hz] at ht
  clear hn hz hrd hy
  by_cases hneg : r < 0
  · rw [if_pos hneg] at hf
    obtain rfl : y = r + 2147483647 := hf.symm
    clear hf
    go_enter Tryz.func22, Tryz.ntmps22
    go_wp2
    go_ret
    exact ⟨rfl, rfl⟩
  · rw [if_neg hneg] at hf
    obtain rfl : r = y := hf
    go_enter Tryz.func22, Tryz.ntmps22
    go_wp2
    go_ret
    exact ⟨rfl, rfl⟩

theorem specIsSeed_any (x : Int) (w : World) : Calls Tryz.prog 21 #[.int .i64 x] w fun e w' => e = .returned (.bool (inR x 0 2147483646)) ∧ w' = w := by
  go_enter Tryz.func21, Tryz.ntmps21
  go_wp2_with (first
    | (go_at_call 53; (with_reducible refine (inRange_any x 0 2147483646 _).mono ?_); rintro e w1 ⟨rfl, rfl⟩)
    | fail "no arm")
  go_ret
  exact ⟨rfl, rfl⟩
end Go.Proofs.YtpkplmnpepkdaaaGreat

namespace Go.Proofs.YtpkplmnpepkdaaaGreat
open Go.RowKit
set_option maxRecDepth 10000

/-- the members of each choice, for the levels from j on -/
def perL (n : Nat) (T : PM.Rows) (j : Nat) : List Int := (List.range n).map fun k => if j ≤ k then (PM.ordM T n (n - (k + 1)) : Int) else 0
theorem perL_len (n : Nat) (T : PM.Rows) (j : Nat) : (perL n T j).length = n := by unfold perL; simp
theorem perL_n (n : Nat) (T : PM.Rows) : perL n T n = List.replicate n 0 := by
  unfold perL
  apply List.ext_getElem (by simp)
  intro k h1 h2
  have hk : k < n := by simpa using h2
  simp only [List.getElem_map, List.getElem_range, List.getElem_replicate]
  rw [if_neg (by omega)]
theorem perL_set {n : Nat} {T : PM.Rows} {j : Nat} (_hj : j < n) : (perL n T (j + 1)).set j (PM.ordM T n (n - (j + 1)) : Int) = perL n T j := by
  apply List.ext_getElem (by simp [perL_len])
  intro k h1 h2
  rw [List.getElem_set]
  simp only [perL, List.getElem_map, List.getElem_range]
  by_cases hk : j = k
  · subst hk; rw [if_pos rfl, if_pos (Nat.le_refl _)]
  · rw [if_neg hk]
    by_cases h : j ≤ k
    · rw [if_pos h, if_pos (by omega)]
    · rw [if_neg h, if_neg (by omega)]
theorem perL_get {n : Nat} {T : PM.Rows} {k : Nat} (h : k < (perL n T 0).length) : (perL n T 0)[k] = (PM.ordM T n (n - (k + 1)) : Int) := by
  simp only [perL, List.getElem_map, List.getElem_range]
  rw [if_pos (Nat.zero_le _)]
theorem AccI.low2 {B B' : Nat} {e : TypeId} {w : World} {v : Value} {l : List Int} (h : AccI B e w v l) (hB : B' ≤ B) : AccI B' e w v l := by
  obtain ⟨h1, h2⟩ := h.row
  refine AccI.ofRow ⟨h1.1, ?_⟩ h2
  rcases h1.2 with h3 | ⟨g, cap, cur, h3, h4, h5⟩
  · exact .inl h3
  · exact .inr ⟨g, cap, cur, h3, Nat.le_trans hB h4, h5⟩
theorem perL_i64 {n : Nat} {T : PM.Rows} (hw : PM.WF n T) (hn20 : n ≤ 20) (j : Nat) : ∀ x ∈ perL n T j, I64 x := fun x hx => by
  obtain ⟨k, hk, rfl⟩ := List.mem_map.1 hx
  have hkn := List.mem_range.1 hk
  split
  · have := PM.ordM_le hw hn20 (m := n - (k + 1)) (by omega)
    unfold I64; omega
  · unfold I64; omega
set_option maxHeartbeats 2000000 in
theorem chainOrder_any {e : TypeId} {B : Nat} {L : Lay} {gv : Nat → Value} {n : Nat} {G : PM.Gens} {T : PM.Rows} {M F : List Nat} (w : World) (hC : Ch e B w L gv n G T M F) (hw : PM.WF n T) (hT : L.oT = 1) :
    Calls Tryz.prog 59 #[.pointer (some ⟨L.g, 0, none⟩)] w fun e w' => e = .returned (.int .i64 (PM.ordM T n n : Nat)) ∧ Only [] w w' := by
  have hn20 := hC.le
  have HcS := Lib.hid (orbitSizes_any w hC hT)
  obtain ⟨sz, hsz⟩ : ∃ sz, sz = orbL n T n := ⟨_, rfl⟩
  rw [← hsz] at HcS
  have hszl : sz.length = n := by rw [hsz, orbL_len]
  have Hszl := Lib.hid hszl
  have Hsz := Lib.hid hsz
  have Hw := Lib.hid hw
  clear hC hw hsz hszl
  go_enter Tryz.func59, Tryz.ntmps59
  go_wp2_with (first
    | (go_at_call 88; (with_reducible refine (HcS.out).mono ?_); rintro en w1 ⟨v1, rfl, hA, t1⟩; obtain ⟨a1, c1, rfl, I1⟩ := hA.rd.ints)
    | fail "no arm")
  go_loopw [3, 5] (fun o i wr => ∃ (j m : Nat), j ≤ n ∧ i = .int .i64 j ∧ o = .int .i64 (m : Nat) ∧ 1 ≤ m ∧ m * PM.ordM T n (n - j) = PM.ordM T n n ∧ wr = w1)
    (fun _ i _ => n - (intOf i).toNat)
  case atStart => exact ⟨0, 1, Nat.zero_le _, rfl, rfl, Nat.le_refl _, by rw [Nat.one_mul, Nat.sub_zero], rfl⟩
  case round =>
    obtain ⟨j, m, hj, rfl, rfl, hm1, hm, hww⟩ := hrel
    have Hm := Lib.hid hm
    clear hm
    by_cases hlt : j < n
    · have hjs : j < sz.length := by rw [Hszl.out]; exact hlt
      have hjI : (j : Int) < (sz.length : Int) := by omega
      obtain ⟨b2, o2, rfl, -, c2⟩ := I1.at_ j hjs
      have hg : sz[j] = (PM.cntR n T j : Int) := by have h1 := Hsz.out; subst h1; exact orbL_get hjs
      rw [hg] at c2
      have hstep := ord_step (T := T) hlt
      have hcp := PM.cntR_pos Hw.out hlt
      have hor := PM.ordM_rng Hw.out (n - (j + 1)) (by omega)
      have hmul : (m * PM.cntR n T j) * PM.ordM T n (n - (j + 1)) = PM.ordM T n n := by rw [Nat.mul_assoc, ← hstep]; exact Hm.out
      have hle : m * PM.cntR n T j ≤ 2432902008176640000 := by
        have h1 := PM.ordM_le Hw.out hn20 (m := n) (Nat.le_refl _)
        have h2 : m * PM.cntR n T j ≤ (m * PM.cntR n T j) * PM.ordM T n (n - (j + 1)) := Nat.le_mul_of_pos_right _ hor.1
        omega
      have hpos : 1 ≤ m * PM.cntR n T j := Nat.mul_le_mul hm1 hcp
      obtain ⟨cn, hcnn⟩ : ∃ cn, cn = PM.cntR n T j := ⟨_, rfl⟩
      rw [← hcnn] at hmul hle hpos c2
      have Hmul := Lib.hid hmul
      have hwr : IntKind.i64.wrap ((m : Int) * (cn : Int)) = ((m * cn : Nat) : Int) := by rw [IntKind.wrap_i64]; push_cast; omega
      subst hww
      clear hstep hor hmul hcnn hcp hg
      go_wp2
      go_roundw
      case rel => exact ⟨j + 1, m * cn, by omega, by go_num, rfl, hpos, Hmul.out, trivial⟩
      case measure => simp [intOf]; omega
    · have he : j = n := by omega
      have hend := ord_end (T := T) (n := n) (i := j) (by omega)
      have hfin : m = PM.ordM T n n := by have := Hm.out; rw [hend, Nat.mul_one] at this; exact this
      have Hfin := Lib.hid hfin
      have hjI : ¬ ((j : Int) < (sz.length : Int)) := by rw [Hszl.out]; omega
      subst hww
      clear he hend hfin
      go_wp2
      go_ret
      exact ⟨ret_int (by rw [Hfin.out]), t1⟩
set_option maxHeartbeats 2000000 in
theorem perChoice_any {e : TypeId} {B : Nat} {L : Lay} {gv : Nat → Value} {n : Nat} {G : PM.Gens} {T : PM.Rows} {M F : List Nat} (w : World) (hC : Ch e B w L gv n G T M F) (hw : PM.WF n T) (hT : L.oT = 1) :
    Calls Tryz.prog 60 #[.pointer (some ⟨L.g, 0, none⟩)] w fun e w' => ∃ v, e = .returned v ∧ AccI w.heap.size 2 w' v (perL n T 0) ∧ Only [] w w' := by
  obtain ⟨i0, hi, hz0, hz1, hz2⟩ := info_parts Tryz.info2
  have hn20 := hC.le
  have hn1 := hC.pos
  have HcS := Lib.hid (orbitSizes_any w hC hT)
  have Hw := Lib.hid hw
  clear hC hw
  go_enter Tryz.func60, Tryz.ntmps60
  go_wp2_with (first
    | (go_at_call 88; (with_reducible refine (HcS.out).mono ?_); rintro en w1 ⟨v1, rfl, hA, t1⟩; have z1 := t1.size; have hA' := hA; obtain ⟨a1, c1, he1, I1⟩ := hA.rd.ints; rw [orbL_len] at he1; subst he1)
    | (at_make; refine wpList_make_full _ rfl _ _ 27 rfl w1.heap.size 2 i0 _ 1 Tryz.underlying27 hi hz0 hz1 _ _ _ _ n rfl rfl rfl rfl (by rw [hz2]; omega) (by unfold maxLen; omega) (Nat.le_refl _) ?_; intro w2 hown hg)
    | fail "no arm")
  rw [madeInts, Nat.mul_one] at hown
  have o2 : Only [] w1 w2 := (Only.refl _ _).grown hg (by simp)
  have I2 := I1.keep o2
  have hown0 : w2.ownsRow w1.heap.size 2 1 (.slice (some ⟨w1.heap.size, 0, none⟩) n n) n ((perL n T n).map (Value.int .i64)) := by rw [perL_n, map_zero]; exact hown
  have k2 : Only [] w w2 := t1.trans o2
  have h1n : w1.heap.size < w2.heap.size := (hown.lt w1.heap.size rfl).2
  have hon : PM.ordM T n (n - n) = 1 := ord_end (Nat.le_refl _)
  have Hon := Lib.hid hon
  have HO0 := Lib.hid hown0
  have hfr := hA.fresh
  have hoL := orbL_len n T n
  have HoL := Lib.hid hoL
  clear hown hg hown0 hA hA' I1 hon hoL
  have hw0 : IntKind.i64.wrap ((n : Int) - 1) = (n : Int) - 1 := by rw [IntKind.wrap_i64]; omega
  go_wp2_with fail
  go_loopw [5, 6] (fun c i wr => ∃ (j : Nat) (x : Int), j ≤ n ∧ x = (j : Int) - 1 ∧ i = .int .i64 x ∧ c = .int .i64 (PM.ordM T n (n - j) : Nat) ∧
      wr.ownsRow w1.heap.size 2 1 (.slice (some ⟨w1.heap.size, 0, none⟩) n n) n ((perL n T j).map (Value.int .i64)) ∧ Only [w1.heap.size] w2 wr)
    (fun _ i _ => ((intOf i) + 1).toNat)
  case atStart => exact ⟨n, (n : Int) - 1, Nat.le_refl _, rfl, by go_num, by rw [Hon.out]; rfl, HO0.out, Only.refl _ _⟩
  case round =>
    obtain ⟨W2, hnew⟩ : ∃ W, W = wr := ⟨_, rfl⟩
    subst hnew
    obtain ⟨j, x, hj, hx, rfl, rfl, hO, hK⟩ := hrel
    cases j with
    | zero =>
      have hxn : ¬ (0 ≤ x) := by omega
      have hxn2 : x < 0 := by omega
      have hA0 := AccI.ofRow (l := perL n T 0) (by rw [perL_len]; exact hO) (perL_i64 Hw.out hn20 0)
      have HA0 := Lib.hid hA0
      have Hx := Lib.hid hx
      clear hA0 hO hx
      go_wp2
      go_ret
      exact ⟨_, rfl, AccI.low2 HA0.out z1, k2.then_ hK (fun z hz hl => by simp at hz; omega)⟩
    | succ j =>
      obtain rfl : x = (j : Int) := by omega
      have hlt : j < n := by omega
      have hjs : j < (orbL n T n).length := by rw [HoL.out]; exact hlt
      have hjI : (j : Int) < (n : Int) := by omega
      obtain ⟨b2, o2', rfl, -, c2⟩ := (I2.only hK (fun b hb hm => by have := hfr.lt b hb; have := hfr.ge b hb; simp at hm; omega)).at_ j hjs
      rw [orbL_get hjs] at c2
      obtain ⟨hO2, hg2⟩ := hO.stored j (.int .i64 (PM.ordM T n (n - (j + 1)) : Nat))
      have hstep : ((perL n T (j + 1)).map (Value.int .i64)).set j (.int .i64 (PM.ordM T n (n - (j + 1)) : Nat)) = (perL n T j).map (Value.int .i64) := by
        rw [← perL_set hlt, List.map_set]
      rw [hstep] at hO2
      have hc2 : ∃ u, W2.cell? ⟨w1.heap.size, j, none⟩ = some (.int .i64 u) := by
        rw [hO.cellAt _ (by omega)]
        have : j < (perL n T (j + 1)).length := by rw [perL_len]; exact hlt
        exact ⟨(perL n T (j + 1))[j], by simp [this]⟩
      obtain ⟨u, hc2⟩ := hc2
      have hf2 := hO.frozenAt j
      have hs2 : Only [w1.heap.size] W2 (W2.setCell ⟨w1.heap.size, j, none⟩ (.int .i64 (PM.ordM T n (n - (j + 1)) : Nat))) := (Only.refl _ _).setCell (by simp) _
      have hK2 := hK.trans hs2
      have hne2 : b2 ≠ w1.heap.size := by have := hfr.lt b2 (by simp [Value.ownBlock]); omega
      have c3 := hs2.cell (by simp; exact hne2) c2
      have hord := ord_step (T := T) hlt
      have hle := PM.ordM_le Hw.out hn20 (m := n - j) (by omega)
      obtain ⟨cn, hcn⟩ : ∃ cn, cn = PM.cntR n T j := ⟨_, rfl⟩
      obtain ⟨r, hr⟩ : ∃ r, r = PM.ordM T n (n - (j + 1)) := ⟨_, rfl⟩
      obtain ⟨q, hq⟩ : ∃ q, q = PM.ordM T n (n - j) := ⟨_, rfl⟩
      rw [← hcn, ← hr, ← hq] at hord
      rw [← hq] at hle
      rw [← hcn] at c2 c3
      rw [← hr] at hO2 hs2 hK2 c3 ⊢
      have hwr : IntKind.i64.wrap ((r : Int) * (cn : Int)) = (q : Int) := by rw [IntKind.wrap_i64, hord, Nat.mul_comm cn r]; push_cast; rw [hord, Nat.mul_comm cn r] at hle; omega
      have hwi : IntKind.i64.wrap ((j : Int) - 1) = (j : Int) - 1 := by rw [IntKind.wrap_i64]; omega
      have HO := Lib.hid hO2
      have Hq := Lib.hid hq
      have hx0 : 0 ≤ (j : Int) := by omega
      clear hO hO2 hg2 hstep hord hcn hr hq hx hs2
      go_wp2
      go_roundw
      case rel => exact ⟨j, (j : Int) - 1, by omega, rfl, by go_num, by rw [← Hq.out], HO.out, hK2⟩
      case measure => simp [intOf]; try omega
end Go.Proofs.YtpkplmnpepkdaaaGreat

namespace Go.Proofs.YtpkplmnpepkdaaaGreat
open Go.RowKit
set_option maxRecDepth 10000

theorem row_keep {w w' : World} {B : Nat} {e : TypeId} {size n : Nat} {v : Value} {xs : List Value} (h : w.ownsRow B e size v n xs) (ho : Only [] w w') : w'.ownsRow B e size v n xs := by
  refine ⟨h.1, ?_⟩
  rcases h.2 with ⟨rfl, h0⟩ | ⟨g, cp, cur, rfl, hb, hg, hrest⟩
  · exact .inl ⟨rfl, h0⟩
  · exact .inr ⟨g, cp, cur, rfl, hb, by rw [ho.block g (Array.getElem?_eq_some_iff.1 hg).1 (by simp)]; exact hg, hrest⟩
section
variable {P : Program} (w : World)
/-- an append as one step of a region that draws its order -/
theorem step_app {ops : Array Oper} {o : Oper} {a : Act} {K : Act → World → Prop} {Q : Exit → Act → World → Prop} {E : Prop} (hgd : o.guard = none) (s x : Operand) (t : TypeId)
    (ho : o.op = .call { callee := .builtin .append, args := #[s, x], argTypes := #[t, t] })
    (base : Nat) (e : TypeId) (i : TypeInfo) (z : Value) (size bytes : Nat) (ht : P.underlying t = some (.slice e)) (hi : P.info? e = some i) (hz : i.zero = some z)
    (hsize : i.size = size) (hby : i.bytes = bytes) (hzs : z.cells.size = size) (hsz : 0 < size)
    (v : Value) (n : Nat) (xs : List Value) (hs : a.eval s = v) (hown : w.ownsRow base e size v n xs)
    (A : Option Addr) (m c : Nat) (news : List Value) (hx : a.eval x = .slice A m c) (hl : news.length = m * size) (hsrc : ∀ ad, A = some ad → ∀ j u, news[j]? = some u → w.cell? (ad.add j) = some u) (hA : A = none → m = 0) (h1 : ∀ u ∈ news, u.oneCell' = true)
    (h63 : n + m ≤ maxLen) (hbytes : (n + m) * bytes ≤ 140737488355328) (hbase : base ≤ w.heap.size)
    (h : ∀ v' w', w'.ownsRow base e size v' (n + m) (xs ++ news) → w.grownBy w' v.ownBlock → (v'.ownBlock = v.ownBlock ∨ v'.ownBlock = some w.heap.size) → K (a.put o.dst v') w') : if Region.wanted o (yielded ops a.tmps) = true then Oper.wp P o a w K Q else E := by
  have hw : Region.wanted o (yielded ops a.tmps) = true := by simp [Region.wanted, hgd]
  rw [if_pos hw]
  exact wp_app w s x t ho base e i z size bytes ht hi hz hsize hby hzs hsz v n xs hs hown A m c news hx hl hsrc hA h1 h63 hbytes hbase h
end
set_option maxHeartbeats 4000000 in
theorem drawPerm_any (g : Nat) (fc : List Nat) (l : List UInt8) (n : Nat) (w : World) (h : Src w g fc l) (hn : n ≤ 1000) (hl : l.length ≤ 4096) :
    Calls Tryz.prog 95 #[.pointer (some ⟨g, 0, none⟩), .int .i64 n] w fun e w' => ∃ v p, e = .returned v ∧ AccI w.heap.size 2 w' v p ∧ PM.PN n p ∧ Src w' g fc l ∧ Only [g] w w' := by
  obtain ⟨i0, hi, hz0, hz1, hz2⟩ := info_parts Tryz.info2
  go_enter Tryz.func95, Tryz.ntmps95
  go_wp2
  go_loopw [5, 6] (fun o i wr => ∃ (j : Nat) (p : List Int) (fp : List Nat), j ≤ n ∧ i = .int .i64 j ∧ (∃ b off c, o = .slice (some ⟨b, off, none⟩) p.length c ∧ IntsA wr (some ⟨b, off, none⟩) c p fp) ∧ AccI w.heap.size 2 wr o p ∧ PM.PN j p ∧ Fresh w.heap.size wr fp ∧ Src wr g fc l ∧ Only [g] w wr)
    (fun _ i _ => n - (intOf i).toNat)
  case atStart => exact ⟨0, [], [], Nat.zero_le _, rfl, ⟨w.heap.size, 0, 0, rfl, IntsA.nil _ _ (by simp [maxLen])⟩, AccI.made w w.heap.size _ rfl (Nat.le_refl _), ⟨rfl, by simp [PM.IsP]⟩, Fresh.nil _ _, h.keep ((Only.refl _ _).alloc _), (Only.refl _ _).alloc _⟩
  case round =>
    obtain ⟨W2, hnew⟩ : ∃ W, W = wr := ⟨_, rfl⟩
    subst hnew
    obtain ⟨j, p, fp, hj, rfl, ⟨b, off, c, rfl, I⟩, hA, hp, hF, hD, hK⟩ := hrel
    by_cases hlt : j < n
    · have hwj : IntKind.i64.wrap ((j : Int) + 1) = (j : Int) + 1 := by rw [IntKind.wrap_i64]; omega
      go_upto_region 6 with ((go_at_call 34; (with_reducible refine (srcBelow_any g fc l ((j : Int) + 1) _ hD hl (by omega)).mono ?_); rintro e w3 ⟨r, rfl, q1, q2, D3, K3⟩))
      obtain ⟨k, rfl⟩ := Int.eq_ofNat_of_zero_le q1
      have hpl := hp.1
      have hcap := I.len
      have hkp : k ≤ p.length := by omega
      have hkc : k ≤ c := by omega
      have hkp' : (k : Int) ≤ (p.length : Int) := by omega
      have hkc' : (k : Int) ≤ (c : Int) := by omega
      have hc0 : (p.length : Int) ≤ (c : Int) := by omega
      have Hpl := Lib.hid hpl
      have Hp := Lib.hid hp
      clear hpl hp hA
      have K3' : Only [g] w w3 := hK.trans K3
      have hg := h.lt
      have I3 := I.only K3 (fun b hb hm => by have := hF.ge b hb; simp at hm; omega)
      have hk0 : (0 : Int) ≤ (k : Int) := by omega
      have hlk : (p.take k).length = k := by rw [List.length_take]; omega
      have HK := Lib.hid hlk
      clear hlk
      have hTk : Rd w3 (.slice (some ⟨b, off, none⟩) k c) (p.take k) fp := by
        have := (I3.take k).rd
        rwa [HK.out] at this
      have hTl : (p.take k).length ≤ 1073741824 := by have := HK.out; omega
      have hj1000 : j ≤ 1000 := by omega
      have hpl1 : p.length ≤ 1000 := by have := Hpl.out; omega
      have hend : ∀ v6 w6, w6.ownsRow w3.heap.size 2 1 v6 (k + 1 + (p.length - k)) (((p.take k).map (Value.int .i64) ++ [.int .i64 (j : Int)]) ++ (p.drop k).map (Value.int .i64)) → Only [] w3 w6 →
          ∃ (p' : List Int) (fp' : List Nat), (∃ b off c, v6 = .slice (some ⟨b, off, none⟩) p'.length c ∧ IntsA w6 (some ⟨b, off, none⟩) c p' fp') ∧ AccI w.heap.size 2 w6 v6 p' ∧ PM.PN (j + 1) p' ∧ Fresh w.heap.size w6 fp' ∧ Src w6 g fc l ∧ Only [g] w w6 := fun v6 w6 hO ho => by
        have hcells : ((p.take k).map (Value.int .i64) ++ [Value.int .i64 (j : Int)]) ++ (p.drop k).map (Value.int .i64) = (p.take k ++ ((p.length : Int) :: p.drop k)).map (Value.int .i64) := by
          rw [Hpl.out]; simp
        rw [hcells] at hO
        have hP := ins_isP Hp.out.2 hkp
        have hlen : (p.take k ++ ((p.length : Int) :: p.drop k)).length = j + 1 := by
          rw [List.length_append, List.length_cons, HK.out, List.length_drop]; have := Hpl.out; omega
        have hwf : ∀ x ∈ p.take k ++ ((p.length : Int) :: p.drop k), I64 x := fun x hx => by have := hP.1 x hx; rw [hlen] at this; unfold I64; omega
        have hn6 : k + 1 + (p.length - k) = (p.take k ++ ((p.length : Int) :: p.drop k)).length := by rw [hlen]; have := Hpl.out; omega
        rw [hn6] at hO
        have hA6 := (AccI.ofRow hO hwf).low2 K3'.size
        obtain ⟨a6, c6, hv6, -, I6, F6⟩ := own_ints hO hwf
        obtain ⟨b6, o6, ha6, -, -⟩ := I6.at_ 0 (by rw [hlen]; omega)
        subst ha6
        exact ⟨_, _, ⟨b6, o6, c6, hv6, I6⟩, hA6, ⟨hlen, hP⟩, F6.mono K3'.size, D3.keep ho, K3'.keepThen ho⟩
      have HcC : Hid (∀ V : World, Only [] w3 V → Calls Tryz.prog 36 #[.slice (some ⟨b, off, none⟩) k c] V fun e w' => ∃ a4 q4, e = .returned (.slice a4 k q4) ∧ w'.ownsRow w3.heap.size 2 1 (.slice a4 k q4) k ((p.take k).map (Value.int .i64)) ∧ Only [] V w') := Lib.hid (fun V hV => by
        refine (copyInts_aI (.slice (some ⟨b, off, none⟩) k c) (p.take k) fp V (Rp.keep hTk hV) hTl).mono ?_
        rintro e w' ⟨v4, rfl, hA4, o4⟩
        have hO4 := (hA4.low2 hV.size).row.1
        rw [HK.out] at hO4
        obtain ⟨a4, q4, e4⟩ := hA4.form
        rw [HK.out] at e4
        subst e4
        exact ⟨a4, q4, rfl, hO4, o4⟩)
      by_cases hck : c = k
      · subst hck
        have hd0 : p.drop c = [] := List.drop_eq_nil_of_le (by omega)
        have Hd0 := Lib.hid hd0
        clear hd0
        go_region_law (first
          | (go_simp; go_at_call 36; (with_reducible refine (HcC.out _ (by with_reducible repeat (first | exact Only.refl _ _ | assumption | refine Only.drewN ?_ _ | refine Only.drew ?_ | refine Only.alloc ?_ _ | refine Only.trans ?_ (by assumption)))).mono ?_); rintro en w4 ⟨a4, q4, rfl, hO4, o4⟩; have o4w : Only [] w3 w4 := Only.trans (by with_reducible repeat (first | exact Only.refl _ _ | assumption | refine Only.drewN ?_ _ | refine Only.drew ?_ | refine Only.alloc ?_ _ | refine Only.trans ?_ (by assumption))) o4)
          | (refine step_app _ rfl (.tmp 21) (.tmp 23) 27 rfl w3.heap.size 2 i0 _ 1 8 Tryz.underlying27 hi hz0 hz1 hz2 rfl (by omega) (.slice a4 c q4) c ((p.take c).map (Value.int .i64)) rfl (row_keep hO4 (by with_reducible repeat (first | exact Only.refl _ _ | assumption | refine Only.drewN ?_ _ | refine Only.drew ?_ | refine Only.alloc ?_ _ | refine Only.trans ?_ (by assumption)))) _ 1 1 [.int .i64 (j : Int)] rfl rfl (by first | exact lit_srcA _ [.int .i64 (j : Int)] 2 rfl | exact (fun ad hh j1 u hu => o4.cell (by simp) (lit_srcA _ [.int .i64 (j : Int)] 2 rfl ad hh j1 u hu))) (by intro hh; cases hh) (by intro u hu; simp at hu; subst hu; rfl) (by unfold maxLen; omega) (by omega) (Only.size (fp := []) (by with_reducible repeat (first | exact Only.refl _ _ | assumption | refine Only.drewN ?_ _ | refine Only.drew ?_ | refine Only.alloc ?_ _ | refine Only.trans ?_ (by assumption)))) ?_; intro v5 w5 hO5 hg5 hb5; have o5 : Only [] w3 w5 := Only.grown (by with_reducible repeat (first | exact Only.refl _ _ | assumption | refine Only.drewN ?_ _ | refine Only.drew ?_ | refine Only.alloc ?_ _ | refine Only.trans ?_ (by assumption))) hg5 (by intro z hz hzl; have := (hO4.lt z hz).1; omega); have ID := (I3.keep o5).drop hkp; have s5 := ints_src ID; have hdl : ((p.drop c).map (Value.int .i64)).length = (p.length - c) * 1 := (by simp); have Hdl := Lib.hid hdl; clear hdl)
          | (refine step_app _ rfl (.tmp 24) (.tmp 27) 27 rfl w3.heap.size 2 i0 _ 1 8 Tryz.underlying27 hi hz0 hz1 hz2 rfl (by omega) v5 (c + 1) ((p.take c).map (Value.int .i64) ++ [.int .i64 (j : Int)]) rfl (row_keep hO5 (by with_reducible repeat (first | exact Only.refl _ _ | assumption | refine Only.drewN ?_ _ | refine Only.drew ?_ | refine Only.alloc ?_ _ | refine Only.trans ?_ (by assumption)))) (some ⟨b, off, none⟩) 0 0 [] rfl rfl (by intro ad hh j1 u hu; simp at hu) (by intro hh; cases hh) (by intro u hu; simp at hu) (by unfold maxLen; omega) (by omega) (Only.size (fp := []) (by with_reducible repeat (first | exact Only.refl _ _ | assumption | refine Only.drewN ?_ _ | refine Only.drew ?_ | refine Only.alloc ?_ _ | refine Only.trans ?_ (by assumption)))) ?_; intro v6 w6 hO6 hg6 hb6; have o6 : Only [] w3 w6 := Only.grown (by with_reducible repeat (first | exact Only.refl _ _ | assumption | refine Only.drewN ?_ _ | refine Only.drew ?_ | refine Only.alloc ?_ _ | refine Only.trans ?_ (by assumption))) hg6 (by intro z hz hzl; have := (hO5.lt z hz).1; omega))
          | fail "no arm")
        all_goals (
          have hfin := hend v6 w6 (by have e : p.length - c = 0 := (by omega); rw [e, Hd0.out]; simpa using hO6) o6
          obtain ⟨p', fp', e1, e2, e3, e4, e5, e6⟩ := hfin
          go_wp2_with fail
          exact ⟨⟨j + 1, p', fp', by omega, by go_num, e1, e2, e3, e4, e5, e6⟩, by simp [intOf]; omega⟩)
      · go_region_law (first
          | (go_simp; go_at_call 36; (with_reducible refine (HcC.out _ (by with_reducible repeat (first | exact Only.refl _ _ | assumption | refine Only.drewN ?_ _ | refine Only.drew ?_ | refine Only.alloc ?_ _ | refine Only.trans ?_ (by assumption)))).mono ?_); rintro en w4 ⟨a4, q4, rfl, hO4, o4⟩; have o4w : Only [] w3 w4 := Only.trans (by with_reducible repeat (first | exact Only.refl _ _ | assumption | refine Only.drewN ?_ _ | refine Only.drew ?_ | refine Only.alloc ?_ _ | refine Only.trans ?_ (by assumption))) o4)
          | (refine step_app _ rfl (.tmp 21) (.tmp 23) 27 rfl w3.heap.size 2 i0 _ 1 8 Tryz.underlying27 hi hz0 hz1 hz2 rfl (by omega) (.slice a4 k q4) k ((p.take k).map (Value.int .i64)) rfl (row_keep hO4 (by with_reducible repeat (first | exact Only.refl _ _ | assumption | refine Only.drewN ?_ _ | refine Only.drew ?_ | refine Only.alloc ?_ _ | refine Only.trans ?_ (by assumption)))) _ 1 1 [.int .i64 (j : Int)] rfl rfl (by first | exact lit_srcA _ [.int .i64 (j : Int)] 2 rfl | exact (fun ad hh j1 u hu => o4.cell (by simp) (lit_srcA _ [.int .i64 (j : Int)] 2 rfl ad hh j1 u hu))) (by intro hh; cases hh) (by intro u hu; simp at hu; subst hu; rfl) (by unfold maxLen; omega) (by omega) (Only.size (fp := []) (by with_reducible repeat (first | exact Only.refl _ _ | assumption | refine Only.drewN ?_ _ | refine Only.drew ?_ | refine Only.alloc ?_ _ | refine Only.trans ?_ (by assumption)))) ?_; intro v5 w5 hO5 hg5 hb5; have o5 : Only [] w3 w5 := Only.grown (by with_reducible repeat (first | exact Only.refl _ _ | assumption | refine Only.drewN ?_ _ | refine Only.drew ?_ | refine Only.alloc ?_ _ | refine Only.trans ?_ (by assumption))) hg5 (by intro z hz hzl; have := (hO4.lt z hz).1; omega); have ID := (I3.keep o5).drop hkp; have s5 := ints_src ID; have hdl : ((p.drop k).map (Value.int .i64)).length = (p.length - k) * 1 := (by simp); have Hdl := Lib.hid hdl; clear hdl)
          | (refine step_app _ rfl (.tmp 24) (.tmp 27) 27 rfl w3.heap.size 2 i0 _ 1 8 Tryz.underlying27 hi hz0 hz1 hz2 rfl (by omega) v5 (k + 1) ((p.take k).map (Value.int .i64) ++ [.int .i64 (j : Int)]) rfl (row_keep hO5 (by with_reducible repeat (first | exact Only.refl _ _ | assumption | refine Only.drewN ?_ _ | refine Only.drew ?_ | refine Only.alloc ?_ _ | refine Only.trans ?_ (by assumption)))) (some ⟨b, off + k, none⟩) (p.length - k) (c - k) ((p.drop k).map (Value.int .i64)) rfl Hdl.out s5.1 (by intro hh; cases hh) (ints_one _) (by unfold maxLen; omega) (by omega) (Only.size (fp := []) (by with_reducible repeat (first | exact Only.refl _ _ | assumption | refine Only.drewN ?_ _ | refine Only.drew ?_ | refine Only.alloc ?_ _ | refine Only.trans ?_ (by assumption)))) ?_; intro v6 w6 hO6 hg6 hb6; have o6 : Only [] w3 w6 := Only.grown (by with_reducible repeat (first | exact Only.refl _ _ | assumption | refine Only.drewN ?_ _ | refine Only.drew ?_ | refine Only.alloc ?_ _ | refine Only.trans ?_ (by assumption))) hg6 (by intro z hz hzl; have := (hO5.lt z hz).1; omega))
          | fail "no arm")
        all_goals (
          have hfin := hend v6 w6 hO6 o6
          obtain ⟨p', fp', e1, e2, e3, e4, e5, e6⟩ := hfin
          go_wp2_with fail
          exact ⟨⟨j + 1, p', fp', by omega, by go_num, e1, e2, e3, e4, e5, e6⟩, by simp [intOf]; omega⟩)
    · obtain rfl : j = n := by omega
      go_wp2
      go_ret
      exact ⟨_, p, rfl, hA, hp, hD, hK⟩
end Go.Proofs.YtpkplmnpepkdaaaGreat

namespace Go.Proofs.YtpkplmnpepkdaaaGreat
open Go.RowKit
set_option maxRecDepth 10000

/-- where the first pattern with this key lies -/
def firstG (l : List (List Int)) (s : ByteArray) : Option Int := (l.findIdx? fun p => kB p = s).map fun i : Nat => (i : Int)
theorem firstG_snoc (l : List (List Int)) (p : List Int) (s : ByteArray) : firstG (l ++ [p]) s = match firstG l s with | some i => some i | none => if s = kB p then some (l.length : Int) else none := by
  unfold firstG
  rw [List.findIdx?_append]
  cases h : l.findIdx? (fun p => decide (kB p = s)) with
  | some i => simp
  | none =>
    by_cases hp : kB p = s
    · simp [hp]
    · have : ¬ s = kB p := fun e => hp e.symm
      simp [hp, this]
def Byt (l : List Int) : Prop := ∀ x ∈ l, 0 ≤ x ∧ x < 256
theorem firstG_idx {l : List (List Int)} (h : ∀ p ∈ l, Byt p) {q : List Int} (hq : Byt q) : firstG l (kB q) = if 0 ≤ idxL l q then some (idxL l q) else none := by
  have hfun : l.findIdx? (fun p => decide (kB p = kB q)) = l.findIdx? (fun p => decide (p = q)) := by
    induction l with
    | nil => rfl
    | cons p l ih =>
      rw [List.findIdx?_cons, List.findIdx?_cons, ih (fun r hr => h r (by simp [hr]))]
      have : decide (kB p = kB q) = decide (p = q) := by
        rw [decide_eq_decide]; exact kB_eq (h p (by simp)) hq
      rw [this]
  unfold firstG idxL idxF
  rw [hfun]
  cases l.findIdx? (fun p => decide (p = q)) with
  | some i => simp
  | none => simp
theorem inc_len_le2 {n : Int} {l : List Int} (h : trackB n l = true) : (l.length : Int) ≤ n := by
  obtain ⟨h0, h1⟩ := trackB_iff.1 h
  rcases h1.len with h2 | h2 <;> omega
theorem mem_take_stepR' {l : List (List Int)} {j : Nat} (h : j < l.length) {P : List Int → Prop} (h1 : ∀ x ∈ l.take j, P x) (h2 : P l[j]) : ∀ x ∈ l.take (j + 1), P x := by
  rw [take_succ_get l j h]
  intro x hx
  rcases List.mem_append.1 hx with hx | hx
  · exact h1 x hx
  · simp at hx; subst hx; exact h2
theorem patB_byt {n : Int} {k : Nat} {l : List Int} (h : patB n k l = true) (hn : n ≤ 256) : Byt l := fun x hx => by
  have := (patB_iff.1 h).2.1 x hx; omega
end Go.Proofs.YtpkplmnpepkdaaaGreat
