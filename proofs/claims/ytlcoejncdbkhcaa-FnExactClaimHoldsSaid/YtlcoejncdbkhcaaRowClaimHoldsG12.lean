/- The program's group order and number of states (laws 20, 38). The smallest optimal word of a state, in plain words (laws 20, 38). Maps from strings to numbers that a call makes; the key of a list of small numbers. Maps from strings to truth values that a call makes. The program's search of patterns: its state (law 16). A slice of numbers that a loop appends to, in fewer words. Maps from strings to int64 that a call makes. (Printed by mkmapi.py out of XMap.) The first pattern with a key, in plain words. A family of memory parts of a call's own: all apart from each other; what a write to one of them leaves of the others. A region whose order is drawn, by an invariant: what holds whatever has come up so far. -/
import Derived.Test.YtlcoejncdbkhcaaRowClaimHoldsG3
import Derived.Test.YtlcoejncdbkhcaaRowClaimHoldsG8
import Derived.Test.YtlcoejncdbkhcaaRowClaimHoldsG11
import Derived.Test.YtlcoejncdbkhcaaRowClaimHoldsG9
import Derived.Maps.OwnSet
import Derived.StringKeys
import Derived.Laws.BytesArg
import Derived.Test.YtlcoejncdbkhcaaRowClaimHoldsG10
import Derived.Test.YtlcoejncdbkhcaaRowClaimHoldsG2
import Derived.Deep.RegionLaw
import Derived.Test.YtlcoejncdbkhcaaRowClaimHoldsG1
import Derived.Orders
import Derived.RegionTactic
import Derived.Deep.RegionHeld
namespace Go.Proofs.Ytlcoejncdbkhcaa
open Go.RowKit
set_option maxRecDepth 10000

theorem ord_step {T : PM.Rows} {n i : Nat} (hi : i < n) : PM.ordM T n (n - i) = PM.cntR n T i * PM.ordM T n (n - (i + 1)) := by
  have h1 : n - i = (n - (i + 1)) + 1 := by omega
  have h2 : n - (n - (i + 1) + 1) = i := by omega
  rw [h1]; simp only [PM.ordM, h2]
theorem ord_end {T : PM.Rows} {n i : Nat} (hi : n ≤ i) : PM.ordM T n (n - i) = 1 := by
  rw [show n - i = 0 by omega]; rfl
theorem orb_cnt (n : Nat) (T : PM.Rows) (k : Nat) : (orb n T k).length = PM.cntR n T k := rfl
set_option maxHeartbeats 2000000 in
theorem implOrder_any {e : TypeId} {B : Nat} {L : Lay} {gv : Nat → Value} {n : Nat} {G : PM.Gens} {T : PM.Rows} {M F : List Nat} (w : World) (hC : Ch e B w L gv n G T M F) (hw : PM.WF n T) (hT : L.oT = 2) (k : Nat) (hk : k ≤ n) :
    Calls Try.prog 75 #[.pointer (some ⟨L.g, 0, none⟩), .int .i64 k] w fun e w' => e = .returned (.int .i64 (PM.ordM T n (n - k) : Nat)) ∧ Only [] w w' := by
  have hn20 := hC.le
  have hct := hC.ct
  rw [hT] at hct
  have hcn := hC.cn
  have HC := Lib.hid hC
  have Hw := Lib.hid hw
  clear hC hw
  go_enter Try.func75, Try.ntmps75
  go_wp2
  go_loopw [5, 6] (fun o i wr => ∃ (j m : Nat), k ≤ j ∧ j ≤ n ∧ i = .int .i64 j ∧ o = .int .i64 (m : Nat) ∧ 1 ≤ m ∧ m * PM.ordM T n (n - j) = PM.ordM T n (n - k) ∧ Only [] w wr)
    (fun _ i _ => n - (intOf i).toNat)
  case atStart => exact ⟨k, 1, Nat.le_refl _, hk, rfl, rfl, Nat.le_refl _, Nat.one_mul _, Only.refl _ _⟩
  case round =>
    obtain ⟨W2, hnew⟩ : ∃ W, W = wr := ⟨_, rfl⟩
    subst hnew
    obtain ⟨j, m, hkj, hj, rfl, rfl, hm1, hm, hK⟩ := hrel
    have Hm := Lib.hid hm
    clear hm
    have y0 := hK.cell (by simp) hcn
    have y1 := hK.cell (by simp) hct
    by_cases hlt : j < n
    · have hC2 := HC.out.keep hK
      have y2 := hC2.row j hlt
      have hstep := ord_step (T := T) hlt
      have hoc := orb_cnt n T j
      have hcp := PM.cntR_pos Hw.out hlt
      have hor := PM.ordM_rng Hw.out (n - (j + 1)) (by omega)
      have hmul : (m * PM.cntR n T j) * PM.ordM T n (n - (j + 1)) = PM.ordM T n (n - k) := by rw [Nat.mul_assoc, ← hstep]; exact Hm.out
      have hle : m * PM.cntR n T j ≤ 2432902008176640000 := by
        have h1 := PM.ordM_le Hw.out hn20 (m := n - k) (by omega)
        have h2 : m * PM.cntR n T j ≤ (m * PM.cntR n T j) * PM.ordM T n (n - (j + 1)) := Nat.le_mul_of_pos_right _ hor.1
        omega
      have hpos : 1 ≤ m * PM.cntR n T j := Nat.mul_le_mul hm1 hcp
      obtain ⟨cn, hcnn⟩ : ∃ cn, cn = PM.cntR n T j := ⟨_, rfl⟩
      rw [← hcnn] at hmul hle hoc hpos
      have Hmul := Lib.hid hmul
      have Hoc := Lib.hid hoc
      have hwr : IntKind.i64.wrap ((m : Int) * (cn : Int)) = ((m * cn : Nat) : Int) := by rw [IntKind.wrap_i64]; push_cast; omega
      clear hstep hor hmul hoc hcnn hcp
      go_wp2_with (first
        | (go_at_call 60; (with_reducible refine (orbitOf_any _ (hC2.keep (by with_reducible repeat (first | exact Only.refl _ _ | assumption | refine Only.drewN ?_ _ | refine Only.drew ?_ | refine Only.alloc ?_ _ | refine Only.setCell ?_ (by intro hh; exfalso; simp at hh; try omega) _ | refine Only.trans ?_ (by assumption)))) j hlt).mono ?_); rintro e w3 ⟨v3, f3, rfl, A3, F3, t3⟩; have r3 := A3.rd (by decide))
        | (go_at_call 40; (with_reducible refine (lengthInt_rd v3 (orb n T j) _ _ (Rp.keep r3 (by with_reducible repeat (first | exact Only.refl _ _ | assumption | refine Only.drewN ?_ _ | refine Only.drew ?_ | refine Only.alloc ?_ _ | refine Only.setCell ?_ (by intro hh; exfalso; simp at hh; try omega) _ | refine Only.trans ?_ (by assumption))))).mono ?_); rintro e w4 ⟨he, rfl⟩; rw [Hoc.out] at he; subst he)
        | fail "no arm")
      go_roundw
      case rel => exact ⟨j + 1, m * cn, by omega, by omega, by go_num, rfl, hpos, Hmul.out, (by with_reducible repeat (first | exact Only.refl _ _ | assumption | refine Only.drewN ?_ _ | refine Only.drew ?_ | refine Only.alloc ?_ _ | refine Only.setCell ?_ (by intro hh; exfalso; simp at hh; try omega) _ | refine Only.trans ?_ (by assumption)))⟩
      case measure => simp [intOf]; omega
    · have he : j = n := by omega
      have hend := ord_end (T := T) (n := n) (i := j) (by omega)
      have hfin : m = PM.ordM T n (n - k) := by have := Hm.out; rw [hend, Nat.mul_one] at this; exact this
      have Hfin := Lib.hid hfin
      clear he hend hfin
      go_wp2
      go_ret
      exact ⟨ret_int (by rw [Hfin.out]), hK⟩
theorem implOrder0 {e : TypeId} {B : Nat} {L : Lay} {gv : Nat → Value} {n : Nat} {G : PM.Gens} {T : PM.Rows} {M F : List Nat} {w : World} (hC : Ch e B w L gv n G T M F) (hw : PM.WF n T) (hT : L.oT = 2) :
    Calls Try.prog 75 #[.pointer (some ⟨L.g, 0, none⟩), .int .i64 0] w fun e w' => e = .returned (.int .i64 (PM.ordM T n n : Nat)) ∧ Only [] w w' :=
  implOrder_any w hC hw hT 0 (Nat.zero_le _)
set_option maxHeartbeats 1000000 in
theorem implStateCount_any (cs : List Value) (x : Puzzle) (fp : List Nat) (w : World) (h : Rp.rep w cs x fp) :
    Calls Try.prog 61 #[.agg cs.toArray] w fun e w' => e = .returned (.int .i64 (if validPz x = true then (cardG x : Int) else 0)) ∧ Only [] w w' := by
  have h0 := h
  obtain ⟨v2, rfl, p0, p1, h2⟩ := h
  obtain ⟨A2, C2, ob, fps, rfl, -, -⟩ := h2.open_
  rcases hq : validPz x
  · go_enter Try.func61, Try.ntmps61
    go_wp2_with (first
      | (go_at_call 26; (with_reducible refine (implIsValidPuzzle_any [.int .i64 x.points, .string x.names, .slice A2 x.moves.length C2] x _ _ (Rp.keep h0 (by with_reducible repeat (first | exact Only.refl _ _ | assumption | refine Only.drewN ?_ _ | refine Only.drew ?_ | refine Only.alloc ?_ _ | refine Only.setCell ?_ (by intro hh; exfalso; simp at hh; try omega) _ | refine Only.trans ?_ (by assumption))))).mono ?_); rintro e w1 ⟨he, t1⟩; rw [hq] at he; subst he) | fail "no arm")
    go_ret
    exact ⟨rfl, (by with_reducible repeat (first | exact Only.refl _ _ | assumption | refine Only.drewN ?_ _ | refine Only.drew ?_ | refine Only.alloc ?_ _ | refine Only.setCell ?_ (by intro hh; exfalso; simp at hh; try omega) _ | refine Only.trans ?_ (by assumption)))⟩
  · obtain ⟨n1, n20, hml, -⟩ := validPz_facts hq
    have hmp := validPz_pn hq
    have Hmp := Lib.hid hmp
    clear hmp
    have X0 := Blk.new w [.int .i64 x.points, .string x.names, .slice A2 x.moves.length C2] 30
    simp only [List.toArray] at X0
    go_enter Try.func61, Try.ntmps61
    go_wp2_with (first
      | (go_at_call 26; (with_reducible refine (implIsValidPuzzle_any [.int .i64 x.points, .string x.names, .slice A2 x.moves.length C2] x _ _ (Rp.keep h0 (by with_reducible repeat (first | exact Only.refl _ _ | assumption | refine Only.drewN ?_ _ | refine Only.drew ?_ | refine Only.alloc ?_ _ | refine Only.setCell ?_ (by intro hh; exfalso; simp at hh; try omega) _ | refine Only.trans ?_ (by assumption))))).mono ?_); rintro e w1 ⟨he, t1⟩; rw [hq] at he; subst he; have X1 := X0.keep t1; have y0 := X1.cell 0 rfl; have y1 := X1.cell 1 rfl; have y2 := X1.cell 2 rfl)
      | (go_at_call 28; (with_reducible refine (implNewChain_i x.points n1 n20 _ x.moves _ _ (Rp.keep h2 (by with_reducible repeat (first | exact Only.refl _ _ | assumption | refine Only.drewN ?_ _ | refine Only.drew ?_ | refine Only.alloc ?_ _ | refine Only.setCell ?_ (by intro hh; exfalso; simp at hh; try omega) _ | refine Only.trans ?_ (by assumption)))) Hmp.out (by omega)).mono ?_); rintro en w3 ⟨L, gv, G, T, M, F, rfl, hoG, hoT, hC, hCh, t3⟩; have HC := Lib.hid hC; have HCh := Lib.hid hCh; have HoT := Lib.hid hoT; clear hC hCh hoT hoG)
      | (go_at_call 75; (with_reducible refine (implOrder0 HC.out HCh.out.inv.wf HoT.out).mono ?_); rintro en w4 ⟨he, t4⟩; rw [chain_card HCh.out (by omega) Hmp.out] at he; subst he) | fail "no arm")
    go_ret
    exact ⟨rfl, (by with_reducible repeat (first | exact Only.refl _ _ | assumption | refine Only.drewN ?_ _ | refine Only.drew ?_ | refine Only.alloc ?_ _ | refine Only.setCell ?_ (by intro hh; exfalso; simp at hh; try omega) _ | refine Only.trans ?_ (by assumption)))⟩
end Go.Proofs.Ytlcoejncdbkhcaa

namespace Go.Proofs.Ytlcoejncdbkhcaa
open Go.RowKit
set_option maxRecDepth 10000
/-- one letter of the way down -/
structure Down (x : Puzzle) (t : Table) (i : Nat) (n : Nat) (k : Nat) (j : Nat) : Prop where
  hk : k < (ltrs x.moves.length).length
  l : descL x t (t.patterns.getD i []) n = (ltrs x.moves.length)[k]
  hj : j < t.patterns.length
  nx : t.patterns.getD j [] = nxt x (t.patterns.getD i []) (ltrs x.moves.length)[k]
  ds : t.distances.getD j 0 = n
  no : ∀ m (hm : m < k), ∀ i', i' < t.patterns.length → t.patterns.getD i' [] = nxt x (t.patterns.getD i []) ((ltrs x.moves.length)[m]'(Nat.lt_trans hm hk)) → t.distances.getD i' 0 ≠ n ∧ ¬ t.distances.getD i' 0 < (n : Int) + 1
section
variable {x : Puzzle} {t : Table}
theorem Built.mem_of (_ : Built x t) {i : Nat} (hi : i < t.patterns.length) : t.patterns.getD i [] ∈ t.patterns := by rw [getD_get hi]; exact List.getElem_mem hi
theorem Built.down (h : Built x t) {i : Nat} (hi : i < t.patterns.length) {n : Nat} (hd : t.distances.getD i 0 = (n : Int) + 1) : ∃ k j, Down x t i n k j := by
  have hg := ent_nil.1 (h.good i hi)
  have hda : atD t i - 1 = (n : Int) := by rw [atD_nat, hd]; omega
  have hne : descL x t (t.patterns.getD i []) (atD t i - 1) ≠ 0 := hg.2.2.2.2 (by rw [atD_nat, hd]; omega)
  rw [hda] at hne
  rcases @descL_of_dK x t (t.patterns.getD i []) n with ⟨-, h1⟩ | ⟨k, hk, h1, h2⟩
  · exact absurd h1 hne
  · obtain ⟨-, hlead⟩ := descL_leads hne
    obtain ⟨a1, a2⟩ := leads_iffD.1 hlead
    rw [h2] at a1 a2
    have hlt := (idxL_lt (l := t.patterns) (p := nxt x (t.patterns.getD i []) (ltrs x.moves.length)[k])).2
    obtain ⟨j, hj⟩ : ∃ j : Nat, nextI x t (t.patterns.getD i []) (ltrs x.moves.length)[k] = j := ⟨_, (Int.toNat_of_nonneg a1).symm⟩
    have hjl : j < t.patterns.length := by unfold nextI at hj; omega
    have hn := idxL_getD a1
    unfold nextI at hj
    rw [hj, Int.toNat_natCast] at hn
    refine ⟨k, j, hk, h2, hjl, hn, ?_, ?_⟩
    · unfold nextI at a2; rw [hj, atD_nat] at a2; exact a2
    · intro m hm i' hi' e
      have hml : (ltrs x.moves.length)[m]'(Nat.lt_trans hm hk) ∈ ltrs x.moves.length := List.getElem_mem _
      have hne2 : t.distances.getD i' 0 ≠ n := by
        intro e2
        have hl : leads x t (t.patterns.getD i []) n ((ltrs x.moves.length)[m]'(Nat.lt_trans hm hk)) = true := by
          rw [leads_iffD]
          unfold nextI
          rw [← e, h.idx hi', atD_nat]
          exact ⟨by omega, e2⟩
        have hno : ∀ q ∈ (ltrs x.moves.length).take k, leads x t (t.patterns.getD i []) n q = false := by
          have hf : dK x t (t.patterns.getD i []) n = k := h1
          unfold dK idxF at hf
          cases hq : (ltrs x.moves.length).findIdx? (leads x t (t.patterns.getD i []) n) with
          | none => rw [hq] at hf; simp at hf
          | some k' =>
            rw [hq] at hf
            have hf2 : (k' : Int) = k := hf
            have : k' = k := by omega
            subst this
            obtain ⟨_, _, hall⟩ := List.findIdx?_eq_some_iff_getElem.1 hq
            intro q hqm
            rw [List.mem_take_iff_getElem] at hqm
            obtain ⟨m', hm', rfl⟩ := hqm
            simpa using hall m' (by omega)
        have := hno _ (List.mem_take_iff_getElem.2 ⟨m, by omega, rfl⟩)
        rw [hl] at this; cases this
      refine ⟨hne2, fun hlt2 => hne2 ?_⟩
      obtain ⟨i2, b1, b2, b3, b4⟩ := h.step hi hml
      have : i2 = i' := by
        have e3 := b2.trans e.symm
        rw [getD_get b1, getD_get hi'] at e3
        have hnd : t.patterns.Nodup := h.bi.nd
        exact nodup_at hnd b1 hi' e3
      subst this
      omega
end
theorem expl_pat {x : Puzzle} {t : Table} (he : expl x = some t) {i : Nat} (hi : i < t.patterns.length) : patB x.points x.points.toNat (t.patterns.getD i []) = true := by
  obtain ⟨hb, ht⟩ := expl_built he
  have := hb.bi.pat (t.patterns.getD i []) (hb.mem_of hi)
  rwa [ht, PM.pts_len] at this
theorem expl_len1 {x : Puzzle} {t : Table} (he : expl x = some t) {i : Nat} (hi : i < t.patterns.length) : (t.patterns.getD i []).length = x.points.toNat := (patB_iff.1 (expl_pat he hi)).1
end Go.Proofs.Ytlcoejncdbkhcaa

namespace Go.Proofs.Ytlcoejncdbkhcaa
open Go.RowKit
set_option maxRecDepth 10000
open Go.Maps (Keyed)

/-- the key of a list: a byte each -/
def kB (l : List Int) : ByteArray := strOfNums (l.map fun x => x % 256)
theorem kB_size (l : List Int) : (kB l).size = l.length := by unfold kB; rw [strOfNums_size, List.length_map]
theorem kB_inj : ∀ {l l' : List Int}, (∀ x ∈ l, 0 ≤ x ∧ x < 256) → (∀ x ∈ l', 0 ≤ x ∧ x < 256) → kB l = kB l' → l = l' := by
  intro l l' h h' he
  have hd : (kB l).data.toList = (kB l').data.toList := by rw [he]
  unfold kB at hd
  rw [strOfNums_data, strOfNums_data, List.map_map, List.map_map] at hd
  clear he
  induction l generalizing l' with
  | nil => cases l' with
    | nil => rfl
    | cons y l' => simp at hd
  | cons x l ih => cases l' with
    | nil => simp at hd
    | cons y l' =>
      simp only [List.map_cons, List.cons.injEq] at hd
      have hx := h x (by simp); have hy := h' y (by simp)
      have e1 : x % 256 = x := Int.emod_eq_of_lt hx.1 hx.2
      have e2 : y % 256 = y := Int.emod_eq_of_lt hy.1 hy.2
      have h1 := hd.1
      simp only [Function.comp, e1, e2] at h1
      have h2 := congrArg UInt8.toNat h1
      rw [UInt8.toNat_ofNat', UInt8.toNat_ofNat'] at h2
      have : x = y := by omega
      subst this
      rw [ih (fun z hz => h z (by simp [hz])) (fun z hz => h' z (by simp [hz])) hd.2]
theorem kB_eq {l l' : List Int} (h : ∀ x ∈ l, 0 ≤ x ∧ x < 256) (h' : ∀ x ∈ l', 0 ≤ x ∧ x < 256) : kB l = kB l' ↔ l = l' := ⟨kB_inj h h', fun e => by rw [e]⟩

theorem Try.lawStr : Keyed Try.prog 9 := Go.Maps.string_keyed Try.underlying9
/-- block M is a map of at most k entries; g: what lies at a key -/
def Mp (w : World) (M k : Nat) (g : ByteArray → Option Int) : Prop :=
  ∃ D : DataW Unit, w.ownsMap Try.prog 9 (plainElem Try.prog 3) M k D ∧ ∀ s : ByteArray, s.size ≤ maxLen →
    Go.Maps.has D (.string s.data.toList) = (g s).isSome ∧ ∀ n, g s = some n → D.atKey (.string s.data.toList) (.lit (.int .i64 0)) = .lit (.int .i64 n)
theorem Mp.lt {w : World} {M k : Nat} {g : ByteArray → Option Int} (h : Mp w M k g) : M < w.heap.size := by
  obtain ⟨D, h1, -⟩ := h; exact h1.lt
theorem Mp.frame {w w' : World} {M k : Nat} {g : ByteArray → Option Int} (h : Mp w M k g) (hf : w'.heap[M]? = w.heap[M]?) : Mp w' M k g := by
  obtain ⟨D, ⟨es, c, h1, h2⟩, h3⟩ := h
  exact ⟨D, ⟨es, c, by rw [hf]; exact h1, h2⟩, h3⟩
theorem Mp.only {w w' : World} {fp : List Nat} {M k : Nat} {g : ByteArray → Option Int} (h : Mp w M k g) (ho : Only fp w w') (hn : M ∉ fp) : Mp w' M k g := h.frame (ho.block M h.lt hn)
theorem Mp.keep {w w' : World} {M k : Nat} {g : ByteArray → Option Int} (h : Mp w M k g) (ho : Only [] w w') : Mp w' M k g := h.only ho (by simp)
theorem Mp.made (w : World) {M : Nat} (hM : M = w.heap.size) : Mp (w.alloc (.map #[] 0)) M 0 (fun _ => none) := by
  subst hM
  exact ⟨.map [], World.ownsMap_made _ _ _ _, fun s _ => ⟨rfl, by simp⟩⟩
theorem Mp.congr {w : World} {M k : Nat} {g g' : ByteArray → Option Int} (h : Mp w M k g) (hg : ∀ s, g s = g' s) : Mp w M k g' := by
  have : g = g' := funext hg
  rw [← this]; exact h
section
variable {w : World} {M k : Nat} {g : ByteArray → Option Int}
end

theorem Try.infoByte : (Try.prog.info? 5).map (fun i => (i.zero, i.size, i.bytes)) = some (some (.int .u8 0), 1, 1) := by kernel_rfl
theorem madeBytes (n : Nat) : (madeCells (Value.cells (.int .u8 0)) n).toList = List.replicate n (.int .u8 0) := by
  apply List.ext_getElem (by simp [madeCells])
  intro i h1 h2
  simp [madeCells, Value.cells, Nat.mod_one]
theorem step_bytes (l : List Int) (j : Nat) (hj : j < l.length) : ((l.take j).map (fun x => Value.int .u8 (x % 256)) ++ List.replicate (l.length - j) (Value.int .u8 0)).set j (.int .u8 (l[j] % 256)) = (l.take (j + 1)).map (fun x => Value.int .u8 (x % 256)) ++ List.replicate (l.length - (j + 1)) (.int .u8 0) := by
  have hl : ((l.take j).map (fun x => Value.int .u8 (x % 256))).length = j := by rw [List.length_map, List.length_take]; omega
  rw [show l.length - j = (l.length - (j + 1)) + 1 by omega, List.replicate_succ, List.set_append_right _ _ (by omega), hl, Nat.sub_self, take_succ_get l j hj]
  simp only [List.map_append, List.map_cons, List.map_nil, List.append_assoc, List.cons_append, List.nil_append, List.set_cons_zero]
set_option maxHeartbeats 1000000 in
theorem stateKey_rd (v : Value) (l : List Int) (fp : List Nat) (w : World) (h : Rd w v l fp) (hl : l.length ≤ 1000) :
    Calls Try.prog 62 #[v] w fun e w' => e = .returned (.string (kB l)) ∧ Only [] w w' := by
  obtain ⟨a, cap, rfl, hI⟩ := h.ints
  obtain ⟨i0, hi, hz0, hz1, hz2⟩ := info_parts Try.infoByte
  go_enter Try.func62, Try.ntmps62
  go_wp2_with (at_make; refine wpList_make_full _ rfl _ _ 103 rfl w.heap.size 5 i0 _ 1 Try.underlying103 hi hz0 hz1 _ _ _ _ l.length rfl rfl rfl rfl (by rw [hz2]; omega) (by unfold maxLen; omega) (Nat.le_refl _) ?_; intro w1 hown hg)
  rw [madeBytes, Nat.mul_one] at hown
  go_loopw [11] (fun i wr => ∃ j : Nat, j ≤ l.length ∧ i = .int .i64 j ∧
      wr.ownsRow w.heap.size 5 1 (.slice (some ⟨w.heap.size, 0, none⟩) l.length l.length) l.length ((l.take j).map (fun x => Value.int .u8 (x % 256)) ++ List.replicate (l.length - j) (.int .u8 0)) ∧ Only [] w wr)
    (fun i _ => l.length - (intOf i).toNat)
  case atStart => exact ⟨0, Nat.zero_le _, rfl, by simpa using hown, (Only.refl _ _).grown hg (by simp)⟩
  case round =>
    obtain ⟨j, hj, rfl, hO, hK⟩ := hrel
    by_cases hlt : j < l.length
    · obtain ⟨b, off, rfl, -, hc0⟩ := hI.at_ j hlt
      have hc := hK.cell (by simp) hc0
      have hO2 := (hO.stored j (.int .u8 (l[j] % 256))).1
      rw [step_bytes l j hlt] at hO2
      obtain ⟨z2, hc2⟩ : ∃ z, wr.cell? ⟨w.heap.size, j, none⟩ = some z := by
        rw [hO.cellAt j (by omega)]
        exact ⟨_, List.getElem?_eq_getElem (by simp; omega)⟩
      have hf2 := hO.frozenAt j
      have hK2 := hK.setCell (p := ⟨w.heap.size, j, none⟩) (by simp) (.int .u8 (l[j] % 256))
      have HO := Lib.hid hO2
      clear hO hO2 hown hc0
      go_wp2
      go_roundw
      case rel => exact ⟨j + 1, by omega, by go_num, HO.out, hK2⟩
      case measure => simp [intOf]; omega
    · have hjl : j = l.length := by omega
      rw [hjl] at hO
      simp only [Nat.sub_self, List.replicate_zero, List.append_nil, List.take_length] at hO
      have hcv := run_convert_bytes_arg (P := Try.prog) wr 103 5 Try.underlying103 Try.underlying5 w.heap.size 0 l.length l.length (l.map fun x => x % 256) (by simp) (fun i hi => by
        rw [Nat.zero_add, hO.cellAt i (by omega)]
        simp [hi]) 9 Try.underlying9
      have hKB : strOfNums (l.map fun x => x % 256) = kB l := rfl
      rw [hKB] at hcv
      clear hjl hO hown hKB
      go_wp2
      go_ret
      exact ⟨rfl, hK⟩
end Go.Proofs.Ytlcoejncdbkhcaa

namespace Go.Proofs.Ytlcoejncdbkhcaa
open Go.RowKit
set_option maxRecDepth 10000
open Go.Maps (Keyed)
/-- block M is a map of at most k entries; g: the truth value at a key -/
def MpB (w : World) (M k : Nat) (g : ByteArray → Bool) : Prop :=
  ∃ D : DataW Unit, w.ownsMap Try.prog 9 (plainElem Try.prog 4) M k D ∧ ∀ s : ByteArray, s.size ≤ maxLen →
    D.atKey (.string s.data.toList) (.lit (.bool false)) = .lit (.bool (g s))
theorem MpB.lt {w : World} {M k : Nat} {g : ByteArray → Bool} (h : MpB w M k g) : M < w.heap.size := by
  obtain ⟨D, h1, -⟩ := h; exact h1.lt
theorem MpB.frame {w w' : World} {M k : Nat} {g : ByteArray → Bool} (h : MpB w M k g) (hf : w'.heap[M]? = w.heap[M]?) : MpB w' M k g := by
  obtain ⟨D, ⟨es, c, h1, h2⟩, h3⟩ := h
  exact ⟨D, ⟨es, c, by rw [hf]; exact h1, h2⟩, h3⟩
theorem MpB.only {w w' : World} {fp : List Nat} {M k : Nat} {g : ByteArray → Bool} (h : MpB w M k g) (ho : Only fp w w') (hn : M ∉ fp) : MpB w' M k g := h.frame (ho.block M h.lt hn)
theorem MpB.keep {w w' : World} {M k : Nat} {g : ByteArray → Bool} (h : MpB w M k g) (ho : Only [] w w') : MpB w' M k g := h.only ho (by simp)
theorem MpB.made (w : World) {M : Nat} (hM : M = w.heap.size) : MpB (w.alloc (.map #[] 0)) M 0 (fun _ => false) := by
  subst hM
  exact ⟨.map [], World.ownsMap_made _ _ _ _, fun s _ => rfl⟩
theorem MpB.congr {w : World} {M k : Nat} {g g' : ByteArray → Bool} (h : MpB w M k g) (hg : ∀ s, g s = g' s) : MpB w M k g' := by
  have : g = g' := funext hg
  rw [← this]; exact h
section
variable {w : World} {M k : Nat} {g : ByteArray → Bool}
end

end Go.Proofs.Ytlcoejncdbkhcaa

namespace Go.Proofs.Ytlcoejncdbkhcaa
open Go.RowKit
set_option maxRecDepth 10000

/-- a literal of one element, to which a loop appends -/
theorem Acc.one {α : Type} [Rp α] {w : World} (B : Nat) (e : TypeId) {cs : List Value} {x : α} {fp : List Nat} (h : Rp.rep w cs x fp) {g : Nat} (hg : g = w.heap.size) (hB : B ≤ g) : Acc B e (w.alloc (.cells cs.toArray e)) (.slice (some ⟨g, 0, none⟩) 1 1) [x] [fp] := by
  subst hg
  have hk : Only [] w (w.alloc (.cells cs.toArray e)) := (Only.refl _ _).alloc _
  refine ⟨⟨[cs], ⟨by simp [Rp.len h], .inr ⟨w.heap.size, 1, cs.toArray, rfl, hB, heap_alloc_new w _, Nat.le_refl _, by unfold maxLen; omega, by simp [Rp.len h], by simpa using List.take_of_length_le (Nat.le_of_eq (Rp.len h))⟩⟩, rfl, fun k h1 h2 h3 => ?_⟩, rfl, ?_⟩
  · have : k = 0 := by simpa using h1
    subst this
    exact Rp.keep h hk
  · intro g hg hm
    simp only [Value.ownBlock, Option.some.injEq] at hg
    subst hg
    have := Rp.lt h _ (by simpa using hm)
    omega
section
variable {P : Program} {α : Type} [Rp α] {ops : Array Oper} {rest : List Oper} {o : Oper} {a : Act} {w : World} {Q : Exit → Act → World → Prop}
theorem wpList_push2w (hgd : o.guard = none) (s x : Operand) (t : TypeId)
    (ho : o.op = .call { callee := .builtin .append, args := #[s, x], argTypes := #[t, t] })
    (B : Nat) (e : TypeId) (i : TypeInfo) (z : Value) (bytes : Nat) (ht : P.underlying t = some (.slice e)) (hi : P.info? e = some i) (hz : i.zero = some z)
    (hsize : i.size = Rp.size α) (hby : i.bytes = bytes) (hzs : z.cells.size = Rp.size α) (hsz : 0 < Rp.size α) (hbb : bytes ≤ 65536)
    (w0 : World) (v : Value) (l : List α) (fs : List (List Nat)) (hs : a.eval s = v) (hA : Acc B e w0 v l fs) (hK0 : Only [] w0 w) (hB : B ≤ w0.heap.size)
    (g c : Nat) (cs : List Value) (y : α) (fp : List Nat) (hx : a.eval x = .slice (some ⟨g, 0, none⟩) 1 c) (hsrc : ∀ j u, cs[j]? = some u → w.cell? ⟨g, j, none⟩ = some u) (hcs : ∀ u ∈ cs, u.oneCell' = true)
    (hy : Rp.rep w cs y fp) (hap : ∀ b ∈ fp, v.ownBlock ≠ some b) (hlen : l.length + 1 ≤ 1073741824)
    (h : ∀ v' w', Acc B e w' v' (l ++ [y]) (fs ++ [fp]) → Only v.ownBlock.toList w w' → (∀ wz, Only [] wz w → wz.heap.size ≤ B → Only [] wz w') →
      (Fresh B w0 fs.flatten → Fresh w0.heap.size w fp → Fresh B w' (fs ++ [fp]).flatten) → (v'.ownBlock = v.ownBlock ∨ v'.ownBlock = some w.heap.size) → wpList P ops Q rest (a.put o.dst v') w') : wpList P ops Q (o :: rest) a w :=
  wpList_plain hgd fun _ hK => wp_push2 s x t ho B e i z bytes ht hi hz hsize hby hzs hsz hbb w0 v l fs hs hA hK0 hB g c cs y fp hx hsrc hcs hy hap hlen fun v' w' h1 h2 h3 h4 h5 => hK _ _ (h v' w' h1 h2 h3 h4 h5)
end
/-- which keys are met -/
def metB (L : List (List Int)) (s : ByteArray) : Bool := L.any fun q => decide (kB q = s)
/-- the program's search under way: lo: the call's begin; m1, W: begin and end of the making of the moves -/
structure PBf (x : Puzzle) (m : Nat) (w : World) (m1 : Nat) (W : World) (M : Nat) (L : List (List Int)) (D : List Int) (wr : World) (v1 v2 : Value) (fs fd : List (List Nat)) : Prop where
  acc : Acc w.heap.size 25 wr v1 L fs
  dep : Acc w.heap.size 2 wr v2 D fd
  fr : Fresh w.heap.size wr fs.flatten
  mp : MpB wr M L.length (metB L)
  dl : D.length = L.length
  ll : L.length ≤ 3000
  pat : ∀ q ∈ L, patB x.points m q = true
  rng : ∀ d ∈ D, 0 ≤ d ∧ d ≤ D.length
  a2 : ∀ g, v2.ownBlock = some g → v1.ownBlock ≠ some g ∧ g ∉ fs.flatten ∧ g ≠ M
  a1 : v1.ownBlock ≠ some M ∧ M ∉ fs.flatten
  zone : ∀ g, (g = M ∨ v1.ownBlock = some g ∨ v2.ownBlock = some g) → (w.heap.size ≤ g ∧ g < m1) ∨ W.heap.size ≤ g
  keep : ∀ g, (g < w.heap.size ∨ (m1 ≤ g ∧ g < W.heap.size)) → wr.heap[g]? = W.heap[g]?
  on : Only [] w wr
  sz : W.heap.size ≤ wr.heap.size
  mw : w.heap.size ≤ m1 ∧ m1 ≤ W.heap.size
section
variable {x : Puzzle} {m : Nat} {w : World} {m1 : Nat} {W : World} {M : Nat} {L : List (List Int)} {D : List Int} {wr : World} {v1 v2 : Value} {fs fd : List (List Nat)}
theorem PBf.only {wr' : World} (h : PBf x m w m1 W M L D wr v1 v2 fs fd) (ho : Only [] wr wr') : PBf x m w m1 W M L D wr' v1 v2 fs fd :=
  ⟨h.acc.keep ho, h.dep.keep ho, h.fr.keep ho, h.mp.keep ho, h.dl, h.ll, h.pat, h.rng, h.a2, h.a1, h.zone, fun g hg => by
    have hz := h.sz; have hw := h.mw
    rw [ho.block g (by omega) (by simp)]; exact h.keep g hg, h.on.trans ho, Nat.le_trans h.sz ho.size, h.mw⟩
/-- from a world on, in which all the search's memory lies already -/
theorem PBf.start {W5 : World} (h : PBf x m w m1 W M L D wr v1 v2 fs fd) (ho : Only [] wr W5) : PBf x m w wr.heap.size W5 M L D W5 v1 v2 fs fd := by
  have hw := h.mw; have hz := h.sz
  refine ⟨h.acc.keep ho, h.dep.keep ho, h.fr.keep ho, h.mp.keep ho, h.dl, h.ll, h.pat, h.rng, h.a2, h.a1, fun g hg => .inl ?_, fun g _ => rfl, h.on.trans ho, Nat.le_refl _, by omega, ho.size⟩
  have h1 := h.zone g hg
  refine ⟨by omega, ?_⟩
  rcases hg with rfl | hg | hg
  · exact h.mp.lt
  · exact (h.acc.ownlt g hg).2
  · exact (h.dep.ownlt g hg).2
theorem PBf.fd0 (h : PBf x m w m1 W M L D wr v1 v2 fs fd) : fd.flatten = [] := by
  obtain ⟨css, ho, hcl, hr⟩ := h.dep.own
  have hl := h.dep.fl
  have : fd = List.replicate fd.length [] := by
    apply List.ext_getElem (by simp)
    intro k h1 h2
    have := (hr k (by omega) (by omega) h1).2.2
    simpa using this
  rw [this]; exact flatten_nil _
/-- a new pattern is met: the map, the list, the depths -/
theorem PBf.step {wp wa wb wc wd : World} {v1' v2' : Value} {s : List Int} {d : Int} {f : List Nat}
    (h : PBf x m w m1 W M L D wr v1 v2 fs fd) (hL : L.length < 3000) (hp : patB x.points m s = true) (hd : 0 ≤ d ∧ d ≤ D.length + 1)
    (hm : MpB wp M (L.length + 1) (metB (L ++ [s]))) (ho : Only [M] wr wp)
    (ka : Only [] wp wa) (hA : Acc w.heap.size 25 wb v1' (L ++ [s]) (fs ++ [f])) (oA : Only v1.ownBlock.toList wa wb) (nA : v1'.ownBlock = v1.ownBlock ∨ v1'.ownBlock = some wa.heap.size) (hF : Fresh w.heap.size wb (fs ++ [f]).flatten) (hfM : M ∉ f) (hf2 : ∀ g ∈ f, wr.heap.size ≤ g ∨ v2.ownBlock ≠ some g)
    (kc : Only [] wb wc) (hD : Acc w.heap.size 2 wd v2' (D ++ [d]) (fd ++ [[]])) (oD : Only v2.ownBlock.toList wc wd) (nD : v2'.ownBlock = v2.ownBlock ∨ v2'.ownBlock = some wc.heap.size) :
    PBf x m w m1 W M (L ++ [s]) (D ++ [d]) wd v1' v2' (fs ++ [f]) (fd ++ [[]]) := by
  have s1 := ho.size; have s2 := ka.size; have s3 := oA.size; have s4 := kc.size; have s5 := oD.size
  have hz := h.sz; have hw := h.mw
  have hMl := h.mp.lt
  have l1 := h.acc.ownlt
  have l2 := h.dep.ownlt
  have hfl := h.fr.lt
  have hff : (fs ++ [f]).flatten = fs.flatten ++ f := by simp
  have hfs : ∀ g, v2.ownBlock = some g → g ∉ (fs ++ [f]).flatten := fun g hg hm => by
    rw [hff] at hm
    rcases List.mem_append.1 hm with hm | hm
    · exact (h.a2 g hg).2.1 hm
    · have := l2 g hg
      rcases hf2 g hm with h3 | h3
      · omega
      · exact h3 hg
  have hv12 : ∀ g, v2.ownBlock = some g → v1'.ownBlock ≠ some g := fun g hg he => by
    rcases nA with h3 | h3
    · exact (h.a2 g hg).1 (by rw [← h3]; exact he)
    · rw [h3] at he; injection he with he; have := l2 g hg; omega
  have hmM : ∀ g, v1.ownBlock = some g → g ≠ M := fun g hg e => h.a1.1 (by rw [hg, e])
  have hM1 : v1'.ownBlock ≠ some M := fun he => by
    rcases nA with h3 | h3
    · exact h.a1.1 (by rw [← h3]; exact he)
    · rw [h3] at he; injection he with he; omega
  have hM1' : M ∉ v1.ownBlock.toList := by simpa using h.a1.1
  have hM2' : M ∉ v2.ownBlock.toList := by simp; intro he; exact (h.a2 M he).2.2 rfl
  have hN : ∀ g, v1'.ownBlock = some g → v1.ownBlock = some g ∨ W.heap.size ≤ g := fun g hg => by
    rcases nA with h3 | h3
    · exact .inl (by rw [← h3]; exact hg)
    · rw [h3] at hg; injection hg with hg; right; omega
  have hN2 : ∀ g, v2'.ownBlock = some g → v2.ownBlock = some g ∨ wb.heap.size ≤ g := fun g hg => by
    rcases nD with h3 | h3
    · exact .inl (by rw [← h3]; exact hg)
    · rw [h3] at hg; injection hg with hg; right; omega
  have hko : Only (M :: (v1.ownBlock.toList ++ v2.ownBlock.toList)) wr wd :=
    ((((ho.mono (by simp)).keepThen ka).then_ oA (by intro b hb _; simp at hb ⊢; simp [hb])).keepThen kc).then_ oD (by intro b hb _; simp at hb ⊢; simp [hb])
  refine ⟨hA.only (kc.weaken _ |>.trans oD) (fun b hb hm => hfs b (by simpa using hm) hb) (fun g hg hm => hv12 g (by simpa using hm) hg), hD,
    hF.only (kc.weaken _ |>.trans oD) (fun b hb hm => hfs b (by simpa using hm) hb),
    by simpa using ((((hm.keep ka).only oA hM1').keep kc).only oD hM2'), by simp [h.dl], by simp; omega, ?_, ?_, ?_, ⟨hM1, ?_⟩, ?_, fun g hg => ?_, ?_, by omega, h.mw⟩
  · intro q hq
    rcases List.mem_append.1 hq with hq | hq
    · exact h.pat q hq
    · simp at hq; subst hq; exact hp
  · intro q hq
    rw [List.length_append, List.length_singleton]
    rcases List.mem_append.1 hq with hq | hq
    · have := h.rng q hq; omega
    · simp at hq; subst hq; omega
  · intro g hg
    rcases hN2 g hg with h3 | h3
    · exact ⟨hv12 g h3, hfs g h3, (h.a2 g h3).2.2⟩
    · refine ⟨fun he => ?_, fun hm => ?_, by omega⟩
      · have := (hA.ownlt g he).2; omega
      · have := hF.lt g hm; omega
  · rw [hff]; intro hm
    rcases List.mem_append.1 hm with hm | hm
    · exact h.a1.2 hm
    · exact hfM hm
  · rintro g (rfl | hg | hg)
    · exact h.zone _ (.inl rfl)
    · rcases hN g hg with h3 | h3
      · exact h.zone g (.inr (.inl h3))
      · exact .inr h3
    · rcases hN2 g hg with h3 | h3
      · exact h.zone g (.inr (.inr h3))
      · right; omega
  · rw [hko.block g (by omega) (fun hm => ?_)]
    · exact h.keep g hg
    · simp only [List.mem_cons, List.mem_append, Option.mem_toList] at hm
      have := h.zone g (by rcases hm with hm | hm | hm; exact .inl hm; exact .inr (.inl hm); exact .inr (.inr hm))
      omega
  · refine h.on.then_ hko (fun g hm hg => ?_)
    simp only [List.mem_cons, List.mem_append, Option.mem_toList] at hm
    have := h.zone g (by rcases hm with hm | hm | hm; exact .inl hm; exact .inr (.inl hm); exact .inr (.inr hm))
    omega
/-- what the search hands back -/
theorem PBf.out (h : PBf x m w m1 W M L D wr v1 v2 fs fd) : Rd wr v1 L (v1.ownBlock.toList ++ fs.flatten) ∧ Rd wr v2 D v2.ownBlock.toList ∧ Fresh w.heap.size wr ((v1.ownBlock.toList ++ fs.flatten) ++ v2.ownBlock.toList) := by
  have h0 := h.fd0
  have h2 := h.dep.rd (by decide)
  rw [h0, List.append_nil] at h2
  have hf1 := h.acc.fresh h.fr
  have hf2 := h.dep.fresh (by rw [h0]; exact Fresh.nil _ _)
  rw [h0, List.append_nil] at hf2
  refine ⟨h.acc.rd (by decide), h2, List.nodup_append.2 ⟨hf1.nd, hf2.nd, fun a ha b hb e => ?_⟩, fun b hb => ?_, hf1.own.append hf2.own⟩
  · subst e
    have hb' : v2.ownBlock = some a := by simpa using hb
    rcases List.mem_append.1 ha with ha | ha
    · exact (h.a2 a hb').1 (by simpa using ha)
    · exact (h.a2 a hb').2.1 ha
  · rcases List.mem_append.1 hb with hb | hb
    · exact hf1.ge b hb
    · exact hf2.ge b hb
theorem PBf.old (h : PBf x m w m1 W M L D wr v1 v2 fs fd) {β : Type} [Rp β] {cs : List Value} {y : β} {fp : List Nat} (hr : Rp.rep W cs y fp) (hf : ∀ g ∈ fp, g < w.heap.size ∨ (m1 ≤ g ∧ g < W.heap.size)) : Rp.rep wr cs y fp :=
  Rp.frame hr fun g hg => h.keep g (hf g hg)
end
end Go.Proofs.Ytlcoejncdbkhcaa

namespace Go.Proofs.Ytlcoejncdbkhcaa
open Go.RowKit
set_option maxRecDepth 10000

theorem step_push2w {P : Program} {α : Type} [Rp α] {ops : Array Oper} {o : Oper} {a : Act} {w : World} {Q : Exit → Act → World → Prop} {K : Act → World → Prop} {E : Prop} (hgd : o.guard = none) (s x : Operand) (t : TypeId)
    (ho : o.op = .call { callee := .builtin .append, args := #[s, x], argTypes := #[t, t] })
    (B : Nat) (e : TypeId) (i : TypeInfo) (z : Value) (bytes : Nat) (ht : P.underlying t = some (.slice e)) (hi : P.info? e = some i) (hz : i.zero = some z)
    (hsize : i.size = Rp.size α) (hby : i.bytes = bytes) (hzs : z.cells.size = Rp.size α) (hsz : 0 < Rp.size α) (hbb : bytes ≤ 65536)
    (w0 : World) (v : Value) (l : List α) (fs : List (List Nat)) (hs : a.eval s = v) (hA : Acc B e w0 v l fs) (hK0 : Only [] w0 w) (hB : B ≤ w0.heap.size)
    (g c : Nat) (cs : List Value) (y : α) (fp : List Nat) (hx : a.eval x = .slice (some ⟨g, 0, none⟩) 1 c) (hsrc : ∀ j u, cs[j]? = some u → w.cell? ⟨g, j, none⟩ = some u) (hcs : ∀ u ∈ cs, u.oneCell' = true)
    (hy : Rp.rep w cs y fp) (hap : ∀ b ∈ fp, v.ownBlock ≠ some b) (hlen : l.length + 1 ≤ 1073741824)
    (h : ∀ v' w', Acc B e w' v' (l ++ [y]) (fs ++ [fp]) → Only v.ownBlock.toList w w' → (v'.ownBlock = v.ownBlock ∨ v'.ownBlock = some w.heap.size) → K (a.put o.dst v') w') : if Region.wanted o (yielded ops a.tmps) = true then Oper.wp P o a w K Q else E := by
  rw [if_pos (by simp [Region.wanted, hgd])]
  exact wp_push2 s x t ho B e i z bytes ht hi hz hsize hby hzs hsz hbb w0 v l fs hs hA hK0 hB g c cs y fp hx hsrc hcs hy hap hlen fun v' w' h1 h2 _ _ h5 => h v' w' h1 h2 h5
theorem Acc.flat0 {B : Nat} {e : TypeId} {w : World} {v : Value} {l : List Int} {fs : List (List Nat)} (h : Acc B e w v l fs) : fs.flatten = [] := by
  obtain ⟨css, ho, hcl, hr⟩ := h.own
  have hl := h.fl
  have : fs = List.replicate fs.length [] := by
    apply List.ext_getElem (by simp)
    intro k h1 h2
    have := (hr k (by omega) (by omega) h1).2.2
    simpa using this
  rw [this]; exact flatten_nil _
/-- v is a slice of numbers of the call's own -/
def AccI (B : Nat) (e : TypeId) (w : World) (v : Value) (l : List Int) : Prop := ∃ fs, Acc B e w v l fs
section
variable {w w' : World} {B : Nat} {e : TypeId} {v : Value} {l : List Int}
theorem AccI.only {fp : List Nat} (h : AccI B e w v l) (ho : Only fp w w') (hv : ∀ g, v.ownBlock = some g → g ∉ fp) : AccI B e w' v l := by
  obtain ⟨fs, h⟩ := h
  exact ⟨fs, h.only ho (by rw [h.flat0]; simp) hv⟩
theorem AccI.keep (h : AccI B e w v l) (ho : Only [] w w') : AccI B e w' v l := h.only ho (by simp)
theorem AccI.form (h : AccI B e w v l) : ∃ a c, v = .slice a l.length c := by
  obtain ⟨fs, h⟩ := h; exact h.form
theorem AccI.rd (h : AccI B e w v l) : Rd w v l v.ownBlock.toList := by
  obtain ⟨fs, h⟩ := h
  have := h.rd (by decide)
  rwa [h.flat0, List.append_nil] at this
theorem AccI.fresh (h : AccI B e w v l) : Fresh B w v.ownBlock.toList := by
  obtain ⟨fs, h⟩ := h
  have := h.fresh (by rw [h.flat0]; exact Fresh.nil _ _)
  rwa [h.flat0, List.append_nil] at this
theorem AccI.ownlt (h : AccI B e w v l) : ∀ g, v.ownBlock = some g → B ≤ g ∧ g < w.heap.size := by
  obtain ⟨fs, h⟩ := h; exact h.ownlt
theorem AccI.nil (w : World) (B : Nat) (e : TypeId) : AccI B e w (.slice none 0 0) [] := ⟨[], Acc.nil w B e⟩
theorem AccI.made (w : World) (B : Nat) (e : TypeId) {g : Nat} (hg : g = w.heap.size) (hB : B ≤ g) : AccI B e (w.alloc (.cells #[] e)) (.slice (some ⟨g, 0, none⟩) 0 0) [] := ⟨[], Acc.made w B e hg hB⟩
theorem AccI.one {n : Int} (hn : I64 n) (w : World) (B : Nat) (e : TypeId) {g : Nat} (hg : g = w.heap.size) (hB : B ≤ g) : AccI B e (w.alloc (.cells #[.int .i64 n] e)) (.slice (some ⟨g, 0, none⟩) 1 1) [n] :=
  ⟨[[]], Acc.one (cs := [.int .i64 n]) B e (int_rd w hn) hg hB⟩
end
section
variable {P : Program} {ops : Array Oper} {rest : List Oper} {o : Oper} {a : Act} {w : World} {Q : Exit → Act → World → Prop} {K : Act → World → Prop}
theorem wpList_pushI (hgd : o.guard = none) (s x : Operand) (t : TypeId)
    (ho : o.op = .call { callee := .builtin .append, args := #[s, x], argTypes := #[t, t] })
    (B : Nat) (e : TypeId) (i : TypeInfo) (z : Value) (ht : P.underlying t = some (.slice e)) (hi : P.info? e = some i) (hz : i.zero = some z)
    (hsize : i.size = 1) (hby : i.bytes = 8) (hzs : z.cells.size = 1)
    (w0 : World) (v : Value) (l : List Int) (hs : a.eval s = v) (hA : AccI B e w0 v l) (hK0 : Only [] w0 w) (hB : B ≤ w0.heap.size)
    (g c : Nat) (n : Int) (hx : a.eval x = .slice (some ⟨g, 0, none⟩) 1 c) (hsrc : w.cell? ⟨g, 0, none⟩ = some (.int .i64 n)) (hn : I64 n) (hlen : l.length + 1 ≤ 1073741824)
    (h : ∀ v' w', AccI B e w' v' (l ++ [n]) → Only v.ownBlock.toList w w' → (∀ wz, Only [] wz w → wz.heap.size ≤ B → Only [] wz w') → (v'.ownBlock = v.ownBlock ∨ v'.ownBlock = some w.heap.size) → wpList P ops Q rest (a.put o.dst v') w') : wpList P ops Q (o :: rest) a w := by
  obtain ⟨fs, hA⟩ := hA
  refine wpList_push2w (α := Int) hgd s x t ho B e i z 8 ht hi hz hsize hby hzs (by decide) (by decide) w0 v l fs hs hA hK0 hB g c [.int .i64 n] n [] hx ?_ (by intro u hu; simp at hu; subst hu; rfl) (int_rd w hn) (by simp) hlen fun v' w' h1 h2 h3 _ h5 => h v' w' ⟨_, h1⟩ h2 h3 h5
  intro j u hu
  cases j with
  | zero => simp at hu; subst hu; exact hsrc
  | succ j => simp at hu
theorem step_pushI {E : Prop} (hgd : o.guard = none) (s x : Operand) (t : TypeId)
    (ho : o.op = .call { callee := .builtin .append, args := #[s, x], argTypes := #[t, t] })
    (B : Nat) (e : TypeId) (i : TypeInfo) (z : Value) (ht : P.underlying t = some (.slice e)) (hi : P.info? e = some i) (hz : i.zero = some z)
    (hsize : i.size = 1) (hby : i.bytes = 8) (hzs : z.cells.size = 1)
    (w0 : World) (v : Value) (l : List Int) (hs : a.eval s = v) (hA : AccI B e w0 v l) (hK0 : Only [] w0 w) (hB : B ≤ w0.heap.size)
    (g c : Nat) (n : Int) (hx : a.eval x = .slice (some ⟨g, 0, none⟩) 1 c) (hsrc : w.cell? ⟨g, 0, none⟩ = some (.int .i64 n)) (hn : I64 n) (hlen : l.length + 1 ≤ 1073741824)
    (h : ∀ v' w', AccI B e w' v' (l ++ [n]) → Only v.ownBlock.toList w w' → (v'.ownBlock = v.ownBlock ∨ v'.ownBlock = some w.heap.size) → K (a.put o.dst v') w') : if Region.wanted o (yielded ops a.tmps) = true then Oper.wp P o a w K Q else E := by
  obtain ⟨fs, hA⟩ := hA
  refine step_push2w (α := Int) hgd s x t ho B e i z 8 ht hi hz hsize hby hzs (by decide) (by decide) w0 v l fs hs hA hK0 hB g c [.int .i64 n] n [] hx ?_ (by intro u hu; simp at hu; subst hu; rfl) (int_rd w hn) (by simp) hlen fun v' w' h1 h2 h5 => h v' w' ⟨_, h1⟩ h2 h5
  intro j u hu
  cases j with
  | zero => simp at hu; subst hu; exact hsrc
  | succ j => simp at hu
end
/-- the one cell of a literal -/
theorem lit1 (w : World) (u : Value) (e : TypeId) {g : Nat} (hg : g = w.heap.size) : (w.alloc (.cells #[u] e)).cell? ⟨g, 0, none⟩ = some u := lit_src w [u] e hg 0 u rfl
end Go.Proofs.Ytlcoejncdbkhcaa

namespace Go.Proofs.Ytlcoejncdbkhcaa
open Go.RowKit
set_option maxRecDepth 10000
open Go.Maps (Keyed)

theorem Try.zeroInt64 (w : World) : (zeroValue 2).run Try.prog w = .ok (.int .i64 0) w := by kernel_rfl
/-- block M is a map of at most k entries; g: what lies at a key -/
def Mq (w : World) (M k : Nat) (g : ByteArray → Option Int) : Prop :=
  ∃ D : DataW Unit, w.ownsMap Try.prog 9 (plainElem Try.prog 2) M k D ∧ ∀ s : ByteArray, s.size ≤ maxLen →
    Go.Maps.has D (.string s.data.toList) = (g s).isSome ∧ ∀ n, g s = some n → D.atKey (.string s.data.toList) (.lit (.int .i64 0)) = .lit (.int .i64 n)
theorem Mq.lt {w : World} {M k : Nat} {g : ByteArray → Option Int} (h : Mq w M k g) : M < w.heap.size := by
  obtain ⟨D, h1, -⟩ := h; exact h1.lt
theorem Mq.frame {w w' : World} {M k : Nat} {g : ByteArray → Option Int} (h : Mq w M k g) (hf : w'.heap[M]? = w.heap[M]?) : Mq w' M k g := by
  obtain ⟨D, ⟨es, c, h1, h2⟩, h3⟩ := h
  exact ⟨D, ⟨es, c, by rw [hf]; exact h1, h2⟩, h3⟩
theorem Mq.only {w w' : World} {fp : List Nat} {M k : Nat} {g : ByteArray → Option Int} (h : Mq w M k g) (ho : Only fp w w') (hn : M ∉ fp) : Mq w' M k g := h.frame (ho.block M h.lt hn)
theorem Mq.keep {w w' : World} {M k : Nat} {g : ByteArray → Option Int} (h : Mq w M k g) (ho : Only [] w w') : Mq w' M k g := h.only ho (by simp)
theorem Mq.made (w : World) {M : Nat} (hM : M = w.heap.size) : Mq (w.alloc (.map #[] 0)) M 0 (fun _ => none) := by
  subst hM
  exact ⟨.map [], World.ownsMap_made _ _ _ _, fun s _ => ⟨rfl, by simp⟩⟩
theorem Mq.congr {w : World} {M k : Nat} {g g' : ByteArray → Option Int} (h : Mq w M k g) (hg : ∀ s, g s = g' s) : Mq w M k g' := by
  have : g = g' := funext hg
  rw [← this]; exact h
section
variable {w : World} {M k : Nat} {g : ByteArray → Option Int}
/-- v, ok := m[k], as an equation -/
theorem Mq.run_ok (h : Mq w M k g) {s : ByteArray} (hs : s.size ≤ maxLen) : (Instr.lookup 58 (.map (some M)) (.string s) true).run Try.prog w = .ok (.tuple #[.int .i64 ((g s).getD 0), .bool (g s).isSome]) w := by
  obtain ⟨D, hown, hg⟩ := h
  obtain ⟨h1, h2⟩ := hg s hs
  obtain ⟨v, ps, hrun, hv⟩ := hown.look_ok Try.lawStr Try.underlying58 (Try.zeroInt64 w) (plainElem_int Try.underlying2 (by decide)) (Go.WideMaps.keyOf_string_mk Try.underlying9 hs)
  obtain ⟨c, rfl, hc, -⟩ := plainElem_int_inv Try.underlying2 hv
  have hc1 : D.atKey (.string s.data.toList) (.lit (.int .i64 0)) = .lit (.int .i64 c) := congrArg Prod.fst hc
  have hcv : c = (g s).getD 0 := by
    cases hgs : g s with
    | none =>
      rw [hgs] at h1
      rw [Go.Maps.atKey_of_not_has h1] at hc1
      injection hc1 with hc1; injection hc1 with _ hc1; simp [hc1]
    | some n =>
      rw [h2 n hgs] at hc1
      injection hc1 with hc1; injection hc1 with _ hc1; simp [hc1]
  rw [hrun, hcv, h1]
theorem Mq.run_no (h : Mq w M k g) {s : ByteArray} (hs : s.size ≤ maxLen) (hg : g s = none) : (Instr.lookup 58 (.map (some M)) (.string s) true).run Try.prog w = .ok (.tuple #[.int .i64 0, .bool false]) w := by
  rw [h.run_ok hs, hg]; rfl
theorem Mq.run_yes (h : Mq w M k g) {s : ByteArray} (hs : s.size ≤ maxLen) {n : Int} (hg : g s = some n) : (Instr.lookup 58 (.map (some M)) (.string s) true).run Try.prog w = .ok (.tuple #[.int .i64 n, .bool true]) w := by
  rw [h.run_ok hs, hg]; rfl
/-- m[k] = v -/
theorem Mq.run_put (h : Mq w M k g) {s : ByteArray} (hs : s.size ≤ maxLen) {n : Int} (hn : I64 n) (hk : k < maxLen) :
    ∃ w', (Instr.mapUpdate 58 (.map (some M)) (.string s) (.int .i64 n)).run Try.prog w = .ok () w' ∧ Mq w' M (k + 1) (fun s' => if s' = s then some n else g s') ∧ Only [M] w w' := by
  obtain ⟨D, hown, hg⟩ := h
  have hwf : (Lit.int .i64 n).wf = true := WalkArith.wf_i64 hn
  obtain ⟨w', hrun, r1, r2⟩ := hown.store Try.lawStr Try.underlying58 hk (Go.WideMaps.keyOf_string_mk Try.underlying9 hs) (plainElem_int Try.underlying2 hwf)
  have hmap := hown.isMap
  refine ⟨w', hrun, ⟨_, r1, fun s' hs' => ?_⟩, ?_⟩
  · by_cases he : s' = s
    · subst he
      have hkl : WideAt.IsKeyLit (Lit.string s'.data.toList) := trivial
      exact ⟨by rw [Go.Maps.has_put_same hmap hkl]; simp, fun m' hm' => by
        rw [Go.Maps.atKey_put_same hmap hkl]; simp at hm'; rw [hm']⟩
    · have hne : (Lit.string s'.data.toList) ≠ .string s.data.toList := by
        intro e; injection e with e
        apply he
        have : s'.data = s.data := Array.toList_inj.1 e
        cases s'; cases s; simp at this; rw [this]
      obtain ⟨h1, h2⟩ := hg s' hs'
      exact ⟨by rw [Go.Maps.has_put_other hne, h1]; simp [he], fun m' hm' => by
        rw [Go.Maps.atKey_put_other hne]; simp [he] at hm'; exact h2 m' hm'⟩
  · exact (Only.refl _ _).grown r2.grown (by intro j hj _; injection hj with hj; subst hj; simp)
end
theorem Mq.mono {w : World} {M k k' : Nat} {g : ByteArray → Option Int} (h : Mq w M k g) (hk : k ≤ k') : Mq w M k' g := by
  obtain ⟨D, h1, h2⟩ := h
  exact ⟨D, h1.mono hk, h2⟩
/-- a map as a value in memory: its entries -/
structure KM where
  g : ByteArray → Option Int
instance : Rp KM where
  size := 1
  rep w cs x fp := ∃ M k, cs = [.map (some M)] ∧ fp = [M] ∧ Mq w M k x.g
  len h := by obtain ⟨_, _, rfl, _⟩ := h; rfl
  frame h hf := by
    obtain ⟨M, k, h1, h2, h3⟩ := h
    subst h2
    exact ⟨M, k, h1, rfl, h3.frame (hf M (by simp))⟩
  lt h := by
    obtain ⟨M, k, h1, h2, h3⟩ := h
    subst h2
    intro b hb
    simp at hb; subst hb; exact h3.lt
end Go.Proofs.Ytlcoejncdbkhcaa

namespace Go.Proofs.Ytlcoejncdbkhcaa
open Go.RowKit
set_option maxRecDepth 10000

/-- where the first pattern with this key lies -/
def firstG (l : List (List Int)) (s : ByteArray) : Option Int := (l.findIdx? fun p => kB p = s).map fun i : Nat => (i : Int)
theorem firstG_nil (s : ByteArray) : firstG [] s = none := rfl
theorem firstG_snoc (l : List (List Int)) (p : List Int) (s : ByteArray) : firstG (l ++ [p]) s = match firstG l s with | some i => some i | none => if s = kB p then some (l.length : Int) else none := by
  unfold firstG
  rw [List.findIdx?_append]
  cases h : l.findIdx? (fun p => decide (kB p = s)) with
  | some i => simp
  | none =>
    by_cases hp : kB p = s
    · simp [hp]
    · have : ¬ s = kB p := fun e => hp e.symm
      simp [hp, this]
def Byt (l : List Int) : Prop := ∀ x ∈ l, 0 ≤ x ∧ x < 256
theorem firstG_idx {l : List (List Int)} (h : ∀ p ∈ l, Byt p) {q : List Int} (hq : Byt q) : firstG l (kB q) = if 0 ≤ idxL l q then some (idxL l q) else none := by
  have hfun : l.findIdx? (fun p => decide (kB p = kB q)) = l.findIdx? (fun p => decide (p = q)) := by
    induction l with
    | nil => rfl
    | cons p l ih =>
      rw [List.findIdx?_cons, List.findIdx?_cons, ih (fun r hr => h r (by simp [hr]))]
      have : decide (kB p = kB q) = decide (p = q) := by
        rw [decide_eq_decide]; exact kB_eq (h p (by simp)) hq
      rw [this]
  unfold firstG idxL idxF
  rw [hfun]
  cases l.findIdx? (fun p => decide (p = q)) with
  | some i => simp
  | none => simp
theorem patB_byt {n : Int} {k : Nat} {l : List Int} (h : patB n k l = true) (hn : n ≤ 256) : Byt l := fun x hx => by
  have := (patB_iff.1 h).2.1 x hx; omega
end Go.Proofs.Ytlcoejncdbkhcaa

namespace Go.Proofs.Ytlcoejncdbkhcaa
open Go.RowKit
set_option maxRecDepth 10000

/-- parts of memory, all from B on, all apart -/
structure Fam (B : Nat) (w : World) (cs : List (List Nat)) : Prop where
  nd : cs.flatten.Nodup
  rng : ∀ c ∈ cs, ∀ b ∈ c, B ≤ b ∧ b < w.heap.size
theorem Fam.keep {B : Nat} {w w' : World} {cs : List (List Nat)} (h : Fam B w cs) (hs : w.heap.size ≤ w'.heap.size) : Fam B w' cs := ⟨h.nd, fun c hc b hb => by have := h.rng c hc b hb; omega⟩
theorem Fam.ge {B : Nat} {w : World} {cs : List (List Nat)} (h : Fam B w cs) (i : Nat) {c : List Nat} (hi : cs[i]? = some c) {b : Nat} (hb : b ∈ c) : B ≤ b := (h.rng c (List.mem_of_getElem? hi) b hb).1
theorem Fam.lt {B : Nat} {w : World} {cs : List (List Nat)} (h : Fam B w cs) (i : Nat) {c : List Nat} (hi : cs[i]? = some c) {b : Nat} (hb : b ∈ c) : b < w.heap.size := (h.rng c (List.mem_of_getElem? hi) b hb).2
theorem flat_disj : ∀ {cs : List (List Nat)}, cs.flatten.Nodup → ∀ {i j : Nat} {c d : List Nat}, i < j → cs[i]? = some c → cs[j]? = some d → ∀ b ∈ c, b ∉ d
  | [], _, i, j, c, d, _, hi, _ => by simp at hi
  | a :: cs, hn, 0, j, c, d, hij, hi, hj => by
    rw [List.flatten_cons, List.nodup_append] at hn
    simp at hi; subst hi
    intro b hb hm
    obtain ⟨k, rfl⟩ : ∃ k, j = k + 1 := ⟨j - 1, by omega⟩
    rw [List.getElem?_cons_succ] at hj
    exact hn.2.2 b hb b (List.mem_flatten.2 ⟨d, List.mem_of_getElem? hj, hm⟩) rfl
  | a :: cs, hn, i + 1, j, c, d, hij, hi, hj => by
    rw [List.flatten_cons, List.nodup_append] at hn
    obtain ⟨k, rfl⟩ : ∃ k, j = k + 1 := ⟨j - 1, by omega⟩
    rw [List.getElem?_cons_succ] at hi hj
    exact flat_disj hn.2.1 (by omega) hi hj
theorem Fam.disj {B : Nat} {w : World} {cs : List (List Nat)} (h : Fam B w cs) (i j : Nat) (hij : i ≠ j) {c d : List Nat} (hi : cs[i]? = some c) (hj : cs[j]? = some d) : ∀ b ∈ c, b ∉ d := by
  intro b hb hm
  rcases Nat.lt_or_gt_of_ne hij with h1 | h1
  · exact flat_disj h.nd h1 hi hj b hb hm
  · exact flat_disj h.nd h1 hj hi b hm hb
theorem flat_set : ∀ {cs : List (List Nat)} {i : Nat} {c : List Nat}, cs.flatten.Nodup → c.Nodup → (∀ b ∈ c, b ∉ (cs.set i []).flatten) → i < cs.length → (cs.set i c).flatten.Nodup
  | [], i, c, _, _, _, hi => by simp at hi
  | a :: cs, 0, c, hn, hc, hd, _ => by
    rw [List.flatten_cons, List.nodup_append] at hn
    rw [List.set_cons_zero, List.flatten_cons, List.nodup_append]
    refine ⟨hc, hn.2.1, fun x hx y hy e => ?_⟩
    subst e
    exact hd x hx (by rw [List.set_cons_zero, List.flatten_cons]; exact List.mem_append_right _ hy)
  | a :: cs, i + 1, c, hn, hc, hd, hi => by
    rw [List.flatten_cons, List.nodup_append] at hn
    rw [List.set_cons_succ, List.flatten_cons, List.nodup_append]
    have hd' : ∀ b ∈ c, b ∉ (cs.set i []).flatten := fun b hb hm => hd b hb (by rw [List.set_cons_succ, List.flatten_cons]; exact List.mem_append_right _ hm)
    refine ⟨hn.1, flat_set hn.2.1 hc hd' (by simpa using hi), fun x hx y hy e => ?_⟩
    subst e
    obtain ⟨d, hdm, hxd⟩ := List.mem_flatten.1 hy
    rcases List.mem_or_eq_of_mem_set hdm with h1 | rfl
    · exact hn.2.2 x hx x (List.mem_flatten.2 ⟨d, h1, hxd⟩) rfl
    · exact hd x hxd (by rw [List.set_cons_succ, List.flatten_cons]; exact List.mem_append_left _ hx)
/-- one part anew: what it was, or new memory -/
theorem Fam.set {B : Nat} {w w' : World} {cs : List (List Nat)} (h : Fam B w cs) (hs : w.heap.size ≤ w'.heap.size) (hB : B ≤ w.heap.size) (i : Nat) {c : List Nat} (hi : cs[i]? = some c) {c' : List Nat} (hn : c'.Nodup) (hc : ∀ b ∈ c', b ∈ c ∨ (w.heap.size ≤ b ∧ b < w'.heap.size)) : Fam B w' (cs.set i c') := by
  have hil : i < cs.length := (List.getElem?_eq_some_iff.1 hi).1
  refine ⟨flat_set h.nd hn (fun b hb hm => ?_) hil, fun d hd b hb => ?_⟩
  · obtain ⟨d, hdm, hbd⟩ := List.mem_flatten.1 hm
    obtain ⟨j, hj⟩ := List.getElem?_of_mem hdm
    have hjl : j < cs.length := by have := (List.getElem?_eq_some_iff.1 hj).1; simpa using this
    by_cases hij : i = j
    · subst hij
      rw [List.getElem?_set_self hil] at hj
      injection hj with hj; subst hj; cases hbd
    · rw [List.getElem?_set_ne hij] at hj
      rcases hc b hb with h1 | h1
      · exact h.disj i j hij hi hj b h1 hbd
      · have := h.lt j hj hbd; omega
  · rcases List.mem_or_eq_of_mem_set hd with h1 | rfl
    · have := h.rng d h1 b hb; omega
    · rcases hc b hb with h1 | h1
      · have := h.rng c (List.mem_of_getElem? hi) b h1; omega
      · omega
theorem Fam.cons {B : Nat} {w w' : World} {cs : List (List Nat)} (h : Fam B w cs) (hs : w.heap.size ≤ w'.heap.size) (hB : B ≤ w.heap.size) {c : List Nat} (hn : c.Nodup) (hc : ∀ b ∈ c, w.heap.size ≤ b ∧ b < w'.heap.size) : Fam B w' (c :: cs) := by
  refine ⟨?_, fun d hd b hb => ?_⟩
  · rw [List.flatten_cons, List.nodup_append]
    refine ⟨hn, h.nd, fun x hx y hy e => ?_⟩
    subst e
    obtain ⟨d, hd, hxd⟩ := List.mem_flatten.1 hy
    have := hc x hx
    have := h.rng d hd x hxd
    omega
  · rcases List.mem_cons.1 hd with rfl | hd
    · have := hc b hb; omega
    · have := h.rng d hd b hb; omega
theorem Fam.nil (B : Nat) (w : World) : Fam B w [] := ⟨by simp, by simp⟩
end Go.Proofs.Ytlcoejncdbkhcaa

namespace Go.Proofs.Ytlcoejncdbkhcaa
open Go.RowKit
set_option maxRecDepth 10000

section
variable {P : Program} {ops : Array Oper} {Q : Exit → Act → World → Prop} {md : Region.Mode} {I : Array Bool → Act → World → Prop}
theorem ready_un {listed : Array Bool} {i : Nat} (h : i ∈ Region.ready md ops listed) : i < ops.size ∧ listed.getD i true = false := by
  unfold Region.ready at h
  rw [List.mem_filter] at h
  obtain ⟨h1, h2⟩ := h
  rw [Bool.and_eq_true] at h2
  exact ⟨by simpa using h1, by simpa using h2.1⟩
theorem countP_set {l : List Bool} {i : Nat} (hi : i < l.length) (h : l[i] = false) : (l.set i true).countP (· == false) + 1 = l.countP (· == false) := by
  induction l generalizing i with
  | nil => simp at hi
  | cons b l ih =>
    cases i with
    | zero => simp at h; subst h; simp
    | succ i =>
      simp at h hi
      rw [List.set_cons_succ, List.countP_cons, List.countP_cons, ← ih hi h]
      omega
theorem wpAny_inv (hstep : ∀ listed a w i, listed.size = ops.size → I listed a w → i ∈ Region.ready md ops listed → wpOp P ops Q i (fun a' w' => I (listed.setIfInBounds i true) a' w') a w)
    (hend : ∀ listed a w, listed.size = ops.size → I listed a w → Region.ready md ops listed = [] → Q .normal a w) :
    ∀ (fuel : Nat) (listed : Array Bool) (a : Act) (w : World), listed.size = ops.size → listed.toList.countP (· == false) ≤ fuel → I listed a w → wpAny P md ops Q fuel listed a w
  | 0, listed, a, w, hs, hc, h => by
    have hr : Region.ready md ops listed = [] := by
      rw [List.eq_nil_iff_forall_not_mem]
      intro i hi
      obtain ⟨h1, h2⟩ := ready_un hi
      have h3 : listed.toList.countP (· == false) = 0 := by omega
      rw [List.countP_eq_zero] at h3
      have hil : i < listed.size := by omega
      have h4 : listed[i] = false := by simpa [Array.getD, hil] using h2
      have := h3 listed[i] (by simp)
      simp [h4] at this
    exact ⟨hr, hend _ _ _ hs h hr⟩
  | fuel + 1, listed, a, w, hs, hc, h => by
    refine ⟨fun hr => hend _ _ _ hs h hr, fun i hi => ?_⟩
    refine wpOp_mono (fun a' w' h' => ?_) (hstep listed a w i hs h hi)
    obtain ⟨h1, h2⟩ := ready_un hi
    have hil : i < listed.size := by omega
    have h4 : listed[i] = false := by simpa [Array.getD, hil] using h2
    refine wpAny_inv hstep hend fuel _ a' w' (by simpa using hs) ?_ h'
    have h5 := countP_set (l := listed.toList) (i := i) (by simpa using hil) (by simpa using h4)
    have h6 : (listed.setIfInBounds i true).toList = listed.toList.set i true := by simp
    rw [h6]; omega
theorem wp_region_inv {id : Nat} {a : Act} {w : World} (hm : P.follows .mixedOrders = true)
    (h0 : I (Array.replicate ops.size false) a { w with drawn := w.drawn + 1 })
    (hstep : ∀ listed a w i, listed.size = ops.size → I listed a w → i ∈ Region.ready .any ops listed → wpOp P ops Q i (fun a' w' => I (listed.setIfInBounds i true) a' w') a w)
    (hend : ∀ listed a w, listed.size = ops.size → I listed a w → Region.ready .any ops listed = [] → Q .normal a w) : (Code.region id ops true).wp P Q a w := by
  refine wp_region_any hm (wpAny_inv hstep hend ops.size _ a _ (by simp) ?_ h0)
  have := List.countP_le_length (p := (· == false)) (l := (Array.replicate ops.size false).toList)
  simpa using this
theorem wp_region_invA {J : Act → Array Bool → Act → World → Prop} {id : Nat} {a : Act} {w : World} (hm : P.follows .mixedOrders = true)
    (h0 : J a (Array.replicate ops.size false) a w.drew)
    (hstep : ∀ listed a' w' i, listed.size = ops.size → J a listed a' w' → i ∈ Region.ready .any ops listed → wpOp P ops Q i (fun a'' w'' => J a (listed.setIfInBounds i true) a'' w'') a' w')
    (hend : ∀ listed a' w', listed.size = ops.size → J a listed a' w' → Region.ready .any ops listed = [] → Q .normal a' w') : (Code.region id ops true).wp P Q a w := wp_region_inv (I := J a) hm h0 hstep hend
theorem wpOp_plain {i : Nat} {o : Oper} {K : Act → World → Prop} {a : Act} {w : World} (ho : ops[i]? = some o) (hg : o.guard = none) (h : ∀ K' : Act → World → Prop, (∀ a w, K a w → K' a w) → Oper.wp P o a w K' Q) : wpOp P ops Q i K a w :=
  wpOp_step ho (fun K' hK => by rw [if_pos (by simp [Region.wanted, hg])]; exact h K' hK)
theorem ready_dep {i k : Nat} {o : Oper} {listed : Array Bool} (h : i ∈ Region.ready md ops listed) (ho : ops[i]? = some o) (hk : o.after.toList.any (fun e => (e.on == k) && Region.binds md e) = true) : listed.getD k false = true := by
  unfold Region.ready at h
  rw [List.mem_filter, Bool.and_eq_true] at h
  have h2 := h.2.2
  rw [ho] at h2
  simp only [Option.map_some, Option.getD_some] at h2
  rw [List.any_eq_true] at hk
  obtain ⟨e, he, h3⟩ := hk
  obtain ⟨j, hj, rfl⟩ := List.getElem_of_mem he
  rw [Array.all_eq_true] at h2
  have h4 := h2 j (by simpa using hj)
  simp only [Array.getElem_toList] at h3
  rw [Bool.and_eq_true] at h3
  rw [h3.2] at h4
  have h5 : (o.after[j]'(by simpa using hj)).on = k := by simpa using h3.1
  rw [← h5]
  simpa using h4
theorem un_getD {listed : Array Bool} {i : Nat} (h : listed.getD i true = false) : listed.getD i false = false := by
  rw [Array.getD_eq_getD_getElem?] at h ⊢
  cases hq : listed[i]? with
  | none => rfl
  | some b => rw [hq] at h; exact h
/-- whether a set of operations that come up no more is whole: each waits only for others of the region -/
theorem all_listed {listed : Array Bool} (h : Region.ready md ops listed = []) (hs : listed.size = ops.size) (hd : ((List.range ops.size).all fun i => ((ops.toList[i]?).map fun o => o.after.toList.all fun e => decide (e.on < i)).getD true) = true) : ∀ i, i < ops.size → listed.getD i false = true := by
  intro i
  induction i using Nat.strongRecOn with
  | ind i ih =>
    intro hi
    rcases hq : listed.getD i false
    · exfalso
      have hm : i ∈ Region.ready md ops listed := by
        unfold Region.ready
        rw [List.mem_filter, Bool.and_eq_true]
        refine ⟨by simpa using hi, ?_, ?_⟩
        · rw [Array.getD_eq_getD_getElem?] at hq ⊢
          rw [Array.getElem?_eq_getElem (by omega)] at hq ⊢
          simpa using hq
        · rw [Array.getElem?_eq_getElem hi]
          simp only [Option.map_some, Option.getD_some]
          rw [Array.all_eq_true]
          intro j hj
          rcases hb : Region.binds md ((ops[i]).after[j])
          · rfl
          · have hlt : ((ops[i]).after[j]).on < i := by
              rw [List.all_eq_true] at hd
              have h1 := hd i (by simpa using hi)
              rw [Array.getElem?_toList, Array.getElem?_eq_getElem hi] at h1
              simp only [Option.map_some, Option.getD_some, List.all_eq_true] at h1
              exact of_decide_eq_true (h1 _ (by simp))
            simpa using ih _ hlt (by omega)
      rw [h] at hm; cases hm
    · rfl
theorem rep_getD (n i : Nat) : (Array.replicate n false).getD i false = false := by
  rw [Array.getD_eq_getD_getElem?]
  by_cases h : i < n
  · rw [Array.getElem?_eq_getElem (by simpa using h)]; simp
  · rw [Array.getElem?_eq_none (by simpa using h)]; rfl
theorem set_getD {listed : Array Bool} {i k : Nat} (hk : k < listed.size) : (listed.setIfInBounds k true).getD i false = true ↔ i = k ∨ listed.getD i false = true := by
  simp only [Array.getD_eq_getD_getElem?]
  by_cases h : i = k
  · subst h; simp [hk]
  · have : ¬ k = i := fun e => h e.symm
    simp [h, this]
end
/-- what lies in a slot -/
def At (a : Act) (t : Nat) (v : Value) : Prop := a.tmps[t]? = some v
theorem At.eval {a : Act} {t : Nat} {v : Value} (h : At a t v) : a.eval (.tmp t) = v := by
  unfold At at h
  show a.tmps.getD t undef = v
  rw [Array.getD_eq_getD_getElem?, h]; rfl
theorem At.getD {a : Act} {t : Nat} {v : Value} (h : At a t v) : a.tmps.getD t undef = v := h.eval
theorem At.same {a : Act} {t : Nat} {v : Value} (h : t < a.tmps.size) : At (a.put (some t) v) t v := by
  unfold At Act.put; simp [h]
theorem At.ne {a : Act} {t t' : Nat} {v u : Value} (h : At a t v) (hn : t' ≠ t) : At (a.put (some t') u) t v := by
  unfold At Act.put at *; simp [hn, h]
/-- a is a0 but for some slots -/
structure RI (a0 : Act) (S : List Nat) (a : Act) : Prop where
  sz : a.tmps.size = a0.tmps.size
  df : a.defers = a0.defers
  sm : ∀ t, t ∉ S → a.tmps[t]? = a0.tmps[t]?
theorem RI.refl (a0 : Act) (S : List Nat) : RI a0 S a0 := ⟨rfl, rfl, fun _ _ => rfl⟩
theorem RI.put {a0 a : Act} {S : List Nat} {t : Nat} {v : Value} (h : RI a0 S a) (ht : t ∈ S) : RI a0 S (a.put (some t) v) := by
  refine ⟨by unfold Act.put; simp [h.sz], by unfold Act.put; exact h.df, fun t' ht' => ?_⟩
  have hne : ¬ t = t' := fun e => ht' (by rw [← e]; exact ht)
  rw [← h.sm t' ht']
  unfold Act.put; simp [hne]
theorem RI.at {a0 a : Act} {S : List Nat} {t : Nat} {v : Value} (h : RI a0 S a) (ht : t ∉ S) (h0 : At a0 t v) : At a t v := (h.sm t ht).trans h0
def putL (a : Act) (L : List (Nat × Value)) : Act := L.foldl (fun a p => a.put (some p.1) p.2) a
theorem putL_sz : ∀ (L : List (Nat × Value)) (a : Act), (putL a L).tmps.size = a.tmps.size ∧ (putL a L).defers = a.defers
  | [], _ => ⟨rfl, rfl⟩
  | p :: L, a => by
    have := putL_sz L (a.put (some p.1) p.2)
    unfold putL at *
    rw [List.foldl_cons]
    refine ⟨this.1.trans ?_, this.2.trans ?_⟩
    · unfold Act.put; simp
    · unfold Act.put; rfl
theorem putL_no : ∀ (L : List (Nat × Value)) (a : Act) (t : Nat), t ∉ L.map (·.1) → (putL a L).tmps[t]? = a.tmps[t]?
  | [], _, _, _ => rfl
  | p :: L, a, t, h => by
    simp only [List.map_cons, List.mem_cons, not_or] at h
    have := putL_no L (a.put (some p.1) p.2) t h.2
    unfold putL at *
    rw [List.foldl_cons, this]
    have hne : ¬ p.1 = t := fun e => h.1 e.symm
    unfold Act.put; simp [hne]
theorem putL_yes : ∀ (L : List (Nat × Value)) (a : Act) (p : Nat × Value), p ∈ L → (L.map (·.1)).Nodup → p.1 < a.tmps.size → (putL a L).tmps[p.1]? = some p.2
  | q :: L, a, p, h, hn, hs => by
    simp only [List.map_cons, List.nodup_cons] at hn
    rcases List.mem_cons.1 h with rfl | h
    · have := putL_no L (a.put (some p.1) p.2) p.1 hn.1
      unfold putL at *
      rw [List.foldl_cons, this]
      unfold Act.put; simp [hs]
    · have := putL_yes L (a.put (some q.1) q.2) p h hn.2 (by unfold Act.put; simpa using hs)
      unfold putL at *
      rw [List.foldl_cons]; exact this
theorem RI.eq {a0 a : Act} (L : List (Nat × Value)) (h : RI a0 (L.map (·.1)) a) (hn : (L.map (·.1)).Nodup) (hs : ∀ p ∈ L, p.1 < a0.tmps.size) (hv : ∀ p ∈ L, At a p.1 p.2) : a = putL a0 L := by
  have h1 : a.tmps = (putL a0 L).tmps := by
    apply Array.ext (by rw [(putL_sz L a0).1, h.sz])
    intro t h1 h2
    have : a.tmps[t]? = (putL a0 L).tmps[t]? := by
      by_cases ht : t ∈ L.map (·.1)
      · obtain ⟨p, hp, rfl⟩ := List.mem_map.1 ht
        rw [putL_yes L a0 p hp hn (hs p hp)]
        exact hv p hp
      · rw [putL_no L a0 t ht]; exact h.sm t ht
    rw [Array.getElem?_eq_getElem h1, Array.getElem?_eq_getElem h2] at this
    injection this
  have h2 : a.defers = (putL a0 L).defers := by rw [(putL_sz L a0).2, h.df]
  cases a
  cases hq : putL a0 L
  rw [hq] at h1 h2
  simp only at h1 h2
  rw [h1, h2]
end Go.Proofs.Ytlcoejncdbkhcaa
