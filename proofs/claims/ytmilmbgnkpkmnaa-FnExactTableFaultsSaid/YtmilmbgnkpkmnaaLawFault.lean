/- Lists of faults: the laws' own helpers on them. A list of faults lies in memory as the numbers of its fields, one behind the other. -/
import Derived.Test.YtmilmbgnkpkmnaaSpecTab4
import Derived.Test.YtmilmbgnkpkmnaaExact
import Derived.StillTailTactics
namespace Go.Proofs.Ytmilmbgnkpkmnaa
open Go.RowKit
set_option maxRecDepth 10000

instance : Mk Fault := ⟨fun k _ => ⟨k, k + 1, k + 2⟩, fun _ => 3⟩
instance : MkL Fault := ⟨fun _ _ => rfl, fun _ _ => rfl⟩
def flatF (l : List Fault) : List Int := l.flatMap fun f => [f.kind, f.entry, f.letter]
theorem flatF_cons (f : Fault) (l : List Fault) : flatF (f :: l) = f.kind :: f.entry :: f.letter :: flatF l := by simp [flatF]
theorem flatF_len (l : List Fault) : (flatF l).length = 3 * l.length := by
  induction l with
  | nil => rfl
  | cons f l ih => rw [flatF_cons]; simp [ih]; omega
theorem flatF_cells (l : List Fault) : (l.map fcells).flatten = (flatF l).map (Value.int .i64) := by
  induction l with
  | nil => rfl
  | cons f l ih => rw [flatF_cons, List.map_cons, List.flatten_cons, ih]; rfl
theorem flatF_inj : ∀ {l l' : List Fault}, flatF l = flatF l' → l = l'
  | [], [], _ => rfl
  | [], f :: l, h => by rw [flatF_cons] at h; simp [flatF] at h
  | f :: l, [], h => by rw [flatF_cons] at h; simp [flatF] at h
  | f :: l, g :: l', h => by
    rw [flatF_cons, flatF_cons] at h
    simp only [List.cons.injEq] at h
    obtain ⟨h1, h2, h3, h4⟩ := h
    rw [flatF_inj h4]
    cases f; cases g; simp at h1 h2 h3; simp [h1, h2, h3]
theorem flatF_mark : ∀ (k : Int) (l : List Fault), flatF (markL k l) = markL k (flatF l)
  | _, [] => rfl
  | k, f :: l => by
    simp only [markL, flatF_cons, Mk.mark, Mk.cnt, flatF_mark]
    have e1 : k + ((1 : Nat) : Int) = k + 1 := by omega
    have e2 : k + ((1 : Nat) : Int) + ((1 : Nat) : Int) = k + 2 := by omega
    have e3 : k + ((1 : Nat) : Int) + ((1 : Nat) : Int) + ((1 : Nat) : Int) = k + ((3 : Nat) : Int) := by omega
    rw [e3, e2, e1]
theorem cntL_faults (l : List Fault) : cntL l = 3 * l.length := by
  induction l with
  | nil => rfl
  | cons f l ih => simp [cntL, ih, Mk.cnt]; omega
theorem heldF (k : Int) (l : List Fault) : heldV k l = heldV k (flatF l) := by
  by_cases h : flatF l = markL k (flatF l)
  · rw [heldV_yes (x := flatF l) h, heldV_yes (x := l) (flatF_inj (by show flatF l = flatF (markL k l); rw [flatF_mark]; exact h))]
    show k + ((cntL l : Nat) : Int) = k + ((cntL (flatF l) : Nat) : Int)
    rw [cntL_faults, cntL_ints, flatF_len]
  · rw [heldV_no (x := flatF l) h, heldV_no (x := l) (fun e => h (by rw [← flatF_mark]; exact congrArg flatF e))]
theorem fcells_at : ∀ (ys : List Fault) (q r : Nat) (h : q < ys.length), r < 3 → (ys.map fcells).flatten[q * 3 + r]? = (fcells ys[q])[r]?
  | y :: ys, 0, r, _, hr => by
    rw [List.map_cons, List.flatten_cons, List.getElem?_append_left (by simp [fcells]; omega)]; simp
  | y :: ys, q + 1, r, h, hr => by
    rw [List.map_cons, List.flatten_cons, List.getElem?_append_right (by simp [fcells]; omega)]
    have e : (q + 1) * 3 + r - (fcells y).length = q * 3 + r := by simp [fcells]; omega
    rw [e, fcells_at ys q r (by simpa using h) hr]; rfl
theorem fault_ints {w : World} {a : Option Addr} {cap : Nat} {ys : List Fault} {ob : List Nat} {fps : List (List Nat)} (h : SeqA w a cap ys ob fps) (hl : 3 * ys.length ≤ maxLen) : IntsA w a (3 * ys.length) (flatF ys) ob := by
  have hg : ∀ k (hk : k < (flatF ys).length), ∃ (q r : Nat) (hq : q < ys.length), k = q * 3 + r ∧ r < 3 ∧ (fcells ys[q])[r]? = some (.int .i64 (flatF ys)[k]) := by
    intro k hk
    exact fcells_get ys k (.int .i64 (flatF ys)[k]) (by rw [flatF_cells]; simp [hk])
  refine ⟨by rw [flatF_len]; exact Nat.le_refl _, hl, fun x hx => ?_, fun k hk => ?_, h.lt, h.one⟩
  · obtain ⟨k, hk, rfl⟩ := List.getElem_of_mem hx
    obtain ⟨q, r, hq, rfl, hr, hc⟩ := hg k hk
    obtain ⟨_, _, _, _, _, _, _, ⟨h1, h2, h3⟩, _⟩ := h.at_ q hq
    match r, hr with
    | 0, _ => simp [fcells] at hc; simpa [← hc] using h1
    | 1, _ => simp [fcells] at hc; simpa [← hc] using h2
    | 2, _ => simp [fcells] at hc; simpa [← hc] using h3
  · obtain ⟨q, r, hq, rfl, hr, hc⟩ := hg k hk
    obtain ⟨b, off, cs, ha, hob, hcell, rfl, -, -⟩ := h.at_ q hq
    refine ⟨b, off, ha, hob, ?_⟩
    have := hcell r _ hc
    rwa [Nat.add_assoc] at this
theorem ints_fault {w : World} {a : Option Addr} {cap n : Nat} {ys : List Fault} {ob : List Nat} (h : IntsA w a n (flatF ys) ob) (h1 : ys.length ≤ cap) (h2 : cap ≤ maxLen) : SeqA w a cap ys ob (List.replicate ys.length []) := by
  refine ⟨h1, h2, by simp, fun q hq => ?_, h.lt, h.one⟩
  have hk : ∀ r, r < 3 → q * 3 + r < (flatF ys).length := fun r hr => by rw [flatF_len]; omega
  have hv : ∀ r (hr : r < 3), (fcells ys[q])[r]? = some (.int .i64 ((flatF ys)[q * 3 + r]'(hk r hr))) := fun r hr => by
    rw [← fcells_at ys q r hq hr, flatF_cells]; simp [hk r hr]
  obtain ⟨b, off, ha, hob, -⟩ := h.at_ (q * 3 + 0) (hk 0 (by omega))
  refine ⟨b, off, fcells ys[q], ha, hob, fun j u hu => ?_, rfl, ⟨?_, ?_, ?_⟩, by simp⟩
  · have hj : j < 3 := (List.getElem?_eq_some_iff.1 hu).1
    rw [hv j hj] at hu
    injection hu with hu; subst hu
    obtain ⟨b', off', ha', -, hc⟩ := h.at_ (q * 3 + j) (hk j hj)
    rw [ha] at ha'; injection ha' with ha'; injection ha' with e1 e2; subst e1; subst e2
    show w.cell? ⟨b, off + q * 3 + j, none⟩ = _
    rw [Nat.add_assoc]; exact hc
  · have := hv 0 (by omega); simp [fcells] at this; rw [this]; exact h.wf _ (List.getElem_mem _)
  · have := hv 1 (by omega); simp [fcells] at this; rw [this]; exact h.wf _ (List.getElem_mem _)
  · have := hv 2 (by omega); simp [fcells] at this; rw [this]; exact h.wf _ (List.getElem_mem _)
theorem flatF_at {l : List Fault} {j : Nat} (h : j < l.length) (r : Nat) (hr : r < 3) : ∃ hk : j * 3 + r < (flatF l).length, (fcells l[j])[r]? = some (.int .i64 ((flatF l)[j * 3 + r]'hk)) := by
  have hk : j * 3 + r < (flatF l).length := by rw [flatF_len]; omega
  refine ⟨hk, ?_⟩
  rw [← fcells_at l j r h hr, flatF_cells]; simp [hk]

set_option maxHeartbeats 1000000 in
theorem eqTableFault_any (x y : Fault) (w : World) :
    Calls Try.prog 76 #[.agg #[.int .i64 x.kind, .int .i64 x.entry, .int .i64 x.letter], .agg #[.int .i64 y.kind, .int .i64 y.entry, .int .i64 y.letter]] w fun e w' => e = .returned (.bool (eqV x y)) ∧ Only [] w w' := by
  by_cases h1 : x.kind = y.kind
  · have d1 : (x.kind != y.kind) = false := by simp [h1]
    by_cases h2 : x.entry = y.entry
    · have d2 : (x.entry != y.entry) = false := by simp [h2]
      by_cases h3 : x.letter = y.letter
      · have d3 : (x.letter != y.letter) = false := by simp [h3]
        have he := Lib.hid (show eqV x y = true from eqV_yes (by cases x; cases y; simp at h1 h2 h3; simp [h1, h2, h3]))
        clear h1 h2 h3
        go_enter Try.func76, Try.ntmps76
        go_wp2
        go_ret
        exact ⟨ret_bool he.out.symm, (by with_reducible repeat (first | exact Only.refl _ _ | assumption | refine Only.drewN ?_ _ | refine Only.drew ?_ | refine Only.alloc ?_ _ | refine Only.setCell ?_ (by intro hh; exfalso; simp at hh; try omega) _ | refine Only.trans ?_ (by assumption)))⟩
      · have d3 : (x.letter != y.letter) = true := by simp [h3]
        have he := Lib.hid (show eqV x y = false from eqV_no (fun e => h3 (by rw [e])))
        clear h1 h2 h3
        go_enter Try.func76, Try.ntmps76
        go_wp2
        go_ret
        exact ⟨ret_bool he.out.symm, (by with_reducible repeat (first | exact Only.refl _ _ | assumption | refine Only.drewN ?_ _ | refine Only.drew ?_ | refine Only.alloc ?_ _ | refine Only.setCell ?_ (by intro hh; exfalso; simp at hh; try omega) _ | refine Only.trans ?_ (by assumption)))⟩
    · have d2 : (x.entry != y.entry) = true := by simp [h2]
      have he := Lib.hid (show eqV x y = false from eqV_no (fun e => h2 (by rw [e])))
      clear h1 h2
      go_enter Try.func76, Try.ntmps76
      go_wp2
      go_ret
      exact ⟨ret_bool he.out.symm, (by with_reducible repeat (first | exact Only.refl _ _ | assumption | refine Only.drewN ?_ _ | refine Only.drew ?_ | refine Only.alloc ?_ _ | refine Only.setCell ?_ (by intro hh; exfalso; simp at hh; try omega) _ | refine Only.trans ?_ (by assumption)))⟩
  · have d1 : (x.kind != y.kind) = true := by simp [h1]
    have he := Lib.hid (show eqV x y = false from eqV_no (fun e => h1 (by rw [e])))
    clear h1
    go_enter Try.func76, Try.ntmps76
    go_wp2
    go_ret
    exact ⟨ret_bool he.out.symm, (by with_reducible repeat (first | exact Only.refl _ _ | assumption | refine Only.drewN ?_ _ | refine Only.drew ?_ | refine Only.alloc ?_ _ | refine Only.setCell ?_ (by intro hh; exfalso; simp at hh; try omega) _ | refine Only.trans ?_ (by assumption)))⟩
theorem fault_at4 {w : World} {a : Option Addr} {cap : Nat} {ys : List Fault} {ob : List Nat} {fps : List (List Nat)} (h : SeqA w a cap ys ob fps) {k : Nat} (hk : k < ys.length) :
    ∃ b off, a = some ⟨b, off, none⟩ ∧ ob = [b] ∧ w.cell? ⟨b, off + k * 3, none⟩ = some (.int .i64 ys[k].kind) ∧ w.cell? ⟨b, off + k * 3 + 1, none⟩ = some (.int .i64 ys[k].entry) ∧ w.cell? ⟨b, off + k * 3 + 2, none⟩ = some (.int .i64 ys[k].letter) := by
  obtain ⟨b, off, cs, ha, hob, hc, rfl, -, -⟩ := h.at_ k hk
  exact ⟨b, off, ha, hob, hc 0 _ rfl, hc 1 _ rfl, hc 2 _ rfl⟩
set_option maxHeartbeats 1000000 in
theorem eqTableFaultS_rd (v v' : Value) (l l' : List Fault) (fp fp' : List Nat) (w : World) (hv : Rd w v l fp) (hv' : Rd w v' l' fp') :
    Calls Try.prog 46 #[v, v'] w fun e w' => e = .returned (.bool (eqV l l')) ∧ Only [] w w' := by
  obtain ⟨a, cap, ob, fps, rfl, -, h⟩ := hv.open_
  obtain ⟨a', cap', ob', fps', rfl, -, h'⟩ := hv'.open_
  have hb := h.bound
  have hb' := h'.bound
  by_cases hl : l.length = l'.length
  · have hne : ((l.length : Int) != (l'.length : Int)) = false := by simp [hl]
    have Hl := Lib.hid hl; clear hl
    go_enter Try.func46, Try.ntmps46
    go_wp2
    go_loopw [5] (fun i wr => ∃ j : Nat, j ≤ l.length ∧ i = .int .i64 j ∧ l.take j = l'.take j ∧ Only [] w wr)
      (fun i _ => l.length - (intOf i).toNat)
    case atStart => exact ⟨0, Nat.zero_le _, rfl, rfl, Only.refl _ _⟩
    case round =>
      obtain ⟨j, hj, rfl, hr, hK⟩ := hrel
      have Hr := Lib.hid hr; clear hr
      by_cases hlt : j < l.length
      · have hlt' : j < l'.length := by have := Hl.out; omega
        obtain ⟨b, off, rfl, -, c1, c2, c3⟩ := fault_at4 h hlt
        obtain ⟨b', off', rfl, -, c1', c2', c3'⟩ := fault_at4 h' hlt'
        have d1 := hK.cell (by simp) c1
        have d2 := hK.cell (by simp) c2
        have d3 := hK.cell (by simp) c3
        have d1' := hK.cell (by simp) c1'
        have d2' := hK.cell (by simp) c2'
        have d3' := hK.cell (by simp) c3'
        clear c1 c2 c3 c1' c2' c3'
        rcases hq : eqV l[j] l'[j]
        all_goals go_wp2
        all_goals go_still_tail 8, (by kernel_rfl)
        all_goals change wpList _ _ _ _ _ wr.drew
        all_goals go_wp2_with ((go_at_call 76; (with_reducible refine (eqTableFault_any l[j] l'[j] _).mono ?_); rintro e w1 ⟨he, hk1⟩; rw [hq] at he; subst he))
        · go_ret
          exact ⟨ret_bool (eqL_no hlt hlt' hq).symm, (by with_reducible repeat (first | exact Only.refl _ _ | assumption | refine Only.drewN ?_ _ | refine Only.drew ?_ | refine Only.alloc ?_ _ | refine Only.setCell ?_ (by intro hh; exfalso; simp at hh; try omega) _ | refine Only.trans ?_ (by assumption)))⟩
        · go_roundw
          case rel => exact ⟨j + 1, by omega, by go_num, eqL_step hlt hlt' hq Hr.out, (by with_reducible repeat (first | exact Only.refl _ _ | assumption | refine Only.drewN ?_ _ | refine Only.drew ?_ | refine Only.alloc ?_ _ | refine Only.setCell ?_ (by intro hh; exfalso; simp at hh; try omega) _ | refine Only.trans ?_ (by assumption)))⟩
          case measure => simp [intOf]; omega
      · go_wp2
        go_ret
        exact ⟨ret_bool (eqL_yes Hl.out hlt Hr.out).symm, hK⟩
  · have hne : ((l.length : Int) != (l'.length : Int)) = true := by simp; omega
    go_enter Try.func46, Try.ntmps46
    go_wp2
    go_ret
    exact ⟨ret_bool (eqL_len hne).symm, Only.refl _ _⟩
set_option maxHeartbeats 1000000 in
theorem heldTableFaultS_rd (v : Value) (l : List Fault) (fp : List Nat) (k : Int) (w : World) (hv : Rd w v l fp) (h0 : 0 ≤ k) (h1' : k + (Mk.cnt l : Nat) ≤ 4611686018427387904) :
    Calls Try.prog 48 #[v, .int .i64 k] w fun e w' => e = .returned (.int .i64 (heldV k l)) ∧ Only [] w w' := by
  obtain ⟨a, cap, ob, fps, rfl, -, h⟩ := hv.open_
  have hb := h.bound
  have h1 : k + ((3 * l.length : Nat) : Int) ≤ 4611686018427387904 := by
    have h9 : k + ((cntL l : Nat) : Int) ≤ 4611686018427387904 := h1'
    rwa [cntL_faults] at h9
  clear h1'
  have HF := Lib.hid (heldF k l)
  obtain ⟨zs, hF⟩ : ∃ zs, zs = flatF l := ⟨_, rfl⟩
  have hFl : zs.length = 3 * l.length := by rw [hF, flatF_len]
  have hFat : ∀ j (hj : j < l.length), ∃ (p0 : j * 3 < zs.length) (p1 : j * 3 + 1 < zs.length) (p2 : j * 3 + 2 < zs.length), l[j].kind = zs[j * 3] ∧ l[j].entry = zs[j * 3 + 1] ∧ l[j].letter = zs[j * 3 + 2] := by
    intro j hj
    subst hF
    obtain ⟨q0, e0⟩ := flatF_at hj 0 (by omega)
    obtain ⟨q1, e1⟩ := flatF_at hj 1 (by omega)
    obtain ⟨q2, e2⟩ := flatF_at hj 2 (by omega)
    simp [fcells] at e0 e1 e2
    exact ⟨q0, q1, q2, e0, e1, e2⟩
  rw [← hF] at HF
  have HFat := Lib.hid hFat
  have HFl := Lib.hid hFl
  clear hF hFl hFat
  have hcnt : ∀ m, m ≤ zs.length → cntL (zs.take m) = m := fun m hm => by rw [cntL_ints, List.length_take]; omega
  have Hcnt := Lib.hid hcnt
  clear hcnt
  go_enter Try.func48, Try.ntmps48
  go_wp2
  go_loopw [1, 5] (fun q i wr => ∃ j : Nat, j ≤ l.length ∧ q = .int .i64 (k + 3 * (j : Int)) ∧ i = .int .i64 j ∧ zs.take (j * 3) = markL k (zs.take (j * 3)) ∧ Drew w wr)
    (fun _ i _ => l.length - (intOf i).toNat)
  case atStart => exact ⟨0, Nat.zero_le _, by simp, rfl, by simp [markL], Drew.refl _⟩
  case round =>
    obtain ⟨j, hj, rfl, rfl, hr, n, rfl⟩ := hrel
    have Hr := Lib.hid hr; clear hr
    by_cases hlt : j < l.length
    · obtain ⟨p0, p1, p2, e0, e1, e2⟩ := HFat.out j hlt
      obtain ⟨b, off, rfl, -, c1, c2, c3⟩ := fault_at4 h hlt
      rw [e0] at c1; rw [e1] at c2; rw [e2] at c3
      clear e0 e1 e2
      have n0 := Hcnt.out (j * 3) (by omega)
      have n1 := Hcnt.out (j * 3 + 1) (by omega)
      have n2 := Hcnt.out (j * 3 + 2) (by omega)
      have N0 := Lib.hid n0
      have N1 := Lib.hid n1
      have N2 := Lib.hid n2
      clear n0 n1 n2
      by_cases g0 : zs[j * 3] = k + 3 * (j : Int)
      · have d0 : (zs[j * 3] != k + 3 * (j : Int)) = false := by simp [g0]
        have s1 := Lib.hid (held_step (k := k) p0 Hr.out (by rw [N0.out]; show zs[j * 3] = k + ((j * 3 : Nat) : Int); omega))
        by_cases g1 : zs[j * 3 + 1] = k + 3 * (j : Int) + 1
        · have d1 : (zs[j * 3 + 1] != k + 3 * (j : Int) + 1) = false := by simp [g1]
          have s2 := Lib.hid (held_step (k := k) p1 s1.out (by rw [N1.out]; show zs[j * 3 + 1] = k + ((j * 3 + 1 : Nat) : Int); omega))
          by_cases g2 : zs[j * 3 + 2] = k + 3 * (j : Int) + 2
          · have d2 : (zs[j * 3 + 2] != k + 3 * (j : Int) + 2) = false := by simp [g2]
            have d2' : (zs[j * 3 + 2] != k + 3 * (j : Int) + 1 + 1) = false := by rw [show k + 3 * (j : Int) + 1 + 1 = k + 3 * (j : Int) + 2 by omega]; exact d2
            have s3 := Lib.hid (held_step (k := k) p2 s2.out (by rw [N2.out]; show zs[j * 3 + 2] = k + ((j * 3 + 2 : Nat) : Int); omega))
            clear g0 g1 g2
            go_wp2
            go_roundw
            case rel => exact ⟨j + 1, by omega, by go_num, by go_num, by have := s3.out; rwa [show j * 3 + 2 + 1 = (j + 1) * 3 by omega] at this, ⟨_, rfl⟩⟩
            case measure => simp [intOf]; omega
          · have d2' : (zs[j * 3 + 2] != k + 3 * (j : Int) + 1 + 1) = true := by simp; omega
            have hno := Lib.hid (show heldV k zs = -1 from heldV_no (held_not (k := k) p2 (by rw [N2.out]; show zs[j * 3 + 2] ≠ k + ((j * 3 + 2 : Nat) : Int); omega)))
            clear g0 g1 g2
            go_wp2
            go_ret
            exact ⟨ret_int (by rw [HF.out, hno.out]), (by with_reducible repeat (first | exact Only.refl _ _ | assumption | refine Only.drewN ?_ _ | refine Only.drew ?_ | refine Only.alloc ?_ _ | refine Only.setCell ?_ (by intro hh; exfalso; simp at hh; try omega) _ | refine Only.trans ?_ (by assumption)))⟩
        · have d1 : (zs[j * 3 + 1] != k + 3 * (j : Int) + 1) = true := by simp [g1]
          have hno := Lib.hid (show heldV k zs = -1 from heldV_no (held_not (k := k) p1 (by rw [N1.out]; show zs[j * 3 + 1] ≠ k + ((j * 3 + 1 : Nat) : Int); omega)))
          clear g0 g1
          go_wp2
          go_ret
          exact ⟨ret_int (by rw [HF.out, hno.out]), (by with_reducible repeat (first | exact Only.refl _ _ | assumption | refine Only.drewN ?_ _ | refine Only.drew ?_ | refine Only.alloc ?_ _ | refine Only.setCell ?_ (by intro hh; exfalso; simp at hh; try omega) _ | refine Only.trans ?_ (by assumption)))⟩
      · have d0 : (zs[j * 3] != k + 3 * (j : Int)) = true := by simp [g0]
        have hno := Lib.hid (show heldV k zs = -1 from heldV_no (held_not (k := k) p0 (by rw [N0.out]; show zs[j * 3] ≠ k + ((j * 3 : Nat) : Int); omega)))
        clear g0
        go_wp2
        go_ret
        exact ⟨ret_int (by rw [HF.out, hno.out]), (by with_reducible repeat (first | exact Only.refl _ _ | assumption | refine Only.drewN ?_ _ | refine Only.drew ?_ | refine Only.alloc ?_ _ | refine Only.setCell ?_ (by intro hh; exfalso; simp at hh; try omega) _ | refine Only.trans ?_ (by assumption)))⟩
    · have hjl : j = l.length := by omega
      have hfin := Lib.hid (show heldV k zs = k + 3 * (j : Int) by
        have h9 := Hr.out
        rw [List.take_of_length_le (by have := HFl.out; omega)] at h9
        rw [heldV_yes (x := zs) h9]
        show k + ((cntL zs : Nat) : Int) = _
        rw [cntL_ints, HFl.out]; omega)
      clear hjl
      go_wp2
      go_ret
      exact ⟨ret_int (by rw [HF.out, hfin.out]), (by with_reducible repeat (first | exact Only.refl _ _ | assumption | refine Only.drewN ?_ _ | refine Only.drew ?_ | refine Only.alloc ?_ _ | refine Only.setCell ?_ (by intro hh; exfalso; simp at hh; try omega) _ | refine Only.trans ?_ (by assumption)))⟩
set_option maxHeartbeats 2000000 in
theorem markTableFaultS_rd (v : Value) (l : List Fault) (fp : List Nat) (k : Int) (w : World) (hv : Rd w v l fp) (hnd : fp.Nodup) (ho : Own w fp) (h0 : 0 ≤ k) (h1' : k + (Mk.cnt l : Nat) ≤ 4611686018427387904) :
    Calls Try.prog 47 #[v, .int .i64 k] w fun e w' => e = .returned (.int .i64 (k + (Mk.cnt l : Nat))) ∧ Rd w' v (Mk.mark k l) fp ∧ Own w' fp ∧ Only fp w w' := by
  obtain ⟨a, cap, ob, fps, rfl, rfl, h⟩ := hv.open_
  have hb := h.bound
  have h1 : k + ((3 * l.length : Nat) : Int) ≤ 4611686018427387904 := by
    have h9 : k + ((cntL l : Nat) : Int) ≤ 4611686018427387904 := h1'
    rwa [cntL_faults] at h9
  clear h1'
  have hcl := h.len
  have hcm := h.cap
  have hfn : fps.flatten = [] := flat_nil (fun q hq => by
    obtain ⟨_, _, _, _, _, _, _, _, h9⟩ := h.at_ q (by rw [← h.nf]; exact hq)
    exact h9)
  rw [hfn, List.append_nil] at ho ⊢
  have hI0 := fault_ints h (by unfold maxLen; omega)
  obtain ⟨zs, hF⟩ : ∃ zs, zs = flatF l := ⟨_, rfl⟩
  have hFl : zs.length = 3 * l.length := by rw [hF, flatF_len]
  rw [← hF] at hI0
  have HF := Lib.hid hF
  have HFl := Lib.hid hFl
  have hcnt : ∀ m, m ≤ zs.length → cntL (zs.take m) = m := fun m hm => by rw [cntL_ints, List.length_take]; omega
  have Hcnt := Lib.hid hcnt
  clear hF hFl hcnt hfn hnd
  go_enter Try.func47, Try.ntmps47
  go_wp2
  go_loopw [1, 5] (fun q i wr => ∃ j : Nat, j ≤ l.length ∧ q = .int .i64 (k + 3 * (j : Int)) ∧ i = .int .i64 j ∧ IntsA wr a (3 * l.length) (markL k (zs.take (j * 3)) ++ zs.drop (j * 3)) ob ∧ Own wr ob ∧ Only ob w wr)
    (fun _ i _ => l.length - (intOf i).toNat)
  case atStart => exact ⟨0, Nat.zero_le _, by simp, rfl, by simpa [markL] using hI0, ho, Only.refl _ _⟩
  case round =>
    clear hI0
    obtain ⟨j, hj, rfl, rfl, hI, hO, hK⟩ := hrel
    by_cases hlt : j < l.length
    · have p0 : j * 3 < zs.length := by have := HFl.out; omega
      have p1 : j * 3 + 1 < zs.length := by have := HFl.out; omega
      have p2 : j * 3 + 2 < zs.length := by have := HFl.out; omega
      have hlen : ∀ m, m ≤ zs.length → (markL k (zs.take m) ++ zs.drop m).length = zs.length := fun m hm => by
        rw [List.length_append, markL_length, List.length_take, List.length_drop]; omega
      obtain ⟨b, off, rfl, hfb, hc0⟩ := hI.at_ (j * 3) (by rw [hlen _ (by omega)]; exact p0)
      obtain ⟨b', off', hab, -, hc1⟩ := hI.at_ (j * 3 + 1) (by rw [hlen _ (by omega)]; exact p1)
      injection hab with hab; injection hab with e1 e2; subst e1; subst e2
      obtain ⟨b', off', hab, -, hc2⟩ := hI.at_ (j * 3 + 2) (by rw [hlen _ (by omega)]; exact p2)
      injection hab with hab; injection hab with e1 e2; subst e1; subst e2
      have z0 := hO.frozen (b := b) (off := off + j * 3) (by simp [hfb])
      have z1 := hO.frozen (b := b) (off := off + j * 3 + 1) (by simp [hfb])
      have z2 := hO.frozen (b := b) (off := off + j * 3 + 2) (by simp [hfb])
      rw [← Nat.add_assoc] at hc1 hc2
      have m0 := markL_set k zs (j * 3) p0
      have m1 := markL_set k zs (j * 3 + 1) p1
      have m2 := markL_set k zs (j * 3 + 2) p2
      rw [Hcnt.out _ (by omega)] at m0 m1 m2
      simp only [Mk.mark] at m0 m1 m2
      have hI1 := hI.set (j := j * 3) (x := k + ((j * 3 : Nat) : Int)) (i64_of (by omega) (by omega))
      rw [m0] at hI1
      have hI2 := hI1.set (j := j * 3 + 1) (x := k + ((j * 3 + 1 : Nat) : Int)) (i64_of (by omega) (by omega))
      rw [m1] at hI2
      have hI3 := hI2.set (j := j * 3 + 2) (x := k + ((j * 3 + 2 : Nat) : Int)) (i64_of (by omega) (by omega))
      rw [m2] at hI3
      have q0 : k + ((j * 3 : Nat) : Int) = k + 3 * (j : Int) := by omega
      have q1 : k + ((j * 3 + 1 : Nat) : Int) = k + 3 * (j : Int) + 1 := by omega
      have q2 : k + ((j * 3 + 2 : Nat) : Int) = k + 3 * (j : Int) + 1 + 1 := by omega
      rw [q0, q1, q2, ← Nat.add_assoc, ← Nat.add_assoc] at hI3
      have HI3 := Lib.hid hI3
      have HO3 := Lib.hid (((hO.setCell ⟨b, off + j * 3, none⟩ (.int .i64 (k + 3 * (j : Int)))).setCell ⟨b, off + j * 3 + 1, none⟩ (.int .i64 (k + 3 * (j : Int) + 1))).setCell ⟨b, off + j * 3 + 2, none⟩ (.int .i64 (k + 3 * (j : Int) + 1 + 1)))
      have hbo : b ∈ ob := by simp [hfb]
      have HK3 := Lib.hid (((hK.setCell (p := ⟨b, off + j * 3, none⟩) (fun _ => hbo) (.int .i64 (k + 3 * (j : Int)))).setCell (p := ⟨b, off + j * 3 + 1, none⟩) (fun _ => hbo) (.int .i64 (k + 3 * (j : Int) + 1))).setCell (p := ⟨b, off + j * 3 + 2, none⟩) (fun _ => hbo) (.int .i64 (k + 3 * (j : Int) + 1 + 1)))
      obtain ⟨c0', hd0⟩ : ∃ c, wr.cell? ⟨b, off + j * 3, none⟩ = some c := ⟨_, hc0⟩
      obtain ⟨c1', hd1⟩ : ∃ c, wr.cell? ⟨b, off + j * 3 + 1, none⟩ = some c := ⟨_, hc1⟩
      obtain ⟨c2', hd2⟩ : ∃ c, wr.cell? ⟨b, off + j * 3 + 2, none⟩ = some c := ⟨_, hc2⟩
      clear hI hI1 hI2 hI3 m0 m1 m2 q0 q1 q2 hc0 hc1 hc2 hlen hfb
      go_wp2
      go_roundw
      case rel => exact ⟨j + 1, by omega, by go_num, by go_num, by have := HI3.out; rwa [show j * 3 + 2 + 1 = (j + 1) * 3 by omega] at this, HO3.out, HK3.out⟩
      case measure => simp [intOf]; omega
    · have hjl : j = l.length := by omega
      have hI' := hI
      rw [hjl, show l.length * 3 = zs.length by rw [HFl.out]; omega, List.take_length, List.drop_length, List.append_nil, HF.out, ← flatF_mark] at hI'
      have hfin := Lib.hid (ints_fault (cap := cap) hI' (by rw [markL_length]; exact hcl) hcm)
      have hjc := Lib.hid (show k + ((Mk.cnt l : Nat) : Int) = k + 3 * (j : Int) by show k + ((cntL l : Nat) : Int) = _; rw [cntL_faults]; omega)
      have hml := Lib.hid (markL_length k l)
      clear hjl hI hI'
      go_wp2
      go_ret
      refine ⟨ret_int hjc.out.symm, ?_, hO, hK⟩
      have := hfin.out.rd
      rw [hml.out, flatten_nil, List.append_nil] at this
      exact this
end Go.Proofs.Ytmilmbgnkpkmnaa
