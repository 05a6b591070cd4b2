/- Lists of one length in order; an index kept sorted by them (law 16). The reference's search: an index of lists kept sorted (law 16). States and reachable states: the reference's and the program's functions. A new session: the reference's and the program's. What the functions on sessions do with words and histories: pushes, evaluation of words, copies. Words taken back from a history: what both RedoWord and UndoWord need. (Printed by mkredo.py.) The reference's search: its own memory (law 16). -/
import Derived.Test.YtpkplmnpepkdaaaGreatRowAdmissibleTablesG7
import Derived.Test.YtpkplmnpepkdaaaGreatRowAdmissibleTablesG6
import Derived.Laws.CopyOwn
import Derived.Test.YtpkplmnpepkdaaaGreatRowAdmissibleTablesG3
import Derived.Test.YtpkplmnpepkdaaaGreatRowAdmissibleTablesG4
import Derived.Test.YtpkplmnpepkdaaaGreatRowAdmissibleTablesG5
import Derived.StillTailTactics
import Derived.Deep.RegionHeld3
import Derived.Deep.DeepCutAuto
import Derived.Test.YtpkplmnpepkdaaaGreatRowAdmissibleTablesG2
import Derived.Deep.RegionLaw
import Derived.BigQuiet
import Derived.Test.YtpkplmnpepkdaaaGreatRowAdmissibleTablesG1
namespace Go.Proofs.YtpkplmnpepkdaaaGreat
open Go.RowKit
set_option maxRecDepth 10000

/-- a precedes b -/
def prec : List Int → List Int → Bool
  | a :: xs, b :: ys => if a = b then prec xs ys else decide (a < b)
  | _, _ => false
theorem prec_irr : ∀ (a : List Int), prec a a = false
  | [] => rfl
  | a :: xs => by simp [prec, prec_irr xs]
theorem prec_trans : ∀ {a b c : List Int}, a.length = b.length → b.length = c.length → prec a b = true → prec b c = true → prec a c = true
  | [], _, _, _, _, h, _ => by cases h
  | _ :: _, [], _, h, _, _, _ => by cases h
  | _ :: _, _ :: _, [], _, h, _, _ => by cases h
  | a :: xs, b :: ys, c :: zs, h1, h2, h3, h4 => by
    unfold prec at h3 h4 ⊢
    by_cases e1 : a = b
    · by_cases e2 : b = c
      · rw [if_pos e1] at h3; rw [if_pos e2] at h4; rw [if_pos (e1.trans e2)]
        exact prec_trans (by simpa using h1) (by simpa using h2) h3 h4
      · rw [if_neg e2] at h4; subst e1; rw [if_neg e2]; exact h4
    · rw [if_neg e1] at h3
      have h3 := of_decide_eq_true h3
      by_cases e2 : b = c
      · subst e2; rw [if_neg e1]; exact decide_eq_true h3
      · rw [if_neg e2] at h4
        have h4 := of_decide_eq_true h4
        rw [if_neg (by omega)]; exact decide_eq_true (by omega)
theorem prec_tri : ∀ {a b : List Int}, a.length = b.length → a ≠ b → prec a b = false → prec b a = true
  | [], [], _, h, _ => absurd rfl h
  | [], _ :: _, h, _, _ => by cases h
  | _ :: _, [], h, _, _ => by cases h
  | a :: xs, b :: ys, h1, h2, h3 => by
    unfold prec at h3 ⊢
    by_cases e1 : a = b
    · subst e1
      rw [if_pos rfl] at h3 ⊢
      exact prec_tri (by simpa using h1) (fun e => h2 (by rw [e])) h3
    · rw [if_neg e1] at h3
      rw [if_neg (fun e => e1 e.symm)]
      have := of_decide_eq_false h3
      exact decide_eq_true (by omega)
theorem prec_drop : ∀ {a b : List Int} {j : Nat}, (∀ i, i < j → a[i]? = b[i]?) → j ≤ a.length → j ≤ b.length → prec a b = prec (a.drop j) (b.drop j)
  | _, _, 0, _, _, _ => by simp
  | [], _, j + 1, _, h, _ => by simp at h
  | _ :: _, [], j + 1, _, _, h => by simp at h
  | a :: xs, b :: ys, j + 1, h, h1, h2 => by
    have h0 := h 0 (by omega)
    simp only [List.getElem?_cons_zero, Option.some.injEq] at h0
    rw [List.drop_succ_cons, List.drop_succ_cons]
    rw [show prec (a :: xs) (b :: ys) = if a = b then prec xs ys else decide (a < b) from rfl, if_pos h0]
    exact prec_drop (fun i hi => by simpa using h (i + 1) (by omega)) (by simpa using h1) (by simpa using h2)
theorem prec_at {a b : List Int} {j : Nat} (h : ∀ i, i < j → a[i]? = b[i]?) (h1 : j < a.length) (h2 : j < b.length) (hne : a[j] ≠ b[j]) : prec a b = decide (a[j] < b[j]) := by
  rw [prec_drop h (by omega) (by omega), List.drop_eq_getElem_cons h1, List.drop_eq_getElem_cons h2]
  rw [show ∀ (x y : Int) (xs ys : List Int), prec (x :: xs) (y :: ys) = if x = y then prec xs ys else decide (x < y) from fun _ _ _ _ => rfl, if_neg hne]
theorem prec_all {a b : List Int} (h : ∀ i, i < a.length → a[i]? = b[i]?) (hl : a.length = b.length) : prec a b = false := by
  rw [prec_drop h (Nat.le_refl _) (by omega), List.drop_length]
  rfl

/-- so: an index of the lists L, sorted by them -/
structure Srt (m : Nat) (L : List (List Int)) (so : List Nat) : Prop where
  len : so.length = L.length
  many : ∀ x ∈ L, x.length = m
  in_ : ∀ i ∈ so, i < L.length
  all : ∀ i, i < L.length → i ∈ so
  asc : ∀ (i j : Nat) (hi : i < so.length) (hj : j < so.length), i < j → prec (L.getD so[i] []) (L.getD so[j] []) = true
theorem Srt.nil (m : Nat) : Srt m [] [] := ⟨rfl, by simp, by simp, by simp, by simp⟩
theorem Srt.mem {m : Nat} {L : List (List Int)} {so : List Nat} (h : Srt m L so) {i : Nat} (hi : i < so.length) : L.getD so[i] [] ∈ L := by
  have := h.in_ so[i] (List.getElem_mem hi)
  rw [List.getD_eq_getElem?_getD, List.getElem?_eq_getElem this]
  exact List.getElem_mem this
/-- k: the place at which s is or would be -/
structure Slot (L : List (List Int)) (so : List Nat) (s : List Int) (k : Nat) : Prop where
  le : k ≤ so.length
  lo : ∀ (i : Nat) (hi : i < so.length), i < k → prec (L.getD so[i] []) s = true
  hi : ∀ (i : Nat) (hi : i < so.length), k ≤ i → prec (L.getD so[i] []) s = false
theorem Srt.below {m : Nat} {L : List (List Int)} {so : List Nat} (h : Srt m L so) {s : List Int} (hs : s.length = m) {k : Nat} (hk : k < so.length) (hp : prec (L.getD so[k] []) s = true) {i : Nat} (hi : i < so.length) (hik : i ≤ k) : prec (L.getD so[i] []) s = true := by
  rcases Nat.lt_or_eq_of_le hik with hlt | rfl
  · exact prec_trans (by rw [h.many _ (h.mem hi), h.many _ (h.mem hk)]) (by rw [h.many _ (h.mem hk), hs]) (h.asc i k hi hk hlt) hp
  · exact hp
theorem Srt.above {m : Nat} {L : List (List Int)} {so : List Nat} (h : Srt m L so) {s : List Int} (hs : s.length = m) {k : Nat} (hk : k < so.length) (hp : prec (L.getD so[k] []) s = false) {i : Nat} (hi : i < so.length) (hik : k ≤ i) : prec (L.getD so[i] []) s = false := by
  rcases hq : prec (L.getD so[i] []) s
  · rfl
  · rw [h.below hs hi hq hk hik] at hp; cases hp
theorem Srt.slot_mem {m : Nat} {L : List (List Int)} {so : List Nat} (h : Srt m L so) {s : List Int} {k : Nat} (hk : Slot L so s k) : s ∈ L ↔ ∃ hk : k < so.length, L.getD so[k] [] = s := by
  constructor
  · intro hm
    obtain ⟨i, hi, he⟩ := List.mem_iff_getElem.1 hm
    obtain ⟨t, ht, hte⟩ := List.mem_iff_getElem.1 (h.all i hi)
    have hts : L.getD so[t] [] = s := by rw [hte, List.getD_eq_getElem?_getD, List.getElem?_eq_getElem hi]; exact he
    rcases Nat.lt_trichotomy t k with hlt | heq | hgt
    · have := hk.lo t ht hlt
      rw [hts, prec_irr] at this; cases this
    · subst heq; exact ⟨ht, hts⟩
    · have h1 := h.asc k t (by omega) ht hgt
      have h2 := hk.hi k (by omega) (Nat.le_refl _)
      rw [hts] at h1; rw [h1] at h2; cases h2
  · rintro ⟨hk, he⟩
    rw [← he]; exact h.mem hk
/-- one list more -/
theorem Srt.add {m : Nat} {L : List (List Int)} {so : List Nat} (h : Srt m L so) {s : List Int} (hs : s.length = m) (hn : s ∉ L) {k : Nat} (hk : Slot L so s k) : Srt m (L ++ [s]) (so.take k ++ L.length :: so.drop k) := by
  have hD : ∀ (t : Nat) (ht : t < so.length), (L ++ [s]).getD so[t] [] = L.getD so[t] [] := fun t ht => by
    have := h.in_ so[t] (List.getElem_mem ht)
    simp only [List.getD_eq_getElem?_getD, List.getElem?_append_left this]
  have hS : (L ++ [s]).getD L.length [] = s := by simp [List.getD_eq_getElem?_getD]
  have hle := hk.le
  have hG : ∀ (t : Nat) (ht : t < (so.take k ++ L.length :: so.drop k).length), (L ++ [s]).getD (so.take k ++ L.length :: so.drop k)[t] [] = if t < k then L.getD (so.getD t 0) [] else if t = k then s else L.getD (so.getD (t - 1) 0) [] := by
    intro t ht
    have htl : t < so.length + 1 := by simp at ht; omega
    by_cases h1 : t < k
    · rw [if_pos h1]
      rw [List.getElem_append_left (by simp; omega), List.getElem_take]
      rw [hD t (by omega)]
      simp [List.getD_eq_getElem?_getD, List.getElem?_eq_getElem (show t < so.length by omega)]
    · rw [if_neg h1]
      have hkl : (so.take k).length = k := by simp; omega
      rw [List.getElem_append_right (by rw [hkl]; omega)]
      by_cases h2 : t = k
      · subst h2; rw [if_pos rfl]; simp only [hkl, Nat.sub_self, List.getElem_cons_zero]; exact hS
      · rw [if_neg h2]
        have h3 : t - (so.take k).length = (t - 1 - k) + 1 := by rw [hkl]; omega
        simp only [h3, List.getElem_cons_succ, List.getElem_drop]
        have h4 : k + (t - 1 - k) = t - 1 := by omega
        have h5 : t - 1 < so.length := by omega
        simp only [h4]
        rw [hD _ h5]
        simp [List.getD_eq_getElem?_getD, List.getElem?_eq_getElem h5]
  refine ⟨?_, ?_, ?_, ?_, ?_⟩
  · have := h.len; simp; omega
  · intro x hx
    rcases List.mem_append.1 hx with hx | hx
    · exact h.many x hx
    · simp at hx; subst hx; exact hs
  · intro i hi
    rw [List.length_append, List.length_singleton]
    rcases List.mem_append.1 hi with hi | hi
    · have := h.in_ i (List.mem_of_mem_take hi); omega
    · rcases List.mem_cons.1 hi with rfl | hi
      · omega
      · have := h.in_ i (List.mem_of_mem_drop hi); omega
  · intro i hi
    rw [List.length_append, List.length_singleton] at hi
    by_cases he : i = L.length
    · subst he; simp
    · have := h.all i (by omega)
      rw [← List.take_append_drop k so] at this
      rcases List.mem_append.1 this with h1 | h1
      · exact List.mem_append_left _ h1
      · exact List.mem_append_right _ (List.mem_cons_of_mem _ h1)
  · intro i j hi hj hij
    rw [hG i hi, hG j hj]
    have hjl : j < so.length + 1 := by simp at hj; omega
    have gd : ∀ (t : Nat) (ht : t < so.length), so.getD t 0 = so[t] := fun t ht => by simp [List.getD_eq_getElem?_getD, List.getElem?_eq_getElem ht]
    by_cases j1 : j < k
    · rw [if_pos j1, if_pos (by omega), gd i (by omega), gd j (by omega)]
      exact h.asc i j (by omega) (by omega) hij
    · rw [if_neg j1]
      by_cases j2 : j = k
      · subst j2
        rw [if_pos rfl, if_pos hij, gd i (by omega)]
        exact hk.lo i (by omega) hij
      · rw [if_neg j2, gd (j - 1) (by omega)]
        by_cases i1 : i < k
        · rw [if_pos i1, gd i (by omega)]
          exact h.asc i (j - 1) (by omega) (by omega) (by omega)
        · rw [if_neg i1]
          by_cases i2 : i = k
          · rw [if_pos i2]
            have hj1 : j - 1 < so.length := by omega
            have hne : L.getD so[j - 1] [] ≠ s := fun e => hn (e ▸ h.mem hj1)
            exact prec_tri (by rw [h.many _ (h.mem hj1), hs]) hne (hk.hi (j - 1) hj1 (by omega))
          · rw [if_neg i2, gd (i - 1) (by omega)]
            exact h.asc (i - 1) (j - 1) (by omega) (by omega) (by omega)
end Go.Proofs.YtpkplmnpepkdaaaGreat

namespace Go.Proofs.YtpkplmnpepkdaaaGreat
open Go.RowKit
set_option maxRecDepth 10000

set_option maxHeartbeats 1000000 in
theorem listPrecedes_rd (v u : Value) (l p : List Int) (f g : List Nat) (w : World) (h : Rd w v l f) (h' : Rd w u p g) (hl : l.length = p.length) :
    Calls Tryz.prog 121 #[v, u] w fun e w' => e = .returned (.bool (prec l p)) ∧ Drew w w' := by
  obtain ⟨a, cap, rfl, IL⟩ := h.ints
  obtain ⟨a', cap', rfl, IP⟩ := h'.ints
  have hb := IL.bound
  have hb' := IP.bound
  have Hl := Lib.hid hl
  clear hl
  go_enter Tryz.func121, Tryz.ntmps121
  go_wp2
  go_loopw [5] (fun i wr => ∃ j : Nat, j ≤ l.length ∧ i = .int .i64 j ∧ (∀ i, i < j → l[i]? = p[i]?) ∧ Drew w wr)
    (fun i _ => l.length - (intOf i).toNat)
  case atStart => exact ⟨0, Nat.zero_le _, rfl, by simp, Drew.refl _⟩
  case round =>
    obtain ⟨j, hj, rfl, hr, n, rfl⟩ := hrel
    have Hr := Lib.hid hr
    clear hr
    by_cases hlt : j < l.length
    · have hlt' : j < p.length := by have := Hl.out; omega
      obtain ⟨b, off, rfl, -, hc⟩ := IL.at_ j hlt
      obtain ⟨b', off', rfl, -, hc'⟩ := IP.at_ j hlt'
      rcases hq : (l[j] != p[j])
      · have heq : l[j] = p[j] := by simpa using hq
        have Heq := Lib.hid heq
        clear heq
        go_wp2
        go_quiet (fail)
        go_wp2
        go_roundw
        case rel => exact ⟨j + 1, by omega, by go_num, fun i hi => by
          rcases Nat.lt_or_eq_of_le (Nat.lt_succ_iff.1 hi) with h1 | rfl
          · exact Hr.out i h1
          · rw [List.getElem?_eq_getElem hlt, List.getElem?_eq_getElem hlt', Heq.out], ⟨_, rfl⟩⟩
        case measure => simp [intOf]; omega
      · have hne : l[j] ≠ p[j] := by simpa using hq
        have Hne := Lib.hid hne
        clear hne
        go_wp2
        go_quiet (fail)
        go_wp2
        go_quiet (fail)
        go_wp2
        go_ret
        exact ⟨ret_bool (prec_at Hr.out hlt hlt' Hne.out).symm, (((Drew.refl _).drewN _).drewN _).drewN _⟩
    · obtain rfl : j = l.length := by omega
      go_wp2
      go_ret
      exact ⟨ret_bool (prec_all Hr.out Hl.out).symm, ⟨_, rfl⟩⟩
/-- the index as numbers -/
def soI (so : List Nat) : List Int := so.map fun i : Nat => (i : Int)
theorem soI_len (so : List Nat) : (soI so).length = so.length := by simp [soI]
theorem soI_get (so : List Nat) {j : Nat} (h : j < so.length) : (soI so)[j]'(by rw [soI_len]; exact h) = (so[j] : Int) := by simp [soI]
/-- what a search holds, as its functions read it -/
structure SrR (w : World) (A1 A2 A3 : Option Addr) (C1 C2 C3 : Nat) (L : List (List Int)) (D : List Int) (so : List Nat) (ob : List Nat) (fps : List (List Nat)) (fd fs : List Nat) : Prop where
  ls : SeqA w A1 C1 L ob fps
  dp : IntsA w A2 C2 D fd
  st : IntsA w A3 C3 (soI so) fs
theorem SrR.keep {w w' : World} {A1 A2 A3 : Option Addr} {C1 C2 C3 : Nat} {L : List (List Int)} {D : List Int} {so : List Nat} {ob : List Nat} {fps : List (List Nat)} {fd fs : List Nat} (h : SrR w A1 A2 A3 C1 C2 C3 L D so ob fps fd fs) (ho : Only [] w w') : SrR w' A1 A2 A3 C1 C2 C3 L D so ob fps fd fs :=
  ⟨h.ls.frame fun b hb => ho.block b (h.ls.lt_all b hb) (by simp), h.dp.keep ho, h.st.keep ho⟩
theorem SrR.only {w w' : World} {A1 A2 A3 : Option Addr} {C1 C2 C3 : Nat} {L : List (List Int)} {D : List Int} {so : List Nat} {ob : List Nat} {fps : List (List Nat)} {fd fs fp : List Nat} (h : SrR w A1 A2 A3 C1 C2 C3 L D so ob fps fd fs) (ho : Only fp w w') (hd : ∀ g ∈ (ob ++ fps.flatten) ++ (fd ++ fs), g ∉ fp) : SrR w' A1 A2 A3 C1 C2 C3 L D so ob fps fd fs :=
  ⟨h.ls.frame fun b hb => ho.block b (h.ls.lt_all b hb) (hd b (List.mem_append_left _ hb)), h.dp.only ho fun b hb => hd b (List.mem_append_right _ (List.mem_append_left _ hb)), h.st.only ho fun b hb => hd b (List.mem_append_right _ (List.mem_append_right _ hb))⟩
set_option maxHeartbeats 2000000 in
theorem searchSlot_any (A1 A2 A3 : Option Addr) (C1 C2 C3 : Nat) (wh : Bool) (L : List (List Int)) (D : List Int) (so : List Nat) (ob : List Nat) (fps : List (List Nat)) (fd fs : List Nat) (m : Nat) (v : Value) (s : List Int) (f : List Nat) (w : World)
    (h : SrR w A1 A2 A3 C1 C2 C3 L D so ob fps fd fs) (hS : Srt m L so) (hv : Rd w v s f) (hs : s.length = m) (hL : L.length ≤ 3000) :
    Calls Tryz.prog 112 #[.agg #[.slice A1 L.length C1, .slice A2 D.length C2, .slice A3 so.length C3, .bool wh], v] w fun e w' => ∃ k : Nat, e = .returned (.int .i64 k) ∧ Slot L so s k ∧ k ≤ 3000 ∧ Only [] w w' := by
  have hlen : so.length ≤ 3000 := by rw [hS.len]; exact hL
  have HS := Lib.hid hS
  clear hS
  go_enter Tryz.func112, Tryz.ntmps112
  go_wp2
  go_loopw [5, 6] (fun lo hi wr => ∃ a b : Nat, a ≤ b ∧ b ≤ so.length ∧ lo = .int .i64 a ∧ hi = .int .i64 b ∧ (∀ (i : Nat) (hi : i < so.length), i < a → prec (L.getD so[i] []) s = true) ∧ (∀ (i : Nat) (hi : i < so.length), b ≤ i → prec (L.getD so[i] []) s = false) ∧ Drew (w.alloc (.cells #[.slice A1 L.length C1, .slice A2 D.length C2, .slice A3 so.length C3, .bool wh] 66)) wr)
    (fun lo hi _ => (intOf hi - intOf lo).toNat)
  case atStart => exact ⟨0, so.length, Nat.zero_le _, Nat.le_refl _, rfl, rfl, by simp, fun i hi h => absurd hi (Nat.not_lt.2 h), Drew.refl _⟩
  case round =>
    obtain ⟨a, b, hab, hbl, rfl, rfl, hlo, hhi, n, rfl⟩ := hrel
    have Hlo := Lib.hid hlo
    have Hhi := Lib.hid hhi
    clear hlo hhi
    by_cases hlt : a < b
    · obtain ⟨mid, hmid⟩ : ∃ mid, mid = (a + b) / 2 := ⟨_, rfl⟩
      have hm1 : a ≤ mid := by omega
      have hm2 : mid < b := by omega
      have hq1 : ((a : Int) + (b : Int)) / 2 = (mid : Int) := by omega
      have hq2 : ((a : Int) + (b : Int)).tdiv 2 = (mid : Int) := by rw [Int.tdiv_eq_ediv_of_nonneg (by omega)]; exact hq1
      clear hmid
      have hml : mid < so.length := by omega
      obtain ⟨b3, off3, rfl, -, hc3⟩ := h.st.at_ mid (by rw [soI_len]; exact hml)
      have hin := HS.out.in_ so[mid] (List.getElem_mem hml)
      have hget := soI_get so hml
      obtain ⟨i0, hi0⟩ : ∃ i0, i0 = so[mid] := ⟨_, rfl⟩
      rw [hget, ← hi0] at hc3
      rw [← hi0] at hin
      obtain ⟨b1, off1, u, rfl, -, hc1, hu⟩ := h.ls.atRow i0 hin
      have hmany := HS.out.many L[i0] (List.getElem_mem hin)
      have hlu : L[i0].length = s.length := by rw [hmany, hs]
      have hD : L.getD so[mid] [] = L[i0] := by rw [← hi0, List.getD_eq_getElem?_getD, List.getElem?_eq_getElem hin]; rfl
      have HD := Lib.hid hD
      have HU := Lib.hid hlu
      have K : Only [] w (w.alloc (.cells #[.slice (some ⟨b1, off1, none⟩) L.length C1, .slice A2 D.length C2, .slice (some ⟨b3, off3, none⟩) so.length C3, .bool wh] 66)) := (Only.refl _ _).alloc _
      have hk3 := K.cell (by simp) hc3
      have hk1 := K.cell (by simp) hc1
      clear hget hi0 hmany hlu hD
      go_wp2
      go_quiet ((go_at_call 121; exact quiet_drewN (listPrecedes_rd u v L[i0] s _ _ _ (Rp.keep hu (K.drewN _)) (Rp.keep hv (K.drewN _)) HU.out)))
      go_wp2
      · have hp : prec L[i0] s = true := by assumption
        go_roundw
        case rel => exact ⟨mid + 1, b, by omega, hbl, by go_num, by go_num, fun i hi h1 => HS.out.below hs hml (by rw [HD.out]; exact hp) hi (by omega), Hhi.out, by first | exact (Drew.refl _).drewN _ | exact ((Drew.refl _).drewN _).drewN _⟩
        case measure => simp [intOf]; omega
      · have hp : prec L[i0] s = false := by assumption
        go_roundw
        case rel => exact ⟨a, mid, hm1, by omega, by go_num, by go_num, Hlo.out, fun i hi h1 => HS.out.above hs hml (by rw [HD.out]; exact hp) hi h1, by first | exact (Drew.refl _).drewN _ | exact ((Drew.refl _).drewN _).drewN _⟩
        case measure => simp [intOf]; omega
    · obtain rfl : a = b := by omega
      go_wp2
      go_ret
      exact ⟨a, rfl, ⟨hbl, Hlo.out, Hhi.out⟩, by omega, (by with_reducible repeat (first | exact Only.refl _ _ | assumption | refine Only.drewN ?_ _ | refine Only.drew ?_ | refine Only.alloc ?_ _ | refine Only.setCell ?_ (by intro hh; exfalso; simp at hh; try omega) _ | refine Only.trans ?_ (by assumption)))⟩
set_option maxHeartbeats 2000000 in
theorem searchIndex_at (A1 A2 A3 : Option Addr) (C1 C2 C3 : Nat) (wh : Bool) (L : List (List Int)) (D : List Int) (so : List Nat) (ob : List Nat) (fps : List (List Nat)) (fd fs : List Nat) (m : Nat) (v : Value) (s : List Int) (f : List Nat) (w : World)
    (h : SrR w A1 A2 A3 C1 C2 C3 L D so ob fps fd fs) (hS : Srt m L so) (hv : Rd w v s f) (hs : s.length = m) (hL : L.length ≤ 3000) :
    Calls Tryz.prog 94 #[.agg #[.slice A1 L.length C1, .slice A2 D.length C2, .slice A3 so.length C3, .bool wh], v] w fun e w' => ∃ r : Int, e = .returned (.int .i64 r) ∧ (0 ≤ r ↔ s ∈ L) ∧ (r = -1 ∨ ∃ i : Nat, r = i ∧ i < L.length ∧ L.getD i [] = s) ∧ Only [] w w' := by
  have hlen : so.length ≤ 3000 := by rw [hS.len]; exact hL
  have HS := Lib.hid hS
  clear hS
  have K : Only [] w (w.alloc (.cells #[.slice A1 L.length C1, .slice A2 D.length C2, .slice A3 so.length C3, .bool wh] 66)) := (Only.refl _ _).alloc _
  have hB := Blk.new w [.slice A1 L.length C1, .slice A2 D.length C2, .slice A3 so.length C3, .bool wh] 66
  go_enter Tryz.func94, Tryz.ntmps94
  go_wp2_with (first
    | (go_at_call 112; (with_reducible refine (searchSlot_any A1 A2 A3 C1 C2 C3 wh L D so ob fps fd fs m _ s f _ (h.keep K) HS.out (Rp.keep hv K) hs hL).mono ?_); rintro e w1 ⟨k, rfl, hk, hk3, t1⟩; have y0 := (hB.keep t1).cell 0 rfl; have y2 := (hB.keep t1).cell 2 rfl)
    | fail "no arm")
  have KK := K.trans t1
  have Hk := Lib.hid hk
  clear hk
  by_cases hlt : k < so.length
  · obtain ⟨b3, off3, rfl, -, hc3⟩ := h.st.at_ k (by rw [soI_len]; exact hlt)
    have hin := HS.out.in_ so[k] (List.getElem_mem hlt)
    have hget := soI_get so hlt
    obtain ⟨i0, hi0⟩ : ∃ i0, i0 = so[k] := ⟨_, rfl⟩
    rw [hget, ← hi0] at hc3
    rw [← hi0] at hin
    obtain ⟨b1, off1, u, rfl, -, hc1, hu⟩ := h.ls.atRow i0 hin
    have hD : L.getD so[k] [] = L[i0] := by rw [← hi0, List.getD_eq_getElem?_getD, List.getElem?_eq_getElem hin]; rfl
    have HD := Lib.hid hD
    have hk3' := KK.cell (by simp) hc3
    have hk1 := KK.cell (by simp) hc1
    clear hget hi0 hD hc3 hc1 hB
    go_quiet ((go_at_call 49; exact quiet_drewN0 (equalInts_rd u v L[i0] s _ _ _ (Rp.keep hu (KK.drewN _)) (Rp.keep hv (KK.drewN _)))))
    go_wp2
    · have hp : eqV L[i0] s = true := by assumption
      go_ret
      exact ⟨i0, rfl, ⟨fun _ => (HS.out.slot_mem Hk.out).2 ⟨hlt, HD.out.trans (eqV_iff.1 hp)⟩, fun _ => by omega⟩, .inr ⟨i0, rfl, hin, by rw [List.getD_eq_getElem?_getD, List.getElem?_eq_getElem hin]; exact eqV_iff.1 hp⟩, (by with_reducible repeat (first | exact Only.refl _ _ | assumption | refine Only.drewN ?_ _ | refine Only.drew ?_ | refine Only.alloc ?_ _ | refine Only.setCell ?_ (by intro hh; exfalso; simp at hh; try omega) _ | refine Only.trans ?_ (by assumption)))⟩
    · have hp : eqV L[i0] s = false := by assumption
      go_ret
      exact ⟨-1, rfl, ⟨fun h => by omega, fun h => by
        obtain ⟨_, he⟩ := (HS.out.slot_mem Hk.out).1 h
        exact absurd (HD.out.symm.trans he) (eqV_iff'.1 hp)⟩, .inl rfl, (by with_reducible repeat (first | exact Only.refl _ _ | assumption | refine Only.drewN ?_ _ | refine Only.drew ?_ | refine Only.alloc ?_ _ | refine Only.setCell ?_ (by intro hh; exfalso; simp at hh; try omega) _ | refine Only.trans ?_ (by assumption)))⟩
  · have hge : so.length ≤ k := by omega
    clear hB
    go_quiet (fail)
    go_wp2
    go_ret
    exact ⟨-1, rfl, ⟨fun h => by omega, fun h => by
      obtain ⟨h1, _⟩ := (HS.out.slot_mem Hk.out).1 h
      exact absurd h1 hlt⟩, .inl rfl, (by with_reducible repeat (first | exact Only.refl _ _ | assumption | refine Only.drewN ?_ _ | refine Only.drew ?_ | refine Only.alloc ?_ _ | refine Only.setCell ?_ (by intro hh; exfalso; simp at hh; try omega) _ | refine Only.trans ?_ (by assumption)))⟩
theorem searchIndex_any (A1 A2 A3 : Option Addr) (C1 C2 C3 : Nat) (wh : Bool) (L : List (List Int)) (D : List Int) (so : List Nat) (ob : List Nat) (fps : List (List Nat)) (fd fs : List Nat) (m : Nat) (v : Value) (s : List Int) (f : List Nat) (w : World)
    (h : SrR w A1 A2 A3 C1 C2 C3 L D so ob fps fd fs) (hS : Srt m L so) (hv : Rd w v s f) (hs : s.length = m) (hL : L.length ≤ 3000) :
    Calls Tryz.prog 94 #[.agg #[.slice A1 L.length C1, .slice A2 D.length C2, .slice A3 so.length C3, .bool wh], v] w fun e w' => ∃ r : Int, e = .returned (.int .i64 r) ∧ (0 ≤ r ↔ s ∈ L) ∧ Only [] w w' := by
  refine (searchIndex_at A1 A2 A3 C1 C2 C3 wh L D so ob fps fd fs m v s f w h hS hv hs hL).mono ?_
  rintro e w' ⟨r, e1, h1, -, h2⟩
  exact ⟨r, e1, h1, h2⟩
end Go.Proofs.YtpkplmnpepkdaaaGreat

namespace Go.Proofs.YtpkplmnpepkdaaaGreat
open Go.RowKit
set_option maxRecDepth 10000

open Classical in
/-- membership in the group that gens generate -/
noncomputable def memB (n : Nat) (gens : List (List Int)) (p : List Int) : Bool := decide (PM.Grp n gens p)
def stateB (x : Puzzle) (s : List Int) : Bool := validPz x && genB x.points s
noncomputable def reachB (x : Puzzle) (s : List Int) : Bool := stateB x s && memB x.points.toNat x.moves s
theorem gensB_iff {n : Int} {gens : List (List Int)} : gensB n gens = true ↔ (1 ≤ n ∧ n ≤ 20) ∧ gens.length ≤ 8 ∧ ∀ g ∈ gens, PM.PN n.toNat g := by
  unfold gensB
  rw [Bool.and_eq_true, Bool.and_eq_true, inR_iff, decide_eq_true_iff, List.all_eq_true]
  constructor
  · rintro ⟨⟨h1, h2⟩, h3⟩
    refine ⟨h1, h2, fun g hg => ?_⟩
    have h := h3 g hg
    unfold genB at h
    rw [Bool.and_eq_true, decide_eq_true_iff, permB_iff] at h
    exact ⟨by omega, h.2.2⟩
  · rintro ⟨h1, h2, h3⟩
    refine ⟨⟨h1, h2⟩, fun g hg => ?_⟩
    obtain ⟨h4, h5⟩ := h3 g hg
    unfold genB
    rw [Bool.and_eq_true, decide_eq_true_iff, permB_iff]
    exact ⟨by omega, ⟨by omega, by omega⟩, h5⟩
theorem genB_iff {n : Int} {g : List Int} (h0 : 1 ≤ n) (h1 : n ≤ 20) : genB n g = true ↔ PM.PN n.toNat g := by
  unfold genB
  rw [Bool.and_eq_true, decide_eq_true_iff, permB_iff]
  constructor
  · rintro ⟨h2, -, h3⟩; exact ⟨by omega, h3⟩
  · rintro ⟨h2, h3⟩; exact ⟨by omega, ⟨by omega, by omega⟩, h3⟩
theorem validPz_gensB {x : Puzzle} (h : validPz x = true) : gensB x.points x.moves = true := by
  unfold validPz at h
  rw [Bool.and_eq_true] at h
  exact h.1
theorem stateB_pn {x : Puzzle} {s : List Int} (h : stateB x s = true) : (1 ≤ x.points ∧ x.points ≤ 20) ∧ x.moves.length ≤ 8 ∧ (∀ g ∈ x.moves, PM.PN x.points.toNat g) ∧ PM.PN x.points.toNat s := by
  unfold stateB at h
  rw [Bool.and_eq_true] at h
  obtain ⟨a, b, c⟩ := gensB_iff.1 (validPz_gensB h.1)
  exact ⟨a, b, c, (genB_iff a.1 a.2).1 h.2⟩
theorem reachB_state {x : Puzzle} {s : List Int} (h : reachB x s = true) : stateB x s = true := by
  unfold reachB at h
  rw [Bool.and_eq_true] at h; exact h.1
set_option maxHeartbeats 1000000 in
theorem isPermOf_rd (n : Int) (v : Value) (s : List Int) (fp : List Nat) (w : World) (h : Rd w v s fp) :
    Calls Tryz.prog 66 #[.int .i64 n, v] w fun e w' => e = .returned (.bool (genB n s)) ∧ Drew w w' := by
  obtain ⟨a, cap, rfl, hI⟩ := h.ints
  have hb := hI.bound
  by_cases c1 : (s.length : Int) = n
  · have d1 : ((s.length : Int) == n) = true := by simp [c1]
    have hg : genB n s = permB s := by simp [genB, c1]
    have Hg := Lib.hid hg; clear hg c1
    go_enter Tryz.func66, Tryz.ntmps66
    go_wp2_with ((go_at_call 85; (with_reducible refine (specIsPerm_rd _ s fp _ h).mono ?_); rintro e w1 ⟨rfl, t1⟩))
    go_ret
    exact ⟨ret_bool Hg.out.symm, t1⟩
  · have d1 : ((s.length : Int) == n) = false := by simp [c1]
    have hg : genB n s = false := by simp [genB, c1]
    have Hg := Lib.hid hg; clear hg c1
    go_enter Tryz.func66, Tryz.ntmps66
    go_wp2
    go_ret
    exact ⟨ret_bool Hg.out.symm, Drew.refl _⟩
set_option maxHeartbeats 1000000 in
theorem specIsState_any (cs : List Value) (x : Puzzle) (fp : List Nat) (v : Value) (s : List Int) (fs : List Nat) (w : World) (h : Rp.rep w cs x fp) (hs : Rd w v s fs) :
    Calls Tryz.prog 28 #[.agg cs.toArray, v] w fun e w' => e = .returned (.bool (stateB x s)) ∧ Only [] w w' := by
  have h0 := h
  obtain ⟨v2, rfl, p0, p1, h2⟩ := h
  obtain ⟨A2, C2, ob, fps, rfl, -, -⟩ := h2.open_
  rcases hq : validPz x
  all_goals have hf : stateB x s = (validPz x && genB x.points s) := rfl
  all_goals rw [hq] at hf
  all_goals have Hf := Lib.hid hf
  all_goals clear hf
  all_goals go_enter Tryz.func28, Tryz.ntmps28
  all_goals go_wp2_with (first | (go_at_call 20; (with_reducible refine (specIsValidPuzzle_any [.int .i64 x.points, .string x.names, .slice A2 x.moves.length C2] x _ _ (Rp.keep h0 (by with_reducible repeat (first | exact Only.refl _ _ | assumption | refine Only.drewN ?_ _ | refine Only.drew ?_ | refine Only.alloc ?_ _ | refine Only.setCell ?_ (by intro hh; exfalso; simp at hh; try omega) _ | refine Only.trans ?_ (by assumption))))).mono ?_); rintro e w1 ⟨rfl, t1⟩; have y1 := t1.cells_eq w.heap.size (by simp) (by simp)) | (go_at_call 66; (with_reducible refine (isPermOf_rd x.points _ s _ _ (Rp.keep hs (by with_reducible repeat (first | exact Only.refl _ _ | assumption | refine Only.drewN ?_ _ | refine Only.drew ?_ | refine Only.alloc ?_ _ | refine Only.setCell ?_ (by intro hh; exfalso; simp at hh; try omega) _ | refine Only.trans ?_ (by assumption))))).mono ?_); rintro e w2 ⟨rfl, d2⟩; have t2 := d2.only []) | fail "no arm")
  all_goals go_ret
  all_goals exact ⟨ret_bool Hf.out.symm, (by with_reducible repeat (first | exact Only.refl _ _ | assumption | refine Only.drewN ?_ _ | refine Only.drew ?_ | refine Only.alloc ?_ _ | refine Only.setCell ?_ (by intro hh; exfalso; simp at hh; try omega) _ | refine Only.trans ?_ (by assumption)))⟩


end Go.Proofs.YtpkplmnpepkdaaaGreat

namespace Go.Proofs.YtpkplmnpepkdaaaGreat
open Go.RowKit
set_option maxRecDepth 10000

theorem Only.own1 {w W0 w' : World} {g : Nat} (h0 : Only [] w W0) (h : Only [g] W0 w') (hg : w.heap.size ≤ g) : Only [] w w' :=
  h0.then_ h (fun b hb hl => by simp at hb; omega)



end Go.Proofs.YtpkplmnpepkdaaaGreat

namespace Go.Proofs.YtpkplmnpepkdaaaGreat
open Go.RowKit
set_option maxRecDepth 10000
section
variable {α : Type} [Rp α] {w w' : World} {a : Option Addr} {cap : Nat} {xs : List α} {ob : List Nat} {fps : List (List Nat)}
end
/-- a part of own memory gives way to another one -/
theorem Fresh.repl {B : Nat} {w w' : World} {pre mid mid' post fpw : List Nat} (h : Fresh B w (pre ++ (mid ++ post))) (ho : Only fpw w w') (hf : ∀ b ∈ fpw, b ∈ mid) (F' : Fresh B w' mid') (hs : ∀ b ∈ mid', b ∈ mid ∨ w.heap.size ≤ b) : Fresh B w' (pre ++ (mid' ++ post)) := by
  obtain ⟨n1, n2, n3⟩ := List.nodup_append.1 h.nd
  obtain ⟨n4, n5, n6⟩ := List.nodup_append.1 n2
  have lpre : ∀ b ∈ pre, b < w.heap.size := fun b hb => h.lt b (List.mem_append_left _ hb)
  have lpost : ∀ b ∈ post, b < w.heap.size := fun b hb => h.lt b (List.mem_append_right _ (List.mem_append_right _ hb))
  have dpre : ∀ b ∈ pre, b ∉ mid := fun b hb hm => n3 b hb b (List.mem_append_left _ hm) rfl
  have dpost : ∀ b ∈ post, b ∉ mid := fun b hb hm => n6 b hm b hb rfl
  have dpre' : ∀ b ∈ pre, b ∉ mid' := fun b hb hm => by
    rcases hs b hm with h1 | h1
    · exact dpre b hb h1
    · have := lpre b hb; omega
  have dpost' : ∀ b ∈ post, b ∉ mid' := fun b hb hm => by
    rcases hs b hm with h1 | h1
    · exact dpost b hb h1
    · have := lpost b hb; omega
  refine ⟨List.nodup_append.2 ⟨n1, List.nodup_append.2 ⟨F'.nd, n5, fun a ha b hb e => ?_⟩, fun a ha b hb e => ?_⟩, fun b hb => ?_, ?_⟩
  · subst e; exact dpost' a hb ha
  · subst e
    rcases List.mem_append.1 hb with hb | hb
    · exact dpre' a ha hb
    · exact n3 a ha a (List.mem_append_right _ hb) rfl
  · rcases List.mem_append.1 hb with hb | hb
    · exact h.ge b (List.mem_append_left _ hb)
    · rcases List.mem_append.1 hb with hb | hb
      · exact F'.ge b hb
      · exact h.ge b (List.mem_append_right _ (List.mem_append_right _ hb))
  · exact (h.left.own.only ho fun b hb hm => dpre b hb (hf b hm)).append (F'.own.append (h.right.right.own.only ho fun b hb hm => dpost b hb (hf b hm)))
end Go.Proofs.YtpkplmnpepkdaaaGreat

namespace Go.Proofs.YtpkplmnpepkdaaaGreat
open Go.RowKit
set_option maxRecDepth 10000
section
variable {B : Nat} {e : TypeId} {w : World} {v : Value} {l : List (List Int)} {fs : List (List Nat)}
end
section
variable {B : Nat} {w w' : World} {a b c d m' fpw : List Nat}
theorem Fresh.at3 (h : Fresh B w (a ++ (b ++ (c ++ d)))) (ho : Only fpw w w') (hf : ∀ x ∈ fpw, x ∈ c) (F' : Fresh B w' m') (hs : ∀ x ∈ m', x ∈ c ∨ w.heap.size ≤ x) : Fresh B w' (a ++ (b ++ (m' ++ d))) := by
  have := Fresh.repl (pre := a ++ b) (mid := c) (post := d) (by simpa [List.append_assoc] using h) ho hf F' hs
  simpa [List.append_assoc] using this
theorem Fresh.at4 (h : Fresh B w (a ++ (b ++ (c ++ d)))) (ho : Only fpw w w') (hf : ∀ x ∈ fpw, x ∈ d) (F' : Fresh B w' m') (hs : ∀ x ∈ m', x ∈ d ∨ w.heap.size ≤ x) : Fresh B w' (a ++ (b ++ (c ++ m'))) := by
  have := Fresh.repl (pre := a ++ (b ++ c)) (mid := d) (post := []) (by simpa [List.append_assoc] using h) ho hf F' hs
  simpa [List.append_assoc] using this
theorem Fresh.parts (h : Fresh B w (a ++ (b ++ (c ++ d)))) : (∀ x ∈ a, x ∉ c ∧ x ∉ d) ∧ (∀ x ∈ b, x ∉ c ∧ x ∉ d) ∧ (∀ x ∈ c, x ∉ d) := by
  have n1 := List.nodup_append.1 h.nd
  have n2 := List.nodup_append.1 n1.2.1
  have n3 := List.nodup_append.1 n2.2.1
  refine ⟨fun x hx => ⟨fun hm => n1.2.2 x hx x (by simp [hm]) rfl, fun hm => n1.2.2 x hx x (by simp [hm]) rfl⟩, fun x hx => ⟨fun hm => n2.2.2 x hx x (by simp [hm]) rfl, fun hm => n2.2.2 x hx x (by simp [hm]) rfl⟩, fun x hx hm => n3.2.2 x hx x hm rfl⟩
end

end Go.Proofs.YtpkplmnpepkdaaaGreat

namespace Go.Proofs.YtpkplmnpepkdaaaGreat
open Go.RowKit
set_option maxRecDepth 10000

/-- copy(d, s) inside one own row, as a step of a region that draws -/
theorem step_copy_row {P : Program} {ops : Array Oper} {o : Oper} {a : Act} {w : World} {K : Act → World → Prop} {Q : Exit → Act → World → Prop} {E : Prop} (hgd : o.guard = none) (d s : Operand) (dT sT : TypeId)
    (ho : o.op = .call { callee := .builtin .copy, args := #[d, s], argTypes := #[dT, sT] }) (elem : TypeId) (hu : P.underlying dT = some (.slice elem)) (hsz : (P.info? elem).map (·.size) = some 1)
    (dp sp : Option Addr) (dLen dCap sLen sCap : Nat) (hd : a.eval d = .slice dp dLen dCap) (hs : a.eval s = .slice sp sLen sCap)
    (g off : Nat) (cur : List Value) (t : TypeId) (hg : w.heap[g]? = some (.cells cur.toArray t (0, 0))) (cs : List Value) (hn : cs.length = Nat.min sLen dLen)
    (hpos : 0 < cs.length → dp = some ⟨g, off, none⟩ ∧ ∃ ad, sp = some ad ∧ ∀ j v, cs[j]? = some v → w.cell? (ad.add j) = some v)
    (hfit : off + cs.length ≤ cur.length) (h1 : ∀ v ∈ cs, v.oneCell' = true)
    (h : ∀ w', w'.heap[g]? = some (.cells (splice cur off cs).toArray t (0, 0)) → Only [g] w w' → K (a.put o.dst (goInt cs.length)) w') :
    if Region.wanted o (yielded ops a.tmps) = true then Oper.wp P o a w K Q else E := by
  have hw : Region.wanted o (yielded ops a.tmps) = true := by simp [Region.wanted, hgd]
  rw [if_pos hw]
  by_cases h0 : cs.length = 0
  · obtain rfl : cs = [] := List.eq_nil_of_length_eq_zero h0
    have hrun := run_copy_none (P := P) w dT sT o.type elem dp sp dLen dCap sLen sCap hu hsz (by simpa using hn.symm)
    unfold Oper.wp
    simp [execOp, ho, resolve, invoke, builtin, hd, hs, hrun, Result.andThen]
    exact h w (by simpa [splice] using hg) (Only.refl _ _)
  · obtain ⟨rfl, ad, rfl, hsrc⟩ := hpos (by omega)
    have hrun := run_copy_row (P := P) w dT sT o.type elem g off dLen dCap ad sLen sCap cur.toArray t cs hu hsz hg hn hsrc (by simpa using hfit) h1
    unfold Oper.wp
    simp [execOp, ho, resolve, invoke, builtin, hd, hs, hrun, Result.andThen]
    refine h _ (by simpa [splice] using setRow_heap w g _ _ t _ hg) ⟨rfl, rfl, rfl, by simp [World.setRow], fun k _ hk => setRow_other w g k _ (fun e => hk (by simp [e]))⟩
theorem splice_take {α : Type} (l : List α) (off n : Nat) (cs : List α) (h : off + cs.length ≤ n) (hl : n ≤ l.length) : (splice l off cs).take n = splice (l.take n) off cs := by
  unfold splice
  apply List.ext_getElem?
  intro i
  by_cases h1 : i < off
  · rw [List.getElem?_take_of_lt (by omega), List.getElem?_append_left (by simp; omega), List.getElem?_append_left (by simp; omega), List.getElem?_take_of_lt h1, List.getElem?_take_of_lt h1, List.getElem?_take_of_lt (by omega)]
  · have e1 : (l.take off).length = off := by simp; omega
    have e2 : ((l.take n).take off).length = off := by simp; omega
    by_cases h2 : i < n
    · rw [List.getElem?_take_of_lt h2, List.getElem?_append_right (l₁ := l.take off) (by omega), List.getElem?_append_right (l₁ := (l.take n).take off) (by omega), e1, e2]
      by_cases h3 : i - off < cs.length
      · rw [List.getElem?_append_left h3, List.getElem?_append_left h3]
      · rw [List.getElem?_append_right (l₁ := cs) (by omega), List.getElem?_append_right (l₁ := cs) (by omega), List.getElem?_drop, List.getElem?_drop, List.getElem?_take_of_lt (by omega)]
    · rw [List.getElem?_eq_none (by simp; omega), List.getElem?_eq_none (by simp; omega)]
theorem ownsRow_splice {w w' : World} {B : Nat} {e : TypeId} {g n c : Nat} {xs cur : List Value} (hO : w.ownsRow B e 1 (.slice (some ⟨g, 0, none⟩) n c) n xs) (hg : w.heap[g]? = some (.cells cur.toArray e (0, 0)))
    {off : Nat} {cs : List Value} (hf : off + cs.length ≤ n) (hg' : w'.heap[g]? = some (.cells (splice cur off cs).toArray e (0, 0))) : w'.ownsRow B e 1 (.slice (some ⟨g, 0, none⟩) n c) n (splice xs off cs) := by
  rcases hO.2 with ⟨h0, -⟩ | ⟨g2, c2, cur2, hv, hb, hg2, h1, h2, h3, h4⟩
  · cases h0
  · injection hv with hv _ hc; injection hv with hv; injection hv with hv _ _
    subst hv; subst hc
    rw [hg2] at hg; injection hg with hg; injection hg with hg _ _; subst hg
    have hcl : cur.length = c := by simpa using h3
    have hx := hO.1
    simp only [Nat.mul_one] at hx h4
    refine ⟨by rw [length_splice _ _ _ (by omega)]; omega, .inr ⟨g, c, _, rfl, hb, hg', h1, h2, ?_, ?_⟩⟩
    · simp only [List.size_toArray, Nat.mul_one]
      rw [length_splice _ _ _ (by omega), hcl]
    · simp only [Nat.mul_one]
      rw [splice_take _ _ _ _ hf (by omega)]
      rw [← h4]
theorem ins_list {α : Type} (l : List α) (z x : α) (k : Nat) (hk : k ≤ l.length) : (splice (l ++ [z]) (k + 1) (l.drop k)).set k x = l.take k ++ x :: l.drop k := by
  have hl : (splice (l ++ [z]) (k + 1) (l.drop k)).length = l.length + 1 := by rw [length_splice _ _ _ (by simp; omega)]; simp
  apply List.ext_getElem?
  intro i
  have e1 : ((l ++ [z]).take (k + 1)).length = k + 1 := by simp; omega
  have e2 : (l.take k).length = k := by simp; omega
  by_cases h1 : i < k
  · rw [List.getElem?_set_ne (by omega)]
    unfold splice
    rw [List.getElem?_append_left (by omega), List.getElem?_append_left (by omega), List.getElem?_take_of_lt (by omega), List.getElem?_take_of_lt h1, List.getElem?_append_left (by omega)]
  · by_cases h2 : i = k
    · subst h2
      rw [List.getElem?_set_self (by omega), List.getElem?_append_right (by omega), e2, Nat.sub_self]; rfl
    · rw [List.getElem?_set_ne (by omega)]
      unfold splice
      rw [List.getElem?_append_right (l₁ := (l ++ [z]).take (k + 1)) (by omega), List.getElem?_append_right (l₁ := l.take k) (by omega), e1, e2, show i - k = (i - (k + 1)) + 1 by omega, List.getElem?_cons_succ]
      by_cases h3 : i - (k + 1) < (l.drop k).length
      · rw [List.getElem?_append_left h3]
      · rw [List.getElem?_append_right (by omega), List.getElem?_drop, List.getElem?_eq_none (by simp at h3 ⊢; omega), List.getElem?_eq_none (by omega)]
/-- a search of the call's own; f: memory that waits to be taken in -/
structure SrO (B : Nat) (w : World) (v1 v2 v3 : Value) (L : List (List Int)) (D si : List Int) (fs : List (List Nat)) (f : List Nat) : Prop where
  acc : Acc B 27 w v1 L fs
  dep : w.ownsRow B 2 1 v2 D.length (D.map (Value.int .i64))
  srt : w.ownsRow B 3 1 v3 si.length (si.map (Value.int .i64))
  fr : Fresh B w (v1.ownBlock.toList ++ ((fs.flatten ++ f) ++ (v2.ownBlock.toList ++ v3.ownBlock.toList)))
section
variable {B : Nat} {w w' : World} {v1 v2 v3 v1' v2' v3' : Value} {L : List (List Int)} {D si D' si' : List Int} {fs : List (List Nat)} {f fp : List Nat}
theorem SrO.only (h : SrO B w v1 v2 v3 L D si fs f) (ho : Only fp w w') (hd : ∀ b ∈ v1.ownBlock.toList ++ ((fs.flatten ++ f) ++ (v2.ownBlock.toList ++ v3.ownBlock.toList)), b ∉ fp) : SrO B w' v1 v2 v3 L D si fs f :=
  ⟨h.acc.only ho (fun b hb => hd b (by simp [hb])) (fun g hg => hd g (by simp [hg])), owns_only h.dep ho (fun g hg => hd g (by simp [hg])), owns_only h.srt ho (fun g hg => hd g (by simp [hg])), h.fr.only ho hd⟩
theorem SrO.keep (h : SrO B w v1 v2 v3 L D si fs f) (ho : Only [] w w') : SrO B w' v1 v2 v3 L D si fs f := h.only ho (by simp)
theorem SrO.set3 (h : SrO B w v1 v2 v3 L D si fs f) (ho : Only v3.ownBlock.toList w w') (hO : w'.ownsRow B 3 1 v3' si'.length (si'.map (Value.int .i64))) (hb : ∀ x ∈ v3'.ownBlock.toList, x ∈ v3.ownBlock.toList ∨ w.heap.size ≤ x) : SrO B w' v1 v2 v3' L D si' fs f := by
  obtain ⟨p1, p2, p3⟩ := h.fr.parts
  exact ⟨h.acc.only ho (fun b hb => (p2 b (by simp [hb])).2) (fun g hg => (p1 g (by simp [hg])).2), owns_only h.dep ho (fun g hg => p3 g (by simp [hg])), hO, h.fr.at4 ho (fun _ hx => hx) (own_fresh hO) hb⟩
theorem SrO.set2 (h : SrO B w v1 v2 v3 L D si fs f) (ho : Only v2.ownBlock.toList w w') (hO : w'.ownsRow B 2 1 v2' D'.length (D'.map (Value.int .i64))) (hb : ∀ x ∈ v2'.ownBlock.toList, x ∈ v2.ownBlock.toList ∨ w.heap.size ≤ x) : SrO B w' v1 v2' v3 L D' si fs f := by
  obtain ⟨p1, p2, p3⟩ := h.fr.parts
  exact ⟨h.acc.only ho (fun b hb => (p2 b (by simp [hb])).1) (fun g hg => (p1 g (by simp [hg])).1), hO, owns_only h.srt ho (fun g hg hm => p3 g hm (by simp [hg])), h.fr.at3 ho (fun _ hx => hx) (own_fresh hO) hb⟩
theorem SrO.set1 {s : List Int} (h : SrO B w v1 v2 v3 L D si fs f) (ho : Only v1.ownBlock.toList w w') (hA : Acc B 27 w' v1' (L ++ [s]) (fs ++ [f])) (hb : ∀ x ∈ v1'.ownBlock.toList, x ∈ v1.ownBlock.toList ∨ w.heap.size ≤ x) : SrO B w' v1' v2 v3 (L ++ [s]) D si (fs ++ [f]) [] := by
  obtain ⟨n1, n2, n3⟩ := List.nodup_append.1 h.fr.nd
  refine ⟨hA, owns_only h.dep ho (fun g hg hm => n3 g hm g (by simp [hg]) rfl), owns_only h.srt ho (fun g hg hm => n3 g hm g (by simp [hg]) rfl), ?_⟩
  obtain ⟨css, hown, -, -⟩ := hA.own
  have := Fresh.repl (pre := []) (mid := v1.ownBlock.toList) (mid' := v1'.ownBlock.toList) (post := (fs.flatten ++ f) ++ (v2.ownBlock.toList ++ v3.ownBlock.toList)) h.fr ho (fun _ hx => hx) (own_fresh hown) hb
  simpa using this
theorem SrO.lt (h : SrO B w v1 v2 v3 L D si fs f) : ∀ b ∈ v1.ownBlock.toList ++ ((fs.flatten ++ f) ++ (v2.ownBlock.toList ++ v3.ownBlock.toList)), B ≤ b ∧ b < w.heap.size := fun b hb => ⟨h.fr.ge b hb, h.fr.lt b hb⟩
end
end Go.Proofs.YtpkplmnpepkdaaaGreat
