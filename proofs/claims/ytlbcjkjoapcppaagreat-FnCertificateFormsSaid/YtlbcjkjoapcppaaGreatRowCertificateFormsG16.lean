/- The smallest optimal word of a state, in plain words (laws 20, 38). Maps from strings to int64 that a call makes. (Printed by mkmapi.py out of XMap.) A family of memory parts of a call's own: all apart from each other; what a write to one of them leaves of the others. A region whose order is drawn, by an invariant: what holds whatever has come up so far. The program's search of all states (laws 20, 38). The program's search of all states: its memory under way (laws 20, 38). (Printed by mkxe.py.) The states that the letters lead to: the program's neighbors (laws 20, 38). The search of all states, step by step towards its end (laws 20, 38). The program's search of all states: the walk (laws 20, 38). What the program reads in the exploration of a puzzle: an entry, the way down (laws 20, 38). The program's smallest optimal word (law 38). The reference's search of all states (laws 20, 38). -/
import Derived.Test.YtlbcjkjoapcppaaGreatRowCertificateFormsG11
import Derived.Test.YtlbcjkjoapcppaaGreatRowCertificateFormsG10
import Derived.Test.YtlbcjkjoapcppaaGreatRowCertificateFormsG4
import Derived.Test.YtlbcjkjoapcppaaGreatRowCertificateFormsG1
import Derived.Orders
import Derived.RegionTactic
import Derived.Deep.RegionHeld
import Derived.Deep.DeepCutAuto
import Derived.Deep.RegionLaw
import Derived.Test.YtlbcjkjoapcppaaGreatRowCertificateFormsG3
import Derived.Test.YtlbcjkjoapcppaaGreatRowCertificateFormsG9
import Derived.Deep.RegionHeld3
namespace Go.Proofs.YtlbcjkjoapcppaaGreat
open Go.RowKit
set_option maxRecDepth 10000

/-- n letters, each the first that leads closer -/
def oW (x : Puzzle) (t : Table) : Nat → List Int → List Int
  | 0, _ => []
  | n + 1, p => descL x t p n :: oW x t n (nxt x p (descL x t p n))
theorem oW_len (x : Puzzle) (t : Table) : ∀ (n : Nat) (p : List Int), (oW x t n p).length = n
  | 0, _ => rfl
  | n + 1, p => by unfold oW; rw [List.length_cons, oW_len x t n]
/-- one letter of the way down -/
structure Down (x : Puzzle) (t : Table) (i : Nat) (n : Nat) (k : Nat) (j : Nat) : Prop where
  hk : k < (ltrs x.moves.length).length
  l : descL x t (t.patterns.getD i []) n = (ltrs x.moves.length)[k]
  hj : j < t.patterns.length
  nx : t.patterns.getD j [] = nxt x (t.patterns.getD i []) (ltrs x.moves.length)[k]
  ds : t.distances.getD j 0 = n
  no : ∀ m (hm : m < k), ∀ i', i' < t.patterns.length → t.patterns.getD i' [] = nxt x (t.patterns.getD i []) ((ltrs x.moves.length)[m]'(Nat.lt_trans hm hk)) → t.distances.getD i' 0 ≠ n ∧ ¬ t.distances.getD i' 0 < (n : Int) + 1
section
variable {x : Puzzle} {t : Table}
theorem Built.mem_of (_ : Built x t) {i : Nat} (hi : i < t.patterns.length) : t.patterns.getD i [] ∈ t.patterns := by rw [getD_get hi]; exact List.getElem_mem hi
theorem Built.down (h : Built x t) {i : Nat} (hi : i < t.patterns.length) {n : Nat} (hd : t.distances.getD i 0 = (n : Int) + 1) : ∃ k j, Down x t i n k j := by
  have hg := ent_nil.1 (h.good i hi)
  have hda : atD t i - 1 = (n : Int) := by rw [atD_nat, hd]; omega
  have hne : descL x t (t.patterns.getD i []) (atD t i - 1) ≠ 0 := hg.2.2.2.2 (by rw [atD_nat, hd]; omega)
  rw [hda] at hne
  rcases @descL_of_dK x t (t.patterns.getD i []) n with ⟨-, h1⟩ | ⟨k, hk, h1, h2⟩
  · exact absurd h1 hne
  · obtain ⟨-, hlead⟩ := descL_leads hne
    obtain ⟨a1, a2⟩ := leads_iffD.1 hlead
    rw [h2] at a1 a2
    have hlt := (idxL_lt (l := t.patterns) (p := nxt x (t.patterns.getD i []) (ltrs x.moves.length)[k])).2
    obtain ⟨j, hj⟩ : ∃ j : Nat, nextI x t (t.patterns.getD i []) (ltrs x.moves.length)[k] = j := ⟨_, (Int.toNat_of_nonneg a1).symm⟩
    have hjl : j < t.patterns.length := by unfold nextI at hj; omega
    have hn := idxL_getD a1
    unfold nextI at hj
    rw [hj, Int.toNat_natCast] at hn
    refine ⟨k, j, hk, h2, hjl, hn, ?_, ?_⟩
    · unfold nextI at a2; rw [hj, atD_nat] at a2; exact a2
    · intro m hm i' hi' e
      have hml : (ltrs x.moves.length)[m]'(Nat.lt_trans hm hk) ∈ ltrs x.moves.length := List.getElem_mem _
      have hne2 : t.distances.getD i' 0 ≠ n := by
        intro e2
        have hl : leads x t (t.patterns.getD i []) n ((ltrs x.moves.length)[m]'(Nat.lt_trans hm hk)) = true := by
          rw [leads_iffD]
          unfold nextI
          rw [← e, h.idx hi', atD_nat]
          exact ⟨by omega, e2⟩
        have hno : ∀ q ∈ (ltrs x.moves.length).take k, leads x t (t.patterns.getD i []) n q = false := by
          have hf : dK x t (t.patterns.getD i []) n = k := h1
          unfold dK idxF at hf
          cases hq : (ltrs x.moves.length).findIdx? (leads x t (t.patterns.getD i []) n) with
          | none => rw [hq] at hf; simp at hf
          | some k' =>
            rw [hq] at hf
            have hf2 : (k' : Int) = k := hf
            have : k' = k := by omega
            subst this
            obtain ⟨_, _, hall⟩ := List.findIdx?_eq_some_iff_getElem.1 hq
            intro q hqm
            rw [List.mem_take_iff_getElem] at hqm
            obtain ⟨m', hm', rfl⟩ := hqm
            simpa using hall m' (by omega)
        have := hno _ (List.mem_take_iff_getElem.2 ⟨m, by omega, rfl⟩)
        rw [hl] at this; cases this
      refine ⟨hne2, fun hlt2 => hne2 ?_⟩
      obtain ⟨i2, b1, b2, b3, b4⟩ := h.step hi hml
      have : i2 = i' := by
        have e3 := b2.trans e.symm
        rw [getD_get b1, getD_get hi'] at e3
        have hnd : t.patterns.Nodup := h.bi.nd
        exact nodup_at hnd b1 hi' e3
      subst this
      omega
theorem Down.oW_ {i n k j : Nat} (h : Down x t i n k j) : oW x t (n + 1) (t.patterns.getD i []) = (ltrs x.moves.length)[k]'h.hk :: oW x t n (t.patterns.getD j []) := by
  show descL x t (t.patterns.getD i []) n :: oW x t n (nxt x (t.patterns.getD i []) (descL x t (t.patterns.getD i []) n)) = _
  rw [h.l, h.nx]
end
theorem expl_pat {x : Puzzle} {t : Table} (he : expl x = some t) {i : Nat} (hi : i < t.patterns.length) : patB x.points x.points.toNat (t.patterns.getD i []) = true := by
  obtain ⟨hb, ht⟩ := expl_built he
  have := hb.bi.pat (t.patterns.getD i []) (hb.mem_of hi)
  rwa [ht, PM.pts_len] at this
theorem expl_len1 {x : Puzzle} {t : Table} (he : expl x = some t) {i : Nat} (hi : i < t.patterns.length) : (t.patterns.getD i []).length = x.points.toNat := (patB_iff.1 (expl_pat he hi)).1
/-- the smallest optimal word, if it is not too long -/
noncomputable def optX (x : Puzzle) (s : List Int) : Option (List Int) := if 0 ≤ distX x s ∧ distX x s ≤ 200 then some (oW x ((expl x).getD noTab) (distX x s).toNat s) else none
theorem optX_no {x : Puzzle} {s : List Int} (h : ¬ (0 ≤ distX x s ∧ distX x s ≤ 200)) : optX x s = none := by unfold optX; rw [if_neg h]
theorem optX_yes {x : Puzzle} {s : List Int} {t : Table} (ht : expl x = some t) (h : 0 ≤ distX x s ∧ distX x s ≤ 200) : optX x s = some (oW x t (distX x s).toNat s) := by unfold optX; rw [if_pos h, ht]; rfl
theorem optX_len {x : Puzzle} {s w : List Int} (h : optX x s = some w) : (w.length : Int) = distX x s ∧ w.length ≤ 200 := by
  unfold optX at h
  split at h
  · rename_i hc
    injection h with h
    subst h
    rw [oW_len]
    omega
  · cases h
end Go.Proofs.YtlbcjkjoapcppaaGreat

namespace Go.Proofs.YtlbcjkjoapcppaaGreat
open Go.RowKit
set_option maxRecDepth 10000
open Go.Maps (Keyed)
/-- block M is a map of at most k entries; g: what lies at a key -/
def Mq (w : World) (M k : Nat) (g : ByteArray → Option Int) : Prop :=
  ∃ D : DataW Unit, w.ownsMap Tryz.prog 9 (plainElem Tryz.prog 2) M k D ∧ ∀ s : ByteArray, s.size ≤ maxLen →
    Go.Maps.has D (.string s.data.toList) = (g s).isSome ∧ ∀ n, g s = some n → D.atKey (.string s.data.toList) (.lit (.int .i64 0)) = .lit (.int .i64 n)
theorem Mq.lt {w : World} {M k : Nat} {g : ByteArray → Option Int} (h : Mq w M k g) : M < w.heap.size := by
  obtain ⟨D, h1, -⟩ := h; exact h1.lt
theorem Mq.frame {w w' : World} {M k : Nat} {g : ByteArray → Option Int} (h : Mq w M k g) (hf : w'.heap[M]? = w.heap[M]?) : Mq w' M k g := by
  obtain ⟨D, ⟨es, c, h1, h2⟩, h3⟩ := h
  exact ⟨D, ⟨es, c, by rw [hf]; exact h1, h2⟩, h3⟩
theorem Mq.only {w w' : World} {fp : List Nat} {M k : Nat} {g : ByteArray → Option Int} (h : Mq w M k g) (ho : Only fp w w') (hn : M ∉ fp) : Mq w' M k g := h.frame (ho.block M h.lt hn)
theorem Mq.keep {w w' : World} {M k : Nat} {g : ByteArray → Option Int} (h : Mq w M k g) (ho : Only [] w w') : Mq w' M k g := h.only ho (by simp)
theorem Mq.made (w : World) {M : Nat} (hM : M = w.heap.size) : Mq (w.alloc (.map #[] 0)) M 0 (fun _ => none) := by
  subst hM
  exact ⟨.map [], World.ownsMap_made _ _ _ _, fun s _ => ⟨rfl, by simp⟩⟩
theorem Mq.congr {w : World} {M k : Nat} {g g' : ByteArray → Option Int} (h : Mq w M k g) (hg : ∀ s, g s = g' s) : Mq w M k g' := by
  have : g = g' := funext hg
  rw [← this]; exact h
section
variable {w : World} {M k : Nat} {g : ByteArray → Option Int}
end
theorem Mq.mono {w : World} {M k k' : Nat} {g : ByteArray → Option Int} (h : Mq w M k g) (hk : k ≤ k') : Mq w M k' g := by
  obtain ⟨D, h1, h2⟩ := h
  exact ⟨D, h1.mono hk, h2⟩
/-- a map as a value in memory: its entries -/
structure KM where
  g : ByteArray → Option Int
instance : Rp KM where
  size := 1
  rep w cs x fp := ∃ M k, cs = [.map (some M)] ∧ fp = [M] ∧ Mq w M k x.g
  len h := by obtain ⟨_, _, rfl, _⟩ := h; rfl
  frame h hf := by
    obtain ⟨M, k, h1, h2, h3⟩ := h
    subst h2
    exact ⟨M, k, h1, rfl, h3.frame (hf M (by simp))⟩
  lt h := by
    obtain ⟨M, k, h1, h2, h3⟩ := h
    subst h2
    intro b hb
    simp at hb; subst hb; exact h3.lt

end Go.Proofs.YtlbcjkjoapcppaaGreat

namespace Go.Proofs.YtlbcjkjoapcppaaGreat
open Go.RowKit
set_option maxRecDepth 10000

/-- parts of memory, all from B on, all apart -/
structure Fam (B : Nat) (w : World) (cs : List (List Nat)) : Prop where
  nd : cs.flatten.Nodup
  rng : ∀ c ∈ cs, ∀ b ∈ c, B ≤ b ∧ b < w.heap.size
theorem Fam.keep {B : Nat} {w w' : World} {cs : List (List Nat)} (h : Fam B w cs) (hs : w.heap.size ≤ w'.heap.size) : Fam B w' cs := ⟨h.nd, fun c hc b hb => by have := h.rng c hc b hb; omega⟩
theorem Fam.ge {B : Nat} {w : World} {cs : List (List Nat)} (h : Fam B w cs) (i : Nat) {c : List Nat} (hi : cs[i]? = some c) {b : Nat} (hb : b ∈ c) : B ≤ b := (h.rng c (List.mem_of_getElem? hi) b hb).1
theorem Fam.lt {B : Nat} {w : World} {cs : List (List Nat)} (h : Fam B w cs) (i : Nat) {c : List Nat} (hi : cs[i]? = some c) {b : Nat} (hb : b ∈ c) : b < w.heap.size := (h.rng c (List.mem_of_getElem? hi) b hb).2
theorem flat_disj : ∀ {cs : List (List Nat)}, cs.flatten.Nodup → ∀ {i j : Nat} {c d : List Nat}, i < j → cs[i]? = some c → cs[j]? = some d → ∀ b ∈ c, b ∉ d
  | [], _, i, j, c, d, _, hi, _ => by simp at hi
  | a :: cs, hn, 0, j, c, d, hij, hi, hj => by
    rw [List.flatten_cons, List.nodup_append] at hn
    simp at hi; subst hi
    intro b hb hm
    obtain ⟨k, rfl⟩ : ∃ k, j = k + 1 := ⟨j - 1, by omega⟩
    rw [List.getElem?_cons_succ] at hj
    exact hn.2.2 b hb b (List.mem_flatten.2 ⟨d, List.mem_of_getElem? hj, hm⟩) rfl
  | a :: cs, hn, i + 1, j, c, d, hij, hi, hj => by
    rw [List.flatten_cons, List.nodup_append] at hn
    obtain ⟨k, rfl⟩ : ∃ k, j = k + 1 := ⟨j - 1, by omega⟩
    rw [List.getElem?_cons_succ] at hi hj
    exact flat_disj hn.2.1 (by omega) hi hj
theorem Fam.disj {B : Nat} {w : World} {cs : List (List Nat)} (h : Fam B w cs) (i j : Nat) (hij : i ≠ j) {c d : List Nat} (hi : cs[i]? = some c) (hj : cs[j]? = some d) : ∀ b ∈ c, b ∉ d := by
  intro b hb hm
  rcases Nat.lt_or_gt_of_ne hij with h1 | h1
  · exact flat_disj h.nd h1 hi hj b hb hm
  · exact flat_disj h.nd h1 hj hi b hm hb
theorem flat_set : ∀ {cs : List (List Nat)} {i : Nat} {c : List Nat}, cs.flatten.Nodup → c.Nodup → (∀ b ∈ c, b ∉ (cs.set i []).flatten) → i < cs.length → (cs.set i c).flatten.Nodup
  | [], i, c, _, _, _, hi => by simp at hi
  | a :: cs, 0, c, hn, hc, hd, _ => by
    rw [List.flatten_cons, List.nodup_append] at hn
    rw [List.set_cons_zero, List.flatten_cons, List.nodup_append]
    refine ⟨hc, hn.2.1, fun x hx y hy e => ?_⟩
    subst e
    exact hd x hx (by rw [List.set_cons_zero, List.flatten_cons]; exact List.mem_append_right _ hy)
  | a :: cs, i + 1, c, hn, hc, hd, hi => by
    rw [List.flatten_cons, List.nodup_append] at hn
    rw [List.set_cons_succ, List.flatten_cons, List.nodup_append]
    have hd' : ∀ b ∈ c, b ∉ (cs.set i []).flatten := fun b hb hm => hd b hb (by rw [List.set_cons_succ, List.flatten_cons]; exact List.mem_append_right _ hm)
    refine ⟨hn.1, flat_set hn.2.1 hc hd' (by simpa using hi), fun x hx y hy e => ?_⟩
    subst e
    obtain ⟨d, hdm, hxd⟩ := List.mem_flatten.1 hy
    rcases List.mem_or_eq_of_mem_set hdm with h1 | rfl
    · exact hn.2.2 x hx x (List.mem_flatten.2 ⟨d, h1, hxd⟩) rfl
    · exact hd x hxd (by rw [List.set_cons_succ, List.flatten_cons]; exact List.mem_append_left _ hx)
/-- one part anew: what it was, or new memory -/
theorem Fam.set {B : Nat} {w w' : World} {cs : List (List Nat)} (h : Fam B w cs) (hs : w.heap.size ≤ w'.heap.size) (hB : B ≤ w.heap.size) (i : Nat) {c : List Nat} (hi : cs[i]? = some c) {c' : List Nat} (hn : c'.Nodup) (hc : ∀ b ∈ c', b ∈ c ∨ (w.heap.size ≤ b ∧ b < w'.heap.size)) : Fam B w' (cs.set i c') := by
  have hil : i < cs.length := (List.getElem?_eq_some_iff.1 hi).1
  refine ⟨flat_set h.nd hn (fun b hb hm => ?_) hil, fun d hd b hb => ?_⟩
  · obtain ⟨d, hdm, hbd⟩ := List.mem_flatten.1 hm
    obtain ⟨j, hj⟩ := List.getElem?_of_mem hdm
    have hjl : j < cs.length := by have := (List.getElem?_eq_some_iff.1 hj).1; simpa using this
    by_cases hij : i = j
    · subst hij
      rw [List.getElem?_set_self hil] at hj
      injection hj with hj; subst hj; cases hbd
    · rw [List.getElem?_set_ne hij] at hj
      rcases hc b hb with h1 | h1
      · exact h.disj i j hij hi hj b h1 hbd
      · have := h.lt j hj hbd; omega
  · rcases List.mem_or_eq_of_mem_set hd with h1 | rfl
    · have := h.rng d h1 b hb; omega
    · rcases hc b hb with h1 | h1
      · have := h.rng c (List.mem_of_getElem? hi) b h1; omega
      · omega
theorem Fam.cons {B : Nat} {w w' : World} {cs : List (List Nat)} (h : Fam B w cs) (hs : w.heap.size ≤ w'.heap.size) (hB : B ≤ w.heap.size) {c : List Nat} (hn : c.Nodup) (hc : ∀ b ∈ c, w.heap.size ≤ b ∧ b < w'.heap.size) : Fam B w' (c :: cs) := by
  refine ⟨?_, fun d hd b hb => ?_⟩
  · rw [List.flatten_cons, List.nodup_append]
    refine ⟨hn, h.nd, fun x hx y hy e => ?_⟩
    subst e
    obtain ⟨d, hd, hxd⟩ := List.mem_flatten.1 hy
    have := hc x hx
    have := h.rng d hd x hxd
    omega
  · rcases List.mem_cons.1 hd with rfl | hd
    · have := hc b hb; omega
    · have := h.rng d hd b hb; omega
theorem Fam.tail {B : Nat} {w : World} {cs : List (List Nat)} {c : List Nat} (h : Fam B w (c :: cs)) : Fam B w cs := by
  refine ⟨?_, fun d hd => h.rng d (List.mem_cons_of_mem _ hd)⟩
  have := h.nd
  rw [List.flatten_cons, List.nodup_append] at this
  exact this.2.1
theorem Fam.nil (B : Nat) (w : World) : Fam B w [] := ⟨by simp, by simp⟩
end Go.Proofs.YtlbcjkjoapcppaaGreat

namespace Go.Proofs.YtlbcjkjoapcppaaGreat
open Go.RowKit
set_option maxRecDepth 10000

section
variable {P : Program} {ops : Array Oper} {Q : Exit → Act → World → Prop} {md : Region.Mode} {I : Array Bool → Act → World → Prop}
theorem set_getD {listed : Array Bool} {i k : Nat} (hk : k < listed.size) : (listed.setIfInBounds k true).getD i false = true ↔ i = k ∨ listed.getD i false = true := by
  simp only [Array.getD_eq_getD_getElem?]
  by_cases h : i = k
  · subst h; simp [hk]
  · have : ¬ k = i := fun e => h e.symm
    simp [h, this]
end
/-- what lies in a slot -/
def At (a : Act) (t : Nat) (v : Value) : Prop := a.tmps[t]? = some v
theorem At.eval {a : Act} {t : Nat} {v : Value} (h : At a t v) : a.eval (.tmp t) = v := by
  unfold At at h
  show a.tmps.getD t undef = v
  rw [Array.getD_eq_getD_getElem?, h]; rfl
theorem At.getD {a : Act} {t : Nat} {v : Value} (h : At a t v) : a.tmps.getD t undef = v := h.eval
theorem At.same {a : Act} {t : Nat} {v : Value} (h : t < a.tmps.size) : At (a.put (some t) v) t v := by
  unfold At Act.put; simp [h]
theorem At.ne {a : Act} {t t' : Nat} {v u : Value} (h : At a t v) (hn : t' ≠ t) : At (a.put (some t') u) t v := by
  unfold At Act.put at *; simp [hn, h]
/-- a is a0 but for some slots -/
structure RI (a0 : Act) (S : List Nat) (a : Act) : Prop where
  sz : a.tmps.size = a0.tmps.size
  df : a.defers = a0.defers
  sm : ∀ t, t ∉ S → a.tmps[t]? = a0.tmps[t]?
theorem RI.refl (a0 : Act) (S : List Nat) : RI a0 S a0 := ⟨rfl, rfl, fun _ _ => rfl⟩
theorem RI.put {a0 a : Act} {S : List Nat} {t : Nat} {v : Value} (h : RI a0 S a) (ht : t ∈ S) : RI a0 S (a.put (some t) v) := by
  refine ⟨by unfold Act.put; simp [h.sz], by unfold Act.put; exact h.df, fun t' ht' => ?_⟩
  have hne : ¬ t = t' := fun e => ht' (by rw [← e]; exact ht)
  rw [← h.sm t' ht']
  unfold Act.put; simp [hne]
theorem RI.at {a0 a : Act} {S : List Nat} {t : Nat} {v : Value} (h : RI a0 S a) (ht : t ∉ S) (h0 : At a0 t v) : At a t v := (h.sm t ht).trans h0
def putL (a : Act) (L : List (Nat × Value)) : Act := L.foldl (fun a p => a.put (some p.1) p.2) a
theorem putL_sz : ∀ (L : List (Nat × Value)) (a : Act), (putL a L).tmps.size = a.tmps.size ∧ (putL a L).defers = a.defers
  | [], _ => ⟨rfl, rfl⟩
  | p :: L, a => by
    have := putL_sz L (a.put (some p.1) p.2)
    unfold putL at *
    rw [List.foldl_cons]
    refine ⟨this.1.trans ?_, this.2.trans ?_⟩
    · unfold Act.put; simp
    · unfold Act.put; rfl
theorem putL_no : ∀ (L : List (Nat × Value)) (a : Act) (t : Nat), t ∉ L.map (·.1) → (putL a L).tmps[t]? = a.tmps[t]?
  | [], _, _, _ => rfl
  | p :: L, a, t, h => by
    simp only [List.map_cons, List.mem_cons, not_or] at h
    have := putL_no L (a.put (some p.1) p.2) t h.2
    unfold putL at *
    rw [List.foldl_cons, this]
    have hne : ¬ p.1 = t := fun e => h.1 e.symm
    unfold Act.put; simp [hne]
theorem putL_yes : ∀ (L : List (Nat × Value)) (a : Act) (p : Nat × Value), p ∈ L → (L.map (·.1)).Nodup → p.1 < a.tmps.size → (putL a L).tmps[p.1]? = some p.2
  | q :: L, a, p, h, hn, hs => by
    simp only [List.map_cons, List.nodup_cons] at hn
    rcases List.mem_cons.1 h with rfl | h
    · have := putL_no L (a.put (some p.1) p.2) p.1 hn.1
      unfold putL at *
      rw [List.foldl_cons, this]
      unfold Act.put; simp [hs]
    · have := putL_yes L (a.put (some q.1) q.2) p h hn.2 (by unfold Act.put; simpa using hs)
      unfold putL at *
      rw [List.foldl_cons]; exact this
theorem RI.eq {a0 a : Act} (L : List (Nat × Value)) (h : RI a0 (L.map (·.1)) a) (hn : (L.map (·.1)).Nodup) (hs : ∀ p ∈ L, p.1 < a0.tmps.size) (hv : ∀ p ∈ L, At a p.1 p.2) : a = putL a0 L := by
  have h1 : a.tmps = (putL a0 L).tmps := by
    apply Array.ext (by rw [(putL_sz L a0).1, h.sz])
    intro t h1 h2
    have : a.tmps[t]? = (putL a0 L).tmps[t]? := by
      by_cases ht : t ∈ L.map (·.1)
      · obtain ⟨p, hp, rfl⟩ := List.mem_map.1 ht
        rw [putL_yes L a0 p hp hn (hs p hp)]
        exact hv p hp
      · rw [putL_no L a0 t ht]; exact h.sm t ht
    rw [Array.getElem?_eq_getElem h1, Array.getElem?_eq_getElem h2] at this
    injection this
  have h2 : a.defers = (putL a0 L).defers := by rw [(putL_sz L a0).2, h.df]
  cases a
  cases hq : putL a0 L
  rw [hq] at h1 h2
  simp only at h1 h2
  rw [h1, h2]
end Go.Proofs.YtlbcjkjoapcppaaGreat

namespace Go.Proofs.YtlbcjkjoapcppaaGreat
open Go.RowKit
set_option maxRecDepth 10000
/-- a block of cells of a type -/
def BlkT (w : World) (g : Nat) (cs : List Value) (t : TypeId) : Prop := w.heap[g]? = some (.cells cs.toArray t (0, 0))
theorem BlkT.only {w w' : World} {g : Nat} {cs : List Value} {t : TypeId} {fp : List Nat} (h : BlkT w g cs t) (ho : Only fp w w') (hg : g ∉ fp) : BlkT w' g cs t :=
  (ho.block g (Array.getElem?_eq_some_iff.1 h).1 hg).trans h
theorem BlkT.new (w : World) (cs : List Value) (t : TypeId) : BlkT (w.alloc (.cells cs.toArray t)) w.heap.size cs t := heap_alloc_new w _
theorem Acc.ofT {α : Type} [Rp α] {w : World} {B : Nat} {e : TypeId} {cs : List Value} {x : α} {fp : List Nat} {g : Nat} (hb : BlkT w g cs e) (h : Rp.rep w cs x fp) (hB : B ≤ g) (hn : g ∉ fp) : Acc B e w (.slice (some ⟨g, 0, none⟩) 1 1) [x] [fp] := by
  refine ⟨⟨[cs], ⟨by simp [Rp.len h], .inr ⟨g, 1, cs.toArray, rfl, hB, hb, Nat.le_refl _, by unfold maxLen; omega, by simp [Rp.len h], by simpa using List.take_of_length_le (Nat.le_of_eq (Rp.len h))⟩⟩, rfl, fun k h1 h2 h3 => ?_⟩, rfl, ?_⟩
  · have : k = 0 := by simpa using h1
    subst this
    exact h
  · intro g' hg hm
    simp only [Value.ownBlock, Option.some.injEq] at hg
    subst hg
    exact hn (by simpa using hm)
/-- the exploration as it is begun -/
def EX0 (x : Puzzle) (v2 vst : Value) (W wx : World) (s5 : Value) : Prop :=
  ∃ g M gs gd gp gy, s5 = .pointer (some ⟨g, 0, none⟩) ∧ Blk wx g [.int .i64 x.points, .string x.names, v2, .slice (some ⟨gs, 0, none⟩) 1 1, .slice (some ⟨gd, 0, none⟩) 1 1, .map (some M), .slice (some ⟨gp, 0, none⟩) 1 1, .slice (some ⟨gy, 0, none⟩) 1 1, .slice none 0 0] ∧
    BlkT wx gs [vst] 24 ∧ BlkT wx gd [.int .i64 0] 2 ∧ BlkT wx gp [.int .i64 0] 2 ∧ BlkT wx gy [.int .i64 0] 2 ∧ Mq wx M 1 (firstG [PM.pts x.points.toNat]) ∧ [g, M, gs, gd, gp, gy].Nodup ∧ (∀ b ∈ [g, M, gs, gd, gp, gy], W.heap.size ≤ b) ∧ Only [] W wx
def eAl : List Nat := [2, 3, 4, 9, 10, 12]
def eSl : Nat → Option Nat
  | 0 => some 21 | 1 => some 22 | 2 => some 23 | 3 => some 24 | 4 => some 25 | 5 => some 26 | 6 => some 27 | 7 => none | 8 => some 28 | 9 => some 29 | 10 => some 30 | 11 => some 31 | 12 => some 32 | 13 => some 5 | _ => none
def eJs : Nat → List Nat
  | 2 => [2] | 3 => [3] | 4 => [4] | 7 => [4] | 8 => [4] | 9 => [9] | 10 => [10] | 11 => [2, 3, 4, 9, 10] | 12 => [2, 3, 4, 9, 10, 12] | 13 => [12] | _ => []
def eCells (x : Puzzle) (v2 : Value) (f : Nat → Nat) : List Value := [.int .i64 x.points, .string x.names, v2, .slice (some ⟨f 2, 0, none⟩) 1 1, .slice (some ⟨f 3, 0, none⟩) 1 1, .map (some (f 4)), .slice (some ⟨f 9, 0, none⟩) 1 1, .slice (some ⟨f 10, 0, none⟩) 1 1, .slice none 0 0]
def eAgg (x : Puzzle) (v2 : Value) (f : Nat → Nat) : Value := .agg (eCells x v2 f).toArray
/-- what an operation has left -/
def eF (x : Puzzle) (v2 vst : Value) (f : Nat → Nat) (a : Act) (w : World) : Nat → Prop
  | 0 => At a 21 (.agg #[.int .i64 x.points, .string x.names, v2])
  | 1 => At a 22 vst
  | 2 => At a 23 (.slice (some ⟨f 2, 0, none⟩) 1 1) ∧ BlkT w (f 2) [vst] 24
  | 3 => At a 24 (.slice (some ⟨f 3, 0, none⟩) 1 1) ∧ BlkT w (f 3) [.int .i64 0] 2
  | 4 => At a 25 (.map (some (f 4)))
  | 5 => At a 26 vst
  | 6 => At a 27 (.string (kB (PM.pts x.points.toNat)))
  | 7 => Mq w (f 4) 1 (firstG [PM.pts x.points.toNat])
  | 8 => At a 28 (.map (some (f 4)))
  | 9 => At a 29 (.slice (some ⟨f 9, 0, none⟩) 1 1) ∧ BlkT w (f 9) [.int .i64 0] 2
  | 10 => At a 30 (.slice (some ⟨f 10, 0, none⟩) 1 1) ∧ BlkT w (f 10) [.int .i64 0] 2
  | 11 => At a 31 (eAgg x v2 f)
  | 12 => At a 32 (.pointer (some ⟨f 12, 0, none⟩)) ∧ Blk w (f 12) (eCells x v2 f)
  | 13 => At a 5 (.pointer (some ⟨f 12, 0, none⟩))
  | _ => True
structure EI (x : Puzzle) (v2 vst : Value) (W : World) (a0 : Act) (ls : Array Bool) (a : Act) (w : World) (f : Nat → Nat) : Prop where
  on : Only [] W w
  fr : RI a0 [5, 21, 22, 23, 24, 25, 26, 27, 28, 29, 30, 31, 32] a
  rng : ∀ i ∈ eAl, ls.getD i false = true → W.heap.size ≤ f i ∧ f i < w.heap.size
  inj : ∀ i ∈ eAl, ∀ j ∈ eAl, i ≠ j → ls.getD i false = true → ls.getD j false = true → f i ≠ f j
  ft : ∀ i, ls.getD i false = true → eF x v2 vst f a w i
  m0 : ls.getD 4 false = true → ls.getD 7 false = false → Mq w (f 4) 0 (fun _ => none)
  clo : ∀ i, ls.getD i false = true → ∀ j ∈ eJs i, ls.getD j false = true
theorem eF_move {x : Puzzle} {v2 vst : Value} {f f' : Nat → Nat} {a : Act} {w w' : World} {i : Nat} {t : Option Nat} {v : Value} {fp : List Nat} (h : eF x v2 vst f a w i) (hf : ∀ j ∈ eJs i, f' j = f j) (ht : ∀ u, t = some u → eSl i ≠ some u) (ho : Only fp w w') (hd : ∀ j ∈ eJs i, j ∈ eAl → f j ∉ fp ∨ (i ≠ 7 ∧ j = 4)) : eF x v2 vst f' (a.put t v) w' i := by
  have hA : ∀ u z, At a u z → eSl i = some u → At (a.put t v) u z := fun u z h1 h2 => by
    cases t with
    | none => exact h1
    | some t => exact h1.ne (fun e => ht t rfl (by rw [e]; exact h2))
  match i, h, hf, hd, hA with
  | 0, h, _, _, hA => exact hA _ _ h rfl
  | 1, h, _, _, hA => exact hA _ _ h rfl
  | 2, h, hf, hd, hA => exact ⟨by rw [hf 2 (by decide)]; exact hA _ _ h.1 rfl, by rw [hf 2 (by decide)]; exact h.2.only ho ((hd 2 (by decide) (by decide)).resolve_right (by simp))⟩
  | 3, h, hf, hd, hA => exact ⟨by rw [hf 3 (by decide)]; exact hA _ _ h.1 rfl, by rw [hf 3 (by decide)]; exact h.2.only ho ((hd 3 (by decide) (by decide)).resolve_right (by simp))⟩
  | 4, h, hf, _, hA => show At _ _ _; rw [hf 4 (by decide)]; exact hA _ _ h rfl
  | 5, h, _, _, hA => exact hA _ _ h rfl
  | 6, h, _, _, hA => exact hA _ _ h rfl
  | 7, h, hf, hd, hA => show Mq _ _ _ _; rw [hf 4 (by decide)]; exact h.only ho ((hd 4 (by decide) (by decide)).resolve_right (by simp))
  | 8, h, hf, _, hA => show At _ _ _; rw [hf 4 (by decide)]; exact hA _ _ h rfl
  | 9, h, hf, hd, hA => exact ⟨by rw [hf 9 (by decide)]; exact hA _ _ h.1 rfl, by rw [hf 9 (by decide)]; exact h.2.only ho ((hd 9 (by decide) (by decide)).resolve_right (by simp))⟩
  | 10, h, hf, hd, hA => exact ⟨by rw [hf 10 (by decide)]; exact hA _ _ h.1 rfl, by rw [hf 10 (by decide)]; exact h.2.only ho ((hd 10 (by decide) (by decide)).resolve_right (by simp))⟩
  | 11, h, hf, _, hA => show At _ _ _; unfold eAgg eCells; rw [hf 2 (by decide), hf 3 (by decide), hf 4 (by decide), hf 9 (by decide), hf 10 (by decide)]; exact hA _ _ h rfl
  | 12, h, hf, hd, hA => exact ⟨by rw [hf 12 (by decide)]; exact hA _ _ h.1 rfl, by unfold eCells; rw [hf 2 (by decide), hf 3 (by decide), hf 4 (by decide), hf 9 (by decide), hf 10 (by decide), hf 12 (by decide)]; exact h.2.only ho ((hd 12 (by decide) (by decide)).resolve_right (by simp))⟩
  | 13, h, hf, _, hA => show At _ _ _; rw [hf 12 (by decide)]; exact hA _ _ h rfl
  | _ + 14, _, _, _, _ => trivial
theorem EI.upd {x : Puzzle} {v2 vst : Value} {W : World} {a0 : Act} {ls : Array Bool} {a : Act} {w w' : World} {f f' : Nat → Nat} {k : Nat} {t : Option Nat} {v : Value} {fp : List Nat} (h : EI x v2 vst W a0 ls a w f) (hk : k < 14) (hs : ls.size = 14) (hu : ls.getD k false = false) (ht : t = eSl k)
    (ho : Only fp w w') (hfp : fp = [] ∨ (k = 7 ∧ fp = [f 4] ∧ ls.getD 4 false = true)) (hf : ∀ i, i ≠ k → f' i = f i) (hal : k ∈ eAl → f' k = w.heap.size ∧ w.heap.size < w'.heap.size)
    (hdep : ∀ j ∈ eJs k, j ≠ k → ls.getD j false = true) (hnew : eF x v2 vst f' (a.put t v) w' k) (hm : k = 4 → Mq w' (f' 4) 0 (fun _ => none)) : EI x v2 vst W a0 (ls.setIfInBounds k true) (a.put t v) w' f' := by
  have hg : ∀ i, (ls.setIfInBounds k true).getD i false = true ↔ i = k ∨ ls.getD i false = true := fun i => set_getD (by omega)
  have hne : ∀ j, ls.getD j false = true → j ≠ k := fun j hj e => by rw [e, hu] at hj; cases hj
  have hsz := ho.size
  have hno : ∀ j ∈ eAl, ls.getD j false = true → j ≠ 4 → f j ∉ fp := fun j hj hl h4 hm => by
    rcases hfp with e | ⟨-, e, e4⟩
    · rw [e] at hm; cases hm
    · rw [e] at hm; exact h.inj j hj 4 (by decide) h4 hl e4 (by simpa using hm)
  refine ⟨?_, ?_, fun i hi hl => ?_, fun i hi j hj hij hl hl' => ?_, fun i hl => ?_, fun h4 h7 => ?_, fun i hl j hj => ?_⟩
  · refine h.on.then_ ho (fun b hb hlt => ?_)
    rcases hfp with e | ⟨-, e, e4⟩
    · rw [e] at hb; cases hb
    · rw [e] at hb
      have := (h.rng 4 (by decide) e4).1
      simp at hb; omega
  · cases t with
    | none => exact h.fr
    | some t =>
      refine h.fr.put ?_
      match k, hk, ht with
      | 0, _, e | 1, _, e | 2, _, e | 3, _, e | 4, _, e | 5, _, e | 6, _, e | 8, _, e | 9, _, e | 10, _, e | 11, _, e | 12, _, e | 13, _, e => injection e with e; subst e; decide
      | 7, _, e => cases e
  · rcases (hg i).1 hl with rfl | hl
    · have := hal hi; have := h.on.size; omega
    · rw [hf i (hne i hl)]
      have := h.rng i hi hl; omega
  · rcases (hg i).1 hl with e | q
    · rcases (hg j).1 hl' with e' | q'
      · exact absurd (e.trans e'.symm) hij
      · have r := h.rng j hj q'
        rw [e, (hal (by rw [← e]; exact hi)).1, hf j (hne j q')]; omega
    · rcases (hg j).1 hl' with e' | q'
      · have r := h.rng i hi q
        rw [e', (hal (by rw [← e']; exact hj)).1, hf i (hne i q)]; omega
      · rw [hf i (hne i q), hf j (hne j q')]; exact h.inj i hi j hj hij q q'
  · rcases (hg i).1 hl with rfl | hl
    · exact hnew
    · have hik := hne i hl
      refine eF_move (h.ft i hl) (fun j hj => hf j (hne j (h.clo i hl j hj))) (fun u hu' e => ?_) ho (fun j hj hja => ?_)
      · rw [ht] at hu'
        have e2 : eSl i = eSl k := e.trans hu'.symm
        have hi14 : i < 14 := by
          rcases Nat.lt_or_ge i 14 with h1 | h1
          · exact h1
          · rw [Array.getD_eq_getD_getElem?, Array.getElem?_eq_none (by omega)] at hl; cases hl
        have : ∀ i, i < 14 → ∀ k, k < 14 → eSl k = eSl i → eSl k ≠ none → i = k := by decide
        exact hik (this i hi14 k hk e2.symm (by rw [hu']; simp))
      · by_cases h4 : j = 4
        · subst h4
          rcases hfp with e | ⟨e7, -, -⟩
          · left; rw [e]; simp
          · right; exact ⟨by omega, rfl⟩
        · exact .inl (hno j hja (h.clo i hl j hj) h4)
  · have h7n : k ≠ 7 := fun e => by
      have := (hg 7).2 (.inl e.symm)
      rw [h7] at this; cases this
    have hfe : fp = [] := by
      rcases hfp with e | ⟨e, -⟩
      · exact e
      · exact absurd e h7n
    rcases (hg 4).1 h4 with e | h4
    · exact hm e.symm
    · rw [hf 4 (hne 4 h4)]
      have h7' : ls.getD 7 false = false := by
        rcases hq : ls.getD 7 false
        · rfl
        · have := (hg 7).2 (.inr hq); rw [h7] at this; cases this
      exact (h.m0 h4 h7').only ho (by rw [hfe]; simp)
  · rcases (hg i).1 hl with rfl | hl
    · by_cases hji : j = i
      · exact (hg j).2 (.inl hji)
      · exact (hg j).2 (.inr (hdep j hj hji))
    · exact (hg j).2 (.inr (h.clo i hl j hj))

end Go.Proofs.YtlbcjkjoapcppaaGreat

namespace Go.Proofs.YtlbcjkjoapcppaaGreat
open Go.RowKit
set_option maxRecDepth 10000

def xeF (g M : Nat) (us ud up uy un ur : Value) : List (List Nat) := [[g], [M], us.ownBlock.toList, ud.ownBlock.toList, up.ownBlock.toList, uy.ownBlock.toList, un.ownBlock.toList, ur.ownBlock.toList]
/-- the exploration under way: its box g, its map M, its slices, the row at hand -/
structure XE (x : Puzzle) (v2 : Value) (w : World) (g M : Nat) (LM LS : List (List Int)) (D P Y : List Int) (N : List (List Int)) (R : List Int) (wr : World) (us ud up uy un ur : Value) (fs fn : List (List Nat)) (ex : List Nat) (W : World) : Prop where
  blk : Blk wr g [.int .i64 x.points, .string x.names, v2, us, ud, .map (some M), up, uy, un]
  st : Acc w.heap.size 24 wr us LS fs
  dp : AccI w.heap.size 2 wr ud D
  pa : AccI w.heap.size 2 wr up P
  by_ : AccI w.heap.size 2 wr uy Y
  nx : Acc w.heap.size 24 wr un N fn
  rw_ : AccI w.heap.size 2 wr ur R
  mp : Mq wr M LM.length (firstG LM)
  fam : Fam w.heap.size wr (xeF g M us ud up uy un ur)
  ro : ∀ b ∈ fs.flatten ++ fn.flatten ++ ex, b < wr.heap.size ∧ ∀ c ∈ xeF g M us ud up uy un ur, b ∉ c
  kp : ∀ b ∈ ex, wr.heap[b]? = W.heap[b]?
  on : Only [] w wr
section
variable {x : Puzzle} {v2 : Value} {w : World} {g M : Nat} {LM LS : List (List Int)} {D P Y : List Int} {N : List (List Int)} {R : List Int} {wa wb wr w' : World} {us ud up uy un ur : Value} {fs fn : List (List Nat)} {ex : List Nat} {W : World}
theorem XE.keep (h : XE x v2 w g M LM LS D P Y N R wr us ud up uy un ur fs fn ex W) (ho : Only [] wr w') : XE x v2 w g M LM LS D P Y N R w' us ud up uy un ur fs fn ex W :=
  ⟨h.blk.keep ho, h.st.keep ho, h.dp.keep ho, h.pa.keep ho, h.by_.keep ho, h.nx.keep ho, h.rw_.keep ho, h.mp.keep ho, h.fam.keep ho.size, fun b hb => ⟨Nat.lt_of_lt_of_le (h.ro b hb).1 ho.size, (h.ro b hb).2⟩, fun b hb => (ho.block b (h.ro b (List.mem_append_right _ hb)).1 (by simp)).trans (h.kp b hb), h.on.trans ho⟩

theorem XE.put {LM' : List (List Int)} (h : XE x v2 w g M LM LS D P Y N R wa us ud up uy un ur fs fn ex W) (ho : Only [M] wa wb) (hm : Mq wb M LM'.length (firstG LM')) : XE x v2 w g M LM' LS D P Y N R wb us ud up uy un ur fs fn ex W := by
  have hsz := ho.size
  have hd : ∀ (j : Nat) (c : List Nat), j ≠ 1 → (xeF g M us ud up uy un ur)[j]? = some c → ∀ b ∈ c, b ∉ [M] := fun j c hj hc => h.fam.disj j 1 hj hc rfl
  have hro : ∀ b ∈ fs.flatten ++ fn.flatten ++ ex, b ∉ [M] := fun b hb => (h.ro b hb).2 _ (List.mem_of_getElem? (i := 1) rfl)
  exact ⟨(h.blk.only ho (fun hm => hd 0 _ (by decide) rfl g (by simp) hm)), (h.st.only ho (fun b hb hm => hro b (by first | exact List.mem_append_left _ (List.mem_append_left _ hb) | exact List.mem_append_left _ (List.mem_append_right _ hb)) hm) (fun q hq hm => hd 2 _ (by decide) rfl q (by simp [hq]) hm)), (h.dp.only ho (fun q hq hm => hd 3 _ (by decide) rfl q (by simp [hq]) hm)), (h.pa.only ho (fun q hq hm => hd 4 _ (by decide) rfl q (by simp [hq]) hm)), (h.by_.only ho (fun q hq hm => hd 5 _ (by decide) rfl q (by simp [hq]) hm)), (h.nx.only ho (fun b hb hm => hro b (by first | exact List.mem_append_left _ (List.mem_append_left _ hb) | exact List.mem_append_left _ (List.mem_append_right _ hb)) hm) (fun q hq hm => hd 6 _ (by decide) rfl q (by simp [hq]) hm)), (h.rw_.only ho (fun q hq hm => hd 7 _ (by decide) rfl q (by simp [hq]) hm)), hm, h.fam.keep hsz, fun b hb => ⟨Nat.lt_of_lt_of_le (h.ro b hb).1 hsz, (h.ro b hb).2⟩, fun b hb => (ho.block b (h.ro b (List.mem_append_right _ hb)).1 (hro b (List.mem_append_right _ hb))).trans (h.kp b hb), h.on.then_ ho (fun b hb hl => by have := h.fam.ge 1 rfl (b := M) (by simp); simp at hb; omega)⟩
theorem XE.row0 (h : XE x v2 w g M LM LS D P Y N R wr us ud up uy un ur fs fn ex W) : XE x v2 w g M LM LS D P Y N [] wr us ud up uy un (.slice none 0 0) fs fn ex W := by
  refine ⟨h.blk, h.st, h.dp, h.pa, h.by_, h.nx, AccI.nil _ _ _, h.mp, ?_, fun b hb => ⟨(h.ro b hb).1, fun c hc => ?_⟩, h.kp, h.on⟩
  · exact h.fam.set (c' := []) (Nat.le_refl _) h.on.size 7 rfl (by simp) (by simp)
  · have hc' : c ∈ (xeF g M us ud up uy un ur).set 7 [] := hc
    rcases List.mem_or_eq_of_mem_set hc' with h3 | rfl
    · exact (h.ro b hb).2 c h3
    · simp
/-- more memory that stays as it is -/
theorem XE.hold (h : XE x v2 w g M LM LS D P Y N R wr us ud up uy un ur fs fn ex W) (ho : Only [] wr w') {f : List Nat} (hf : ∀ b ∈ f, wr.heap.size ≤ b ∧ b < w'.heap.size) : XE x v2 w g M LM LS D P Y N R w' us ud up uy un ur fs fn (ex ++ f) w' := by
  have h1 := h.keep ho
  refine ⟨h1.blk, h1.st, h1.dp, h1.pa, h1.by_, h1.nx, h1.rw_, h1.mp, h1.fam, fun b hb => ?_, fun _ _ => rfl, h1.on⟩
  rw [← List.append_assoc] at hb
  rcases List.mem_append.1 hb with hb | hb
  · exact h1.ro b hb
  · refine ⟨(hf b hb).2, fun c hc hm => ?_⟩
    obtain ⟨j, hj⟩ := List.getElem?_of_mem hc
    have := h.fam.lt j hj hm
    have := (hf b hb).1
    omega
theorem XE.drop {f : List Nat} {W' : World} (h : XE x v2 w g M LM LS D P Y N R wr us ud up uy un ur fs fn (ex ++ f) W') (hW : ∀ b ∈ ex, W'.heap[b]? = W.heap[b]?) : XE x v2 w g M LM LS D P Y N R wr us ud up uy un ur fs fn ex W :=
  ⟨h.blk, h.st, h.dp, h.pa, h.by_, h.nx, h.rw_, h.mp, h.fam, fun b hb => h.ro b (by rw [← List.append_assoc]; exact List.mem_append_left _ hb), fun b hb => (h.kp b (List.mem_append_left _ hb)).trans (hW b hb), h.on⟩
theorem XE.held (h : XE x v2 w g M LM LS D P Y N R wr us ud up uy un ur fs fn ex W) {α : Type} [Rp α] {cs : List Value} {y : α} {fp : List Nat} (hr : Rp.rep W cs y fp) (hf : ∀ b ∈ fp, b ∈ ex) : Rp.rep wr cs y fp := Rp.frame hr fun b hb => h.kp b (hf b hb)
/-- older memory -/
theorem XE.old (h : XE x v2 w g M LM LS D P Y N R wr us ud up uy un ur fs fn ex W) {cs : List Value} {α : Type} [Rp α] {y : α} {fp : List Nat} (hr : Rp.rep w cs y fp) : Rp.rep wr cs y fp := Rp.keep hr h.on
end
end Go.Proofs.YtlbcjkjoapcppaaGreat

namespace Go.Proofs.YtlbcjkjoapcppaaGreat
open Go.RowKit
set_option maxRecDepth 10000


end Go.Proofs.YtlbcjkjoapcppaaGreat

namespace Go.Proofs.YtlbcjkjoapcppaaGreat
open Go.RowKit
set_option maxRecDepth 10000
/-- the entries that a state's letters lead to -/
def rowT (x : Puzzle) (t : Table) (p : List Int) : List Int := (ltrs x.moves.length).map fun l => idxL t.patterns (nxt x p l)
section
variable {x : Puzzle} {t : Table} {L : List (List Int)} {s : List Int}
end
end Go.Proofs.YtlbcjkjoapcppaaGreat

namespace Go.Proofs.YtlbcjkjoapcppaaGreat
open Go.RowKit
set_option maxRecDepth 10000

theorem EX0.start {x : Puzzle} {v2 vst : Value} {w W wx : World} {s5 : Value} {f3 : List Nat} (h : EX0 x v2 vst W wx s5) (hW : Only [] w W) (r3 : Rd W vst (PM.pts x.points.toNat) f3) :
    ∃ g M us ud up uy, s5 = .pointer (some ⟨g, 0, none⟩) ∧ w.heap.size ≤ g ∧ XE x v2 w g M [PM.pts x.points.toNat] [PM.pts x.points.toNat] [0] [0] [0] [] [] wx us ud up uy (.slice none 0 0) (.slice none 0 0) [f3] [] [] wx ∧ Only [] W wx := by
  obtain ⟨g, M, gs, gd, gp, gy, rfl, B0, Bs, Bd, Bp, By, hM, hnd, hge, hK⟩ := h
  have hz := hW.size
  have hlow : ∀ b ∈ [g, M, gs, gd, gp, gy], w.heap.size ≤ b := fun b hb => Nat.le_trans hz (hge b hb)
  have hup : ∀ b ∈ [g, M, gs, gd, gp, gy], b < wx.heap.size := by
    intro b hb
    simp only [List.mem_cons, List.not_mem_nil, or_false] at hb
    rcases hb with rfl | rfl | rfl | rfl | rfl | rfl
    · exact B0.lt
    · exact hM.lt
    · exact (Array.getElem?_eq_some_iff.1 Bs).1
    · exact (Array.getElem?_eq_some_iff.1 Bd).1
    · exact (Array.getElem?_eq_some_iff.1 Bp).1
    · exact (Array.getElem?_eq_some_iff.1 By).1
  have hf3 : ∀ b ∈ f3, b < W.heap.size := fun b hb => Rp.lt r3 b hb
  have hI0 : I64 0 := by unfold I64; omega
  have hfl : (xeF g M (.slice (some ⟨gs, 0, none⟩) 1 1) (.slice (some ⟨gd, 0, none⟩) 1 1) (.slice (some ⟨gp, 0, none⟩) 1 1) (.slice (some ⟨gy, 0, none⟩) 1 1) (.slice none 0 0) (.slice none 0 0)).flatten = [g, M, gs, gd, gp, gy] := by simp [xeF, Value.ownBlock]
  have hmem : ∀ c ∈ xeF g M (.slice (some ⟨gs, 0, none⟩) 1 1) (.slice (some ⟨gd, 0, none⟩) 1 1) (.slice (some ⟨gp, 0, none⟩) 1 1) (.slice (some ⟨gy, 0, none⟩) 1 1) (.slice none 0 0) (.slice none 0 0), ∀ b ∈ c, b ∈ [g, M, gs, gd, gp, gy] := fun c hc b hb => by rw [← hfl]; exact List.mem_flatten.2 ⟨c, hc, hb⟩
  refine ⟨g, M, _, _, _, _, rfl, hlow g (by simp), ⟨B0, Acc.ofT Bs (Rp.keep r3 hK) (hlow gs (by simp)) (fun hm => ?_), ⟨[[]], Acc.ofT Bd (int_rd _ hI0) (hlow gd (by simp)) (by simp)⟩, ⟨[[]], Acc.ofT Bp (int_rd _ hI0) (hlow gp (by simp)) (by simp)⟩, ⟨[[]], Acc.ofT By (int_rd _ hI0) (hlow gy (by simp)) (by simp)⟩, Acc.nil _ _ _, AccI.nil _ _ _, hM, ⟨by rw [hfl]; exact hnd, fun c hc b hb => ⟨hlow b (hmem c hc b hb), hup b (hmem c hc b hb)⟩⟩, fun b hb => ?_, by simp, hW.trans hK⟩, hK⟩
  · have := hf3 gs hm; have := hge gs (by simp); omega
  · have hb3 : b ∈ f3 := by simpa using hb
    have h1 := hf3 b hb3
    refine ⟨Nat.lt_of_lt_of_le h1 hK.size, fun c hc hm => ?_⟩
    have := hge b (hmem c hc b hm); omega
/-- v is the exploration of a puzzle -/
def Exp (w : World) (x : Puzzle) (t : Table) (v : Value) : Prop :=
  ∃ g M v2 us ud up uy un fm f1 f2 f3 k, v = .pointer (some ⟨g, 0, none⟩) ∧ Blk w g [.int .i64 x.points, .string x.names, v2, us, ud, .map (some M), up, uy, un] ∧ Rp.rep w [.int .i64 x.points, .string x.names, v2] x fm ∧
    Rd w us t.patterns f1 ∧ Rd w ud t.distances f2 ∧ Rd w un (t.patterns.map (rowT x t)) f3 ∧ Mq w M k (firstG t.patterns)
theorem Exp.keep {w w' : World} {x : Puzzle} {t : Table} {v : Value} (h : Exp w x t v) (ho : Only [] w w') : Exp w' x t v := by
  obtain ⟨g, M, v2, us, ud, up, uy, un, fm, f1, f2, f3, k, h1, h2, h3, h4, h5, h6, h7⟩ := h
  exact ⟨g, M, v2, us, ud, up, uy, un, fm, f1, f2, f3, k, h1, h2.keep ho, Rp.keep h3 ho, Rp.keep h4 ho, Rp.keep h5 ho, Rp.keep h6 ho, h7.keep ho⟩
end Go.Proofs.YtlbcjkjoapcppaaGreat

namespace Go.Proofs.YtlbcjkjoapcppaaGreat
open Go.RowKit
set_option maxRecDepth 10000

/-- the letters that lead closer to the solved state, and the entries that they lead to -/
def clP (x : Puzzle) (t : Table) (i : Nat) (l : Int) : Bool := decide (t.distances.getD (idxL t.patterns (nxt x (t.patterns.getD i []) l)).toNat 0 < t.distances.getD i 0)
def clL (x : Puzzle) (t : Table) (i : Nat) (ls : List Int) : List Int := ls.filter (clP x t i)
def clS (x : Puzzle) (t : Table) (i : Nat) (ls : List Int) : List Int := (clL x t i ls).map fun l => idxL t.patterns (nxt x (t.patterns.getD i []) l)
theorem filter_head {α : Type} {p : α → Bool} {l : List α} {k : Nat} (hk : k < l.length) (h : ∀ m (hm : m < k), p (l[m]'(Nat.lt_trans hm hk)) = false) (hp : p l[k] = true) : ∃ r, l.filter p = l[k] :: r := by
  refine ⟨(l.drop (k + 1)).filter p, ?_⟩
  have e : l = l.take k ++ l[k] :: l.drop (k + 1) := by rw [← List.drop_eq_getElem_cons hk, List.take_append_drop]
  have h0 : (l.take k).filter p = [] := by
    rw [List.filter_eq_nil_iff]
    intro a ha
    rw [List.mem_take_iff_getElem] at ha
    obtain ⟨m, hm, rfl⟩ := ha
    simp [h m (by omega)]
  conv => lhs; rw [e]
  rw [List.filter_append, h0, List.nil_append, List.filter_cons_of_pos hp]
section
variable {x : Puzzle} {t : Table}
theorem idx_step (hb : Built x t) {i : Nat} (hi : i < t.patterns.length) {l : Int} (hl : l ∈ ltrs x.moves.length) : ∃ j : Nat, j < t.patterns.length ∧ t.patterns.getD j [] = nxt x (t.patterns.getD i []) l ∧ idxL t.patterns (nxt x (t.patterns.getD i []) l) = j := by
  obtain ⟨j, a, b, -, -⟩ := hb.step hi hl
  exact ⟨j, a, b, by rw [← b]; exact hb.idx a⟩
theorem Down.head (hb : Built x t) {i n k j : Nat} (hi : i < t.patterns.length) (hd : t.distances.getD i 0 = (n : Int) + 1) (h : Down x t i n k j) :
    ∃ r1 r2, clL x t i (ltrs x.moves.length) = (ltrs x.moves.length)[k]'h.hk :: r1 ∧ clS x t i (ltrs x.moves.length) = (j : Int) :: r2 := by
  have hij : idxL t.patterns (nxt x (t.patterns.getD i []) ((ltrs x.moves.length)[k]'h.hk)) = j := by rw [← h.nx]; exact hb.idx h.hj
  obtain ⟨r, hr⟩ := filter_head (p := clP x t i) h.hk (fun m hm => by
    obtain ⟨i', a, b, c⟩ := idx_step hb hi (List.getElem_mem (Nat.lt_trans hm h.hk))
    unfold clP
    rw [c, Int.toNat_natCast, hd]
    have := (h.no m hm i' a b).2
    simpa using this) (by
    unfold clP
    rw [hij, Int.toNat_natCast, h.ds, hd]
    exact decide_eq_true (by omega))
  refine ⟨r, r.map fun l => idxL t.patterns (nxt x (t.patterns.getD i []) l), hr, ?_⟩
  unfold clS clL
  rw [hr, List.map_cons, hij]
end




end Go.Proofs.YtlbcjkjoapcppaaGreat

namespace Go.Proofs.YtlbcjkjoapcppaaGreat
open Go.RowKit
set_option maxRecDepth 10000

/-- two slices under way, apart -/
def Two (B : Nat) (e : TypeId) (w : World) (o o' : Value) (l l' : List Int) : Prop := AccI B e w o l ∧ AccI B e w o' l' ∧ ∀ b, o.ownBlock = some b → o'.ownBlock ≠ some b
theorem Two.keep {B : Nat} {e : TypeId} {w w' : World} {o o' : Value} {l l' : List Int} (h : Two B e w o o' l l') (ho : Only [] w w') : Two B e w' o o' l l' := ⟨h.1.keep ho, h.2.1.keep ho, h.2.2⟩
/-- the entry of the depths at hand -/
theorem Exp.depth {w : World} {x : Puzzle} {t : Table} {v : Value} (h : Exp w x t v) : ∃ g aD cD fD, v = .pointer (some ⟨g, 0, none⟩) ∧ w.cell? ⟨g, 4, none⟩ = some (.slice aD t.distances.length cD) ∧ IntsA w aD cD t.distances fD := by
  obtain ⟨g, M, v2, us, ud, up, uy, un, fm, f1, f2, f3, k, rfl, hB, -, -, hD, -, -⟩ := h
  obtain ⟨aD, cD, rfl, ID⟩ := hD.ints
  exact ⟨g, aD, cD, _, rfl, hB.cell 4 rfl, ID⟩


end Go.Proofs.YtlbcjkjoapcppaaGreat

namespace Go.Proofs.YtlbcjkjoapcppaaGreat
open Go.RowKit
set_option maxRecDepth 10000

theorem expl_from {x : Puzzle} (hv : validPz x = true) {wh : Bool} {L : List (List Int)} {D : List Int} (h : bFrom x 3001 0 ([PM.pts x.points.toNat], [0]) = if wh = true then some (L, D) else none) : expl x = if wh = true then some ⟨PM.pts x.points.toNat, L, D⟩ else none := by
  unfold expl bTab
  rw [bfs16_yes (by rw [hv, pts_track hv]; rfl), h]
  cases wh <;> rfl
/-- v is the search that found the entries of t; its memory lies from B on -/
def SrF (B : Nat) (w : World) (x : Puzzle) (t : Table) (v : Value) : Prop := ∃ A1 A2 A3 C1 C2 C3 so ob fps fd fz, v = .agg #[.slice A1 t.patterns.length C1, .slice A2 t.distances.length C2, .slice A3 (List.length so) C3, .bool true] ∧ SrR w A1 A2 A3 C1 C2 C3 t.patterns t.distances so ob fps fd fz ∧ Srt x.points.toNat t.patterns so ∧ ∀ g ∈ (ob ++ fps.flatten) ++ (fd ++ fz), B ≤ g
theorem SrF.only {B : Nat} {w w' : World} {x : Puzzle} {t : Table} {v : Value} {fp : List Nat} (h : SrF B w x t v) (ho : Only fp w w') (hd : ∀ g ∈ fp, g < B) : SrF B w' x t v := by
  obtain ⟨A1, A2, A3, C1, C2, C3, so, ob, fps, fd, fz, h1, h2, h3, h4⟩ := h
  exact ⟨A1, A2, A3, C1, C2, C3, so, ob, fps, fd, fz, h1, h2.only ho (fun g hg hm => by have := h4 g hg; have := hd g hm; omega), h3, h4⟩
theorem SrF.keep {B : Nat} {w w' : World} {x : Puzzle} {t : Table} {v : Value} (h : SrF B w x t v) (ho : Only [] w w') : SrF B w' x t v := h.only ho (by simp)
theorem SrF.mono {B B' : Nat} {w : World} {x : Puzzle} {t : Table} {v : Value} (h : SrF B w x t v) (hB : B' ≤ B) : SrF B' w x t v := by
  obtain ⟨A1, A2, A3, C1, C2, C3, so, ob, fps, fd, fz, h1, h2, h3, h4⟩ := h
  exact ⟨A1, A2, A3, C1, C2, C3, so, ob, fps, fd, fz, h1, h2, h3, fun g hg => Nat.le_trans hB (h4 g hg)⟩
theorem SrR.lt {w : World} {A1 A2 A3 : Option Addr} {C1 C2 C3 : Nat} {L : List (List Int)} {D : List Int} {so : List Nat} {ob : List Nat} {fps : List (List Nat)} {fd fs : List Nat} (h : SrR w A1 A2 A3 C1 C2 C3 L D so ob fps fd fs) : ∀ g ∈ (ob ++ fps.flatten) ++ (fd ++ fs), g < w.heap.size := fun g hg => by
  rcases List.mem_append.1 hg with hg | hg
  · exact h.ls.lt_all g hg
  · rcases List.mem_append.1 hg with hg | hg
    · exact h.dp.lt g hg
    · exact h.st.lt g hg
/-- the search's variable behind the search of all states -/
def SS1 (W wx : World) (x : Puzzle) (s4 : Value) : Prop :=
  ∃ g A1 A2 A3 C1 C2 C3 wh L D so ob fps fd fz, s4 = .pointer (some ⟨g, 0, none⟩) ∧ Blk wx g [.slice A1 (List.length L) C1, .slice A2 (List.length D) C2, .slice A3 (List.length so) C3, .bool wh] ∧ SrR wx A1 A2 A3 C1 C2 C3 L D so ob fps fd fz ∧
    (expl x = if wh = true then some ⟨PM.pts x.points.toNat, L, D⟩ else none) ∧ Srt x.points.toNat L so ∧ (∀ g' ∈ (ob ++ fps.flatten) ++ (fd ++ fz), W.heap.size ≤ g') ∧ Only [] W wx ∧ W.heap.size ≤ g
section
variable {W w5 : World} {x : Puzzle} {g : Nat} {A1 A2 A3 : Option Addr} {C1 C2 C3 : Nat} {wh : Bool} {L : List (List Int)} {D : List Int} {so : List Nat} {ob : List Nat} {fps : List (List Nat)} {fd fz : List Nat} {cs : List Value} {e : TypeId}
theorem SS1.of (hz : Blk w5 g cs) (hcs : cs.length = 4) (hK : Only [] W w5) (hr : SrR w5 A1 A2 A3 C1 C2 C3 L D so ob fps fd fz) (he : expl x = if wh = true then some ⟨PM.pts x.points.toNat, L, D⟩ else none) (hs : Srt x.points.toNat L so)
    (hb : ∀ g' ∈ (ob ++ fps.flatten) ++ (fd ++ fz), W.heap.size ≤ g') (hg : ∀ g' ∈ (ob ++ fps.flatten) ++ (fd ++ fz), g' ≠ g) (hW : W.heap.size ≤ g) :
    SS1 W ((((w5.setCell ⟨g, 0, none⟩ (.slice A1 L.length C1)).setCell ⟨g, 1, none⟩ (.slice A2 D.length C2)).setCell ⟨g, 2, none⟩ (.slice A3 so.length C3)).setCell ⟨g, 3, none⟩ (.bool wh)) x (.pointer (some ⟨g, 0, none⟩)) := by
  have ho : Only [g] w5 ((((w5.setCell ⟨g, 0, none⟩ (.slice A1 L.length C1)).setCell ⟨g, 1, none⟩ (.slice A2 D.length C2)).setCell ⟨g, 2, none⟩ (.slice A3 so.length C3)).setCell ⟨g, 3, none⟩ (.bool wh)) := ((((Only.refl _ _).setCell (by simp) _).setCell (by simp) _).setCell (by simp) _).setCell (by simp) _
  have hbk := (((hz.set 0 (.slice A1 L.length C1)).set 1 (.slice A2 D.length C2)).set 2 (.slice A3 so.length C3)).set 3 (.bool wh)
  refine ⟨g, A1, A2, A3, C1, C2, C3, wh, L, D, so, ob, fps, fd, fz, rfl, ?_, hr.only ho (fun b hm hq => hg b hm (by simpa using hq)), he, hs, hb, hK.then_ ho (by intro b hm hl; simp at hm; omega), hW⟩
  obtain ⟨u0, u1, u2, u3, rfl⟩ : ∃ u0 u1 u2 u3, cs = [u0, u1, u2, u3] := by
    match cs, hcs with
    | [u0, u1, u2, u3], _ => exact ⟨u0, u1, u2, u3, rfl⟩
  simpa only [List.set] using hbk
theorem SS1.of2 (hK : Only [] W w5) (hr : SrR w5 A1 A2 A3 C1 C2 C3 L D so ob fps fd fz) (he : expl x = if wh = true then some ⟨PM.pts x.points.toNat, L, D⟩ else none) (hs : Srt x.points.toNat L so)
    (hb : ∀ g' ∈ (ob ++ fps.flatten) ++ (fd ++ fz), W.heap.size ≤ g') (hg : g = w5.heap.size) :
    SS1 W (w5.alloc (.cells #[.slice A1 L.length C1, .slice A2 D.length C2, .slice A3 so.length C3, .bool wh] e)) x (.pointer (some ⟨g, 0, none⟩)) := by
  subst hg
  have ho : Only [] w5 (w5.alloc (.cells #[.slice A1 L.length C1, .slice A2 D.length C2, .slice A3 so.length C3, .bool wh] e)) := (Only.refl _ _).alloc _
  exact ⟨_, A1, A2, A3, C1, C2, C3, wh, L, D, so, ob, fps, fd, fz, rfl, Blk.new w5 [.slice A1 L.length C1, .slice A2 D.length C2, .slice A3 so.length C3, .bool wh] e, hr.keep ho, he, hs, hb, hK.trans ho, hK.size⟩
end
set_option maxHeartbeats 4000000 in
theorem searchStates_any (cs : List Value) (x : Puzzle) (fp : List Nat) (w : World) (h : Rp.rep w cs x fp) :
    Calls Tryz.prog 82 #[.agg cs.toArray] w fun e w' => ((expl x = none ∧ ∃ A1 n1 C1 A2 n2 C2 A3 n3 C3 wh,  e = .returned (.tuple #[.agg #[.slice A1 n1 C1, .slice A2 n2 C2, .slice A3 n3 C3, .bool wh], .bool false])) ∨ (∃ t, expl x = some t ∧ ∃ v, e = .returned (.tuple #[v, .bool true]) ∧ SrF w.heap.size w' x t v)) ∧ Only [] w w' := by
  have h0 := h
  obtain ⟨v2, rfl, p0, p1, h2⟩ := h
  obtain ⟨A2, C2, _, _, rfl, -, -⟩ := h2.open_
  clear h2 p0 p1
  have X0 : Blk ((w.alloc (.cells #[.int .i64 x.points, .string x.names, .slice A2 x.moves.length C2] 42)).alloc (.cells #[.slice none 0 0, .slice none 0 0, .slice none 0 0, .bool false] 94)) w.heap.size [.int .i64 x.points, .string x.names, .slice A2 x.moves.length C2] := (Blk.new w [.int .i64 x.points, .string x.names, .slice A2 x.moves.length C2] 42).keep ((Only.refl _ _).alloc _)
  have Y0 : Blk ((w.alloc (.cells #[.int .i64 x.points, .string x.names, .slice A2 x.moves.length C2] 42)).alloc (.cells #[.slice none 0 0, .slice none 0 0, .slice none 0 0, .bool false] 94)) (w.heap.size + 1) [.slice none 0 0, .slice none 0 0, .slice none 0 0, .bool false] := Blk.new_at (by simp)
  rcases hq : validPz x
  · have Hn := Lib.hid (expl_none hq)
    have Hq := Lib.hid hq
    clear hq
    go_enter Tryz.func82, Tryz.ntmps82
    go_wp2_with (first
      | (go_at_call 79; (with_reducible refine (specIsValidPuzzle_any [.int .i64 x.points, .string x.names, .slice A2 x.moves.length C2] x _ _ (Rp.keep h0 (by with_reducible repeat (first | exact Only.refl _ _ | assumption | refine Only.drewN ?_ _ | refine Only.drew ?_ | refine Only.alloc ?_ _ | refine Only.setCell ?_ (by intro hh; exfalso; simp at hh; try omega) _ | refine Only.trans ?_ (by assumption))))).mono ?_); rintro e w1 ⟨he, t1⟩; rw [Hq.out] at he; subst he; have Y1 := Y0.keep t1; have g0 := Y1.cell 0 rfl; have g1 := Y1.cell 1 rfl; have g2 := Y1.cell 2 rfl; have g3 := Y1.cell 3 rfl; have p0 := Y1.frozen 0; have p1 := Y1.frozen 1; have p2 := Y1.frozen 2; have p3 := Y1.frozen 3)
      | fail "no arm")
    have K1 : Only [] w w1 := (by with_reducible repeat (first | exact Only.refl _ _ | assumption | refine Only.drewN ?_ _ | refine Only.drew ?_ | refine Only.alloc ?_ _ | refine Only.setCell ?_ (by intro hh; exfalso; simp at hh; try omega) _ | refine Only.trans ?_ (by assumption)))
    have Yf := (((Y1.set 0 (.slice none 0 0)).set 1 (.slice none 0 0)).set 2 (.slice none 0 0)).set 3 (.bool false)
    have kf : Only [] w ((((w1.setCell ⟨w.heap.size + 1, 0, none⟩ (.slice none 0 0)).setCell ⟨w.heap.size + 1, 1, none⟩ (.slice none 0 0)).setCell ⟨w.heap.size + 1, 2, none⟩ (.slice none 0 0)).setCell ⟨w.heap.size + 1, 3, none⟩ (.bool false)) := K1.then_ (((((Only.refl [w.heap.size + 1] w1).setCell (by simp) _).setCell (by simp) _).setCell (by simp) _).setCell (by simp) _) (by simp)
    obtain ⟨wf, hwf⟩ : ∃ wf, wf = ((((w1.setCell ⟨w.heap.size + 1, 0, none⟩ (.slice none 0 0)).setCell ⟨w.heap.size + 1, 1, none⟩ (.slice none 0 0)).setCell ⟨w.heap.size + 1, 2, none⟩ (.slice none 0 0)).setCell ⟨w.heap.size + 1, 3, none⟩ (.bool false)) := ⟨_, rfl⟩
    rw [← hwf] at Yf kf ⊢
    simp only [List.set] at Yf
    clear hwf g0 g1 g2 g3 p0 p1 p2 p3
    have r0 := Yf.cell 0 rfl
    have r1 := Yf.cell 1 rfl
    have r2 := Yf.cell 2 rfl
    have r3 := Yf.cell 3 rfl
    exact bodyPost_ret (v := .tuple #[.agg #[.slice none 0 0, .slice none 0 0, .slice none 0 0, .bool false], .bool false]) (by simp [results, Tryz.results82, go_sem, r0, r1, r2, r3]) rfl ⟨.inl ⟨Hn.out, _, _, _, _, _, _, _, _, _, _, rfl⟩, kf⟩
  · have hf := validPz_facts hq
    obtain ⟨hp1, hp20, -, -⟩ := hf
    have Hq := Lib.hid hq
    have hpt := trackB_pat (pts_track hq)
    have Hp := Lib.hid hpt
    have hpl : (PM.pts x.points.toNat).length ≤ 1000 := by rw [PM.pts_len]; omega
    have Hpl := Lib.hid hpl
    clear hq hpt hpl
    go_enter Tryz.func82, Tryz.ntmps82
    go_upto_region 3 with (first
      | (go_at_call 79; (with_reducible refine (specIsValidPuzzle_any [.int .i64 x.points, .string x.names, .slice A2 x.moves.length C2] x _ _ (Rp.keep h0 (by with_reducible repeat (first | exact Only.refl _ _ | assumption | refine Only.drewN ?_ _ | refine Only.drew ?_ | refine Only.alloc ?_ _ | refine Only.setCell ?_ (by intro hh; exfalso; simp at hh; try omega) _ | refine Only.trans ?_ (by assumption))))).mono ?_); rintro e w1 ⟨he, t1⟩; rw [Hq.out] at he; subst he)
      | fail "no arm")
    have X1 := X0.keep t1
    have Y1 := Y0.keep t1
    have K1 : Only [] w w1 := (by with_reducible repeat (first | exact Only.refl _ _ | assumption | refine Only.drewN ?_ _ | refine Only.drew ?_ | refine Only.alloc ?_ _ | refine Only.setCell ?_ (by intro hh; exfalso; simp at hh; try omega) _ | refine Only.trans ?_ (by assumption)))
    have hs1 : w.heap.size + 2 ≤ w1.heap.size := by have := t1.size; simp at this; omega
    have g0 := X1.cell 0 rfl
    have g1 := X1.cell 1 rfl
    have g2 := X1.cell 2 rfl
    have ka := (Only.refl [] w1).alloc (.cells #[.slice none 0 0, .slice none 0 0, .slice none 0 0, .bool false] 94)
    have ga0 := ka.cell (by simp) g0
    have ga1 := ka.cell (by simp) g1
    have ga2 := ka.cell (by simp) g2
    clear X0 Y0 t1
    have hc4 : ([.slice none 0 0, .slice none 0 0, .slice none 0 0, .bool false] : List Value).length = 4 := rfl
    go_cut [4] (fun s4 wx => SS1 w1 wx x s4)
    case first =>
      go_region_law (first
        | (go_simp; go_at_call 60; (with_reducible refine (specIdentity_i x.points _ (by omega) (by omega)).mono ?_); rintro e w5 ⟨v5, f5, rfl, r5, F5, t5⟩; have hz5 := t5.size; (try simp at hz5); have X5 := X1.keep ((by with_reducible repeat (first | exact Only.refl _ _ | assumption | refine Only.drew ?_ | refine Only.alloc ?_ _ | refine Only.trans ?_ (by assumption))) : Only [] w1 w5); have q0 := X5.cell 0 rfl; have q1 := X5.cell 1 rfl; have q2 := X5.cell 2 rfl; have kb := (Only.refl [] w5).alloc (.cells #[.slice none 0 0, .slice none 0 0, .slice none 0 0, .bool false] 94); have qa0 := kb.cell (by simp) q0; have qa1 := kb.cell (by simp) q1; have qa2 := kb.cell (by simp) q2)
        | (go_simp; go_at_call 90; (with_reducible refine (searchFrom_srt [.int .i64 x.points, .string x.names, .slice A2 x.moves.length C2] x _ _ (PM.pts x.points.toNat) _ _ (Rp.keep h0 (by with_reducible repeat (first | exact Only.refl _ _ | assumption | refine Only.drewN ?_ _ | refine Only.drew ?_ | refine Only.alloc ?_ _ | refine Only.setCell ?_ (by intro hh; exfalso; simp at hh; try omega) _ | refine Only.trans ?_ (by assumption)))) (Rp.keep r5 (by with_reducible repeat (first | exact Only.refl _ _ | assumption | refine Only.drewN ?_ _ | refine Only.drew ?_ | refine Only.alloc ?_ _ | refine Only.setCell ?_ (by intro hh; exfalso; simp at hh; try omega) _ | refine Only.trans ?_ (by assumption)))) Hq.out Hp.out Hpl.out).mono ?_); rintro e w2 ⟨B1, B2, B3, D1, D2, D3, n3, wh, L, D, fL, fD, rfl, o1, o2, o3, t2, o4, o5, o6, o7, so, ob, fps, fd, fz, o8, o9, o10, o11⟩; have O3 := Lib.hid (expl_from Hq.out o3); have O10 := Lib.hid o10; have O11 := Lib.hid o11; subst o8; clear o3 o10 o11 o1 o2 o4 o5 o6 o7; have hz2 := t2.size; (try simp at hz2); first
        | (have Z := ((Blk.new w1 [.slice none 0 0, .slice none 0 0, .slice none 0 0, .bool false] 94).keep t5).keep t2; have g0 := Z.cell 0 rfl; have g1 := Z.cell 1 rfl; have g2 := Z.cell 2 rfl; have g3 := Z.cell 3 rfl; have p0 := Z.frozen 0; have p1 := Z.frozen 1; have p2 := Z.frozen 2; have p3 := Z.frozen 3)
        | (have Z := (((Blk.new w1 [.slice none 0 0, .slice none 0 0, .slice none 0 0, .bool false] 94).keep ((Only.refl [] _).drew)).keep t5).keep t2; have g0 := Z.cell 0 rfl; have g1 := Z.cell 1 rfl; have g2 := Z.cell 2 rfl; have g3 := Z.cell 3 rfl; have p0 := Z.frozen 0; have p1 := Z.frozen 1; have p2 := Z.frozen 2; have p3 := Z.frozen 3)
        | (have Z := ((Blk.new w5 [.slice none 0 0, .slice none 0 0, .slice none 0 0, .bool false] 94)).keep t2; have g0 := Z.cell 0 rfl; have g1 := Z.cell 1 rfl; have g2 := Z.cell 2 rfl; have g3 := Z.cell 3 rfl; have p0 := Z.frozen 0; have p1 := Z.frozen 1; have p2 := Z.frozen 2; have p3 := Z.frozen 3)
        | (have Z := ((Blk.new w5 [.slice none 0 0, .slice none 0 0, .slice none 0 0, .bool false] 94).keep ((Only.refl [] _).drew)).keep t2; have g0 := Z.cell 0 rfl; have g1 := Z.cell 1 rfl; have g2 := Z.cell 2 rfl; have g3 := Z.cell 3 rfl; have p0 := Z.frozen 0; have p1 := Z.frozen 1; have p2 := Z.frozen 2; have p3 := Z.frozen 3)
        | (have Z := Blk.new w2 [.slice none 0 0, .slice none 0 0, .slice none 0 0, .bool false] 94; have g0 := Z.cell 0 rfl; have g1 := Z.cell 1 rfl; have g2 := Z.cell 2 rfl; have g3 := Z.cell 3 rfl; have p0 := Z.frozen 0; have p1 := Z.frozen 1; have p2 := Z.frozen 2; have p3 := Z.frozen 3))
        | fail "no arm")
      all_goals go_wp2_with fail
      all_goals go_meet
      all_goals have KK5 : Only [] w1 w2 := (by with_reducible repeat (first | exact Only.refl _ _ | assumption | refine Only.drew ?_ | refine Only.alloc ?_ _ | refine Only.trans ?_ (by assumption)))
      all_goals have hK2 : w1.heap.size ≤ w5.heap.size := (by omega)
      all_goals have hbb : ∀ g' ∈ (ob ++ fps.flatten) ++ (fd ++ fz), w1.heap.size ≤ g' := (fun g' hg' => by have := O11.out g' hg'; first | omega | (simp at this; omega))
      all_goals have h10 := O10.out
      all_goals rw [PM.pts_len] at h10
      all_goals first
        | with_reducible exact SS1.of2 KK5 o9 O3.out h10 hbb rfl
        | with_reducible exact SS1.of Z hc4 KK5 o9 O3.out h10 hbb (fun g' hg' e' => by have := O11.out g' hg'; first | omega | (simp at this; omega)) (by omega)
    case rest =>
      have q7 := hcut
      clear hcut
      obtain ⟨b, B1, B2, B3, D1, D2, D3, wh, L, D, so, ob, fps, fd, fz, rfl, B4, o9', o3, o10, o11, K3', hbw⟩ := q7
      have O3 := Lib.hid o3
      have O10 := Lib.hid o10
      have K3 := K1.trans K3'
      have Y1 := Y1.keep K3'
      have hne : b ≠ w.heap.size + 1 := by omega
      have c0 := B4.cell 0 rfl
      have c1 := B4.cell 1 rfl
      have c2 := B4.cell 2 rfl
      have c3 := B4.cell 3 rfl
      clear o3 o10 g0 g1 g2 ga0 ga1 ga2 ka
      have g0 := Y1.cell 0 rfl
      have g1 := Y1.cell 1 rfl
      have g2 := Y1.cell 2 rfl
      have g3 := Y1.cell 3 rfl
      have p0 := Y1.frozen 0
      have p1 := Y1.frozen 1
      have p2 := Y1.frozen 2
      have p3 := Y1.frozen 3
      have Yf := (((Y1.set 0 (.slice B1 L.length D1)).set 1 (.slice B2 D.length D2)).set 2 (.slice B3 so.length D3)).set 3 (.bool wh)
      simp only [List.set] at Yf
      have r0 := Yf.cell 0 rfl
      have r1 := Yf.cell 1 rfl
      have r2 := Yf.cell 2 rfl
      have r3 := Yf.cell 3 rfl
      have hno : ∀ g ∈ (ob ++ fps.flatten) ++ (fd ++ fz), g ∉ [w.heap.size + 1] := fun g hg hm => by have := o11 g hg; simp at hm; omega
      have hpost : ∀ wf, Only [w.heap.size + 1] wc wf → (((expl x = none ∧ ∃ A1 n1 C1 A2 n2 C2 A3 n3 C3 wh', (Ending.returned (.tuple #[.agg #[.slice B1 L.length D1, .slice B2 D.length D2, .slice B3 so.length D3, .bool wh], .bool wh]) : Ending) = .returned (.tuple #[.agg #[.slice A1 n1 C1, .slice A2 n2 C2, .slice A3 n3 C3, .bool wh'], .bool false])) ∨ (∃ t, expl x = some t ∧ ∃ v, (Ending.returned (.tuple #[.agg #[.slice B1 L.length D1, .slice B2 D.length D2, .slice B3 so.length D3, .bool wh], .bool wh]) : Ending) = .returned (.tuple #[v, .bool true]) ∧ SrF w.heap.size wf x t v)) ∧ Only [] w wf) := fun wf ho => by
        refine ⟨?_, K3.then_ ho (by simp)⟩
        have h3 := O3.out
        have h10 := O10.out
        cases wh with
        | false => exact .inl ⟨by simpa using h3, _, _, _, _, _, _, _, _, _, _, rfl⟩
        | true => exact .inr ⟨⟨PM.pts x.points.toNat, L, D⟩, by simpa using h3, _, rfl, B1, B2, B3, D1, D2, D3, so, ob, fps, fd, fz, rfl, o9'.only ho hno, h10, fun g hg => Nat.le_trans K1.size (o11 g hg)⟩
      have Hpost := Lib.hid hpost
      clear hpost
      go_wp2
      go_region
      all_goals go_wp2
      all_goals exact bodyPost_ret (v := .tuple #[.agg #[.slice B1 L.length D1, .slice B2 D.length D2, .slice B3 so.length D3, .bool wh], .bool wh]) (by simp [results, Tryz.results82, go_sem, r0, r1, r2, r3]) rfl (Hpost.out _ (by with_reducible repeat (first | exact Only.refl _ _ | refine Only.drew ?_ | refine Only.setCell ?_ (by simp) _)))
end Go.Proofs.YtlbcjkjoapcppaaGreat
