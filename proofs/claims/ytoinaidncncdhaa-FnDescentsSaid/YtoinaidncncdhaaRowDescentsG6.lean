/- The laws' drawn tracked sets (laws 10, 11). Maps from strings to numbers that a call makes; the key of a list of small numbers. The first pattern with a key, in plain words. The program's proof of a table: what a table is checked with. (Written by mkprf.py.) The laws' drawn puzzles (laws 10, 11). The laws' own comparison of numbers: likeInts (laws 10, 11). Breadth-first search of patterns in plain words (law 16). -/
import Derived.Test.YtoinaidncncdhaaRowDescentsG5
import Derived.Maps.OwnSet
import Derived.StringKeys
import Derived.Laws.BytesArg
import Derived.Test.YtoinaidncncdhaaRowDescentsG1
import Derived.Test.YtoinaidncncdhaaRowDescentsG4
import Derived.Deep.RegionHeld3
import Derived.Deep.DeepCutAuto
import Derived.Deep.AppendLies
import Derived.Deep.RegionLaw
namespace Go.Proofs.Ytoinaidncncdhaa
open Go.RowKit
set_option maxRecDepth 10000

theorem ints_new (w : World) (l : List Int) (e : TypeId) (hl : ∀ x ∈ l, I64 x) (hb : l.length ≤ maxLen) {g : Nat} (hg : g = w.heap.size) :
    IntsA (w.alloc (.cells (l.map (Value.int .i64)).toArray e)) (some ⟨g, 0, none⟩) l.length l [g] ∧ Fresh w.heap.size (w.alloc (.cells (l.map (Value.int .i64)).toArray e)) [g] := by
  subst hg
  have hn := heap_alloc_new w (.cells (l.map (Value.int .i64)).toArray e)
  refine ⟨⟨Nat.le_refl _, hb, hl, fun k hk => ⟨_, 0, rfl, rfl, ?_⟩, by simp, by simp⟩, ⟨by simp, by simp, ?_⟩⟩
  · rw [Nat.zero_add]; exact lit_src w (l.map (Value.int .i64)) e rfl k _ (by simp [hk])
  · intro b hb'
    simp at hb'; subst hb'
    exact ⟨_, _, hn⟩
set_option maxHeartbeats 1000000 in
theorem w6Tracked_any (g : Nat) (fc : List Nat) (l : List UInt8) (w : World) (h : Dice w g fc l) (hl : l.length ≤ 4096) :
    Calls Try.prog 11 #[.pointer (some ⟨g, 0, none⟩)] w fun e w' => ∃ v tr fp, e = .returned v ∧ Rd w' v tr fp ∧ ((∃ r : Int, 0 ≤ r ∧ r < 3 ∧ tr = [r]) ∨ (∃ r : Int, 0 ≤ r ∧ r < 2 ∧ tr = [r, 2])) ∧ Fresh w.heap.size w' fp ∧ Dice w' g fc l ∧ Only [g] w w' := by
  go_enter Try.func11, Try.ntmps11
  go_wp2_with fail
  with_reducible refine (below_any g fc l 2 _ h (by omega) (by omega) hl).mono ?_
  rintro e w1 ⟨r0, rfl, q0, q1, D1, K1⟩
  rcases (show r0 = 0 ∨ r0 = 1 by omega) with rfl | rfl
  · clear q0 q1
    go_wp2_with fail
    with_reducible refine (below_any g fc l 3 _ D1 (by omega) (by omega) hl).mono ?_
    rintro e w2 ⟨r, rfl, q0, q1, D2, K2⟩
    have Q := Lib.hid (ints_new w2 [r] 2 (by intro x hx; simp at hx; subst hx; unfold I64; omega) (by simp [maxLen]) rfl)
    have K := K1.trans K2
    have hs := K.size
    go_wp2
    go_ret
    exact ⟨_, [r], _, rfl, Q.out.1.rd, .inl ⟨r, q0, q1, rfl⟩, Q.out.2.mono hs, D2.keep ((Only.refl _ _).alloc _), K.alloc _⟩
  · clear q0 q1
    go_wp2_with fail
    with_reducible refine (below_any g fc l 2 _ D1 (by omega) (by omega) hl).mono ?_
    rintro e w2 ⟨r, rfl, q0, q1, D2, K2⟩
    have Q := Lib.hid (ints_new w2 [r, 2] 2 (by intro x hx; simp at hx; rcases hx with rfl | rfl <;> unfold I64 <;> omega) (by simp [maxLen]) rfl)
    have K := K1.trans K2
    have hs := K.size
    go_wp2
    go_ret
    exact ⟨_, [r, 2], _, rfl, Q.out.1.rd, .inr ⟨r, q0, q1, rfl⟩, Q.out.2.mono hs, D2.keep ((Only.refl _ _).alloc _), K.alloc _⟩
end Go.Proofs.Ytoinaidncncdhaa

namespace Go.Proofs.Ytoinaidncncdhaa
open Go.RowKit
set_option maxRecDepth 10000
open Go.Maps (Keyed)

/-- the key of a list: a byte each -/
def kB (l : List Int) : ByteArray := strOfNums (l.map fun x => x % 256)
theorem kB_size (l : List Int) : (kB l).size = l.length := by unfold kB; rw [strOfNums_size, List.length_map]
theorem kB_inj : ∀ {l l' : List Int}, (∀ x ∈ l, 0 ≤ x ∧ x < 256) → (∀ x ∈ l', 0 ≤ x ∧ x < 256) → kB l = kB l' → l = l' := by
  intro l l' h h' he
  have hd : (kB l).data.toList = (kB l').data.toList := by rw [he]
  unfold kB at hd
  rw [strOfNums_data, strOfNums_data, List.map_map, List.map_map] at hd
  clear he
  induction l generalizing l' with
  | nil => cases l' with
    | nil => rfl
    | cons y l' => simp at hd
  | cons x l ih => cases l' with
    | nil => simp at hd
    | cons y l' =>
      simp only [List.map_cons, List.cons.injEq] at hd
      have hx := h x (by simp); have hy := h' y (by simp)
      have e1 : x % 256 = x := Int.emod_eq_of_lt hx.1 hx.2
      have e2 : y % 256 = y := Int.emod_eq_of_lt hy.1 hy.2
      have h1 := hd.1
      simp only [Function.comp, e1, e2] at h1
      have h2 := congrArg UInt8.toNat h1
      rw [UInt8.toNat_ofNat', UInt8.toNat_ofNat'] at h2
      have : x = y := by omega
      subst this
      rw [ih (fun z hz => h z (by simp [hz])) (fun z hz => h' z (by simp [hz])) hd.2]
theorem kB_eq {l l' : List Int} (h : ∀ x ∈ l, 0 ≤ x ∧ x < 256) (h' : ∀ x ∈ l', 0 ≤ x ∧ x < 256) : kB l = kB l' ↔ l = l' := ⟨kB_inj h h', fun e => by rw [e]⟩

theorem Try.lawStr : Keyed Try.prog 9 := Go.Maps.string_keyed Try.underlying9
theorem Try.zeroInt (w : World) : (zeroValue 3).run Try.prog w = .ok (.int .i64 0) w := by kernel_rfl
/-- block M is a map of at most k entries; g: what lies at a key -/
def Mp (w : World) (M k : Nat) (g : ByteArray → Option Int) : Prop :=
  ∃ D : DataW Unit, w.ownsMap Try.prog 9 (plainElem Try.prog 3) M k D ∧ ∀ s : ByteArray, s.size ≤ maxLen →
    Go.Maps.has D (.string s.data.toList) = (g s).isSome ∧ ∀ n, g s = some n → D.atKey (.string s.data.toList) (.lit (.int .i64 0)) = .lit (.int .i64 n)
theorem Mp.lt {w : World} {M k : Nat} {g : ByteArray → Option Int} (h : Mp w M k g) : M < w.heap.size := by
  obtain ⟨D, h1, -⟩ := h; exact h1.lt
theorem Mp.frame {w w' : World} {M k : Nat} {g : ByteArray → Option Int} (h : Mp w M k g) (hf : w'.heap[M]? = w.heap[M]?) : Mp w' M k g := by
  obtain ⟨D, ⟨es, c, h1, h2⟩, h3⟩ := h
  exact ⟨D, ⟨es, c, by rw [hf]; exact h1, h2⟩, h3⟩
theorem Mp.only {w w' : World} {fp : List Nat} {M k : Nat} {g : ByteArray → Option Int} (h : Mp w M k g) (ho : Only fp w w') (hn : M ∉ fp) : Mp w' M k g := h.frame (ho.block M h.lt hn)
theorem Mp.keep {w w' : World} {M k : Nat} {g : ByteArray → Option Int} (h : Mp w M k g) (ho : Only [] w w') : Mp w' M k g := h.only ho (by simp)
theorem Mp.made (w : World) {M : Nat} (hM : M = w.heap.size) : Mp (w.alloc (.map #[] 0)) M 0 (fun _ => none) := by
  subst hM
  exact ⟨.map [], World.ownsMap_made _ _ _ _, fun s _ => ⟨rfl, by simp⟩⟩
theorem Mp.congr {w : World} {M k : Nat} {g g' : ByteArray → Option Int} (h : Mp w M k g) (hg : ∀ s, g s = g' s) : Mp w M k g' := by
  have : g = g' := funext hg
  rw [← this]; exact h
section
variable {w : World} {M k : Nat} {g : ByteArray → Option Int}
/-- v, ok := m[k], as an equation -/
theorem Mp.run_ok (h : Mp w M k g) {s : ByteArray} (hs : s.size ≤ maxLen) : (Instr.lookup 80 (.map (some M)) (.string s) true).run Try.prog w = .ok (.tuple #[.int .i64 ((g s).getD 0), .bool (g s).isSome]) w := by
  obtain ⟨D, hown, hg⟩ := h
  obtain ⟨h1, h2⟩ := hg s hs
  obtain ⟨v, ps, hrun, hv⟩ := hown.look_ok Try.lawStr Try.underlying80 (Try.zeroInt w) (plainElem_int Try.underlying3 (by decide)) (Go.WideMaps.keyOf_string_mk Try.underlying9 hs)
  obtain ⟨c, rfl, hc, -⟩ := plainElem_int_inv Try.underlying3 hv
  have hc1 : D.atKey (.string s.data.toList) (.lit (.int .i64 0)) = .lit (.int .i64 c) := congrArg Prod.fst hc
  have hcv : c = (g s).getD 0 := by
    cases hgs : g s with
    | none =>
      rw [hgs] at h1
      rw [Go.Maps.atKey_of_not_has h1] at hc1
      injection hc1 with hc1; injection hc1 with _ hc1; simp [hc1]
    | some n =>
      rw [h2 n hgs] at hc1
      injection hc1 with hc1; injection hc1 with _ hc1; simp [hc1]
  rw [hrun, hcv, h1]
theorem Mp.run_no (h : Mp w M k g) {s : ByteArray} (hs : s.size ≤ maxLen) (hg : g s = none) : (Instr.lookup 80 (.map (some M)) (.string s) true).run Try.prog w = .ok (.tuple #[.int .i64 0, .bool false]) w := by
  rw [h.run_ok hs, hg]; rfl
theorem Mp.run_yes (h : Mp w M k g) {s : ByteArray} (hs : s.size ≤ maxLen) {n : Int} (hg : g s = some n) : (Instr.lookup 80 (.map (some M)) (.string s) true).run Try.prog w = .ok (.tuple #[.int .i64 n, .bool true]) w := by
  rw [h.run_ok hs, hg]; rfl
/-- m[k] = v -/
theorem Mp.run_put (h : Mp w M k g) {s : ByteArray} (hs : s.size ≤ maxLen) {n : Int} (hn : I64 n) (hk : k < maxLen) :
    ∃ w', (Instr.mapUpdate 80 (.map (some M)) (.string s) (.int .i64 n)).run Try.prog w = .ok () w' ∧ Mp w' M (k + 1) (fun s' => if s' = s then some n else g s') ∧ Only [M] w w' := by
  obtain ⟨D, hown, hg⟩ := h
  have hwf : (Lit.int .i64 n).wf = true := WalkArith.wf_i64 hn
  obtain ⟨w', hrun, r1, r2⟩ := hown.store Try.lawStr Try.underlying80 hk (Go.WideMaps.keyOf_string_mk Try.underlying9 hs) (plainElem_int Try.underlying3 hwf)
  have hmap := hown.isMap
  refine ⟨w', hrun, ⟨_, r1, fun s' hs' => ?_⟩, ?_⟩
  · by_cases he : s' = s
    · subst he
      have hkl : WideAt.IsKeyLit (Lit.string s'.data.toList) := trivial
      exact ⟨by rw [Go.Maps.has_put_same hmap hkl]; simp, fun m' hm' => by
        rw [Go.Maps.atKey_put_same hmap hkl]; simp at hm'; rw [hm']⟩
    · have hne : (Lit.string s'.data.toList) ≠ .string s.data.toList := by
        intro e; injection e with e
        apply he
        have : s'.data = s.data := Array.toList_inj.1 e
        cases s'; cases s; simp at this; rw [this]
      obtain ⟨h1, h2⟩ := hg s' hs'
      exact ⟨by rw [Go.Maps.has_put_other hne, h1]; simp [he], fun m' hm' => by
        rw [Go.Maps.atKey_put_other hne]; simp [he] at hm'; exact h2 m' hm'⟩
  · exact (Only.refl _ _).grown r2.grown (by intro j hj _; injection hj with hj; subst hj; simp)
end
theorem Try.infoByte : (Try.prog.info? 5).map (fun i => (i.zero, i.size, i.bytes)) = some (some (.int .u8 0), 1, 1) := by kernel_rfl
theorem madeBytes (n : Nat) : (madeCells (Value.cells (.int .u8 0)) n).toList = List.replicate n (.int .u8 0) := by
  apply List.ext_getElem (by simp [madeCells])
  intro i h1 h2
  simp [madeCells, Value.cells, Nat.mod_one]
theorem step_bytes (l : List Int) (j : Nat) (hj : j < l.length) : ((l.take j).map (fun x => Value.int .u8 (x % 256)) ++ List.replicate (l.length - j) (Value.int .u8 0)).set j (.int .u8 (l[j] % 256)) = (l.take (j + 1)).map (fun x => Value.int .u8 (x % 256)) ++ List.replicate (l.length - (j + 1)) (.int .u8 0) := by
  have hl : ((l.take j).map (fun x => Value.int .u8 (x % 256))).length = j := by rw [List.length_map, List.length_take]; omega
  rw [show l.length - j = (l.length - (j + 1)) + 1 by omega, List.replicate_succ, List.set_append_right _ _ (by omega), hl, Nat.sub_self, take_succ_get l j hj]
  simp only [List.map_append, List.map_cons, List.map_nil, List.append_assoc, List.cons_append, List.nil_append, List.set_cons_zero]
set_option maxHeartbeats 1000000 in
theorem stateKey_rd (v : Value) (l : List Int) (fp : List Nat) (w : World) (h : Rd w v l fp) (hl : l.length ≤ 1000) :
    Calls Try.prog 57 #[v] w fun e w' => e = .returned (.string (kB l)) ∧ Only [] w w' := by
  obtain ⟨a, cap, rfl, hI⟩ := h.ints
  obtain ⟨i0, hi, hz0, hz1, hz2⟩ := info_parts Try.infoByte
  go_enter Try.func57, Try.ntmps57
  go_wp2_with (at_make; refine wpList_make_full _ rfl _ _ 22 rfl w.heap.size 5 i0 _ 1 Try.underlying22 hi hz0 hz1 _ _ _ _ l.length rfl rfl rfl rfl (by rw [hz2]; omega) (by unfold maxLen; omega) (Nat.le_refl _) ?_; intro w1 hown hg)
  rw [madeBytes, Nat.mul_one] at hown
  go_loopw [11] (fun i wr => ∃ j : Nat, j ≤ l.length ∧ i = .int .i64 j ∧
      wr.ownsRow w.heap.size 5 1 (.slice (some ⟨w.heap.size, 0, none⟩) l.length l.length) l.length ((l.take j).map (fun x => Value.int .u8 (x % 256)) ++ List.replicate (l.length - j) (.int .u8 0)) ∧ Only [] w wr)
    (fun i _ => l.length - (intOf i).toNat)
  case atStart => exact ⟨0, Nat.zero_le _, rfl, by simpa using hown, (Only.refl _ _).grown hg (by simp)⟩
  case round =>
    obtain ⟨j, hj, rfl, hO, hK⟩ := hrel
    by_cases hlt : j < l.length
    · obtain ⟨b, off, rfl, -, hc0⟩ := hI.at_ j hlt
      have hc := hK.cell (by simp) hc0
      have hO2 := (hO.stored j (.int .u8 (l[j] % 256))).1
      rw [step_bytes l j hlt] at hO2
      obtain ⟨z2, hc2⟩ : ∃ z, wr.cell? ⟨w.heap.size, j, none⟩ = some z := by
        rw [hO.cellAt j (by omega)]
        exact ⟨_, List.getElem?_eq_getElem (by simp; omega)⟩
      have hf2 := hO.frozenAt j
      have hK2 := hK.setCell (p := ⟨w.heap.size, j, none⟩) (by simp) (.int .u8 (l[j] % 256))
      have HO := Lib.hid hO2
      clear hO hO2 hown hc0
      go_wp2
      go_roundw
      case rel => exact ⟨j + 1, by omega, by go_num, HO.out, hK2⟩
      case measure => simp [intOf]; omega
    · have hjl : j = l.length := by omega
      rw [hjl] at hO
      simp only [Nat.sub_self, List.replicate_zero, List.append_nil, List.take_length] at hO
      have hcv := run_convert_bytes_arg (P := Try.prog) wr 22 5 Try.underlying22 Try.underlying5 w.heap.size 0 l.length l.length (l.map fun x => x % 256) (by simp) (fun i hi => by
        rw [Nat.zero_add, hO.cellAt i (by omega)]
        simp [hi]) 9 Try.underlying9
      have hKB : strOfNums (l.map fun x => x % 256) = kB l := rfl
      rw [hKB] at hcv
      clear hjl hO hown hKB
      go_wp2
      go_ret
      exact ⟨rfl, hK⟩
end Go.Proofs.Ytoinaidncncdhaa

namespace Go.Proofs.Ytoinaidncncdhaa
open Go.RowKit
set_option maxRecDepth 10000

/-- where the first pattern with this key lies -/
def firstG (l : List (List Int)) (s : ByteArray) : Option Int := (l.findIdx? fun p => kB p = s).map fun i : Nat => (i : Int)
theorem firstG_snoc (l : List (List Int)) (p : List Int) (s : ByteArray) : firstG (l ++ [p]) s = match firstG l s with | some i => some i | none => if s = kB p then some (l.length : Int) else none := by
  unfold firstG
  rw [List.findIdx?_append]
  cases h : l.findIdx? (fun p => decide (kB p = s)) with
  | some i => simp
  | none =>
    by_cases hp : kB p = s
    · simp [hp]
    · have : ¬ s = kB p := fun e => hp e.symm
      simp [hp, this]
def Byt (l : List Int) : Prop := ∀ x ∈ l, 0 ≤ x ∧ x < 256
theorem firstG_idx {l : List (List Int)} (h : ∀ p ∈ l, Byt p) {q : List Int} (hq : Byt q) : firstG l (kB q) = if 0 ≤ idxL l q then some (idxL l q) else none := by
  have hfun : l.findIdx? (fun p => decide (kB p = kB q)) = l.findIdx? (fun p => decide (p = q)) := by
    induction l with
    | nil => rfl
    | cons p l ih =>
      rw [List.findIdx?_cons, List.findIdx?_cons, ih (fun r hr => h r (by simp [hr]))]
      have : decide (kB p = kB q) = decide (p = q) := by
        rw [decide_eq_decide]; exact kB_eq (h p (by simp)) hq
      rw [this]
  unfold firstG idxL idxF
  rw [hfun]
  cases l.findIdx? (fun p => decide (p = q)) with
  | some i => simp
  | none => simp
theorem inc_len_le2 {n : Int} {l : List Int} (h : trackB n l = true) : (l.length : Int) ≤ n := by
  obtain ⟨h0, h1⟩ := trackB_iff.1 h
  rcases h1.len with h2 | h2 <;> omega
theorem mem_take_stepR' {l : List (List Int)} {j : Nat} (h : j < l.length) {P : List Int → Prop} (h1 : ∀ x ∈ l.take j, P x) (h2 : P l[j]) : ∀ x ∈ l.take (j + 1), P x := by
  rw [take_succ_get l j h]
  intro x hx
  rcases List.mem_append.1 hx with hx | hx
  · exact h1 x hx
  · simp at hx; subst hx; exact h2
theorem patB_byt {n : Int} {k : Nat} {l : List Int} (h : patB n k l = true) (hn : n ≤ 256) : Byt l := fun x hx => by
  have := (patB_iff.1 h).2.1 x hx; omega
end Go.Proofs.Ytoinaidncncdhaa

namespace Go.Proofs.Ytoinaidncncdhaa
open Go.RowKit
set_option maxRecDepth 10000

theorem Mp.mono {w : World} {M k k' : Nat} {g : ByteArray → Option Int} (h : Mp w M k g) (hk : k ≤ k') : Mp w M k' g := by
  obtain ⟨D, h1, h2⟩ := h
  exact ⟨D, h1.mono hk, h2⟩
theorem step_push2 {P : Program} {α : Type} [Rp α] {ops : Array Oper} {o : Oper} {a : Act} {w : World} {Q : Exit → Act → World → Prop} {K : Act → World → Prop} {E : Prop} (hgd : o.guard = none) (s x : Operand) (t : TypeId)
    (ho : o.op = .call { callee := .builtin .append, args := #[s, x], argTypes := #[t, t] })
    (B : Nat) (e : TypeId) (i : TypeInfo) (z : Value) (bytes : Nat) (ht : P.underlying t = some (.slice e)) (hi : P.info? e = some i) (hz : i.zero = some z)
    (hsize : i.size = Rp.size α) (hby : i.bytes = bytes) (hzs : z.cells.size = Rp.size α) (hsz : 0 < Rp.size α) (hbb : bytes ≤ 65536)
    (w0 : World) (v : Value) (l : List α) (fs : List (List Nat)) (hs : a.eval s = v) (hA : Acc B e w0 v l fs) (hK0 : Only [] w0 w) (hB : B ≤ w0.heap.size)
    (g c : Nat) (cs : List Value) (y : α) (fp : List Nat) (hx : a.eval x = .slice (some ⟨g, 0, none⟩) 1 c) (hsrc : ∀ j u, cs[j]? = some u → w.cell? ⟨g, j, none⟩ = some u) (hcs : ∀ u ∈ cs, u.oneCell' = true)
    (hy : Rp.rep w cs y fp) (hap : ∀ b ∈ fp, v.ownBlock ≠ some b) (hlen : l.length + 1 ≤ 1073741824)
    (h : ∀ v' w', Acc B e w' v' (l ++ [y]) (fs ++ [fp]) → Only v.ownBlock.toList w w' → (v'.ownBlock = v.ownBlock ∨ v'.ownBlock = some w.heap.size) → K (a.put o.dst v') w') : if Region.wanted o (yielded ops a.tmps) = true then Oper.wp P o a w K Q else E := by
  rw [if_pos (by simp [Region.wanted, hgd])]
  exact wp_push2 s x t ho B e i z bytes ht hi hz hsize hby hzs hsz hbb w0 v l fs hs hA hK0 hB g c cs y fp hx hsrc hcs hy hap hlen fun v' w' h1 h2 _ _ h5 => h v' w' h1 h2 h5
/-- block g is the proof of a table -/
def Prf (w : World) (g : Nat) (x : Puzzle) (t : Table) : Prop :=
  ∃ v0 v1 v2 vl vm M f0 f1 f2 fl fm k, Blk w g [v0, v1, v2, vl, vm, .map (some M)] ∧ Rd w v0 t.tracked f0 ∧ Rd w v1 t.patterns f1 ∧ Rd w v2 t.distances f2 ∧ Rd w vl (ltrs x.moves.length) fl ∧
    Rd w vm ((ltrs x.moves.length).map (mv x.moves)) fm ∧ Mp w M k (firstG t.patterns)
theorem Prf.keep {w w' : World} {g : Nat} {x : Puzzle} {t : Table} (h : Prf w g x t) (ho : Only [] w w') : Prf w' g x t := by
  obtain ⟨v0, v1, v2, vl, vm, M, f0, f1, f2, fl, fm, k, hb, h0, h1, h2, h3, h4, h5⟩ := h
  exact ⟨v0, v1, v2, vl, vm, M, f0, f1, f2, fl, fm, k, hb.keep ho, Rp.keep h0 ho, Rp.keep h1 ho, Rp.keep h2 ho, Rp.keep h3 ho, Rp.keep h4 ho, h5.keep ho⟩
/-- the proof as it is begun: letters, an empty map -/
def NP0 (Wb wx : World) (v : Value) (S : List Value) (n : Nat) : Prop :=
  ∃ g M vl fl, v = .pointer (some ⟨g, 0, none⟩) ∧ Blk wx g (S ++ [vl, .slice none 0 0, .map (some M)]) ∧ Mp wx M 0 (fun _ => none) ∧ Rd wx vl (ltrs n) fl ∧ (∀ b ∈ fl, Wb.heap.size ≤ b) ∧ M ∉ fl ∧ g ∉ fl ∧ g ≠ M ∧ Wb.heap.size ≤ g ∧ Wb.heap.size ≤ M ∧ Only [] Wb wx
set_option maxHeartbeats 4000000 in
theorem newProof_bad (cs ds : List Value) (x : Puzzle) (t : Table) (f1 f2 : List Nat) (w : World) (h : Rp.rep w cs x f1) (h2 : Rp.rep w ds t f2) (hc : ¬ (validPz x = true ∧ wfT t = true ∧ trackB x.points t.tracked = true)) :
    Calls Try.prog 35 #[.agg cs.toArray, .agg ds.toArray] w fun e w' => e = .returned (.tuple #[.pointer none, .bool false]) ∧ Only [] w w' := by
  have h0 := h
  have h20 := h2
  obtain ⟨v2, rfl, p0, p1, hm⟩ := h
  obtain ⟨AG, CG, obg, fpg, rfl, hfpg, hsg⟩ := hm.open_
  obtain ⟨u0, u1, u2, q0, q1, q2, rfl, rfl, r0, r1, r2⟩ := h2
  obtain ⟨A0, C0, rfl, I0⟩ := r0.ints
  obtain ⟨A1, C1, ob, fps, rfl, -, hs⟩ := r1.open_
  obtain ⟨A2, C2, rfl, I2⟩ := r2.ints
  have bG := hsg.bound
  have b0 := I0.bound
  have b1 := hs.bound
  have hB2 := Blk.new_at (w := w.alloc (.cells [.int .i64 x.points, .string x.names, .slice AG x.moves.length CG].toArray 29)) (g := w.heap.size + 1) (cs := [.slice A0 t.tracked.length C0, .slice A1 t.patterns.length C1, .slice A2 t.distances.length C2]) (t := 33) (by simp)
  have hB1 := Blk.keep (Blk.new_at (w := w) (cs := [.int .i64 x.points, .string x.names, .slice AG x.moves.length CG]) (t := 29) rfl) ((Only.refl [] _).alloc (.cells [.slice A0 t.tracked.length C0, .slice A1 t.patterns.length C1, .slice A2 t.distances.length C2].toArray 33))
  rcases hv : validPz x
  · go_enter Try.func35, Try.ntmps35
    go_wp2_with ((go_at_call 75; (with_reducible refine (implIsValidPuzzle_any [.int .i64 x.points, .string x.names, .slice AG x.moves.length CG] x _ _ (Rp.keep h0 (by with_reducible repeat (first | exact Only.refl _ _ | assumption | refine Only.drewN ?_ _ | refine Only.drew ?_ | refine Only.alloc ?_ _ | refine Only.setCell ?_ (by intro hh; exfalso; simp at hh; try omega) _ | refine Only.trans ?_ (by assumption))))).mono ?_); rintro e w1 ⟨he, t1⟩; rw [hv] at he; subst he; have c1 := hB1.keep t1; have c2 := hB2.keep t1; have y0 := c1.cell 0 rfl; have z0 := c2.cell 0 rfl; have z1 := c2.cell 1 rfl; have z2 := c2.cell 2 rfl))
    refine bodyPost_ret (v := .tuple #[.pointer none, .bool false]) (by simp [results, Try.results35, go_sem]) rfl ⟨rfl, (by with_reducible repeat (first | exact Only.refl _ _ | assumption | refine Only.drewN ?_ _ | refine Only.drew ?_ | refine Only.alloc ?_ _ | refine Only.setCell ?_ (by intro hh; exfalso; simp at hh; try omega) _ | refine Only.trans ?_ (by assumption)))⟩
  obtain ⟨g1, g2, g3, g4⟩ := validPz_facts hv
  rcases hw : wfT t
  · go_enter Try.func35, Try.ntmps35
    go_wp2_with (first | (go_at_call 75; (with_reducible refine (implIsValidPuzzle_any [.int .i64 x.points, .string x.names, .slice AG x.moves.length CG] x _ _ (Rp.keep h0 (by with_reducible repeat (first | exact Only.refl _ _ | assumption | refine Only.drewN ?_ _ | refine Only.drew ?_ | refine Only.alloc ?_ _ | refine Only.setCell ?_ (by intro hh; exfalso; simp at hh; try omega) _ | refine Only.trans ?_ (by assumption))))).mono ?_); rintro e w1 ⟨he, t1⟩; rw [hv] at he; subst he; have c1 := hB1.keep t1; have c2 := hB2.keep t1; have y0 := c1.cell 0 rfl; have z0 := c2.cell 0 rfl; have z1 := c2.cell 1 rfl; have z2 := c2.cell 2 rfl) | (go_at_call 52; (with_reducible refine (implWfTable_any [.slice A0 t.tracked.length C0, .slice A1 t.patterns.length C1, .slice A2 t.distances.length C2] t _ _ (Rp.keep h20 (by with_reducible repeat (first | exact Only.refl _ _ | assumption | refine Only.drewN ?_ _ | refine Only.drew ?_ | refine Only.alloc ?_ _ | refine Only.setCell ?_ (by intro hh; exfalso; simp at hh; try omega) _ | refine Only.trans ?_ (by assumption))))).mono ?_); rintro e w2 ⟨he, t2⟩; rw [hw] at he; subst he; have y0' := (c1.keep t2).cell 0 rfl; have z0' := (c2.keep t2).cell 0 rfl))
    refine bodyPost_ret (v := .tuple #[.pointer none, .bool false]) (by simp [results, Try.results35, go_sem]) rfl ⟨rfl, (by with_reducible repeat (first | exact Only.refl _ _ | assumption | refine Only.drewN ?_ _ | refine Only.drew ?_ | refine Only.alloc ?_ _ | refine Only.setCell ?_ (by intro hh; exfalso; simp at hh; try omega) _ | refine Only.trans ?_ (by assumption)))⟩
  rcases ht : trackB x.points t.tracked
  · go_enter Try.func35, Try.ntmps35
    go_wp2_with (first | (go_at_call 75; (with_reducible refine (implIsValidPuzzle_any [.int .i64 x.points, .string x.names, .slice AG x.moves.length CG] x _ _ (Rp.keep h0 (by with_reducible repeat (first | exact Only.refl _ _ | assumption | refine Only.drewN ?_ _ | refine Only.drew ?_ | refine Only.alloc ?_ _ | refine Only.setCell ?_ (by intro hh; exfalso; simp at hh; try omega) _ | refine Only.trans ?_ (by assumption))))).mono ?_); rintro e w1 ⟨he, t1⟩; rw [hv] at he; subst he; have c1 := hB1.keep t1; have c2 := hB2.keep t1; have y0 := c1.cell 0 rfl; have z0 := c2.cell 0 rfl; have z1 := c2.cell 1 rfl; have z2 := c2.cell 2 rfl) | (go_at_call 52; (with_reducible refine (implWfTable_any [.slice A0 t.tracked.length C0, .slice A1 t.patterns.length C1, .slice A2 t.distances.length C2] t _ _ (Rp.keep h20 (by with_reducible repeat (first | exact Only.refl _ _ | assumption | refine Only.drewN ?_ _ | refine Only.drew ?_ | refine Only.alloc ?_ _ | refine Only.setCell ?_ (by intro hh; exfalso; simp at hh; try omega) _ | refine Only.trans ?_ (by assumption))))).mono ?_); rintro e w2 ⟨he, t2⟩; rw [hw] at he; subst he; have y0' := (c1.keep t2).cell 0 rfl; have z0' := (c2.keep t2).cell 0 rfl) | (go_at_call 76; (with_reducible refine (isTracked_rd x.points _ t.tracked _ _ (Rp.keep r0 (by with_reducible repeat (first | exact Only.refl _ _ | assumption | refine Only.drewN ?_ _ | refine Only.drew ?_ | refine Only.alloc ?_ _ | refine Only.setCell ?_ (by intro hh; exfalso; simp at hh; try omega) _ | refine Only.trans ?_ (by assumption)))) (by omega) (by omega)).mono ?_); rintro e w3 ⟨he, m3, rfl⟩; rw [ht] at he; subst he))
    refine bodyPost_ret (v := .tuple #[.pointer none, .bool false]) (by simp [results, Try.results35, go_sem]) rfl ⟨rfl, (by with_reducible repeat (first | exact Only.refl _ _ | assumption | refine Only.drewN ?_ _ | refine Only.drew ?_ | refine Only.alloc ?_ _ | refine Only.setCell ?_ (by intro hh; exfalso; simp at hh; try omega) _ | refine Only.trans ?_ (by assumption)))⟩
  exact absurd ⟨hv, hw, ht⟩ hc
set_option maxHeartbeats 8000000 in
theorem newProof_any (cs ds : List Value) (x : Puzzle) (t : Table) (f1 f2 : List Nat) (w : World) (h : Rp.rep w cs x f1) (h2 : Rp.rep w ds t f2) (hv : validPz x = true) (hw : wfT t = true) (ht : trackB x.points t.tracked = true) :
    Calls Try.prog 35 #[.agg cs.toArray, .agg ds.toArray] w fun e w' => ∃ q, e = .returned (.tuple #[.pointer q, .bool (checkT x t)]) ∧ (checkT x t = true → ∃ g, q = some ⟨g, 0, none⟩ ∧ Prf w' g x t) ∧ Only [] w w' := by
  have h0 := h
  have h20 := h2
  obtain ⟨v2, rfl, p0, p1, hm⟩ := h
  obtain ⟨AG, CG, obg, fpg, rfl, hfpg, hsg⟩ := hm.open_
  obtain ⟨u0, u1, u2, q0, q1, q2, rfl, rfl, r0, r1, r2⟩ := h2
  obtain ⟨A0, C0, rfl, I0⟩ := r0.ints
  obtain ⟨A1, C1, ob, fps, rfl, -, hs⟩ := r1.open_
  obtain ⟨A2, C2, rfl, I2⟩ := r2.ints
  have bG := hsg.bound
  have b0 := I0.bound
  have b1 := hs.bound
  have hB2 := Blk.new_at (w := w.alloc (.cells [.int .i64 x.points, .string x.names, .slice AG x.moves.length CG].toArray 29)) (g := w.heap.size + 1) (cs := [.slice A0 t.tracked.length C0, .slice A1 t.patterns.length C1, .slice A2 t.distances.length C2]) (t := 33) (by simp)
  have hB1 := Blk.keep (Blk.new_at (w := w) (cs := [.int .i64 x.points, .string x.names, .slice AG x.moves.length CG]) (t := 29) rfl) ((Only.refl [] _).alloc (.cells [.slice A0 t.tracked.length C0, .slice A1 t.patterns.length C1, .slice A2 t.distances.length C2].toArray 33))
  obtain ⟨g1, g2, g3, g4⟩ := validPz_facts hv
  have hwf := wfT_iff.1 hw
  have hn3 := hwf.2.1.2
  have hck : checkT x t = t.patterns.all (patB x.points t.tracked.length) := by unfold checkT; rw [hv, hw, ht]; rfl
  have Hck := Lib.hid hck
  have HWF := Lib.hid hwf
  clear hck hwf
  go_enter Try.func35, Try.ntmps35
  go_upto_region 3 with (first | (go_at_call 75; (with_reducible refine (implIsValidPuzzle_any [.int .i64 x.points, .string x.names, .slice AG x.moves.length CG] x _ _ (Rp.keep h0 (by with_reducible repeat (first | exact Only.refl _ _ | assumption | refine Only.drewN ?_ _ | refine Only.drew ?_ | refine Only.alloc ?_ _ | refine Only.setCell ?_ (by intro hh; exfalso; simp at hh; try omega) _ | refine Only.trans ?_ (by assumption))))).mono ?_); rintro e w1 ⟨he, t1⟩; rw [hv] at he; subst he; have c1 := hB1.keep t1; have c2 := hB2.keep t1; have y0 := c1.cell 0 rfl; have z0 := c2.cell 0 rfl; have z1 := c2.cell 1 rfl; have z2 := c2.cell 2 rfl) | (go_at_call 52; (with_reducible refine (implWfTable_any [.slice A0 t.tracked.length C0, .slice A1 t.patterns.length C1, .slice A2 t.distances.length C2] t _ _ (Rp.keep h20 (by with_reducible repeat (first | exact Only.refl _ _ | assumption | refine Only.drewN ?_ _ | refine Only.drew ?_ | refine Only.alloc ?_ _ | refine Only.setCell ?_ (by intro hh; exfalso; simp at hh; try omega) _ | refine Only.trans ?_ (by assumption))))).mono ?_); rintro e w2 ⟨he, t2⟩; rw [hw] at he; subst he; have y0' := (c1.keep t2).cell 0 rfl; have z0' := (c2.keep t2).cell 0 rfl) | (go_at_call 76; (with_reducible refine (isTracked_rd x.points _ t.tracked _ _ (Rp.keep r0 (by with_reducible repeat (first | exact Only.refl _ _ | assumption | refine Only.drewN ?_ _ | refine Only.drew ?_ | refine Only.alloc ?_ _ | refine Only.setCell ?_ (by intro hh; exfalso; simp at hh; try omega) _ | refine Only.trans ?_ (by assumption)))) (by omega) (by omega)).mono ?_); rintro e w3 ⟨he, m3, rfl⟩; rw [ht] at he; subst he))
  have hKw : Only [] w (w2.drewN m3) := (by with_reducible repeat (first | exact Only.refl _ _ | assumption | refine Only.drewN ?_ _ | refine Only.drew ?_ | refine Only.alloc ?_ _ | refine Only.setCell ?_ (by intro hh; exfalso; simp at hh; try omega) _ | refine Only.trans ?_ (by assumption)))
  have c1' := (c1.keep t2).keep (Only.ofDrewN w2 m3 [])
  have c2' := (c2.keep t2).keep (Only.ofDrewN w2 m3 [])
  clear y0 z0 z1 z2 y0' z0' c1 c2 hB1 hB2
  generalize w2.drewN m3 = Wb at *
  have hmm := @run_makeMap Try.prog
  go_cut [6] (fun s6 wx => NP0 Wb wx s6 [.slice A0 t.tracked.length C0, .slice A1 t.patterns.length C1, .slice A2 t.distances.length C2] x.moves.length)
  case first =>
    have y0 := c1'.cell 0 rfl
    have y1 := c1'.cell 1 rfl
    have y2 := c1'.cell 2 rfl
    have z0 := c2'.cell 0 rfl
    have z1 := c2'.cell 1 rfl
    have z2 := c2'.cell 2 rfl
    go_region_held3 (fun w' => Only [] Wb w' ∧ w'.cell? ⟨w.heap.size, 2, none⟩ = some (.slice AG x.moves.length CG) ∧ w'.cell? ⟨w.heap.size + 1, 0, none⟩ = some (.slice A0 t.tracked.length C0) ∧ w'.cell? ⟨w.heap.size + 1, 1, none⟩ = some (.slice A1 t.patterns.length C1) ∧ w'.cell? ⟨w.heap.size + 1, 2, none⟩ = some (.slice A2 t.distances.length C2)) (((refine and_of ?_ (fun h__ => ⟨h__.cell (by simp) y2, h__.cell (by simp) z0, h__.cell (by simp) z1, h__.cell (by simp) z2⟩)); first | exact (Only.refl _ _).drew | exact ((Only.refl _ _).drewN _).drew | exact Only.trans (And.left (by assumption)) (by assumption) | exact Only.alloc (And.left (by assumption)) _ | assumption)) (first | (go_at_call 77; (with_reducible refine (letters_any x.moves.length _ (by omega)).mono ?_); rintro e w5 ⟨u5, fl, rfl, r5, F5, t5⟩; obtain ⟨A3, C3, rfl, -⟩ := r5.ints) | fail "no arm")
    · go_wp2_with fail
      go_meet
      have hw5 : Only [] Wb w5 := (Only.refl [] Wb).drew.trans t5
      have hs5 := hw5.size
      exact ⟨w5.heap.size + 1, w5.heap.size, _, fl, rfl, Blk.new_at (w := w5.alloc (.map #[] 0)) (by simp), (Mp.made w5 rfl).keep ((Only.refl _ _).alloc _), Rp.keep r5 (by with_reducible repeat (first | exact Only.refl _ _ | assumption | refine Only.drewN ?_ _ | refine Only.drew ?_ | refine Only.alloc ?_ _ | refine Only.setCell ?_ (by intro hh; exfalso; simp at hh; try omega) _ | refine Only.trans ?_ (by assumption))), F5.ge, fun hm => by have := F5.lt _ hm; omega, fun hm => by have := F5.lt _ hm; omega, by omega, by omega, by omega, (by with_reducible repeat (first | exact Only.refl _ _ | assumption | refine Only.drewN ?_ _ | refine Only.drew ?_ | refine Only.alloc ?_ _ | refine Only.setCell ?_ (by intro hh; exfalso; simp at hh; try omega) _ | refine Only.trans ?_ (by assumption)))⟩
    · go_wp2_with fail
      go_meet
      have hw5 : Only [] (Wb.alloc (.map #[] 0)) w5 := (Only.refl [] (Wb.alloc (.map #[] 0))).drew.trans t5
      have hs5 := hw5.size
      have hsa : (Wb.alloc (.map #[] 0)).heap.size = Wb.heap.size + 1 := by simp
      have hFge : ∀ b ∈ fl, Wb.heap.size + 1 ≤ b := fun b hb => by have := F5.ge b hb; simp at this; omega
      exact ⟨w5.heap.size, Wb.heap.size, _, fl, rfl, Blk.new_at (w := w5) rfl, ((Mp.made Wb rfl).keep hw5).keep ((Only.refl _ _).alloc _), Rp.keep r5 (by with_reducible repeat (first | exact Only.refl _ _ | assumption | refine Only.drewN ?_ _ | refine Only.drew ?_ | refine Only.alloc ?_ _ | refine Only.setCell ?_ (by intro hh; exfalso; simp at hh; try omega) _ | refine Only.trans ?_ (by assumption))), fun b hb => by have := hFge b hb; omega, fun hm => by have := hFge _ hm; omega, fun hm => by have := F5.lt _ hm; omega, by omega, by omega, by omega, (by with_reducible repeat (first | exact Only.refl _ _ | assumption | refine Only.drewN ?_ _ | refine Only.drew ?_ | refine Only.alloc ?_ _ | refine Only.setCell ?_ (by intro hh; exfalso; simp at hh; try omega) _ | refine Only.trans ?_ (by assumption)))⟩
  case rest =>
  obtain ⟨g, M, vl, fl, rfl, D6, hMp0, rL, hfl, hMfl, hgfl, hgM, hgW, hMW, hK1⟩ := hcut
  obtain ⟨W1, hnew⟩ : ∃ W, W = wc := ⟨_, rfl⟩
  subst hnew
  have hWlt := c2'.lt
  have e1 := c1'.keep hK1
  have e2 := c2'.keep hK1
  have hKw1 : Only [] w W1 := hKw.trans hK1
  have hwM0 : w.heap.size ∉ [M] := by simp; omega
  have hwM1 : w.heap.size + 1 ∉ [M] := by simp; omega
  have hgMn : g ∉ [M] := by simpa using hgM
  have hMw : ∀ wr, Only [M] W1 wr → Only [] w wr := fun wr hK => hKw1.then_ hK (fun b hb hl => by simp at hb; omega)
  have HMw := Lib.hid hMw
  have y0 := e2.cell 1 rfl
  clear c1' c2' hMw
  go_wp2
  go_loopw [40] (fun i wr => ∃ j : Nat, j ≤ t.patterns.length ∧ i = .int .i64 j ∧ (∀ p ∈ t.patterns.take j, patB x.points t.tracked.length p = true) ∧ Mp wr M j (firstG (t.patterns.take j)) ∧ Only [M] W1 wr)
    (fun i _ => t.patterns.length - (intOf i).toNat)
  case atStart => exact ⟨0, Nat.zero_le _, rfl, by simp, hMp0, Only.refl _ _⟩
  case round =>
    clear y0
    obtain ⟨j, hj, rfl, hr, hMp, hK⟩ := hrel
    have Hr := Lib.hid hr; clear hr
    have hKW := HMw.out wr hK
    have y0 := (e1.only hK hwM0).cell 0 rfl
    have y1 := (e1.only hK hwM0).cell 1 rfl
    have y2 := (e1.only hK hwM0).cell 2 rfl
    have z0 := (e2.only hK hwM1).cell 0 rfl
    have d5 := (D6.only hK hgMn).cell 5 rfl
    by_cases hlt : j < t.patterns.length
    · obtain ⟨b, off, u, rfl, -, hc0, hu0⟩ := hs.atRow j hlt
      have hc := hKW.cell (by simp) hc0
      have hu := Rp.keep hu0 hKW
      have hpl := (patB_iff.1 (HWF.out.2.2.2.1 _ (List.getElem_mem hlt))).1
      have htl := inc_len_le2 HWF.out.1
      have hkl : t.patterns[j].length ≤ 1000 := by omega
      have hks : (kB t.patterns[j]).size ≤ maxLen := by rw [kB_size]; unfold maxLen; omega
      have Hks := Lib.hid hks
      clear hc0 hu0 hpl hks
      rcases c3 : patB x.points t.tracked.length t.patterns[j]
      · have hbad : checkT x t = false := by
          rw [Hck.out, List.all_eq_false]; exact ⟨t.patterns[j], List.getElem_mem hlt, by simp [c3]⟩
        have Hbad := Lib.hid hbad; clear hbad
        go_wp2_with ((go_at_call 78; (with_reducible refine (isPattern_rd x.points t.tracked.length u t.patterns[j] _ _ hu (by omega) (by omega) b0).mono ?_); rintro e w4 ⟨he, m4, rfl⟩; rw [c3] at he; subst he))
        refine bodyPost_ret (v := .tuple #[.pointer none, .bool false]) (by simp [results, Try.results35, go_sem]) rfl ⟨none, by rw [Hbad.out], fun hh => (by rw [Hbad.out] at hh; cases hh), (by with_reducible repeat (first | exact Only.refl _ _ | assumption | refine Only.drewN ?_ _ | refine Only.drew ?_ | refine Only.alloc ?_ _ | refine Only.setCell ?_ (by intro hh; exfalso; simp at hh; try omega) _ | refine Only.trans ?_ (by assumption)))⟩
      · have hsn := fun s => firstG_snoc (t.patterns.take j) t.patterns[j] s
        rw [← take_succ_get t.patterns j hlt] at hsn
        have hjl : (t.patterns.take j).length = j := by rw [List.length_take]; omega
        have hset := mem_take_stepR' hlt (P := fun p => patB x.points t.tracked.length p = true) Hr.out c3
        have Hset := Lib.hid hset
        have hIj : I64 (j : Int) := by unfold I64; omega
        have HIj := Lib.hid hIj
        clear hset hIj
        rcases hfi : firstG (t.patterns.take j) (kB t.patterns[j]) with _ | n
        · have hnext : ∀ s, (if s = kB t.patterns[j] then some (j : Int) else firstG (t.patterns.take j) s) = firstG (t.patterns.take (j + 1)) s := by
            intro s
            rw [hsn s]
            by_cases he : s = kB t.patterns[j]
            · subst he; rw [hfi, hjl]
            · rw [if_neg he]; cases firstG (t.patterns.take j) s <;> simp [he]
          have Hnext := Lib.hid hnext
          have Hfi := Lib.hid hfi
          clear hnext hsn hfi hjl
          go_wp2_with ((go_at_call 78; (with_reducible refine (isPattern_rd x.points t.tracked.length u t.patterns[j] _ _ hu (by omega) (by omega) b0).mono ?_); rintro e w4 ⟨he, k4⟩; rw [c3] at he; subst he; have hk4 := Drew.only k4 []; have d5' := hk4.cell (by simp) d5; have hu4 := Rp.keep hu hk4; have hMp4 := hMp.keep hk4; have hK4 := hK.keepThen hk4))
          go_region_held3 (fun w' => Only [] w4 w' ∧ w'.cell? ⟨g, 5, none⟩ = some (.map (some M))) (((refine and_of ?_ (fun h__ => h__.cell (by simp) d5')); first | exact (Only.refl _ _).drew | exact ((Only.refl _ _).drewN _).drew | exact Only.trans (And.left (by assumption)) (by assumption) | exact Only.alloc (And.left (by assumption)) _ | assumption)) (first | (go_at_call 57; (with_reducible refine (stateKey_rd u t.patterns[j] _ _ (Rp.keep hu4 (And.left (by assumption))) hkl).mono ?_); rintro e w5 ⟨rfl, t5⟩; have hO5 := Only.trans (And.left (by assumption)) t5; have d55 := t5.cell (by simp) (And.right (by assumption)); have hMp5 := hMp4.keep hO5; have hrun5 := hMp5.run_no Hks.out Hfi.out) | fail "no arm")
          go_wp2
          go_region_held3 (fun w' => Only [M] w5 w' ∧ w'.cell? ⟨g, 5, none⟩ = some (.map (some M))) ((refine and_of ?_ (fun h__ => h__.cell hgMn d55); first | exact (Only.refl _ _).drew | exact Only.keepThen (And.left (by assumption)) (by assumption) | exact Only.trans (And.left (by assumption)) (by assumption) | assumption)) (first | (go_at_call 57; (with_reducible refine (stateKey_rd u t.patterns[j] _ _ (Rp.keep hu4 (hO5.trans (by with_reducible repeat (first | exact Only.refl _ _ | assumption | refine Only.drewN ?_ _ | refine Only.drew ?_ | refine Only.alloc ?_ _ | refine Only.setCell ?_ (by intro hh; exfalso; simp at hh; try omega) _ | refine Only.trans ?_ (by assumption))))) hkl).mono ?_); rintro e w6 ⟨rfl, t6⟩; have hMp6 := hMp5.keep (Only.trans ((Only.refl _ _).drew) t6); obtain ⟨w7, hrun7, hM7, hO7⟩ := hMp6.run_put Hks.out HIj.out (by unfold maxLen; omega)) | fail "no arm")
          go_wp2
          go_roundw
          case rel => exact ⟨j + 1, by omega, by go_num, Hset.out, hM7.congr Hnext.out, ((hK4.keepThen hO5).keepThen (Only.trans ((Only.refl _ _).drew) t6)).trans hO7⟩
          case measure => simp [intOf]; omega
        · have hnext : ∀ s, firstG (t.patterns.take j) s = firstG (t.patterns.take (j + 1)) s := by
            intro s
            rw [hsn s]
            by_cases he : s = kB t.patterns[j]
            · subst he; rw [hfi]
            · cases firstG (t.patterns.take j) s <;> simp [he]
          have Hnext := Lib.hid hnext
          have Hfi := Lib.hid hfi
          clear hnext hsn hfi hjl
          go_wp2_with ((go_at_call 78; (with_reducible refine (isPattern_rd x.points t.tracked.length u t.patterns[j] _ _ hu (by omega) (by omega) b0).mono ?_); rintro e w4 ⟨he, k4⟩; rw [c3] at he; subst he; have hk4 := Drew.only k4 []; have d5' := hk4.cell (by simp) d5; have hu4 := Rp.keep hu hk4; have hMp4 := hMp.keep hk4; have hK4 := hK.keepThen hk4))
          go_region_held3 (fun w' => Only [] w4 w' ∧ w'.cell? ⟨g, 5, none⟩ = some (.map (some M))) (((refine and_of ?_ (fun h__ => h__.cell (by simp) d5')); first | exact (Only.refl _ _).drew | exact ((Only.refl _ _).drewN _).drew | exact Only.trans (And.left (by assumption)) (by assumption) | exact Only.alloc (And.left (by assumption)) _ | assumption)) (first | (go_at_call 57; (with_reducible refine (stateKey_rd u t.patterns[j] _ _ (Rp.keep hu4 (And.left (by assumption))) hkl).mono ?_); rintro e w5 ⟨rfl, t5⟩; have hO5 := Only.trans (And.left (by assumption)) t5; have hMp5 := hMp4.keep hO5; have hrun5 := hMp5.run_yes Hks.out Hfi.out) | fail "no arm")
          go_wp2
          go_roundw
          case rel => exact ⟨j + 1, by omega, by go_num, Hset.out, (hMp5.congr Hnext.out).mono (Nat.le_succ _), hK4.keepThen hO5⟩
          case measure => simp [intOf]; omega
    · have hjl : j = t.patterns.length := by omega
      rw [hjl, List.take_length] at hMp
      have hall : checkT x t = true := by
        rw [Hck.out, List.all_eq_true]; have := Hr.out; rwa [List.take_of_length_le (by omega)] at this
      have Hall := Lib.hid hall
      have D6' := D6.only hK hgMn
      have e1' := e1.only hK hwM0
      have rL' : Rd wr vl (ltrs x.moves.length) fl := Rp.only rL hK (fun b hb hm => hMfl (by simp at hm; rwa [← hm]))
      have hfl' := hfl
      obtain ⟨A3, C3, rfl, I3⟩ := rL'.ints
      have d3 := D6'.cell 3 rfl
      have HMP := Lib.hid hMp
      have hb3 := I3.bound
      have hll : (ltrs x.moves.length).length ≤ 16 := by rw [ltrs_len]; omega
      have hgwr : g < wr.heap.size := D6'.lt
      have hMwr : M < wr.heap.size := hMp.lt
      have hgw : w.heap.size ≠ g := by omega
      obtain ⟨i0, hi, hz0, hz1, hz2⟩ := info_parts Try.info22
      have hgens : ∀ y ∈ x.moves, PM.IsP y ∧ y.length ≤ 1000 := fun y hy => by have := g4 y hy; exact ⟨(permB_iff.1 this.2).2, by omega⟩
      have Hgens := Lib.hid hgens
      clear hjl hall hMp hgens y0 y1 y2 z0 d5
      obtain ⟨W2, hnew2⟩ : ∃ W, W = wr := ⟨_, rfl⟩
      subst hnew2
      go_wp2
      go_loopw [78] (fun i w2 => ∃ (k : Nat) (fs : List (List Nat)) (o : Value), k ≤ (ltrs x.moves.length).length ∧ i = .int .i64 k ∧ Blk w2 g ([.slice A0 t.tracked.length C0, .slice A1 t.patterns.length C1, .slice A2 t.distances.length C2] ++ [.slice A3 (ltrs x.moves.length).length C3, o, .map (some M)]) ∧ Acc W2.heap.size 31 w2 o (((ltrs x.moves.length).take k).map (mv x.moves)) fs ∧ (∀ b ∈ fs.flatten, b ≠ g) ∧ Only [g] W2 w2)
        (fun i _ => (ltrs x.moves.length).length - (intOf i).toNat)
      case atStart => exact ⟨0, [], .slice none 0 0, Nat.zero_le _, rfl, D6', Acc.nil W2 _ _, by simp, Only.refl _ _⟩
      case round =>
        clear d3
        obtain ⟨k, fs, o, hk, rfl, hB, hA, hfs, hK2⟩ := hrel
        have hKW2 : Only [] w wr := hKW.then_ hK2 (fun b hb hl => by simp at hb; omega)
        have d4 := hB.cell 4 rfl
        have y2 := (e1'.only hK2 (by simp; omega)).cell 2 rfl
        by_cases hlt2 : k < (ltrs x.moves.length).length
        · obtain ⟨bl, ol, rfl, hflb, hcl0⟩ := I3.at_ k hlt2
          have hblg : bl ≠ g := fun e => hgfl (by rw [hflb, e]; simp)
          have hcl := hK2.cell (by simpa using hblg) hcl0
          have hla := List.getElem_mem hlt2
          have hstep : ((ltrs x.moves.length).take k).map (mv x.moves) ++ [mv x.moves (ltrs x.moves.length)[k]] = ((ltrs x.moves.length).take (k + 1)).map (mv x.moves) := by rw [take_succ_get _ k hlt2]; simp only [List.map_append, List.map_cons, List.map_nil]
          have hlj : (((ltrs x.moves.length).take k).map (mv x.moves)).length + 1 ≤ 1073741824 := by rw [List.length_map, List.length_take]; omega
          have hfz := Blk.frozen hB 4
          have Hstep := Lib.hid hstep
          have Hlj := Lib.hid hlj
          have HB := Lib.hid hB
          have hBw := hK2.size
          clear hstep hlj hcl0 hB hflb
          go_upto_region 16 with fail
          have hgown : g ∉ o.ownBlock.toList := fun hm9 => by have := (hA.ownlt g (by simpa using hm9)).1; omega
          have hwW2 := hKW.size
          go_region_law (first | (go_simp; go_at_call 79; (with_reducible refine (letterOf_rd _ x.moves (ltrs x.moves.length)[k] _ _ (Rp.keep hm (hKW2.trans (by with_reducible repeat (first | exact Only.refl _ _ | assumption | refine Only.drewN ?_ _ | refine Only.drew ?_ | refine Only.alloc ?_ _ | refine Only.setCell ?_ (by intro hh; exfalso; simp at hh; try omega) _ | refine Only.trans ?_ (by assumption))))) Hgens.out hla (by omega)).mono ?_); rintro e w8 ⟨u8, f8, rfl, r8, hf8, t8⟩; obtain ⟨A8, C8, rfl, -⟩ := r8.ints; have d48 := t8.cell (by simp) d4; have d48a := ((Only.refl [] w8).alloc (.cells #[.slice A8 (mv x.moves (ltrs x.moves.length)[k]).length C8] 31)).cell (by simp) d48; have hap8 : ∀ b ∈ f8, b < w.heap.size ∨ wr.heap.size ≤ b := (fun b hb => by rcases hf8 b hb with h9 | h9; exact .inl (Rp.lt hm _ h9); right; simpa using h9)) | (refine step_push2 rfl _ _ 27 rfl W2.heap.size 31 i0 _ 24 Try.underlying27 hi hz0 hz1 hz2 rfl (by decide) (by decide) wr o (((ltrs x.moves.length).take k).map (mv x.moves)) fs rfl hA (by with_reducible repeat (first | exact Only.refl _ _ | assumption | refine Only.drewN ?_ _ | refine Only.drew ?_ | refine Only.alloc ?_ _ | refine Only.setCell ?_ (by intro hh; exfalso; simp at hh; try omega) _ | refine Only.trans ?_ (by assumption))) hBw _ 1 [.slice A8 (mv x.moves (ltrs x.moves.length)[k]).length C8] (mv x.moves (ltrs x.moves.length)[k]) f8 rfl (lit_src w8 [.slice A8 (mv x.moves (ltrs x.moves.length)[k]).length C8] _ rfl) (by intro u hu; simp at hu; subst hu; rfl) (Rp.keep r8 ((Only.refl _ _).alloc _)) (fun b hb hv9 => by have h9 := hA.ownlt b hv9; have := hap8 b hb; omega) Hlj.out ?_; intro v9 w9 hA9 hO9 hb9; obtain ⟨a9, n9, c9, rfl⟩ : ∃ a n c, v9 = Value.slice a n c := (let ⟨a, c, hh⟩ := hA9.form; ⟨a, _, c, hh⟩); have B8 := HB.out.keep (Only.trans ((Only.refl _ _).drew) t8); have B9 := (B8.keep ((Only.refl _ _).alloc (.cells #[.slice A8 (mv x.moves (ltrs x.moves.length)[k]).length C8] 31))).only hO9 hgown; have d49 := B9.cell 4 rfl; have z49 := Blk.frozen B9 4) | fail "no arm")
          all_goals go_wp2
          all_goals have hne : ∀ b ∈ (fs ++ [f8]).flatten, b ≠ g := (fun b hb => by
            rw [List.flatten_append] at hb
            simp only [List.flatten_cons, List.flatten_nil, List.append_nil] at hb
            rcases List.mem_append.1 hb with hb | hb
            · exact hfs b hb
            · have := hap8 b hb; have := hKw.size; omega)
          all_goals have hs8 : wr.heap.size ≤ w8.heap.size := (Only.trans ((Only.refl [] wr).drew) t8).size
          all_goals refine ⟨⟨k + 1, fs ++ [f8], .slice a9 n9 c9, by omega, by go_num, B9.set 4 _, ?_, hne, ?_⟩, by simp [intOf]; omega⟩
          all_goals first
            | (rw [← Hstep.out]; exact hA9.only ((Only.refl [g] _).setCell (by intro _; simp) _) (fun b hb => by simpa using hne b hb) (fun q hq => by
                rcases hb9 with h9 | h9
                · rw [h9] at hq; intro hm9; simp at hm9; subst hm9; exact hgown (by simp [hq])
                · rw [h9] at hq; injection hq with hq; simp at hq ⊢; omega))
            | exact (((hK2.keepThen (Only.trans ((Only.refl [] wr).drew) t8)).keepThen ((Only.refl _ _).alloc _)).then_ hO9 (fun b hb hl => by have h9 : o.ownBlock = some b := (by simpa using hb); have := (hA.ownlt b h9).1; omega)).setCell (by intro _; simp) _
        · have hkl : k = (ltrs x.moves.length).length := by omega
          rw [hkl, List.take_length] at hA
          have hP : Prf wr g x t := ⟨_, _, _, _, o, M, _, _, _, fl, _, _, hB, Rp.keep r0 hKW2, Rp.keep r1 hKW2, Rp.keep r2 hKW2, Rp.only rL' hK2 (fun b hb hm9 => hgfl (by simp at hm9; rwa [← hm9])), hA.rd (by decide), HMP.out.only hK2 (by simpa using fun e => hgM e.symm)⟩
          have HP := Lib.hid hP
          clear hkl hP hA hB
          go_wp2
          refine bodyPost_ret (v := .tuple #[.pointer (some ⟨g, 0, none⟩), .bool true]) (by simp [results, Try.results35, go_sem]) rfl ⟨some ⟨g, 0, none⟩, by rw [Hall.out], fun _ => ⟨g, rfl, HP.out⟩, hKW2⟩
end Go.Proofs.Ytoinaidncncdhaa

namespace Go.Proofs.Ytoinaidncncdhaa
open Go.RowKit
set_option maxRecDepth 10000

theorem gensB_of {n : Int} {gens : List (List Int)} (h1 : 1 ≤ n) (h2 : n ≤ 20) (h3 : gens.length ≤ 8) (h4 : ∀ y ∈ gens, PM.PN n.toNat y) : gensB n gens = true := by
  unfold gensB
  rw [Bool.and_eq_true, Bool.and_eq_true, inR_iff, decide_eq_true_iff, List.all_eq_true]
  refine ⟨⟨⟨h1, h2⟩, h3⟩, fun g hg => ?_⟩
  have h := h4 g hg
  unfold genB
  rw [Bool.and_eq_true, decide_eq_true_iff, permB_iff]
  exact ⟨by have := h.1; omega, ⟨by have := h.1; omega, h.2⟩⟩
set_option maxHeartbeats 4000000 in
theorem w6Puzzle_any (g : Nat) (fc : List Nat) (l : List UInt8) (w : World) (h : Dice w g fc l) (hl : l.length ≤ 4096) :
    Calls Try.prog 9 #[.pointer (some ⟨g, 0, none⟩)] w fun e w' => ∃ cs x fp, e = .returned (.agg (List.toArray cs)) ∧ Rp.rep w' cs x fp ∧ validPz x = true ∧ 3 ≤ x.points ∧ x.points ≤ 5 ∧ 1 ≤ x.moves.length ∧ x.moves.length ≤ 3 ∧ Fresh w.heap.size w' fp ∧ Dice w' g fc l ∧ Only [g] w w' := by
  obtain ⟨i0, hi, hz0, hz1, hz2⟩ := info_parts Try.info22
  have D0 := h.keep ((Only.refl [] w).alloc (.cells #[.int .i64 0, .string ⟨#[]⟩, .slice none 0 0] 29))
  go_enter Try.func9, Try.ntmps9
  go_wp2_with fail
  with_reducible refine (below_any g fc l 3 _ D0 (by omega) (by omega) hl).mono ?_
  rintro e w1 ⟨r, rfl, q0, q1, D1, K1⟩
  obtain ⟨n, hn⟩ : ∃ n : Nat, (n : Int) = 3 + r := ⟨(3 + r).toNat, by omega⟩
  have hr : IntKind.i64.wrap (3 + r) = (n : Int) := by rw [IntKind.wrap_i64]; omega
  go_wp2_with fail
  with_reducible refine (below_any g fc l 3 _ D1 (by omega) (by omega) hl).mono ?_
  rintro e w2 ⟨k0, rfl, p0, p1, D2, K2⟩
  obtain ⟨k, rfl⟩ := Int.eq_ofNat_of_zero_le p0
  have hk : IntKind.i64.wrap (1 + (k : Int)) = ((k + 1 : Nat) : Int) := by rw [IntKind.wrap_i64]; omega
  go_upto_region 4 with fail
  obtain ⟨ns, hns⟩ : ∃ ns : ByteArray, ns = ({ data := #[65, 66, 67] } : ByteArray).extract 0 (k + 1) := ⟨_, rfl⟩
  rw [← hns, ← hn]
  have hnb : namesB ns = true ∧ ns.size = k + 1 := by
    subst hns
    rcases (show k = 0 ∨ k = 1 ∨ k = 2 by omega) with rfl | rfl | rfl <;> decide
  clear hns
  obtain ⟨W3, hW3⟩ : ∃ W, W = w2.alloc (.cells #[.int .i64 n, .string ns, .slice none 0 0] 29) := ⟨_, rfl⟩
  have hB0 : Blk W3 w2.heap.size [.int .i64 n, .string ns, .slice none 0 0] := by rw [hW3]; exact Blk.new w2 _ _
  have hS3 : W3.heap.size = w2.heap.size + 1 := by rw [hW3]; simp
  have K12 := K1.trans K2
  have hgl := h.lt
  have KW : Only [g] w W3 := by rw [hW3]; exact (((Only.refl [g] w).alloc _).trans K12).alloc _
  have hR0 : Blk W3 w.heap.size [.int .i64 0, .string ⟨#[]⟩, .slice none 0 0] := by
    rw [hW3]; exact ((Blk.new w [.int .i64 0, .string ⟨#[]⟩, .slice none 0 0] 29).only K12 (by simp; omega)).keep ((Only.refl [] _).alloc _)
  have DW : Dice W3 g fc l := by rw [hW3]; exact D2.keep ((Only.refl [] _).alloc _)
  have hfc : ∀ b ∈ fc, b < w.heap.size := (by obtain ⟨_, _, _, _, _, _, _, h4, _⟩ := h; exact fun b hb => Rp.lt h4 b hb)
  have hw2 : w.heap.size + 1 ≤ w2.heap.size := by have := K12.size; simpa using this
  obtain ⟨hnb, hnz⟩ := hnb
  have Hnz := Lib.hid hnz
  have hn5 : 3 ≤ n ∧ n ≤ 5 := by omega
  have hk3 : k < 3 := by omega
  rw [← hW3]
  clear hn
  clear hW3 D0 D1 D2 K1 K2 K12 hr hk q0 q1 p0 p1 hnz
  go_loopw [5] (fun i wr => ∃ (j : Nat) (ms : List (List Int)) (fs : List (List Nat)) (o : Value), j ≤ k + 1 ∧ i = .int .i64 j ∧ ms.length = j ∧ (∀ y ∈ ms, PM.PN n y) ∧ Blk wr w2.heap.size [.int .i64 n, .string ns, o] ∧ Acc W3.heap.size 31 wr o ms fs ∧ Fresh W3.heap.size wr fs.flatten ∧ Dice wr g fc l ∧ Blk wr w.heap.size [.int .i64 0, .string ⟨#[]⟩, .slice none 0 0] ∧ Only [g] w wr)
    (fun i _ => k + 1 - (intOf i).toNat)
  case atStart => exact ⟨0, [], [], .slice none 0 0, Nat.zero_le _, rfl, rfl, by simp, hB0, Acc.nil W3 _ _, Fresh.nil _ _, DW, hR0, KW⟩
  case round =>
    obtain ⟨W4, hnew⟩ : ∃ W, W = wr := ⟨_, rfl⟩
    subst hnew
    clear hB0 DW hR0 KW
    obtain ⟨j, ms, fs, o, hj, rfl, hml, hpn, hB, hA, hF, hD, hR, hK⟩ := hrel
    have y1 := hB.cell 1 rfl
    have y2 := hB.cell 2 rfl
    have hb4 := hB.lt
    have hnz := Hnz.out
    by_cases hlt : j < k + 1
    · have hlt' : (j : Int) < (k : Int) + 1 := by omega
      have hz : (ns.size : Int) = (k : Int) + 1 := by omega
      have hfz := Blk.frozen hB 2
      have HB := Lib.hid hB
      have hown : w2.heap.size ∉ o.ownBlock.toList := fun hm9 => by have := (hA.ownlt _ (by simpa using hm9)).1; omega
      have hgown : g ∉ o.ownBlock.toList := fun hm9 => by have := (hA.ownlt _ (by simpa using hm9)).1; omega
      have hgfs : ∀ b ∈ fs.flatten, b ∉ [g] := fun b hb hm => by have := hF.ge b hb; simp at hm; omega
      have hlj : ms.length + 1 ≤ 1073741824 := by omega
      have Hlj := Lib.hid hlj
      have hBw : W3.heap.size ≤ W4.heap.size := by omega
      clear hlj hB
      go_upto_region 6 with fail
      go_region_law (first | (go_simp; go_at_call 31; (with_reducible refine (w6Perm_any g fc l n _ (hD.keep (by with_reducible repeat (first | exact Only.refl _ _ | assumption | refine Only.drewN ?_ _ | refine Only.drew ?_ | refine Only.alloc ?_ _ | refine Only.setCell ?_ (by intro hh; exfalso; simp at hh; try omega) _ | refine Only.trans ?_ (by assumption)))) (by omega) hl).mono ?_); rintro e w8 ⟨u8, p8, f8, rfl, r8, hp8, F8, D8, K8⟩; obtain ⟨A8, C8, rfl, -⟩ := r8.ints; have K8w := Only.trans ((Only.refl [g] W4).drew) K8; have y28 := K8w.cell (by simp; omega) y2; have y28a := ((Only.refl [] w8).alloc (.cells #[.slice A8 p8.length C8] 31)).cell (by simp) y28; have hA8 := hA.only K8w hgfs (fun q hq hm9 => hgown (by simp at hm9; subst hm9; simp [hq]))) | (refine step_push2 rfl _ _ 27 rfl W3.heap.size 31 i0 _ 24 Try.underlying27 hi hz0 hz1 hz2 rfl (by decide) (by decide) w8 o ms fs rfl hA8 (by with_reducible repeat (first | exact Only.refl _ _ | assumption | refine Only.drewN ?_ _ | refine Only.drew ?_ | refine Only.alloc ?_ _ | refine Only.setCell ?_ (by intro hh; exfalso; simp at hh; try omega) _ | refine Only.trans ?_ (by assumption))) (Nat.le_trans hBw K8w.size) _ 1 [.slice A8 p8.length C8] p8 f8 rfl (lit_src w8 [.slice A8 p8.length C8] _ rfl) (by intro u hu; simp at hu; subst hu; rfl) (Rp.keep r8 ((Only.refl [] w8).alloc (.cells #[.slice A8 p8.length C8] 31))) (fun b hb hv9 => by have h9 := (hA.ownlt b hv9).2; have := F8.ge b hb; simp at this; omega) Hlj.out ?_; intro v9 w9 hA9 hO9 hb9; obtain ⟨a9, n9, c9, rfl⟩ : ∃ a n c, v9 = Value.slice a n c := (let ⟨a, c, hh⟩ := hA9.form; ⟨a, _, c, hh⟩); have B8 := HB.out.only K8w (by simp; omega); have B9 := (B8.keep ((Only.refl [] w8).alloc (.cells #[.slice A8 p8.length C8] 31))).only hO9 hown; have y29 := B9.cell 2 rfl; have z29 := Blk.frozen B9 2) | fail "no arm")
      all_goals go_wp2
      all_goals have hs8 : W4.heap.size ≤ w8.heap.size := K8w.size
      all_goals have hf8 : ∀ b ∈ f8, W4.heap.size ≤ b := (fun b hb => by have := F8.ge b hb; simpa using this)
      all_goals have KL := (Only.refl [] w8).alloc (.cells #[.slice A8 p8.length C8] 31)
      all_goals have KS := (Only.refl [w2.heap.size] w9).setCell (p := ⟨w2.heap.size, 2, none⟩) (by intro _; simp) (.slice a9 n9 c9)
      all_goals have hne : ∀ b ∈ (fs ++ [f8]).flatten, b ∉ [w2.heap.size] := (fun b hb hm => by
        simp only [List.mem_singleton] at hm
        subst hm
        rw [List.flatten_append] at hb
        simp only [List.flatten_cons, List.flatten_nil, List.append_nil] at hb
        rcases List.mem_append.1 hb with hb | hb
        · have := hF.ge _ hb; omega
        · have := hf8 _ hb; omega)
      all_goals have hno : ∀ b ∈ (fs ++ [f8]).flatten, b ∉ o.ownBlock.toList := (fun b hb hm => by
        have hq : o.ownBlock = some b := by simpa using hm
        rw [List.flatten_append] at hb
        simp only [List.flatten_cons, List.flatten_nil, List.append_nil] at hb
        rcases List.mem_append.1 hb with hb | hb
        · exact hA.apart b hq hb
        · have := hf8 _ hb; have := (hA.ownlt b hq).2; omega)
      all_goals have F9 : Fresh W3.heap.size w9 (fs ++ [f8]).flatten := (by
        have e : (fs ++ [f8]).flatten = fs.flatten ++ f8 := by simp
        rw [e] at hno ⊢
        exact ((Fresh.append ((hF.only K8w hgfs).keep KL) (F8.keep KL) (by simp; omega) (fun b hb => by have := hA.lt b hb; simpa using this)).only hO9 hno))
      all_goals have hv9 : ∀ q, (Value.slice a9 n9 c9).ownBlock = some q → q ∉ [w2.heap.size] := (fun q hq hm => by
        simp only [List.mem_singleton] at hm
        subst hm
        rcases hb9 with h9 | h9
        · rw [h9] at hq; exact hown (by simp [hq])
        · rw [h9] at hq; injection hq with hq; simp at hq; omega)
      all_goals have hfo : ∀ b ∈ fc, b ∉ o.ownBlock.toList := (fun b hb hm => by have := hfc b hb; have := (hA.ownlt b (by simpa using hm)).1; omega)
      all_goals have D9 := ((D8.keep KL).only hO9 hgown hfo).only KS (by simp; omega) (fun b hb hm => by have := hfc b hb; simp at hm; omega)
      all_goals have R9 := ((((hR.only K8w (by simp; omega)).keep KL).only hO9 (fun hm => by have := (hA.ownlt _ (by simpa using hm)).1; omega)).only KS (by simp; omega))
      all_goals have KK := (((hK.trans K8w).keepThen KL).then_ hO9 (fun b hb hl => by exfalso; have := (hA.ownlt b (by simpa using hb)).1; omega)).then_ KS (fun b hb hl => by exfalso; simp at hb; omega)
      all_goals exact ⟨⟨j + 1, ms ++ [p8], fs ++ [f8], .slice a9 n9 c9, by omega, by go_num, by simp [hml], (fun y hy => by
        rcases List.mem_append.1 hy with hy | hy
        · exact hpn y hy
        · simp at hy; subst hy; exact hp8), B9.set 2 _, hA9.only KS hne hv9, F9.only KS hne, D9, R9, KK⟩, by simp [intOf]; omega⟩
    · have hjk : j = k + 1 := by omega
      obtain ⟨a5, c5, ho⟩ := hA.form
      subst ho
      have y0 := hB.cell 0 rfl
      have r0 := hR.cell 0 rfl
      have r1 := hR.cell 1 rfl
      have r2 := hR.cell 2 rfl
      have e0 := Blk.frozen hR 0
      have e1 := Blk.frozen hR 1
      have e2 := Blk.frozen hR 2
      have hlt' : ¬ (j : Int) < (k : Int) + 1 := by omega
      have hz : (ns.size : Int) = (k : Int) + 1 := by omega
      have Rf := ((hR.set 0 (.int .i64 n)).set 1 (.string ns)).set 2 (.slice a5 ms.length c5)
      simp only [List.set] at Rf
      have z0 := Rf.cell 0 rfl
      have z1 := Rf.cell 1 rfl
      have z2 := Rf.cell 2 rfl
      have KZ : Only [w.heap.size] W4 (((W4.setCell ⟨w.heap.size, 0, none⟩ (.int .i64 n)).setCell ⟨w.heap.size, 1, none⟩ (.string ns)).setCell ⟨w.heap.size, 2, none⟩ (.slice a5 ms.length c5)) := (((Only.refl _ _).setCell (by intro _; simp) _).setCell (by intro _; simp) _).setCell (by intro _; simp) _
      have hrd := hA.rd (by decide)
      have hfr := hA.fresh hF
      have hdis : ∀ b ∈ (Value.slice a5 ms.length c5).ownBlock.toList ++ fs.flatten, b ∉ [w.heap.size] := fun b hb hm => by
        have := hfr.ge b hb; simp at hm; omega
      have hvp : validPz ⟨n, ns, ms⟩ = true := by
        unfold validPz
        simp only [Bool.and_eq_true, decide_eq_true_iff]
        refine ⟨gensB_of (by omega) (by omega) (by omega) (fun y hy => by simpa using hpn y hy), hnb, by omega⟩
      have Q := Lib.hid (show ∃ cs x fp, (Ending.returned (.agg #[.int .i64 n, .string ns, .slice a5 ms.length c5]) : Ending) = .returned (.agg (List.toArray cs)) ∧ Rp.rep (((W4.setCell ⟨w.heap.size, 0, none⟩ (.int .i64 n)).setCell ⟨w.heap.size, 1, none⟩ (.string ns)).setCell ⟨w.heap.size, 2, none⟩ (.slice a5 ms.length c5)) cs x fp ∧ validPz x = true ∧ 3 ≤ x.points ∧ x.points ≤ 5 ∧ 1 ≤ x.moves.length ∧ x.moves.length ≤ 3 ∧ Fresh w.heap.size (((W4.setCell ⟨w.heap.size, 0, none⟩ (.int .i64 n)).setCell ⟨w.heap.size, 1, none⟩ (.string ns)).setCell ⟨w.heap.size, 2, none⟩ (.slice a5 ms.length c5)) fp ∧ Dice (((W4.setCell ⟨w.heap.size, 0, none⟩ (.int .i64 n)).setCell ⟨w.heap.size, 1, none⟩ (.string ns)).setCell ⟨w.heap.size, 2, none⟩ (.slice a5 ms.length c5)) g fc l ∧ Only [g] w (((W4.setCell ⟨w.heap.size, 0, none⟩ (.int .i64 n)).setCell ⟨w.heap.size, 1, none⟩ (.string ns)).setCell ⟨w.heap.size, 2, none⟩ (.slice a5 ms.length c5)) from
        ⟨[.int .i64 n, .string ns, .slice a5 ms.length c5], ⟨n, ns, ms⟩, _, rfl, ⟨_, rfl, by unfold I64; simp only []; omega, by unfold maxLen; simp only []; omega, Rp.only hrd KZ hdis⟩, hvp, by simp only []; omega, by simp only []; omega, by simp only []; omega, by simp only []; omega, (hfr.only KZ hdis).mono (by omega), hD.only KZ (by simp; omega) (fun b hb hm => by have := hfc b hb; simp at hm; omega), hK.then_ KZ (fun b hb hl => by exfalso; simp at hb; omega)⟩)
      clear hml hjk hB hA hF hD hR hK hpn hrd hfr hvp KZ Rf
      go_wp2
      obtain ⟨cs9, x9, fp9, q8, q9⟩ := Q.out
      exact bodyPost_ret (v := .agg #[.int .i64 n, .string ns, .slice a5 ms.length c5]) (by simp [results, Try.results9, go_sem, z0, z1, z2]) rfl ⟨cs9, q8, x9, fp9, q9⟩
end Go.Proofs.Ytoinaidncncdhaa

namespace Go.Proofs.Ytoinaidncncdhaa
open Go.RowKit
set_option maxRecDepth 10000

set_option maxHeartbeats 400000 in
theorem likeInts_any (a a' : Option Addr) (cap cap' : Nat) (l l' : List Int) (fp fp' : List Nat) (w : World) (h : IntsA w a cap l fp) (h' : IntsA w a' cap' l' fp') :
    Calls Try.prog 19 #[.slice a l.length cap, .slice a' l'.length cap'] w fun e w' => e = .returned (.bool (eqV l l')) ∧ Drew w w' := by
  have hb := h.bound
  have hb' := h'.bound
  by_cases hl : l.length = l'.length
  · have hne : ((l.length : Int) != (l'.length : Int)) = false := by simp [hl]
    have Hl := Lib.hid hl; clear hl
    go_enter Try.func19, Try.ntmps19
    go_wp2
    go_loopw [5] (fun i wr => ∃ j : Nat, j ≤ l.length ∧ i = .int .i64 j ∧ l.take j = l'.take j ∧ Drew w wr)
      (fun i _ => l.length - (intOf i).toNat)
    case atStart => exact ⟨0, Nat.zero_le _, rfl, rfl, Drew.refl _⟩
    case round =>
      obtain ⟨j, hj, rfl, hr, n, rfl⟩ := hrel
      have Hr := Lib.hid hr; clear hr
      by_cases hlt : j < l.length
      · have hlt' : j < l'.length := by have := Hl.out; omega
        obtain ⟨b, off, ha, -, hc⟩ := h.at_ j hlt
        obtain ⟨b', off', ha', -, hc'⟩ := h'.at_ j hlt'
        go_wp2
        go_quiet (fail)
        go_wp2
        · have hne : (l[j] != l'[j]) = true := by assumption
          go_ret
          exact ⟨ret_bool (eqInts_no hlt hlt' hne).symm, ((Drew.refl _).drewN _).drewN _⟩
        · have heq : (l[j] != l'[j]) = false := by assumption
          go_roundw
          case rel => exact ⟨j + 1, by omega, by go_num, eqInts_step hlt hlt' heq Hr.out, ⟨_, rfl⟩⟩
          case measure => simp [intOf]; omega
      · go_wp2
        go_ret
        exact ⟨ret_bool (eqL_yes Hl.out hlt Hr.out).symm, (Drew.refl _).drewN n⟩
  · have hne : ((l.length : Int) != (l'.length : Int)) = true := by simp; omega
    go_enter Try.func19, Try.ntmps19
    go_wp2
    go_ret
    exact ⟨ret_bool (eqL_len hne).symm, Drew.refl _⟩

end Go.Proofs.Ytoinaidncncdhaa

namespace Go.Proofs.Ytoinaidncncdhaa
open Go.RowKit
set_option maxRecDepth 10000

/-- the patterns met so far and their depths -/
abbrev Met16 := List (List Int) × List Int
/-- a pattern of depth d is met; none: too many -/
def bMeet (s : Met16) (d : Int) (y : List Int) : Option Met16 := if y ∈ s.1 then some s else if s.1.length = 3000 then none else some (s.1 ++ [y], s.2 ++ [d])
/-- the letters from an entry -/
def bLets (x : Puzzle) (q : List Int) (d : Int) : List Int → Met16 → Option Met16
  | [], s => some s
  | l :: ls, s => (bMeet s d (nxt x q l)).bind (bLets x q d ls)
/-- the entries from the k-th on; n: enough -/
def bFrom (x : Puzzle) : Nat → Nat → Met16 → Option Met16
  | 0, _, s => some s
  | n + 1, k, s => if k < s.1.length then (bLets x (s.1.getD k []) (s.2.getD k 0 + 1) (ltrs x.moves.length) s).bind (bFrom x n (k + 1)) else some s
def bfs16 (x : Puzzle) (tr : List Int) : Option Met16 := if (validPz x && trackB x.points tr) = true then bFrom x 3001 0 ([tr], [0]) else none
theorem bMeet_len {s s' : Met16} {d : Int} {y : List Int} (h : bMeet s d y = some s') (h1 : s.1.length = s.2.length) (h2 : s.1.length ≤ 3000) : s'.1.length = s'.2.length ∧ s'.1.length ≤ 3000 ∧ s.1.length ≤ s'.1.length := by
  unfold bMeet at h
  split at h
  · injection h with h; subst h; exact ⟨h1, h2, Nat.le_refl _⟩
  · split at h
    · cases h
    · injection h with h; subst h; simp; omega
theorem bLets_len {x : Puzzle} {q : List Int} {d : Int} : ∀ {ls : List Int} {s s' : Met16}, bLets x q d ls s = some s' → s.1.length = s.2.length → s.1.length ≤ 3000 → s'.1.length = s'.2.length ∧ s'.1.length ≤ 3000 ∧ s.1.length ≤ s'.1.length
  | [], s, s', h, h1, h2 => by unfold bLets at h; injection h with h; subst h; exact ⟨h1, h2, Nat.le_refl _⟩
  | l :: ls, s, s', h, h1, h2 => by
    unfold bLets at h
    rw [Option.bind_eq_some_iff] at h
    obtain ⟨s1, e1, e2⟩ := h
    obtain ⟨a, b, c⟩ := bMeet_len e1 h1 h2
    obtain ⟨a', b', c'⟩ := bLets_len e2 a b
    exact ⟨a', b', Nat.le_trans c c'⟩
end Go.Proofs.Ytoinaidncncdhaa
