/- Maps from strings to numbers that a call makes; the key of a list of small numbers. The program's search of patterns: its state (law 16). A slice of numbers that a loop appends to, in fewer words. The library's sort of a slice of int64 (slices.Sort), laid at this program; the sorted slice is the call's own. (Printed by mksortlay.py.) The reference's way down a chain: insertSorted, choicesAt, withEntry (laws 33, 47). The reference's search from a list on (law 16). The reference's BuildTable (law 16). -/
import Derived.Test.YtpkplmnpepkdaaaRowVerifiedTablesG4
import Derived.Maps.OwnSet
import Derived.StringKeys
import Derived.Laws.BytesArg
import Derived.Test.YtpkplmnpepkdaaaRowVerifiedTablesG5
import Derived.Test.YtpkplmnpepkdaaaRowVerifiedTablesG1
import Derived.Deep.RegionLaw
import Derived.Test.YtpkplmnpepkdaaaRowVerifiedTablesG2
import Derived.Shelf.SortM.Plain
import Derived.Sort.OwnSortedInts
namespace Go.Proofs.Ytpkplmnpepkdaaa
open Go.RowKit
set_option maxRecDepth 10000
open Go.Maps (Keyed)

/-- the key of a list: a byte each -/
def kB (l : List Int) : ByteArray := strOfNums (l.map fun x => x % 256)
theorem kB_size (l : List Int) : (kB l).size = l.length := by unfold kB; rw [strOfNums_size, List.length_map]
theorem kB_inj : ∀ {l l' : List Int}, (∀ x ∈ l, 0 ≤ x ∧ x < 256) → (∀ x ∈ l', 0 ≤ x ∧ x < 256) → kB l = kB l' → l = l' := by
  intro l l' h h' he
  have hd : (kB l).data.toList = (kB l').data.toList := by rw [he]
  unfold kB at hd
  rw [strOfNums_data, strOfNums_data, List.map_map, List.map_map] at hd
  clear he
  induction l generalizing l' with
  | nil => cases l' with
    | nil => rfl
    | cons y l' => simp at hd
  | cons x l ih => cases l' with
    | nil => simp at hd
    | cons y l' =>
      simp only [List.map_cons, List.cons.injEq] at hd
      have hx := h x (by simp); have hy := h' y (by simp)
      have e1 : x % 256 = x := Int.emod_eq_of_lt hx.1 hx.2
      have e2 : y % 256 = y := Int.emod_eq_of_lt hy.1 hy.2
      have h1 := hd.1
      simp only [Function.comp, e1, e2] at h1
      have h2 := congrArg UInt8.toNat h1
      rw [UInt8.toNat_ofNat', UInt8.toNat_ofNat'] at h2
      have : x = y := by omega
      subst this
      rw [ih (fun z hz => h z (by simp [hz])) (fun z hz => h' z (by simp [hz])) hd.2]
theorem kB_eq {l l' : List Int} (h : ∀ x ∈ l, 0 ≤ x ∧ x < 256) (h' : ∀ x ∈ l', 0 ≤ x ∧ x < 256) : kB l = kB l' ↔ l = l' := ⟨kB_inj h h', fun e => by rw [e]⟩

theorem Try.lawStr : Keyed Try.prog 9 := Go.Maps.string_keyed Try.underlying9
theorem Try.zeroInt (w : World) : (zeroValue 3).run Try.prog w = .ok (.int .i64 0) w := by kernel_rfl
/-- block M is a map of at most k entries; g: what lies at a key -/
def Mp (w : World) (M k : Nat) (g : ByteArray → Option Int) : Prop :=
  ∃ D : DataW Unit, w.ownsMap Try.prog 9 (plainElem Try.prog 3) M k D ∧ ∀ s : ByteArray, s.size ≤ maxLen →
    Go.Maps.has D (.string s.data.toList) = (g s).isSome ∧ ∀ n, g s = some n → D.atKey (.string s.data.toList) (.lit (.int .i64 0)) = .lit (.int .i64 n)
theorem Mp.lt {w : World} {M k : Nat} {g : ByteArray → Option Int} (h : Mp w M k g) : M < w.heap.size := by
  obtain ⟨D, h1, -⟩ := h; exact h1.lt
theorem Mp.frame {w w' : World} {M k : Nat} {g : ByteArray → Option Int} (h : Mp w M k g) (hf : w'.heap[M]? = w.heap[M]?) : Mp w' M k g := by
  obtain ⟨D, ⟨es, c, h1, h2⟩, h3⟩ := h
  exact ⟨D, ⟨es, c, by rw [hf]; exact h1, h2⟩, h3⟩
theorem Mp.only {w w' : World} {fp : List Nat} {M k : Nat} {g : ByteArray → Option Int} (h : Mp w M k g) (ho : Only fp w w') (hn : M ∉ fp) : Mp w' M k g := h.frame (ho.block M h.lt hn)
theorem Mp.keep {w w' : World} {M k : Nat} {g : ByteArray → Option Int} (h : Mp w M k g) (ho : Only [] w w') : Mp w' M k g := h.only ho (by simp)
theorem Mp.made (w : World) {M : Nat} (hM : M = w.heap.size) : Mp (w.alloc (.map #[] 0)) M 0 (fun _ => none) := by
  subst hM
  exact ⟨.map [], World.ownsMap_made _ _ _ _, fun s _ => ⟨rfl, by simp⟩⟩
theorem Mp.congr {w : World} {M k : Nat} {g g' : ByteArray → Option Int} (h : Mp w M k g) (hg : ∀ s, g s = g' s) : Mp w M k g' := by
  have : g = g' := funext hg
  rw [← this]; exact h
section
variable {w : World} {M k : Nat} {g : ByteArray → Option Int}
/-- v, ok := m[k], as an equation -/
theorem Mp.run_ok (h : Mp w M k g) {s : ByteArray} (hs : s.size ≤ maxLen) : (Instr.lookup 80 (.map (some M)) (.string s) true).run Try.prog w = .ok (.tuple #[.int .i64 ((g s).getD 0), .bool (g s).isSome]) w := by
  obtain ⟨D, hown, hg⟩ := h
  obtain ⟨h1, h2⟩ := hg s hs
  obtain ⟨v, ps, hrun, hv⟩ := hown.look_ok Try.lawStr Try.underlying80 (Try.zeroInt w) (plainElem_int Try.underlying3 (by decide)) (Go.WideMaps.keyOf_string_mk Try.underlying9 hs)
  obtain ⟨c, rfl, hc, -⟩ := plainElem_int_inv Try.underlying3 hv
  have hc1 : D.atKey (.string s.data.toList) (.lit (.int .i64 0)) = .lit (.int .i64 c) := congrArg Prod.fst hc
  have hcv : c = (g s).getD 0 := by
    cases hgs : g s with
    | none =>
      rw [hgs] at h1
      rw [Go.Maps.atKey_of_not_has h1] at hc1
      injection hc1 with hc1; injection hc1 with _ hc1; simp [hc1]
    | some n =>
      rw [h2 n hgs] at hc1
      injection hc1 with hc1; injection hc1 with _ hc1; simp [hc1]
  rw [hrun, hcv, h1]
theorem Mp.run_no (h : Mp w M k g) {s : ByteArray} (hs : s.size ≤ maxLen) (hg : g s = none) : (Instr.lookup 80 (.map (some M)) (.string s) true).run Try.prog w = .ok (.tuple #[.int .i64 0, .bool false]) w := by
  rw [h.run_ok hs, hg]; rfl
theorem Mp.run_yes (h : Mp w M k g) {s : ByteArray} (hs : s.size ≤ maxLen) {n : Int} (hg : g s = some n) : (Instr.lookup 80 (.map (some M)) (.string s) true).run Try.prog w = .ok (.tuple #[.int .i64 n, .bool true]) w := by
  rw [h.run_ok hs, hg]; rfl
/-- m[k] -/
theorem Mp.run_at (h : Mp w M k g) {s : ByteArray} (hs : s.size ≤ maxLen) : (Instr.lookup 80 (.map (some M)) (.string s) false).run Try.prog w = .ok (.int .i64 ((g s).getD 0)) w := by
  obtain ⟨D, hown, hg⟩ := h
  obtain ⟨h1, h2⟩ := hg s hs
  obtain ⟨c, hrun, hc1, -⟩ := hown.lookup_int Try.lawStr Try.underlying80 Try.underlying3 (Try.zeroInt w) (Go.WideMaps.keyOf_string_mk Try.underlying9 hs)
  have hcv : c = (g s).getD 0 := by
    cases hgs : g s with
    | none =>
      rw [hgs] at h1
      rw [Go.Maps.atKey_of_not_has h1] at hc1
      injection hc1 with hc1; injection hc1 with _ hc1; simp [hc1]
    | some n =>
      rw [h2 n hgs] at hc1
      injection hc1 with hc1; injection hc1 with _ hc1; simp [hc1]
  rw [hrun, hcv]
theorem Mp.run_at_yes (h : Mp w M k g) {s : ByteArray} (hs : s.size ≤ maxLen) {n : Int} (hg : g s = some n) : (Instr.lookup 80 (.map (some M)) (.string s) false).run Try.prog w = .ok (.int .i64 n) w := by
  rw [h.run_at hs, hg]; rfl
/-- m[k] = v -/
theorem Mp.run_put (h : Mp w M k g) {s : ByteArray} (hs : s.size ≤ maxLen) {n : Int} (hn : I64 n) (hk : k < maxLen) :
    ∃ w', (Instr.mapUpdate 80 (.map (some M)) (.string s) (.int .i64 n)).run Try.prog w = .ok () w' ∧ Mp w' M (k + 1) (fun s' => if s' = s then some n else g s') ∧ Only [M] w w' := by
  obtain ⟨D, hown, hg⟩ := h
  have hwf : (Lit.int .i64 n).wf = true := WalkArith.wf_i64 hn
  obtain ⟨w', hrun, r1, r2⟩ := hown.store Try.lawStr Try.underlying80 hk (Go.WideMaps.keyOf_string_mk Try.underlying9 hs) (plainElem_int Try.underlying3 hwf)
  have hmap := hown.isMap
  refine ⟨w', hrun, ⟨_, r1, fun s' hs' => ?_⟩, ?_⟩
  · by_cases he : s' = s
    · subst he
      have hkl : WideAt.IsKeyLit (Lit.string s'.data.toList) := trivial
      exact ⟨by rw [Go.Maps.has_put_same hmap hkl]; simp, fun m' hm' => by
        rw [Go.Maps.atKey_put_same hmap hkl]; simp at hm'; rw [hm']⟩
    · have hne : (Lit.string s'.data.toList) ≠ .string s.data.toList := by
        intro e; injection e with e
        apply he
        have : s'.data = s.data := Array.toList_inj.1 e
        cases s'; cases s; simp at this; rw [this]
      obtain ⟨h1, h2⟩ := hg s' hs'
      exact ⟨by rw [Go.Maps.has_put_other hne, h1]; simp [he], fun m' hm' => by
        rw [Go.Maps.atKey_put_other hne]; simp [he] at hm'; exact h2 m' hm'⟩
  · exact (Only.refl _ _).grown r2.grown (by intro j hj _; injection hj with hj; subst hj; simp)
end
theorem Try.infoByte : (Try.prog.info? 5).map (fun i => (i.zero, i.size, i.bytes)) = some (some (.int .u8 0), 1, 1) := by kernel_rfl
theorem madeBytes (n : Nat) : (madeCells (Value.cells (.int .u8 0)) n).toList = List.replicate n (.int .u8 0) := by
  apply List.ext_getElem (by simp [madeCells])
  intro i h1 h2
  simp [madeCells, Value.cells, Nat.mod_one]
theorem step_bytes (l : List Int) (j : Nat) (hj : j < l.length) : ((l.take j).map (fun x => Value.int .u8 (x % 256)) ++ List.replicate (l.length - j) (Value.int .u8 0)).set j (.int .u8 (l[j] % 256)) = (l.take (j + 1)).map (fun x => Value.int .u8 (x % 256)) ++ List.replicate (l.length - (j + 1)) (.int .u8 0) := by
  have hl : ((l.take j).map (fun x => Value.int .u8 (x % 256))).length = j := by rw [List.length_map, List.length_take]; omega
  rw [show l.length - j = (l.length - (j + 1)) + 1 by omega, List.replicate_succ, List.set_append_right _ _ (by omega), hl, Nat.sub_self, take_succ_get l j hj]
  simp only [List.map_append, List.map_cons, List.map_nil, List.append_assoc, List.cons_append, List.nil_append, List.set_cons_zero]
set_option maxHeartbeats 1000000 in
theorem stateKey_rd (v : Value) (l : List Int) (fp : List Nat) (w : World) (h : Rd w v l fp) (hl : l.length ≤ 1000) :
    Calls Try.prog 41 #[v] w fun e w' => e = .returned (.string (kB l)) ∧ Only [] w w' := by
  obtain ⟨a, cap, rfl, hI⟩ := h.ints
  obtain ⟨i0, hi, hz0, hz1, hz2⟩ := info_parts Try.infoByte
  go_enter Try.func41, Try.ntmps41
  go_wp2_with (at_make; refine wpList_make_full _ rfl _ _ 22 rfl w.heap.size 5 i0 _ 1 Try.underlying22 hi hz0 hz1 _ _ _ _ l.length rfl rfl rfl rfl (by rw [hz2]; omega) (by unfold maxLen; omega) (Nat.le_refl _) ?_; intro w1 hown hg)
  rw [madeBytes, Nat.mul_one] at hown
  go_loopw [11] (fun i wr => ∃ j : Nat, j ≤ l.length ∧ i = .int .i64 j ∧
      wr.ownsRow w.heap.size 5 1 (.slice (some ⟨w.heap.size, 0, none⟩) l.length l.length) l.length ((l.take j).map (fun x => Value.int .u8 (x % 256)) ++ List.replicate (l.length - j) (.int .u8 0)) ∧ Only [] w wr)
    (fun i _ => l.length - (intOf i).toNat)
  case atStart => exact ⟨0, Nat.zero_le _, rfl, by simpa using hown, (Only.refl _ _).grown hg (by simp)⟩
  case round =>
    obtain ⟨j, hj, rfl, hO, hK⟩ := hrel
    by_cases hlt : j < l.length
    · obtain ⟨b, off, rfl, -, hc0⟩ := hI.at_ j hlt
      have hc := hK.cell (by simp) hc0
      have hO2 := (hO.stored j (.int .u8 (l[j] % 256))).1
      rw [step_bytes l j hlt] at hO2
      obtain ⟨z2, hc2⟩ : ∃ z, wr.cell? ⟨w.heap.size, j, none⟩ = some z := by
        rw [hO.cellAt j (by omega)]
        exact ⟨_, List.getElem?_eq_getElem (by simp; omega)⟩
      have hf2 := hO.frozenAt j
      have hK2 := hK.setCell (p := ⟨w.heap.size, j, none⟩) (by simp) (.int .u8 (l[j] % 256))
      have HO := Lib.hid hO2
      clear hO hO2 hown hc0
      go_wp2
      go_roundw
      case rel => exact ⟨j + 1, by omega, by go_num, HO.out, hK2⟩
      case measure => simp [intOf]; omega
    · have hjl : j = l.length := by omega
      rw [hjl] at hO
      simp only [Nat.sub_self, List.replicate_zero, List.append_nil, List.take_length] at hO
      have hcv := run_convert_bytes_arg (P := Try.prog) wr 22 5 Try.underlying22 Try.underlying5 w.heap.size 0 l.length l.length (l.map fun x => x % 256) (by simp) (fun i hi => by
        rw [Nat.zero_add, hO.cellAt i (by omega)]
        simp [hi]) 9 Try.underlying9
      have hKB : strOfNums (l.map fun x => x % 256) = kB l := rfl
      rw [hKB] at hcv
      clear hjl hO hown hKB
      go_wp2
      go_ret
      exact ⟨rfl, hK⟩
end Go.Proofs.Ytpkplmnpepkdaaa

namespace Go.Proofs.Ytpkplmnpepkdaaa
open Go.RowKit
set_option maxRecDepth 10000

/-- a literal of one element, to which a loop appends -/
theorem Acc.one {α : Type} [Rp α] {w : World} (B : Nat) (e : TypeId) {cs : List Value} {x : α} {fp : List Nat} (h : Rp.rep w cs x fp) {g : Nat} (hg : g = w.heap.size) (hB : B ≤ g) : Acc B e (w.alloc (.cells cs.toArray e)) (.slice (some ⟨g, 0, none⟩) 1 1) [x] [fp] := by
  subst hg
  have hk : Only [] w (w.alloc (.cells cs.toArray e)) := (Only.refl _ _).alloc _
  refine ⟨⟨[cs], ⟨by simp [Rp.len h], .inr ⟨w.heap.size, 1, cs.toArray, rfl, hB, heap_alloc_new w _, Nat.le_refl _, by unfold maxLen; omega, by simp [Rp.len h], by simpa using List.take_of_length_le (Nat.le_of_eq (Rp.len h))⟩⟩, rfl, fun k h1 h2 h3 => ?_⟩, rfl, ?_⟩
  · have : k = 0 := by simpa using h1
    subst this
    exact Rp.keep h hk
  · intro g hg hm
    simp only [Value.ownBlock, Option.some.injEq] at hg
    subst hg
    have := Rp.lt h _ (by simpa using hm)
    omega
section
variable {P : Program} {α : Type} [Rp α] {ops : Array Oper} {rest : List Oper} {o : Oper} {a : Act} {w : World} {Q : Exit → Act → World → Prop}
theorem wpList_push2w (hgd : o.guard = none) (s x : Operand) (t : TypeId)
    (ho : o.op = .call { callee := .builtin .append, args := #[s, x], argTypes := #[t, t] })
    (B : Nat) (e : TypeId) (i : TypeInfo) (z : Value) (bytes : Nat) (ht : P.underlying t = some (.slice e)) (hi : P.info? e = some i) (hz : i.zero = some z)
    (hsize : i.size = Rp.size α) (hby : i.bytes = bytes) (hzs : z.cells.size = Rp.size α) (hsz : 0 < Rp.size α) (hbb : bytes ≤ 65536)
    (w0 : World) (v : Value) (l : List α) (fs : List (List Nat)) (hs : a.eval s = v) (hA : Acc B e w0 v l fs) (hK0 : Only [] w0 w) (hB : B ≤ w0.heap.size)
    (g c : Nat) (cs : List Value) (y : α) (fp : List Nat) (hx : a.eval x = .slice (some ⟨g, 0, none⟩) 1 c) (hsrc : ∀ j u, cs[j]? = some u → w.cell? ⟨g, j, none⟩ = some u) (hcs : ∀ u ∈ cs, u.oneCell' = true)
    (hy : Rp.rep w cs y fp) (hap : ∀ b ∈ fp, v.ownBlock ≠ some b) (hlen : l.length + 1 ≤ 1073741824)
    (h : ∀ v' w', Acc B e w' v' (l ++ [y]) (fs ++ [fp]) → Only v.ownBlock.toList w w' → (∀ wz, Only [] wz w → wz.heap.size ≤ B → Only [] wz w') →
      (Fresh B w0 fs.flatten → Fresh w0.heap.size w fp → Fresh B w' (fs ++ [fp]).flatten) → (v'.ownBlock = v.ownBlock ∨ v'.ownBlock = some w.heap.size) → wpList P ops Q rest (a.put o.dst v') w') : wpList P ops Q (o :: rest) a w :=
  wpList_plain hgd fun _ hK => wp_push2 s x t ho B e i z bytes ht hi hz hsize hby hzs hsz hbb w0 v l fs hs hA hK0 hB g c cs y fp hx hsrc hcs hy hap hlen fun v' w' h1 h2 h3 h4 h5 => hK _ _ (h v' w' h1 h2 h3 h4 h5)
end
section
variable {x : Puzzle} {m : Nat} {w : World} {m1 : Nat} {W : World} {M : Nat} {L : List (List Int)} {D : List Int} {wr : World} {v1 v2 : Value} {fs fd : List (List Nat)}
end
end Go.Proofs.Ytpkplmnpepkdaaa

namespace Go.Proofs.Ytpkplmnpepkdaaa
open Go.RowKit
set_option maxRecDepth 10000

theorem step_push2w {P : Program} {α : Type} [Rp α] {ops : Array Oper} {o : Oper} {a : Act} {w : World} {Q : Exit → Act → World → Prop} {K : Act → World → Prop} {E : Prop} (hgd : o.guard = none) (s x : Operand) (t : TypeId)
    (ho : o.op = .call { callee := .builtin .append, args := #[s, x], argTypes := #[t, t] })
    (B : Nat) (e : TypeId) (i : TypeInfo) (z : Value) (bytes : Nat) (ht : P.underlying t = some (.slice e)) (hi : P.info? e = some i) (hz : i.zero = some z)
    (hsize : i.size = Rp.size α) (hby : i.bytes = bytes) (hzs : z.cells.size = Rp.size α) (hsz : 0 < Rp.size α) (hbb : bytes ≤ 65536)
    (w0 : World) (v : Value) (l : List α) (fs : List (List Nat)) (hs : a.eval s = v) (hA : Acc B e w0 v l fs) (hK0 : Only [] w0 w) (hB : B ≤ w0.heap.size)
    (g c : Nat) (cs : List Value) (y : α) (fp : List Nat) (hx : a.eval x = .slice (some ⟨g, 0, none⟩) 1 c) (hsrc : ∀ j u, cs[j]? = some u → w.cell? ⟨g, j, none⟩ = some u) (hcs : ∀ u ∈ cs, u.oneCell' = true)
    (hy : Rp.rep w cs y fp) (hap : ∀ b ∈ fp, v.ownBlock ≠ some b) (hlen : l.length + 1 ≤ 1073741824)
    (h : ∀ v' w', Acc B e w' v' (l ++ [y]) (fs ++ [fp]) → Only v.ownBlock.toList w w' → (v'.ownBlock = v.ownBlock ∨ v'.ownBlock = some w.heap.size) → K (a.put o.dst v') w') : if Region.wanted o (yielded ops a.tmps) = true then Oper.wp P o a w K Q else E := by
  rw [if_pos (by simp [Region.wanted, hgd])]
  exact wp_push2 s x t ho B e i z bytes ht hi hz hsize hby hzs hsz hbb w0 v l fs hs hA hK0 hB g c cs y fp hx hsrc hcs hy hap hlen fun v' w' h1 h2 _ _ h5 => h v' w' h1 h2 h5
theorem Acc.flat0 {B : Nat} {e : TypeId} {w : World} {v : Value} {l : List Int} {fs : List (List Nat)} (h : Acc B e w v l fs) : fs.flatten = [] := by
  obtain ⟨css, ho, hcl, hr⟩ := h.own
  have hl := h.fl
  have : fs = List.replicate fs.length [] := by
    apply List.ext_getElem (by simp)
    intro k h1 h2
    have := (hr k (by omega) (by omega) h1).2.2
    simpa using this
  rw [this]; exact flatten_nil _
/-- v is a slice of numbers of the call's own -/
def AccI (B : Nat) (e : TypeId) (w : World) (v : Value) (l : List Int) : Prop := ∃ fs, Acc B e w v l fs
section
variable {w w' : World} {B : Nat} {e : TypeId} {v : Value} {l : List Int}
theorem AccI.only {fp : List Nat} (h : AccI B e w v l) (ho : Only fp w w') (hv : ∀ g, v.ownBlock = some g → g ∉ fp) : AccI B e w' v l := by
  obtain ⟨fs, h⟩ := h
  exact ⟨fs, h.only ho (by rw [h.flat0]; simp) hv⟩
theorem AccI.keep (h : AccI B e w v l) (ho : Only [] w w') : AccI B e w' v l := h.only ho (by simp)
theorem AccI.form (h : AccI B e w v l) : ∃ a c, v = .slice a l.length c := by
  obtain ⟨fs, h⟩ := h; exact h.form
theorem AccI.rd (h : AccI B e w v l) : Rd w v l v.ownBlock.toList := by
  obtain ⟨fs, h⟩ := h
  have := h.rd (by decide)
  rwa [h.flat0, List.append_nil] at this
theorem AccI.fresh (h : AccI B e w v l) : Fresh B w v.ownBlock.toList := by
  obtain ⟨fs, h⟩ := h
  have := h.fresh (by rw [h.flat0]; exact Fresh.nil _ _)
  rwa [h.flat0, List.append_nil] at this
theorem AccI.ownlt (h : AccI B e w v l) : ∀ g, v.ownBlock = some g → B ≤ g ∧ g < w.heap.size := by
  obtain ⟨fs, h⟩ := h; exact h.ownlt
theorem AccI.made (w : World) (B : Nat) (e : TypeId) {g : Nat} (hg : g = w.heap.size) (hB : B ≤ g) : AccI B e (w.alloc (.cells #[] e)) (.slice (some ⟨g, 0, none⟩) 0 0) [] := ⟨[], Acc.made w B e hg hB⟩
theorem AccI.one {n : Int} (hn : I64 n) (w : World) (B : Nat) (e : TypeId) {g : Nat} (hg : g = w.heap.size) (hB : B ≤ g) : AccI B e (w.alloc (.cells #[.int .i64 n] e)) (.slice (some ⟨g, 0, none⟩) 1 1) [n] :=
  ⟨[[]], Acc.one (cs := [.int .i64 n]) B e (int_rd w hn) hg hB⟩
end
section
variable {P : Program} {ops : Array Oper} {rest : List Oper} {o : Oper} {a : Act} {w : World} {Q : Exit → Act → World → Prop} {K : Act → World → Prop}
theorem wpList_pushI (hgd : o.guard = none) (s x : Operand) (t : TypeId)
    (ho : o.op = .call { callee := .builtin .append, args := #[s, x], argTypes := #[t, t] })
    (B : Nat) (e : TypeId) (i : TypeInfo) (z : Value) (ht : P.underlying t = some (.slice e)) (hi : P.info? e = some i) (hz : i.zero = some z)
    (hsize : i.size = 1) (hby : i.bytes = 8) (hzs : z.cells.size = 1)
    (w0 : World) (v : Value) (l : List Int) (hs : a.eval s = v) (hA : AccI B e w0 v l) (hK0 : Only [] w0 w) (hB : B ≤ w0.heap.size)
    (g c : Nat) (n : Int) (hx : a.eval x = .slice (some ⟨g, 0, none⟩) 1 c) (hsrc : w.cell? ⟨g, 0, none⟩ = some (.int .i64 n)) (hn : I64 n) (hlen : l.length + 1 ≤ 1073741824)
    (h : ∀ v' w', AccI B e w' v' (l ++ [n]) → Only v.ownBlock.toList w w' → (∀ wz, Only [] wz w → wz.heap.size ≤ B → Only [] wz w') → (v'.ownBlock = v.ownBlock ∨ v'.ownBlock = some w.heap.size) → wpList P ops Q rest (a.put o.dst v') w') : wpList P ops Q (o :: rest) a w := by
  obtain ⟨fs, hA⟩ := hA
  refine wpList_push2w (α := Int) hgd s x t ho B e i z 8 ht hi hz hsize hby hzs (by decide) (by decide) w0 v l fs hs hA hK0 hB g c [.int .i64 n] n [] hx ?_ (by intro u hu; simp at hu; subst hu; rfl) (int_rd w hn) (by simp) hlen fun v' w' h1 h2 h3 _ h5 => h v' w' ⟨_, h1⟩ h2 h3 h5
  intro j u hu
  cases j with
  | zero => simp at hu; subst hu; exact hsrc
  | succ j => simp at hu
theorem step_pushI {E : Prop} (hgd : o.guard = none) (s x : Operand) (t : TypeId)
    (ho : o.op = .call { callee := .builtin .append, args := #[s, x], argTypes := #[t, t] })
    (B : Nat) (e : TypeId) (i : TypeInfo) (z : Value) (ht : P.underlying t = some (.slice e)) (hi : P.info? e = some i) (hz : i.zero = some z)
    (hsize : i.size = 1) (hby : i.bytes = 8) (hzs : z.cells.size = 1)
    (w0 : World) (v : Value) (l : List Int) (hs : a.eval s = v) (hA : AccI B e w0 v l) (hK0 : Only [] w0 w) (hB : B ≤ w0.heap.size)
    (g c : Nat) (n : Int) (hx : a.eval x = .slice (some ⟨g, 0, none⟩) 1 c) (hsrc : w.cell? ⟨g, 0, none⟩ = some (.int .i64 n)) (hn : I64 n) (hlen : l.length + 1 ≤ 1073741824)
    (h : ∀ v' w', AccI B e w' v' (l ++ [n]) → Only v.ownBlock.toList w w' → (v'.ownBlock = v.ownBlock ∨ v'.ownBlock = some w.heap.size) → K (a.put o.dst v') w') : if Region.wanted o (yielded ops a.tmps) = true then Oper.wp P o a w K Q else E := by
  obtain ⟨fs, hA⟩ := hA
  refine step_push2w (α := Int) hgd s x t ho B e i z 8 ht hi hz hsize hby hzs (by decide) (by decide) w0 v l fs hs hA hK0 hB g c [.int .i64 n] n [] hx ?_ (by intro u hu; simp at hu; subst hu; rfl) (int_rd w hn) (by simp) hlen fun v' w' h1 h2 h5 => h v' w' ⟨_, h1⟩ h2 h5
  intro j u hu
  cases j with
  | zero => simp at hu; subst hu; exact hsrc
  | succ j => simp at hu
end
/-- the one cell of a literal -/
theorem lit1 (w : World) (u : Value) (e : TypeId) {g : Nat} (hg : g = w.heap.size) : (w.alloc (.cells #[u] e)).cell? ⟨g, 0, none⟩ = some u := lit_src w [u] e hg 0 u rfl
section
variable {w W wr w' wa wb : World} {G : List Nat} {e : TypeId} {o o' : Value} {l : List Int} {n : Int}
end
end Go.Proofs.Ytpkplmnpepkdaaa

namespace Go.Proofs.Ytpkplmnpepkdaaa
open Go.RowKit Go.Shelf Go.Sort Go.Proofs
set_option maxRecDepth 10000


theorem map_one_flatten (l : List Int) : (l.map fun x => [Value.int .i64 x]).flatten = l.map (Value.int .i64) := by
  induction l with
  | nil => rfl
  | cons x l ih => simp only [List.map_cons, List.flatten_cons, ih, List.cons_append, List.nil_append]
theorem AccI.row {B : Nat} {e : TypeId} {w : World} {v : Value} {l : List Int} (h : AccI B e w v l) : w.ownsRow B e 1 v l.length (l.map (Value.int .i64)) ∧ ∀ x ∈ l, I64 x := by
  obtain ⟨fs, h⟩ := h
  obtain ⟨css, ho, hcl, hr⟩ := h.own
  have hfl := h.fl
  have hc : css = l.map fun x => [Value.int .i64 x] := by
    apply List.ext_getElem (by simp [hcl])
    intro k h1 h2
    have hk : k < l.length := by omega
    have := (hr k h1 hk (by omega)).1
    rw [this]; simp
  refine ⟨?_, fun x hx => ?_⟩
  · rw [hc, map_one_flatten] at ho; exact ho
  · obtain ⟨k, hk, rfl⟩ := List.getElem_of_mem hx
    exact (hr k (by omega) hk (by omega)).2.1
theorem AccI.ofRow {B : Nat} {e : TypeId} {w : World} {v : Value} {l : List Int} (h : w.ownsRow B e 1 v l.length (l.map (Value.int .i64))) (hI : ∀ x ∈ l, I64 x) : AccI B e w v l := by
  have hf : ∀ n : Nat, (List.replicate n ([] : List Nat)).flatten = [] := fun n => by induction n with | zero => rfl | succ n ih => simp [List.replicate_succ, ih]
  refine ⟨List.replicate l.length [], ⟨l.map fun x => [Value.int .i64 x], ?_, by simp, fun k h1 h2 h3 => ?_⟩, by simp, fun g _ => by rw [hf]; simp⟩
  · rw [map_one_flatten]; exact h
  · exact ⟨by simp, hI _ (List.getElem_mem h2), by simp⟩
end Go.Proofs.Ytpkplmnpepkdaaa

namespace Go.Proofs.Ytpkplmnpepkdaaa
open Go.RowKit
set_option maxRecDepth 10000
theorem copyInts_aI (v : Value) (l : List Int) (fp : List Nat) (w : World) (h : Rd w v l fp) (hl : l.length ≤ 1073741824) :
    Calls Try.prog 15 #[v] w fun e w' => ∃ v, e = .returned v ∧ AccI w.heap.size 2 w' v l ∧ Only [] w w' := by
  obtain ⟨a, cap, rfl, hI⟩ := h.ints
  obtain ⟨i0, hi, hz0, hz1, hz2⟩ := info_parts Try.info2
  obtain ⟨q1, q2⟩ := ints_src (hI.keep ((Only.refl _ w).alloc (.cells #[] 2)))
  go_enter Try.func15, Try.ntmps15
  go_wp2_with (at_builtin; refine wpList_app _ rfl _ _ 27 rfl w.heap.size 2 i0 _ 1 8 Try.underlying27 hi hz0 hz1 hz2 rfl (by omega) (.slice (some ⟨w.heap.size, 0, none⟩) 0 0) 0 [] rfl (World.ownsRow_made w #[] 0 (Nat.le_refl _) (by unfold maxLen; omega) rfl) a l.length cap (l.map (Value.int .i64)) rfl (by simp) q1 q2 (ints_one l) (by unfold maxLen; omega) (by omega) (by simp) ?_; intro v1 w1 hO hg hb)
  rw [Nat.zero_add, List.nil_append] at hO
  have hK : Only [] w w1 := ((Only.refl _ _).alloc _).grown hg (by simp [Value.ownBlock])
  have hA : AccI w.heap.size 2 w1 v1 l := AccI.ofRow hO hI.wf
  have HA := Lib.hid hA
  clear hO hg hb q1 q2 hA
  go_wp2
  go_ret
  exact ⟨_, rfl, HA.out, hK⟩

end Go.Proofs.Ytpkplmnpepkdaaa

namespace Go.Proofs.Ytpkplmnpepkdaaa
open Go.RowKit
set_option maxRecDepth 10000

theorem searchAdd_nil (B m : Nat) (v : Value) (s : List Int) (f : List Nat) (d : Int) (w : World) (hv : Rd w v s f) (hs : s.length = m) (hB : B ≤ w.heap.size) (hF : Fresh B w f) :
    Calls Try.prog 46 #[.agg #[.slice none 0 0, .slice none 0 0, .slice none 0 0, .bool false], v, .int .i64 d] w fun e w' => ∃ A1' A2' A3' C1' C2' C3' so', e = .returned (.agg #[.slice A1' 1 C1', .slice A2' 1 C2', .slice A3' 1 C3', .bool false]) ∧
      SrO B w' (.slice A1' 1 C1') (.slice A2' 1 C2') (.slice A3' 1 C3') [s] [d] (soI so') [f] [] ∧ Srt m [s] so' ∧ so'.length = 1 ∧ Only [] w w' := by
  have h0 : SrO B w (.slice none ([] : List (List Int)).length 0) (.slice none ([] : List Int).length 0) (.slice none ([] : List Nat).length 0) [] [] (soI []) [] f :=
    ⟨Acc.nil _ _ _, ⟨by simp, .inl ⟨rfl, rfl⟩⟩, ⟨by simp [soI], .inl ⟨rfl, rfl⟩⟩, by simpa [Value.ownBlock] using hF⟩
  refine (searchAdd_any B none none none 0 0 0 false [] [] [] [] m v s f d w h0 (Srt.nil m) hv hs (by simp) (by simp) rfl (by simp) hB).mono ?_
  rintro e w' ⟨A1', A2', A3', C1', C2', C3', so', rfl, h1, h2, h3, h4, -⟩
  exact ⟨A1', A2', A3', C1', C2', C3', so', rfl, h1, h2, h3, by simpa [Value.ownBlock] using h4⟩
set_option maxHeartbeats 8000000 in
theorem searchFrom_srt (cs : List Value) (x : Puzzle) (fp : List Nat) (v : Value) (tr : List Int) (ft : List Nat) (w : World) (h : Rp.rep w cs x fp) (hv : Rd w v tr ft) (hx : validPz x = true) (hp : patB x.points tr.length tr = true) (htl : tr.length ≤ 1000) :
    Calls Try.prog 28 #[.agg cs.toArray, v] w fun e w' => ∃ A1 A2 A3 C1 C2 C3 n3 wh L D fL fD, e = .returned (.agg #[.slice A1 (List.length L) C1, .slice A2 (List.length D) C2, .slice A3 n3 C3, .bool wh]) ∧
      Rd w' (.slice A1 L.length C1) L fL ∧ Rd w' (.slice A2 D.length C2) D fD ∧ (bFrom x 3001 0 ([tr], [0]) = if wh = true then some (L, D) else none) ∧ Only [] w w' ∧ (∀ g ∈ fL ++ fD, w.heap.size ≤ g) ∧ L.length ≤ 3000 ∧ D.length ≤ 3000 ∧ (∀ q ∈ L, q.length ≤ 1000) ∧ ∃ so ob fps fd fz, n3 = List.length so ∧ SrR w' A1 A2 A3 C1 C2 C3 L D so ob fps fd fz ∧ Srt tr.length L so ∧ ∀ g ∈ (ob ++ fps.flatten) ++ (fd ++ fz), w.heap.size ≤ g := by
  have h0 := h
  obtain ⟨v2, rfl, p0, p1, h2⟩ := h
  obtain ⟨A2, C2, _, _, rfl, -, -⟩ := h2.open_
  obtain ⟨a, cap, rfl, Iv⟩ := hv.ints
  have hxm := (validPz_facts hx).2.2.1
  clear Iv h2 p0 p1
  have Hp := Lib.hid hp
  have Hx := Lib.hid hx
  clear hp hx
  have X0 : Blk ((w.alloc (.cells #[.int .i64 x.points, .string x.names, .slice A2 x.moves.length C2] 26)).alloc (.cells #[.slice none 0 0, .slice none 0 0, .slice none 0 0, .bool false] 45)) w.heap.size [.int .i64 x.points, .string x.names, .slice A2 x.moves.length C2] := (Blk.new w [.int .i64 x.points, .string x.names, .slice A2 x.moves.length C2] 26).keep ((Only.refl _ _).alloc _)
  have Y0 : Blk ((w.alloc (.cells #[.int .i64 x.points, .string x.names, .slice A2 x.moves.length C2] 26)).alloc (.cells #[.slice none 0 0, .slice none 0 0, .slice none 0 0, .bool false] 45)) (w.heap.size + 1) [.slice none 0 0, .slice none 0 0, .slice none 0 0, .bool false] := Blk.new_at (by simp)
  go_enter Try.func28, Try.ntmps28
  go_wp2_with (first
    | (go_at_call 15; (with_reducible refine (copyInts_rd _ tr _ _ (Rp.keep hv (by with_reducible repeat (first | exact Only.refl _ _ | assumption | refine Only.drewN ?_ _ | refine Only.drew ?_ | refine Only.alloc ?_ _ | refine Only.setCell ?_ (by intro hh; exfalso; simp at hh; try omega) _ | refine Only.trans ?_ (by assumption)))) (by omega)).mono ?_); rintro e w1 ⟨v1, f1, rfl, r1, F1, t1⟩; obtain ⟨a1, c1, rfl, I1⟩ := r1.ints; clear I1; have F1' : Fresh (w.heap.size + 2) w1 f1 := F1.mono (by simp); have z1 : w.heap.size + 2 ≤ w1.heap.size := (by have := t1.size; simp at this; omega))
    | (go_at_call 46; (with_reducible refine (searchAdd_nil (w.heap.size + 2) tr.length _ tr f1 0 _ (Rp.keep r1 (by with_reducible repeat (first | exact Only.refl _ _ | assumption | refine Only.drewN ?_ _ | refine Only.drew ?_ | refine Only.alloc ?_ _ | refine Only.setCell ?_ (by intro hh; exfalso; simp at hh; try omega) _ | refine Only.trans ?_ (by assumption)))) rfl z1 F1').mono ?_); rintro e w2 ⟨B1, B2, B3, D1, D2, D3, so1, rfl, S2, T2, l2, t2⟩; have XB := (((X0.keep t1).keep t2).keep ((Only.refl [] w2).alloc (.cells #[.slice B1 1 D1, .slice B2 1 D2, .slice B3 1 D3, .bool false] 45))); have y0 := XB.cell 0 rfl; have y1 := XB.cell 1 rfl; have y2 := XB.cell 2 rfl)
    | (go_at_call 47; (with_reducible refine (lettersOf_any [.int .i64 x.points, .string x.names, .slice A2 x.moves.length C2] x _ _ (Rp.keep h0 (by with_reducible repeat (first | exact Only.refl _ _ | assumption | refine Only.drewN ?_ _ | refine Only.drew ?_ | refine Only.alloc ?_ _ | refine Only.setCell ?_ (by intro hh; exfalso; simp at hh; try omega) _ | refine Only.trans ?_ (by assumption)))) (by omega)).mono ?_); rintro e w3 ⟨v3, f3, rfl, r3, F3, t3⟩; obtain ⟨a3, c3, rfl, I3⟩ := r3.ints)
    | fail "no arm")
  have K3 : Only [] w w3 := (by with_reducible repeat (first | exact Only.refl _ _ | assumption | refine Only.drewN ?_ _ | refine Only.drew ?_ | refine Only.alloc ?_ _ | refine Only.setCell ?_ (by intro hh; exfalso; simp at hh; try omega) _ | refine Only.trans ?_ (by assumption)))
  have z2 := t2.size
  have z3 : w2.heap.size + 1 ≤ w3.heap.size := by have := t3.size; simp at this; omega
  have X3 := XB.keep t3
  have Y3 := (((Y0.keep t1).keep t2).keep ((Only.refl [] w2).alloc (.cells #[.slice B1 1 D1, .slice B2 1 D2, .slice B3 1 D3, .bool false] 45))).keep t3
  have hS : SFi x tr.length w w3 w2.heap.size [tr] [0] w3 B1 B2 B3 D1 D2 D3 so1 [f1] := by
    refine ⟨?_, ?_, T2, rfl, by simp, by simpa using Hp.out, by simp, fun g hg => .inl ?_, fun g hg => .inl ?_, fun _ _ => rfl, K3, Nat.le_refl _, by omega, by omega⟩
    · have := ((Blk.new w2 [.slice B1 1 D1, .slice B2 1 D2, .slice B3 1 D3, .bool false] 45).keep t3)
      simpa [l2] using this
    · have := (S2.keep ((Only.refl [] w2).alloc (.cells #[.slice B1 1 D1, .slice B2 1 D2, .slice B3 1 D3, .bool false] 45))).keep t3
      simpa [l2] using this
    · refine S2.fr.lt g ?_
      simp only [List.mem_append] at hg ⊢
      rw [l2] at hg
      rcases hg with hg | hg | hg
      · exact .inl hg
      · exact .inr (.inr (.inl hg))
      · exact .inr (.inr (.inr hg))
    · refine S2.fr.lt g ?_
      simp only [List.mem_append]
      exact .inr (.inl (.inl hg))
  have hf3 : ∀ g ∈ f3, w2.heap.size < g ∧ g < w3.heap.size := fun g hg => ⟨by have := F3.ge g hg; simp at this; omega, F3.lt g hg⟩
  clear F3
  clear S2 T2 l2 XB y0 y1 y2 X0 Y0 r1 F1 F1' t1 t2 t3 z1 z2 z3
  obtain ⟨b5, hb5⟩ : ∃ b5, b5 = w2.heap.size := ⟨_, rfl⟩
  rw [← hb5] at hS hf3 ⊢
  clear hb5
  obtain ⟨R, hR⟩ : ∃ R, R = bFrom x 3001 0 ([tr], [0]) := ⟨_, rfl⟩
  have HR := Lib.hid hR
  have hll : (ltrs x.moves.length).length ≤ 1000 := by rw [ltrs_len]; omega
  obtain ⟨ls, hls⟩ : ∃ ls, ls = ltrs x.moves.length := ⟨_, rfl⟩
  rw [← hls] at r3 I3 hll
  rw [← hls]
  have Hls := Lib.hid hls
  clear hR hls
  go_loopw [7] (fun s7 wr => ∃ (k : Nat) (L : List (List Int)) (D : List Int), s7 = .int .i64 k ∧ k ≤ L.length ∧ (∃ A1 A2 A3 C1 C2 C3 so fs, SFi x tr.length w w3 b5 L D wr A1 A2 A3 C1 C2 C3 so fs) ∧ R = bFrom x (3001 - k) k (L, D))
    (fun s7 _ => 3001 - (intOf s7).toNat)
  case atStart => exact ⟨0, [tr], [0], rfl, by simp, ⟨_, _, _, _, _, _, _, _, hS⟩, HR.out⟩
  case round =>
    obtain ⟨W2, hnew⟩ : ∃ W, W = wr := ⟨_, rfl⟩
    subst hnew
    obtain ⟨k, L, D, rfl, hk, ⟨A1, A2', A3, C1, C2', C3, so, fs, hF⟩, hRk⟩ := hrel
    have HRk := Lib.hid hRk
    have hL3 := hF.ll
    have y0 := hF.blk.cell 0 rfl
    clear hRk
    by_cases hlt : k < L.length
    · have hst := HRk.out.trans (bFrom_step hlt hL3)
      rw [← Hls.out] at hst
      have Hst := Lib.hid hst
      clear hst
      obtain ⟨q, hq⟩ : ∃ q, q = L.getD k [] := ⟨_, rfl⟩
      obtain ⟨d1, hd1⟩ : ∃ d, d = D.getD k 0 + 1 := ⟨_, rfl⟩
      rw [← hq, ← hd1] at Hst
      have Hq := Lib.hid hq.symm
      have Hd := Lib.hid hd1.symm
      clear hq hd1
      go_wp2
      go_loopw [8] (fun s8 wr => ∃ (i : Nat) (L : List (List Int)) (D : List Int), s8 = .int .i64 i ∧ i ≤ ls.length ∧ (∃ A1 A2 A3 C1 C2 C3 so fs, SFi x tr.length w w3 b5 L D wr A1 A2 A3 C1 C2 C3 so fs) ∧ k < L.length ∧ L.getD k [] = q ∧ D.getD k 0 + 1 = d1 ∧ R = (bLets x q d1 (ls.drop i) (L, D)).bind (bFrom x (3001 - (k + 1)) (k + 1)))
        (fun s8 _ => ls.length - (intOf s8).toNat)
      case atStart => exact ⟨0, L, D, rfl, Nat.zero_le _, ⟨_, _, _, _, _, _, _, _, hF⟩, hlt, Hq.out, Hd.out, by rw [List.drop_zero]; exact Hst.out⟩
      case round =>
        clear y0 hL3 hF HRk Hst Hq Hd hlt hk
        obtain ⟨W3, hnew⟩ : ∃ W, W = wr := ⟨_, rfl⟩
        subst hnew
        obtain ⟨i, L, D, rfl, hi, ⟨A1, A2', A3, C1, C2', C3, so, fs, hF⟩, hlt, hq, hd, hRi⟩ := hrel
        have Hq := Lib.hid hq
        have Hd := Lib.hid hd
        have HRi := Lib.hid hRi
        have hL3 := hF.ll
        have hDl := hF.dl
        have HDl := Lib.hid hDl
        clear hq hd hRi hDl
        have hXx := hF.oldBlk X3 (by omega)
        have x0 := hXx.cell 0 rfl
        have x1 := hXx.cell 1 rfl
        have x2 := hXx.cell 2 rfl
        have y0 := hF.blk.cell 0 rfl
        have K := hF.on
        have IL := I3.frame (fun g hg => hF.keep g (.inr (hf3 g hg)))
        by_cases hil : i < ls.length
        · obtain ⟨b3, off3, rfl, -, hc3⟩ := IL.at_ i hil
          have hla : ls[i] ∈ ltrs x.moves.length := by rw [← Hls.out]; exact List.getElem_mem hil
          have hacc := (hF.sro.acc.rd (by decide)).open_
          obtain ⟨a1', c1', ob, fps, hv1, -, hS1⟩ := hacc
          injection hv1 with e1 _ e2
          subst e1
          subst e2
          obtain ⟨b1, off1, u, rfl, -, hc1, hu⟩ := hS1.atRow k hlt
          have hqk : L[k] = q := by have := Hq.out; rw [List.getD_eq_getElem?_getD, List.getElem?_eq_getElem hlt] at this; exact this
          have hpat := hF.pat L[k] (List.getElem_mem hlt)
          rw [hqk] at hu hpat
          have Hpat := Lib.hid hpat
          have Hla := Lib.hid hla
          have hql : q.length ≤ 1000 := by rw [(patB_iff.1 hpat).1]; exact htl
          have Hrng := Lib.hid (patB_iff.1 hpat).2.1
          clear hqk hpat hla
          have Hc := Lib.hid (fun (W : World) (hh : Only [] W3 W) => applyLetter_any [.int .i64 x.points, .string x.names, .slice A2 x.moves.length C2] x _ _ q _ ls[i] W (Rp.keep h0 (K.trans hh)) (Rp.keep hu hh) Hx.out Hla.out Hrng.out hql)
          go_wp2
          go_region_held3 (fun w' => Only [] W3 w' ∧ w'.cell? ⟨w.heap.size, 0, none⟩ = some (.int .i64 x.points) ∧ w'.cell? ⟨w.heap.size, 1, none⟩ = some (.string x.names) ∧ w'.cell? ⟨w.heap.size, 2, none⟩ = some (.slice A2 x.moves.length C2) ∧ w'.cell? ⟨b5, 0, none⟩ = some (.slice (some ⟨b1, off1, none⟩) L.length C1) ∧ w'.cell? ⟨b1, off1 + k, none⟩ = some (u) ∧ w'.cell? ⟨b3, off3 + i, none⟩ = some (.int .i64 ls[i])) (((refine and_of ?_ (fun h__ => ⟨h__.cell (by simp) x0, h__.cell (by simp) x1, h__.cell (by simp) x2, h__.cell (by simp) y0, h__.cell (by simp) hc1, h__.cell (by simp) hc3⟩)); first | exact (Only.refl _ _).drew | exact ((Only.refl _ _).drewN _).drew | exact Only.trans (And.left (by assumption)) (by assumption) | exact Only.alloc (And.left (by assumption)) _ | assumption)) (first | (go_at_call 48; (with_reducible refine (Hc.out _ (And.left (by assumption))).mono ?_); rintro e w4 ⟨u4, f4, rfl, r4, F4, t4⟩; have F4' := F4.mono (((Only.refl [] W3).trans (And.left (by assumption))).size)) | fail "no arm")
          have k4 : Only [] W3 w4 := (Only.refl [] W3).trans (And.left (by assumption))
          obtain ⟨s, hs⟩ : ∃ s, s = nxt x q ls[i] := ⟨_, rfl⟩
          rw [← hs] at r4
          have hps : patB x.points tr.length s = true := by rw [hs]; exact nxt_pat Hx.out Hpat.out Hla.out
          have hsl : s.length = tr.length := (patB_iff.1 hps).1
          have hdr : ls.drop i = ls[i] :: ls.drop (i + 1) := List.drop_eq_getElem_cons hil
          have HRi2 := Lib.hid hdr
          have Hs := Lib.hid hs
          have Hps := Lib.hid hps
          have Hsl := Lib.hid hsl
          have hF4 := hF.only k4
          obtain ⟨ob4, fps4, fd4, fz4, hR4⟩ := hF4.sro.srR (fun z hz => by have := hF4.dep z hz; have := HDl.out; unfold I64; omega) (fun j hj => by have := hF4.srt.in_ j hj; omega)
          have q0 := hF4.blk.cell 0 rfl
          have q1 := hF4.blk.cell 1 rfl
          have q2 := hF4.blk.cell 2 rfl
          have q3 := hF4.blk.cell 3 rfl
          have hS4 := Lib.hid hF4.srt
          clear hs hps hsl hdr x0 x1 x2 y0 hc1 hc3 hu hS1 Hc
          by_cases hmem : s ∈ L
          · have Hmem := Lib.hid hmem
            clear hmem
            go_wp2_with (first
              | (go_at_call 49; (with_reducible refine (searchIndex_any (some ⟨b1, off1, none⟩) A2' A3 C1 C2' C3 false L D so ob4 fps4 fd4 fz4 tr.length _ s f4 _ (hR4.keep (by with_reducible repeat (first | exact Only.refl _ _ | assumption | refine Only.drewN ?_ _ | refine Only.drew ?_ | refine Only.alloc ?_ _ | refine Only.setCell ?_ (by intro hh; exfalso; simp at hh; try omega) _ | refine Only.trans ?_ (by assumption)))) hS4.out (Rp.keep r4 (by with_reducible repeat (first | exact Only.refl _ _ | assumption | refine Only.drewN ?_ _ | refine Only.drew ?_ | refine Only.alloc ?_ _ | refine Only.setCell ?_ (by intro hh; exfalso; simp at hh; try omega) _ | refine Only.trans ?_ (by assumption)))) Hsl.out hL3).mono ?_); rintro e w5 ⟨r, rfl, hr, t5⟩; have hr2 := hr.2 Hmem.out; clear hr)
              | fail "no arm")
            go_roundw
            case rel => exact ⟨i + 1, L, D, by go_num, by omega, ⟨_, _, _, _, _, _, _, _, hF4.only t5⟩, hlt, Hq.out, Hd.out, by rw [HRi.out, HRi2.out, bLets_old (by rw [← Hs.out]; exact Hmem.out)]⟩
            case measure => simp [intOf]; omega
          · have Hmem := Lib.hid hmem
            clear hmem
            by_cases hfull : L.length = 3000
            · have Hfull := Lib.hid hfull
              have hfb : ((L.length : Int) == 3000) = true := by simp [hfull]
              clear hfull
              go_wp2_with (first
                | (go_at_call 49; (with_reducible refine (searchIndex_any (some ⟨b1, off1, none⟩) A2' A3 C1 C2' C3 false L D so ob4 fps4 fd4 fz4 tr.length _ s f4 _ (hR4.keep (by with_reducible repeat (first | exact Only.refl _ _ | assumption | refine Only.drewN ?_ _ | refine Only.drew ?_ | refine Only.alloc ?_ _ | refine Only.setCell ?_ (by intro hh; exfalso; simp at hh; try omega) _ | refine Only.trans ?_ (by assumption)))) hS4.out (Rp.keep r4 (by with_reducible repeat (first | exact Only.refl _ _ | assumption | refine Only.drewN ?_ _ | refine Only.drew ?_ | refine Only.alloc ?_ _ | refine Only.setCell ?_ (by intro hh; exfalso; simp at hh; try omega) _ | refine Only.trans ?_ (by assumption)))) Hsl.out hL3).mono ?_); rintro e w5 ⟨r, rfl, hr, t5⟩; have hr2 : ¬ 0 ≤ r := (fun hh => Hmem.out (hr.1 hh)); clear hr; have hF5 := hF4.only t5; clear q0 q1 q2 q3; have q0 := hF5.blk.cell 0 rfl; have q1 := hF5.blk.cell 1 rfl; have q2 := hF5.blk.cell 2 rfl; have q3 := hF5.blk.cell 3 rfl; have hY5 := hF5.oldBlk Y3 (by omega); have g0 := hY5.cell 0 rfl; have g1 := hY5.cell 1 rfl; have g2 := hY5.cell 2 rfl; have g3 := hY5.cell 3 rfl; have p0 := hY5.frozen 0; have p1 := hY5.frozen 1; have p2 := hY5.frozen 2; have p3 := hY5.frozen 3)
                | fail "no arm")
              have Yf := ((((hY5).set 0 (.slice (some ⟨b1, off1, none⟩) L.length C1)).set 1 (.slice A2' D.length C2')).set 2 (.slice A3 so.length C3)).set 3 (.bool false)
              have kf : Only [w.heap.size + 1] w5 ((((w5.setCell ⟨w.heap.size + 1, 0, none⟩ (.slice (some ⟨b1, off1, none⟩) L.length C1)).setCell ⟨w.heap.size + 1, 1, none⟩ (.slice A2' D.length C2')).setCell ⟨w.heap.size + 1, 2, none⟩ (.slice A3 so.length C3)).setCell ⟨w.heap.size + 1, 3, none⟩ (.bool false)) := ((((Only.refl _ _).setCell (by simp) _).setCell (by simp) _).setCell (by simp) _).setCell (by simp) _
              have o9 := hF5.srt
              obtain ⟨fL, fD, o1, o2, o3, o4, o5, o6⟩ := hF5.out kf (by simp) htl
              obtain ⟨ob9, fps9, fd9, fz9, o8, o10⟩ := hF5.out2 kf (by simp)
              obtain ⟨wf, hwf⟩ : ∃ wf, wf = ((((w5.setCell ⟨w.heap.size + 1, 0, none⟩ (.slice (some ⟨b1, off1, none⟩) L.length C1)).setCell ⟨w.heap.size + 1, 1, none⟩ (.slice A2' D.length C2')).setCell ⟨w.heap.size + 1, 2, none⟩ (.slice A3 so.length C3)).setCell ⟨w.heap.size + 1, 3, none⟩ (.bool false)) := ⟨_, rfl⟩
              rw [← hwf] at Yf o1 o2 o3 o8 ⊢
              simp only [List.set] at Yf
              clear hwf kf q0 q1 q2 q3 g0 g1 g2 g3 p0 p1 p2 p3
              have r0 := Yf.cell 0 rfl
              have r1 := Yf.cell 1 rfl
              have r2 := Yf.cell 2 rfl
              have r3 := Yf.cell 3 rfl
              refine bodyPost_ret (v := .agg #[.slice (some ⟨b1, off1, none⟩) L.length C1, .slice A2' D.length C2', .slice A3 so.length C3, .bool false]) (by simp [results, Try.results28, go_sem, r0, r1, r2, r3]) rfl ⟨_, _, _, _, _, _, _, false, L, D, fL, fD, rfl, o1, o2, ?_, o3, o4, o5, o6.1, o6.2, so, ob9, fps9, fd9, fz9, rfl, o8, o9, o10⟩
              rw [← HR.out, HRi.out, HRi2.out, bLets_full (by rw [← Hs.out]; exact Hmem.out) Hfull.out]
              rfl
            · have hfb : ((L.length : Int) == 3000) = false := by simp; omega
              have hL4 : L.length < 3000 := by omega
              clear hfull
              obtain ⟨b2, off2, rfl, -, hcd⟩ := hR4.dp.at_ k (by have := HDl.out; omega)
              have hdk := hF4.dep (D[k]'(by have := HDl.out; omega)) (List.getElem_mem _)
              obtain ⟨dk, hdk0⟩ : ∃ dk, dk = D[k]'(by have := HDl.out; omega) := ⟨_, rfl⟩
              rw [← hdk0] at hcd hdk
              have hdd : dk + 1 = d1 := by
                have := Hd.out
                rw [List.getD_eq_getElem?_getD, List.getElem?_eq_getElem (show k < D.length by have := HDl.out; omega)] at this
                rw [hdk0]; exact this
              have Hdd := Lib.hid hdd
              have hdk1 : 0 ≤ dk := hdk.1
              have hdk2 : dk ≤ 3000 := by have := hdk.2; have := HDl.out; omega
              have hdk3 := hdk.2
              have Hdk3 := Lib.hid hdk3
              have hkD : k < D.length := by have := HDl.out; omega
              have hw1 : IntKind.i64.wrap (dk + 1) = dk + 1 := by rw [IntKind.wrap_i64]; omega
              clear hdk hdk0 hdd hdk3
              go_wp2_with (first
                | (go_at_call 49; (with_reducible refine (searchIndex_any (some ⟨b1, off1, none⟩) (some ⟨b2, off2, none⟩) A3 C1 C2' C3 false L D so ob4 fps4 fd4 fz4 tr.length _ s f4 _ (hR4.keep (by with_reducible repeat (first | exact Only.refl _ _ | assumption | refine Only.drewN ?_ _ | refine Only.drew ?_ | refine Only.alloc ?_ _ | refine Only.setCell ?_ (by intro hh; exfalso; simp at hh; try omega) _ | refine Only.trans ?_ (by assumption)))) hS4.out (Rp.keep r4 (by with_reducible repeat (first | exact Only.refl _ _ | assumption | refine Only.drewN ?_ _ | refine Only.drew ?_ | refine Only.alloc ?_ _ | refine Only.setCell ?_ (by intro hh; exfalso; simp at hh; try omega) _ | refine Only.trans ?_ (by assumption)))) Hsl.out hL3).mono ?_); rintro e w5 ⟨r, rfl, hr, t5⟩; have hr2 : ¬ 0 ≤ r := (fun hh => Hmem.out (hr.1 hh)); clear hr; have hF5 := hF4.only t5; clear q0 q1 q2 q3; have q0 := hF5.blk.cell 0 rfl; have q1 := hF5.blk.cell 1 rfl; have q2 := hF5.blk.cell 2 rfl; have q3 := hF5.blk.cell 3 rfl; have hcd5 := t5.cell (by simp) hcd)
                | fail "no arm")
              have hb5s := hF5.sz
              have hBW : w.heap.size + 2 ≤ W3.heap.size := by have := hF.sz; have := hF.bW; have := hF.wb; omega
              have hDI : ∀ z ∈ D, I64 z := fun z hz => by have := hF5.dep z hz; have := HDl.out; unfold I64; omega
              have Hc6 := Lib.hid (fun (W : World) (hh : Only [] w5 W) => searchAdd_any (w.heap.size + 2) (some ⟨b1, off1, none⟩) (some ⟨b2, off2, none⟩) A3 C1 C2' C3 false L D so fs tr.length u4 s f4 (dk + 1) W (hF.sro.pend ((k4.trans t5).trans hh) hBW (F4'.keep (t5.trans hh))) hS4.out (Rp.keep r4 (t5.trans hh)) Hsl.out Hmem.out hL4 HDl.out hDI (Nat.le_trans hBW ((k4.trans t5).trans hh).size))
              clear hDI
              go_region_law (first
                | (go_simp; go_at_call 46; (with_reducible refine (Hc6.out _ (by with_reducible repeat (first | exact Only.refl _ _ | assumption | refine Only.drewN ?_ _ | refine Only.drew ?_ | refine Only.alloc ?_ _ | refine Only.setCell ?_ (by intro hh; exfalso; simp at hh; try omega) _ | refine Only.trans ?_ (by assumption)))).mono ?_); rintro e w6 ⟨A1n, A2n, A3n, C1n, C2n, C3n, son, rfl, S6, T6, l6, t6, v6⟩; have B6 := (hF5.only (by with_reducible repeat (first | exact Only.refl _ _ | assumption | refine Only.drewN ?_ _ | refine Only.drew ?_ | refine Only.alloc ?_ _ | refine Only.setCell ?_ (by intro hh; exfalso; simp at hh; try omega) _ | refine Only.trans ?_ (by assumption)))).blk.only t6 (fun hm => by have := hF5.ap b5 hm; have := hF5.bW; omega); have g0 := B6.cell 0 rfl; have g1 := B6.cell 1 rfl; have g2 := B6.cell 2 rfl; have g3 := B6.cell 3 rfl; have p0 := B6.frozen 0; have p1 := B6.frozen 1; have p2 := B6.frozen 2; have p3 := B6.frozen 3; rw [Hdd.out] at S6)
                | fail "no arm")
              all_goals go_wp2_with fail
              all_goals go_roundw
              all_goals first
                | (simp [intOf]; omega)
                | exact ⟨i + 1, L ++ [s], D ++ [d1], by go_num, by omega, ⟨_, _, _, _, _, _, _, _, SFi.step (hF5.only (by with_reducible repeat (first | exact Only.refl _ _ | assumption | refine Only.drewN ?_ _ | refine Only.drew ?_ | refine Only.alloc ?_ _ | refine Only.setCell ?_ (by intro hh; exfalso; simp at hh; try omega) _ | refine Only.trans ?_ (by assumption)))) (fun g hg => by have := F4'.ge g hg; have := hF.sz; omega) hL4 Hps.out (by have := Hdd.out; have := Hdk3.out; omega) S6 T6 l6 t6 v6 (fpw := [b5]) (by with_reducible repeat (first | exact Only.refl _ _ | refine Only.drew ?_ | refine Only.setCell ?_ (by simp) _)) (by simp) ((((B6.set 0 _).set 1 _).set 2 _).set 3 _)⟩, by simp; omega, by rw [getD_snoc hlt]; exact Hq.out, by rw [getD_snoc hkD]; exact Hd.out, by rw [HRi.out, HRi2.out, bLets_new (by rw [← Hs.out]; exact Hmem.out) (by omega), ← Hs.out]⟩
        · obtain rfl : i = ls.length := by omega
          go_wp2
          exact ⟨⟨k + 1, L, D, by go_num, by omega, ⟨_, _, _, _, _, _, _, _, hF⟩, by rw [HRi.out, List.drop_length]; rfl⟩, by simp [intOf]; omega⟩
    · obtain rfl : k = L.length := by omega
      have hY5 := hF.oldBlk Y3 (by omega)
      have hb5 := hF.wb
      have q3 := hF.blk.cell 3 rfl
      have z3 := hF.blk.frozen 3
      have hB6 := hF.blk.set 3 (.bool true)
      have hY6 := hY5.only ((Only.refl [b5] W2).setCell (p := ⟨b5, 3, none⟩) (by simp) (.bool true)) (by simp; omega)
      have q0 := hB6.cell 0 rfl
      have q1 := hB6.cell 1 rfl
      have q2 := hB6.cell 2 rfl
      have q4 := hB6.cell 3 rfl
      have g0 := hY6.cell 0 rfl
      have g1 := hY6.cell 1 rfl
      have g2 := hY6.cell 2 rfl
      have g3 := hY6.cell 3 rfl
      have p0 := hY6.frozen 0
      have p1 := hY6.frozen 1
      have p2 := hY6.frozen 2
      have p3 := hY6.frozen 3
      go_wp2
      have Yf := ((((hY6).set 0 (.slice A1 L.length C1)).set 1 (.slice A2' D.length C2')).set 2 (.slice A3 so.length C3)).set 3 (.bool true)
      have kf : Only [b5, w.heap.size + 1] W2 (((((W2.setCell ⟨b5, 3, none⟩ (.bool true)).setCell ⟨w.heap.size + 1, 0, none⟩ (.slice A1 L.length C1)).setCell ⟨w.heap.size + 1, 1, none⟩ (.slice A2' D.length C2')).setCell ⟨w.heap.size + 1, 2, none⟩ (.slice A3 so.length C3)).setCell ⟨w.heap.size + 1, 3, none⟩ (.bool true)) := ((((((Only.refl [b5, w.heap.size + 1] W2).setCell (by simp) _)).setCell (by simp) _).setCell (by simp) _).setCell (by simp) _).setCell (by simp) _
      have o9 := hF.srt
      obtain ⟨fL, fD, o1, o2, o3, o4, o5, o6⟩ := hF.out kf (by simp) htl
      obtain ⟨ob9, fps9, fd9, fz9, o8, o10⟩ := hF.out2 kf (by simp)
      obtain ⟨wf, hwf⟩ : ∃ wf, wf = (((((W2.setCell ⟨b5, 3, none⟩ (.bool true)).setCell ⟨w.heap.size + 1, 0, none⟩ (.slice A1 L.length C1)).setCell ⟨w.heap.size + 1, 1, none⟩ (.slice A2' D.length C2')).setCell ⟨w.heap.size + 1, 2, none⟩ (.slice A3 so.length C3)).setCell ⟨w.heap.size + 1, 3, none⟩ (.bool true)) := ⟨_, rfl⟩
      rw [← hwf] at Yf o1 o2 o3 o8 ⊢
      simp only [List.set] at Yf
      clear hwf kf hB6 hY6 q4 z3 q0 q1 q2 q3 g0 g1 g2 g3 p0 p1 p2 p3
      have r0 := Yf.cell 0 rfl
      have r1 := Yf.cell 1 rfl
      have r2 := Yf.cell 2 rfl
      have r3 := Yf.cell 3 rfl
      refine bodyPost_ret (v := .agg #[.slice A1 L.length C1, .slice A2' D.length C2', .slice A3 so.length C3, .bool true]) (by simp [results, Try.results28, go_sem, r0, r1, r2, r3]) rfl ⟨_, _, _, _, _, _, _, true, L, D, fL, fD, rfl, o1, o2, ?_, o3, o4, o5, o6.1, o6.2, so, ob9, fps9, fd9, fz9, rfl, o8, o9, o10⟩
      rw [← HR.out, HRk.out, bFrom_end hlt hL3]
      rfl
theorem searchFrom_any (cs : List Value) (x : Puzzle) (fp : List Nat) (v : Value) (tr : List Int) (ft : List Nat) (w : World) (h : Rp.rep w cs x fp) (hv : Rd w v tr ft) (hx : validPz x = true) (hp : patB x.points tr.length tr = true) (htl : tr.length ≤ 1000) :
    Calls Try.prog 28 #[.agg cs.toArray, v] w fun e w' => ∃ A1 A2 A3 C1 C2 C3 n3 wh L D fL fD, e = .returned (.agg #[.slice A1 (List.length L) C1, .slice A2 (List.length D) C2, .slice A3 n3 C3, .bool wh]) ∧
      Rd w' (.slice A1 L.length C1) L fL ∧ Rd w' (.slice A2 D.length C2) D fD ∧ (bFrom x 3001 0 ([tr], [0]) = if wh = true then some (L, D) else none) ∧ Only [] w w' ∧ (∀ g ∈ fL ++ fD, w.heap.size ≤ g) ∧ L.length ≤ 3000 ∧ D.length ≤ 3000 ∧ ∀ q ∈ L, q.length ≤ 1000 := by
  refine (searchFrom_srt cs x fp v tr ft w h hv hx hp htl).mono ?_
  rintro e w' ⟨A1, A2, A3, C1, C2, C3, n3, wh, L, D, fL, fD, e1, o1, o2, o3, o4, o5, o6, o7, o8, -⟩
  exact ⟨A1, A2, A3, C1, C2, C3, n3, wh, L, D, fL, fD, e1, o1, o2, o3, o4, o5, o6, o7, o8⟩
end Go.Proofs.Ytpkplmnpepkdaaa

namespace Go.Proofs.Ytpkplmnpepkdaaa
open Go.RowKit
set_option maxRecDepth 10000

/-- the table of a tracked set -/
def bTab (x : Puzzle) (tr : List Int) : Option Table := (bfs16 x tr).map fun s => ⟨tr, s.1, s.2⟩
theorem bfs16_no {x : Puzzle} {tr : List Int} (h : (validPz x && trackB x.points tr) = false) : bfs16 x tr = none := by unfold bfs16; rw [h]; rfl
theorem bfs16_yes {x : Puzzle} {tr : List Int} (h : (validPz x && trackB x.points tr) = true) : bfs16 x tr = bFrom x 3001 0 ([tr], [0]) := by unfold bfs16; rw [if_pos h]
set_option maxHeartbeats 4000000 in
theorem searchPatterns_any (cs : List Value) (x : Puzzle) (fp : List Nat) (v : Value) (tr : List Int) (ft : List Nat) (w : World) (h : Rp.rep w cs x fp) (hv : Rd w v tr ft) :
    Calls Try.prog 14 #[.agg cs.toArray, v] w fun e w' => ∃ A1 A2 A3 C1 C2 C3 n3 wh L D fL fD, e = .returned (.tuple #[.agg #[.slice A1 (List.length L) C1, .slice A2 (List.length D) C2, .slice A3 n3 C3, .bool wh], .bool wh]) ∧
      Rd w' (.slice A1 L.length C1) L fL ∧ Rd w' (.slice A2 D.length C2) D fD ∧ (bfs16 x tr = if wh = true then some (L, D) else none) ∧ Only [] w w' ∧ (∀ g ∈ fL ++ fD, w.heap.size ≤ g) ∧ L.length ≤ 3000 ∧ D.length ≤ 3000 ∧ ∀ q ∈ L, q.length ≤ 1000 := by
  have h0 := h
  obtain ⟨v2, rfl, p0, p1, h2⟩ := h
  obtain ⟨A2, C2, _, _, rfl, -, -⟩ := h2.open_
  obtain ⟨a, cap, rfl, Iv⟩ := hv.ints
  clear Iv h2 p0 p1
  have X0 : Blk ((w.alloc (.cells #[.int .i64 x.points, .string x.names, .slice A2 x.moves.length C2] 26)).alloc (.cells #[.slice none 0 0, .slice none 0 0, .slice none 0 0, .bool false] 45)) w.heap.size [.int .i64 x.points, .string x.names, .slice A2 x.moves.length C2] := (Blk.new w [.int .i64 x.points, .string x.names, .slice A2 x.moves.length C2] 26).keep ((Only.refl _ _).alloc _)
  have Y0 : Blk ((w.alloc (.cells #[.int .i64 x.points, .string x.names, .slice A2 x.moves.length C2] 26)).alloc (.cells #[.slice none 0 0, .slice none 0 0, .slice none 0 0, .bool false] 45)) (w.heap.size + 1) [.slice none 0 0, .slice none 0 0, .slice none 0 0, .bool false] := Blk.new_at (by simp)
  rcases hq : validPz x && trackB x.points tr
  · have Hn := Lib.hid (bfs16_no hq)
    have Hq := Lib.hid hq
    clear hq
    go_enter Try.func14, Try.ntmps14
    go_wp2_with (first
      | (go_at_call 27; (with_reducible refine (specIsTrackedSet_any [.int .i64 x.points, .string x.names, .slice A2 x.moves.length C2] x _ _ tr _ _ (Rp.keep h0 (by with_reducible repeat (first | exact Only.refl _ _ | assumption | refine Only.drewN ?_ _ | refine Only.drew ?_ | refine Only.alloc ?_ _ | refine Only.setCell ?_ (by intro hh; exfalso; simp at hh; try omega) _ | refine Only.trans ?_ (by assumption)))) (Rp.keep hv (by with_reducible repeat (first | exact Only.refl _ _ | assumption | refine Only.drewN ?_ _ | refine Only.drew ?_ | refine Only.alloc ?_ _ | refine Only.setCell ?_ (by intro hh; exfalso; simp at hh; try omega) _ | refine Only.trans ?_ (by assumption))))).mono ?_); rintro e w1 ⟨he, t1⟩; rw [Hq.out] at he; subst he; have Y1 := Y0.keep t1; have g0 := Y1.cell 0 rfl; have g1 := Y1.cell 1 rfl; have g2 := Y1.cell 2 rfl; have g3 := Y1.cell 3 rfl; have p0 := Y1.frozen 0; have p1 := Y1.frozen 1; have p2 := Y1.frozen 2; have p3 := Y1.frozen 3)
      | fail "no arm")
    have K1 : Only [] w w1 := (by with_reducible repeat (first | exact Only.refl _ _ | assumption | refine Only.drewN ?_ _ | refine Only.drew ?_ | refine Only.alloc ?_ _ | refine Only.setCell ?_ (by intro hh; exfalso; simp at hh; try omega) _ | refine Only.trans ?_ (by assumption)))
    have Yf := (((Y1.set 0 (.slice none 0 0)).set 1 (.slice none 0 0)).set 2 (.slice none 0 0)).set 3 (.bool false)
    have kf : Only [] w ((((w1.setCell ⟨w.heap.size + 1, 0, none⟩ (.slice none 0 0)).setCell ⟨w.heap.size + 1, 1, none⟩ (.slice none 0 0)).setCell ⟨w.heap.size + 1, 2, none⟩ (.slice none 0 0)).setCell ⟨w.heap.size + 1, 3, none⟩ (.bool false)) := K1.then_ (((((Only.refl [w.heap.size + 1] w1).setCell (by simp) _).setCell (by simp) _).setCell (by simp) _).setCell (by simp) _) (by simp)
    obtain ⟨wf, hwf⟩ : ∃ wf, wf = ((((w1.setCell ⟨w.heap.size + 1, 0, none⟩ (.slice none 0 0)).setCell ⟨w.heap.size + 1, 1, none⟩ (.slice none 0 0)).setCell ⟨w.heap.size + 1, 2, none⟩ (.slice none 0 0)).setCell ⟨w.heap.size + 1, 3, none⟩ (.bool false)) := ⟨_, rfl⟩
    rw [← hwf] at Yf kf ⊢
    simp only [List.set] at Yf
    clear hwf g0 g1 g2 g3 p0 p1 p2 p3
    have r0 := Yf.cell 0 rfl
    have r1 := Yf.cell 1 rfl
    have r2 := Yf.cell 2 rfl
    have r3 := Yf.cell 3 rfl
    refine bodyPost_ret (v := .tuple #[.agg #[.slice none 0 0, .slice none 0 0, .slice none 0 0, .bool false], .bool false]) (by simp [results, Try.results14, go_sem, r0, r1, r2, r3]) rfl ⟨none, none, none, 0, 0, 0, 0, false, [], [], [], [], rfl, nil_rd _, nil_rd _, ?_, kf, by simp, by simp, by simp, by simp⟩
    rw [Hn.out]; rfl
  · have Hn := Lib.hid (bfs16_yes hq)
    obtain ⟨q1, q2⟩ := (Bool.and_eq_true _ _).mp hq
    have Hq := Lib.hid hq
    have Hv := Lib.hid q1
    have Hp := Lib.hid (trackB_pat q2)
    have htl : tr.length ≤ 1000 := by
      have h3 := (trackB_iff.1 q2).2.len
      have := (validPz_facts q1).2.1
      omega
    clear hq q1 q2
    go_enter Try.func14, Try.ntmps14
    go_wp2_with (first
      | (go_at_call 27; (with_reducible refine (specIsTrackedSet_any [.int .i64 x.points, .string x.names, .slice A2 x.moves.length C2] x _ _ tr _ _ (Rp.keep h0 (by with_reducible repeat (first | exact Only.refl _ _ | assumption | refine Only.drewN ?_ _ | refine Only.drew ?_ | refine Only.alloc ?_ _ | refine Only.setCell ?_ (by intro hh; exfalso; simp at hh; try omega) _ | refine Only.trans ?_ (by assumption)))) (Rp.keep hv (by with_reducible repeat (first | exact Only.refl _ _ | assumption | refine Only.drewN ?_ _ | refine Only.drew ?_ | refine Only.alloc ?_ _ | refine Only.setCell ?_ (by intro hh; exfalso; simp at hh; try omega) _ | refine Only.trans ?_ (by assumption))))).mono ?_); rintro e w1 ⟨he, t1⟩; rw [Hq.out] at he; subst he; have X1 := X0.keep t1; have g0 := X1.cell 0 rfl; have g1 := X1.cell 1 rfl; have g2 := X1.cell 2 rfl)
      | (go_at_call 28; (with_reducible refine (searchFrom_any [.int .i64 x.points, .string x.names, .slice A2 x.moves.length C2] x _ _ tr _ _ (Rp.keep h0 (by with_reducible repeat (first | exact Only.refl _ _ | assumption | refine Only.drewN ?_ _ | refine Only.drew ?_ | refine Only.alloc ?_ _ | refine Only.setCell ?_ (by intro hh; exfalso; simp at hh; try omega) _ | refine Only.trans ?_ (by assumption)))) (Rp.keep hv (by with_reducible repeat (first | exact Only.refl _ _ | assumption | refine Only.drewN ?_ _ | refine Only.drew ?_ | refine Only.alloc ?_ _ | refine Only.setCell ?_ (by intro hh; exfalso; simp at hh; try omega) _ | refine Only.trans ?_ (by assumption)))) Hv.out Hp.out htl).mono ?_); rintro e w2 ⟨B1, B2, B3, D1, D2, D3, n3, wh, L, D, fL, fD, rfl, o1, o2, o3, t2, o4, o5⟩; have O3 := Lib.hid o3; clear o3)
      | fail "no arm")
    have K2 : Only [] w w2 := (by with_reducible repeat (first | exact Only.refl _ _ | assumption | refine Only.drewN ?_ _ | refine Only.drew ?_ | refine Only.alloc ?_ _ | refine Only.setCell ?_ (by intro hh; exfalso; simp at hh; try omega) _ | refine Only.trans ?_ (by assumption)))
    have Y1 := (((Y0.keep t1).keep t2).keep ((Only.refl [] w2).alloc (.cells #[.slice B1 L.length D1, .slice B2 D.length D2, .slice B3 n3 D3, .bool wh] 45)))
    have B4 := Blk.new w2 [.slice B1 L.length D1, .slice B2 D.length D2, .slice B3 n3 D3, .bool wh] 45
    have hsz : w.heap.size + 2 ≤ w2.heap.size := by have h5 := t1.size; have h6 := t2.size; simp at h5; omega
    have h1s : w.heap.size + 2 ≤ w1.heap.size := by have h5 := t1.size; simp at h5; omega
    have o1' := Rp.keep o1 ((Only.refl [] w2).alloc (.cells #[.slice B1 L.length D1, .slice B2 D.length D2, .slice B3 n3 D3, .bool wh] 45))
    have o2' := Rp.keep o2 ((Only.refl [] w2).alloc (.cells #[.slice B1 L.length D1, .slice B2 D.length D2, .slice B3 n3 D3, .bool wh] 45))
    have K3 := K2.alloc (.cells #[.slice B1 L.length D1, .slice B2 D.length D2, .slice B3 n3 D3, .bool wh] 45)
    obtain ⟨b, hb⟩ : ∃ b, b = w2.heap.size := ⟨_, rfl⟩
    obtain ⟨w3, hw3⟩ : ∃ w3, w3 = w2.alloc (.cells #[.slice B1 L.length D1, .slice B2 D.length D2, .slice B3 n3 D3, .bool wh] 45) := ⟨_, rfl⟩
    rw [← hb] at B4 hsz ⊢
    rw [← hw3] at Y1 B4 o1' o2' K3 ⊢
    clear hb hw3 g0 g1 g2 X1 X0 Y0 t1 t2 o1 o2 K2
    have hne : b ≠ w.heap.size + 1 := by omega
    have c0 := B4.cell 0 rfl
    have c1 := B4.cell 1 rfl
    have c2 := B4.cell 2 rfl
    have c3 := B4.cell 3 rfl
    have g0 := Y1.cell 0 rfl
    have g1 := Y1.cell 1 rfl
    have g2 := Y1.cell 2 rfl
    have g3 := Y1.cell 3 rfl
    have p0 := Y1.frozen 0
    have p1 := Y1.frozen 1
    have p2 := Y1.frozen 2
    have p3 := Y1.frozen 3
    have Yf := (((Y1.set 0 (.slice B1 L.length D1)).set 1 (.slice B2 D.length D2)).set 2 (.slice B3 n3 D3)).set 3 (.bool wh)
    simp only [List.set] at Yf
    have r0 := Yf.cell 0 rfl
    have r1 := Yf.cell 1 rfl
    have r2 := Yf.cell 2 rfl
    have r3 := Yf.cell 3 rfl
    have hno1 : ∀ g ∈ fL, g ∉ [w.heap.size + 1] := fun g hg hm => by have := o4 g (by simp [hg]); simp at hm; omega
    have hno2 : ∀ g ∈ fD, g ∉ [w.heap.size + 1] := fun g hg hm => by have := o4 g (by simp [hg]); simp at hm; omega
    have hno3 : ∀ g ∈ fL ++ fD, w.heap.size ≤ g := fun g hg => by have := o4 g hg; omega
    go_region
    all_goals go_wp2
    all_goals refine bodyPost_ret (v := .tuple #[.agg #[.slice B1 L.length D1, .slice B2 D.length D2, .slice B3 n3 D3, .bool wh], .bool wh]) (by simp [results, Try.results14, go_sem, r0, r1, r2, r3]) rfl ⟨B1, B2, B3, D1, D2, D3, n3, wh, L, D, fL, fD, rfl, Rp.only o1' (fp' := [w.heap.size + 1]) (by with_reducible repeat (first | exact Only.refl _ _ | refine Only.drew ?_ | refine Only.setCell ?_ (by simp) _)) hno1, Rp.only o2' (fp' := [w.heap.size + 1]) (by with_reducible repeat (first | exact Only.refl _ _ | refine Only.drew ?_ | refine Only.setCell ?_ (by simp) _)) hno2, by rw [Hn.out]; exact O3.out, K3.then_ (fp' := [w.heap.size + 1]) (by with_reducible repeat (first | exact Only.refl _ _ | refine Only.drew ?_ | refine Only.setCell ?_ (by simp) _)) (by simp), hno3, o5⟩
end Go.Proofs.Ytpkplmnpepkdaaa
