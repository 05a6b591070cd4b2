/- Maps from strings to numbers that a call makes; the key of a list of small numbers. -/
import Derived.Test.YtmilmbgnkpkmnaaInv
import Derived.Maps.OwnSet
import Derived.StringKeys
import Derived.Laws.BytesArg
namespace Go.Proofs.Ytmilmbgnkpkmnaa
open Go.RowKit
set_option maxRecDepth 10000
open Go.Maps (Keyed)

/-- the key of a list: a byte each -/
def kB (l : List Int) : ByteArray := strOfNums (l.map fun x => x % 256)
theorem kB_size (l : List Int) : (kB l).size = l.length := by unfold kB; rw [strOfNums_size, List.length_map]
theorem kB_inj : ∀ {l l' : List Int}, (∀ x ∈ l, 0 ≤ x ∧ x < 256) → (∀ x ∈ l', 0 ≤ x ∧ x < 256) → kB l = kB l' → l = l' := by
  intro l l' h h' he
  have hd : (kB l).data.toList = (kB l').data.toList := by rw [he]
  unfold kB at hd
  rw [strOfNums_data, strOfNums_data, List.map_map, List.map_map] at hd
  clear he
  induction l generalizing l' with
  | nil => cases l' with
    | nil => rfl
    | cons y l' => simp at hd
  | cons x l ih => cases l' with
    | nil => simp at hd
    | cons y l' =>
      simp only [List.map_cons, List.cons.injEq] at hd
      have hx := h x (by simp); have hy := h' y (by simp)
      have e1 : x % 256 = x := Int.emod_eq_of_lt hx.1 hx.2
      have e2 : y % 256 = y := Int.emod_eq_of_lt hy.1 hy.2
      have h1 := hd.1
      simp only [Function.comp, e1, e2] at h1
      have h2 := congrArg UInt8.toNat h1
      rw [UInt8.toNat_ofNat', UInt8.toNat_ofNat'] at h2
      have : x = y := by omega
      subst this
      rw [ih (fun z hz => h z (by simp [hz])) (fun z hz => h' z (by simp [hz])) hd.2]
theorem kB_eq {l l' : List Int} (h : ∀ x ∈ l, 0 ≤ x ∧ x < 256) (h' : ∀ x ∈ l', 0 ≤ x ∧ x < 256) : kB l = kB l' ↔ l = l' := ⟨kB_inj h h', fun e => by rw [e]⟩

theorem Try.lawStr : Keyed Try.prog 9 := Go.Maps.string_keyed Try.underlying9
theorem Try.zeroInt (w : World) : (zeroValue 3).run Try.prog w = .ok (.int .i64 0) w := by kernel_rfl
/-- block M is a map of at most k entries; g: what lies at a key -/
def Mp (w : World) (M k : Nat) (g : ByteArray → Option Int) : Prop :=
  ∃ D : DataW Unit, w.ownsMap Try.prog 9 (plainElem Try.prog 3) M k D ∧ ∀ s : ByteArray, s.size ≤ maxLen →
    Go.Maps.has D (.string s.data.toList) = (g s).isSome ∧ ∀ n, g s = some n → D.atKey (.string s.data.toList) (.lit (.int .i64 0)) = .lit (.int .i64 n)
theorem Mp.lt {w : World} {M k : Nat} {g : ByteArray → Option Int} (h : Mp w M k g) : M < w.heap.size := by
  obtain ⟨D, h1, -⟩ := h; exact h1.lt
theorem Mp.frame {w w' : World} {M k : Nat} {g : ByteArray → Option Int} (h : Mp w M k g) (hf : w'.heap[M]? = w.heap[M]?) : Mp w' M k g := by
  obtain ⟨D, ⟨es, c, h1, h2⟩, h3⟩ := h
  exact ⟨D, ⟨es, c, by rw [hf]; exact h1, h2⟩, h3⟩
theorem Mp.only {w w' : World} {fp : List Nat} {M k : Nat} {g : ByteArray → Option Int} (h : Mp w M k g) (ho : Only fp w w') (hn : M ∉ fp) : Mp w' M k g := h.frame (ho.block M h.lt hn)
theorem Mp.keep {w w' : World} {M k : Nat} {g : ByteArray → Option Int} (h : Mp w M k g) (ho : Only [] w w') : Mp w' M k g := h.only ho (by simp)
theorem Mp.made (w : World) {M : Nat} (hM : M = w.heap.size) : Mp (w.alloc (.map #[] 0)) M 0 (fun _ => none) := by
  subst hM
  exact ⟨.map [], World.ownsMap_made _ _ _ _, fun s _ => ⟨rfl, by simp⟩⟩
theorem Mp.congr {w : World} {M k : Nat} {g g' : ByteArray → Option Int} (h : Mp w M k g) (hg : ∀ s, g s = g' s) : Mp w M k g' := by
  have : g = g' := funext hg
  rw [← this]; exact h
section
variable {w : World} {M k : Nat} {g : ByteArray → Option Int}
/-- v, ok := m[k], as an equation -/
theorem Mp.run_ok (h : Mp w M k g) {s : ByteArray} (hs : s.size ≤ maxLen) : (Instr.lookup 78 (.map (some M)) (.string s) true).run Try.prog w = .ok (.tuple #[.int .i64 ((g s).getD 0), .bool (g s).isSome]) w := by
  obtain ⟨D, hown, hg⟩ := h
  obtain ⟨h1, h2⟩ := hg s hs
  obtain ⟨v, ps, hrun, hv⟩ := hown.look_ok Try.lawStr Try.underlying78 (Try.zeroInt w) (plainElem_int Try.underlying3 (by decide)) (Go.WideMaps.keyOf_string_mk Try.underlying9 hs)
  obtain ⟨c, rfl, hc, -⟩ := plainElem_int_inv Try.underlying3 hv
  have hc1 : D.atKey (.string s.data.toList) (.lit (.int .i64 0)) = .lit (.int .i64 c) := congrArg Prod.fst hc
  have hcv : c = (g s).getD 0 := by
    cases hgs : g s with
    | none =>
      rw [hgs] at h1
      rw [Go.Maps.atKey_of_not_has h1] at hc1
      injection hc1 with hc1; injection hc1 with _ hc1; simp [hc1]
    | some n =>
      rw [h2 n hgs] at hc1
      injection hc1 with hc1; injection hc1 with _ hc1; simp [hc1]
  rw [hrun, hcv, h1]
theorem Mp.run_no (h : Mp w M k g) {s : ByteArray} (hs : s.size ≤ maxLen) (hg : g s = none) : (Instr.lookup 78 (.map (some M)) (.string s) true).run Try.prog w = .ok (.tuple #[.int .i64 0, .bool false]) w := by
  rw [h.run_ok hs, hg]; rfl
theorem Mp.run_yes (h : Mp w M k g) {s : ByteArray} (hs : s.size ≤ maxLen) {n : Int} (hg : g s = some n) : (Instr.lookup 78 (.map (some M)) (.string s) true).run Try.prog w = .ok (.tuple #[.int .i64 n, .bool true]) w := by
  rw [h.run_ok hs, hg]; rfl
/-- m[k] -/
theorem Mp.run_at (h : Mp w M k g) {s : ByteArray} (hs : s.size ≤ maxLen) : (Instr.lookup 78 (.map (some M)) (.string s) false).run Try.prog w = .ok (.int .i64 ((g s).getD 0)) w := by
  obtain ⟨D, hown, hg⟩ := h
  obtain ⟨h1, h2⟩ := hg s hs
  obtain ⟨c, hrun, hc1, -⟩ := hown.lookup_int Try.lawStr Try.underlying78 Try.underlying3 (Try.zeroInt w) (Go.WideMaps.keyOf_string_mk Try.underlying9 hs)
  have hcv : c = (g s).getD 0 := by
    cases hgs : g s with
    | none =>
      rw [hgs] at h1
      rw [Go.Maps.atKey_of_not_has h1] at hc1
      injection hc1 with hc1; injection hc1 with _ hc1; simp [hc1]
    | some n =>
      rw [h2 n hgs] at hc1
      injection hc1 with hc1; injection hc1 with _ hc1; simp [hc1]
  rw [hrun, hcv]
theorem Mp.run_at_yes (h : Mp w M k g) {s : ByteArray} (hs : s.size ≤ maxLen) {n : Int} (hg : g s = some n) : (Instr.lookup 78 (.map (some M)) (.string s) false).run Try.prog w = .ok (.int .i64 n) w := by
  rw [h.run_at hs, hg]; rfl
/-- m[k] = v -/
theorem Mp.run_put (h : Mp w M k g) {s : ByteArray} (hs : s.size ≤ maxLen) {n : Int} (hn : I64 n) (hk : k < maxLen) :
    ∃ w', (Instr.mapUpdate 78 (.map (some M)) (.string s) (.int .i64 n)).run Try.prog w = .ok () w' ∧ Mp w' M (k + 1) (fun s' => if s' = s then some n else g s') ∧ Only [M] w w' := by
  obtain ⟨D, hown, hg⟩ := h
  have hwf : (Lit.int .i64 n).wf = true := WalkArith.wf_i64 hn
  obtain ⟨w', hrun, r1, r2⟩ := hown.store Try.lawStr Try.underlying78 hk (Go.WideMaps.keyOf_string_mk Try.underlying9 hs) (plainElem_int Try.underlying3 hwf)
  have hmap := hown.isMap
  refine ⟨w', hrun, ⟨_, r1, fun s' hs' => ?_⟩, ?_⟩
  · by_cases he : s' = s
    · subst he
      have hkl : WideAt.IsKeyLit (Lit.string s'.data.toList) := trivial
      exact ⟨by rw [Go.Maps.has_put_same hmap hkl]; simp, fun m' hm' => by
        rw [Go.Maps.atKey_put_same hmap hkl]; simp at hm'; rw [hm']⟩
    · have hne : (Lit.string s'.data.toList) ≠ .string s.data.toList := by
        intro e; injection e with e
        apply he
        have : s'.data = s.data := Array.toList_inj.1 e
        cases s'; cases s; simp at this; rw [this]
      obtain ⟨h1, h2⟩ := hg s' hs'
      exact ⟨by rw [Go.Maps.has_put_other hne, h1]; simp [he], fun m' hm' => by
        rw [Go.Maps.atKey_put_other hne]; simp [he] at hm'; exact h2 m' hm'⟩
  · exact (Only.refl _ _).grown r2.grown (by intro j hj _; injection hj with hj; subst hj; simp)
end
theorem Try.infoByte : (Try.prog.info? 5).map (fun i => (i.zero, i.size, i.bytes)) = some (some (.int .u8 0), 1, 1) := by kernel_rfl
theorem madeBytes (n : Nat) : (madeCells (Value.cells (.int .u8 0)) n).toList = List.replicate n (.int .u8 0) := by
  apply List.ext_getElem (by simp [madeCells])
  intro i h1 h2
  simp [madeCells, Value.cells, Nat.mod_one]
theorem step_bytes (l : List Int) (j : Nat) (hj : j < l.length) : ((l.take j).map (fun x => Value.int .u8 (x % 256)) ++ List.replicate (l.length - j) (Value.int .u8 0)).set j (.int .u8 (l[j] % 256)) = (l.take (j + 1)).map (fun x => Value.int .u8 (x % 256)) ++ List.replicate (l.length - (j + 1)) (.int .u8 0) := by
  have hl : ((l.take j).map (fun x => Value.int .u8 (x % 256))).length = j := by rw [List.length_map, List.length_take]; omega
  rw [show l.length - j = (l.length - (j + 1)) + 1 by omega, List.replicate_succ, List.set_append_right _ _ (by omega), hl, Nat.sub_self, take_succ_get l j hj]
  simp only [List.map_append, List.map_cons, List.map_nil, List.append_assoc, List.cons_append, List.nil_append, List.set_cons_zero]
set_option maxHeartbeats 1000000 in
theorem stateKey_rd (v : Value) (l : List Int) (fp : List Nat) (w : World) (h : Rd w v l fp) (hl : l.length ≤ 1000) :
    Calls Try.prog 90 #[v] w fun e w' => e = .returned (.string (kB l)) ∧ Only [] w w' := by
  obtain ⟨a, cap, rfl, hI⟩ := h.ints
  obtain ⟨i0, hi, hz0, hz1, hz2⟩ := info_parts Try.infoByte
  go_enter Try.func90, Try.ntmps90
  go_wp2_with (at_make; refine wpList_make_full _ rfl _ _ 124 rfl w.heap.size 5 i0 _ 1 Try.underlying124 hi hz0 hz1 _ _ _ _ l.length rfl rfl rfl rfl (by rw [hz2]; omega) (by unfold maxLen; omega) (Nat.le_refl _) ?_; intro w1 hown hg)
  rw [madeBytes, Nat.mul_one] at hown
  go_loopw [11] (fun i wr => ∃ j : Nat, j ≤ l.length ∧ i = .int .i64 j ∧
      wr.ownsRow w.heap.size 5 1 (.slice (some ⟨w.heap.size, 0, none⟩) l.length l.length) l.length ((l.take j).map (fun x => Value.int .u8 (x % 256)) ++ List.replicate (l.length - j) (.int .u8 0)) ∧ Only [] w wr)
    (fun i _ => l.length - (intOf i).toNat)
  case atStart => exact ⟨0, Nat.zero_le _, rfl, by simpa using hown, (Only.refl _ _).grown hg (by simp)⟩
  case round =>
    obtain ⟨j, hj, rfl, hO, hK⟩ := hrel
    by_cases hlt : j < l.length
    · obtain ⟨b, off, rfl, -, hc0⟩ := hI.at_ j hlt
      have hc := hK.cell (by simp) hc0
      have hO2 := (hO.stored j (.int .u8 (l[j] % 256))).1
      rw [step_bytes l j hlt] at hO2
      obtain ⟨z2, hc2⟩ : ∃ z, wr.cell? ⟨w.heap.size, j, none⟩ = some z := by
        rw [hO.cellAt j (by omega)]
        exact ⟨_, List.getElem?_eq_getElem (by simp; omega)⟩
      have hf2 := hO.frozenAt j
      have hK2 := hK.setCell (p := ⟨w.heap.size, j, none⟩) (by simp) (.int .u8 (l[j] % 256))
      have HO := Lib.hid hO2
      clear hO hO2 hown hc0
      go_wp2
      go_roundw
      case rel => exact ⟨j + 1, by omega, by go_num, HO.out, hK2⟩
      case measure => simp [intOf]; omega
    · have hjl : j = l.length := by omega
      rw [hjl] at hO
      simp only [Nat.sub_self, List.replicate_zero, List.append_nil, List.take_length] at hO
      have hcv := run_convert_bytes_arg (P := Try.prog) wr 124 5 Try.underlying124 Try.underlying5 w.heap.size 0 l.length l.length (l.map fun x => x % 256) (by simp) (fun i hi => by
        rw [Nat.zero_add, hO.cellAt i (by omega)]
        simp [hi]) 9 Try.underlying9
      have hKB : strOfNums (l.map fun x => x % 256) = kB l := rfl
      rw [hKB] at hcv
      clear hjl hO hown hKB
      go_wp2
      go_ret
      exact ⟨rfl, hK⟩
end Go.Proofs.Ytmilmbgnkpkmnaa
