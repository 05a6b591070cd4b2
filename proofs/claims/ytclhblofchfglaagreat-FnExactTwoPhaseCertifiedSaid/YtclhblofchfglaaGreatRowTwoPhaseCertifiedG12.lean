/- Maps from strings to numbers that a call makes; the key of a list of small numbers. Maps from strings to truth values that a call makes. The program's search of patterns: its state (law 16). A slice of numbers that a loop appends to, in fewer words. A slice of numbers of the call's own: its cells, an entry written over. The puzzle of a move subset: the program's and the reference's (laws 46, 51, 57, 58). The puzzle of a move subset: the reference's (laws 46, 51, 57, 58). (Printed by mkphsb.py.) -/
import Derived.Test.YtclhblofchfglaaGreatRowTwoPhaseCertifiedG5
import Derived.Maps.OwnSet
import Derived.StringKeys
import Derived.Laws.BytesArg
import Derived.Test.YtclhblofchfglaaGreatRowTwoPhaseCertifiedG10
import Derived.Test.YtclhblofchfglaaGreatRowTwoPhaseCertifiedG6
import Derived.Deep.RegionLaw
import Derived.Test.YtclhblofchfglaaGreatRowTwoPhaseCertifiedG11
import Derived.Test.YtclhblofchfglaaGreatRowTwoPhaseCertifiedG7
import Derived.Test.YtclhblofchfglaaGreatRowTwoPhaseCertifiedG4
namespace Go.Proofs.YtclhblofchfglaaGreat
open Go.RowKit
set_option maxRecDepth 10000
open Go.Maps (Keyed)

/-- the key of a list: a byte each -/
def kB (l : List Int) : ByteArray := strOfNums (l.map fun x => x % 256)
theorem kB_size (l : List Int) : (kB l).size = l.length := by unfold kB; rw [strOfNums_size, List.length_map]
theorem kB_inj : ∀ {l l' : List Int}, (∀ x ∈ l, 0 ≤ x ∧ x < 256) → (∀ x ∈ l', 0 ≤ x ∧ x < 256) → kB l = kB l' → l = l' := by
  intro l l' h h' he
  have hd : (kB l).data.toList = (kB l').data.toList := by rw [he]
  unfold kB at hd
  rw [strOfNums_data, strOfNums_data, List.map_map, List.map_map] at hd
  clear he
  induction l generalizing l' with
  | nil => cases l' with
    | nil => rfl
    | cons y l' => simp at hd
  | cons x l ih => cases l' with
    | nil => simp at hd
    | cons y l' =>
      simp only [List.map_cons, List.cons.injEq] at hd
      have hx := h x (by simp); have hy := h' y (by simp)
      have e1 : x % 256 = x := Int.emod_eq_of_lt hx.1 hx.2
      have e2 : y % 256 = y := Int.emod_eq_of_lt hy.1 hy.2
      have h1 := hd.1
      simp only [Function.comp, e1, e2] at h1
      have h2 := congrArg UInt8.toNat h1
      rw [UInt8.toNat_ofNat', UInt8.toNat_ofNat'] at h2
      have : x = y := by omega
      subst this
      rw [ih (fun z hz => h z (by simp [hz])) (fun z hz => h' z (by simp [hz])) hd.2]
theorem kB_eq {l l' : List Int} (h : ∀ x ∈ l, 0 ≤ x ∧ x < 256) (h' : ∀ x ∈ l', 0 ≤ x ∧ x < 256) : kB l = kB l' ↔ l = l' := ⟨kB_inj h h', fun e => by rw [e]⟩

theorem Tryz.lawStr : Keyed Tryz.prog 9 := Go.Maps.string_keyed Tryz.underlying9
/-- block M is a map of at most k entries; g: what lies at a key -/
def Mp (w : World) (M k : Nat) (g : ByteArray → Option Int) : Prop :=
  ∃ D : DataW Unit, w.ownsMap Tryz.prog 9 (plainElem Tryz.prog 3) M k D ∧ ∀ s : ByteArray, s.size ≤ maxLen →
    Go.Maps.has D (.string s.data.toList) = (g s).isSome ∧ ∀ n, g s = some n → D.atKey (.string s.data.toList) (.lit (.int .i64 0)) = .lit (.int .i64 n)
theorem Mp.lt {w : World} {M k : Nat} {g : ByteArray → Option Int} (h : Mp w M k g) : M < w.heap.size := by
  obtain ⟨D, h1, -⟩ := h; exact h1.lt
theorem Mp.frame {w w' : World} {M k : Nat} {g : ByteArray → Option Int} (h : Mp w M k g) (hf : w'.heap[M]? = w.heap[M]?) : Mp w' M k g := by
  obtain ⟨D, ⟨es, c, h1, h2⟩, h3⟩ := h
  exact ⟨D, ⟨es, c, by rw [hf]; exact h1, h2⟩, h3⟩
theorem Mp.only {w w' : World} {fp : List Nat} {M k : Nat} {g : ByteArray → Option Int} (h : Mp w M k g) (ho : Only fp w w') (hn : M ∉ fp) : Mp w' M k g := h.frame (ho.block M h.lt hn)
theorem Mp.keep {w w' : World} {M k : Nat} {g : ByteArray → Option Int} (h : Mp w M k g) (ho : Only [] w w') : Mp w' M k g := h.only ho (by simp)
theorem Mp.made (w : World) {M : Nat} (hM : M = w.heap.size) : Mp (w.alloc (.map #[] 0)) M 0 (fun _ => none) := by
  subst hM
  exact ⟨.map [], World.ownsMap_made _ _ _ _, fun s _ => ⟨rfl, by simp⟩⟩
theorem Mp.congr {w : World} {M k : Nat} {g g' : ByteArray → Option Int} (h : Mp w M k g) (hg : ∀ s, g s = g' s) : Mp w M k g' := by
  have : g = g' := funext hg
  rw [← this]; exact h
section
variable {w : World} {M k : Nat} {g : ByteArray → Option Int}
end

theorem Tryz.infoByte : (Tryz.prog.info? 5).map (fun i => (i.zero, i.size, i.bytes)) = some (some (.int .u8 0), 1, 1) := by kernel_rfl
theorem madeBytes (n : Nat) : (madeCells (Value.cells (.int .u8 0)) n).toList = List.replicate n (.int .u8 0) := by
  apply List.ext_getElem (by simp [madeCells])
  intro i h1 h2
  simp [madeCells, Value.cells, Nat.mod_one]
theorem step_bytes (l : List Int) (j : Nat) (hj : j < l.length) : ((l.take j).map (fun x => Value.int .u8 (x % 256)) ++ List.replicate (l.length - j) (Value.int .u8 0)).set j (.int .u8 (l[j] % 256)) = (l.take (j + 1)).map (fun x => Value.int .u8 (x % 256)) ++ List.replicate (l.length - (j + 1)) (.int .u8 0) := by
  have hl : ((l.take j).map (fun x => Value.int .u8 (x % 256))).length = j := by rw [List.length_map, List.length_take]; omega
  rw [show l.length - j = (l.length - (j + 1)) + 1 by omega, List.replicate_succ, List.set_append_right _ _ (by omega), hl, Nat.sub_self, take_succ_get l j hj]
  simp only [List.map_append, List.map_cons, List.map_nil, List.append_assoc, List.cons_append, List.nil_append, List.set_cons_zero]
set_option maxHeartbeats 1000000 in
theorem stateKey_rd (v : Value) (l : List Int) (fp : List Nat) (w : World) (h : Rd w v l fp) (hl : l.length ≤ 1000) :
    Calls Tryz.prog 160 #[v] w fun e w' => e = .returned (.string (kB l)) ∧ Only [] w w' := by
  obtain ⟨a, cap, rfl, hI⟩ := h.ints
  obtain ⟨i0, hi, hz0, hz1, hz2⟩ := info_parts Tryz.infoByte
  go_enter Tryz.func160, Tryz.ntmps160
  go_wp2_with (at_make; refine wpList_make_full _ rfl _ _ 190 rfl w.heap.size 5 i0 _ 1 Tryz.underlying190 hi hz0 hz1 _ _ _ _ l.length rfl rfl rfl rfl (by rw [hz2]; omega) (by unfold maxLen; omega) (Nat.le_refl _) ?_; intro w1 hown hg)
  rw [madeBytes, Nat.mul_one] at hown
  go_loopw [11] (fun i wr => ∃ j : Nat, j ≤ l.length ∧ i = .int .i64 j ∧
      wr.ownsRow w.heap.size 5 1 (.slice (some ⟨w.heap.size, 0, none⟩) l.length l.length) l.length ((l.take j).map (fun x => Value.int .u8 (x % 256)) ++ List.replicate (l.length - j) (.int .u8 0)) ∧ Only [] w wr)
    (fun i _ => l.length - (intOf i).toNat)
  case atStart => exact ⟨0, Nat.zero_le _, rfl, by simpa using hown, (Only.refl _ _).grown hg (by simp)⟩
  case round =>
    obtain ⟨j, hj, rfl, hO, hK⟩ := hrel
    by_cases hlt : j < l.length
    · obtain ⟨b, off, rfl, -, hc0⟩ := hI.at_ j hlt
      have hc := hK.cell (by simp) hc0
      have hO2 := (hO.stored j (.int .u8 (l[j] % 256))).1
      rw [step_bytes l j hlt] at hO2
      obtain ⟨z2, hc2⟩ : ∃ z, wr.cell? ⟨w.heap.size, j, none⟩ = some z := by
        rw [hO.cellAt j (by omega)]
        exact ⟨_, List.getElem?_eq_getElem (by simp; omega)⟩
      have hf2 := hO.frozenAt j
      have hK2 := hK.setCell (p := ⟨w.heap.size, j, none⟩) (by simp) (.int .u8 (l[j] % 256))
      have HO := Lib.hid hO2
      clear hO hO2 hown hc0
      go_wp2
      go_roundw
      case rel => exact ⟨j + 1, by omega, by go_num, HO.out, hK2⟩
      case measure => simp [intOf]; omega
    · have hjl : j = l.length := by omega
      rw [hjl] at hO
      simp only [Nat.sub_self, List.replicate_zero, List.append_nil, List.take_length] at hO
      have hcv := run_convert_bytes_arg (P := Tryz.prog) wr 190 5 Tryz.underlying190 Tryz.underlying5 w.heap.size 0 l.length l.length (l.map fun x => x % 256) (by simp) (fun i hi => by
        rw [Nat.zero_add, hO.cellAt i (by omega)]
        simp [hi]) 9 Tryz.underlying9
      have hKB : strOfNums (l.map fun x => x % 256) = kB l := rfl
      rw [hKB] at hcv
      clear hjl hO hown hKB
      go_wp2
      go_ret
      exact ⟨rfl, hK⟩
end Go.Proofs.YtclhblofchfglaaGreat

namespace Go.Proofs.YtclhblofchfglaaGreat
open Go.RowKit
set_option maxRecDepth 10000
open Go.Maps (Keyed)
/-- block M is a map of at most k entries; g: the truth value at a key -/
def MpB (w : World) (M k : Nat) (g : ByteArray → Bool) : Prop :=
  ∃ D : DataW Unit, w.ownsMap Tryz.prog 9 (plainElem Tryz.prog 4) M k D ∧ ∀ s : ByteArray, s.size ≤ maxLen →
    D.atKey (.string s.data.toList) (.lit (.bool false)) = .lit (.bool (g s))
theorem MpB.lt {w : World} {M k : Nat} {g : ByteArray → Bool} (h : MpB w M k g) : M < w.heap.size := by
  obtain ⟨D, h1, -⟩ := h; exact h1.lt
theorem MpB.frame {w w' : World} {M k : Nat} {g : ByteArray → Bool} (h : MpB w M k g) (hf : w'.heap[M]? = w.heap[M]?) : MpB w' M k g := by
  obtain ⟨D, ⟨es, c, h1, h2⟩, h3⟩ := h
  exact ⟨D, ⟨es, c, by rw [hf]; exact h1, h2⟩, h3⟩
theorem MpB.only {w w' : World} {fp : List Nat} {M k : Nat} {g : ByteArray → Bool} (h : MpB w M k g) (ho : Only fp w w') (hn : M ∉ fp) : MpB w' M k g := h.frame (ho.block M h.lt hn)
theorem MpB.keep {w w' : World} {M k : Nat} {g : ByteArray → Bool} (h : MpB w M k g) (ho : Only [] w w') : MpB w' M k g := h.only ho (by simp)
theorem MpB.made (w : World) {M : Nat} (hM : M = w.heap.size) : MpB (w.alloc (.map #[] 0)) M 0 (fun _ => false) := by
  subst hM
  exact ⟨.map [], World.ownsMap_made _ _ _ _, fun s _ => rfl⟩
theorem MpB.congr {w : World} {M k : Nat} {g g' : ByteArray → Bool} (h : MpB w M k g) (hg : ∀ s, g s = g' s) : MpB w M k g' := by
  have : g = g' := funext hg
  rw [← this]; exact h
section
variable {w : World} {M k : Nat} {g : ByteArray → Bool}
/-- m[k] = v -/
theorem MpB.run_put (h : MpB w M k g) {s : ByteArray} (hs : s.size ≤ maxLen) (b : Bool) (hk : k < maxLen) :
    ∃ w', (Instr.mapUpdate 203 (.map (some M)) (.string s) (.bool b)).run Tryz.prog w = .ok () w' ∧ MpB w' M (k + 1) (fun s' => if s' = s then b else g s') ∧ Only [M] w w' := by
  obtain ⟨D, hown, hg⟩ := h
  obtain ⟨w', hrun, r1, r2⟩ := hown.store Tryz.lawStr Tryz.underlying203 hk (Go.WideMaps.keyOf_string_mk Tryz.underlying9 hs) (plainElem_bool Tryz.underlying4 b)
  have hmap := hown.isMap
  refine ⟨w', hrun, ⟨_, r1, fun s' hs' => ?_⟩, ?_⟩
  · by_cases he : s' = s
    · subst he
      have hkl : WideAt.IsKeyLit (Lit.string s'.data.toList) := trivial
      rw [Go.Maps.atKey_put_same hmap hkl]; simp
    · have hne : (Lit.string s'.data.toList) ≠ .string s.data.toList := by
        intro e; injection e with e
        apply he
        have : s'.data = s.data := Array.toList_inj.1 e
        cases s'; cases s; simp at this; rw [this]
      rw [Go.Maps.atKey_put_other hne]; simp [he]; exact hg s' hs'
  · exact (Only.refl _ _).grown r2.grown (by intro j hj _; injection hj with hj; subst hj; simp)
end
end Go.Proofs.YtclhblofchfglaaGreat

namespace Go.Proofs.YtclhblofchfglaaGreat
open Go.RowKit
set_option maxRecDepth 10000

/-- a literal of one element, to which a loop appends -/
theorem Acc.one {α : Type} [Rp α] {w : World} (B : Nat) (e : TypeId) {cs : List Value} {x : α} {fp : List Nat} (h : Rp.rep w cs x fp) {g : Nat} (hg : g = w.heap.size) (hB : B ≤ g) : Acc B e (w.alloc (.cells cs.toArray e)) (.slice (some ⟨g, 0, none⟩) 1 1) [x] [fp] := by
  subst hg
  have hk : Only [] w (w.alloc (.cells cs.toArray e)) := (Only.refl _ _).alloc _
  refine ⟨⟨[cs], ⟨by simp [Rp.len h], .inr ⟨w.heap.size, 1, cs.toArray, rfl, hB, heap_alloc_new w _, Nat.le_refl _, by unfold maxLen; omega, by simp [Rp.len h], by simpa using List.take_of_length_le (Nat.le_of_eq (Rp.len h))⟩⟩, rfl, fun k h1 h2 h3 => ?_⟩, rfl, ?_⟩
  · have : k = 0 := by simpa using h1
    subst this
    exact Rp.keep h hk
  · intro g hg hm
    simp only [Value.ownBlock, Option.some.injEq] at hg
    subst hg
    have := Rp.lt h _ (by simpa using hm)
    omega
section
variable {P : Program} {α : Type} [Rp α] {ops : Array Oper} {rest : List Oper} {o : Oper} {a : Act} {w : World} {Q : Exit → Act → World → Prop}
theorem wpList_push2w (hgd : o.guard = none) (s x : Operand) (t : TypeId)
    (ho : o.op = .call { callee := .builtin .append, args := #[s, x], argTypes := #[t, t] })
    (B : Nat) (e : TypeId) (i : TypeInfo) (z : Value) (bytes : Nat) (ht : P.underlying t = some (.slice e)) (hi : P.info? e = some i) (hz : i.zero = some z)
    (hsize : i.size = Rp.size α) (hby : i.bytes = bytes) (hzs : z.cells.size = Rp.size α) (hsz : 0 < Rp.size α) (hbb : bytes ≤ 65536)
    (w0 : World) (v : Value) (l : List α) (fs : List (List Nat)) (hs : a.eval s = v) (hA : Acc B e w0 v l fs) (hK0 : Only [] w0 w) (hB : B ≤ w0.heap.size)
    (g c : Nat) (cs : List Value) (y : α) (fp : List Nat) (hx : a.eval x = .slice (some ⟨g, 0, none⟩) 1 c) (hsrc : ∀ j u, cs[j]? = some u → w.cell? ⟨g, j, none⟩ = some u) (hcs : ∀ u ∈ cs, u.oneCell' = true)
    (hy : Rp.rep w cs y fp) (hap : ∀ b ∈ fp, v.ownBlock ≠ some b) (hlen : l.length + 1 ≤ 1073741824)
    (h : ∀ v' w', Acc B e w' v' (l ++ [y]) (fs ++ [fp]) → Only v.ownBlock.toList w w' → (∀ wz, Only [] wz w → wz.heap.size ≤ B → Only [] wz w') →
      (Fresh B w0 fs.flatten → Fresh w0.heap.size w fp → Fresh B w' (fs ++ [fp]).flatten) → (v'.ownBlock = v.ownBlock ∨ v'.ownBlock = some w.heap.size) → wpList P ops Q rest (a.put o.dst v') w') : wpList P ops Q (o :: rest) a w :=
  wpList_plain hgd fun _ hK => wp_push2 s x t ho B e i z bytes ht hi hz hsize hby hzs hsz hbb w0 v l fs hs hA hK0 hB g c cs y fp hx hsrc hcs hy hap hlen fun v' w' h1 h2 h3 h4 h5 => hK _ _ (h v' w' h1 h2 h3 h4 h5)
end
/-- which keys are met -/
def metB (L : List (List Int)) (s : ByteArray) : Bool := L.any fun q => decide (kB q = s)
/-- the program's search under way: lo: the call's begin; m1, W: begin and end of the making of the moves -/
structure PBf (x : Puzzle) (m : Nat) (w : World) (m1 : Nat) (W : World) (M : Nat) (L : List (List Int)) (D : List Int) (wr : World) (v1 v2 : Value) (fs fd : List (List Nat)) : Prop where
  acc : Acc w.heap.size 25 wr v1 L fs
  dep : Acc w.heap.size 2 wr v2 D fd
  fr : Fresh w.heap.size wr fs.flatten
  mp : MpB wr M L.length (metB L)
  dl : D.length = L.length
  ll : L.length ≤ 3000
  pat : ∀ q ∈ L, patB x.points m q = true
  rng : ∀ d ∈ D, 0 ≤ d ∧ d ≤ D.length
  a2 : ∀ g, v2.ownBlock = some g → v1.ownBlock ≠ some g ∧ g ∉ fs.flatten ∧ g ≠ M
  a1 : v1.ownBlock ≠ some M ∧ M ∉ fs.flatten
  zone : ∀ g, (g = M ∨ v1.ownBlock = some g ∨ v2.ownBlock = some g) → (w.heap.size ≤ g ∧ g < m1) ∨ W.heap.size ≤ g
  keep : ∀ g, (g < w.heap.size ∨ (m1 ≤ g ∧ g < W.heap.size)) → wr.heap[g]? = W.heap[g]?
  on : Only [] w wr
  sz : W.heap.size ≤ wr.heap.size
  mw : w.heap.size ≤ m1 ∧ m1 ≤ W.heap.size
section
variable {x : Puzzle} {m : Nat} {w : World} {m1 : Nat} {W : World} {M : Nat} {L : List (List Int)} {D : List Int} {wr : World} {v1 v2 : Value} {fs fd : List (List Nat)}
theorem PBf.only {wr' : World} (h : PBf x m w m1 W M L D wr v1 v2 fs fd) (ho : Only [] wr wr') : PBf x m w m1 W M L D wr' v1 v2 fs fd :=
  ⟨h.acc.keep ho, h.dep.keep ho, h.fr.keep ho, h.mp.keep ho, h.dl, h.ll, h.pat, h.rng, h.a2, h.a1, h.zone, fun g hg => by
    have hz := h.sz; have hw := h.mw
    rw [ho.block g (by omega) (by simp)]; exact h.keep g hg, h.on.trans ho, Nat.le_trans h.sz ho.size, h.mw⟩
/-- from a world on, in which all the search's memory lies already -/
theorem PBf.start {W5 : World} (h : PBf x m w m1 W M L D wr v1 v2 fs fd) (ho : Only [] wr W5) : PBf x m w wr.heap.size W5 M L D W5 v1 v2 fs fd := by
  have hw := h.mw; have hz := h.sz
  refine ⟨h.acc.keep ho, h.dep.keep ho, h.fr.keep ho, h.mp.keep ho, h.dl, h.ll, h.pat, h.rng, h.a2, h.a1, fun g hg => .inl ?_, fun g _ => rfl, h.on.trans ho, Nat.le_refl _, by omega, ho.size⟩
  have h1 := h.zone g hg
  refine ⟨by omega, ?_⟩
  rcases hg with rfl | hg | hg
  · exact h.mp.lt
  · exact (h.acc.ownlt g hg).2
  · exact (h.dep.ownlt g hg).2
theorem PBf.fd0 (h : PBf x m w m1 W M L D wr v1 v2 fs fd) : fd.flatten = [] := by
  obtain ⟨css, ho, hcl, hr⟩ := h.dep.own
  have hl := h.dep.fl
  have : fd = List.replicate fd.length [] := by
    apply List.ext_getElem (by simp)
    intro k h1 h2
    have := (hr k (by omega) (by omega) h1).2.2
    simpa using this
  rw [this]; exact flatten_nil _
/-- a new pattern is met: the map, the list, the depths -/
theorem PBf.step {wp wa wb wc wd : World} {v1' v2' : Value} {s : List Int} {d : Int} {f : List Nat}
    (h : PBf x m w m1 W M L D wr v1 v2 fs fd) (hL : L.length < 3000) (hp : patB x.points m s = true) (hd : 0 ≤ d ∧ d ≤ D.length + 1)
    (hm : MpB wp M (L.length + 1) (metB (L ++ [s]))) (ho : Only [M] wr wp)
    (ka : Only [] wp wa) (hA : Acc w.heap.size 25 wb v1' (L ++ [s]) (fs ++ [f])) (oA : Only v1.ownBlock.toList wa wb) (nA : v1'.ownBlock = v1.ownBlock ∨ v1'.ownBlock = some wa.heap.size) (hF : Fresh w.heap.size wb (fs ++ [f]).flatten) (hfM : M ∉ f) (hf2 : ∀ g ∈ f, wr.heap.size ≤ g ∨ v2.ownBlock ≠ some g)
    (kc : Only [] wb wc) (hD : Acc w.heap.size 2 wd v2' (D ++ [d]) (fd ++ [[]])) (oD : Only v2.ownBlock.toList wc wd) (nD : v2'.ownBlock = v2.ownBlock ∨ v2'.ownBlock = some wc.heap.size) :
    PBf x m w m1 W M (L ++ [s]) (D ++ [d]) wd v1' v2' (fs ++ [f]) (fd ++ [[]]) := by
  have s1 := ho.size; have s2 := ka.size; have s3 := oA.size; have s4 := kc.size; have s5 := oD.size
  have hz := h.sz; have hw := h.mw
  have hMl := h.mp.lt
  have l1 := h.acc.ownlt
  have l2 := h.dep.ownlt
  have hfl := h.fr.lt
  have hff : (fs ++ [f]).flatten = fs.flatten ++ f := by simp
  have hfs : ∀ g, v2.ownBlock = some g → g ∉ (fs ++ [f]).flatten := fun g hg hm => by
    rw [hff] at hm
    rcases List.mem_append.1 hm with hm | hm
    · exact (h.a2 g hg).2.1 hm
    · have := l2 g hg
      rcases hf2 g hm with h3 | h3
      · omega
      · exact h3 hg
  have hv12 : ∀ g, v2.ownBlock = some g → v1'.ownBlock ≠ some g := fun g hg he => by
    rcases nA with h3 | h3
    · exact (h.a2 g hg).1 (by rw [← h3]; exact he)
    · rw [h3] at he; injection he with he; have := l2 g hg; omega
  have hmM : ∀ g, v1.ownBlock = some g → g ≠ M := fun g hg e => h.a1.1 (by rw [hg, e])
  have hM1 : v1'.ownBlock ≠ some M := fun he => by
    rcases nA with h3 | h3
    · exact h.a1.1 (by rw [← h3]; exact he)
    · rw [h3] at he; injection he with he; omega
  have hM1' : M ∉ v1.ownBlock.toList := by simpa using h.a1.1
  have hM2' : M ∉ v2.ownBlock.toList := by simp; intro he; exact (h.a2 M he).2.2 rfl
  have hN : ∀ g, v1'.ownBlock = some g → v1.ownBlock = some g ∨ W.heap.size ≤ g := fun g hg => by
    rcases nA with h3 | h3
    · exact .inl (by rw [← h3]; exact hg)
    · rw [h3] at hg; injection hg with hg; right; omega
  have hN2 : ∀ g, v2'.ownBlock = some g → v2.ownBlock = some g ∨ wb.heap.size ≤ g := fun g hg => by
    rcases nD with h3 | h3
    · exact .inl (by rw [← h3]; exact hg)
    · rw [h3] at hg; injection hg with hg; right; omega
  have hko : Only (M :: (v1.ownBlock.toList ++ v2.ownBlock.toList)) wr wd :=
    ((((ho.mono (by simp)).keepThen ka).then_ oA (by intro b hb _; simp at hb ⊢; simp [hb])).keepThen kc).then_ oD (by intro b hb _; simp at hb ⊢; simp [hb])
  refine ⟨hA.only (kc.weaken _ |>.trans oD) (fun b hb hm => hfs b (by simpa using hm) hb) (fun g hg hm => hv12 g (by simpa using hm) hg), hD,
    hF.only (kc.weaken _ |>.trans oD) (fun b hb hm => hfs b (by simpa using hm) hb),
    by simpa using ((((hm.keep ka).only oA hM1').keep kc).only oD hM2'), by simp [h.dl], by simp; omega, ?_, ?_, ?_, ⟨hM1, ?_⟩, ?_, fun g hg => ?_, ?_, by omega, h.mw⟩
  · intro q hq
    rcases List.mem_append.1 hq with hq | hq
    · exact h.pat q hq
    · simp at hq; subst hq; exact hp
  · intro q hq
    rw [List.length_append, List.length_singleton]
    rcases List.mem_append.1 hq with hq | hq
    · have := h.rng q hq; omega
    · simp at hq; subst hq; omega
  · intro g hg
    rcases hN2 g hg with h3 | h3
    · exact ⟨hv12 g h3, hfs g h3, (h.a2 g h3).2.2⟩
    · refine ⟨fun he => ?_, fun hm => ?_, by omega⟩
      · have := (hA.ownlt g he).2; omega
      · have := hF.lt g hm; omega
  · rw [hff]; intro hm
    rcases List.mem_append.1 hm with hm | hm
    · exact h.a1.2 hm
    · exact hfM hm
  · rintro g (rfl | hg | hg)
    · exact h.zone _ (.inl rfl)
    · rcases hN g hg with h3 | h3
      · exact h.zone g (.inr (.inl h3))
      · exact .inr h3
    · rcases hN2 g hg with h3 | h3
      · exact h.zone g (.inr (.inr h3))
      · right; omega
  · rw [hko.block g (by omega) (fun hm => ?_)]
    · exact h.keep g hg
    · simp only [List.mem_cons, List.mem_append, Option.mem_toList] at hm
      have := h.zone g (by rcases hm with hm | hm | hm; exact .inl hm; exact .inr (.inl hm); exact .inr (.inr hm))
      omega
  · refine h.on.then_ hko (fun g hm hg => ?_)
    simp only [List.mem_cons, List.mem_append, Option.mem_toList] at hm
    have := h.zone g (by rcases hm with hm | hm | hm; exact .inl hm; exact .inr (.inl hm); exact .inr (.inr hm))
    omega
/-- what the search hands back -/
theorem PBf.out (h : PBf x m w m1 W M L D wr v1 v2 fs fd) : Rd wr v1 L (v1.ownBlock.toList ++ fs.flatten) ∧ Rd wr v2 D v2.ownBlock.toList ∧ Fresh w.heap.size wr ((v1.ownBlock.toList ++ fs.flatten) ++ v2.ownBlock.toList) := by
  have h0 := h.fd0
  have h2 := h.dep.rd (by decide)
  rw [h0, List.append_nil] at h2
  have hf1 := h.acc.fresh h.fr
  have hf2 := h.dep.fresh (by rw [h0]; exact Fresh.nil _ _)
  rw [h0, List.append_nil] at hf2
  refine ⟨h.acc.rd (by decide), h2, List.nodup_append.2 ⟨hf1.nd, hf2.nd, fun a ha b hb e => ?_⟩, fun b hb => ?_, hf1.own.append hf2.own⟩
  · subst e
    have hb' : v2.ownBlock = some a := by simpa using hb
    rcases List.mem_append.1 ha with ha | ha
    · exact (h.a2 a hb').1 (by simpa using ha)
    · exact (h.a2 a hb').2.1 ha
  · rcases List.mem_append.1 hb with hb | hb
    · exact hf1.ge b hb
    · exact hf2.ge b hb
theorem PBf.old (h : PBf x m w m1 W M L D wr v1 v2 fs fd) {β : Type} [Rp β] {cs : List Value} {y : β} {fp : List Nat} (hr : Rp.rep W cs y fp) (hf : ∀ g ∈ fp, g < w.heap.size ∨ (m1 ≤ g ∧ g < W.heap.size)) : Rp.rep wr cs y fp :=
  Rp.frame hr fun g hg => h.keep g (hf g hg)
end
end Go.Proofs.YtclhblofchfglaaGreat

namespace Go.Proofs.YtclhblofchfglaaGreat
open Go.RowKit
set_option maxRecDepth 10000

theorem step_push2w {P : Program} {α : Type} [Rp α] {ops : Array Oper} {o : Oper} {a : Act} {w : World} {Q : Exit → Act → World → Prop} {K : Act → World → Prop} {E : Prop} (hgd : o.guard = none) (s x : Operand) (t : TypeId)
    (ho : o.op = .call { callee := .builtin .append, args := #[s, x], argTypes := #[t, t] })
    (B : Nat) (e : TypeId) (i : TypeInfo) (z : Value) (bytes : Nat) (ht : P.underlying t = some (.slice e)) (hi : P.info? e = some i) (hz : i.zero = some z)
    (hsize : i.size = Rp.size α) (hby : i.bytes = bytes) (hzs : z.cells.size = Rp.size α) (hsz : 0 < Rp.size α) (hbb : bytes ≤ 65536)
    (w0 : World) (v : Value) (l : List α) (fs : List (List Nat)) (hs : a.eval s = v) (hA : Acc B e w0 v l fs) (hK0 : Only [] w0 w) (hB : B ≤ w0.heap.size)
    (g c : Nat) (cs : List Value) (y : α) (fp : List Nat) (hx : a.eval x = .slice (some ⟨g, 0, none⟩) 1 c) (hsrc : ∀ j u, cs[j]? = some u → w.cell? ⟨g, j, none⟩ = some u) (hcs : ∀ u ∈ cs, u.oneCell' = true)
    (hy : Rp.rep w cs y fp) (hap : ∀ b ∈ fp, v.ownBlock ≠ some b) (hlen : l.length + 1 ≤ 1073741824)
    (h : ∀ v' w', Acc B e w' v' (l ++ [y]) (fs ++ [fp]) → Only v.ownBlock.toList w w' → (v'.ownBlock = v.ownBlock ∨ v'.ownBlock = some w.heap.size) → K (a.put o.dst v') w') : if Region.wanted o (yielded ops a.tmps) = true then Oper.wp P o a w K Q else E := by
  rw [if_pos (by simp [Region.wanted, hgd])]
  exact wp_push2 s x t ho B e i z bytes ht hi hz hsize hby hzs hsz hbb w0 v l fs hs hA hK0 hB g c cs y fp hx hsrc hcs hy hap hlen fun v' w' h1 h2 _ _ h5 => h v' w' h1 h2 h5
theorem Acc.flat0 {B : Nat} {e : TypeId} {w : World} {v : Value} {l : List Int} {fs : List (List Nat)} (h : Acc B e w v l fs) : fs.flatten = [] := by
  obtain ⟨css, ho, hcl, hr⟩ := h.own
  have hl := h.fl
  have : fs = List.replicate fs.length [] := by
    apply List.ext_getElem (by simp)
    intro k h1 h2
    have := (hr k (by omega) (by omega) h1).2.2
    simpa using this
  rw [this]; exact flatten_nil _
/-- v is a slice of numbers of the call's own -/
def AccI (B : Nat) (e : TypeId) (w : World) (v : Value) (l : List Int) : Prop := ∃ fs, Acc B e w v l fs
section
variable {w w' : World} {B : Nat} {e : TypeId} {v : Value} {l : List Int}
theorem AccI.only {fp : List Nat} (h : AccI B e w v l) (ho : Only fp w w') (hv : ∀ g, v.ownBlock = some g → g ∉ fp) : AccI B e w' v l := by
  obtain ⟨fs, h⟩ := h
  exact ⟨fs, h.only ho (by rw [h.flat0]; simp) hv⟩
theorem AccI.keep (h : AccI B e w v l) (ho : Only [] w w') : AccI B e w' v l := h.only ho (by simp)
theorem AccI.form (h : AccI B e w v l) : ∃ a c, v = .slice a l.length c := by
  obtain ⟨fs, h⟩ := h; exact h.form
theorem AccI.rd (h : AccI B e w v l) : Rd w v l v.ownBlock.toList := by
  obtain ⟨fs, h⟩ := h
  have := h.rd (by decide)
  rwa [h.flat0, List.append_nil] at this
theorem AccI.fresh (h : AccI B e w v l) : Fresh B w v.ownBlock.toList := by
  obtain ⟨fs, h⟩ := h
  have := h.fresh (by rw [h.flat0]; exact Fresh.nil _ _)
  rwa [h.flat0, List.append_nil] at this
theorem AccI.ownlt (h : AccI B e w v l) : ∀ g, v.ownBlock = some g → B ≤ g ∧ g < w.heap.size := by
  obtain ⟨fs, h⟩ := h; exact h.ownlt
theorem AccI.nil (w : World) (B : Nat) (e : TypeId) : AccI B e w (.slice none 0 0) [] := ⟨[], Acc.nil w B e⟩
theorem AccI.made (w : World) (B : Nat) (e : TypeId) {g : Nat} (hg : g = w.heap.size) (hB : B ≤ g) : AccI B e (w.alloc (.cells #[] e)) (.slice (some ⟨g, 0, none⟩) 0 0) [] := ⟨[], Acc.made w B e hg hB⟩
theorem AccI.one {n : Int} (hn : I64 n) (w : World) (B : Nat) (e : TypeId) {g : Nat} (hg : g = w.heap.size) (hB : B ≤ g) : AccI B e (w.alloc (.cells #[.int .i64 n] e)) (.slice (some ⟨g, 0, none⟩) 1 1) [n] :=
  ⟨[[]], Acc.one (cs := [.int .i64 n]) B e (int_rd w hn) hg hB⟩
end
section
variable {P : Program} {ops : Array Oper} {rest : List Oper} {o : Oper} {a : Act} {w : World} {Q : Exit → Act → World → Prop} {K : Act → World → Prop}
theorem wpList_pushI (hgd : o.guard = none) (s x : Operand) (t : TypeId)
    (ho : o.op = .call { callee := .builtin .append, args := #[s, x], argTypes := #[t, t] })
    (B : Nat) (e : TypeId) (i : TypeInfo) (z : Value) (ht : P.underlying t = some (.slice e)) (hi : P.info? e = some i) (hz : i.zero = some z)
    (hsize : i.size = 1) (hby : i.bytes = 8) (hzs : z.cells.size = 1)
    (w0 : World) (v : Value) (l : List Int) (hs : a.eval s = v) (hA : AccI B e w0 v l) (hK0 : Only [] w0 w) (hB : B ≤ w0.heap.size)
    (g c : Nat) (n : Int) (hx : a.eval x = .slice (some ⟨g, 0, none⟩) 1 c) (hsrc : w.cell? ⟨g, 0, none⟩ = some (.int .i64 n)) (hn : I64 n) (hlen : l.length + 1 ≤ 1073741824)
    (h : ∀ v' w', AccI B e w' v' (l ++ [n]) → Only v.ownBlock.toList w w' → (∀ wz, Only [] wz w → wz.heap.size ≤ B → Only [] wz w') → (v'.ownBlock = v.ownBlock ∨ v'.ownBlock = some w.heap.size) → wpList P ops Q rest (a.put o.dst v') w') : wpList P ops Q (o :: rest) a w := by
  obtain ⟨fs, hA⟩ := hA
  refine wpList_push2w (α := Int) hgd s x t ho B e i z 8 ht hi hz hsize hby hzs (by decide) (by decide) w0 v l fs hs hA hK0 hB g c [.int .i64 n] n [] hx ?_ (by intro u hu; simp at hu; subst hu; rfl) (int_rd w hn) (by simp) hlen fun v' w' h1 h2 h3 _ h5 => h v' w' ⟨_, h1⟩ h2 h3 h5
  intro j u hu
  cases j with
  | zero => simp at hu; subst hu; exact hsrc
  | succ j => simp at hu
theorem step_pushI {E : Prop} (hgd : o.guard = none) (s x : Operand) (t : TypeId)
    (ho : o.op = .call { callee := .builtin .append, args := #[s, x], argTypes := #[t, t] })
    (B : Nat) (e : TypeId) (i : TypeInfo) (z : Value) (ht : P.underlying t = some (.slice e)) (hi : P.info? e = some i) (hz : i.zero = some z)
    (hsize : i.size = 1) (hby : i.bytes = 8) (hzs : z.cells.size = 1)
    (w0 : World) (v : Value) (l : List Int) (hs : a.eval s = v) (hA : AccI B e w0 v l) (hK0 : Only [] w0 w) (hB : B ≤ w0.heap.size)
    (g c : Nat) (n : Int) (hx : a.eval x = .slice (some ⟨g, 0, none⟩) 1 c) (hsrc : w.cell? ⟨g, 0, none⟩ = some (.int .i64 n)) (hn : I64 n) (hlen : l.length + 1 ≤ 1073741824)
    (h : ∀ v' w', AccI B e w' v' (l ++ [n]) → Only v.ownBlock.toList w w' → (v'.ownBlock = v.ownBlock ∨ v'.ownBlock = some w.heap.size) → K (a.put o.dst v') w') : if Region.wanted o (yielded ops a.tmps) = true then Oper.wp P o a w K Q else E := by
  obtain ⟨fs, hA⟩ := hA
  refine step_push2w (α := Int) hgd s x t ho B e i z 8 ht hi hz hsize hby hzs (by decide) (by decide) w0 v l fs hs hA hK0 hB g c [.int .i64 n] n [] hx ?_ (by intro u hu; simp at hu; subst hu; rfl) (int_rd w hn) (by simp) hlen fun v' w' h1 h2 h5 => h v' w' ⟨_, h1⟩ h2 h5
  intro j u hu
  cases j with
  | zero => simp at hu; subst hu; exact hsrc
  | succ j => simp at hu
end
/-- the one cell of a literal -/
theorem lit1 (w : World) (u : Value) (e : TypeId) {g : Nat} (hg : g = w.heap.size) : (w.alloc (.cells #[u] e)).cell? ⟨g, 0, none⟩ = some u := lit_src w [u] e hg 0 u rfl
theorem own_after {v' v : Value} {w : World} {b : Nat} (hN : v'.ownBlock = v.ownBlock ∨ v'.ownBlock = some w.heap.size) (h1 : v.ownBlock ≠ some b) (h2 : b < w.heap.size) : v'.ownBlock ≠ some b := by
  rcases hN with e | e
  · rw [e]; exact h1
  · rw [e]; intro h; injection h with h; omega
/-- a slice of numbers under way, beside memory (G) that stays as it is in W -/
structure AccG (w W : World) (G : List Nat) (e : TypeId) (wr : World) (o : Value) (l : List Int) : Prop where
  acc : AccI w.heap.size e wr o l
  on : Only [] w wr
  kp : ∀ b ∈ G, wr.heap[b]? = W.heap[b]?
  ga : ∀ b ∈ G, o.ownBlock ≠ some b
  gl : ∀ b ∈ G, b < wr.heap.size
section
variable {w W wr w' wa wb : World} {G : List Nat} {e : TypeId} {o o' : Value} {l : List Int} {n : Int}
theorem AccG.keep (h : AccG w W G e wr o l) (ho : Only [] wr w') : AccG w W G e w' o l :=
  ⟨h.acc.keep ho, h.on.trans ho, fun b hb => (ho.block b (h.gl b hb) (by simp)).trans (h.kp b hb), h.ga, fun b hb => Nat.lt_of_lt_of_le (h.gl b hb) ho.size⟩
theorem AccG.push (h : AccG w W G e wa o l) (hA : AccI w.heap.size e wb o' (l ++ [n])) (oA : Only o.ownBlock.toList wa wb) (hP : ∀ wz, Only [] wz wa → wz.heap.size ≤ w.heap.size → Only [] wz wb) (nA : o'.ownBlock = o.ownBlock ∨ o'.ownBlock = some wa.heap.size) : AccG w W G e wb o' (l ++ [n]) :=
  ⟨hA, hP w h.on (Nat.le_refl _), fun b hb => (oA.block b (h.gl b hb) (fun hm => h.ga b hb (by simpa using hm))).trans (h.kp b hb), fun b hb => own_after nA (h.ga b hb) (h.gl b hb), fun b hb => Nat.lt_of_lt_of_le (h.gl b hb) oA.size⟩
theorem AccG.held (h : AccG w W G e wr o l) {α : Type} [Rp α] {cs : List Value} {y : α} {fp : List Nat} (hr : Rp.rep W cs y fp) (hf : ∀ b ∈ fp, b ∈ G) : Rp.rep wr cs y fp := Rp.frame hr fun b hb => h.kp b (hf b hb)
theorem AccG.ints (h : AccG w W G e wr o l) {a : Option Addr} {c : Nat} {y : List Int} {fp : List Nat} (hr : IntsA W a c y fp) (hf : ∀ b ∈ fp, b ∈ G) : IntsA wr a c y fp := hr.frame fun b hb => h.kp b (hf b hb)
end
end Go.Proofs.YtclhblofchfglaaGreat

namespace Go.Proofs.YtclhblofchfglaaGreat
open Go.RowKit
set_option maxRecDepth 10000

theorem map_one_flatten (l : List Int) : (l.map fun x => [Value.int .i64 x]).flatten = l.map (Value.int .i64) := by
  induction l with
  | nil => rfl
  | cons x l ih => simp only [List.map_cons, List.flatten_cons, ih, List.cons_append, List.nil_append]
theorem AccI.row {B : Nat} {e : TypeId} {w : World} {v : Value} {l : List Int} (h : AccI B e w v l) : w.ownsRow B e 1 v l.length (l.map (Value.int .i64)) ∧ ∀ x ∈ l, I64 x := by
  obtain ⟨fs, h⟩ := h
  obtain ⟨css, ho, hcl, hr⟩ := h.own
  have hfl := h.fl
  have hc : css = l.map fun x => [Value.int .i64 x] := by
    apply List.ext_getElem (by simp [hcl])
    intro k h1 h2
    have hk : k < l.length := by omega
    have := (hr k h1 hk (by omega)).1
    rw [this]; simp
  refine ⟨?_, fun x hx => ?_⟩
  · rw [hc, map_one_flatten] at ho; exact ho
  · obtain ⟨k, hk, rfl⟩ := List.getElem_of_mem hx
    exact (hr k (by omega) hk (by omega)).2.1
theorem AccI.ofRow {B : Nat} {e : TypeId} {w : World} {v : Value} {l : List Int} (h : w.ownsRow B e 1 v l.length (l.map (Value.int .i64))) (hI : ∀ x ∈ l, I64 x) : AccI B e w v l := by
  have hf : ∀ n : Nat, (List.replicate n ([] : List Nat)).flatten = [] := fun n => by induction n with | zero => rfl | succ n ih => simp [List.replicate_succ, ih]
  refine ⟨List.replicate l.length [], ⟨l.map fun x => [Value.int .i64 x], ?_, by simp, fun k h1 h2 h3 => ?_⟩, by simp, fun g _ => by rw [hf]; simp⟩
  · rw [map_one_flatten]; exact h
  · exact ⟨by simp, hI _ (List.getElem_mem h2), by simp⟩
/-- an entry is written over -/
theorem AccI.put {B : Nat} {e : TypeId} {w : World} {v : Value} {l : List Int} (h : AccI B e w v l) {i : Nat} (hi : i < l.length) {x : Int} (hx : I64 x) :
    ∃ g c, v = .slice (some ⟨g, 0, none⟩) l.length c ∧ w.cell? ⟨g, i, none⟩ = some (.int .i64 l[i]) ∧ w.frozen? ⟨g, i, none⟩ = false ∧ B ≤ g ∧ AccI B e (w.setCell ⟨g, i, none⟩ (.int .i64 x)) v (l.set i x) := by
  obtain ⟨hO, hw⟩ := h.row
  obtain ⟨g, cap, rfl, hb, hlt⟩ := hO.form (by omega)
  obtain ⟨hO2, -⟩ := hO.stored i (.int .i64 x)
  refine ⟨g, cap, rfl, ?_, hO.frozenAt i, hb, AccI.ofRow ?_ ?_⟩
  · rw [hO.cellAt i (by omega)]; simp [hi]
  · rw [List.length_set, List.map_set]; exact hO2
  · intro y hy
    rcases List.mem_or_eq_of_mem_set hy with h1 | rfl
    · exact hw y h1
    · exact hx
end Go.Proofs.YtclhblofchfglaaGreat

namespace Go.Proofs.YtclhblofchfglaaGreat
open Go.RowKit
set_option maxRecDepth 10000

theorem subNm_snoc (s : ByteArray) (l : List Int) (k : Nat) (hk : k < s.size) : subNm s (l ++ [(k : Int)]) = subNm s l ++ s.extract k (k + 1) := by
  have hk' : k < s.data.size := hk
  apply ByteArray.ext
  rw [ByteArray.data_append, ByteArray.data_extract]
  unfold subNm
  simp only [List.map_append, List.map_cons, List.map_nil, Int.toNat_natCast]
  apply Array.ext'
  simp [Array.getD]
  rw [dif_pos hk, List.drop_eq_getElem_cons (by simpa using hk'), List.take_succ_cons, List.take_zero]
  simp
theorem subNm_size (s : ByteArray) (l : List Int) : (subNm s l).size = l.length := by
  show (List.toArray (l.map _)).size = _
  simp
set_option maxHeartbeats 4000000 in
theorem subsetPuzzle_any (cs : List Value) (x : Puzzle) (fp : List Nat) (v : Value) (sub : List Int) (fs0 : List Nat) (w : World) (h : Rp.rep w cs x fp) (hs : Rd w v sub fs0) (hv : validPz x = true) (ht : trackB x.moves.length sub = true) :
    Calls Tryz.prog 169 #[.agg cs.toArray, v] w fun e w' => ∃ cs' fp', e = .returned (.agg (List.toArray cs')) ∧ Rp.rep w' cs' (subP x sub) fp' ∧ Only [] w w' := by
  have h0 := h
  obtain ⟨v2, rfl, p0, p1, h2⟩ := h
  obtain ⟨aM, cM, obM, fpM, rfl, -, SM⟩ := h2.open_
  obtain ⟨a, cap, rfl, I⟩ := hs.ints
  have hb := I.bound
  have hbM := SM.bound
  obtain ⟨l1, l2, l3⟩ := sub_len hv ht
  obtain ⟨q1, q20, q8, -⟩ := validPz_facts hv
  obtain ⟨iI, hiI, hzI0, hzI1, hzI2⟩ := info_parts Tryz.info22
  have Hpn := Lib.hid (validPz_pn hv)
  have hin := fun k hk => sub_in (x := x) (sub := sub) ht (k := k) hk
  have Hin := Lib.hid hin
  have hns : x.names.size = x.moves.length := by
    have hv' := hv
    unfold validPz at hv'
    rw [Bool.and_eq_true, Bool.and_eq_true, decide_eq_true_iff] at hv'
    exact hv'.2.2
  have Hns := Lib.hid hns
  have hnsz : x.names.size ≤ 8 := by omega
  clear hin hns ht hv p0 p1 h2
  obtain ⟨W0, hW0⟩ : ∃ W0, W0 = ((w.alloc (.cells #[.int .i64 x.points, .string x.names, .slice aM x.moves.length cM] 33)).alloc (.cells #[.int .i64 0, .string ⟨#[]⟩, .slice none 0 0] 33)).alloc (.cells #[.int .i64 x.points, .string ⟨#[]⟩, .slice none 0 0] 33) := ⟨_, rfl⟩
  have x00 := (Blk.new w [.int .i64 x.points, .string x.names, .slice aM x.moves.length cM] 33).keep ((Only.refl [] _).alloc (.cells #[.int .i64 0, .string ⟨#[]⟩, .slice none 0 0] 33))
  have x01 := x00.cell 0 rfl
  have X0 : Blk W0 w.heap.size [.int .i64 x.points, .string x.names, .slice aM x.moves.length cM] := by rw [hW0]; exact x00.keep ((Only.refl [] _).alloc _)
  have O0 : Blk W0 (w.heap.size + 1 + 1) [.int .i64 x.points, .string ⟨#[]⟩, .slice none 0 0] := by rw [hW0]; exact Blk.new_at (by simp)
  have R0 : Blk W0 (w.heap.size + 1) [.int .i64 0, .string ⟨#[]⟩, .slice none 0 0] := by rw [hW0]; exact (Blk.new_at (by simp)).keep ((Only.refl [] _).alloc _)
  have K0 : Only [] w W0 := by rw [hW0]; exact (((Only.refl [] w).alloc _).alloc _).alloc _
  have hz0 : W0.heap.size = w.heap.size + 3 := by rw [hW0]; simp
  go_enter Tryz.func169, Tryz.ntmps169
  go_upto_region 3 with fail
  rw [← hW0]
  clear hW0 x00 x01
  go_loopw [13] (fun c wr => ∃ (j : Nat) (mv : Value) (fs : List (List Nat)), j ≤ sub.length ∧ c = .int .i64 j ∧ Blk wr (w.heap.size + 1 + 1) [.int .i64 x.points, .string (subNm x.names (sub.take j)), mv] ∧ Acc (w.heap.size + 3) 25 wr mv ((sub.take j).map fun k => x.moves.getD k.toNat []) fs ∧ Fresh (w.heap.size + 3) wr fs.flatten ∧ Only [w.heap.size + 1 + 1] W0 wr)
    (fun c _ => sub.length - (intOf c).toNat)
  case atStart => exact ⟨0, .slice none 0 0, [], Nat.zero_le _, rfl, O0, Acc.nil _ _ _, Fresh.nil _ _, Only.refl _ _⟩
  case round =>
    obtain ⟨W3, hnew⟩ : ∃ W, W = wr := ⟨_, rfl⟩
    subst hnew
    obtain ⟨j, mv, fs, hj, rfl, hO, hA, hF, hK⟩ := hrel
    have kW : Only [] w W3 := K0.then_ hK (fun b hb hl => by simp at hb; omega)
    have hX := X0.only hK (by simp; omega)
    by_cases hlt : j < sub.length
    · obtain ⟨b, off, rfl, -, hc⟩ := I.at_ j hlt
      have hk := Hin.out sub[j] (List.getElem_mem hlt)
      obtain ⟨kn, hkn⟩ := Int.eq_ofNat_of_zero_le hk.1
      have hknl : kn < x.moves.length := by omega
      rw [hkn] at hc
      have hcw := kW.cell (by simp) hc
      have hsn := subNm_snoc x.names (sub.take j) kn (by rw [Hns.out]; exact hknl)
      have htk := take_succ_get sub j hlt
      rw [hkn] at htk
      rw [← htk] at hsn
      have hsz := subNm_size x.names (sub.take j)
      rw [List.length_take] at hsz
      obtain ⟨nm, hnm⟩ : ∃ nm, nm = subNm x.names (sub.take j) := ⟨_, rfl⟩
      rw [← hnm] at hsn hsz hO
      have hnms : nm.size ≤ 8 := by omega
      have hex : (x.names.extract kn (kn + 1)).size = 1 := by rw [ByteArray.size_extract]; have := Hns.out; omega
      obtain ⟨ex, hexe⟩ : ∃ ex, ex = x.names.extract kn (kn + 1) := ⟨_, rfl⟩
      have hw1 : IntKind.i64.wrap ((kn : Int) + 1) = ((kn + 1 : Nat) : Int) := by rw [IntKind.wrap_i64]; omega
      have hkI : (kn : Int) ≤ (x.names.size : Int) := by have := Hns.out; omega
      have hcz : ¬ (9223372036854775807 < nm.size + 1) := by omega
      have hkI3 : (0 : Int) ≤ (kn : Int) + 1 := by omega
      have hkI4 : (kn : Int) ≤ (kn : Int) + 1 := by omega
      have hkI2 : (kn : Int) + 1 ≤ (x.names.size : Int) := by have := Hns.out; omega
      have y1 := hO.cell 1 rfl
      have z1 := hO.frozen 1
      have x1 := hX.cell 1 rfl
      have HA := Lib.hid hA
      have HF := Lib.hid hF
      clear hk hc hnm hsz htk hA hF
      go_upto_region 5 with fail
      go_cut [] (fun wx => wx = W3.drew.setCell ⟨w.heap.size + 1 + 1, 1, none⟩ (.string (nm ++ x.names.extract kn (kn + 1))))
      case first =>
        go_region_law (fail)
        all_goals go_wp2
        all_goals go_meet
        all_goals rfl
      case rest =>
        obtain ⟨W4, hnew⟩ : ∃ W, W = wc := ⟨_, rfl⟩
        subst hnew
        have kd : Only [] W3 W3.drew := (Only.refl _ _).drew
        have k4 : Only [w.heap.size + 1 + 1] W3 W4 := by rw [hcut]; exact (kd.weaken _).setCell (by simp) _
        have O4 : Blk W4 (w.heap.size + 1 + 1) [.int .i64 x.points, .string (nm ++ x.names.extract kn (kn + 1)), mv] := by rw [hcut]; exact (hO.keep kd).set 1 _
        rw [← hsn] at O4
        have hap : ∀ g, mv.ownBlock = some g → g ∉ [w.heap.size + 1 + 1] := fun g hg hm => by have := (HA.out.ownlt g hg).1; simp at hm; omega
        have A4 := HA.out.only k4 (fun g hg hm => by have := HF.out.ge g hg; simp at hm; omega) hap
        have F4 := HF.out.only k4 (fun g hg hm => by have := HF.out.ge g hg; simp at hm; omega)
        have X4 := hX.only k4 (by simp; omega)
        have kW4 : Only [] w W4 := kW.then_ k4 (fun b hb hl => by simp at hb; omega)
        have hK4 := hK.trans k4
        clear hcut y1 z1 x1 hO hX hex hexe ex hw1 hkI hkI2 hcw HA HF kd k4 hsn
        obtain ⟨nm2, hnm2⟩ : ∃ nm2, nm2 = subNm x.names (sub.take (j + 1)) := ⟨_, rfl⟩
        rw [← hnm2] at O4
        have Hnm2 := Lib.hid hnm2
        clear hnm2
        obtain ⟨bM, oM, um, rfl, -, hcM, hum⟩ := SM.atRow kn hknl
        obtain ⟨am, cm, rfl, Im⟩ := hum.ints
        have hmd : x.moves.getD kn [] = x.moves[kn] := getD_get hknl
        obtain ⟨mo, hmo⟩ : ∃ mo, mo = x.moves[kn] := ⟨_, rfl⟩
        rw [← hmo] at hmd hcM Im
        have Hmd := Lib.hid hmd
        have hknI : (kn : Int) < (x.moves.length : Int) := by omega
        obtain ⟨a4, c4, hmv⟩ := A4.form
        obtain ⟨nL, hnL⟩ : ∃ nL, nL = ((sub.take j).map fun k => x.moves.getD k.toNat []).length := ⟨_, rfl⟩
        rw [← hnL] at hmv
        subst hmv
        have hnL8 : nL ≤ 8 := by rw [hnL, List.length_map, List.length_take]; omega
        have HnL := Lib.hid hnL
        have hmo0 := hmo
        have Hmap := Lib.hid (show (sub.take (j + 1)).map (fun k => x.moves.getD k.toNat []) = (sub.take j).map (fun k => x.moves.getD k.toNat []) ++ [mo] by
          rw [take_succ_get sub j hlt, List.map_append, hkn]
          show _ ++ [x.moves.getD (kn : Int).toNat []] = _
          rw [Int.toNat_natCast, hmd])
        clear hmo hmd hnL hum
        have hmol : mo.length ≤ 20 := by rw [hmo0]; have := (Hpn.out _ (List.getElem_mem hknl)).1; omega
        have Hcl := Lib.hid (fun (W : World) (hW : Only [] W4 W) => Clone_rd (.slice am mo.length cm) mo _ W (Im.keep (kW4.trans hW)).rd (by omega))
        have y2 := O4.cell 2 rfl
        have x2 := X4.cell 2 rfl
        have hcM4 := kW4.cell (by simp) hcM
        have hszB : w.heap.size + 3 ≤ W4.heap.size := by have := hK4.size; omega
        have hlL : ((sub.take j).map fun k => x.moves.getD k.toNat []).length + 1 ≤ 1073741824 := by rw [← HnL.out]; omega
        have HA4 := Lib.hid A4
        have HF4 := Lib.hid F4
        have hown : ∀ g, (Value.slice a4 nL c4).ownBlock = some g → w.heap.size + 3 ≤ g := fun g hg => (A4.ownlt g hg).1
        have Hown := Lib.hid hown
        clear hmo0 Im A4 F4 hown hcM
        go_upto_region 6 with fail
        go_region_law (first
          | (go_simp; go_at_call 105; (with_reducible refine (Hcl.out _ (by with_reducible repeat (first | exact Only.refl _ _ | assumption | refine Only.drewN ?_ _ | refine Only.drew ?_ | refine Only.alloc ?_ _ | refine Only.setCell ?_ (by intro hh; exfalso; simp at hh; try omega) _ | refine Only.trans ?_ (by assumption)))).mono ?_); rintro e w5 ⟨u5, f5, rfl, r5, F5, t5⟩; obtain ⟨a5, c5, rfl, I5⟩ := r5.ints; have k5 : Only [] W4 w5 := Only.trans (by with_reducible repeat (first | exact Only.refl _ _ | assumption | refine Only.drewN ?_ _ | refine Only.drew ?_ | refine Only.alloc ?_ _ | refine Only.setCell ?_ (by intro hh; exfalso; simp at hh; try omega) _ | refine Only.trans ?_ (by assumption))) t5; have F5' : Fresh W4.heap.size w5 f5 := F5.mono (by have hq : Only [] W4 _ := (show Only [] W4 _ from (by with_reducible repeat (first | exact Only.refl _ _ | assumption | refine Only.drewN ?_ _ | refine Only.drew ?_ | refine Only.alloc ?_ _ | refine Only.setCell ?_ (by intro hh; exfalso; simp at hh; try omega) _ | refine Only.trans ?_ (by assumption)))); exact hq.size); have O5 := O4.keep k5; have y25 := O5.cell 2 rfl; have O6 := O5.keep ((Only.refl [] w5).alloc (.cells #[.slice a5 mo.length c5] 25)); have y26 := O6.cell 2 rfl)
          | (refine step_pushF rfl _ _ 22 rfl (w.heap.size + 3) 25 iI _ 24 Tryz.underlying22 hiI hzI0 hzI1 hzI2 rfl (by decide) (by decide) W4 (.slice a4 nL c4) ((sub.take j).map fun k => x.moves.getD k.toNat []) fs rfl HA4.out HF4.out (by with_reducible repeat (first | exact Only.refl _ _ | assumption | refine Only.drewN ?_ _ | refine Only.drew ?_ | refine Only.alloc ?_ _ | refine Only.setCell ?_ (by intro hh; exfalso; simp at hh; try omega) _ | refine Only.trans ?_ (by assumption))) hszB w5.heap.size 1 [.slice a5 mo.length c5] mo f5 rfl (lit_src w5 [.slice a5 mo.length c5] _ rfl) (by intro u hu; simp at hu; subst hu; rfl) (Rp.keep I5.rd ((Only.refl _ _).alloc _)) (F5'.keep ((Only.refl _ _).alloc _)) hlL w (kW4.trans (by with_reducible repeat (first | exact Only.refl _ _ | assumption | refine Only.drewN ?_ _ | refine Only.drew ?_ | refine Only.alloc ?_ _ | refine Only.setCell ?_ (by intro hh; exfalso; simp at hh; try omega) _ | refine Only.trans ?_ (by assumption)))) (by omega) ?_; intro v7 w7 hA7 hF7 hK7 hO7; obtain ⟨a7, n7, c7, rfl⟩ : ∃ a n c, v7 = Value.slice a n c := (let ⟨a, c, hh⟩ := hA7.form; ⟨a, _, c, hh⟩); have O7 := O6.only hO7 (fun hm => by have := Hown.out _ (by simpa using hm); omega); have y7 := O7.cell 2 rfl; have z7 := O7.frozen 2; have hK7' : Only [w.heap.size + 1 + 1] W0 w7 := (hK4.keepThen (k5.alloc _)).then_ hO7 (fun b hb hl => by have := Hown.out b (by simpa using hb); omega); have h7l := hA7.ownlt; have HA7 := Lib.hid hA7; have HF7 := Lib.hid hF7; have HO7 := Lib.hid O7; clear hA7 hF7 O7)
          | fail "no arm")
        all_goals go_wp2
        all_goals
          have kf : Only [w.heap.size + 1 + 1] w7 (w7.setCell ⟨w.heap.size + 1 + 1, 2, none⟩ (.slice a7 n7 c7)) := (Only.refl _ _).setCell (by simp) _
          go_roundw
          case rel => exact ⟨j + 1, .slice a7 n7 c7, fs ++ [f5], by omega, by go_num, by rw [← Hnm2.out]; exact HO7.out.set 2 (.slice a7 n7 c7), by rw [Hmap.out]; exact HA7.out.only kf (fun g hg hm => by have := HF7.out.ge g hg; simp at hm; omega) (fun g hg hm => by have := (h7l g hg).1; simp at hm; omega), HF7.out.only kf (fun g hg hm => by have := HF7.out.ge g hg; simp at hm; omega), hK7'.trans kf⟩
          case measure => simp [intOf]; omega
    · have hje : j = sub.length := by omega
      rw [hje, List.take_length] at hO hA
      obtain ⟨am, cm, hmv⟩ := hA.form
      subst hmv
      rw [List.length_map] at hO hA
      have y0 := hO.cell 0 rfl
      have y1 := hO.cell 1 rfl
      have y2 := hO.cell 2 rfl
      have hR := R0.only hK (by simp)
      have g0 := hR.cell 0 rfl
      have g1 := hR.cell 1 rfl
      have g2 := hR.cell 2 rfl
      have z0 := hR.frozen 0
      have z1 := hR.frozen 1
      have z2 := hR.frozen 2
      have hjI : ¬ (j : Int) < (sub.length : Int) := by omega
      obtain ⟨nm, hnm⟩ : ∃ nm, nm = subNm x.names sub := ⟨_, rfl⟩
      have hnms : nm.size ≤ maxLen := by rw [hnm, subNm_size]; unfold maxLen; omega
      rw [← hnm] at hO y1
      have Hnm := Lib.hid hnm
      have HA := Lib.hid hA
      have HF := Lib.hid hF
      have hp0 : I64 x.points := by unfold I64; omega
      have Rf := ((hR.set 0 (.int .i64 x.points)).set 1 (.string nm)).set 2 (.slice am sub.length cm)
      simp only [List.set] at Rf
      have kf : Only [w.heap.size + 1] W3 (((W3.setCell ⟨w.heap.size + 1, 0, none⟩ (.int .i64 x.points)).setCell ⟨w.heap.size + 1, 1, none⟩ (.string nm)).setCell ⟨w.heap.size + 1, 2, none⟩ (.slice am sub.length cm)) := (((Only.refl _ _).setCell (by simp) _).setCell (by simp) _).setCell (by simp) _
      clear hA hF hje hnm
      go_wp2
      obtain ⟨wf, hwf⟩ : ∃ wf, wf = (((W3.setCell ⟨w.heap.size + 1, 0, none⟩ (.int .i64 x.points)).setCell ⟨w.heap.size + 1, 1, none⟩ (.string nm)).setCell ⟨w.heap.size + 1, 2, none⟩ (.slice am sub.length cm)) := ⟨_, rfl⟩
      rw [← hwf] at Rf kf ⊢
      clear hwf y0 y1 y2 g0 g1 g2 z0 z1 z2
      have r0 := Rf.cell 0 rfl
      have r1 := Rf.cell 1 rfl
      have r2 := Rf.cell 2 rfl
      have Af := HA.out.only kf (fun g hg hm => by have := HF.out.ge g hg; simp at hm; omega) (fun g hg hm => by have := (HA.out.ownlt g hg).1; simp at hm; omega)
      refine bodyPost_ret (v := .agg #[.int .i64 x.points, .string nm, .slice am sub.length cm]) (by simp [results, Tryz.results169, go_sem, r0, r1, r2]) rfl ⟨[.int .i64 x.points, .string nm, .slice am sub.length cm], rfl, ⟨(Value.slice am sub.length cm).ownBlock.toList ++ fs.flatten, .slice am sub.length cm, by rw [Hnm.out]; rfl, hp0, by show (subNm x.names sub).size ≤ maxLen; rw [← Hnm.out]; exact hnms, ?_⟩, kW.then_ kf (fun b hb hl => by simp at hb; omega)⟩
      have := Af.rd (by decide)
      exact this
end Go.Proofs.YtclhblofchfglaaGreat

namespace Go.Proofs.YtclhblofchfglaaGreat
open Go.RowKit
set_option maxRecDepth 10000

set_option maxHeartbeats 4000000 in
theorem restrictMoves_any (cs : List Value) (x : Puzzle) (fp : List Nat) (v : Value) (sub : List Int) (fs0 : List Nat) (w : World) (h : Rp.rep w cs x fp) (hs : Rd w v sub fs0) (hv : validPz x = true) (ht : trackB x.moves.length sub = true) :
    Calls Tryz.prog 125 #[.agg cs.toArray, v] w fun e w' => ∃ cs' fp', e = .returned (.agg (List.toArray cs')) ∧ Rp.rep w' cs' (subP x sub) fp' ∧ Only [] w w' := by
  have h0 := h
  obtain ⟨v2, rfl, p0, p1, h2⟩ := h
  obtain ⟨aM, cM, obM, fpM, rfl, -, SM⟩ := h2.open_
  obtain ⟨a, cap, rfl, I⟩ := hs.ints
  have hb := I.bound
  have hbM := SM.bound
  obtain ⟨l1, l2, l3⟩ := sub_len hv ht
  obtain ⟨q1, q20, q8, -⟩ := validPz_facts hv
  obtain ⟨iI, hiI, hzI0, hzI1, hzI2⟩ := info_parts Tryz.info22
  have Hpn := Lib.hid (validPz_pn hv)
  have hin := fun k hk => sub_in (x := x) (sub := sub) ht (k := k) hk
  have Hin := Lib.hid hin
  have hns : x.names.size = x.moves.length := by
    have hv' := hv
    unfold validPz at hv'
    rw [Bool.and_eq_true, Bool.and_eq_true, decide_eq_true_iff] at hv'
    exact hv'.2.2
  have Hns := Lib.hid hns
  have hnsz : x.names.size ≤ 8 := by omega
  clear hin hns ht hv p0 p1 h2
  obtain ⟨W0, hW0⟩ : ∃ W0, W0 = ((w.alloc (.cells #[.int .i64 x.points, .string x.names, .slice aM x.moves.length cM] 33)).alloc (.cells #[.int .i64 0, .string ⟨#[]⟩, .slice none 0 0] 33)).alloc (.cells #[.int .i64 x.points, .string ⟨#[]⟩, .slice none 0 0] 33) := ⟨_, rfl⟩
  have x00 := (Blk.new w [.int .i64 x.points, .string x.names, .slice aM x.moves.length cM] 33).keep ((Only.refl [] _).alloc (.cells #[.int .i64 0, .string ⟨#[]⟩, .slice none 0 0] 33))
  have x01 := x00.cell 0 rfl
  have X0 : Blk W0 w.heap.size [.int .i64 x.points, .string x.names, .slice aM x.moves.length cM] := by rw [hW0]; exact x00.keep ((Only.refl [] _).alloc _)
  have O0 : Blk W0 (w.heap.size + 1 + 1) [.int .i64 x.points, .string ⟨#[]⟩, .slice none 0 0] := by rw [hW0]; exact Blk.new_at (by simp)
  have R0 : Blk W0 (w.heap.size + 1) [.int .i64 0, .string ⟨#[]⟩, .slice none 0 0] := by rw [hW0]; exact (Blk.new_at (by simp)).keep ((Only.refl [] _).alloc _)
  have K0 : Only [] w W0 := by rw [hW0]; exact (((Only.refl [] w).alloc _).alloc _).alloc _
  have hz0 : W0.heap.size = w.heap.size + 3 := by rw [hW0]; simp
  go_enter Tryz.func125, Tryz.ntmps125
  go_upto_region 3 with fail
  rw [← hW0]
  clear hW0 x00 x01
  go_loopw [6] (fun c wr => ∃ (j : Nat) (mv : Value) (fs : List (List Nat)), j ≤ sub.length ∧ c = .int .i64 j ∧ Blk wr (w.heap.size + 1 + 1) [.int .i64 x.points, .string (subNm x.names (sub.take j)), mv] ∧ Acc (w.heap.size + 3) 25 wr mv ((sub.take j).map fun k => x.moves.getD k.toNat []) fs ∧ Fresh (w.heap.size + 3) wr fs.flatten ∧ Only [w.heap.size + 1 + 1] W0 wr)
    (fun c _ => sub.length - (intOf c).toNat)
  case atStart => exact ⟨0, .slice none 0 0, [], Nat.zero_le _, rfl, O0, Acc.nil _ _ _, Fresh.nil _ _, Only.refl _ _⟩
  case round =>
    obtain ⟨W3, hnew⟩ : ∃ W, W = wr := ⟨_, rfl⟩
    subst hnew
    obtain ⟨j, mv, fs, hj, rfl, hO, hA, hF, hK⟩ := hrel
    have kW : Only [] w W3 := K0.then_ hK (fun b hb hl => by simp at hb; omega)
    have hX := X0.only hK (by simp; omega)
    by_cases hlt : j < sub.length
    · obtain ⟨b, off, rfl, -, hc⟩ := I.at_ j hlt
      have hk := Hin.out sub[j] (List.getElem_mem hlt)
      obtain ⟨kn, hkn⟩ := Int.eq_ofNat_of_zero_le hk.1
      have hknl : kn < x.moves.length := by omega
      rw [hkn] at hc
      have hcw := kW.cell (by simp) hc
      have hsn := subNm_snoc x.names (sub.take j) kn (by rw [Hns.out]; exact hknl)
      have htk := take_succ_get sub j hlt
      rw [hkn] at htk
      rw [← htk] at hsn
      have hsz := subNm_size x.names (sub.take j)
      rw [List.length_take] at hsz
      obtain ⟨nm, hnm⟩ : ∃ nm, nm = subNm x.names (sub.take j) := ⟨_, rfl⟩
      rw [← hnm] at hsn hsz hO
      have hnms : nm.size ≤ 8 := by omega
      have hex : (x.names.extract kn (kn + 1)).size = 1 := by rw [ByteArray.size_extract]; have := Hns.out; omega
      obtain ⟨ex, hexe⟩ : ∃ ex, ex = x.names.extract kn (kn + 1) := ⟨_, rfl⟩
      have hw1 : IntKind.i64.wrap ((kn : Int) + 1) = ((kn + 1 : Nat) : Int) := by rw [IntKind.wrap_i64]; omega
      have hkI : (kn : Int) ≤ (x.names.size : Int) := by have := Hns.out; omega
      have hcz : ¬ (9223372036854775807 < nm.size + 1) := by omega
      have hkI3 : (0 : Int) ≤ (kn : Int) + 1 := by omega
      have hkI4 : (kn : Int) ≤ (kn : Int) + 1 := by omega
      have hkI2 : (kn : Int) + 1 ≤ (x.names.size : Int) := by have := Hns.out; omega
      have y1 := hO.cell 1 rfl
      have z1 := hO.frozen 1
      have x1 := hX.cell 1 rfl
      have HA := Lib.hid hA
      have HF := Lib.hid hF
      clear hk hc hnm hsz htk hA hF
      go_upto_region 6 with fail
      go_cut [] (fun wx => wx = W3.drew.setCell ⟨w.heap.size + 1 + 1, 1, none⟩ (.string (nm ++ x.names.extract kn (kn + 1))))
      case first =>
        go_region_law (fail)
        all_goals go_wp2
        all_goals go_meet
        all_goals rfl
      case rest =>
        obtain ⟨W4, hnew⟩ : ∃ W, W = wc := ⟨_, rfl⟩
        subst hnew
        have kd : Only [] W3 W3.drew := (Only.refl _ _).drew
        have k4 : Only [w.heap.size + 1 + 1] W3 W4 := by rw [hcut]; exact (kd.weaken _).setCell (by simp) _
        have O4 : Blk W4 (w.heap.size + 1 + 1) [.int .i64 x.points, .string (nm ++ x.names.extract kn (kn + 1)), mv] := by rw [hcut]; exact (hO.keep kd).set 1 _
        rw [← hsn] at O4
        have hap : ∀ g, mv.ownBlock = some g → g ∉ [w.heap.size + 1 + 1] := fun g hg hm => by have := (HA.out.ownlt g hg).1; simp at hm; omega
        have A4 := HA.out.only k4 (fun g hg hm => by have := HF.out.ge g hg; simp at hm; omega) hap
        have F4 := HF.out.only k4 (fun g hg hm => by have := HF.out.ge g hg; simp at hm; omega)
        have X4 := hX.only k4 (by simp; omega)
        have kW4 : Only [] w W4 := kW.then_ k4 (fun b hb hl => by simp at hb; omega)
        have hK4 := hK.trans k4
        clear hcut y1 z1 x1 hO hX hex hexe ex hw1 hkI hkI2 hcw HA HF kd k4 hsn
        obtain ⟨nm2, hnm2⟩ : ∃ nm2, nm2 = subNm x.names (sub.take (j + 1)) := ⟨_, rfl⟩
        rw [← hnm2] at O4
        have Hnm2 := Lib.hid hnm2
        clear hnm2
        obtain ⟨bM, oM, um, rfl, -, hcM, hum⟩ := SM.atRow kn hknl
        obtain ⟨am, cm, rfl, Im⟩ := hum.ints
        have hmd : x.moves.getD kn [] = x.moves[kn] := getD_get hknl
        obtain ⟨mo, hmo⟩ : ∃ mo, mo = x.moves[kn] := ⟨_, rfl⟩
        rw [← hmo] at hmd hcM Im
        have Hmd := Lib.hid hmd
        have hknI : (kn : Int) < (x.moves.length : Int) := by omega
        obtain ⟨a4, c4, hmv⟩ := A4.form
        obtain ⟨nL, hnL⟩ : ∃ nL, nL = ((sub.take j).map fun k => x.moves.getD k.toNat []).length := ⟨_, rfl⟩
        rw [← hnL] at hmv
        subst hmv
        have hnL8 : nL ≤ 8 := by rw [hnL, List.length_map, List.length_take]; omega
        have HnL := Lib.hid hnL
        have hmo0 := hmo
        have Hmap := Lib.hid (show (sub.take (j + 1)).map (fun k => x.moves.getD k.toNat []) = (sub.take j).map (fun k => x.moves.getD k.toNat []) ++ [mo] by
          rw [take_succ_get sub j hlt, List.map_append, hkn]
          show _ ++ [x.moves.getD (kn : Int).toNat []] = _
          rw [Int.toNat_natCast, hmd])
        clear hmo hmd hnL hum
        have hmol : mo.length ≤ 20 := by rw [hmo0]; have := (Hpn.out _ (List.getElem_mem hknl)).1; omega
        have Hcl := Lib.hid (fun (W : World) (hW : Only [] W4 W) => copyInts_rd (.slice am mo.length cm) mo _ W (Im.keep (kW4.trans hW)).rd (by omega))
        have y2 := O4.cell 2 rfl
        have x2 := X4.cell 2 rfl
        have hcM4 := kW4.cell (by simp) hcM
        have hszB : w.heap.size + 3 ≤ W4.heap.size := by have := hK4.size; omega
        have hlL : ((sub.take j).map fun k => x.moves.getD k.toNat []).length + 1 ≤ 1073741824 := by rw [← HnL.out]; omega
        have HA4 := Lib.hid A4
        have HF4 := Lib.hid F4
        have hown : ∀ g, (Value.slice a4 nL c4).ownBlock = some g → w.heap.size + 3 ≤ g := fun g hg => (A4.ownlt g hg).1
        have Hown := Lib.hid hown
        clear hmo0 Im A4 F4 hown hcM
        go_upto_region 7 with fail
        go_region_law (first
          | (go_simp; go_at_call 63; (with_reducible refine (Hcl.out _ (by with_reducible repeat (first | exact Only.refl _ _ | assumption | refine Only.drewN ?_ _ | refine Only.drew ?_ | refine Only.alloc ?_ _ | refine Only.setCell ?_ (by intro hh; exfalso; simp at hh; try omega) _ | refine Only.trans ?_ (by assumption)))).mono ?_); rintro e w5 ⟨u5, f5, rfl, r5, F5, t5⟩; obtain ⟨a5, c5, rfl, I5⟩ := r5.ints; have k5 : Only [] W4 w5 := Only.trans (by with_reducible repeat (first | exact Only.refl _ _ | assumption | refine Only.drewN ?_ _ | refine Only.drew ?_ | refine Only.alloc ?_ _ | refine Only.setCell ?_ (by intro hh; exfalso; simp at hh; try omega) _ | refine Only.trans ?_ (by assumption))) t5; have F5' : Fresh W4.heap.size w5 f5 := F5.mono (by have hq : Only [] W4 _ := (show Only [] W4 _ from (by with_reducible repeat (first | exact Only.refl _ _ | assumption | refine Only.drewN ?_ _ | refine Only.drew ?_ | refine Only.alloc ?_ _ | refine Only.setCell ?_ (by intro hh; exfalso; simp at hh; try omega) _ | refine Only.trans ?_ (by assumption)))); exact hq.size); have O5 := O4.keep k5; have y25 := O5.cell 2 rfl; have O6 := O5.keep ((Only.refl [] w5).alloc (.cells #[.slice a5 mo.length c5] 25)); have y26 := O6.cell 2 rfl)
          | (refine step_pushF rfl _ _ 22 rfl (w.heap.size + 3) 25 iI _ 24 Tryz.underlying22 hiI hzI0 hzI1 hzI2 rfl (by decide) (by decide) W4 (.slice a4 nL c4) ((sub.take j).map fun k => x.moves.getD k.toNat []) fs rfl HA4.out HF4.out (by with_reducible repeat (first | exact Only.refl _ _ | assumption | refine Only.drewN ?_ _ | refine Only.drew ?_ | refine Only.alloc ?_ _ | refine Only.setCell ?_ (by intro hh; exfalso; simp at hh; try omega) _ | refine Only.trans ?_ (by assumption))) hszB w5.heap.size 1 [.slice a5 mo.length c5] mo f5 rfl (lit_src w5 [.slice a5 mo.length c5] _ rfl) (by intro u hu; simp at hu; subst hu; rfl) (Rp.keep I5.rd ((Only.refl _ _).alloc _)) (F5'.keep ((Only.refl _ _).alloc _)) hlL w (kW4.trans (by with_reducible repeat (first | exact Only.refl _ _ | assumption | refine Only.drewN ?_ _ | refine Only.drew ?_ | refine Only.alloc ?_ _ | refine Only.setCell ?_ (by intro hh; exfalso; simp at hh; try omega) _ | refine Only.trans ?_ (by assumption)))) (by omega) ?_; intro v7 w7 hA7 hF7 hK7 hO7; obtain ⟨a7, n7, c7, rfl⟩ : ∃ a n c, v7 = Value.slice a n c := (let ⟨a, c, hh⟩ := hA7.form; ⟨a, _, c, hh⟩); have O7 := O6.only hO7 (fun hm => by have := Hown.out _ (by simpa using hm); omega); have y7 := O7.cell 2 rfl; have z7 := O7.frozen 2; have hK7' : Only [w.heap.size + 1 + 1] W0 w7 := (hK4.keepThen (k5.alloc _)).then_ hO7 (fun b hb hl => by have := Hown.out b (by simpa using hb); omega); have h7l := hA7.ownlt; have HA7 := Lib.hid hA7; have HF7 := Lib.hid hF7; have HO7 := Lib.hid O7; clear hA7 hF7 O7)
          | fail "no arm")
        all_goals go_wp2
        all_goals
          have kf : Only [w.heap.size + 1 + 1] w7 (w7.setCell ⟨w.heap.size + 1 + 1, 2, none⟩ (.slice a7 n7 c7)) := (Only.refl _ _).setCell (by simp) _
          go_roundw
          case rel => exact ⟨j + 1, .slice a7 n7 c7, fs ++ [f5], by omega, by go_num, by rw [← Hnm2.out]; exact HO7.out.set 2 (.slice a7 n7 c7), by rw [Hmap.out]; exact HA7.out.only kf (fun g hg hm => by have := HF7.out.ge g hg; simp at hm; omega) (fun g hg hm => by have := (h7l g hg).1; simp at hm; omega), HF7.out.only kf (fun g hg hm => by have := HF7.out.ge g hg; simp at hm; omega), hK7'.trans kf⟩
          case measure => simp [intOf]; omega
    · have hje : j = sub.length := by omega
      rw [hje, List.take_length] at hO hA
      obtain ⟨am, cm, hmv⟩ := hA.form
      subst hmv
      rw [List.length_map] at hO hA
      have y0 := hO.cell 0 rfl
      have y1 := hO.cell 1 rfl
      have y2 := hO.cell 2 rfl
      have hR := R0.only hK (by simp)
      have g0 := hR.cell 0 rfl
      have g1 := hR.cell 1 rfl
      have g2 := hR.cell 2 rfl
      have z0 := hR.frozen 0
      have z1 := hR.frozen 1
      have z2 := hR.frozen 2
      have hjI : ¬ (j : Int) < (sub.length : Int) := by omega
      obtain ⟨nm, hnm⟩ : ∃ nm, nm = subNm x.names sub := ⟨_, rfl⟩
      have hnms : nm.size ≤ maxLen := by rw [hnm, subNm_size]; unfold maxLen; omega
      rw [← hnm] at hO y1
      have Hnm := Lib.hid hnm
      have HA := Lib.hid hA
      have HF := Lib.hid hF
      have hp0 : I64 x.points := by unfold I64; omega
      have Rf := ((hR.set 0 (.int .i64 x.points)).set 1 (.string nm)).set 2 (.slice am sub.length cm)
      simp only [List.set] at Rf
      have kf : Only [w.heap.size + 1] W3 (((W3.setCell ⟨w.heap.size + 1, 0, none⟩ (.int .i64 x.points)).setCell ⟨w.heap.size + 1, 1, none⟩ (.string nm)).setCell ⟨w.heap.size + 1, 2, none⟩ (.slice am sub.length cm)) := (((Only.refl _ _).setCell (by simp) _).setCell (by simp) _).setCell (by simp) _
      clear hA hF hje hnm
      go_wp2
      obtain ⟨wf, hwf⟩ : ∃ wf, wf = (((W3.setCell ⟨w.heap.size + 1, 0, none⟩ (.int .i64 x.points)).setCell ⟨w.heap.size + 1, 1, none⟩ (.string nm)).setCell ⟨w.heap.size + 1, 2, none⟩ (.slice am sub.length cm)) := ⟨_, rfl⟩
      rw [← hwf] at Rf kf ⊢
      clear hwf y0 y1 y2 g0 g1 g2 z0 z1 z2
      have r0 := Rf.cell 0 rfl
      have r1 := Rf.cell 1 rfl
      have r2 := Rf.cell 2 rfl
      have Af := HA.out.only kf (fun g hg hm => by have := HF.out.ge g hg; simp at hm; omega) (fun g hg hm => by have := (HA.out.ownlt g hg).1; simp at hm; omega)
      refine bodyPost_ret (v := .agg #[.int .i64 x.points, .string nm, .slice am sub.length cm]) (by simp [results, Tryz.results125, go_sem, r0, r1, r2]) rfl ⟨[.int .i64 x.points, .string nm, .slice am sub.length cm], rfl, ⟨(Value.slice am sub.length cm).ownBlock.toList ++ fs.flatten, .slice am sub.length cm, by rw [Hnm.out]; rfl, hp0, by show (subNm x.names sub).size ≤ maxLen; rw [← Hnm.out]; exact hnms, ?_⟩, kW.then_ kf (fun b hb hl => by simp at hb; omega)⟩
      have := Af.rd (by decide)
      exact this
end Go.Proofs.YtclhblofchfglaaGreat
