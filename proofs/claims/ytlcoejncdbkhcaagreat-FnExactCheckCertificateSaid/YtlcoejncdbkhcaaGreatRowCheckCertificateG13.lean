/- Maps from strings to numbers that a call makes; the key of a list of small numbers. Maps from strings to truth values that a call makes. The program's search of patterns: its state (law 16). The program's search of patterns (law 16). -/
import Derived.Test.YtlcoejncdbkhcaaGreatRowCheckCertificateG10
import Derived.Maps.OwnSet
import Derived.StringKeys
import Derived.Laws.BytesArg
import Derived.Test.YtlcoejncdbkhcaaGreatRowCheckCertificateG12
import Derived.Test.YtlcoejncdbkhcaaGreatRowCheckCertificateG2
import Derived.Deep.RegionHeld3
namespace Go.Proofs.YtlcoejncdbkhcaaGreat
open Go.RowKit
set_option maxRecDepth 10000
open Go.Maps (Keyed)

/-- the key of a list: a byte each -/
def kB (l : List Int) : ByteArray := strOfNums (l.map fun x => x % 256)
theorem kB_size (l : List Int) : (kB l).size = l.length := by unfold kB; rw [strOfNums_size, List.length_map]
theorem kB_inj : ∀ {l l' : List Int}, (∀ x ∈ l, 0 ≤ x ∧ x < 256) → (∀ x ∈ l', 0 ≤ x ∧ x < 256) → kB l = kB l' → l = l' := by
  intro l l' h h' he
  have hd : (kB l).data.toList = (kB l').data.toList := by rw [he]
  unfold kB at hd
  rw [strOfNums_data, strOfNums_data, List.map_map, List.map_map] at hd
  clear he
  induction l generalizing l' with
  | nil => cases l' with
    | nil => rfl
    | cons y l' => simp at hd
  | cons x l ih => cases l' with
    | nil => simp at hd
    | cons y l' =>
      simp only [List.map_cons, List.cons.injEq] at hd
      have hx := h x (by simp); have hy := h' y (by simp)
      have e1 : x % 256 = x := Int.emod_eq_of_lt hx.1 hx.2
      have e2 : y % 256 = y := Int.emod_eq_of_lt hy.1 hy.2
      have h1 := hd.1
      simp only [Function.comp, e1, e2] at h1
      have h2 := congrArg UInt8.toNat h1
      rw [UInt8.toNat_ofNat', UInt8.toNat_ofNat'] at h2
      have : x = y := by omega
      subst this
      rw [ih (fun z hz => h z (by simp [hz])) (fun z hz => h' z (by simp [hz])) hd.2]
theorem kB_eq {l l' : List Int} (h : ∀ x ∈ l, 0 ≤ x ∧ x < 256) (h' : ∀ x ∈ l', 0 ≤ x ∧ x < 256) : kB l = kB l' ↔ l = l' := ⟨kB_inj h h', fun e => by rw [e]⟩

theorem Tryz.lawStr : Keyed Tryz.prog 9 := Go.Maps.string_keyed Tryz.underlying9
theorem Tryz.infoByte : (Tryz.prog.info? 5).map (fun i => (i.zero, i.size, i.bytes)) = some (some (.int .u8 0), 1, 1) := by kernel_rfl
theorem madeBytes (n : Nat) : (madeCells (Value.cells (.int .u8 0)) n).toList = List.replicate n (.int .u8 0) := by
  apply List.ext_getElem (by simp [madeCells])
  intro i h1 h2
  simp [madeCells, Value.cells, Nat.mod_one]
theorem step_bytes (l : List Int) (j : Nat) (hj : j < l.length) : ((l.take j).map (fun x => Value.int .u8 (x % 256)) ++ List.replicate (l.length - j) (Value.int .u8 0)).set j (.int .u8 (l[j] % 256)) = (l.take (j + 1)).map (fun x => Value.int .u8 (x % 256)) ++ List.replicate (l.length - (j + 1)) (.int .u8 0) := by
  have hl : ((l.take j).map (fun x => Value.int .u8 (x % 256))).length = j := by rw [List.length_map, List.length_take]; omega
  rw [show l.length - j = (l.length - (j + 1)) + 1 by omega, List.replicate_succ, List.set_append_right _ _ (by omega), hl, Nat.sub_self, take_succ_get l j hj]
  simp only [List.map_append, List.map_cons, List.map_nil, List.append_assoc, List.cons_append, List.nil_append, List.set_cons_zero]
set_option maxHeartbeats 1000000 in
theorem stateKey_rd (v : Value) (l : List Int) (fp : List Nat) (w : World) (h : Rd w v l fp) (hl : l.length ≤ 1000) :
    Calls Tryz.prog 158 #[v] w fun e w' => e = .returned (.string (kB l)) ∧ Only [] w w' := by
  obtain ⟨a, cap, rfl, hI⟩ := h.ints
  obtain ⟨i0, hi, hz0, hz1, hz2⟩ := info_parts Tryz.infoByte
  go_enter Tryz.func158, Tryz.ntmps158
  go_wp2_with (at_make; refine wpList_make_full _ rfl _ _ 209 rfl w.heap.size 5 i0 _ 1 Tryz.underlying209 hi hz0 hz1 _ _ _ _ l.length rfl rfl rfl rfl (by rw [hz2]; omega) (by unfold maxLen; omega) (Nat.le_refl _) ?_; intro w1 hown hg)
  rw [madeBytes, Nat.mul_one] at hown
  go_loopw [11] (fun i wr => ∃ j : Nat, j ≤ l.length ∧ i = .int .i64 j ∧
      wr.ownsRow w.heap.size 5 1 (.slice (some ⟨w.heap.size, 0, none⟩) l.length l.length) l.length ((l.take j).map (fun x => Value.int .u8 (x % 256)) ++ List.replicate (l.length - j) (.int .u8 0)) ∧ Only [] w wr)
    (fun i _ => l.length - (intOf i).toNat)
  case atStart => exact ⟨0, Nat.zero_le _, rfl, by simpa using hown, (Only.refl _ _).grown hg (by simp)⟩
  case round =>
    obtain ⟨j, hj, rfl, hO, hK⟩ := hrel
    by_cases hlt : j < l.length
    · obtain ⟨b, off, rfl, -, hc0⟩ := hI.at_ j hlt
      have hc := hK.cell (by simp) hc0
      have hO2 := (hO.stored j (.int .u8 (l[j] % 256))).1
      rw [step_bytes l j hlt] at hO2
      obtain ⟨z2, hc2⟩ : ∃ z, wr.cell? ⟨w.heap.size, j, none⟩ = some z := by
        rw [hO.cellAt j (by omega)]
        exact ⟨_, List.getElem?_eq_getElem (by simp; omega)⟩
      have hf2 := hO.frozenAt j
      have hK2 := hK.setCell (p := ⟨w.heap.size, j, none⟩) (by simp) (.int .u8 (l[j] % 256))
      have HO := Lib.hid hO2
      clear hO hO2 hown hc0
      go_wp2
      go_roundw
      case rel => exact ⟨j + 1, by omega, by go_num, HO.out, hK2⟩
      case measure => simp [intOf]; omega
    · have hjl : j = l.length := by omega
      rw [hjl] at hO
      simp only [Nat.sub_self, List.replicate_zero, List.append_nil, List.take_length] at hO
      have hcv := run_convert_bytes_arg (P := Tryz.prog) wr 209 5 Tryz.underlying209 Tryz.underlying5 w.heap.size 0 l.length l.length (l.map fun x => x % 256) (by simp) (fun i hi => by
        rw [Nat.zero_add, hO.cellAt i (by omega)]
        simp [hi]) 9 Tryz.underlying9
      have hKB : strOfNums (l.map fun x => x % 256) = kB l := rfl
      rw [hKB] at hcv
      clear hjl hO hown hKB
      go_wp2
      go_ret
      exact ⟨rfl, hK⟩
end Go.Proofs.YtlcoejncdbkhcaaGreat

namespace Go.Proofs.YtlcoejncdbkhcaaGreat
open Go.RowKit
set_option maxRecDepth 10000
open Go.Maps (Keyed)

theorem Tryz.zeroBool (w : World) : (zeroValue 4).run Tryz.prog w = .ok (.bool false) w := by kernel_rfl
theorem plainElem_bool_inv {P : Program} {e : TypeId} {H : Type} (he : P.underlying e = some .bool) {v : Value} {z : DataW H × List MemPlace} (h : plainElem P e v = some z) : ∃ a, v = .bool a ∧ z = (.lit (.bool a), []) := by
  unfold plainElem at h
  rw [he] at h
  cases v <;> simp at h
  obtain rfl := h
  exact ⟨_, rfl, rfl⟩
/-- block M is a map of at most k entries; g: the truth value at a key -/
def MpB (w : World) (M k : Nat) (g : ByteArray → Bool) : Prop :=
  ∃ D : DataW Unit, w.ownsMap Tryz.prog 9 (plainElem Tryz.prog 4) M k D ∧ ∀ s : ByteArray, s.size ≤ maxLen →
    D.atKey (.string s.data.toList) (.lit (.bool false)) = .lit (.bool (g s))
theorem MpB.lt {w : World} {M k : Nat} {g : ByteArray → Bool} (h : MpB w M k g) : M < w.heap.size := by
  obtain ⟨D, h1, -⟩ := h; exact h1.lt
theorem MpB.frame {w w' : World} {M k : Nat} {g : ByteArray → Bool} (h : MpB w M k g) (hf : w'.heap[M]? = w.heap[M]?) : MpB w' M k g := by
  obtain ⟨D, ⟨es, c, h1, h2⟩, h3⟩ := h
  exact ⟨D, ⟨es, c, by rw [hf]; exact h1, h2⟩, h3⟩
theorem MpB.only {w w' : World} {fp : List Nat} {M k : Nat} {g : ByteArray → Bool} (h : MpB w M k g) (ho : Only fp w w') (hn : M ∉ fp) : MpB w' M k g := h.frame (ho.block M h.lt hn)
theorem MpB.keep {w w' : World} {M k : Nat} {g : ByteArray → Bool} (h : MpB w M k g) (ho : Only [] w w') : MpB w' M k g := h.only ho (by simp)
theorem MpB.made (w : World) {M : Nat} (hM : M = w.heap.size) : MpB (w.alloc (.map #[] 0)) M 0 (fun _ => false) := by
  subst hM
  exact ⟨.map [], World.ownsMap_made _ _ _ _, fun s _ => rfl⟩
theorem MpB.congr {w : World} {M k : Nat} {g g' : ByteArray → Bool} (h : MpB w M k g) (hg : ∀ s, g s = g' s) : MpB w M k g' := by
  have : g = g' := funext hg
  rw [← this]; exact h
section
variable {w : World} {M k : Nat} {g : ByteArray → Bool}
/-- m[k] -/
theorem MpB.run_at (h : MpB w M k g) {s : ByteArray} (hs : s.size ≤ maxLen) : (Instr.lookup 86 (.map (some M)) (.string s) false).run Tryz.prog w = .ok (.bool (g s)) w := by
  obtain ⟨D, hown, hg⟩ := h
  obtain ⟨v, ps, hrun, hv⟩ := hown.lookup Tryz.lawStr Tryz.underlying86 (Tryz.zeroBool w) (plainElem_bool Tryz.underlying4 false) (Go.WideMaps.keyOf_string_mk Tryz.underlying9 hs)
  obtain ⟨c, rfl, hc⟩ := plainElem_bool_inv Tryz.underlying4 hv
  have hc1 := congrArg Prod.fst hc
  simp only at hc1
  rw [hg s hs] at hc1
  injection hc1 with hc1; injection hc1 with hc1
  rw [hrun, hc1]
/-- m[k] = v -/
theorem MpB.run_put (h : MpB w M k g) {s : ByteArray} (hs : s.size ≤ maxLen) (b : Bool) (hk : k < maxLen) :
    ∃ w', (Instr.mapUpdate 86 (.map (some M)) (.string s) (.bool b)).run Tryz.prog w = .ok () w' ∧ MpB w' M (k + 1) (fun s' => if s' = s then b else g s') ∧ Only [M] w w' := by
  obtain ⟨D, hown, hg⟩ := h
  obtain ⟨w', hrun, r1, r2⟩ := hown.store Tryz.lawStr Tryz.underlying86 hk (Go.WideMaps.keyOf_string_mk Tryz.underlying9 hs) (plainElem_bool Tryz.underlying4 b)
  have hmap := hown.isMap
  refine ⟨w', hrun, ⟨_, r1, fun s' hs' => ?_⟩, ?_⟩
  · by_cases he : s' = s
    · subst he
      have hkl : WideAt.IsKeyLit (Lit.string s'.data.toList) := trivial
      rw [Go.Maps.atKey_put_same hmap hkl]; simp
    · have hne : (Lit.string s'.data.toList) ≠ .string s.data.toList := by
        intro e; injection e with e
        apply he
        have : s'.data = s.data := Array.toList_inj.1 e
        cases s'; cases s; simp at this; rw [this]
      rw [Go.Maps.atKey_put_other hne]; simp [he]; exact hg s' hs'
  · exact (Only.refl _ _).grown r2.grown (by intro j hj _; injection hj with hj; subst hj; simp)
end
end Go.Proofs.YtlcoejncdbkhcaaGreat

namespace Go.Proofs.YtlcoejncdbkhcaaGreat
open Go.RowKit
set_option maxRecDepth 10000

/-- a literal of one element, to which a loop appends -/
theorem Acc.one {α : Type} [Rp α] {w : World} (B : Nat) (e : TypeId) {cs : List Value} {x : α} {fp : List Nat} (h : Rp.rep w cs x fp) {g : Nat} (hg : g = w.heap.size) (hB : B ≤ g) : Acc B e (w.alloc (.cells cs.toArray e)) (.slice (some ⟨g, 0, none⟩) 1 1) [x] [fp] := by
  subst hg
  have hk : Only [] w (w.alloc (.cells cs.toArray e)) := (Only.refl _ _).alloc _
  refine ⟨⟨[cs], ⟨by simp [Rp.len h], .inr ⟨w.heap.size, 1, cs.toArray, rfl, hB, heap_alloc_new w _, Nat.le_refl _, by unfold maxLen; omega, by simp [Rp.len h], by simpa using List.take_of_length_le (Nat.le_of_eq (Rp.len h))⟩⟩, rfl, fun k h1 h2 h3 => ?_⟩, rfl, ?_⟩
  · have : k = 0 := by simpa using h1
    subst this
    exact Rp.keep h hk
  · intro g hg hm
    simp only [Value.ownBlock, Option.some.injEq] at hg
    subst hg
    have := Rp.lt h _ (by simpa using hm)
    omega
section
variable {P : Program} {α : Type} [Rp α] {ops : Array Oper} {rest : List Oper} {o : Oper} {a : Act} {w : World} {Q : Exit → Act → World → Prop}
theorem wpList_push2w (hgd : o.guard = none) (s x : Operand) (t : TypeId)
    (ho : o.op = .call { callee := .builtin .append, args := #[s, x], argTypes := #[t, t] })
    (B : Nat) (e : TypeId) (i : TypeInfo) (z : Value) (bytes : Nat) (ht : P.underlying t = some (.slice e)) (hi : P.info? e = some i) (hz : i.zero = some z)
    (hsize : i.size = Rp.size α) (hby : i.bytes = bytes) (hzs : z.cells.size = Rp.size α) (hsz : 0 < Rp.size α) (hbb : bytes ≤ 65536)
    (w0 : World) (v : Value) (l : List α) (fs : List (List Nat)) (hs : a.eval s = v) (hA : Acc B e w0 v l fs) (hK0 : Only [] w0 w) (hB : B ≤ w0.heap.size)
    (g c : Nat) (cs : List Value) (y : α) (fp : List Nat) (hx : a.eval x = .slice (some ⟨g, 0, none⟩) 1 c) (hsrc : ∀ j u, cs[j]? = some u → w.cell? ⟨g, j, none⟩ = some u) (hcs : ∀ u ∈ cs, u.oneCell' = true)
    (hy : Rp.rep w cs y fp) (hap : ∀ b ∈ fp, v.ownBlock ≠ some b) (hlen : l.length + 1 ≤ 1073741824)
    (h : ∀ v' w', Acc B e w' v' (l ++ [y]) (fs ++ [fp]) → Only v.ownBlock.toList w w' → (∀ wz, Only [] wz w → wz.heap.size ≤ B → Only [] wz w') →
      (Fresh B w0 fs.flatten → Fresh w0.heap.size w fp → Fresh B w' (fs ++ [fp]).flatten) → (v'.ownBlock = v.ownBlock ∨ v'.ownBlock = some w.heap.size) → wpList P ops Q rest (a.put o.dst v') w') : wpList P ops Q (o :: rest) a w :=
  wpList_plain hgd fun _ hK => wp_push2 s x t ho B e i z bytes ht hi hz hsize hby hzs hsz hbb w0 v l fs hs hA hK0 hB g c cs y fp hx hsrc hcs hy hap hlen fun v' w' h1 h2 h3 h4 h5 => hK _ _ (h v' w' h1 h2 h3 h4 h5)
end
theorem kB_inj_pat {n : Int} {m : Nat} {p q : List Int} (hn : n ≤ 256) (hp : patB n m p = true) (hq : patB n m q = true) : kB p = kB q ↔ p = q :=
  kB_eq (fun x hx => by have := (patB_iff.1 hp).2.1 x hx; omega) (fun x hx => by have := (patB_iff.1 hq).2.1 x hx; omega)
/-- which keys are met -/
def metB (L : List (List Int)) (s : ByteArray) : Bool := L.any fun q => decide (kB q = s)
theorem metB_snoc (L : List (List Int)) (q : List Int) (s : ByteArray) : (if s = kB q then true else metB L s) = metB (L ++ [q]) s := by
  unfold metB
  rw [List.any_append]
  by_cases h : s = kB q
  · subst h; simp
  · have h' : ¬ kB q = s := fun e => h e.symm
    simp [h, h']
theorem metB_mem {n : Int} {m : Nat} {L : List (List Int)} {q : List Int} (hn : n ≤ 256) (hL : ∀ p ∈ L, patB n m p = true) (hq : patB n m q = true) : metB L (kB q) = decide (q ∈ L) := by
  unfold metB
  rw [Bool.eq_iff_iff, List.any_eq_true]
  simp only [decide_eq_true_eq]
  constructor
  · rintro ⟨p, h1, h2⟩
    rw [(kB_inj_pat hn (hL p h1) hq).1 h2] at h1
    exact h1
  · intro h; exact ⟨q, h, rfl⟩
/-- the program's search under way: lo: the call's begin; m1, W: begin and end of the making of the moves -/
structure PBf (x : Puzzle) (m : Nat) (w : World) (m1 : Nat) (W : World) (M : Nat) (L : List (List Int)) (D : List Int) (wr : World) (v1 v2 : Value) (fs fd : List (List Nat)) : Prop where
  acc : Acc w.heap.size 25 wr v1 L fs
  dep : Acc w.heap.size 2 wr v2 D fd
  fr : Fresh w.heap.size wr fs.flatten
  mp : MpB wr M L.length (metB L)
  dl : D.length = L.length
  ll : L.length ≤ 3000
  pat : ∀ q ∈ L, patB x.points m q = true
  rng : ∀ d ∈ D, 0 ≤ d ∧ d ≤ D.length
  a2 : ∀ g, v2.ownBlock = some g → v1.ownBlock ≠ some g ∧ g ∉ fs.flatten ∧ g ≠ M
  a1 : v1.ownBlock ≠ some M ∧ M ∉ fs.flatten
  zone : ∀ g, (g = M ∨ v1.ownBlock = some g ∨ v2.ownBlock = some g) → (w.heap.size ≤ g ∧ g < m1) ∨ W.heap.size ≤ g
  keep : ∀ g, (g < w.heap.size ∨ (m1 ≤ g ∧ g < W.heap.size)) → wr.heap[g]? = W.heap[g]?
  on : Only [] w wr
  sz : W.heap.size ≤ wr.heap.size
  mw : w.heap.size ≤ m1 ∧ m1 ≤ W.heap.size
section
variable {x : Puzzle} {m : Nat} {w : World} {m1 : Nat} {W : World} {M : Nat} {L : List (List Int)} {D : List Int} {wr : World} {v1 v2 : Value} {fs fd : List (List Nat)}
theorem PBf.only {wr' : World} (h : PBf x m w m1 W M L D wr v1 v2 fs fd) (ho : Only [] wr wr') : PBf x m w m1 W M L D wr' v1 v2 fs fd :=
  ⟨h.acc.keep ho, h.dep.keep ho, h.fr.keep ho, h.mp.keep ho, h.dl, h.ll, h.pat, h.rng, h.a2, h.a1, h.zone, fun g hg => by
    have hz := h.sz; have hw := h.mw
    rw [ho.block g (by omega) (by simp)]; exact h.keep g hg, h.on.trans ho, Nat.le_trans h.sz ho.size, h.mw⟩
/-- from a world on, in which all the search's memory lies already -/
theorem PBf.start {W5 : World} (h : PBf x m w m1 W M L D wr v1 v2 fs fd) (ho : Only [] wr W5) : PBf x m w wr.heap.size W5 M L D W5 v1 v2 fs fd := by
  have hw := h.mw; have hz := h.sz
  refine ⟨h.acc.keep ho, h.dep.keep ho, h.fr.keep ho, h.mp.keep ho, h.dl, h.ll, h.pat, h.rng, h.a2, h.a1, fun g hg => .inl ?_, fun g _ => rfl, h.on.trans ho, Nat.le_refl _, by omega, ho.size⟩
  have h1 := h.zone g hg
  refine ⟨by omega, ?_⟩
  rcases hg with rfl | hg | hg
  · exact h.mp.lt
  · exact (h.acc.ownlt g hg).2
  · exact (h.dep.ownlt g hg).2
theorem PBf.fd0 (h : PBf x m w m1 W M L D wr v1 v2 fs fd) : fd.flatten = [] := by
  obtain ⟨css, ho, hcl, hr⟩ := h.dep.own
  have hl := h.dep.fl
  have : fd = List.replicate fd.length [] := by
    apply List.ext_getElem (by simp)
    intro k h1 h2
    have := (hr k (by omega) (by omega) h1).2.2
    simpa using this
  rw [this]; exact flatten_nil _
/-- a new pattern is met: the map, the list, the depths -/
theorem PBf.step {wp wa wb wc wd : World} {v1' v2' : Value} {s : List Int} {d : Int} {f : List Nat}
    (h : PBf x m w m1 W M L D wr v1 v2 fs fd) (hL : L.length < 3000) (hp : patB x.points m s = true) (hd : 0 ≤ d ∧ d ≤ D.length + 1)
    (hm : MpB wp M (L.length + 1) (metB (L ++ [s]))) (ho : Only [M] wr wp)
    (ka : Only [] wp wa) (hA : Acc w.heap.size 25 wb v1' (L ++ [s]) (fs ++ [f])) (oA : Only v1.ownBlock.toList wa wb) (nA : v1'.ownBlock = v1.ownBlock ∨ v1'.ownBlock = some wa.heap.size) (hF : Fresh w.heap.size wb (fs ++ [f]).flatten) (hfM : M ∉ f) (hf2 : ∀ g ∈ f, wr.heap.size ≤ g ∨ v2.ownBlock ≠ some g)
    (kc : Only [] wb wc) (hD : Acc w.heap.size 2 wd v2' (D ++ [d]) (fd ++ [[]])) (oD : Only v2.ownBlock.toList wc wd) (nD : v2'.ownBlock = v2.ownBlock ∨ v2'.ownBlock = some wc.heap.size) :
    PBf x m w m1 W M (L ++ [s]) (D ++ [d]) wd v1' v2' (fs ++ [f]) (fd ++ [[]]) := by
  have s1 := ho.size; have s2 := ka.size; have s3 := oA.size; have s4 := kc.size; have s5 := oD.size
  have hz := h.sz; have hw := h.mw
  have hMl := h.mp.lt
  have l1 := h.acc.ownlt
  have l2 := h.dep.ownlt
  have hfl := h.fr.lt
  have hff : (fs ++ [f]).flatten = fs.flatten ++ f := by simp
  have hfs : ∀ g, v2.ownBlock = some g → g ∉ (fs ++ [f]).flatten := fun g hg hm => by
    rw [hff] at hm
    rcases List.mem_append.1 hm with hm | hm
    · exact (h.a2 g hg).2.1 hm
    · have := l2 g hg
      rcases hf2 g hm with h3 | h3
      · omega
      · exact h3 hg
  have hv12 : ∀ g, v2.ownBlock = some g → v1'.ownBlock ≠ some g := fun g hg he => by
    rcases nA with h3 | h3
    · exact (h.a2 g hg).1 (by rw [← h3]; exact he)
    · rw [h3] at he; injection he with he; have := l2 g hg; omega
  have hmM : ∀ g, v1.ownBlock = some g → g ≠ M := fun g hg e => h.a1.1 (by rw [hg, e])
  have hM1 : v1'.ownBlock ≠ some M := fun he => by
    rcases nA with h3 | h3
    · exact h.a1.1 (by rw [← h3]; exact he)
    · rw [h3] at he; injection he with he; omega
  have hM1' : M ∉ v1.ownBlock.toList := by simpa using h.a1.1
  have hM2' : M ∉ v2.ownBlock.toList := by simp; intro he; exact (h.a2 M he).2.2 rfl
  have hN : ∀ g, v1'.ownBlock = some g → v1.ownBlock = some g ∨ W.heap.size ≤ g := fun g hg => by
    rcases nA with h3 | h3
    · exact .inl (by rw [← h3]; exact hg)
    · rw [h3] at hg; injection hg with hg; right; omega
  have hN2 : ∀ g, v2'.ownBlock = some g → v2.ownBlock = some g ∨ wb.heap.size ≤ g := fun g hg => by
    rcases nD with h3 | h3
    · exact .inl (by rw [← h3]; exact hg)
    · rw [h3] at hg; injection hg with hg; right; omega
  have hko : Only (M :: (v1.ownBlock.toList ++ v2.ownBlock.toList)) wr wd :=
    ((((ho.mono (by simp)).keepThen ka).then_ oA (by intro b hb _; simp at hb ⊢; simp [hb])).keepThen kc).then_ oD (by intro b hb _; simp at hb ⊢; simp [hb])
  refine ⟨hA.only (kc.weaken _ |>.trans oD) (fun b hb hm => hfs b (by simpa using hm) hb) (fun g hg hm => hv12 g (by simpa using hm) hg), hD,
    hF.only (kc.weaken _ |>.trans oD) (fun b hb hm => hfs b (by simpa using hm) hb),
    by simpa using ((((hm.keep ka).only oA hM1').keep kc).only oD hM2'), by simp [h.dl], by simp; omega, ?_, ?_, ?_, ⟨hM1, ?_⟩, ?_, fun g hg => ?_, ?_, by omega, h.mw⟩
  · intro q hq
    rcases List.mem_append.1 hq with hq | hq
    · exact h.pat q hq
    · simp at hq; subst hq; exact hp
  · intro q hq
    rw [List.length_append, List.length_singleton]
    rcases List.mem_append.1 hq with hq | hq
    · have := h.rng q hq; omega
    · simp at hq; subst hq; omega
  · intro g hg
    rcases hN2 g hg with h3 | h3
    · exact ⟨hv12 g h3, hfs g h3, (h.a2 g h3).2.2⟩
    · refine ⟨fun he => ?_, fun hm => ?_, by omega⟩
      · have := (hA.ownlt g he).2; omega
      · have := hF.lt g hm; omega
  · rw [hff]; intro hm
    rcases List.mem_append.1 hm with hm | hm
    · exact h.a1.2 hm
    · exact hfM hm
  · rintro g (rfl | hg | hg)
    · exact h.zone _ (.inl rfl)
    · rcases hN g hg with h3 | h3
      · exact h.zone g (.inr (.inl h3))
      · exact .inr h3
    · rcases hN2 g hg with h3 | h3
      · exact h.zone g (.inr (.inr h3))
      · right; omega
  · rw [hko.block g (by omega) (fun hm => ?_)]
    · exact h.keep g hg
    · simp only [List.mem_cons, List.mem_append, Option.mem_toList] at hm
      have := h.zone g (by rcases hm with hm | hm | hm; exact .inl hm; exact .inr (.inl hm); exact .inr (.inr hm))
      omega
  · refine h.on.then_ hko (fun g hm hg => ?_)
    simp only [List.mem_cons, List.mem_append, Option.mem_toList] at hm
    have := h.zone g (by rcases hm with hm | hm | hm; exact .inl hm; exact .inr (.inl hm); exact .inr (.inr hm))
    omega
/-- what the search hands back -/
theorem PBf.out (h : PBf x m w m1 W M L D wr v1 v2 fs fd) : Rd wr v1 L (v1.ownBlock.toList ++ fs.flatten) ∧ Rd wr v2 D v2.ownBlock.toList ∧ Fresh w.heap.size wr ((v1.ownBlock.toList ++ fs.flatten) ++ v2.ownBlock.toList) := by
  have h0 := h.fd0
  have h2 := h.dep.rd (by decide)
  rw [h0, List.append_nil] at h2
  have hf1 := h.acc.fresh h.fr
  have hf2 := h.dep.fresh (by rw [h0]; exact Fresh.nil _ _)
  rw [h0, List.append_nil] at hf2
  refine ⟨h.acc.rd (by decide), h2, List.nodup_append.2 ⟨hf1.nd, hf2.nd, fun a ha b hb e => ?_⟩, fun b hb => ?_, hf1.own.append hf2.own⟩
  · subst e
    have hb' : v2.ownBlock = some a := by simpa using hb
    rcases List.mem_append.1 ha with ha | ha
    · exact (h.a2 a hb').1 (by simpa using ha)
    · exact (h.a2 a hb').2.1 ha
  · rcases List.mem_append.1 hb with hb | hb
    · exact hf1.ge b hb
    · exact hf2.ge b hb
theorem PBf.old (h : PBf x m w m1 W M L D wr v1 v2 fs fd) {β : Type} [Rp β] {cs : List Value} {y : β} {fp : List Nat} (hr : Rp.rep W cs y fp) (hf : ∀ g ∈ fp, g < w.heap.size ∨ (m1 ≤ g ∧ g < W.heap.size)) : Rp.rep wr cs y fp :=
  Rp.frame hr fun g hg => h.keep g (hf g hg)
end
end Go.Proofs.YtlcoejncdbkhcaaGreat

namespace Go.Proofs.YtlcoejncdbkhcaaGreat
open Go.RowKit
set_option maxRecDepth 10000

set_option maxHeartbeats 8000000 in
theorem patterns_any (cs : List Value) (x : Puzzle) (fp : List Nat) (v : Value) (tr : List Int) (ft : List Nat) (w : World) (h : Rp.rep w cs x fp) (hv : Rd w v tr ft) (hx : validPz x = true) (hp : patB x.points tr.length tr = true) (htl : tr.length ≤ 1000) :
    Calls Tryz.prog 184 #[.agg cs.toArray, v] w fun e w' => ∃ u1 u2 f1 f2, e = .returned (.tuple #[u1, u2, .bool (bFrom x 3001 0 ([tr], [0])).isSome]) ∧
      Rd w' u1 ((bFrom x 3001 0 ([tr], [0])).getD ([], [])).1 f1 ∧ Rd w' u2 ((bFrom x 3001 0 ([tr], [0])).getD ([], [])).2 f2 ∧ Fresh w.heap.size w' (f1 ++ f2) ∧ Only [] w w' := by
  have h0 := h
  obtain ⟨v2, rfl, p0, p1, h2⟩ := h
  obtain ⟨A2, C2, _, _, rfl, -, -⟩ := h2.open_
  obtain ⟨a, cap, rfl, Iv⟩ := hv.ints
  obtain ⟨g1, g2, g3, g4⟩ := validPz_facts hx
  clear Iv p0 p1
  have Hp := Lib.hid hp
  have Hx := Lib.hid hx
  clear hp hx
  have X0 : Blk (w.alloc (.cells #[.int .i64 x.points, .string x.names, .slice A2 x.moves.length C2] 37)) w.heap.size [.int .i64 x.points, .string x.names, .slice A2 x.moves.length C2] := Blk.new w _ _
  obtain ⟨R, hR⟩ : ∃ R, R = bFrom x 3001 0 ([tr], [0]) := ⟨_, rfl⟩
  rw [← hR]
  have HR := Lib.hid hR
  clear hR
  have hmm := @run_makeMap Tryz.prog
  go_enter Tryz.func184, Tryz.ntmps184
  have hkl : (kB tr).size ≤ maxLen := by rw [kB_size]; unfold maxLen; omega
  go_upto_region 3 with (first
    | (go_at_call 129; (with_reducible refine (Clone_rd _ tr _ _ (Rp.keep hv (by with_reducible repeat (first | exact Only.refl _ _ | assumption | refine Only.drewN ?_ _ | refine Only.drew ?_ | refine Only.alloc ?_ _ | refine Only.setCell ?_ (by intro hh; exfalso; simp at hh; try omega) _ | refine Only.trans ?_ (by assumption)))) (by omega)).mono ?_); rintro e w1 ⟨u1, f1, rfl, r1, F1, t1⟩; obtain ⟨a1, c1, rfl, I1⟩ := r1.ints; clear I1; have hz1 := t1.size; simp at hz1; have hM := MpB.made ((w1.alloc (.cells #[.slice a1 tr.length c1] 25)).alloc (.cells #[.int .i64 0] 2)) (M := w1.heap.size + 1 + 1) (by simp))
    | (go_at_call 158; (with_reducible refine (stateKey_rd _ tr _ _ (Rp.keep hv (by with_reducible repeat (first | exact Only.refl _ _ | assumption | refine Only.drewN ?_ _ | refine Only.drew ?_ | refine Only.alloc ?_ _ | refine Only.setCell ?_ (by intro hh; exfalso; simp at hh; try omega) _ | refine Only.trans ?_ (by assumption)))) htl).mono ?_); rintro e w2 ⟨rfl, t2⟩; obtain ⟨w3, hrun3, hM3, hO3⟩ := (hM.keep t2).run_put hkl true (by unfold maxLen; omega))
    | fail "no arm")
  have X3 : Blk w3 w.heap.size [.int .i64 x.points, .string x.names, .slice A2 x.moves.length C2] := (((((X0.keep t1).keep ((Only.refl [] _).alloc _)).keep ((Only.refl [] _).alloc _)).keep ((Only.refl [] _).alloc _)).keep t2).only hO3 (by simp; omega)
  have K2 : Only [] w w2 := (by with_reducible repeat (first | exact Only.refl _ _ | assumption | refine Only.drewN ?_ _ | refine Only.drew ?_ | refine Only.alloc ?_ _ | refine Only.setCell ?_ (by intro hh; exfalso; simp at hh; try omega) _ | refine Only.trans ?_ (by assumption)))
  have K3 : Only [] w w3 := K2.then_ hO3 (by intro b hb hl; simp at hb; omega)
  have hz2 := t2.size
  simp at hz2
  have hz3 := hO3.size
  have hf1 : ∀ g ∈ f1, w.heap.size < g ∧ g < w1.heap.size := fun g hg => ⟨by have := F1.ge g hg; simp at this; omega, F1.lt g hg⟩
  have kk : Only [] (w1.alloc (.cells #[.slice a1 tr.length c1] 25)) w2 := ((((Only.refl [] _).alloc _).alloc _)).trans t2
  have kk2 : Only [] ((w1.alloc (.cells #[.slice a1 tr.length c1] 25)).alloc (.cells #[.int .i64 0] 2)) w2 := ((Only.refl [] _).alloc _).trans t2
  have P0 : ∀ W : World, W = w3 → PBf x tr.length w w3.heap.size w3 (w1.heap.size + 1 + 1) [tr] [0] W (.slice (some ⟨w1.heap.size, 0, none⟩) 1 1) (.slice (some ⟨w1.heap.size + 1, 0, none⟩) 1 1) [f1] [[]] := by
    rintro W rfl
    have hA1 := ((Acc.one w.heap.size 25 (cs := [.slice a1 tr.length c1]) r1 rfl (by omega)).keep kk)
    have hA2 := ((Acc.one (α := Int) (w := w1.alloc (.cells #[.slice a1 tr.length c1] 25)) w.heap.size 2 (cs := [.int .i64 0]) (x := (0 : Int)) (fp := []) (int_rd _ (by unfold I64; omega)) (g := w1.heap.size + 1) (by simp) (by omega)).keep kk2)
    have hFr : Fresh w.heap.size w2 [f1].flatten := by
      have := (F1.mono (B' := w.heap.size) (by simp)).keep (((Only.refl [] w1).alloc (.cells #[.slice a1 tr.length c1] 25)).trans kk)
      simpa using this
    refine ⟨hA1.only hO3 (fun b hb hm => ?_) (fun g hg hm => ?_), hA2.only hO3 (fun b hb hm => by simp at hb) (fun g hg hm => ?_), hFr.only hO3 (fun b hb hm => ?_), ?_, rfl, by simp, by simpa using Hp.out, by simp, ?_, ⟨by simp [Value.ownBlock]; omega, ?_⟩, ?_, fun _ _ => rfl, K3, Nat.le_refl _, by omega, Nat.le_refl _⟩
    · have := hf1 b (by simpa using hb); simp at hm; omega
    · simp [Value.ownBlock] at hg; simp at hm; omega
    · simp [Value.ownBlock] at hg; simp at hm; omega
    · have := hf1 b (by simpa using hb); simp at hm; omega
    · exact hM3.congr fun s => by rw [show (if s = kB tr then true else false) = (if s = kB tr then true else metB [] s) from rfl, metB_snoc, List.nil_append]
    · intro g hg
      simp only [Value.ownBlock, Option.some.injEq] at hg
      subst hg
      refine ⟨by simp [Value.ownBlock], fun hm => ?_, by omega⟩
      have := hf1 _ (by simpa using hm); omega
    · intro hm
      have := hf1 _ (by simpa using hm); omega
    · rintro g (rfl | hg | hg)
      · omega
      · simp [Value.ownBlock] at hg; omega
      · simp [Value.ownBlock] at hg; omega
  obtain ⟨b1, hb1⟩ : ∃ b1, b1 = w1.heap.size := ⟨_, rfl⟩
  rw [← hb1] at P0 hM3 ⊢
  clear kk kk2 hz2 hz1 hf1 r1 F1 t1 t2 hM hO3 hM3 X0 hb1 K2 hrun3
  have hll : (ltrs x.moves.length).length ≤ 1000 := by rw [ltrs_len]; omega
  have hmv : ∀ g ∈ x.moves, PM.IsP g ∧ g.length ≤ 1000 := fun g hg => by have := g4 g hg; have := (permB_iff.1 this.2); exact ⟨this.2, by omega⟩
  have x0 := X3.cell 2 rfl
  go_upto_region 5 with (first
    | (go_at_call 202; (with_reducible refine (letters_any x.moves.length _ (by omega)).mono ?_); rintro e w4 ⟨u4, f4, rfl, r4, F4, t4⟩; obtain ⟨a4, c4, rfl, I4⟩ := r4.ints)
    | fail "no arm")
  have K4 : Only [] w w4 := K3.trans t4
  have X4 := X3.keep t4
  obtain ⟨ls, hls⟩ : ∃ ls, ls = ltrs x.moves.length := ⟨_, rfl⟩
  rw [← hls] at r4 I4 hll
  rw [← hls]
  have Hls := Lib.hid hls
  have hml : x.moves.length ≤ 1000 := by omega
  obtain ⟨iL, hiL, hL0, hL1, hL2⟩ := info_parts Tryz.info22
  obtain ⟨iD, hiD, hD0, hD1, hD2⟩ := info_parts Tryz.info2
  clear hls x0
  go_loopw [10, 31] (fun o i wr => ∃ (j : Nat) (fs : List (List Nat)), j ≤ ls.length ∧ i = .int .i64 j ∧ Acc w4.heap.size 25 wr o ((ls.take j).map (mv x.moves)) fs ∧ (∀ b ∈ fs.flatten, b < w.heap.size ∨ w4.heap.size ≤ b) ∧ Only [] w4 wr)
    (fun _ i _ => ls.length - (intOf i).toNat)
  case atStart => exact ⟨0, [], Nat.zero_le _, rfl, Acc.nil _ _ _, by simp, Only.refl _ _⟩
  case round =>
    obtain ⟨W2, hnew⟩ : ∃ W, W = wr := ⟨_, rfl⟩
    subst hnew
    obtain ⟨j, fs, hj, rfl, hA, hF, hK⟩ := hrel
    by_cases hlt : j < ls.length
    · obtain ⟨b, off, rfl, -, hc0⟩ := I4.at_ j hlt
      have hc := hK.cell (by simp) hc0
      have hlj : ls[j] ∈ ltrs x.moves.length := by rw [← Hls.out]; exact List.getElem_mem hlt
      have Hlj := Lib.hid hlj
      have x0 := (X4.keep hK).cell 2 rfl
      have hh2 := Rp.keep h2 (K4.trans hK)
      have hsn : (ls.take (j + 1)).map (mv x.moves) = (ls.take j).map (mv x.moves) ++ [mv x.moves ls[j]] := by rw [take_succ_get ls j hlt, List.map_append]; rfl
      have Hsn := Lib.hid hsn
      have hzK := hK.size
      have hzw := K4.size
      clear hlj hsn hc0
      have hal : ((ls.take j).map (mv x.moves)).length + 1 ≤ 1073741824 := by simp; omega
      go_wp2_with (first
        | (go_at_call 203; (with_reducible refine (letterOf_rd (.slice A2 x.moves.length C2) x.moves ls[j] _ _ (Rp.keep hh2 (by with_reducible repeat (first | exact Only.refl _ _ | assumption | refine Only.drewN ?_ _ | refine Only.drew ?_ | refine Only.alloc ?_ _ | refine Only.setCell ?_ (by intro hh; exfalso; simp at hh; try omega) _ | refine Only.trans ?_ (by assumption)))) hmv Hlj.out hml).mono ?_); rintro e w5 ⟨u5, f5, rfl, r5, F5, t5⟩; obtain ⟨a5, c5, rfl, I5⟩ := r5.ints; clear I5; have hB5 : w4.heap.size ≤ W2.heap.size := hzK; have hf5 : ∀ b ∈ f5, b < w.heap.size ∨ W2.heap.size ≤ b := (fun b hb => (F5 b hb).imp (fun hm => Rp.lt h2 b hm) id); have hr5 := Rp.keep r5 ((Only.refl [] w5).alloc (.cells #[.slice a5 (mv x.moves ls[j]).length c5] 25)); have hapb : ∀ b ∈ f5, u10.ownBlock ≠ some b := (fun b hb he => by have := hA.ownlt b he; rcases hf5 b hb with h9 | h9 <;> omega))
        | (at_builtin; refine wpList_push2w rfl _ _ 22 rfl w4.heap.size 25 iL _ 24 Tryz.underlying22 hiL hL0 hL1 hL2 rfl (by decide) (by decide) W2 _ ((ls.take j).map (mv x.moves)) fs rfl hA (t5.alloc _) hB5 w5.heap.size 1 [.slice a5 (mv x.moves ls[j]).length c5] (mv x.moves ls[j]) f5 rfl (lit_src w5 [.slice a5 (mv x.moves ls[j]).length c5] _ rfl) (by intro u hu; simp at hu; subst hu; rfl) hr5 hapb hal ?_; intro v9 w9 hA9 hO9 hP9 hQ9 hN9)
        | fail "no arm")
      go_roundw
      case rel => exact ⟨j + 1, _, by omega, by go_num, by rw [Hsn.out]; exact hA9, fun b hb => by
        rw [List.flatten_append] at hb
        rcases List.mem_append.1 hb with hb | hb
        · exact hF b hb
        · exact (hf5 b (by simpa using hb)).imp id (fun h9 => by omega), hP9 w4 ((hK.trans t5).alloc _) (Nat.le_refl _)⟩
      case measure => simp [intOf]; omega
    · obtain rfl : j = ls.length := by omega
      rw [List.take_length] at hA
      obtain ⟨mvs, hmvs⟩ : ∃ mvs, mvs = ls.map (mv x.moves) := ⟨_, rfl⟩
      rw [← hmvs] at hA
      have Hmvs := Lib.hid hmvs
      have hml2 : mvs.length = ls.length := by rw [hmvs, List.length_map]
      have hm1 : mvs.length ≤ 1000 := by omega
      have Hml2 := Lib.hid hml2
      have hMr := hA.rd (by decide)
      have hMf : ∀ g ∈ u10.ownBlock.toList ++ fs.flatten, g < w.heap.size ∨ (w3.heap.size ≤ g ∧ g < W2.heap.size) := fun g hg => by
        have hz5 := t4.size
        rcases List.mem_append.1 hg with hg | hg
        · have := hA.ownlt g (by simpa using hg); omega
        · have h8 := hA.lt g hg
          rcases hF g hg with h9 | h9
          · exact .inl h9
          · omega
      have P5 := (P0 w3 rfl).start (t4.trans hK)
      obtain ⟨a10, c10, rfl⟩ := hA.form
      obtain ⟨fm, hfm⟩ : ∃ fm, fm = (Value.slice a10 mvs.length c10).ownBlock.toList ++ fs.flatten := ⟨_, rfl⟩
      rw [← hfm] at hMr hMf
      have K5 := K4.trans hK
      clear hfm hA hF hK P0 hmvs hml2 hj hlt
      obtain ⟨W, hW⟩ : ∃ W, W = W2 := ⟨_, rfl⟩
      rw [← hW] at hMr hMf P5 K5 ⊢
      clear hW
      go_upto_region 10 with fail
      go_loopw [7, 8, 13] (fun o7 o8 i wr => ∃ (k : Nat) (L : List (List Int)) (D : List Int) (fs fd : List (List Nat)), i = .int .i64 k ∧ k ≤ L.length ∧ PBf x tr.length w w3.heap.size W (b1 + 1 + 1) L D wr o7 o8 fs fd ∧ R = bFrom x (3001 - k) k (L, D))
        (fun _ _ i _ => 3001 - (intOf i).toNat)
      case atStart => exact ⟨0, [tr], [0], _, _, rfl, by simp, P5, HR.out⟩
      case round =>
        obtain ⟨W3, hnew⟩ : ∃ W, W = wr := ⟨_, rfl⟩
        subst hnew
        obtain ⟨k, L, D, fs, fd, rfl, hk, hF, hRk⟩ := hrel
        have HRk := Lib.hid hRk
        have hL3 := hF.ll
        clear hRk
        obtain ⟨a7, c7, rfl⟩ := hF.acc.form
        by_cases hlt : k < L.length
        · have hst := HRk.out.trans (bFrom_step hlt hL3)
          rw [← Hls.out] at hst
          have Hst := Lib.hid hst
          clear hst
          obtain ⟨q, hq⟩ : ∃ q, q = L.getD k [] := ⟨_, rfl⟩
          obtain ⟨d1, hd1⟩ : ∃ d, d = D.getD k 0 + 1 := ⟨_, rfl⟩
          rw [← hq, ← hd1] at Hst
          have Hq := Lib.hid hq.symm
          have Hd := Lib.hid hd1.symm
          clear hq hd1
          go_wp2
          go_loopw [7, 8, 51] (fun o7 o8 i wr => ∃ (i' : Nat) (L : List (List Int)) (D : List Int) (fs fd : List (List Nat)), i = .int .i64 i' ∧ i' ≤ mvs.length ∧ PBf x tr.length w w3.heap.size W (b1 + 1 + 1) L D wr o7 o8 fs fd ∧ k < L.length ∧ L.getD k [] = q ∧ D.getD k 0 + 1 = d1 ∧ R = (bLets x q d1 (ls.drop i') (L, D)).bind (bFrom x (3001 - (k + 1)) (k + 1)))
            (fun _ _ i _ => mvs.length - (intOf i).toNat)
          case atStart => exact ⟨0, L, D, fs, fd, rfl, Nat.zero_le _, hF, hlt, Hq.out, Hd.out, by rw [List.drop_zero]; exact Hst.out⟩
          case round =>
            clear hL3 hF HRk Hst Hq Hd hlt hk
            obtain ⟨W4, hnew⟩ : ∃ W, W = wr := ⟨_, rfl⟩
            subst hnew
            obtain ⟨i, L, D, fs, fd, rfl, hi, hF, hlt, hq, hd, hRi⟩ := hrel
            have Hq := Lib.hid hq
            have Hd := Lib.hid hd
            have HRi := Lib.hid hRi
            have hL3 := hF.ll
            have HDl := Lib.hid hF.dl
            clear hq hd hRi
            have hMo : Rd W4 (.slice a10 mvs.length c10) mvs fm := hF.old hMr hMf
            obtain ⟨a7', c7', rfl⟩ := hF.acc.form
            obtain ⟨a8, c8, rfl⟩ := hF.dep.form
            by_cases hil : i < mvs.length
            · have hq1 := hMo.open_
              obtain ⟨aq, cq, obq, fpq, hv1, -, hS1⟩ := hq1
              injection hv1 with e1 _ e2
              subst e1
              subst e2
              obtain ⟨bm, om, um, rfl, -, hcm, hum⟩ := hS1.atRow i hil
              have hq2 := (hF.acc.rd (by decide)).open_
              obtain ⟨aq, cq, obq, fpq, hv1, -, hS2⟩ := hq2
              injection hv1 with e1 _ e2
              subst e1
              subst e2
              obtain ⟨bl, ol, ul, rfl, -, hcl, hul⟩ := hS2.atRow k hlt
              have hil2 : i < ls.length := by have := Hml2.out; omega
              have hmi : mvs[i] = mv x.moves ls[i] := by simp [Hmvs.out]
              have hqk : L[k] = q := by have := Hq.out; rw [List.getD_eq_getElem?_getD, List.getElem?_eq_getElem hlt] at this; exact this
              have hla : ls[i] ∈ ltrs x.moves.length := by rw [← Hls.out]; exact List.getElem_mem hil2
              have hpat := hF.pat L[k] (List.getElem_mem hlt)
              rw [hqk] at hul hpat
              rw [hmi] at hum
              have hql : q.length ≤ 1000 := by rw [(patB_iff.1 hpat).1]; exact htl
              have hmp := mv_pn (validPz_pn Hx.out) hla
              have hrq : ∀ z ∈ q, 0 ≤ z ∧ z < (mv x.moves ls[i]).length := fun z hz => by have := (patB_iff.1 hpat).2.1 z hz; rw [hmp.1]; omega
              have hps : patB x.points tr.length (nxt x q ls[i]) = true := nxt_pat Hx.out hpat hla
              obtain ⟨s, hs⟩ : ∃ s, s = nxt x q ls[i] := ⟨_, rfl⟩
              rw [← hs] at hps
              have hsl : s.length ≤ 1000 := by rw [(patB_iff.1 hps).1]; exact htl
              have hkz : (kB s).size ≤ maxLen := by rw [kB_size]; unfold maxLen; omega
              have hmet : metB L (kB s) = decide (s ∈ L) := metB_mem (by omega) hF.pat hps
              have hdr : ls.drop i = ls[i] :: ls.drop (i + 1) := List.drop_eq_getElem_cons hil2
              have Hdr := Lib.hid hdr
              have Hs := Lib.hid hs
              have Hps := Lib.hid hps
              have Hrq := Lib.hid hrq
              have hcs : PM.comp q (mv x.moves ls[i]) = s := by rw [hs]; rfl
              have Hcs := Lib.hid hcs
              clear hs hps hdr hrq hcs hmi hqk hla hpat hmp
              by_cases hmem : s ∈ L
              · have hmt : metB L (kB s) = true := by rw [hmet]; simp [hmem]
                have Hmet := Lib.hid hmt
                have Hmem := Lib.hid hmem
                clear hmt hmet hmem
                go_wp2_with (first
                  | (go_at_call 157; (with_reducible refine (picked_rd um ul (mv x.moves ls[i]) q _ _ _ (Rp.keep hum (by with_reducible repeat (first | exact Only.refl _ _ | assumption | refine Only.drewN ?_ _ | refine Only.drew ?_ | refine Only.alloc ?_ _ | refine Only.setCell ?_ (by intro hh; exfalso; simp at hh; try omega) _ | refine Only.trans ?_ (by assumption)))) (Rp.keep hul (by with_reducible repeat (first | exact Only.refl _ _ | assumption | refine Only.drewN ?_ _ | refine Only.drew ?_ | refine Only.alloc ?_ _ | refine Only.setCell ?_ (by intro hh; exfalso; simp at hh; try omega) _ | refine Only.trans ?_ (by assumption)))) Hrq.out hql).mono ?_); rintro e w5 ⟨u5, f5, rfl, r5, F5, t5⟩; rw [Hcs.out] at r5)
                  | (go_at_call 158; (with_reducible refine (stateKey_rd u5 s _ _ (Rp.keep r5 (by with_reducible repeat (first | exact Only.refl _ _ | assumption | refine Only.drewN ?_ _ | refine Only.drew ?_ | refine Only.alloc ?_ _ | refine Only.setCell ?_ (by intro hh; exfalso; simp at hh; try omega) _ | refine Only.trans ?_ (by assumption)))) hsl).mono ?_); rintro e w6 ⟨rfl, t6⟩; have k6 : Only [] W4 w6 := t5.trans t6; have hrun6 := (hF.mp.keep k6).run_at hkz; rw [Hmet.out] at hrun6)
                  | fail "no arm")
                go_roundw
                case rel => exact ⟨i + 1, L, D, fs, fd, by go_num, by omega, hF.only k6, hlt, Hq.out, Hd.out, by rw [HRi.out, Hdr.out, bLets_old (by rw [← Hs.out]; exact Hmem.out)]⟩
                case measure => simp [intOf]; omega
              · have hmt : metB L (kB s) = false := by rw [hmet]; simp [hmem]
                have Hmet := Lib.hid hmt
                have Hmem := Lib.hid hmem
                clear hmt hmet hmem
                by_cases hfull : L.length = 3000
                · have Hfull := Lib.hid hfull
                  have hfb : ((L.length : Int) == 3000) = true := by simp [hfull]
                  have hno : R = none := by rw [HRi.out, Hdr.out, bLets_full (by rw [← Hs.out]; exact Hmem.out) hfull]; rfl
                  have Hno := Lib.hid hno
                  clear hfull hno
                  go_wp2_with (first
                    | (go_at_call 157; (with_reducible refine (picked_rd um ul (mv x.moves ls[i]) q _ _ _ (Rp.keep hum (by with_reducible repeat (first | exact Only.refl _ _ | assumption | refine Only.drewN ?_ _ | refine Only.drew ?_ | refine Only.alloc ?_ _ | refine Only.setCell ?_ (by intro hh; exfalso; simp at hh; try omega) _ | refine Only.trans ?_ (by assumption)))) (Rp.keep hul (by with_reducible repeat (first | exact Only.refl _ _ | assumption | refine Only.drewN ?_ _ | refine Only.drew ?_ | refine Only.alloc ?_ _ | refine Only.setCell ?_ (by intro hh; exfalso; simp at hh; try omega) _ | refine Only.trans ?_ (by assumption)))) Hrq.out hql).mono ?_); rintro e w5 ⟨u5, f5, rfl, r5, F5, t5⟩; rw [Hcs.out] at r5)
                    | (go_at_call 158; (with_reducible refine (stateKey_rd u5 s _ _ (Rp.keep r5 (by with_reducible repeat (first | exact Only.refl _ _ | assumption | refine Only.drewN ?_ _ | refine Only.drew ?_ | refine Only.alloc ?_ _ | refine Only.setCell ?_ (by intro hh; exfalso; simp at hh; try omega) _ | refine Only.trans ?_ (by assumption)))) hsl).mono ?_); rintro e w6 ⟨rfl, t6⟩; have k6 : Only [] W4 w6 := t5.trans t6; have hrun6 := (hF.mp.keep k6).run_at hkz; rw [Hmet.out] at hrun6)
                    | fail "no arm")
                  refine bodyPost_ret (v := .tuple #[.slice none 0 0, .slice none 0 0, .bool false]) (by simp [results, Tryz.results184, go_sem]) rfl ⟨.slice none 0 0, .slice none 0 0, [], [], by rw [Hno.out]; rfl, by rw [Hno.out]; exact nil_rd _, by rw [Hno.out]; exact nil_rd _, Fresh.nil _ _, hF.on.trans k6⟩
                · have hfb : ((L.length : Int) == 3000) = false := by simp; omega
                  have hL4 : L.length < 3000 := by omega
                  clear hfull
                  have hkD : k < D.length := by have := HDl.out; omega
                  have hq3 := (hF.dep.rd (by decide)).ints
                  obtain ⟨aq, cq, hv1, hI8⟩ := hq3
                  injection hv1 with e1 _ e2
                  subst e1
                  subst e2
                  obtain ⟨b8, o8, rfl, -, hcd⟩ := hI8.at_ k hkD
                  obtain ⟨dk, hdk0⟩ : ∃ dk, dk = D[k]'hkD := ⟨_, rfl⟩
                  have hdk := hF.rng (D[k]'hkD) (List.getElem_mem _)
                  rw [← hdk0] at hcd hdk
                  have hdd : dk + 1 = d1 := by
                    have := Hd.out
                    rw [List.getD_eq_getElem?_getD, List.getElem?_eq_getElem hkD] at this
                    rw [hdk0]; exact this
                  have Hdd := Lib.hid hdd
                  have hdk1 : 0 ≤ dk := hdk.1
                  have hdk2 : dk ≤ 3000 := by have := hdk.2; have := HDl.out; omega
                  have hdk3 := hdk.2
                  have Hdk3 := Lib.hid hdk3
                  have hw1 : IntKind.i64.wrap (dk + 1) = dk + 1 := by rw [IntKind.wrap_i64]; omega
                  have ha2 := hF.a2 b8 rfl
                  have hb8M : b8 ∉ [b1 + 1 + 1] := by simpa using ha2.2.2
                  have hb8l : b8 ∉ (Value.slice (some ⟨bl, ol, none⟩) L.length c7').ownBlock.toList := by have := ha2.1; simpa using this
                  have hM7 : b1 + 1 + 1 ∉ (Value.slice (some ⟨bl, ol, none⟩) L.length c7').ownBlock.toList := by have := hF.a1.1; simpa using this
                  clear hdk hdk0 hdd hdk3
                  have hll1 : L.length + 1 ≤ 1073741824 := by omega
                  have hld1 : D.length + 1 ≤ 1073741824 := by have := HDl.out; omega
                  have hBW : w.heap.size ≤ W4.heap.size := hF.on.size
                  have hMl := hF.mp.lt
                  have hI1 : I64 (dk + 1) := by unfold I64; omega
                  have HI1 := Lib.hid hI1
                  clear hI1
                  go_wp2_with (first
                    | (go_at_call 157; (with_reducible refine (picked_rd um ul (mv x.moves ls[i]) q _ _ _ (Rp.keep hum (by with_reducible repeat (first | exact Only.refl _ _ | assumption | refine Only.drewN ?_ _ | refine Only.drew ?_ | refine Only.alloc ?_ _ | refine Only.setCell ?_ (by intro hh; exfalso; simp at hh; try omega) _ | refine Only.trans ?_ (by assumption)))) (Rp.keep hul (by with_reducible repeat (first | exact Only.refl _ _ | assumption | refine Only.drewN ?_ _ | refine Only.drew ?_ | refine Only.alloc ?_ _ | refine Only.setCell ?_ (by intro hh; exfalso; simp at hh; try omega) _ | refine Only.trans ?_ (by assumption)))) Hrq.out hql).mono ?_); rintro e w5 ⟨u5, f5, rfl, r5, F5, t5⟩; rw [Hcs.out] at r5; obtain ⟨a5, c5, rfl, I5⟩ := r5.ints; clear I5)
                    | (go_at_call 158; (with_reducible refine (stateKey_rd (.slice a5 s.length c5) s _ _ (Rp.keep r5 (by with_reducible repeat (first | exact Only.refl _ _ | assumption | refine Only.drewN ?_ _ | refine Only.drew ?_ | refine Only.alloc ?_ _ | refine Only.setCell ?_ (by intro hh; exfalso; simp at hh; try omega) _ | refine Only.trans ?_ (by assumption)))) hsl).mono ?_); rintro e w6 ⟨rfl, t6⟩; have k6 : Only [] W4 w6 := t5.trans t6; have hrun6 := (hF.mp.keep k6).run_at hkz; rw [Hmet.out] at hrun6; obtain ⟨w7, hrun7, hM7, hO7⟩ := (hF.mp.keep k6).run_put hkz true (by unfold maxLen; omega); have hcd7 := hO7.cell hb8M (k6.cell (by simp) hcd); have acc7 := (hF.acc.keep k6).only hO7 (fun b hb hm => hF.a1.2 (by simp at hm; rwa [← hm])) (fun g hg hm => hF.a1.1 (by simp at hm; rw [← hm]; exact hg)); have dep7 := (hF.dep.keep k6).only hO7 (fun b hb hm => by rw [hF.fd0] at hb; cases hb) (fun g hg hm => (hF.a2 g hg).2.2 (by simpa using hm)); have hf5M : ∀ b ∈ f5, b ∉ [b1 + 1 + 1] := (fun b hb hm => by have := F5.ge b hb; simp at hm; omega); have r7 := Rp.only (Rp.keep r5 t6) hO7 hf5M; have hs7 := hO7.size; have hs6 := k6.size; have r8 := Rp.keep r7 ((Only.refl [] w7).alloc (.cells #[.slice a5 s.length c5] 25)); have hap8 : ∀ b ∈ f5, (Value.slice (some ⟨bl, ol, none⟩) L.length c7').ownBlock ≠ some b := (fun b hb he => by have := F5.ge b hb; have := (hF.acc.ownlt b he).2; omega); have hB7 : w.heap.size ≤ w7.heap.size := (by omega))
                    | (at_builtin; refine wpList_push2w rfl _ _ 22 rfl w.heap.size 25 iL _ 24 Tryz.underlying22 hiL hL0 hL1 hL2 rfl (by decide) (by decide) w7 (.slice (some ⟨bl, ol, none⟩) L.length c7') L fs rfl acc7 ((Only.refl [] w7).alloc _) hB7 w7.heap.size 1 [.slice a5 s.length c5] s f5 rfl (lit_src w7 [.slice a5 s.length c5] _ rfl) (by intro u hu; simp at hu; subst hu; rfl) r8 hap8 hll1 ?_; intro v9 w9 hA9 hO9 hP9 hQ9 hN9; have hcd9 := hO9.cell hb8l (((Only.refl [] w7).alloc _).cell (by simp) hcd7); have dep9 := (dep7.keep ((Only.refl [] w7).alloc _)).only hO9 (fun b hb hm => by rw [hF.fd0] at hb; cases hb) (fun g hg hm => (hF.a2 g hg).1 (by simpa using hm)); have hs9 := hO9.size; have hB9 : w.heap.size ≤ w9.heap.size := (by simp at hs9; omega))
                    | (at_builtin; refine wpList_push2w rfl _ _ 25 rfl w.heap.size 2 iD _ 8 Tryz.underlying25 hiD hD0 hD1 hD2 rfl (by decide) (by decide) w9 (.slice (some ⟨b8, o8, none⟩) D.length c8) D fd rfl dep9 ((Only.refl [] w9).alloc _) hB9 w9.heap.size 1 [.int .i64 (dk + 1)] (dk + 1) [] rfl (lit_src w9 [.int .i64 (dk + 1)] _ rfl) (by intro u hu; simp at hu; subst hu; rfl) (int_rd _ HI1.out) (by simp) hld1 ?_; intro v10 w10 hA10 hO10 hP10 hQ10 hN10)
                    | fail "no arm")
                  have hFF : Fresh w.heap.size w9 (fs ++ [f5]).flatten := by
                    have g1 := (Fresh.append (hF.fr.keep t5) F5 hBW (fun b hb => hF.fr.lt b hb)).keep t6
                    have g2 := g1.only hO7 (fun b hb hm => by
                      rcases List.mem_append.1 hb with hb | hb
                      · exact hF.a1.2 (by simp at hm; rwa [← hm])
                      · exact hf5M b hb hm)
                    have g3 := (g2.keep ((Only.refl [] w7).alloc (.cells #[.slice a5 s.length c5] 25))).only hO9 (fun b hb hm => by
                      rcases List.mem_append.1 hb with hb | hb
                      · exact hF.acc.apart b (by simpa using hm) hb
                      · exact hap8 b hb (by simpa using hm))
                    simpa using g3
                  have hStep := PBf.step (d := d1) hF hL4 Hps.out (by have := Hdd.out; have := Hdk3.out; omega) (hM7.congr fun z => metB_snoc L s z) ((Only.weaken k6 _).trans hO7) ((Only.refl [] w7).alloc _) hA9 hO9 hN9 hFF (fun hm => hf5M _ hm (by simp)) (fun g hg => .inl (F5.ge g hg)) ((Only.refl [] w9).alloc _) (by rw [← Hdd.out]; exact hA10) hO10 hN10
                  go_roundw
                  case rel => exact ⟨i + 1, L ++ [s], D ++ [d1], _, _, by go_num, by omega, hStep, by simp; omega, by rw [getD_snoc hlt]; exact Hq.out, by rw [getD_snoc hkD]; exact Hd.out, by rw [HRi.out, Hdr.out, bLets_new (by rw [← Hs.out]; exact Hmem.out) (by omega), ← Hs.out]⟩
                  case measure => simp [intOf]; omega
            · obtain rfl : i = mvs.length := by omega
              have hend : R = bFrom x (3001 - (k + 1)) (k + 1) (L, D) := by rw [HRi.out, Hml2.out, List.drop_length]; rfl
              have Hend := Lib.hid hend
              clear hend
              go_wp2
              exact ⟨⟨k + 1, L, D, fs, fd, by go_num, by omega, hF, Hend.out⟩, by simp [intOf]; omega⟩
        · obtain rfl : k = L.length := by omega
          have hend : R = some (L, D) := by rw [HRk.out, bFrom_end hlt hL3]
          have Hend := Lib.hid hend
          clear hend
          obtain ⟨o1, o2, o3⟩ := hF.out
          go_wp2
          refine bodyPost_ret (v := .tuple #[.slice a7 L.length c7, u8, .bool true]) (by simp [results, Tryz.results184, go_sem]) rfl ⟨_, _, _, _, by rw [Hend.out]; rfl, by rw [Hend.out]; exact o1, by rw [Hend.out]; exact o2, o3, hF.on⟩
end Go.Proofs.YtlcoejncdbkhcaaGreat
