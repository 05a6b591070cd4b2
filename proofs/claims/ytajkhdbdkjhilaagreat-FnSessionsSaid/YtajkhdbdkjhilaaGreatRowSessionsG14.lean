/- A slice of numbers that a loop appends to, in fewer words. The program's walk down a chain: values, take, from (laws 33, 47). The library's sort of a slice of int64 (slices.Sort), laid at this program; the sorted slice is the call's own. (Printed by mksortlay.py.) The program's walk down a chain: sorted, from; its generator (laws 33, 47). The generators of random numbers, of the program and of the reference (laws 33, 47). The selection that a seed's generator makes (laws 35, 47). The program's RandomMember (laws 35, 47). The reference's way down a chain: insertSorted, choicesAt, withEntry (laws 33, 47). The reference's choicesAt, withEntry, RandomMember (laws 33, 35, 47). ScrambleSession, of the reference and of the program (law 47). The laws' dice: bytes in memory; roll, below. The reference's source of choices: newSource, nextByte, below, oneIn, between, extremeInt, numberUpTo (laws 34, 35, ..). What it draws is left open: its bounds are told. The laws' drawn permutations, puzzles, tracked sets (laws 10, 11). The reference's search from a list on (law 16). The reference's BuildTable (law 16). -/
import Derived.Test.YtajkhdbdkjhilaaGreatRowSessionsG13
import Derived.Deep.RegionLaw
import Derived.Test.YtajkhdbdkjhilaaGreatRowSessionsG3
import Derived.Test.YtajkhdbdkjhilaaGreatRowSessionsG7
import Derived.Shelf.SortM.Plain
import Derived.Sort.OwnSortedInts
import Derived.Test.YtajkhdbdkjhilaaGreatRowSessionsG1
import Derived.Test.YtajkhdbdkjhilaaGreatRowSessionsG4
import Derived.Test.YtajkhdbdkjhilaaGreatRowSessionsG8
import Derived.Test.YtajkhdbdkjhilaaGreatRowSessionsG6
import Derived.Test.YtajkhdbdkjhilaaGreatRowSessionsG9
import Derived.Test.YtajkhdbdkjhilaaGreatRowSessionsG10
import Derived.Deep.QuietTactic
import Derived.BigQuiet
import Derived.BigRegion
import Derived.Laws.Bits64b
namespace Go.Proofs.YtajkhdbdkjhilaaGreat
open Go.RowKit
set_option maxRecDepth 10000

theorem step_push2w {P : Program} {α : Type} [Rp α] {ops : Array Oper} {o : Oper} {a : Act} {w : World} {Q : Exit → Act → World → Prop} {K : Act → World → Prop} {E : Prop} (hgd : o.guard = none) (s x : Operand) (t : TypeId)
    (ho : o.op = .call { callee := .builtin .append, args := #[s, x], argTypes := #[t, t] })
    (B : Nat) (e : TypeId) (i : TypeInfo) (z : Value) (bytes : Nat) (ht : P.underlying t = some (.slice e)) (hi : P.info? e = some i) (hz : i.zero = some z)
    (hsize : i.size = Rp.size α) (hby : i.bytes = bytes) (hzs : z.cells.size = Rp.size α) (hsz : 0 < Rp.size α) (hbb : bytes ≤ 65536)
    (w0 : World) (v : Value) (l : List α) (fs : List (List Nat)) (hs : a.eval s = v) (hA : Acc B e w0 v l fs) (hK0 : Only [] w0 w) (hB : B ≤ w0.heap.size)
    (g c : Nat) (cs : List Value) (y : α) (fp : List Nat) (hx : a.eval x = .slice (some ⟨g, 0, none⟩) 1 c) (hsrc : ∀ j u, cs[j]? = some u → w.cell? ⟨g, j, none⟩ = some u) (hcs : ∀ u ∈ cs, u.oneCell' = true)
    (hy : Rp.rep w cs y fp) (hap : ∀ b ∈ fp, v.ownBlock ≠ some b) (hlen : l.length + 1 ≤ 1073741824)
    (h : ∀ v' w', Acc B e w' v' (l ++ [y]) (fs ++ [fp]) → Only v.ownBlock.toList w w' → (v'.ownBlock = v.ownBlock ∨ v'.ownBlock = some w.heap.size) → K (a.put o.dst v') w') : if Region.wanted o (yielded ops a.tmps) = true then Oper.wp P o a w K Q else E := by
  rw [if_pos (by simp [Region.wanted, hgd])]
  exact wp_push2 s x t ho B e i z bytes ht hi hz hsize hby hzs hsz hbb w0 v l fs hs hA hK0 hB g c cs y fp hx hsrc hcs hy hap hlen fun v' w' h1 h2 _ _ h5 => h v' w' h1 h2 h5
theorem Acc.flat0 {B : Nat} {e : TypeId} {w : World} {v : Value} {l : List Int} {fs : List (List Nat)} (h : Acc B e w v l fs) : fs.flatten = [] := by
  obtain ⟨css, ho, hcl, hr⟩ := h.own
  have hl := h.fl
  have : fs = List.replicate fs.length [] := by
    apply List.ext_getElem (by simp)
    intro k h1 h2
    have := (hr k (by omega) (by omega) h1).2.2
    simpa using this
  rw [this]; exact flatten_nil _
/-- v is a slice of numbers of the call's own -/
def AccI (B : Nat) (e : TypeId) (w : World) (v : Value) (l : List Int) : Prop := ∃ fs, Acc B e w v l fs
section
variable {w w' : World} {B : Nat} {e : TypeId} {v : Value} {l : List Int}
theorem AccI.only {fp : List Nat} (h : AccI B e w v l) (ho : Only fp w w') (hv : ∀ g, v.ownBlock = some g → g ∉ fp) : AccI B e w' v l := by
  obtain ⟨fs, h⟩ := h
  exact ⟨fs, h.only ho (by rw [h.flat0]; simp) hv⟩
theorem AccI.keep (h : AccI B e w v l) (ho : Only [] w w') : AccI B e w' v l := h.only ho (by simp)
theorem AccI.form (h : AccI B e w v l) : ∃ a c, v = .slice a l.length c := by
  obtain ⟨fs, h⟩ := h; exact h.form
theorem AccI.rd (h : AccI B e w v l) : Rd w v l v.ownBlock.toList := by
  obtain ⟨fs, h⟩ := h
  have := h.rd (by decide)
  rwa [h.flat0, List.append_nil] at this
theorem AccI.fresh (h : AccI B e w v l) : Fresh B w v.ownBlock.toList := by
  obtain ⟨fs, h⟩ := h
  have := h.fresh (by rw [h.flat0]; exact Fresh.nil _ _)
  rwa [h.flat0, List.append_nil] at this
theorem AccI.ownlt (h : AccI B e w v l) : ∀ g, v.ownBlock = some g → B ≤ g ∧ g < w.heap.size := by
  obtain ⟨fs, h⟩ := h; exact h.ownlt
theorem AccI.nil (w : World) (B : Nat) (e : TypeId) : AccI B e w (.slice none 0 0) [] := ⟨[], Acc.nil w B e⟩
theorem AccI.made (w : World) (B : Nat) (e : TypeId) {g : Nat} (hg : g = w.heap.size) (hB : B ≤ g) : AccI B e (w.alloc (.cells #[] e)) (.slice (some ⟨g, 0, none⟩) 0 0) [] := ⟨[], Acc.made w B e hg hB⟩
theorem AccI.one {n : Int} (hn : I64 n) (w : World) (B : Nat) (e : TypeId) {g : Nat} (hg : g = w.heap.size) (hB : B ≤ g) : AccI B e (w.alloc (.cells #[.int .i64 n] e)) (.slice (some ⟨g, 0, none⟩) 1 1) [n] :=
  ⟨[[]], Acc.one (cs := [.int .i64 n]) B e (int_rd w hn) hg hB⟩
end
section
variable {P : Program} {ops : Array Oper} {rest : List Oper} {o : Oper} {a : Act} {w : World} {Q : Exit → Act → World → Prop} {K : Act → World → Prop}
theorem wpList_pushI (hgd : o.guard = none) (s x : Operand) (t : TypeId)
    (ho : o.op = .call { callee := .builtin .append, args := #[s, x], argTypes := #[t, t] })
    (B : Nat) (e : TypeId) (i : TypeInfo) (z : Value) (ht : P.underlying t = some (.slice e)) (hi : P.info? e = some i) (hz : i.zero = some z)
    (hsize : i.size = 1) (hby : i.bytes = 8) (hzs : z.cells.size = 1)
    (w0 : World) (v : Value) (l : List Int) (hs : a.eval s = v) (hA : AccI B e w0 v l) (hK0 : Only [] w0 w) (hB : B ≤ w0.heap.size)
    (g c : Nat) (n : Int) (hx : a.eval x = .slice (some ⟨g, 0, none⟩) 1 c) (hsrc : w.cell? ⟨g, 0, none⟩ = some (.int .i64 n)) (hn : I64 n) (hlen : l.length + 1 ≤ 1073741824)
    (h : ∀ v' w', AccI B e w' v' (l ++ [n]) → Only v.ownBlock.toList w w' → (∀ wz, Only [] wz w → wz.heap.size ≤ B → Only [] wz w') → (v'.ownBlock = v.ownBlock ∨ v'.ownBlock = some w.heap.size) → wpList P ops Q rest (a.put o.dst v') w') : wpList P ops Q (o :: rest) a w := by
  obtain ⟨fs, hA⟩ := hA
  refine wpList_push2w (α := Int) hgd s x t ho B e i z 8 ht hi hz hsize hby hzs (by decide) (by decide) w0 v l fs hs hA hK0 hB g c [.int .i64 n] n [] hx ?_ (by intro u hu; simp at hu; subst hu; rfl) (int_rd w hn) (by simp) hlen fun v' w' h1 h2 h3 _ h5 => h v' w' ⟨_, h1⟩ h2 h3 h5
  intro j u hu
  cases j with
  | zero => simp at hu; subst hu; exact hsrc
  | succ j => simp at hu
end
/-- the one cell of a literal -/
theorem lit1 (w : World) (u : Value) (e : TypeId) {g : Nat} (hg : g = w.heap.size) : (w.alloc (.cells #[u] e)).cell? ⟨g, 0, none⟩ = some u := lit_src w [u] e hg 0 u rfl
theorem own_after {v' v : Value} {w : World} {b : Nat} (hN : v'.ownBlock = v.ownBlock ∨ v'.ownBlock = some w.heap.size) (h1 : v.ownBlock ≠ some b) (h2 : b < w.heap.size) : v'.ownBlock ≠ some b := by
  rcases hN with e | e
  · rw [e]; exact h1
  · rw [e]; intro h; injection h with h; omega
/-- a slice of numbers under way, beside memory (G) that stays as it is in W -/
structure AccG (w W : World) (G : List Nat) (e : TypeId) (wr : World) (o : Value) (l : List Int) : Prop where
  acc : AccI w.heap.size e wr o l
  on : Only [] w wr
  kp : ∀ b ∈ G, wr.heap[b]? = W.heap[b]?
  ga : ∀ b ∈ G, o.ownBlock ≠ some b
  gl : ∀ b ∈ G, b < wr.heap.size
section
variable {w W wr w' wa wb : World} {G : List Nat} {e : TypeId} {o o' : Value} {l : List Int} {n : Int}
theorem AccG.keep (h : AccG w W G e wr o l) (ho : Only [] wr w') : AccG w W G e w' o l :=
  ⟨h.acc.keep ho, h.on.trans ho, fun b hb => (ho.block b (h.gl b hb) (by simp)).trans (h.kp b hb), h.ga, fun b hb => Nat.lt_of_lt_of_le (h.gl b hb) ho.size⟩
theorem AccG.push (h : AccG w W G e wa o l) (hA : AccI w.heap.size e wb o' (l ++ [n])) (oA : Only o.ownBlock.toList wa wb) (hP : ∀ wz, Only [] wz wa → wz.heap.size ≤ w.heap.size → Only [] wz wb) (nA : o'.ownBlock = o.ownBlock ∨ o'.ownBlock = some wa.heap.size) : AccG w W G e wb o' (l ++ [n]) :=
  ⟨hA, hP w h.on (Nat.le_refl _), fun b hb => (oA.block b (h.gl b hb) (fun hm => h.ga b hb (by simpa using hm))).trans (h.kp b hb), fun b hb => own_after nA (h.ga b hb) (h.gl b hb), fun b hb => Nat.lt_of_lt_of_le (h.gl b hb) oA.size⟩
theorem AccG.held (h : AccG w W G e wr o l) {α : Type} [Rp α] {cs : List Value} {y : α} {fp : List Nat} (hr : Rp.rep W cs y fp) (hf : ∀ b ∈ fp, b ∈ G) : Rp.rep wr cs y fp := Rp.frame hr fun b hb => h.kp b (hf b hb)
theorem AccG.ints (h : AccG w W G e wr o l) {a : Option Addr} {c : Nat} {y : List Int} {fp : List Nat} (hr : IntsA W a c y fp) (hf : ∀ b ∈ fp, b ∈ G) : IntsA wr a c y fp := hr.frame fun b hb => h.kp b (hf b hb)
end
end Go.Proofs.YtajkhdbdkjhilaaGreat

namespace Go.Proofs.YtajkhdbdkjhilaaGreat
open Go.RowKit
set_option maxRecDepth 10000
theorem Mpv.mono {w : World} {M k k' : Nat} {g : Int → Option Int} (h : Mpv w M k g) (hk : k ≤ k') : Mpv w M k' g := by
  obtain ⟨D, h1, h2⟩ := h
  exact ⟨D, h1.mono hk, h2⟩
/-- the walk has taken a value: q is chosen, the level is still i -/
def TK (w : World) (L : Lay) (b i : Nat) (q : List Int) (wx : World) : Prop :=
  ∃ a c f', Blk wx b [.pointer (some ⟨L.g, 0, none⟩), .int .i64 i, .slice a q.length c] ∧ Rd wx (.slice a q.length c) q f' ∧ Fresh w.heap.size wx f' ∧ Only [b] w wx
theorem TK.of {w w1 w5 w6 : World} {L : Lay} {b i : Nat} {q : List Int} {a : Option Addr} {c : Nat} {f' : List Nat} {v : Value} (t1 : Only [] w w1) (k5 : Only [] w1 w5) (Y5 : Blk w5 b [.pointer (some ⟨L.g, 0, none⟩), .int .i64 i, v]) (hb : b < w.heap.size)
    (r5 : Rd w5 (.slice a q.length c) q f') (F5 : Fresh w1.heap.size w5 f') (h6 : w6 = w5.setCell ⟨b, 2, none⟩ (.slice a q.length c)) : TK w L b i q w6 := by
  subst h6
  have hs : Only [b] w5 (w5.setCell ⟨b, 2, none⟩ (.slice a q.length c)) := (Only.refl _ _).setCell (by simp) _
  have hsz := t1.size
  have hd : ∀ z ∈ f', z ∉ [b] := fun z hz hm => by have := F5.ge z hz; simp at hm; omega
  have hB := Y5.set 2 (.slice a q.length c)
  simp only [List.set] at hB
  exact ⟨a, c, f', hB, Rp.only r5 hs hd, (F5.mono hsz).only hs hd, ((t1.trans k5).weaken _).trans hs⟩
end Go.Proofs.YtajkhdbdkjhilaaGreat

namespace Go.Proofs.YtajkhdbdkjhilaaGreat
open Go.RowKit Go.Shelf Go.Sort Go.Proofs
set_option maxRecDepth 10000
theorem map_one_flatten (l : List Int) : (l.map fun x => [Value.int .i64 x]).flatten = l.map (Value.int .i64) := by
  induction l with
  | nil => rfl
  | cons x l ih => simp only [List.map_cons, List.flatten_cons, ih, List.cons_append, List.nil_append]
theorem AccI.row {B : Nat} {e : TypeId} {w : World} {v : Value} {l : List Int} (h : AccI B e w v l) : w.ownsRow B e 1 v l.length (l.map (Value.int .i64)) ∧ ∀ x ∈ l, I64 x := by
  obtain ⟨fs, h⟩ := h
  obtain ⟨css, ho, hcl, hr⟩ := h.own
  have hfl := h.fl
  have hc : css = l.map fun x => [Value.int .i64 x] := by
    apply List.ext_getElem (by simp [hcl])
    intro k h1 h2
    have hk : k < l.length := by omega
    have := (hr k h1 hk (by omega)).1
    rw [this]; simp
  refine ⟨?_, fun x hx => ?_⟩
  · rw [hc, map_one_flatten] at ho; exact ho
  · obtain ⟨k, hk, rfl⟩ := List.getElem_of_mem hx
    exact (hr k (by omega) hk (by omega)).2.1
theorem AccI.ofRow {B : Nat} {e : TypeId} {w : World} {v : Value} {l : List Int} (h : w.ownsRow B e 1 v l.length (l.map (Value.int .i64))) (hI : ∀ x ∈ l, I64 x) : AccI B e w v l := by
  have hf : ∀ n : Nat, (List.replicate n ([] : List Nat)).flatten = [] := fun n => by induction n with | zero => rfl | succ n ih => simp [List.replicate_succ, ih]
  refine ⟨List.replicate l.length [], ⟨l.map fun x => [Value.int .i64 x], ?_, by simp, fun k h1 h2 h3 => ?_⟩, by simp, fun g _ => by rw [hf]; simp⟩
  · rw [map_one_flatten]; exact h
  · exact ⟨by simp, hI _ (List.getElem_mem h2), by simp⟩
end Go.Proofs.YtajkhdbdkjhilaaGreat

namespace Go.Proofs.YtajkhdbdkjhilaaGreat
open Go.RowKit
set_option maxRecDepth 10000
theorem AccI.low {B B' : Nat} {e : TypeId} {w : World} {v : Value} {l : List Int} (h : AccI B e w v l) (hB : B' ≤ B) : AccI B' e w v l := by
  obtain ⟨h1, h2⟩ := h.row
  refine AccI.ofRow ⟨h1.1, ?_⟩ h2
  rcases h1.2 with h3 | ⟨g, cap, cur, h3, h4, h5⟩
  · exact .inl h3
  · exact .inr ⟨g, cap, cur, h3, Nat.le_trans hB h4, h5⟩
theorem same_int (a b : Int) : (Lit.int .i64 a).sameKey (.int .i64 b) = decide (a = b) := by
  show decide (IntKind.i64 = IntKind.i64 ∧ a = b) = _
  by_cases h : a = b <;> simp [h]
/-- the keys met so far: l; those to come: left -/
structure KL (C : List Int) (left : Lit → Bool) (l : List Int) : Prop where
  nd : l.Nodup
  iff : ∀ x, I64 x → (x ∈ l ↔ x ∈ C ∧ left (.int .i64 x) = false)
  big : ∀ x ∈ l, I64 x
  dom : ∀ x, I64 x → left (.int .i64 x) = true → x ∈ C
theorem KL.step {C : List Int} {left : Lit → Bool} {l : List Int} (h : KL C left l) {x : Int} (hx : I64 x) (hl : left (.int .i64 x) = true) : KL C (fun z => left z && !z.sameKey (.int .i64 x)) (l ++ [x]) := by
  have hn : x ∉ l := fun hm => by have := ((h.iff x hx).1 hm).2; rw [hl] at this; cases this
  refine ⟨?_, fun y hy => ?_, fun y hy => ?_, fun y hy hl2 => ?_⟩
  · rw [List.nodup_append]
    exact ⟨h.nd, by simp, fun a ha b hb => by simp at hb; subst hb; intro e; subst e; exact hn ha⟩
  · rw [List.mem_append, h.iff y hy]
    simp only [List.mem_singleton, same_int]
    by_cases he : y = x
    · subst he; simp [h.dom _ hx hl]
    · simp [he]
  · rcases List.mem_append.1 hy with hy | hy
    · exact h.big y hy
    · simp at hy; subst hy; exact hx
  · simp only [same_int, Bool.and_eq_true] at hl2
    exact h.dom y hy hl2.1
end Go.Proofs.YtajkhdbdkjhilaaGreat

namespace Go.Proofs.YtajkhdbdkjhilaaGreat
open Go.RowKit
set_option maxRecDepth 10000

/-- the generator's states -/
def gst (s : Int) : Nat → Int
  | 0 => s % 999999937
  | i + 1 => (48271 * gst s i + 11) % 999999937
theorem gst_rng (s : Int) (i : Nat) : 0 ≤ gst s i ∧ gst s i < 999999937 := by
  cases i with
  | zero => show 0 ≤ s % 999999937 ∧ _; exact ⟨Int.emod_nonneg _ (by decide), Int.emod_lt_of_pos _ (by decide)⟩
  | succ i => show 0 ≤ (48271 * gst s i + 11) % 999999937 ∧ _; exact ⟨Int.emod_nonneg _ (by decide), Int.emod_lt_of_pos _ (by decide)⟩
theorem tmod_fix (s : Int) : (if s.tmod 999999937 < 0 then s.tmod 999999937 + 999999937 else s.tmod 999999937) = s % 999999937 := by
  have h1 := Int.mul_tdiv_add_tmod s 999999937
  have h2 := Int.tmod_lt_of_pos s (show (0:Int) < 999999937 by decide)
  have h3 := Int.lt_tmod_of_pos s (show (0:Int) < 999999937 by decide)
  split <;> omega
theorem tmod_rng (s : Int) : -999999937 < s.tmod 999999937 ∧ s.tmod 999999937 < 999999937 :=
  ⟨Int.lt_tmod_of_pos s (by decide), Int.tmod_lt_of_pos s (by decide)⟩
theorem tmod_pos {a b : Int} (h : 0 ≤ a) : a.tmod b = a % b := Int.tmod_eq_emod_of_nonneg h
theorem firstState_any (seed : Int) (_hs : I64 seed) (w : World) :
    Calls Tryz.prog 133 #[.int .i64 seed] w fun e w' => e = .returned (.int .i64 (gst seed 0)) ∧ w' = w := by
  have hf := tmod_fix seed
  have hr := tmod_rng seed
  obtain ⟨r, hrd⟩ : ∃ r, r = seed.tmod 999999937 := ⟨_, rfl⟩
  have hrw : Int.tmod seed 999999937 = r := hrd.symm
  rw [← hrd] at hf hr
  have hw1 : IntKind.i64.wrap (r + 999999937) = r + 999999937 := by rw [IntKind.wrap_i64]; omega
  have ht : Int.tmod (r + 999999937) 999999937 = seed % 999999937 := by
    rw [tmod_pos (by omega)]
    by_cases hn : r < 0
    · rw [if_pos hn] at hf; omega
    · rw [if_neg hn] at hf; omega
  have hg : gst seed 0 = seed % 999999937 := rfl
  rw [hg]
  obtain ⟨r2, hr2⟩ : ∃ r2, r2 = seed % 999999937 := ⟨_, rfl⟩
  rw [← hr2] at ht ⊢
  clear hf hg hrd hr2
  go_enter Tryz.func133, Tryz.ntmps133
  go_wp2
  go_ret
  exact ⟨rfl, rfl⟩
theorem nextState_any (s : Int) (h0 : 0 ≤ s) (h1 : s < 999999937) (w : World) :
    Calls Tryz.prog 134 #[.int .i64 s] w fun e w' => e = .returned (.int .i64 ((48271 * s + 11) % 999999937)) ∧ w' = w := by
  have hw1 : IntKind.i64.wrap (s * 48271) = 48271 * s := by rw [IntKind.wrap_i64]; omega
  have hw2 : IntKind.i64.wrap (48271 * s + 11) = 48271 * s + 11 := by rw [IntKind.wrap_i64]; omega
  have ht : Int.tmod (48271 * s + 11) 999999937 = (48271 * s + 11) % 999999937 := tmod_pos (by omega)
  obtain ⟨r, hr⟩ : ∃ r, r = (48271 * s + 11) % 999999937 := ⟨_, rfl⟩
  rw [← hr] at ht ⊢
  clear hr
  go_enter Tryz.func134, Tryz.ntmps134
  go_wp2
  go_ret
  exact ⟨rfl, rfl⟩
end Go.Proofs.YtajkhdbdkjhilaaGreat

namespace Go.Proofs.YtajkhdbdkjhilaaGreat
open Go.RowKit
set_option maxRecDepth 10000

/-- the selection of a seed's generator -/
def rsel (seed : Int) (i len : Nat) : Nat := (gst seed (i + 1) % (len : Int)).toNat
theorem rsel_lt {seed : Int} {i len : Nat} (h : 0 < len) : rsel seed i len < len := by
  unfold rsel
  have h1 := Int.emod_lt_of_pos (gst seed (i + 1)) (show (0 : Int) < (len : Int) by omega)
  have h2 := Int.emod_nonneg (gst seed (i + 1)) (show (len : Int) ≠ 0 by omega)
  omega
theorem rsel_good {n : Nat} {T : PM.Rows} (hw : PM.WF n T) (seed : Int) : ∀ i, i < n → rsel seed i (PM.cntR n T i) < PM.cntR n T i := fun _ hi => rsel_lt (PM.cntR_pos hw hi)
/-- the random member of a seed -/
noncomputable def randM (n : Nat) (gens : List (List Int)) (seed : Int) : List Int := PM.descG n gens (rsel seed)
end Go.Proofs.YtajkhdbdkjhilaaGreat

namespace Go.Proofs.YtajkhdbdkjhilaaGreat
open Go.RowKit
set_option maxRecDepth 10000
end Go.Proofs.YtajkhdbdkjhilaaGreat

namespace Go.Proofs.YtajkhdbdkjhilaaGreat
open Go.RowKit
set_option maxRecDepth 10000

/-- how many are less -/
def below (v : Int) : List Int → Nat
  | [] => 0
  | x :: l => if x < v then below v l + 1 else 0
theorem below_le (v : Int) : ∀ l : List Int, below v l ≤ l.length
  | [] => Nat.le_refl _
  | x :: l => by unfold below; split; exact Nat.succ_le_succ (below_le v l); exact Nat.zero_le _
theorem below_lt (v : Int) : ∀ (l : List Int) (j : Nat) (h : j < l.length), j < below v l → l[j] < v
  | x :: l, j, h, hj => by
    unfold below at hj
    by_cases hx : x < v
    · rw [if_pos hx] at hj
      cases j with
      | zero => exact hx
      | succ j => exact below_lt v l j (by simpa using h) (by omega)
    · rw [if_neg hx] at hj; omega
theorem below_at (v : Int) : ∀ (l : List Int) (h : below v l < l.length), ¬ l[below v l] < v
  | x :: l, h => by
    by_cases hx : x < v
    · have e : below v (x :: l) = below v l + 1 := by show (if x < v then _ else _) = _; rw [if_pos hx]
      have h2 : below v l < l.length := by rw [e] at h; simpa using h
      have := below_at v l h2
      simp only [e, List.getElem_cons_succ]
      exact this
    · have e : below v (x :: l) = 0 := by show (if x < v then _ else _) = _; rw [if_neg hx]
      simp only [e, List.getElem_cons_zero]
      exact hx
theorem insU_there {v : Int} : ∀ {l : List Int} (h : below v l < l.length), l[below v l] = v → PM.insU v l = l
  | x :: l, h, he => by
    by_cases hx : x < v
    · have e : below v (x :: l) = below v l + 1 := by show (if x < v then _ else _) = _; rw [if_pos hx]
      have h2 : below v l < l.length := by rw [e] at h; simpa using h
      simp only [e, List.getElem_cons_succ] at he
      show (if x < v then x :: PM.insU v l else _) = _
      rw [if_pos hx, insU_there h2 he]
    · have e : below v (x :: l) = 0 := by show (if x < v then _ else _) = _; rw [if_neg hx]
      simp only [e, List.getElem_cons_zero] at he
      show (if x < v then _ else if x = v then x :: l else _) = _
      rw [if_neg hx, if_pos he]
theorem insU_new {v : Int} : ∀ {l : List Int}, (∀ h : below v l < l.length, l[below v l] ≠ v) → PM.insU v l = (l.take (below v l) ++ [v]) ++ l.drop (below v l)
  | [], _ => rfl
  | x :: l, hn => by
    by_cases hx : x < v
    · have e : below v (x :: l) = below v l + 1 := by show (if x < v then _ else _) = _; rw [if_pos hx]
      show (if x < v then x :: PM.insU v l else _) = _
      rw [if_pos hx, e, insU_new (l := l) (fun h => by
        have h1 := hn (by rw [e]; simpa using h)
        simp only [e, List.getElem_cons_succ] at h1
        exact h1)]
      simp
    · have e : below v (x :: l) = 0 := by show (if x < v then _ else _) = _; rw [if_neg hx]
      have h1 := hn (by rw [e]; simp)
      simp only [e, List.getElem_cons_zero] at h1
      show (if x < v then _ else if x = v then _ else v :: x :: l) = _
      rw [if_neg hx, if_neg h1, e]
      simp
theorem IntsA.drp {w : World} {b off cap : Nat} {l : List Int} {fp : List Nat} (h : IntsA w (some ⟨b, off, none⟩) cap l fp) {k : Nat} (hk : k ≤ l.length) : IntsA w (some ⟨b, off + k, none⟩) (cap - k) (l.drop k) fp := by
  have hl := h.len
  have hc := h.cap
  refine ⟨by rw [List.length_drop]; omega, by omega, fun x hx => h.wf x (List.mem_of_mem_drop hx), fun i hi => ?_, h.lt, h.one⟩
  rw [List.length_drop] at hi
  obtain ⟨b', off', ha, hf, hcell⟩ := h.at_ (k + i) (by omega)
  injection ha with ha; injection ha with e1 e2; subst e1; subst e2
  refine ⟨b, off + k, rfl, hf, ?_⟩
  rw [Nat.add_assoc, List.getElem_drop]
  exact hcell
theorem copyInts_aI (v : Value) (l : List Int) (fp : List Nat) (w : World) (h : Rd w v l fp) (hl : l.length ≤ 1073741824) :
    Calls Tryz.prog 75 #[v] w fun e w' => ∃ v, e = .returned v ∧ AccI w.heap.size 2 w' v l ∧ Only [] w w' := by
  obtain ⟨a, cap, rfl, hI⟩ := h.ints
  obtain ⟨i0, hi, hz0, hz1, hz2⟩ := info_parts Tryz.info2
  obtain ⟨q1, q2⟩ := ints_src (hI.keep ((Only.refl _ w).alloc (.cells #[] 2)))
  go_enter Tryz.func75, Tryz.ntmps75
  go_wp2_with (at_builtin; refine wpList_app _ rfl _ _ 27 rfl w.heap.size 2 i0 _ 1 8 Tryz.underlying27 hi hz0 hz1 hz2 rfl (by omega) (.slice (some ⟨w.heap.size, 0, none⟩) 0 0) 0 [] rfl (World.ownsRow_made w #[] 0 (Nat.le_refl _) (by unfold maxLen; omega) rfl) a l.length cap (l.map (Value.int .i64)) rfl (by simp) q1 q2 (ints_one l) (by unfold maxLen; omega) (by omega) (by simp) ?_; intro v1 w1 hO hg hb)
  rw [Nat.zero_add, List.nil_append] at hO
  have hK : Only [] w w1 := ((Only.refl _ _).alloc _).grown hg (by simp [Value.ownBlock])
  have hA : AccI w.heap.size 2 w1 v1 l := AccI.ofRow hO hI.wf
  have HA := Lib.hid hA
  clear hO hg hb q1 q2 hA
  go_wp2
  go_ret
  exact ⟨_, rfl, HA.out, hK⟩
set_option maxHeartbeats 4000000 in
theorem insertSorted_any (b off c : Nat) (l : List Int) (fp : List Nat) (k : Int) (w : World) (I : IntsA w (some ⟨b, off, none⟩) c l fp) (hl : l.length ≤ 1000) (hk : I64 k) :
    Calls Tryz.prog 143 #[.slice (some ⟨b, off, none⟩) l.length c, .int .i64 k] w fun e w' => ∃ b' o' c' fp', e = .returned (.slice (some ⟨b', o', none⟩) (PM.insU k l).length c') ∧ IntsA w' (some ⟨b', o', none⟩) c' (PM.insU k l) fp' ∧ (fp' = fp ∨ Fresh w.heap.size w' fp') ∧ Only [] w w' := by
  obtain ⟨i0, hi, hz0, hz1, hz2⟩ := info_parts Tryz.info2
  have hbl := below_le k l
  have hIH := Lib.hid I
  have HI := Lib.hid hk
  have hcap := I.len
  clear I hk
  obtain ⟨R, hR⟩ : ∃ R, R = PM.insU k l := ⟨_, rfl⟩
  rw [← hR]
  have HR := Lib.hid hR
  clear hR
  go_enter Tryz.func143, Tryz.ntmps143
  go_wp2
  go_loopw [5] (fun i wr => ∃ (j : Nat), j ≤ below k l ∧ i = .int .i64 j ∧ Only [] w wr)
    (fun i _ => l.length + 1 - (intOf i).toNat)
  case atStart => exact ⟨0, Nat.zero_le _, rfl, Only.refl _ _⟩
  case round =>
    obtain ⟨w3, hnew⟩ : ∃ W, W = wr := ⟨_, rfl⟩
    subst hnew
    obtain ⟨j, hj, rfl, hK⟩ := hrel
    have I3 := hIH.out.keep hK
    by_cases hlt : j < below k l
    · have hjl : j < l.length := by omega
      obtain ⟨b2, o2, e2, -, c2⟩ := I3.at_ j hjl
      injection e2 with e2; injection e2 with e3 e4; subst e3; subst e4
      have hv := below_lt k l j hjl hlt
      obtain ⟨x, hx⟩ : ∃ x, x = l[j] := ⟨_, rfl⟩
      rw [← hx] at c2 hv
      clear hx
      have hji : (j : Int) < (l.length : Int) := by omega
      go_wp2
      go_roundw
      case rel => exact ⟨j + 1, by omega, by go_num, hK⟩
      case measure => simp [intOf]; omega
    · have hje : j = below k l := by omega
      have hjl : j ≤ l.length := by omega
      have hkc : j ≤ c := by omega
      have hjl' : (j : Int) ≤ (l.length : Int) := by omega
      have hkc' : (j : Int) ≤ (c : Int) := by omega
      have hc0 : (l.length : Int) ≤ (c : Int) := by omega
      have hj0 : (0 : Int) ≤ (j : Int) := by omega
      have hsz3 := hK.size
      have hlk : (l.take j).length = j := by rw [List.length_take]; omega
      have hTk : Rd w3 (.slice (some ⟨b, off, none⟩) j c) (l.take j) fp := by
        have := (I3.take j).rd
        rwa [hlk] at this
      have hTl : (l.take j).length ≤ 1073741824 := by omega
      have HK := Lib.hid hlk
      have hnewR : (∀ h : below k l < l.length, l[below k l] ≠ k) → ∀ v6 w6, w6.ownsRow w3.heap.size 2 1 v6 (j + 1 + (l.length - j)) (((l.take j).map (Value.int .i64) ++ [.int .i64 k]) ++ (l.drop j).map (Value.int .i64)) → Only [] w3 w6 →
          ∃ b' o' c' fp', v6 = .slice (some ⟨b', o', none⟩) R.length c' ∧ IntsA w6 (some ⟨b', o', none⟩) c' R fp' ∧ Fresh w.heap.size w6 fp' ∧ Only [] w w6 := fun hn v6 w6 hO ho => by
        have hRe : R = (l.take j ++ [k]) ++ l.drop j := by rw [HR.out, insU_new hn, ← hje]
        have hcells : ((l.take j).map (Value.int .i64) ++ [Value.int .i64 k]) ++ (l.drop j).map (Value.int .i64) = R.map (Value.int .i64) := by
          rw [hRe]; simp
        have hlen : R.length = j + 1 + (l.length - j) := by rw [hRe, List.length_append, List.length_append, HK.out, List.length_drop]; rfl
        rw [hcells, ← hlen] at hO
        obtain ⟨a6, c6, hv6, -, I6, F6⟩ := own_ints hO (fun x hx => by
          rw [hRe] at hx
          rcases List.mem_append.1 hx with hx | hx
          · rcases List.mem_append.1 hx with hx | hx
            · exact hIH.out.wf x (List.mem_of_mem_take hx)
            · simp at hx; subst hx; exact HI.out
          · exact hIH.out.wf x (List.mem_of_mem_drop hx))
        obtain ⟨b6, o6, ha6, -, -⟩ := I6.at_ 0 (by rw [hlen]; omega)
        subst ha6
        exact ⟨b6, o6, c6, _, hv6, I6, F6.mono hsz3, hK.trans ho⟩
      have HN := Lib.hid hnewR
      clear hlk hnewR
      by_cases hin : j < l.length
      · obtain ⟨b2, o2, e2, -, c2⟩ := I3.at_ j hin
        injection e2 with e2; injection e2 with e3 e4; subst e3; subst e4
        have hnl : ¬ l[j] < k := by subst hje; exact below_at k l hin
        have hji : (j : Int) < (l.length : Int) := by omega
        by_cases heq : l[j] = k
        · have hRl : R = l := by rw [HR.out]; subst hje; exact insU_there hin heq
          have HRl := Lib.hid hRl
          rw [heq] at c2 hnl
          clear heq hRl hje hlt
          go_wp2
          go_ret
          rw [HRl.out]
          exact ⟨_, _, c, rfl, fp, I3, .inl rfl, hK⟩
        · have hend := HN.out (fun h => by subst hje; exact heq)
          have hcj : ¬ (c = j) := by omega
          obtain ⟨x, hx⟩ : ∃ x, x = l[j] := ⟨_, rfl⟩
          rw [← hx] at c2 hnl heq
          clear hx hje hlt
          go_wp2_with (first
            | (go_at_call 75; (with_reducible refine (copyInts_aI (.slice (some ⟨b, off, none⟩) j c) (l.take j) fp w3 hTk hTl).mono ?_); rintro en w4 ⟨v4, rfl, hA4, o4⟩; have hO4 := hA4.row.1; rw [HK.out] at hO4; obtain ⟨a4, q4, e4⟩ := hA4.form; rw [HK.out] at e4; subst e4; have m4 := lit_srcA w4 [.int .i64 k] 2 rfl)
            | (at_builtin; refine wpList_app _ rfl _ _ 27 rfl w3.heap.size 2 i0 _ 1 8 Tryz.underlying27 hi hz0 hz1 hz2 rfl (by omega) (.slice a4 j q4) j ((l.take j).map (Value.int .i64)) rfl (hO4.alloc _) (some ⟨w4.heap.size, 0, none⟩) 1 1 [.int .i64 k] rfl rfl m4 (by intro hh; cases hh) (by intro u hu; simp at hu; subst hu; rfl) (by unfold maxLen; omega) (by omega) (Nat.le_trans o4.size ((Only.refl [] w4).alloc _).size) ?_; intro v5 w5 hO5 hg5 hb5; have o5 : Only [] w3 w5 := (o4.alloc _).grown hg5 (by intro z hz hzl; have := (hO4.lt z hz).1; omega); have ID := (I3.keep o5).drp hjl; have s5 := ints_src ID; have hdl : ((l.drop j).map (Value.int .i64)).length = (l.length - j) * 1 := (by simp); have Hdl := Lib.hid hdl; clear hdl)
            | (at_builtin; refine wpList_app _ rfl _ _ 27 rfl w3.heap.size 2 i0 _ 1 8 Tryz.underlying27 hi hz0 hz1 hz2 rfl (by omega) v5 (j + 1) ((l.take j).map (Value.int .i64) ++ [.int .i64 k]) rfl hO5 (some ⟨b, off + j, none⟩) (l.length - j) (c - j) ((l.drop j).map (Value.int .i64)) rfl Hdl.out s5.1 (by intro hh; cases hh) (ints_one _) (by unfold maxLen; omega) (by omega) o5.size ?_; intro v6 w6 hO6 hg6 hb6)
            | fail "no arm")
          have hfin := hend v6 w6 hO6 (o5.grown hg6 (by intro z hz hzl; have := (hO5.lt z hz).1; omega))
          obtain ⟨b', o', c', fp', rfl, h1, h2, h3⟩ := hfin
          go_ret
          exact ⟨b', o', c', fp', rfl, h1, .inr h2, h3⟩
      · have hend := HN.out (fun h => absurd h (by omega))
        have hji : ¬ ((j : Int) < (l.length : Int)) := by omega
        by_cases hcj : c = j
        · subst hcj
          have hd0 : l.drop c = [] := List.drop_eq_nil_of_le (by omega)
          have Hd0 := Lib.hid hd0
          clear hd0 hje hlt
          go_wp2_with (first
            | (go_at_call 75; (with_reducible refine (copyInts_aI (.slice (some ⟨b, off, none⟩) c c) (l.take c) fp w3 hTk hTl).mono ?_); rintro en w4 ⟨v4, rfl, hA4, o4⟩; have hO4 := hA4.row.1; rw [HK.out] at hO4; obtain ⟨a4, q4, e4⟩ := hA4.form; rw [HK.out] at e4; subst e4; have m4 := lit_srcA w4 [.int .i64 k] 2 rfl)
            | (at_builtin; refine wpList_app _ rfl _ _ 27 rfl w3.heap.size 2 i0 _ 1 8 Tryz.underlying27 hi hz0 hz1 hz2 rfl (by omega) (.slice a4 c q4) c ((l.take c).map (Value.int .i64)) rfl (hO4.alloc _) (some ⟨w4.heap.size, 0, none⟩) 1 1 [.int .i64 k] rfl rfl m4 (by intro hh; cases hh) (by intro u hu; simp at hu; subst hu; rfl) (by unfold maxLen; omega) (by omega) (Nat.le_trans o4.size ((Only.refl [] w4).alloc _).size) ?_; intro v5 w5 hO5 hg5 hb5; have o5 : Only [] w3 w5 := (o4.alloc _).grown hg5 (by intro z hz hzl; have := (hO4.lt z hz).1; omega))
            | (at_builtin; refine wpList_app _ rfl _ _ 27 rfl w3.heap.size 2 i0 _ 1 8 Tryz.underlying27 hi hz0 hz1 hz2 rfl (by omega) v5 (c + 1) ((l.take c).map (Value.int .i64) ++ [.int .i64 k]) rfl hO5 (some ⟨b, off, none⟩) 0 0 [] rfl rfl (by intro ad hh j1 u hu; simp at hu) (by intro hh; cases hh) (by intro u hu; simp at hu) (by unfold maxLen; omega) (by omega) o5.size ?_; intro v6 w6 hO6 hg6 hb6)
            | fail "no arm")
          have hfin := hend v6 w6 (by have e : l.length - c = 0 := (by omega); rw [e, Hd0.out]; simpa using hO6) (o5.grown hg6 (by intro z hz hzl; have := (hO5.lt z hz).1; omega))
          obtain ⟨b', o', c', fp', rfl, h1, h2, h3⟩ := hfin
          go_ret
          exact ⟨b', o', c', fp', rfl, h1, .inr h2, h3⟩
        · clear hje hlt
          go_wp2_with (first
            | (go_at_call 75; (with_reducible refine (copyInts_aI (.slice (some ⟨b, off, none⟩) j c) (l.take j) fp w3 hTk hTl).mono ?_); rintro en w4 ⟨v4, rfl, hA4, o4⟩; have hO4 := hA4.row.1; rw [HK.out] at hO4; obtain ⟨a4, q4, e4⟩ := hA4.form; rw [HK.out] at e4; subst e4; have m4 := lit_srcA w4 [.int .i64 k] 2 rfl)
            | (at_builtin; refine wpList_app _ rfl _ _ 27 rfl w3.heap.size 2 i0 _ 1 8 Tryz.underlying27 hi hz0 hz1 hz2 rfl (by omega) (.slice a4 j q4) j ((l.take j).map (Value.int .i64)) rfl (hO4.alloc _) (some ⟨w4.heap.size, 0, none⟩) 1 1 [.int .i64 k] rfl rfl m4 (by intro hh; cases hh) (by intro u hu; simp at hu; subst hu; rfl) (by unfold maxLen; omega) (by omega) (Nat.le_trans o4.size ((Only.refl [] w4).alloc _).size) ?_; intro v5 w5 hO5 hg5 hb5; have o5 : Only [] w3 w5 := (o4.alloc _).grown hg5 (by intro z hz hzl; have := (hO4.lt z hz).1; omega); have ID := (I3.keep o5).drp hjl; have s5 := ints_src ID; have hdl : ((l.drop j).map (Value.int .i64)).length = (l.length - j) * 1 := (by simp); have Hdl := Lib.hid hdl; clear hdl)
            | (at_builtin; refine wpList_app _ rfl _ _ 27 rfl w3.heap.size 2 i0 _ 1 8 Tryz.underlying27 hi hz0 hz1 hz2 rfl (by omega) v5 (j + 1) ((l.take j).map (Value.int .i64) ++ [.int .i64 k]) rfl hO5 (some ⟨b, off + j, none⟩) (l.length - j) (c - j) ((l.drop j).map (Value.int .i64)) rfl Hdl.out s5.1 (by intro hh; cases hh) (ints_one _) (by unfold maxLen; omega) (by omega) o5.size ?_; intro v6 w6 hO6 hg6 hb6)
            | fail "no arm")
          have hfin := hend v6 w6 hO6 (o5.grown hg6 (by intro z hz hzl; have := (hO5.lt z hz).1; omega))
          obtain ⟨b', o', c', fp', rfl, h1, h2, h3⟩ := hfin
          go_ret
          exact ⟨b', o', c', fp', rfl, h1, .inr h2, h3⟩
end Go.Proofs.YtajkhdbdkjhilaaGreat

namespace Go.Proofs.YtajkhdbdkjhilaaGreat
open Go.RowKit
set_option maxRecDepth 10000

theorem choTo_succ (m : List Int) (j : Nat) (T : PM.Rows) (k : Nat) : PM.choO m (orbTo (j + 1) T k) = if PM.tr T k (j : Int) = [] then PM.choO m (orbTo j T k) else PM.insU (PM.at_ m (j : Int)) (PM.choO m (orbTo j T k)) := by
  rw [orbTo_succ]
  by_cases h : PM.tr T k (j : Int) = []
  · rw [if_pos h, if_pos h]
  · rw [if_neg h, if_neg h, PM.choO_snoc]
theorem choO_len {n : Nat} {m : List Int} (hm : PM.PN n m) {ys : List Int} (hy : ∀ y ∈ ys, 0 ≤ y ∧ y < n) : (PM.choO m ys).length ≤ n := by
  have h1 : (PM.choO m ys).length ≤ (PM.pts n).length := PM.nodup_sub_len (PM.choO_asc m ys).nodup fun v hv => by
    obtain ⟨y, hy1, rfl⟩ := PM.mem_choO.1 hv
    obtain ⟨h0, h1⟩ := hy y hy1
    exact PM.mem_pts.2 (hm.rng h0 h1)
  rwa [PM.pts_len] at h1
theorem orbTo_rng {j n : Nat} (hj : j ≤ n) {T : PM.Rows} {k : Nat} : ∀ y ∈ orbTo j T k, 0 ≤ y ∧ y < (n : Int) := fun y hy => by
  unfold orbTo at hy
  have := PM.mem_pts.1 (List.mem_filter.1 hy).1
  omega
set_option maxHeartbeats 2000000 in
theorem choicesAt_any {e : TypeId} {B : Nat} {L : Lay} {gv : Nat → Value} {n : Nat} {G : PM.Gens} {T : PM.Rows} {M F : List Nat} (w : World) (hC : Ch e B w L gv n G T M F) (hT : L.oT = 1) (i : Nat) (hi : i < n) (v : Value) (m : List Int) (fm : List Nat)
    (hv : Rd w v m fm) (hm : PM.PN n m) :
    Calls Tryz.prog 135 #[.pointer (some ⟨L.g, 0, none⟩), .int .i64 i, v] w fun e w' => ∃ b o c f, e = .returned (.slice (some ⟨b, o, none⟩) (PM.cho n T i m).length c) ∧ IntsA w' (some ⟨b, o, none⟩) c (PM.cho n T i m) f ∧ Fresh w.heap.size w' f ∧ Only [] w w' := by
  obtain ⟨A, C, rfl, IM⟩ := hv.ints
  have hn20 := hC.le
  have hml := hm.1
  have cn := hC.cn
  have ct := hC.ct
  rw [hT] at ct
  have cr := hC.row i hi
  obtain ⟨R, hR⟩ : ∃ R, R = PM.cho n T i m := ⟨_, rfl⟩
  rw [← hR]
  have HR := Lib.hid hR
  have HC := Lib.hid hC
  have Hm := Lib.hid hm
  have HIM := Lib.hid IM
  have Hml := Lib.hid hml
  clear hC hm IM hml hR
  go_enter Tryz.func135, Tryz.ntmps135
  go_wp2
  go_loopw [7, 8] (fun o y wr => ∃ (j : Nat) (l : List Int) (b o' c : Nat) (f : List Nat), j ≤ n ∧ y = .int .i64 j ∧ Hid (l = PM.choO m (orbTo j T i)) ∧ o = .slice (some ⟨b, o', none⟩) l.length c ∧ IntsA wr (some ⟨b, o', none⟩) c l f ∧ Fresh w.heap.size wr f ∧ Only [] w wr)
    (fun _ y _ => n - (intOf y).toNat)
  case atStart => exact ⟨0, [], w.heap.size, 0, 0, [], Nat.zero_le _, rfl, Lib.hid rfl, rfl, IntsA.nil _ _ (by simp [maxLen]), Fresh.nil _ _, (Only.refl _ _).alloc _⟩
  case round =>
    obtain ⟨W2, hnew⟩ : ∃ W, W = wr := ⟨_, rfl⟩
    subst hnew
    obtain ⟨j, l, b, o', c, f, hj, rfl, hl, rfl, hI, hF, hO⟩ := hrel
    have y0 := hO.cell (by simp) cn
    by_cases hlt : j < n
    · have yt := hO.cell (by simp) ct
      have yr := hO.cell (by simp) cr
      have hC2 := HC.out.keep hO
      have hsu := choTo_succ m j T i
      rw [← hl.out] at hsu
      have Hsu := Lib.hid hsu
      have hll : l.length ≤ 1000 := by
        rw [hl.out]
        have := choO_len Hm.out (orbTo_rng (j := j) (n := n) (by omega) (T := T) (k := i))
        omega
      have hltI : (j : Int) < (n : Int) := by omega
      clear hsu
      by_cases ht : PM.tr T i (j : Int) = []
      · have c4 := hC2.at_nil hi (y := (j : Int)) (by omega) (by omega) ht
        simp only [Int.toNat_natCast] at c4
        have Ht := Lib.hid ht
        clear ht hC2
        go_wp2
        go_roundw
        case rel => exact ⟨j + 1, l, b, o', c, f, by omega, by go_num, Lib.hid (by rw [Hsu.out, if_pos Ht.out]), rfl, hI, hF, hO⟩
        case measure => simp [intOf]; omega
      · obtain ⟨b4, off4, cap4, f4, c4, -, -⟩ := hC2.at_some hi (y := (j : Int)) (by omega) (by omega) ht
        simp only [Int.toNat_natCast] at c4
        obtain ⟨b3, o3, rfl, -, c3⟩ := (HIM.out.keep hO).at_pm (x := (j : Int)) (by omega) (by rw [Hml.out]; omega)
        simp only [Int.toNat_natCast] at c3
        have hpos : (0 : Int) < ((PM.tr T i (j : Int)).length : Int) := by have := List.length_pos_iff.2 ht; omega
        have hjm : (j : Int) < (m.length : Int) := by rw [Hml.out]; omega
        have hmr := Hm.out.rng (x := (j : Int)) (by omega) (by omega)
        have HmI := Lib.hid (show I64 (PM.at_ m (j : Int)) by unfold I64; omega)
        have Ht := Lib.hid ht
        have hsz := hO.size
        clear ht hC2 hmr
        go_wp2_with (first
          | (go_at_call 143; (with_reducible refine (insertSorted_any b o' c l f (PM.at_ m (j : Int)) W2 hI hll HmI.out).mono ?_); rintro en w3 ⟨b5, o5, c5, f5, rfl, hI5, hf5, t5⟩)
          | fail "no arm")
        have hF5 : Fresh w.heap.size w3 f5 := by
          rcases hf5 with h | h
          · rw [h]; exact hF.keep t5
          · exact h.mono hsz
        go_roundw
        case rel => exact ⟨j + 1, _, b5, o5, c5, f5, by omega, by go_num, Lib.hid (by rw [Hsu.out, if_neg Ht.out]), rfl, hI5, hF5, hO.trans t5⟩
        case measure => simp [intOf]; omega
    · obtain rfl : j = n := by omega
      have hRl : R = l := by rw [HR.out, hl.out]; rfl
      have HRl := Lib.hid hRl
      have hge : ¬ ((j : Int) < (j : Int)) := by omega
      clear hRl hl
      go_wp2
      go_ret
      rw [HRl.out]
      exact ⟨b, o', c, rfl, f, hI, hF, hO⟩
set_option maxHeartbeats 4000000 in
theorem withEntry_any {e : TypeId} {B : Nat} {L : Lay} {gv : Nat → Value} {n : Nat} {G : PM.Gens} {T : PM.Rows} {M F : List Nat} (w : World) (hC : Ch e B w L gv n G T M F) (hw : PM.WF n T) (hT : L.oT = 1) (i : Nat) (hi : i < n) (v : Value) (m : List Int) (fm : List Nat)
    (hv : Rd w v m fm) (hm : PM.PN n m) (vv : Int) (hvv : vv ∈ PM.cho n T i m) :
    Calls Tryz.prog 136 #[.pointer (some ⟨L.g, 0, none⟩), .int .i64 i, v, .int .i64 vv] w fun e w' => ∃ v' f', e = .returned v' ∧ Rd w' v' (PM.putV T i m vv) f' ∧ Fresh w.heap.size w' f' ∧ Only [] w w' := by
  have hn20 := hC.le
  obtain ⟨hv0, hv1, hp0, hp1, hp2, hp3⟩ := PM.cho_pre hm hvv
  obtain ⟨A, C, rfl, IM⟩ := hv.ints
  obtain ⟨y, hy⟩ : ∃ y, y = PM.at_ (PM.inv m) vv := ⟨_, rfl⟩
  rw [← hy] at hp0 hp1 hp2 hp3
  have hput : PM.putV T i m vv = PM.comp (PM.tr T i y) m := by unfold PM.putV; rw [← hy]
  have ct := hC.ct
  rw [hT] at ct
  have cr := hC.row i hi
  obtain ⟨bt, ot, capt, ft, crt, hrt, -⟩ := hC.at_some hi hp0 hp1 hp2
  have htp := hw.pn i y hi hp2
  have hil : ((PM.inv m).length : Int) = (n : Int) := by rw [hm.inv.1]
  have Hm := Lib.hid hm
  have Hp := Lib.hid hput
  have Htp := Lib.hid htp
  have Hy := Lib.hid hy
  have Hil := Lib.hid hil
  have hvl : vv < ((PM.inv m).length : Int) := by rw [hil]; exact hv1
  clear hC hm hvv hy hput hp2 hp3 htp IM hil
  go_enter Tryz.func136, Tryz.ntmps136
  go_wp2_with fail
  have kd : Only [] w w.drew := (Only.refl _ _).drew
  have dt := kd.cell (by simp) ct
  have dr := kd.cell (by simp) cr
  have dy := kd.cell (by simp) crt
  have HcI := Lib.hid (fun (W : World) (hW : Only [] w W) => specInv_rd n _ m _ W (Rp.keep hv hW) Hm.out (by omega))
  have HcC := Lib.hid (fun (W : World) (hW : Only [] w W) => specCompose_rd n _ _ (PM.tr T i y) m _ _ W (Rp.keep hrt hW) (Rp.keep hv hW) Htp.out Hm.out (by omega))
  clear kd
  go_region_law (first
    | (go_simp; go_at_call 123; (with_reducible refine (HcI.out _ (by with_reducible repeat (first | exact Only.refl _ _ | refine Only.drew ?_))).mono ?_); rintro e w3 ⟨v3, f3, rfl, r3, F3, t3⟩; have k3 : Only [] w w3 := Only.trans (by with_reducible repeat (first | exact Only.refl _ _ | refine Only.drew ?_)) t3; obtain ⟨a3, c3, rfl, I3⟩ := r3.ints; obtain ⟨b3, o3, rfl, -, x3⟩ := I3.at_pm (x := vv) hv0 hvl; rw [← Hy.out] at x3; have et := k3.cell (by simp) ct; have er := k3.cell (by simp) cr; have ey := k3.cell (by simp) crt)
    | (go_simp; go_at_call 46; (with_reducible refine (HcC.out _ (by with_reducible first | exact k3 | exact k3.drew)).mono ?_); rintro e w5 ⟨v5, f5, rfl, r5, F5, t5⟩; have k5 : Only [] w w5 := Only.trans (by with_reducible first | exact k3 | exact k3.drew) t5)
    | fail "no arm")
  all_goals have hF5 : Fresh w.heap.size w5 f5 := F5.mono (by have := k3.size; (try simp); omega)
  all_goals go_wp2
  all_goals go_ret
  all_goals exact ⟨v5, f5, rfl, by rw [Hp.out]; exact r5, hF5, k5⟩
theorem nextState_g (seed : Int) (i : Nat) (w : World) :
    Calls Tryz.prog 134 #[.int .i64 (gst seed i)] w fun e w' => e = .returned (.int .i64 (gst seed (i + 1))) ∧ w' = w :=
  nextState_any (gst seed i) (gst_rng seed i).1 (gst_rng seed i).2 w
set_option maxHeartbeats 4000000 in
theorem specRandomMember_yes (n : Nat) (vg : Value) (gens : List (List Int)) (fpg : List Nat) (seed : Int) (w : World) (hg : Rd w vg gens fpg) (hgs : gensB n gens = true) (hs : I64 seed) :
    Calls Tryz.prog 109 #[.int .i64 n, vg, .int .i64 seed] w fun e w' => ∃ v f, e = .returned (.tuple #[v, .bool true]) ∧ Rd w' v (randM n gens seed) f ∧ Fresh w.heap.size w' f ∧ Only [] w w' := by
  obtain ⟨⟨n1, n20⟩, hgl, hpn⟩ := gensB_iff.1 hgs
  have hpn' : ∀ g ∈ gens, PM.PN n g := by simpa using hpn
  have hn : 0 < n := by omega
  have hn20 : n ≤ 20 := by omega
  have Hgs := Lib.hid hgs
  have Hpn := Lib.hid hpn'
  clear hpn hpn' hgs
  obtain ⟨R, hR⟩ : ∃ R, R = randM n gens seed := ⟨_, rfl⟩
  rw [← hR]
  have HR := Lib.hid hR
  clear hR
  go_enter Tryz.func109, Tryz.ntmps109
  go_wp2_with (first
    | (go_at_call 102; (with_reducible refine (specIsGens_rd n vg gens fpg w hg).mono ?_); rintro en w1 ⟨he, t1⟩; rw [Hgs.out] at he; subst he; have t1 := t1.only [])
    | (go_at_call 105; (with_reducible refine (buildChain_any n hn hn20 vg gens fpg w1 (Rp.keep hg t1) Hpn.out (by omega)).mono ?_); rintro en w3 ⟨L, gv, G, T, M, F, rfl, hoG, hoT, hC, hCh, t3⟩)
    | (go_at_call 133; (with_reducible refine (firstState_any seed hs w3).mono ?_); rintro en w3' ⟨rfl, h3⟩; rw [h3]; clear h3)
    | (go_at_call 59; (with_reducible refine (specIdentity_any n w3 (by omega)).mono ?_); rintro en w4 ⟨v4, f4, rfl, r4, F4, t4⟩)
    | fail "no arm")
  have k4 : Only [] w w4 := (t1.trans t3).trans t4
  have hF4 : Fresh w.heap.size w4 f4 := F4.mono (by have := (t1.trans t3).size; omega)
  have hC4 := hC.keep t4
  have hR0 : R = PM.desc T n (rsel seed) (n - 0) 0 (PM.pts n) := by rw [HR.out, Nat.sub_zero]; exact (hCh.descG hn Hpn.out (rsel seed) (rsel_good hCh.inv.wf seed)).symm
  have HR0 := Lib.hid hR0
  have HCh := Lib.hid hCh
  have HoT := Lib.hid hoT
  clear hR0 hCh hoT hoG hC t1 t3 t4 F4
  go_loopw [9, 10, 11] (fun s v i wr => ∃ (j : Nat) (m : List Int) (f : List Nat), j ≤ n ∧ i = .int .i64 j ∧ s = .int .i64 (gst seed j) ∧ Rd wr v m f ∧ Fresh w.heap.size wr f ∧ Ch 27 w1.heap.size wr L gv n G T M F ∧ PM.Grp n gens m ∧ Hid (R = PM.desc T n (rsel seed) (n - j) j m) ∧ Only [] w wr)
    (fun _ _ i _ => n - (intOf i).toNat)
  case atStart => exact ⟨0, PM.pts n, f4, Nat.zero_le _, rfl, rfl, r4, hF4, hC4, .id, HR0, k4⟩
  case round =>
    obtain ⟨W2, hnew⟩ : ∃ W, W = wr := ⟨_, rfl⟩
    subst hnew
    clear r4 hF4 hC4 k4
    obtain ⟨j, m, f, hj, rfl, rfl, hr, hF, hC, hgr, hRR, hO⟩ := hrel
    by_cases hlt : j < n
    · have hpm : PM.PN n m := hgr.pn Hpn.out
      have hwf := HCh.out.inv.wf
      obtain ⟨C, hCd⟩ : ∃ C, C = PM.cho n T j m := ⟨_, rfl⟩
      have hCl : 0 < C.length := by rw [hCd, PM.cho_len hpm]; exact PM.cntR_pos hwf hlt
      have hCl2 : C.length ≤ 20 := by rw [hCd, PM.cho_len hpm]; have := PM.cntR_le n T j; omega
      obtain ⟨k, hk⟩ : ∃ k, k = rsel seed j C.length := ⟨_, rfl⟩
      have hkl : k < C.length := by rw [hk]; exact rsel_lt hCl
      have hkm : C[k] ∈ PM.cho n T j m := by rw [← hCd]; exact List.getElem_mem hkl
      have hgr2 := HCh.out.putV hn Hpn.out hlt hgr hkm
      have hRR2 : R = PM.desc T n (rsel seed) (n - (j + 1)) (j + 1) (PM.putV T j m C[k]) := by
        subst hCd
        rw [hRR.out]
        exact PM.desc_step hlt m hk hkl
      have hrem : Int.tmod (gst seed (j + 1)) (C.length : Int) = (k : Int) := by
        rw [tmod_pos (gst_rng seed (j + 1)).1, hk]
        unfold rsel
        have h2 := Int.emod_nonneg (gst seed (j + 1)) (show (C.length : Int) ≠ 0 by omega)
        omega
      have hne0 : ¬ ((C.length : Int) = 0) := by omega
      have HcS := Lib.hid (choicesAt_any W2 hC HoT.out j hlt u10 m f hr hpm)
      rw [← hCd] at HcS
      have HRR2 := Lib.hid hRR2
      have Hgr2 := Lib.hid hgr2
      have Hkm := Lib.hid hkm
      have Hpm := Lib.hid hpm
      have Hwf := Lib.hid hwf
      have HC := Lib.hid hC
      have hltI : (j : Int) < (n : Int) := by omega
      have hO2 := hO.size
      clear hCd hk hRR2 hgr2 hkm hpm hwf hC hgr hRR
      go_wp2_with (first
        | (go_at_call 134; (with_reducible refine (nextState_g seed j W2).mono ?_); rintro en w5 ⟨rfl, h5⟩; rw [h5]; clear h5)
        | (go_at_call 135; (with_reducible refine (HcS.out).mono ?_); rintro en w6 ⟨b6, o6, c6, f6, rfl, I6, F6, t6⟩; obtain ⟨b8, o8, e8, -, c8⟩ := I6.at_ k hkl; injection e8 with e8; injection e8 with e81 e82; subst e81; subst e82)
        | (go_at_call 136; (with_reducible refine (withEntry_any w6 (HC.out.keep t6) Hwf.out HoT.out j hlt u10 m f (Rp.keep hr t6) Hpm.out C[k] Hkm.out).mono ?_); rintro en w7 ⟨v7, f7, rfl, r7, F7, t7⟩)
        | fail "no arm")
      have hF7 : Fresh w.heap.size w7 f7 := F7.mono (by have := t6.size; omega)
      go_roundw
      case rel => exact ⟨j + 1, _, f7, by omega, by go_num, rfl, r7, hF7, (HC.out.keep t6).keep t7, Hgr2.out, HRR2, (hO.trans t6).trans t7⟩
      case measure => simp [intOf]; omega
    · obtain rfl : j = n := by omega
      have hfin : R = m := by rw [hRR.out]; exact PM.desc_end (Nat.le_refl _) m
      have hge : ¬ ((j : Int) < (j : Int)) := by omega
      have Hfin := Lib.hid hfin
      clear hfin hRR
      go_wp2
      exact bodyPost_ret (v := .tuple #[u10, .bool true]) (by simp [results, Tryz.results109, go_sem]) rfl ⟨u10, rfl, f, by rw [Hfin.out]; exact hr, hF, hO⟩
end Go.Proofs.YtajkhdbdkjhilaaGreat

namespace Go.Proofs.YtajkhdbdkjhilaaGreat
open Go.RowKit
set_option maxRecDepth 10000

/-- a session with a random member as its state -/
noncomputable def scrS (x : Session) (seed : Int) : Session × Bool := if validSe x = true then (⟨x.puzzle, randM x.puzzle.points.toNat x.puzzle.moves seed, [], []⟩, true) else (noSess, false)
theorem Fresh.comm {B : Nat} {w : World} {fp fp' : List Nat} (h : Fresh B w (fp ++ fp')) : Fresh B w (fp' ++ fp) :=
  ⟨List.perm_append_comm.nodup_iff.1 h.nd, fun b hb => h.ge b (List.perm_append_comm.mem_iff.1 hb), fun b hb => h.own b (List.perm_append_comm.mem_iff.1 hb)⟩
theorem tr_nil (k : Nat) (y : Int) : PM.tr [] k y = [] := by unfold PM.tr; split <;> simp
theorem desc_nil (n : Nat) (sel : Nat → Nat → Nat) : ∀ (k i : Nat) (m : List Int), 0 < k → (PM.desc [] n sel k i m).length = 0
  | k + 1, i, m, _ => by
    have hp : ∀ v, PM.putV [] i m v = [] := fun v => by unfold PM.putV; rw [tr_nil]; rfl
    show (PM.desc [] n sel k (i + 1) (PM.putV [] i m _)).length = 0
    rw [hp]
    cases k with
    | zero => rfl
    | succ k => exact desc_nil n sel (k + 1) (i + 1) [] (by omega)
theorem randM_len {n : Nat} {gens : List (List Int)} {seed : Int} (hn : 0 < n) (hp : ∀ g ∈ gens, PM.PN n g) : (randM n gens seed).length ≤ n := by
  by_cases hex : ∃ T, ∃ G, PM.Chain n gens G T
  · obtain ⟨T, G, h⟩ := hex
    exact Nat.le_of_eq ((h.descG_grp hn hp (rsel seed) (rsel_good h.inv.wf seed)).pn hp).1
  · unfold randM PM.descG PM.chainR
    rw [dif_neg hex, desc_nil _ _ _ _ _ hn]
    exact Nat.zero_le _
theorem validSe_gens {x : Session} (h : validSe x = true) : gensB x.puzzle.points x.puzzle.moves = true := by
  obtain ⟨h1, -⟩ := validSe_facts h
  exact validPz_gensB (stateB_valid h1)
theorem specRM_i (n : Int) (vg : Value) (gens : List (List Int)) (fpg : List Nat) (seed : Int) (w : World) (hg : Rd w vg gens fpg) (hgs : gensB n gens = true) (hs : I64 seed) :
    Calls Tryz.prog 109 #[.int .i64 n, vg, .int .i64 seed] w fun e w' => ∃ v f, e = .returned (.tuple #[v, .bool true]) ∧ Rd w' v (randM n.toNat gens seed) f ∧ Fresh w.heap.size w' f ∧ Only [] w w' := by
  obtain ⟨⟨n1, n20⟩, -, -⟩ := gensB_iff.1 hgs
  obtain ⟨m, rfl⟩ := Int.eq_ofNat_of_zero_le (by omega : 0 ≤ n)
  exact specRandomMember_yes m vg gens fpg seed w hg hgs hs
end Go.Proofs.YtajkhdbdkjhilaaGreat

namespace Go.Proofs.YtajkhdbdkjhilaaGreat
open Go.RowKit
set_option maxRecDepth 10000

instance : Rp UInt8 where
  size := 1
  rep _ cs x fp := cs = [.int .u8 (x.toNat : Int)] ∧ fp = []
  len h := by rw [h.1]; rfl
  frame h _ := h
  lt h := by rw [h.2]; simp
/-- the dice at block g, over the bytes l -/
def Dice (w : World) (g : Nat) (fc : List Nat) (l : List UInt8) : Prop :=
  ∃ a c i h, Blk w g [.slice a l.length c, .int .i64 i, .int .u64 h] ∧ (0 ≤ i ∧ i ≤ l.length) ∧ (0 ≤ h ∧ h < 18446744073709551616) ∧ Rd w (.slice a l.length c) l fc ∧ g ∉ fc
theorem Dice.keep {w w' : World} {g : Nat} {fc : List Nat} {l : List UInt8} (h : Dice w g fc l) (ho : Only [] w w') : Dice w' g fc l := by
  obtain ⟨a, c, i, x, h1, h2, h3, h4, h5⟩ := h
  exact ⟨a, c, i, x, h1.keep ho, h2, h3, Rp.keep h4 ho, h5⟩
theorem Dice.only {w w' : World} {g : Nat} {fc fp : List Nat} {l : List UInt8} (h : Dice w g fc l) (ho : Only fp w w') (hg : g ∉ fp) (hc : ∀ b ∈ fc, b ∉ fp) : Dice w' g fc l := by
  obtain ⟨a, c, i, x, h1, h2, h3, h4, h5⟩ := h
  exact ⟨a, c, i, x, h1.only ho hg, h2, h3, Rp.only h4 ho hc, h5⟩
theorem Dice.lt {w : World} {g : Nat} {fc : List Nat} {l : List UInt8} (h : Dice w g fc l) : g < w.heap.size := by
  obtain ⟨a, c, i, x, h1, -⟩ := h; exact h1.lt
set_option maxHeartbeats 1000000 in
theorem big_any (v : Value) (l : List UInt8) (fc : List Nat) (w : World) (h : Rd w v l fc) :
    Calls Tryz.prog 5 #[v] w fun e w' => e = .returned (.bool (decide (4096 < l.length))) ∧ Only [] w w' := by
  obtain ⟨a, cap, ob, fps, rfl, -, hs⟩ := h.open_
  have hb := hs.bound
  have he : decide ((4096 : Int) < (l.length : Int)) = decide (4096 < l.length) := by
    by_cases h : 4096 < l.length
    · rw [decide_eq_true h, decide_eq_true (by omega)]
    · rw [decide_eq_false h, decide_eq_false (by omega)]
  have He := Lib.hid he
  clear he
  go_enter Tryz.func5, Tryz.ntmps5
  go_wp2
  go_ret
  exact ⟨ret_bool (by first | exact He.out | rfl), (by with_reducible repeat (first | exact Only.refl _ _ | assumption | refine Only.drewN ?_ _ | refine Only.drew ?_ | refine Only.alloc ?_ _ | refine Only.setCell ?_ (by intro hh; exfalso; simp at hh; try omega) _ | refine Only.trans ?_ (by assumption)))⟩


end Go.Proofs.YtajkhdbdkjhilaaGreat

namespace Go.Proofs.YtajkhdbdkjhilaaGreat
open Go.RowKit
set_option maxRecDepth 10000

theorem and255 (n : Int) : bits .and .i64 n 255 = n % 256 := by
  have h127 : (BitVec.ofInt 64 255).toNat = 2 ^ 8 - 1 := by decide
  have key : (BitVec.ofInt 64 n &&& BitVec.ofInt 64 255).toNat = (n % ((2 ^ 64 : Nat) : Int)).toNat % 2 ^ 8 := by
    rw [BitVec.toNat_and, BitVec.toNat_ofInt, h127, Nat.and_two_pow_sub_one_eq_mod]
  show IntKind.i64.wrap ((BitVec.ofInt 64 n &&& BitVec.ofInt 64 255).toNat : Nat) = n % 256
  rw [key, IntKind.wrap_i64]
  omega
theorem and30 (n : Int) : bits .and .i64 n 1073741823 = n % 1073741824 := by
  have h127 : (BitVec.ofInt 64 1073741823).toNat = 2 ^ 30 - 1 := by decide
  have key : (BitVec.ofInt 64 n &&& BitVec.ofInt 64 1073741823).toNat = (n % ((2 ^ 64 : Nat) : Int)).toNat % 2 ^ 30 := by
    rw [BitVec.toNat_and, BitVec.toNat_ofInt, h127, Nat.and_two_pow_sub_one_eq_mod]
  show IntKind.i64.wrap ((BitVec.ofInt 64 n &&& BitVec.ofInt 64 1073741823).toNat : Nat) = n % 1073741824
  rw [key, IntKind.wrap_i64]
  omega
/-- the source at block g, over the bytes l -/
def Src (w : World) (g : Nat) (fc : List Nat) (l : List UInt8) : Prop :=
  ∃ a c i h, Blk w g [.slice a l.length c, .int .i64 i, .int .i64 h] ∧ (0 ≤ i ∧ i ≤ l.length) ∧ I64 h ∧ Rd w (.slice a l.length c) l fc ∧ g ∉ fc
theorem Src.keep {w w' : World} {g : Nat} {fc : List Nat} {l : List UInt8} (h : Src w g fc l) (ho : Only [] w w') : Src w' g fc l := by
  obtain ⟨a, c, i, x, h1, h2, h3, h4, h5⟩ := h
  exact ⟨a, c, i, x, h1.keep ho, h2, h3, Rp.keep h4 ho, h5⟩
theorem Src.only {w w' : World} {g : Nat} {fc fp : List Nat} {l : List UInt8} (h : Src w g fc l) (ho : Only fp w w') (hg : g ∉ fp) (hc : ∀ b ∈ fc, b ∉ fp) : Src w' g fc l := by
  obtain ⟨a, c, i, x, h1, h2, h3, h4, h5⟩ := h
  exact ⟨a, c, i, x, h1.only ho hg, h2, h3, Rp.only h4 ho hc, h5⟩
theorem Src.lt {w : World} {g : Nat} {fc : List Nat} {l : List UInt8} (h : Src w g fc l) : g < w.heap.size := by
  obtain ⟨a, c, i, x, h1, -⟩ := h; exact h1.lt
set_option maxHeartbeats 4000000 in
theorem newSource_any (v : Value) (l : List UInt8) (fc : List Nat) (w : World) (h : Rd w v l fc) (hl : l.length ≤ 4096) :
    Calls Tryz.prog 23 #[v] w fun e w' => ∃ g, e = .returned (.pointer (some ⟨g, 0, none⟩)) ∧ Src w' g fc l ∧ w.heap.size ≤ g ∧ Only [] w w' := by
  obtain ⟨a, c, ob, fps, rfl, hfc, hS⟩ := h.open_
  have hlt := Rp.lt h
  go_enter Tryz.func23, Tryz.ntmps23
  go_wp2
  go_loopw [3, 4] (fun hv i wr => ∃ (j : Nat) (x : Int), j ≤ l.length ∧ i = .int .i64 j ∧ hv = .int .i64 x ∧ (0 ≤ x ∧ x ≤ 1073741823) ∧ Only [] w wr)
    (fun _ i _ => l.length - (intOf i).toNat)
  case atStart => exact ⟨0, 590033 + l.length, Nat.zero_le _, rfl, by first | rfl | (congr 1; rw [IntKind.wrap_i64]; omega), by omega, Only.refl _ _⟩
  case round =>
    obtain ⟨W2, hnew⟩ : ∃ W, W = wr := ⟨_, rfl⟩
    subst hnew
    obtain ⟨j, x, hj, rfl, rfl, hr, hK⟩ := hrel
    by_cases hlt2 : j < l.length
    · obtain ⟨b, off, cs, rfl, -, hc0, hrb⟩ := hS.at_ j hlt2
      obtain ⟨rfl, -⟩ := hrb
      have hcb0 : w.cell? ⟨b, off + j, none⟩ = some (.int .u8 (l[j].toNat : Int)) := by simpa [Rp.size] using hc0 0 _ rfl
      have hcb := hK.cell (by simp) hcb0
      clear hc0 hcb0
      have hi0 : (0 : Int) ≤ (j : Int) := by omega
      have hi1 : (j : Int) < (l.length : Int) := by omega
      go_wp2
      exact ⟨⟨j + 1, _, by omega, by go_num, rfl, by rw [and30]; omega, hK⟩, by simp [intOf]; omega⟩
    · obtain rfl : j = l.length := by omega
      have hW := Rp.keep h hK
      have X0 := Blk.new W2 [.slice a l.length c, .int .i64 0, .int .i64 x] 78
      go_wp2
      go_ret
      exact ⟨W2.heap.size, rfl, ⟨a, c, 0, x, X0, ⟨by omega, by omega⟩, by unfold I64; omega, Rp.keep hW ((Only.refl _ _).alloc _), fun hm => by have := hlt _ hm; have := hK.size; omega⟩, hK.size, hK.alloc _⟩
set_option maxHeartbeats 4000000 in
theorem nextByte_any (g : Nat) (fc : List Nat) (l : List UInt8) (w : World) (h : Src w g fc l) (hl : l.length ≤ 4096) :
    Calls Tryz.prog 94 #[.pointer (some ⟨g, 0, none⟩)] w fun e w' => ∃ r : Int, e = .returned (.int .i64 r) ∧ 0 ≤ r ∧ r ≤ 255 ∧ Src w' g fc l ∧ Only [g] w w' := by
  obtain ⟨a, c, i, x, h1, h2, h3, h4, h5⟩ := h
  have y0 := h1.cell 0 rfl
  have y1 := h1.cell 1 rfl
  have y2 := h1.cell 2 rfl
  have p1 := h1.frozen 1
  have p2 := h1.frozen 2
  go_enter Tryz.func94, Tryz.ntmps94
  go_upto_region 2 with fail
  obtain ⟨x2, hx2⟩ : ∃ x2, x2 = wrap64 (wrap64 (x * 6364136223846793005) + 1442695040888963407) := ⟨_, rfl⟩
  have hr2 : I64 x2 := by rw [hx2]; unfold wrap64 I64; omega
  rw [← hx2]
  clear hx2
  have B1 := h1.set 2 (.int .i64 x2)
  simp only [List.set] at B1
  have k1 : Only [g] w (w.setCell ⟨g, 2, none⟩ (.int .i64 x2)) := (Only.refl _ _).setCell (by simp) _
  have r1 : Rd (w.setCell ⟨g, 2, none⟩ (.int .i64 x2)) (.slice a l.length c) l fc := Rp.only h4 k1 (fun b hb hm => h5 (by simp at hm; rwa [← hm]))
  obtain ⟨w1, hw1⟩ : ∃ w1, w1 = w.setCell ⟨g, 2, none⟩ (.int .i64 x2) := ⟨_, rfl⟩
  rw [← hw1] at B1 k1 r1 ⊢
  clear hw1 y0 y1 y2 p1 p2 h1 h4 h3
  have y0 := B1.cell 0 rfl
  have y1 := B1.cell 1 rfl
  have y2 := B1.cell 2 rfl
  go_quiet (fail)
  go_wp2
  obtain ⟨v3, hv3⟩ : ∃ v3, v3 = bits BinOp.and IntKind.i64 (bits BinOp.xor IntKind.i64 (x2 / 8589934592) (x2 / 35184372088832)) 255 := ⟨_, rfl⟩
  have hr3 : 0 ≤ v3 ∧ v3 ≤ 255 := by rw [hv3, and255]; omega
  rw [← hv3]
  clear hv3
  obtain ⟨ob, fps, hfc, hS⟩ : ∃ ob fps, fc = ob ++ fps.flatten ∧ SeqA w1 a c l ob fps := by obtain ⟨a', c', ob, fps, hv, hf, hs⟩ := r1.open_; injection hv with e1 _ e2; subst e1; subst e2; exact ⟨ob, fps, hf, hs⟩
  obtain ⟨k, rfl⟩ := Int.eq_ofNat_of_zero_le h2.1
  have hwk : IntKind.i64.wrap ((k : Int) + 1) = (k : Int) + 1 := by rw [IntKind.wrap_i64]; omega
  by_cases hil : k < l.length
  · have hilb : decide ((k : Int) < (l.length : Int)) = true := decide_eq_true (by omega)
    obtain ⟨b, off, cs, rfl, -, hc0, hrb⟩ := hS.at_ k hil
    obtain ⟨rfl, -⟩ := hrb
    have hcb : w1.cell? ⟨b, off + k, none⟩ = some (.int .u8 (l[k].toNat : Int)) := by simpa [Rp.size] using hc0 0 _ rfl
    clear hc0
    have hby : l[k].toNat < 256 := UInt8.toNat_lt _
    have hw8 : wrap64 (l[k].toNat : Int) = (l[k].toNat : Int) := by unfold wrap64; omega
    have hws : IntKind.i64.wrap (v3 + (l[k].toNat : Int)) = v3 + (l[k].toNat : Int) := by rw [IntKind.wrap_i64]; omega
    have hi0 : (0 : Int) ≤ (k : Int) := by omega
    have hi1 : (k : Int) < (l.length : Int) := by omega
    have p1 := B1.frozen 1
    go_quiet (fail)
    go_wp2
    go_quiet (fail)
    go_wp2
    go_ret
    refine ⟨_, rfl, by rw [and255]; omega, by rw [and255]; omega, ⟨some ⟨b, off, none⟩, c, (k : Int) + 1, x2, ?_, ⟨by omega, by omega⟩, hr2, ?_, h5⟩, (k1.drewN _).setCell (by simp) _⟩
    · simpa [List.set] using ((B1.keep (Only.ofDrewN w1 _ [])).set 1 (.int .i64 ((k : Int) + 1)))
    · exact Rp.only r1 (fp' := [g]) ((Only.ofDrewN _ _ _).setCell (by simp) _) (fun b hb hm => h5 (by simp at hm; rwa [← hm]))
  · have hilb : decide ((k : Int) < (l.length : Int)) = false := decide_eq_false (by omega)
    go_quiet (fail)
    go_wp2
    go_ret
    exact ⟨v3, rfl, hr3.1, hr3.2, ⟨a, c, (k : Int), x2, B1.keep (by with_reducible repeat (first | exact Only.refl _ _ | assumption | refine Only.drewN ?_ _ | refine Only.drew ?_ | refine Only.alloc ?_ _ | refine Only.setCell ?_ (by intro hh; exfalso; simp at hh; try omega) _ | refine Only.trans ?_ (by assumption))), h2, hr2, Rp.keep r1 (by with_reducible repeat (first | exact Only.refl _ _ | assumption | refine Only.drewN ?_ _ | refine Only.drew ?_ | refine Only.alloc ?_ _ | refine Only.setCell ?_ (by intro hh; exfalso; simp at hh; try omega) _ | refine Only.trans ?_ (by assumption))), h5⟩, k1.trans (by with_reducible repeat (first | exact Only.refl _ _ | assumption | refine Only.drewN ?_ _ | refine Only.drew ?_))⟩
set_option maxHeartbeats 2000000 in
theorem srcBelow_any (g : Nat) (fc : List Nat) (l : List UInt8) (n : Int) (w : World) (h : Src w g fc l) (hl : l.length ≤ 4096) (hn : n ≤ 9223372036854775807) :
    Calls Tryz.prog 52 #[.pointer (some ⟨g, 0, none⟩), .int .i64 n] w fun e w' => ∃ r : Int, e = .returned (.int .i64 r) ∧ 0 ≤ r ∧ (r < n ∨ r = 0) ∧ Src w' g fc l ∧ Only [g] w w' := by
  by_cases h0 : n ≤ 0
  · go_enter Tryz.func52, Tryz.ntmps52
    go_wp2
    go_ret
    exact ⟨0, rfl, by omega, .inr rfl, h, Only.refl _ _⟩
  by_cases h1 : n ≤ 256
  · have hn0 : n ≠ 0 := by omega
    go_enter Tryz.func52, Tryz.ntmps52
    go_wp2_with (first
      | (go_at_call 94; (with_reducible refine (nextByte_any g fc l w h hl).mono ?_); rintro e w1 ⟨r, rfl, r0, r1, D1, K1⟩)
      | fail "no arm")
    go_ret
    exact ⟨r % n, rfl, Int.emod_nonneg _ hn0, .inl (Int.emod_lt_of_pos _ (by omega)), D1, K1⟩
  · have hn0 : n ≠ 0 := by omega
    go_enter Tryz.func52, Tryz.ntmps52
    go_wp2_with (first
      | (go_at_call 94; (with_reducible refine (nextByte_any g fc l w h hl).mono ?_); rintro e w1 ⟨r, rfl, r0, r1, D1, K1⟩)
      | (go_at_call 94; (with_reducible refine (nextByte_any g fc l w1 D1 hl).mono ?_); rintro e w2 ⟨r2, rfl, r20, r21, D2, K2⟩)
      | (go_at_call 94; (with_reducible refine (nextByte_any g fc l w2 D2 hl).mono ?_); rintro e w3 ⟨r3, rfl, r30, r31, D3, K3⟩)
      | (go_at_call 94; (with_reducible refine (nextByte_any g fc l w3 D3 hl).mono ?_); rintro e w4 ⟨r4, rfl, r40, r41, D4, K4⟩; have q1 : IntKind.i64.wrap (r * 16777216) = r * 16777216 := (by rw [IntKind.wrap_i64]; omega); have q2 : IntKind.i64.wrap (r2 * 65536) = r2 * 65536 := (by rw [IntKind.wrap_i64]; omega); have q3 : IntKind.i64.wrap (r * 16777216 + r2 * 65536) = r * 16777216 + r2 * 65536 := (by rw [IntKind.wrap_i64]; omega); have q4 : IntKind.i64.wrap (r3 * 256) = r3 * 256 := (by rw [IntKind.wrap_i64]; omega); have q5 : IntKind.i64.wrap (r * 16777216 + r2 * 65536 + r3 * 256) = r * 16777216 + r2 * 65536 + r3 * 256 := (by rw [IntKind.wrap_i64]; omega); have q6 : IntKind.i64.wrap (r * 16777216 + r2 * 65536 + r3 * 256 + r4) = r * 16777216 + r2 * 65536 + r3 * 256 + r4 := (by rw [IntKind.wrap_i64]; omega))
      | fail "no arm")
    go_ret
    exact ⟨(r * 16777216 + r2 * 65536 + r3 * 256 + r4) % n, rfl, Int.emod_nonneg _ hn0, .inl (Int.emod_lt_of_pos _ (by omega)), D4, ((K1.trans K2).trans K3).trans K4⟩
set_option maxHeartbeats 1000000 in
theorem oneIn_any (g : Nat) (fc : List Nat) (l : List UInt8) (n : Int) (w : World) (h : Src w g fc l) (hl : l.length ≤ 4096) (hn : n ≤ 9223372036854775807) :
    Calls Tryz.prog 25 #[.pointer (some ⟨g, 0, none⟩), .int .i64 n] w fun e w' => ∃ r : Bool, e = .returned (.bool r) ∧ Src w' g fc l ∧ Only [g] w w' := by
  go_enter Tryz.func25, Tryz.ntmps25
  go_wp2_with (first
    | (go_at_call 52; (with_reducible refine (srcBelow_any g fc l n w h hl hn).mono ?_); rintro e w1 ⟨r, rfl, r0, r1, D1, K1⟩)
    | fail "no arm")
  go_ret
  exact ⟨r == 0, rfl, D1, K1⟩
set_option maxHeartbeats 1000000 in
theorem between_rng (g : Nat) (fc : List Nat) (l : List UInt8) (lo hi : Int) (w : World) (h : Src w g fc l) (hl : l.length ≤ 4096) (h1 : lo ≤ hi) (h2 : -1000000 ≤ lo) (h3 : hi ≤ 1000000) :
    Calls Tryz.prog 67 #[.pointer (some ⟨g, 0, none⟩), .int .i64 lo, .int .i64 hi] w fun e w' => ∃ r : Int, e = .returned (.int .i64 r) ∧ lo ≤ r ∧ r ≤ hi ∧ Src w' g fc l ∧ Only [g] w w' := by
  have q1 : IntKind.i64.wrap (hi - lo) = hi - lo := by rw [IntKind.wrap_i64]; omega
  have q2 : IntKind.i64.wrap (hi - lo + 1) = hi - lo + 1 := by rw [IntKind.wrap_i64]; omega
  go_enter Tryz.func67, Tryz.ntmps67
  go_wp2_with (first
    | (go_at_call 52; (with_reducible refine (srcBelow_any g fc l (hi - lo + 1) w h hl (by omega)).mono ?_); rintro e w1 ⟨r, rfl, r0, r1, D1, K1⟩; have q3 : IntKind.i64.wrap (lo + r) = lo + r := (by rw [IntKind.wrap_i64]; omega))
    | fail "no arm")
  go_ret
  exact ⟨lo + r, rfl, by omega, by omega, D1, K1⟩
def extL : List Int := [-1, 0, 1, 2147483648, -2147483648, 1099511627776, 4611686018427387904, -4611686018427387904, 9223372036854775807, -9223372036854775808]
theorem extL_rng : ∀ y ∈ extL, I64 y := by intro y hy; simp [extL] at hy; unfold I64; omega
set_option maxHeartbeats 1000000 in
theorem extremeInt_any (g : Nat) (fc : List Nat) (l : List UInt8) (w : World) (h : Src w g fc l) (hl : l.length ≤ 4096) :
    Calls Tryz.prog 51 #[.pointer (some ⟨g, 0, none⟩)] w fun e w' => ∃ r : Int, e = .returned (.int .i64 r) ∧ I64 r ∧ Src w' g fc l ∧ Only [g] w w' := by
  have hlt := h.lt
  have hB := Blk.new w (extL.map (Value.int .i64)) 2
  have ho : Only [] w (w.alloc (.cells (extL.map (Value.int .i64)).toArray 2)) := (Only.refl _ _).alloc _
  go_enter Tryz.func51, Tryz.ntmps51
  go_wp2_with (first
    | (go_at_call 52; (with_reducible refine (srcBelow_any g fc l 10 _ (h.keep (by with_reducible repeat (first | exact Only.refl _ _ | assumption | refine Only.drewN ?_ _ | refine Only.drew ?_ | refine Only.alloc ?_ _ | refine Only.setCell ?_ (by intro hh; exfalso; simp at hh; try omega) _ | refine Only.trans ?_ (by assumption)))) hl (by omega)).mono ?_); rintro e w1 ⟨r, rfl, r0, r1, D1, K1⟩; obtain ⟨k, rfl⟩ := Int.eq_ofNat_of_zero_le r0; have hk : k < extL.length := (by show k < 10; omega); have hB1 := hB.only K1 (by simp; omega); have c1 := hB1.cell k (v := .int .i64 extL[k]) (by simp [hk]); have hk0 : (0 : Int) ≤ (k : Int) := (by omega); have hk1 : (k : Int) < 10 := (by omega))
    | fail "no arm")
  go_ret
  exact ⟨extL[k], rfl, extL_rng _ (List.getElem_mem _), D1, (ho.weaken [g]).trans K1⟩
end Go.Proofs.YtajkhdbdkjhilaaGreat

namespace Go.Proofs.YtajkhdbdkjhilaaGreat
open Go.RowKit
set_option maxRecDepth 10000

/-- one point more is laid into a permutation -/
theorem ins_isP {p : List Int} (h : PM.IsP p) {k : Nat} (_ : k ≤ p.length) : PM.IsP (p.take k ++ ((p.length : Int) :: p.drop k)) := by
  have hperm : (p.take k ++ ((p.length : Int) :: p.drop k)).Perm ((p.length : Int) :: p) := by
    have := List.perm_middle (l₁ := p.take k) (l₂ := p.drop k) (a := (p.length : Int))
    rwa [List.take_append_drop] at this
  have hl : (p.take k ++ ((p.length : Int) :: p.drop k)).length = p.length + 1 := by rw [hperm.length_eq]; rfl
  refine ⟨fun x hx => ?_, hperm.nodup_iff.2 (List.nodup_cons.2 ⟨fun hm => ?_, h.2⟩)⟩
  · rw [hl]
    rcases List.mem_cons.1 (hperm.mem_iff.1 hx) with rfl | hx
    · omega
    · have := h.1 x hx; omega
  · have := h.1 _ hm; omega
theorem IntsA.drop {w : World} {b off cap : Nat} {l : List Int} {fp : List Nat} (h : IntsA w (some ⟨b, off, none⟩) cap l fp) {k : Nat} (hk : k ≤ l.length) : IntsA w (some ⟨b, off + k, none⟩) (cap - k) (l.drop k) fp := by
  have hl := h.len
  have hc := h.cap
  refine ⟨by rw [List.length_drop]; omega, by omega, fun x hx => h.wf x (List.mem_of_mem_drop hx), fun i hi => ?_, h.lt, h.one⟩
  rw [List.length_drop] at hi
  obtain ⟨b', off', ha, hf, hcell⟩ := h.at_ (k + i) (by omega)
  injection ha with ha; injection ha with e1 e2; subst e1; subst e2
  refine ⟨b, off + k, rfl, hf, ?_⟩
  rw [Nat.add_assoc, List.getElem_drop]
  exact hcell

end Go.Proofs.YtajkhdbdkjhilaaGreat

namespace Go.Proofs.YtajkhdbdkjhilaaGreat
open Go.RowKit
set_option maxRecDepth 10000




end Go.Proofs.YtajkhdbdkjhilaaGreat

namespace Go.Proofs.YtajkhdbdkjhilaaGreat
open Go.RowKit
set_option maxRecDepth 10000

/-- the table of a tracked set -/
def bTab (x : Puzzle) (tr : List Int) : Option Table := (bfs16 x tr).map fun s => ⟨tr, s.1, s.2⟩
end Go.Proofs.YtajkhdbdkjhilaaGreat
