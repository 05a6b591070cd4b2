/- The way down a stabilizer chain (laws 33, 47): the choices at each level, the member that a selection leads to; it hangs on the group alone. Maps from strings to numbers that a call makes; the key of a list of small numbers. Maps from int64 to int64 that a call makes. (Printed by mkmapv.py out of XMap.) Equality of plain data: the reference's and the program's. Tracked sets, patterns and well-formed tables: the reference's and the program's. A table's faults, in plain words. Breadth-first search of patterns in plain words (law 16). Lists of one length in order; an index kept sorted by them (law 16). The reference's search: an index of lists kept sorted (law 16). The reference's search: its own memory (law 16). The reference's search: one list more (law 16). The reference's tables: what can be checked, where a letter leads. The reference's tables: letters, what lies behind a letter. (Written by mkspectab.py.) The reference's search from a list on: its state (law 16). Maps from strings to truth values that a call makes. The program's search of patterns: its state (law 16). -/
import Derived.Test.YtajkhdbdkjhilaaGreatRowSessionsG12
import Derived.Test.YtajkhdbdkjhilaaGreatRowSessionsG9
import Derived.Maps.OwnSet
import Derived.StringKeys
import Derived.Laws.BytesArg
import Derived.Maps.RangeWalk
import Derived.Test.YtajkhdbdkjhilaaGreatRowSessionsG6
import Derived.Test.YtajkhdbdkjhilaaGreatRowSessionsG3
import Derived.Test.YtajkhdbdkjhilaaGreatRowSessionsG8
import Derived.Laws.CopyOwn
import Derived.Test.YtajkhdbdkjhilaaGreatRowSessionsG11
import Derived.Test.YtajkhdbdkjhilaaGreatRowSessionsG1
import Derived.Deep.RegionHeld3
namespace PM

/-- one number more in an ascending list -/
def insU (v : Int) : List Int → List Int
  | [] => [v]
  | x :: l => if x < v then x :: insU v l else if x = v then x :: l else v :: x :: l
theorem mem_insU {v x : Int} : ∀ {l : List Int}, x ∈ insU v l ↔ x = v ∨ x ∈ l
  | [] => by simp [insU]
  | y :: l => by
    have ih := mem_insU (v := v) (x := x) (l := l)
    unfold insU
    by_cases h1 : y < v
    · rw [if_pos h1, List.mem_cons, ih, List.mem_cons]
      constructor
      · rintro (h | h | h)
        · exact Or.inr (Or.inl h)
        · exact Or.inl h
        · exact Or.inr (Or.inr h)
      · rintro (h | h | h)
        · exact Or.inr (Or.inl h)
        · exact Or.inl h
        · exact Or.inr (Or.inr h)
    · rw [if_neg h1]
      by_cases h2 : y = v
      · rw [if_pos h2]; subst h2; simp
      · rw [if_neg h2, List.mem_cons]
/-- ascending, each once -/
def Asc (l : List Int) : Prop := l.Pairwise (· < ·)
theorem insU_asc {v : Int} : ∀ {l : List Int}, Asc l → Asc (insU v l)
  | [], _ => by simp [insU, Asc]
  | y :: l, h => by
    obtain ⟨a, b⟩ := List.pairwise_cons.1 h
    have ih := insU_asc (v := v) b
    unfold insU
    by_cases h1 : y < v
    · rw [if_pos h1]
      refine List.pairwise_cons.2 ⟨fun z hz => ?_, ih⟩
      rcases mem_insU.1 hz with rfl | hz
      · exact h1
      · exact a z hz
    · rw [if_neg h1]
      by_cases h2 : y = v
      · rw [if_pos h2]; exact h
      · rw [if_neg h2]
        refine List.pairwise_cons.2 ⟨fun z hz => ?_, h⟩
        rcases List.mem_cons.1 hz with rfl | hz
        · omega
        · have := a z hz; omega
theorem asc_ext : ∀ {l l' : List Int}, Asc l → Asc l' → (∀ x, x ∈ l ↔ x ∈ l') → l = l'
  | [], [], _, _, _ => rfl
  | [], y :: l', _, _, h => by have := (h y).2 (by simp); cases this
  | x :: l, [], _, _, h => by have := (h x).1 (by simp); cases this
  | x :: l, y :: l', a, b, h => by
    obtain ⟨a1, a2⟩ := List.pairwise_cons.1 a
    obtain ⟨b1, b2⟩ := List.pairwise_cons.1 b
    have hxy : x = y := by
      have h1 := (h x).1 (by simp)
      have h2 := (h y).2 (by simp)
      rcases List.mem_cons.1 h1 with e | e
      · exact e
      · rcases List.mem_cons.1 h2 with e' | e'
        · exact e'.symm
        · have := b1 _ e; have := a1 _ e'; omega
    subst hxy
    have := asc_ext a2 b2 (fun z => ⟨fun hz => by
      rcases List.mem_cons.1 ((h z).1 (List.mem_cons_of_mem _ hz)) with e | e
      · have := a1 _ hz; omega
      · exact e, fun hz => by
      rcases List.mem_cons.1 ((h z).2 (List.mem_cons_of_mem _ hz)) with e | e
      · have := b1 _ hz; omega
      · exact e⟩)
    rw [this]
/-- the values of entry i in the members that begin as m -/
def choO (m : List Int) (ys : List Int) : List Int := ys.foldl (fun l y => insU (at_ m y) l) []
def rowP (n : Nat) (T : Rows) (i : Nat) : List Int := (pts n).filter fun y => decide (tr T i y ≠ [])
def cho (n : Nat) (T : Rows) (i : Nat) (m : List Int) : List Int := choO m (rowP n T i)
theorem choO_snoc (m ys : List Int) (y : Int) : choO m (ys ++ [y]) = insU (at_ m y) (choO m ys) := by
  unfold choO; rw [List.foldl_append]; rfl
theorem foldl_mem (m : List Int) {v : Int} : ∀ (ys acc : List Int), v ∈ ys.foldl (fun l y => insU (at_ m y) l) acc ↔ (∃ y ∈ ys, at_ m y = v) ∨ v ∈ acc
  | [], acc => by simp
  | y :: ys, acc => by
    rw [List.foldl_cons, foldl_mem m ys, mem_insU]
    constructor
    · rintro (⟨z, h1, h2⟩ | h | h)
      · exact Or.inl ⟨z, List.mem_cons_of_mem _ h1, h2⟩
      · exact Or.inl ⟨y, by simp, h.symm⟩
      · exact Or.inr h
    · rintro (⟨z, h1, h2⟩ | h)
      · rcases List.mem_cons.1 h1 with rfl | h1
        · exact Or.inr (Or.inl h2.symm)
        · exact Or.inl ⟨z, h1, h2⟩
      · exact Or.inr (Or.inr h)
theorem mem_choO {m ys : List Int} {v : Int} : v ∈ choO m ys ↔ ∃ y ∈ ys, at_ m y = v := by
  unfold choO; rw [foldl_mem]; simp
theorem foldl_asc (m : List Int) : ∀ (ys acc : List Int), Asc acc → Asc (ys.foldl (fun l y => insU (at_ m y) l) acc)
  | [], _, h => h
  | y :: ys, acc, h => by rw [List.foldl_cons]; exact foldl_asc m ys _ (insU_asc h)
theorem choO_asc (m ys : List Int) : Asc (choO m ys) := foldl_asc m ys [] List.Pairwise.nil
theorem mem_rowP {n : Nat} {T : Rows} {i : Nat} {y : Int} : y ∈ rowP n T i ↔ (0 ≤ y ∧ y < n) ∧ tr T i y ≠ [] := by
  unfold rowP; rw [List.mem_filter, mem_pts]; simp
theorem mem_cho {n : Nat} {T : Rows} {i : Nat} {m : List Int} {v : Int} : v ∈ cho n T i m ↔ ∃ y : Int, ((0 ≤ y ∧ y < n) ∧ tr T i y ≠ []) ∧ at_ m y = v := by
  unfold cho; rw [mem_choO]
  constructor
  · rintro ⟨y, h1, h2⟩; exact ⟨y, mem_rowP.1 h1, h2⟩
  · rintro ⟨y, h1, h2⟩; exact ⟨y, mem_rowP.2 h1, h2⟩
theorem Asc.nodup {l : List Int} (h : Asc l) : l.Nodup := List.Pairwise.imp (fun h => by omega) h
theorem rowP_nodup (n : Nat) (T : Rows) (i : Nat) : (rowP n T i).Nodup := List.Nodup.sublist List.filter_sublist (pts_nodup n)
theorem cho_len {n : Nat} {T : Rows} {i : Nat} {m : List Int} (hm : PN n m) : (cho n T i m).length = cntR n T i := by
  have hmap : ((rowP n T i).map (at_ m)).Nodup := by
    unfold List.Nodup
    rw [List.pairwise_map]
    refine List.Pairwise.imp_of_mem (fun {a b} ha hb hab e => hab ?_) (rowP_nodup n T i)
    obtain ⟨⟨a0, a1⟩, -⟩ := mem_rowP.1 ha
    obtain ⟨⟨b0, b1⟩, -⟩ := mem_rowP.1 hb
    exact hm.inj a0 a1 b0 b1 e
  have h1 : (cho n T i m).length ≤ ((rowP n T i).map (at_ m)).length := nodup_sub_len (choO_asc _ _).nodup fun v hv => by
    obtain ⟨y, hy, e⟩ := mem_choO.1 hv
    exact List.mem_map.2 ⟨y, hy, e⟩
  have h2 : ((rowP n T i).map (at_ m)).length ≤ (cho n T i m).length := nodup_sub_len hmap fun v hv => by
    obtain ⟨y, hy, e⟩ := List.mem_map.1 hv
    exact mem_choO.2 ⟨y, hy, e⟩
  rw [List.length_map] at h1 h2
  exact Nat.le_antisymm h1 h2
theorem at_inv' {n : Nat} {p : List Int} (hp : PN n p) {x : Int} (h0 : 0 ≤ x) (h1 : x < n) : at_ p (at_ (inv p) x) = x := by
  have h : at_ (comp (inv p) p) x = at_ (pts n) x := by rw [inv_comp hp]
  rw [at_comp h0 (by rw [hp.inv.1]; exact h1), at_pts h0 h1] at h
  exact h
/-- the member that has v at entry i -/
def putV (T : Rows) (i : Nat) (m : List Int) (v : Int) : List Int := comp (tr T i (at_ (inv m) v)) m
theorem cho_pre {n : Nat} {T : Rows} {i : Nat} {m : List Int} (hm : PN n m) {v : Int} (hv : v ∈ cho n T i m) : 0 ≤ v ∧ v < n ∧ 0 ≤ at_ (inv m) v ∧ at_ (inv m) v < n ∧ tr T i (at_ (inv m) v) ≠ [] ∧ at_ m (at_ (inv m) v) = v := by
  obtain ⟨y, ⟨⟨h0, h1⟩, h2⟩, rfl⟩ := mem_cho.1 hv
  have hr := hm.rng h0 h1
  have e := at_inv hm h0 h1
  rw [e]
  exact ⟨hr.1, hr.2, h0, h1, h2, rfl⟩
/-- two permutations begin alike -/
def Alike (i : Nat) (p q : List Int) : Prop := ∀ x : Int, 0 ≤ x → x < i → at_ p x = at_ q x
theorem putV_pn {n : Nat} {T : Rows} (hw : WF n T) {i : Nat} (hi : i < n) {m : List Int} (hm : PN n m) {v : Int} (hv : v ∈ cho n T i m) : PN n (putV T i m v) ∧ Alike i (putV T i m v) m ∧ at_ (putV T i m v) (i : Int) = v := by
  obtain ⟨h0, h1, h2, h3, h4, h5⟩ := cho_pre hm hv
  have ht := hw.pn i _ hi h4
  refine ⟨ht.comp hm, fun x x0 x1 => ?_, ?_⟩
  · unfold putV
    rw [at_comp x0 (by rw [ht.1]; omega), hw.fix i _ hi h4 x x0 x1]
  · unfold putV
    rw [at_comp (by omega) (by rw [ht.1]; omega), hw.at_ i _ hi h4, h5]
/-- down k levels from level i on, by a selection -/
def desc (T : Rows) (n : Nat) (sel : Nat → Nat → Nat) : Nat → Nat → List Int → List Int
  | 0, _, m => m
  | k + 1, i, m => desc T n sel k (i + 1) (putV T i m ((cho n T i m).getD (sel i (cho n T i m).length) 0))
section
variable {n : Nat} {gens : List (List Int)} {G : Gens} {T : Rows} (h : Chain n gens G T) (hn : 0 < n) (hp : ∀ g ∈ gens, PN n g)
include h hn hp
theorem Chain.row_grp {j : Nat} (hj : j < n) {y : Int} (hy : tr T j y ≠ []) : Grp n gens (tr T j y) := by
  have hsub : ∀ j, j < n → ∀ p, Grp n (lv G j) p → Grp n (lv G 0) p := by
    intro j
    induction j with
    | zero => intro _ p hp; exact hp
    | succ j ih =>
      intro hj p hp
      exact ih (by omega) p (Grp.mono (fun g hg => h.inv.gpn j g (by omega) hg) (fun g hg => h.inv.up j g hj hg) hp)
  exact (h.grp hn hp _).1 (hsub j hj _ (h.inv.row j y hj hy))
theorem Chain.putV {i : Nat} (hi : i < n) {m : List Int} (hm : Grp n gens m) {v : Int} (hv : v ∈ cho n T i m) : Grp n gens (PM.putV T i m v) :=
  Grp.comp hp (h.row_grp hn hp hi (cho_pre (hm.pn hp) hv).2.2.2.2.1) hm
/-- the choices are the values of the entry in the members that begin so -/
theorem Chain.mem_cho {i : Nat} (hi : i < n) {m : List Int} (hm : Grp n gens m) {v : Int} : v ∈ cho n T i m ↔ ∃ p, Grp n gens p ∧ Alike i p m ∧ at_ p (i : Int) = v := by
  have hpn := hm.pn hp
  constructor
  · intro hv
    have := putV_pn h.inv.wf hi hpn hv
    exact ⟨_, h.putV hn hp hi hm hv, this.2.1, this.2.2⟩
  · rintro ⟨p, h1, h2, rfl⟩
    have hpp := h1.pn hp
    have hq : Grp n gens (comp p (PM.inv m)) := Grp.comp hp h1 (hm.inv hp)
    have hr := hpp.rng (x := (i : Int)) (by omega) (by omega)
    have hir := (hpn.inv).rng hr.1 hr.2
    refine PM.mem_cho.2 ⟨at_ (PM.inv m) (at_ p (i : Int)), ⟨hir, ?_⟩, at_inv' hpn hr.1 hr.2⟩
    refine (h.row_iff hn hp hi hir.1 hir.2).2 ⟨_, hq, fun x x0 x1 => ?_, ?_⟩
    · rw [at_comp x0 (by rw [hpp.1]; omega), h2 x x0 x1, at_inv hpn x0 (by omega)]
    · rw [at_comp (by omega) (by rw [hpp.1]; omega)]
theorem Chain.cho_congr {G' : Gens} {T' : Rows} (h' : Chain n gens G' T') {i : Nat} (hi : i < n) {m m' : List Int} (hm : Grp n gens m) (hm' : Grp n gens m') (ha : Alike i m m') : cho n T i m = cho n T' i m' := by
  refine asc_ext (choO_asc _ _) (choO_asc _ _) fun v => ?_
  show v ∈ cho n T i m ↔ v ∈ cho n T' i m'
  rw [h.mem_cho hn hp hi hm, h'.mem_cho hn hp hi hm']
  constructor
  · rintro ⟨p, a, b, c⟩; exact ⟨p, a, fun x x0 x1 => (b x x0 x1).trans (ha x x0 x1), c⟩
  · rintro ⟨p, a, b, c⟩; exact ⟨p, a, fun x x0 x1 => (b x x0 x1).trans (ha x x0 x1).symm, c⟩
/-- the way down leads to a member -/
theorem Chain.desc_grp (sel : Nat → Nat → Nat) (hs : ∀ i, i < n → sel i (cntR n T i) < cntR n T i) : ∀ (k i : Nat) (m : List Int), i + k = n → Grp n gens m → Grp n gens (desc T n sel k i m)
  | 0, _, _, _, hm => hm
  | k + 1, i, m, hi, hm => by
    have hl := cho_len (T := T) (i := i) (hm.pn hp)
    have hlt : sel i (cho n T i m).length < (cho n T i m).length := by rw [hl]; exact hs i (by omega)
    exact Chain.desc_grp sel hs k (i + 1) _ (by omega) (h.putV hn hp (by omega) hm (by rw [List.getD_eq_getElem?_getD, List.getElem?_eq_getElem hlt]; exact List.getElem_mem hlt))
/-- and it does not hang on the chain -/
theorem Chain.desc_congr {G' : Gens} {T' : Rows} (h' : Chain n gens G' T') (sel : Nat → Nat → Nat) (hs : ∀ i, i < n → sel i (cntR n T i) < cntR n T i) : ∀ (k i : Nat) (m m' : List Int), i + k = n → Grp n gens m → Grp n gens m' → Alike i m m' → desc T n sel k i m = desc T' n sel k i m'
  | 0, i, m, m', hi, hm, hm', ha => by
    have h1 := hm.pn hp
    have h2 := hm'.pn hp
    show m = m'
    exact ext_at (by rw [h1.1, h2.1]) fun x x0 x1 => ha x x0 (by rw [h1.1] at x1; omega)
  | k + 1, i, m, m', hi, hm, hm', ha => by
    have hl := cho_len (T := T) (i := i) (hm.pn hp)
    have hc := h.cho_congr hn hp h' (by omega : i < n) hm hm' ha
    have hlt : sel i (cho n T i m).length < (cho n T i m).length := by rw [hl]; exact hs i (by omega)
    obtain ⟨v, hv⟩ : ∃ v, v = (cho n T i m).getD (sel i (cho n T i m).length) 0 := ⟨_, rfl⟩
    have hvm : v ∈ cho n T i m := by rw [hv, List.getD_eq_getElem?_getD, List.getElem?_eq_getElem hlt]; exact List.getElem_mem hlt
    have hvm' : v ∈ cho n T' i m' := by rw [← hc]; exact hvm
    unfold desc
    rw [← hc, ← hv]
    have a := putV_pn h.inv.wf (by omega : i < n) (hm.pn hp) hvm
    have b := putV_pn h'.inv.wf (by omega : i < n) (hm'.pn hp) hvm'
    refine Chain.desc_congr h' sel hs k (i + 1) _ _ (by omega) (h.putV hn hp (by omega) hm hvm) (h'.putV hn hp (by omega) hm' hvm') fun x x0 x1 => ?_
    by_cases hx : x < i
    · rw [a.2.1 x x0 hx, b.2.1 x x0 hx, ha x x0 hx]
    · have : x = (i : Int) := by omega
      subst this
      rw [a.2.2, b.2.2]
end
open Classical in
/-- the rows of some chain of the generators -/
noncomputable def chainR (n : Nat) (gens : List (List Int)) : Rows := if h : ∃ T, ∃ G, Chain n gens G T then h.choose else []
/-- the member that a selection leads to -/
noncomputable def descG (n : Nat) (gens : List (List Int)) (sel : Nat → Nat → Nat) : List Int := desc (chainR n gens) n sel n 0 (pts n)
theorem Chain.chainR {n : Nat} {gens : List (List Int)} {G : Gens} {T : Rows} (h : Chain n gens G T) : ∃ G', Chain n gens G' (PM.chainR n gens) := by
  have hex : ∃ T, ∃ G, Chain n gens G T := ⟨T, G, h⟩
  unfold PM.chainR
  rw [dif_pos hex]
  exact hex.choose_spec
theorem Chain.descG {n : Nat} {gens : List (List Int)} {G : Gens} {T : Rows} (h : Chain n gens G T) (hn : 0 < n) (hp : ∀ g ∈ gens, PN n g) (sel : Nat → Nat → Nat) (hs : ∀ i, i < n → sel i (cntR n T i) < cntR n T i) : desc T n sel n 0 (pts n) = PM.descG n gens sel := by
  obtain ⟨G', h'⟩ := h.chainR
  exact h.desc_congr hn hp h' sel hs n 0 _ _ (by omega) .id .id fun _ _ _ => rfl
theorem Chain.descG_grp {n : Nat} {gens : List (List Int)} {G : Gens} {T : Rows} (h : Chain n gens G T) (hn : 0 < n) (hp : ∀ g ∈ gens, PN n g) (sel : Nat → Nat → Nat) (hs : ∀ i, i < n → sel i (cntR n T i) < cntR n T i) : Grp n gens (PM.descG n gens sel) := by
  rw [← h.descG hn hp sel hs]
  exact h.desc_grp hn hp sel hs n 0 _ (by omega) .id
/-- one level down -/
theorem desc_step {T : Rows} {n : Nat} {sel : Nat → Nat → Nat} {i : Nat} (hi : i < n) (m : List Int) {k : Nat} (hk : k = sel i (cho n T i m).length) (hl : k < (cho n T i m).length) :
    desc T n sel (n - i) i m = desc T n sel (n - (i + 1)) (i + 1) (putV T i m (cho n T i m)[k]) := by
  have h1 : n - i = (n - (i + 1)) + 1 := by omega
  rw [h1]
  show desc T n sel (n - (i + 1)) (i + 1) (putV T i m ((cho n T i m).getD (sel i (cho n T i m).length) 0)) = _
  rw [← hk, List.getD_eq_getElem?_getD, List.getElem?_eq_getElem hl]
  rfl
theorem desc_end {T : Rows} {n : Nat} {sel : Nat → Nat → Nat} {i : Nat} (hi : n ≤ i) (m : List Int) : desc T n sel (n - i) i m = m := by
  rw [show n - i = 0 by omega]; rfl
end PM

namespace Go.Proofs.YtajkhdbdkjhilaaGreat
open Go.RowKit
set_option maxRecDepth 10000
open Go.Maps (Keyed)

/-- the key of a list: a byte each -/
def kB (l : List Int) : ByteArray := strOfNums (l.map fun x => x % 256)
/-- block M is a map of at most k entries; g: what lies at a key -/
def Mp (w : World) (M k : Nat) (g : ByteArray → Option Int) : Prop :=
  ∃ D : DataW Unit, w.ownsMap Tryz.prog 9 (plainElem Tryz.prog 3) M k D ∧ ∀ s : ByteArray, s.size ≤ maxLen →
    Go.Maps.has D (.string s.data.toList) = (g s).isSome ∧ ∀ n, g s = some n → D.atKey (.string s.data.toList) (.lit (.int .i64 0)) = .lit (.int .i64 n)
theorem Mp.lt {w : World} {M k : Nat} {g : ByteArray → Option Int} (h : Mp w M k g) : M < w.heap.size := by
  obtain ⟨D, h1, -⟩ := h; exact h1.lt
theorem Mp.frame {w w' : World} {M k : Nat} {g : ByteArray → Option Int} (h : Mp w M k g) (hf : w'.heap[M]? = w.heap[M]?) : Mp w' M k g := by
  obtain ⟨D, ⟨es, c, h1, h2⟩, h3⟩ := h
  exact ⟨D, ⟨es, c, by rw [hf]; exact h1, h2⟩, h3⟩
theorem Mp.only {w w' : World} {fp : List Nat} {M k : Nat} {g : ByteArray → Option Int} (h : Mp w M k g) (ho : Only fp w w') (hn : M ∉ fp) : Mp w' M k g := h.frame (ho.block M h.lt hn)
theorem Mp.keep {w w' : World} {M k : Nat} {g : ByteArray → Option Int} (h : Mp w M k g) (ho : Only [] w w') : Mp w' M k g := h.only ho (by simp)
theorem Mp.made (w : World) {M : Nat} (hM : M = w.heap.size) : Mp (w.alloc (.map #[] 0)) M 0 (fun _ => none) := by
  subst hM
  exact ⟨.map [], World.ownsMap_made _ _ _ _, fun s _ => ⟨rfl, by simp⟩⟩
theorem Mp.congr {w : World} {M k : Nat} {g g' : ByteArray → Option Int} (h : Mp w M k g) (hg : ∀ s, g s = g' s) : Mp w M k g' := by
  have : g = g' := funext hg
  rw [← this]; exact h
section
variable {w : World} {M k : Nat} {g : ByteArray → Option Int}
end
end Go.Proofs.YtajkhdbdkjhilaaGreat

namespace Go.Proofs.YtajkhdbdkjhilaaGreat
open Go.RowKit
set_option maxRecDepth 10000
open Go.Maps (Keyed)
/-- block M is a map of at most k entries; g: what lies at a key -/
def Mpv (w : World) (M k : Nat) (g : Int → Option Int) : Prop :=
  ∃ D : DataW Unit, w.ownsMap Tryz.prog 2 (plainElem Tryz.prog 2) M k D ∧ ∀ s : Int, I64 s →
    Go.Maps.has D (.int .i64 s) = (g s).isSome ∧ ∀ n, g s = some n → D.atKey (.int .i64 s) (.lit (.int .i64 0)) = .lit (.int .i64 n)
theorem Mpv.lt {w : World} {M k : Nat} {g : Int → Option Int} (h : Mpv w M k g) : M < w.heap.size := by
  obtain ⟨D, h1, -⟩ := h; exact h1.lt
theorem Mpv.frame {w w' : World} {M k : Nat} {g : Int → Option Int} (h : Mpv w M k g) (hf : w'.heap[M]? = w.heap[M]?) : Mpv w' M k g := by
  obtain ⟨D, ⟨es, c, h1, h2⟩, h3⟩ := h
  exact ⟨D, ⟨es, c, by rw [hf]; exact h1, h2⟩, h3⟩
theorem Mpv.only {w w' : World} {fp : List Nat} {M k : Nat} {g : Int → Option Int} (h : Mpv w M k g) (ho : Only fp w w') (hn : M ∉ fp) : Mpv w' M k g := h.frame (ho.block M h.lt hn)
theorem Mpv.keep {w w' : World} {M k : Nat} {g : Int → Option Int} (h : Mpv w M k g) (ho : Only [] w w') : Mpv w' M k g := h.only ho (by simp)
theorem Mpv.made (w : World) {M : Nat} (hM : M = w.heap.size) : Mpv (w.alloc (.map #[] 0)) M 0 (fun _ => none) := by
  subst hM
  exact ⟨.map [], World.ownsMap_made _ _ _ _, fun s _ => ⟨rfl, by simp⟩⟩
theorem Mpv.congr {w : World} {M k : Nat} {g g' : Int → Option Int} (h : Mpv w M k g) (hg : ∀ s, g s = g' s) : Mpv w M k g' := by
  have : g = g' := funext hg
  rw [← this]; exact h
section
variable {w : World} {M k : Nat} {g : Int → Option Int}
end
end Go.Proofs.YtajkhdbdkjhilaaGreat

namespace Go.Proofs.YtajkhdbdkjhilaaGreat
open Go.RowKit
set_option maxRecDepth 10000
set_option maxHeartbeats 400000 in
theorem Equal_any (a a' : Option Addr) (cap cap' : Nat) (l l' : List Int) (fp fp' : List Nat) (w : World) (h : IntsA w a cap l fp) (h' : IntsA w a' cap' l' fp') :
    Calls Tryz.prog 40 #[.slice a l.length cap, .slice a' l'.length cap'] w fun e w' => e = .returned (.bool (eqV l l')) ∧ Drew w w' := by
  have hb := h.bound
  have hb' := h'.bound
  by_cases hl : l.length = l'.length
  · have hne : ((l.length : Int) != (l'.length : Int)) = false := by simp [hl]
    have Hl := Lib.hid hl; clear hl
    go_enter Tryz.func40, Tryz.ntmps40
    go_wp2
    go_loopw [5, 13] (fun _ i wr => ∃ j : Nat, j ≤ l.length ∧ i = .int .i64 j ∧ l.take j = l'.take j ∧ Drew w wr)
      (fun _ i _ => l.length - (intOf i).toNat)
    case atStart => exact ⟨0, Nat.zero_le _, rfl, rfl, Drew.refl _⟩
    case round =>
      obtain ⟨j, hj, rfl, hr, n, rfl⟩ := hrel
      have Hr := Lib.hid hr; clear hr
      by_cases hlt : j < l.length
      · have hlt' : j < l'.length := by have := Hl.out; omega
        obtain ⟨b, off, ha, -, hc⟩ := h.at_ j hlt
        obtain ⟨b', off', ha', -, hc'⟩ := h'.at_ j hlt'
        go_wp2
        go_quiet (fail)
        go_wp2
        · have hne : (l[j] != l'[j]) = true := by assumption
          go_ret
          exact ⟨ret_bool (eqInts_no hlt hlt' hne).symm, ((Drew.refl _).drewN _).drewN _⟩
        · have heq : (l[j] != l'[j]) = false := by assumption
          go_roundw
          case rel => exact ⟨j + 1, by omega, by go_num, eqInts_step hlt hlt' heq Hr.out, ⟨_, rfl⟩⟩
          case measure => simp [intOf]; omega
      · go_wp2
        go_ret
        exact ⟨ret_bool (eqL_yes Hl.out hlt Hr.out).symm, (Drew.refl _).drewN n⟩
  · have hne : ((l.length : Int) != (l'.length : Int)) = true := by simp; omega
    go_enter Tryz.func40, Tryz.ntmps40
    go_wp2
    go_ret
    exact ⟨ret_bool (eqL_len hne).symm, Drew.refl _⟩

theorem Equal_rd (v v' : Value) (l l' : List Int) (fp fp' : List Nat) (w : World) (h : Rd w v l fp) (h' : Rd w v' l' fp') :
    Calls Tryz.prog 40 #[v, v'] w fun e w' => e = .returned (.bool (eqV l l')) ∧ Drew w w' := by
  obtain ⟨a, cap, rfl, hI⟩ := h.ints
  obtain ⟨a', cap', rfl, hI'⟩ := h'.ints
  exact Equal_any a a' cap cap' l l' fp fp' w hI hI'
set_option maxHeartbeats 1000000 in
/-- slices.EqualFunc over slices of slices: the function says whether two elements are equal -/
theorem EqualFunc_rows (f : FuncId) (caps : Array Value) (hcf : ∀ args w, (callFunc f args).run Tryz.prog w = .ok (.enter f args) w)
    (v v' : Value) (l l' : List (List Int)) (fp fp' : List Nat) (w : World) (h : Rd w v l fp) (h' : Rd w v' l' fp')
    (hc : ∀ (u u' : Value) (x x' : List Int) (f1 f1' : List Nat) (w' : World), Rd w' u x f1 → Rd w' u' x' f1' → Calls Tryz.prog f (#[u, u'] ++ caps) w' fun e w'' => e = .returned (.bool (eqV x x')) ∧ Only [] w' w'') :
    Calls Tryz.prog 82 #[v, v', .func (.func f) #[] caps] w fun e w' => e = .returned (.bool (eqV l l')) ∧ Only [] w w' := by
  obtain ⟨a, cap, ob, fps, rfl, -, hs⟩ := h.open_
  obtain ⟨a', cap', ob', fps', rfl, -, hs'⟩ := h'.open_
  have hb := hs.bound
  have hb' := hs'.bound
  have HC := Lib.hid hc
  clear hc
  by_cases hl : l.length = l'.length
  · have hne : ((l.length : Int) != (l'.length : Int)) = false := by simp [hl]
    have Hl := Lib.hid hl; clear hl
    go_enter Tryz.func82, Tryz.ntmps82
    go_wp2
    go_loopw [7, 8, 9, 17] (fun _ _ _ i wr => ∃ j : Nat, j ≤ l.length ∧ i = .int .i64 j ∧ l.take j = l'.take j ∧ Only [] w wr)
      (fun _ _ _ i _ => l.length - (intOf i).toNat)
    case atStart => exact ⟨0, Nat.zero_le _, rfl, rfl, Only.refl _ _⟩
    case round =>
      obtain ⟨j, hj, rfl, hr, hK⟩ := hrel
      have Hr := Lib.hid hr; clear hr
      by_cases hlt : j < l.length
      · have hlt' : j < l'.length := by have := Hl.out; omega
        obtain ⟨b, off, u, rfl, -, c0, hv⟩ := hs.atRow j hlt
        obtain ⟨b', off', u', rfl, -, c0', hv'⟩ := hs'.atRow j hlt'
        have c := hK.cell (by simp) c0
        have c' := hK.cell (by simp) c0'
        clear c0 c0'
        rcases hq : eqV l[j] l'[j]
        all_goals go_wp2_with (with_reducible refine (HC.out u u' l[j] l'[j] _ _ wr (Rp.keep hv hK) (Rp.keep hv' hK)).mono ?_; rintro e w1 ⟨rfl, hk1⟩)
        · go_ret
          exact ⟨ret_bool (eqL_no hlt hlt' hq).symm, hK.trans hk1⟩
        · go_roundw
          case rel => exact ⟨j + 1, by omega, by go_num, eqL_step hlt hlt' hq Hr.out, hK.trans hk1⟩
          case measure => simp [intOf]; omega
      · go_wp2
        go_ret
        exact ⟨ret_bool (eqL_yes Hl.out hlt Hr.out).symm, hK⟩
  · have hne : ((l.length : Int) != (l'.length : Int)) = true := by simp; omega
    go_enter Tryz.func82, Tryz.ntmps82
    go_wp2
    go_ret
    exact ⟨ret_bool (eqL_len hne).symm, Only.refl _ _⟩

theorem samePartition_closure (u u' : Value) (x x' : List Int) (f1 f1' : List Nat) (w : World) (h : Rd w u x f1) (h' : Rd w u' x' f1') :
    Calls Tryz.prog 83 #[u, u'] w fun e w' => e = .returned (.bool (eqV x x')) ∧ Only [] w w' := by
  go_enter Tryz.func83, Tryz.ntmps83
  go_wp2_with ((go_at_call 40; (with_reducible refine (Equal_rd u u' x x' _ _ _ h h').mono ?_); rintro e w1 ⟨rfl, d1⟩))
  go_ret
  exact ⟨rfl, d1.only _⟩
theorem samePartition_rd (v v' : Value) (l l' : List (List Int)) (fp fp' : List Nat) (w : World) (h : Rd w v l fp) (h' : Rd w v' l' fp') :
    Calls Tryz.prog 41 #[v, v'] w fun e w' => e = .returned (.bool (eqV l l')) ∧ Only [] w w' := by
  have Hc := Lib.hid (EqualFunc_rows 83 #[] Tryz.call83 v v' l l' fp fp' w h h' (fun u u' x x' f1 f1' w' r r' => samePartition_closure u u' x x' f1 f1' w' r r'))
  go_enter Tryz.func41, Tryz.ntmps41
  go_wp2_with ((go_at_call 82; (with_reducible refine (Hc.out).mono ?_); rintro e w1 ⟨rfl, t1⟩))
  go_ret
  exact ⟨rfl, t1⟩

end Go.Proofs.YtajkhdbdkjhilaaGreat


namespace Go.Proofs.YtajkhdbdkjhilaaGreat
open Go.RowKit
set_option maxRecDepth 10000

/-- a strictly increasing list of points of n -/
def Inc (n : Int) (l : List Int) : Prop := (∀ x ∈ l, 0 ≤ x ∧ x < n) ∧ l.Pairwise (· < ·)
instance (n : Int) (l : List Int) : Decidable (Inc n l) := inferInstanceAs (Decidable (_ ∧ _))
/-- distinct points of n -/
def Dis (n : Int) (l : List Int) : Prop := (∀ x ∈ l, 0 ≤ x ∧ x < n) ∧ l.Nodup
instance (n : Int) (l : List Int) : Decidable (Dis n l) := inferInstanceAs (Decidable (_ ∧ _))
def trackB (n : Int) (l : List Int) : Bool := decide (0 < l.length) && decide (Inc n l)
def patB (n : Int) (k : Nat) (l : List Int) : Bool := decide (l.length = k) && decide (Dis n l)
theorem inc_ge {l : List Int} (h0 : ∀ x ∈ l, 0 ≤ x) (hp : l.Pairwise (· < ·)) : ∀ k (hk : k < l.length), (k : Int) ≤ l[k] := by
  intro k
  induction k with
  | zero => intro hk; have := h0 _ (List.getElem_mem hk); omega
  | succ k ih =>
    intro hk
    have h1 := ih (by omega)
    have h2 := List.pairwise_iff_getElem.1 hp k (k + 1) (by omega) hk (by omega)
    omega
theorem Inc.len {n : Int} {l : List Int} (h : Inc n l) : (l.length : Int) ≤ n ∨ l.length = 0 := by
  rcases Nat.eq_zero_or_pos l.length with h0 | h0
  · exact .inr h0
  · left
    have h1 := inc_ge (fun x hx => (h.1 x hx).1) h.2 (l.length - 1) (by omega)
    have h2 := (h.1 l[l.length - 1] (List.getElem_mem _)).2
    omega
theorem trackB_iff {n : Int} {l : List Int} : trackB n l = true ↔ 0 < l.length ∧ Inc n l := by simp [trackB]
theorem patB_iff {n : Int} {k : Nat} {l : List Int} : patB n k l = true ↔ l.length = k ∧ Dis n l := by simp [patB]
def wfT (t : Table) : Bool := trackB 20 t.tracked && (inR t.patterns.length 1 3000 && (decide (t.distances.length = t.patterns.length) && (t.patterns.all (patB 20 t.tracked.length) && t.distances.all (fun d => inR d 0 3000))))
theorem wfT_iff {t : Table} : wfT t = true ↔ trackB 20 t.tracked = true ∧ (1 ≤ t.patterns.length ∧ t.patterns.length ≤ 3000) ∧ t.distances.length = t.patterns.length ∧ (∀ x ∈ t.patterns, patB 20 t.tracked.length x = true) ∧ (∀ d ∈ t.distances, inR d 0 3000 = true) := by
  simp [wfT, inR]; omega
end Go.Proofs.YtajkhdbdkjhilaaGreat

namespace Go.Proofs.YtajkhdbdkjhilaaGreat
open Go.RowKit
set_option maxRecDepth 10000

theorem validPz_facts {x : Puzzle} (h : validPz x = true) : 1 ≤ x.points ∧ x.points ≤ 20 ∧ x.moves.length ≤ 8 ∧ ∀ y ∈ x.moves, (y.length : Int) = x.points ∧ permB y = true := by
  unfold validPz at h
  rw [Bool.and_eq_true] at h
  have h1 := h.1
  unfold gensB at h1
  rw [Bool.and_eq_true, Bool.and_eq_true, inR_iff, decide_eq_true_iff, List.all_eq_true] at h1
  refine ⟨h1.1.1.1, h1.1.1.2, h1.1.2, fun y hy => ?_⟩
  have := h1.2 y hy
  unfold genB at this
  simpa using this
theorem validPz_pn {x : Puzzle} (h : validPz x = true) : ∀ g ∈ x.moves, PM.PN x.points.toNat g := by
  intro g hg
  obtain ⟨h1, h2, h3, h4⟩ := validPz_facts h
  obtain ⟨h5, h6⟩ := h4 g hg
  exact ⟨by omega, (permB_iff.1 h6).2⟩
/-- the tables that can be checked -/
def checkT (x : Puzzle) (t : Table) : Bool := validPz x && (wfT t && (trackB x.points t.tracked && t.patterns.all (patB x.points t.tracked.length)))
theorem checkT_iff {x : Puzzle} {t : Table} : checkT x t = true ↔ validPz x = true ∧ wfT t = true ∧ trackB x.points t.tracked = true ∧ ∀ p ∈ t.patterns, patB x.points t.tracked.length p = true := by
  simp [checkT]
/-- the index of the first pattern that is this one, -1 if there is none -/
def idxL (l : List (List Int)) (p : List Int) : Int := idxF (fun q => decide (q = p)) l
/-- the pattern behind a letter -/
def nxt (x : Puzzle) (p : List Int) (l : Int) : List Int := PM.comp p (mv x.moves l)
/-- where a letter leads -/
def nextI (x : Puzzle) (t : Table) (p : List Int) (l : Int) : Int := idxL t.patterns (nxt x p l)
/-- a letter leads to an entry of this distance -/
def leads (x : Puzzle) (t : Table) (p : List Int) (d : Int) (l : Int) : Bool := decide (0 ≤ nextI x t p l) && decide (t.distances.getD (nextI x t p l).toNat 0 = d)
/-- the first letter that leads to an entry of this distance, 0 if there is none -/
def descL (x : Puzzle) (t : Table) (p : List Int) (d : Int) : Int := ((ltrs x.moves.length).find? (leads x t p d)).getD 0
structure Fault where
  kind : Int
  entry : Int
  letter : Int
instance : Rp Fault where
  size := 3
  rep _ cs x fp := cs = [Value.int .i64 x.kind, Value.int .i64 x.entry, Value.int .i64 x.letter] ∧ (I64 x.kind ∧ I64 x.entry ∧ I64 x.letter) ∧ fp = []
  len h := by rw [h.1]; rfl
  frame h _ := h
  lt h := by rw [h.2.2]; simp
def atD (t : Table) (i : Int) : Int := t.distances.getD i.toNat 0
def atP (t : Table) (i : Nat) : List Int := t.patterns.getD i []
def one (b : Bool) (f : Fault) : List Fault := if b = true then [f] else []
/-- the fault of a letter -/
def letF (x : Puzzle) (t : Table) (i : Nat) (l : Int) : List Fault :=
  if nextI x t (atP t i) l < 0 then [⟨4, i, l⟩] else if inR (atD t (nextI x t (atP t i) l) - atD t i) (-1) 1 = true then [] else [⟨5, i, l⟩]
def entF (x : Puzzle) (t : Table) (i : Nat) : List Fault :=
  one (decide (i = 0) && (decide (atD t i ≠ 0) || decide (atP t 0 ≠ t.tracked))) ⟨1, i, 0⟩ ++
  (one (decide (idxL t.patterns (atP t i) < i)) ⟨2, i, 0⟩ ++
  (one (decide (0 < i) && decide (atD t i = 0)) ⟨3, i, 0⟩ ++
  ((ltrs x.moves.length).flatMap (letF x t i) ++
  one (decide (0 < atD t i) && decide (descL x t (atP t i) (atD t i - 1) = 0)) ⟨6, i, 0⟩)))
/-- the faults of the entries ahead of k -/
def faultsTo (x : Puzzle) (t : Table) (k : Nat) : List Fault := (List.range k).flatMap (entF x t)
def tableFaults (x : Puzzle) (t : Table) : List Fault := if checkT x t = true then (faultsTo x t t.patterns.length).take 40 else [⟨0, 0, 0⟩]

theorem idxF_nonneg_or {α : Type} (pr : α → Bool) (l : List α) : idxF pr l = -1 ∨ ∃ k : Nat, ∃ h : k < l.length, idxF pr l = k ∧ pr l[k] = true := by
  unfold idxF
  cases h : l.findIdx? pr with
  | none => exact .inl rfl
  | some i =>
    right
    obtain ⟨hi, hp, -⟩ := List.findIdx?_eq_some_iff_getElem.1 h
    exact ⟨i, hi, rfl, hp⟩
theorem idxL_lt {l : List (List Int)} {p : List Int} : -1 ≤ idxL l p ∧ idxL l p < l.length := by
  rcases idxF_nonneg_or (fun q => decide (q = p)) l with h | ⟨k, hk, h, -⟩
  · unfold idxL; omega
  · unfold idxL; omega
end Go.Proofs.YtajkhdbdkjhilaaGreat

namespace Go.Proofs.YtajkhdbdkjhilaaGreat
open Go.RowKit
set_option maxRecDepth 10000

/-- the patterns met so far and their depths -/
abbrev Met16 := List (List Int) × List Int
/-- a pattern of depth d is met; none: too many -/
def bMeet (s : Met16) (d : Int) (y : List Int) : Option Met16 := if y ∈ s.1 then some s else if s.1.length = 3000 then none else some (s.1 ++ [y], s.2 ++ [d])
/-- the letters from an entry -/
def bLets (x : Puzzle) (q : List Int) (d : Int) : List Int → Met16 → Option Met16
  | [], s => some s
  | l :: ls, s => (bMeet s d (nxt x q l)).bind (bLets x q d ls)
/-- the entries from the k-th on; n: enough -/
def bFrom (x : Puzzle) : Nat → Nat → Met16 → Option Met16
  | 0, _, s => some s
  | n + 1, k, s => if k < s.1.length then (bLets x (s.1.getD k []) (s.2.getD k 0 + 1) (ltrs x.moves.length) s).bind (bFrom x n (k + 1)) else some s
def bfs16 (x : Puzzle) (tr : List Int) : Option Met16 := if (validPz x && trackB x.points tr) = true then bFrom x 3001 0 ([tr], [0]) else none
end Go.Proofs.YtajkhdbdkjhilaaGreat

namespace Go.Proofs.YtajkhdbdkjhilaaGreat
open Go.RowKit
set_option maxRecDepth 10000

/-- a precedes b -/
def prec : List Int → List Int → Bool
  | a :: xs, b :: ys => if a = b then prec xs ys else decide (a < b)
  | _, _ => false
theorem prec_trans : ∀ {a b c : List Int}, a.length = b.length → b.length = c.length → prec a b = true → prec b c = true → prec a c = true
  | [], _, _, _, _, h, _ => by cases h
  | _ :: _, [], _, h, _, _, _ => by cases h
  | _ :: _, _ :: _, [], _, h, _, _ => by cases h
  | a :: xs, b :: ys, c :: zs, h1, h2, h3, h4 => by
    unfold prec at h3 h4 ⊢
    by_cases e1 : a = b
    · by_cases e2 : b = c
      · rw [if_pos e1] at h3; rw [if_pos e2] at h4; rw [if_pos (e1.trans e2)]
        exact prec_trans (by simpa using h1) (by simpa using h2) h3 h4
      · rw [if_neg e2] at h4; subst e1; rw [if_neg e2]; exact h4
    · rw [if_neg e1] at h3
      have h3 := of_decide_eq_true h3
      by_cases e2 : b = c
      · subst e2; rw [if_neg e1]; exact decide_eq_true h3
      · rw [if_neg e2] at h4
        have h4 := of_decide_eq_true h4
        rw [if_neg (by omega)]; exact decide_eq_true (by omega)
theorem prec_tri : ∀ {a b : List Int}, a.length = b.length → a ≠ b → prec a b = false → prec b a = true
  | [], [], _, h, _ => absurd rfl h
  | [], _ :: _, h, _, _ => by cases h
  | _ :: _, [], h, _, _ => by cases h
  | a :: xs, b :: ys, h1, h2, h3 => by
    unfold prec at h3 ⊢
    by_cases e1 : a = b
    · subst e1
      rw [if_pos rfl] at h3 ⊢
      exact prec_tri (by simpa using h1) (fun e => h2 (by rw [e])) h3
    · rw [if_neg e1] at h3
      rw [if_neg (fun e => e1 e.symm)]
      have := of_decide_eq_false h3
      exact decide_eq_true (by omega)
/-- so: an index of the lists L, sorted by them -/
structure Srt (m : Nat) (L : List (List Int)) (so : List Nat) : Prop where
  len : so.length = L.length
  many : ∀ x ∈ L, x.length = m
  in_ : ∀ i ∈ so, i < L.length
  all : ∀ i, i < L.length → i ∈ so
  asc : ∀ (i j : Nat) (hi : i < so.length) (hj : j < so.length), i < j → prec (L.getD so[i] []) (L.getD so[j] []) = true
theorem Srt.nil (m : Nat) : Srt m [] [] := ⟨rfl, by simp, by simp, by simp, by simp⟩
theorem Srt.mem {m : Nat} {L : List (List Int)} {so : List Nat} (h : Srt m L so) {i : Nat} (hi : i < so.length) : L.getD so[i] [] ∈ L := by
  have := h.in_ so[i] (List.getElem_mem hi)
  rw [List.getD_eq_getElem?_getD, List.getElem?_eq_getElem this]
  exact List.getElem_mem this
/-- k: the place at which s is or would be -/
structure Slot (L : List (List Int)) (so : List Nat) (s : List Int) (k : Nat) : Prop where
  le : k ≤ so.length
  lo : ∀ (i : Nat) (hi : i < so.length), i < k → prec (L.getD so[i] []) s = true
  hi : ∀ (i : Nat) (hi : i < so.length), k ≤ i → prec (L.getD so[i] []) s = false
theorem Srt.below {m : Nat} {L : List (List Int)} {so : List Nat} (h : Srt m L so) {s : List Int} (hs : s.length = m) {k : Nat} (hk : k < so.length) (hp : prec (L.getD so[k] []) s = true) {i : Nat} (hi : i < so.length) (hik : i ≤ k) : prec (L.getD so[i] []) s = true := by
  rcases Nat.lt_or_eq_of_le hik with hlt | rfl
  · exact prec_trans (by rw [h.many _ (h.mem hi), h.many _ (h.mem hk)]) (by rw [h.many _ (h.mem hk), hs]) (h.asc i k hi hk hlt) hp
  · exact hp
/-- one list more -/
theorem Srt.add {m : Nat} {L : List (List Int)} {so : List Nat} (h : Srt m L so) {s : List Int} (hs : s.length = m) (hn : s ∉ L) {k : Nat} (hk : Slot L so s k) : Srt m (L ++ [s]) (so.take k ++ L.length :: so.drop k) := by
  have hD : ∀ (t : Nat) (ht : t < so.length), (L ++ [s]).getD so[t] [] = L.getD so[t] [] := fun t ht => by
    have := h.in_ so[t] (List.getElem_mem ht)
    simp only [List.getD_eq_getElem?_getD, List.getElem?_append_left this]
  have hS : (L ++ [s]).getD L.length [] = s := by simp [List.getD_eq_getElem?_getD]
  have hle := hk.le
  have hG : ∀ (t : Nat) (ht : t < (so.take k ++ L.length :: so.drop k).length), (L ++ [s]).getD (so.take k ++ L.length :: so.drop k)[t] [] = if t < k then L.getD (so.getD t 0) [] else if t = k then s else L.getD (so.getD (t - 1) 0) [] := by
    intro t ht
    have htl : t < so.length + 1 := by simp at ht; omega
    by_cases h1 : t < k
    · rw [if_pos h1]
      rw [List.getElem_append_left (by simp; omega), List.getElem_take]
      rw [hD t (by omega)]
      simp [List.getD_eq_getElem?_getD, List.getElem?_eq_getElem (show t < so.length by omega)]
    · rw [if_neg h1]
      have hkl : (so.take k).length = k := by simp; omega
      rw [List.getElem_append_right (by rw [hkl]; omega)]
      by_cases h2 : t = k
      · subst h2; rw [if_pos rfl]; simp only [hkl, Nat.sub_self, List.getElem_cons_zero]; exact hS
      · rw [if_neg h2]
        have h3 : t - (so.take k).length = (t - 1 - k) + 1 := by rw [hkl]; omega
        simp only [h3, List.getElem_cons_succ, List.getElem_drop]
        have h4 : k + (t - 1 - k) = t - 1 := by omega
        have h5 : t - 1 < so.length := by omega
        simp only [h4]
        rw [hD _ h5]
        simp [List.getD_eq_getElem?_getD, List.getElem?_eq_getElem h5]
  refine ⟨?_, ?_, ?_, ?_, ?_⟩
  · have := h.len; simp; omega
  · intro x hx
    rcases List.mem_append.1 hx with hx | hx
    · exact h.many x hx
    · simp at hx; subst hx; exact hs
  · intro i hi
    rw [List.length_append, List.length_singleton]
    rcases List.mem_append.1 hi with hi | hi
    · have := h.in_ i (List.mem_of_mem_take hi); omega
    · rcases List.mem_cons.1 hi with rfl | hi
      · omega
      · have := h.in_ i (List.mem_of_mem_drop hi); omega
  · intro i hi
    rw [List.length_append, List.length_singleton] at hi
    by_cases he : i = L.length
    · subst he; simp
    · have := h.all i (by omega)
      rw [← List.take_append_drop k so] at this
      rcases List.mem_append.1 this with h1 | h1
      · exact List.mem_append_left _ h1
      · exact List.mem_append_right _ (List.mem_cons_of_mem _ h1)
  · intro i j hi hj hij
    rw [hG i hi, hG j hj]
    have hjl : j < so.length + 1 := by simp at hj; omega
    have gd : ∀ (t : Nat) (ht : t < so.length), so.getD t 0 = so[t] := fun t ht => by simp [List.getD_eq_getElem?_getD, List.getElem?_eq_getElem ht]
    by_cases j1 : j < k
    · rw [if_pos j1, if_pos (by omega), gd i (by omega), gd j (by omega)]
      exact h.asc i j (by omega) (by omega) hij
    · rw [if_neg j1]
      by_cases j2 : j = k
      · subst j2
        rw [if_pos rfl, if_pos hij, gd i (by omega)]
        exact hk.lo i (by omega) hij
      · rw [if_neg j2, gd (j - 1) (by omega)]
        by_cases i1 : i < k
        · rw [if_pos i1, gd i (by omega)]
          exact h.asc i (j - 1) (by omega) (by omega) (by omega)
        · rw [if_neg i1]
          by_cases i2 : i = k
          · rw [if_pos i2]
            have hj1 : j - 1 < so.length := by omega
            have hne : L.getD so[j - 1] [] ≠ s := fun e => hn (e ▸ h.mem hj1)
            exact prec_tri (by rw [h.many _ (h.mem hj1), hs]) hne (hk.hi (j - 1) hj1 (by omega))
          · rw [if_neg i2, gd (i - 1) (by omega)]
            exact h.asc (i - 1) (j - 1) (by omega) (by omega) (by omega)
end Go.Proofs.YtajkhdbdkjhilaaGreat

namespace Go.Proofs.YtajkhdbdkjhilaaGreat
open Go.RowKit
set_option maxRecDepth 10000


/-- the index as numbers -/
def soI (so : List Nat) : List Int := so.map fun i : Nat => (i : Int)
/-- what a search holds, as its functions read it -/
structure SrR (w : World) (A1 A2 A3 : Option Addr) (C1 C2 C3 : Nat) (L : List (List Int)) (D : List Int) (so : List Nat) (ob : List Nat) (fps : List (List Nat)) (fd fs : List Nat) : Prop where
  ls : SeqA w A1 C1 L ob fps
  dp : IntsA w A2 C2 D fd
  st : IntsA w A3 C3 (soI so) fs
theorem SrR.keep {w w' : World} {A1 A2 A3 : Option Addr} {C1 C2 C3 : Nat} {L : List (List Int)} {D : List Int} {so : List Nat} {ob : List Nat} {fps : List (List Nat)} {fd fs : List Nat} (h : SrR w A1 A2 A3 C1 C2 C3 L D so ob fps fd fs) (ho : Only [] w w') : SrR w' A1 A2 A3 C1 C2 C3 L D so ob fps fd fs :=
  ⟨h.ls.frame fun b hb => ho.block b (h.ls.lt_all b hb) (by simp), h.dp.keep ho, h.st.keep ho⟩
theorem SrR.only {w w' : World} {A1 A2 A3 : Option Addr} {C1 C2 C3 : Nat} {L : List (List Int)} {D : List Int} {so : List Nat} {ob : List Nat} {fps : List (List Nat)} {fd fs fp : List Nat} (h : SrR w A1 A2 A3 C1 C2 C3 L D so ob fps fd fs) (ho : Only fp w w') (hd : ∀ g ∈ (ob ++ fps.flatten) ++ (fd ++ fs), g ∉ fp) : SrR w' A1 A2 A3 C1 C2 C3 L D so ob fps fd fs :=
  ⟨h.ls.frame fun b hb => ho.block b (h.ls.lt_all b hb) (hd b (List.mem_append_left _ hb)), h.dp.only ho fun b hb => hd b (List.mem_append_right _ (List.mem_append_left _ hb)), h.st.only ho fun b hb => hd b (List.mem_append_right _ (List.mem_append_right _ hb))⟩



end Go.Proofs.YtajkhdbdkjhilaaGreat

namespace Go.Proofs.YtajkhdbdkjhilaaGreat
open Go.RowKit
set_option maxRecDepth 10000
/-- a search of the call's own; f: memory that waits to be taken in -/
structure SrO (B : Nat) (w : World) (v1 v2 v3 : Value) (L : List (List Int)) (D si : List Int) (fs : List (List Nat)) (f : List Nat) : Prop where
  acc : Acc B 27 w v1 L fs
  dep : w.ownsRow B 2 1 v2 D.length (D.map (Value.int .i64))
  srt : w.ownsRow B 3 1 v3 si.length (si.map (Value.int .i64))
  fr : Fresh B w (v1.ownBlock.toList ++ ((fs.flatten ++ f) ++ (v2.ownBlock.toList ++ v3.ownBlock.toList)))
section
variable {B : Nat} {w w' : World} {v1 v2 v3 v1' v2' v3' : Value} {L : List (List Int)} {D si D' si' : List Int} {fs : List (List Nat)} {f fp : List Nat}
theorem SrO.nil (B : Nat) (w : World) : SrO B w (.slice none 0 0) (.slice none 0 0) (.slice none 0 0) [] [] [] [] [] :=
  ⟨Acc.nil _ _ _, ⟨by simp, .inl ⟨rfl, rfl⟩⟩, ⟨by simp, .inl ⟨rfl, rfl⟩⟩, by simp [Value.ownBlock]; exact Fresh.nil _ _⟩
theorem SrO.only (h : SrO B w v1 v2 v3 L D si fs f) (ho : Only fp w w') (hd : ∀ b ∈ v1.ownBlock.toList ++ ((fs.flatten ++ f) ++ (v2.ownBlock.toList ++ v3.ownBlock.toList)), b ∉ fp) : SrO B w' v1 v2 v3 L D si fs f :=
  ⟨h.acc.only ho (fun b hb => hd b (by simp [hb])) (fun g hg => hd g (by simp [hg])), owns_only h.dep ho (fun g hg => hd g (by simp [hg])), owns_only h.srt ho (fun g hg => hd g (by simp [hg])), h.fr.only ho hd⟩
theorem SrO.keep (h : SrO B w v1 v2 v3 L D si fs f) (ho : Only [] w w') : SrO B w' v1 v2 v3 L D si fs f := h.only ho (by simp)
theorem SrO.set3 (h : SrO B w v1 v2 v3 L D si fs f) (ho : Only v3.ownBlock.toList w w') (hO : w'.ownsRow B 3 1 v3' si'.length (si'.map (Value.int .i64))) (hb : ∀ x ∈ v3'.ownBlock.toList, x ∈ v3.ownBlock.toList ∨ w.heap.size ≤ x) : SrO B w' v1 v2 v3' L D si' fs f := by
  obtain ⟨p1, p2, p3⟩ := h.fr.parts
  exact ⟨h.acc.only ho (fun b hb => (p2 b (by simp [hb])).2) (fun g hg => (p1 g (by simp [hg])).2), owns_only h.dep ho (fun g hg => p3 g (by simp [hg])), hO, h.fr.at4 ho (fun _ hx => hx) (own_fresh hO) hb⟩
theorem SrO.lt (h : SrO B w v1 v2 v3 L D si fs f) : ∀ b ∈ v1.ownBlock.toList ++ ((fs.flatten ++ f) ++ (v2.ownBlock.toList ++ v3.ownBlock.toList)), B ≤ b ∧ b < w.heap.size := fun b hb => ⟨h.fr.ge b hb, h.fr.lt b hb⟩
end
end Go.Proofs.YtajkhdbdkjhilaaGreat

namespace Go.Proofs.YtajkhdbdkjhilaaGreat
open Go.RowKit
set_option maxRecDepth 10000
/-- a search while a list is taken in: its blocks are none of the two boxes -/
structure St (w0 : World) (V : List Nat) (B : Nat) (w : World) (v1 v2 v3 : Value) (L : List (List Int)) (D si : List Int) (fs : List (List Nat)) (f : List Nat) : Prop where
  so : SrO B w v1 v2 v3 L D si fs f
  ap : ∀ b ∈ v1.ownBlock.toList ++ ((fs.flatten ++ f) ++ (v2.ownBlock.toList ++ v3.ownBlock.toList)), b < w0.heap.size ∨ w0.heap.size + 2 ≤ b
  on : Only V w0 w
  iv : ∀ b ∈ v1.ownBlock.toList ++ (v2.ownBlock.toList ++ v3.ownBlock.toList), b ∈ V ∨ w0.heap.size ≤ b
  sz : w0.heap.size + 2 ≤ w.heap.size
section
variable {w0 : World} {V : List Nat} {B : Nat} {w w' : World} {v1 v2 v3 v1' v2' v3' : Value} {L : List (List Int)} {D si D' si' : List Int} {fs : List (List Nat)} {f fp : List Nat}
theorem St.keep (h : St w0 V B w v1 v2 v3 L D si fs f) (ho : Only [] w w') : St w0 V B w' v1 v2 v3 L D si fs f :=
  ⟨h.so.keep ho, h.ap, h.on.then_ ho (by simp), h.iv, Nat.le_trans h.sz ho.size⟩
theorem St.box (h : St w0 V B w v1 v2 v3 L D si fs f) (ho : Only fp w w') (hf : ∀ b ∈ fp, b = w0.heap.size ∨ b = w0.heap.size + 1) : St w0 V B w' v1 v2 v3 L D si fs f :=
  ⟨h.so.only ho (fun b hb hm => by have := h.ap b hb; have := hf b hm; omega), h.ap, h.on.then_ ho (fun b hb hl => by have := hf b hb; omega), h.iv, Nat.le_trans h.sz ho.size⟩
theorem St.set3 (h : St w0 V B w v1 v2 v3 L D si fs f) (ho : Only v3.ownBlock.toList w w') (hO : w'.ownsRow B 3 1 v3' si'.length (si'.map (Value.int .i64))) (hb : ∀ x ∈ v3'.ownBlock.toList, x ∈ v3.ownBlock.toList ∨ w.heap.size ≤ x) : St w0 V B w' v1 v2 v3' L D si' fs f := by
  have hz := h.sz
  refine ⟨h.so.set3 ho hO hb, fun b hm => ?_, h.on.then_ ho (fun b hm hl => (h.iv b (by simp [hm])).elim id (fun h1 => by omega)), fun b hm => ?_, Nat.le_trans h.sz ho.size⟩
  · simp only [List.mem_append] at hm
    rcases hm with hm | hm | hm | hm
    · exact h.ap b (by simp [hm])
    · exact h.ap b (by simp only [List.mem_append]; exact .inr (.inl hm))
    · exact h.ap b (by simp [hm])
    · rcases hb b hm with h1 | h1
      · exact h.ap b (by simp [h1])
      · omega
  · simp only [List.mem_append] at hm
    rcases hm with hm | hm | hm
    · exact h.iv b (by simp [hm])
    · exact h.iv b (by simp [hm])
    · rcases hb b hm with h1 | h1
      · exact h.iv b (by simp [h1])
      · right; omega
end

end Go.Proofs.YtajkhdbdkjhilaaGreat

namespace Go.Proofs.YtajkhdbdkjhilaaGreat
open Go.RowKit
set_option maxRecDepth 10000




end Go.Proofs.YtajkhdbdkjhilaaGreat

namespace Go.Proofs.YtajkhdbdkjhilaaGreat
open Go.RowKit
set_option maxRecDepth 10000
end Go.Proofs.YtajkhdbdkjhilaaGreat

namespace Go.Proofs.YtajkhdbdkjhilaaGreat
open Go.RowKit
set_option maxRecDepth 10000
/-- the search under way: w: the call's begin; W: the loops' begin; b: the search's box -/
structure SFi (x : Puzzle) (m : Nat) (w W : World) (b : Nat) (L : List (List Int)) (D : List Int) (wr : World) (A1 A2 A3 : Option Addr) (C1 C2 C3 : Nat) (so : List Nat) (fs : List (List Nat)) : Prop where
  blk : Blk wr b [.slice A1 L.length C1, .slice A2 D.length C2, .slice A3 so.length C3, .bool false]
  sro : SrO (w.heap.size + 2) wr (.slice A1 L.length C1) (.slice A2 D.length C2) (.slice A3 so.length C3) L D (soI so) fs []
  srt : Srt m L so
  dl : D.length = L.length
  ll : L.length ≤ 3000
  pat : ∀ q ∈ L, patB x.points m q = true
  dep : ∀ d ∈ D, 0 ≤ d ∧ d ≤ D.length
  ap : ∀ g ∈ (Value.slice A1 L.length C1).ownBlock.toList ++ ((Value.slice A2 D.length C2).ownBlock.toList ++ (Value.slice A3 so.length C3).ownBlock.toList), g < b ∨ W.heap.size ≤ g
  apf : ∀ g ∈ fs.flatten, g < b ∨ W.heap.size ≤ g
  keep : ∀ g, (g < w.heap.size + 2 ∨ (b < g ∧ g < W.heap.size)) → wr.heap[g]? = W.heap[g]?
  on : Only [] w wr
  sz : W.heap.size ≤ wr.heap.size
  bW : b < W.heap.size
  wb : w.heap.size + 2 ≤ b
theorem SFi.only {x : Puzzle} {m : Nat} {w W : World} {b : Nat} {L : List (List Int)} {D : List Int} {wr wr' : World} {A1 A2 A3 : Option Addr} {C1 C2 C3 : Nat} {so : List Nat} {fs : List (List Nat)} (h : SFi x m w W b L D wr A1 A2 A3 C1 C2 C3 so fs) (ho : Only [] wr wr') : SFi x m w W b L D wr' A1 A2 A3 C1 C2 C3 so fs :=
  ⟨h.blk.keep ho, h.sro.keep ho, h.srt, h.dl, h.ll, h.pat, h.dep, h.ap, h.apf, fun g hg => by
    have hb := h.bW; have hz := h.sz; have hw := h.wb
    rw [ho.block g (by omega) (by simp)]; exact h.keep g hg, h.on.trans ho, Nat.le_trans h.sz ho.size, h.bW, h.wb⟩
/-- one list more, and the search's box anew -/
theorem SFi.step {x : Puzzle} {m : Nat} {w W : World} {b : Nat} {L : List (List Int)} {D : List Int} {wr w2 wf : World} {A1 A2 A3 A1' A2' A3' : Option Addr} {C1 C2 C3 C1' C2' C3' : Nat} {so so' : List Nat} {fs : List (List Nat)} {f : List Nat} {s : List Int} {d : Int} {fpw : List Nat}
    (h : SFi x m w W b L D wr A1 A2 A3 C1 C2 C3 so fs) (hf : ∀ g ∈ f, W.heap.size ≤ g) (hL : L.length < 3000) (hp : patB x.points m s = true) (hd : 0 ≤ d ∧ d ≤ D.length + 1)
    (h1 : SrO (w.heap.size + 2) w2 (.slice A1' (L.length + 1) C1') (.slice A2' (D.length + 1) C2') (.slice A3' (so.length + 1) C3') (L ++ [s]) (D ++ [d]) (soI so') (fs ++ [f]) []) (h2 : Srt m (L ++ [s]) so') (h3 : so'.length = so.length + 1)
    (h4 : Only ((Value.slice A1 L.length C1).ownBlock.toList ++ ((Value.slice A2 D.length C2).ownBlock.toList ++ (Value.slice A3 so.length C3).ownBlock.toList)) wr w2)
    (h5 : ∀ g ∈ (Value.slice A1' (L.length + 1) C1').ownBlock.toList ++ ((Value.slice A2' (D.length + 1) C2').ownBlock.toList ++ (Value.slice A3' (so.length + 1) C3').ownBlock.toList), g ∈ (Value.slice A1 L.length C1).ownBlock.toList ++ ((Value.slice A2 D.length C2).ownBlock.toList ++ (Value.slice A3 so.length C3).ownBlock.toList) ∨ wr.heap.size ≤ g)
    (h6 : Only fpw w2 wf) (hfp : ∀ g ∈ fpw, g = b) (h7 : Blk wf b [.slice A1' (L.length + 1) C1', .slice A2' (D.length + 1) C2', .slice A3' (so.length + 1) C3', .bool false]) :
    SFi x m w W b (L ++ [s]) (D ++ [d]) wf A1' A2' A3' C1' C2' C3' so' (fs ++ [f]) := by
  have hb := h.bW; have hz := h.sz; have hw := h.wb
  have hge := h.sro.fr.ge
  have hap' : ∀ g ∈ (Value.slice A1' (L.length + 1) C1').ownBlock.toList ++ ((Value.slice A2' (D.length + 1) C2').ownBlock.toList ++ (Value.slice A3' (so.length + 1) C3').ownBlock.toList), g < b ∨ W.heap.size ≤ g := fun g hg => by
    rcases h5 g hg with h8 | h8
    · exact h.ap g h8
    · right; omega
  have hapf' : ∀ g ∈ (fs ++ [f]).flatten, g < b ∨ W.heap.size ≤ g := fun g hg => by
    rw [List.flatten_append] at hg
    rcases List.mem_append.1 hg with hg | hg
    · exact h.apf g hg
    · exact .inr (hf g (by simpa using hg))
  have hs2 := h4.size
  have hnin : ∀ g ∈ (Value.slice A1 L.length C1).ownBlock.toList ++ ((Value.slice A2 D.length C2).ownBlock.toList ++ (Value.slice A3 so.length C3).ownBlock.toList), w.heap.size + 2 ≤ g := fun g hg => hge g (by
    simp only [List.mem_append] at hg ⊢
    rcases hg with hg | hg | hg
    · exact .inl hg
    · exact .inr (.inr (.inl hg))
    · exact .inr (.inr (.inr hg)))
  refine ⟨?_, ?_, h2, by simp [h.dl], by simp; omega, ?_, ?_, ?_, hapf', fun g hg => ?_, ?_, ?_, h.bW, h.wb⟩
  · simpa [h3] using h7
  · have := h1.only h6 (fun g hg hm => by
      have e := hfp g hm
      simp only [List.mem_append, List.append_nil] at hg
      rcases hg with hg | hg | hg | hg
      · have := hap' g (by simp only [List.mem_append]; exact .inl hg); omega
      · have := hapf' g hg; omega
      · have := hap' g (by simp only [List.mem_append]; exact .inr (.inl hg)); omega
      · have := hap' g (by simp only [List.mem_append]; exact .inr (.inr hg)); omega)
    simpa [h3] using this
  · intro q hq
    rcases List.mem_append.1 hq with hq | hq
    · exact h.pat q hq
    · simp at hq; subst hq; exact hp
  · intro q hq
    rw [List.length_append, List.length_singleton]
    rcases List.mem_append.1 hq with hq | hq
    · have := h.dep q hq; omega
    · simp at hq; subst hq; omega
  · rw [List.length_append, List.length_append, List.length_singleton, List.length_singleton, h3]; exact hap'
  · rw [h6.block g (by omega) (fun hm => by have := hfp g hm; omega), h4.block g (by omega) (fun hm => by have := hnin g hm; have := h.ap g hm; omega)]
    exact h.keep g hg
  · exact (h.on.then_ h4 (fun g hg hl => by have := hnin g hg; omega)).then_ h6 (fun g hg hl => by have := hfp g hg; omega)
  · exact Nat.le_trans hz (Nat.le_trans hs2 h6.size)
/-- what a search leaves to be read -/
theorem SFi.out {x : Puzzle} {m : Nat} {w W : World} {b : Nat} {L : List (List Int)} {D : List Int} {wr wf : World} {A1 A2 A3 : Option Addr} {C1 C2 C3 : Nat} {so : List Nat} {fs : List (List Nat)} {fpw : List Nat}
    (h : SFi x m w W b L D wr A1 A2 A3 C1 C2 C3 so fs) (ho : Only fpw wr wf) (hf : ∀ g ∈ fpw, g = b ∨ g = w.heap.size + 1) (hm : m ≤ 1000) : ∃ fL fD, Rd wf (.slice A1 L.length C1) L fL ∧ Rd wf (.slice A2 D.length C2) D fD ∧ Only [] w wf ∧ (∀ g ∈ fL ++ fD, w.heap.size ≤ g) ∧ L.length ≤ 3000 ∧ D.length ≤ 3000 ∧ ∀ q ∈ L, q.length ≤ 1000 := by
  have hb := h.bW; have hw := h.wb
  have hge := h.sro.fr.ge
  have h1 := h.sro.only ho (fun g hg hm => by
    have e := hf g hm
    have e2 := hge g hg
    simp only [List.mem_append, List.append_nil] at hg
    rcases hg with hg | hg | hg | hg
    · have := h.ap g (by simp only [List.mem_append]; exact .inl hg); omega
    · have := h.apf g hg; omega
    · have := h.ap g (by simp only [List.mem_append]; exact .inr (.inl hg)); omega
    · have := h.ap g (by simp only [List.mem_append]; exact .inr (.inr hg)); omega)
  have hD : ∀ z ∈ D, I64 z := fun z hz => by have := h.dep z hz; have := h.dl; have := h.ll; unfold I64; omega
  obtain ⟨a2, c2, hv2, -, hI2, -⟩ := own_ints h1.dep hD
  injection hv2 with e1 _ e2; subst e1; subst e2
  refine ⟨_, _, h1.acc.rd (by decide), hI2.rd, h.on.then_ ho (fun g hg hl => by have := hf g hg; omega), fun g hg => ?_, h.ll, by have := h.dl; have := h.ll; omega, fun q hq => by rw [(patB_iff.1 (h.pat q hq)).1]; exact hm⟩
  have := hge g (by
    simp only [List.mem_append] at hg ⊢
    rcases hg with (hg | hg) | hg
    · exact .inl hg
    · exact .inr (.inl (.inl hg))
    · exact .inr (.inr (.inl hg)))
  omega
end Go.Proofs.YtajkhdbdkjhilaaGreat

namespace Go.Proofs.YtajkhdbdkjhilaaGreat
open Go.RowKit
set_option maxRecDepth 10000
open Go.Maps (Keyed)
/-- block M is a map of at most k entries; g: the truth value at a key -/
def MpB (w : World) (M k : Nat) (g : ByteArray → Bool) : Prop :=
  ∃ D : DataW Unit, w.ownsMap Tryz.prog 9 (plainElem Tryz.prog 4) M k D ∧ ∀ s : ByteArray, s.size ≤ maxLen →
    D.atKey (.string s.data.toList) (.lit (.bool false)) = .lit (.bool (g s))
theorem MpB.lt {w : World} {M k : Nat} {g : ByteArray → Bool} (h : MpB w M k g) : M < w.heap.size := by
  obtain ⟨D, h1, -⟩ := h; exact h1.lt
theorem MpB.frame {w w' : World} {M k : Nat} {g : ByteArray → Bool} (h : MpB w M k g) (hf : w'.heap[M]? = w.heap[M]?) : MpB w' M k g := by
  obtain ⟨D, ⟨es, c, h1, h2⟩, h3⟩ := h
  exact ⟨D, ⟨es, c, by rw [hf]; exact h1, h2⟩, h3⟩
theorem MpB.only {w w' : World} {fp : List Nat} {M k : Nat} {g : ByteArray → Bool} (h : MpB w M k g) (ho : Only fp w w') (hn : M ∉ fp) : MpB w' M k g := h.frame (ho.block M h.lt hn)
theorem MpB.keep {w w' : World} {M k : Nat} {g : ByteArray → Bool} (h : MpB w M k g) (ho : Only [] w w') : MpB w' M k g := h.only ho (by simp)
theorem MpB.made (w : World) {M : Nat} (hM : M = w.heap.size) : MpB (w.alloc (.map #[] 0)) M 0 (fun _ => false) := by
  subst hM
  exact ⟨.map [], World.ownsMap_made _ _ _ _, fun s _ => rfl⟩
theorem MpB.congr {w : World} {M k : Nat} {g g' : ByteArray → Bool} (h : MpB w M k g) (hg : ∀ s, g s = g' s) : MpB w M k g' := by
  have : g = g' := funext hg
  rw [← this]; exact h
section
variable {w : World} {M k : Nat} {g : ByteArray → Bool}
end

end Go.Proofs.YtajkhdbdkjhilaaGreat

namespace Go.Proofs.YtajkhdbdkjhilaaGreat
open Go.RowKit
set_option maxRecDepth 10000

/-- a literal of one element, to which a loop appends -/
theorem Acc.one {α : Type} [Rp α] {w : World} (B : Nat) (e : TypeId) {cs : List Value} {x : α} {fp : List Nat} (h : Rp.rep w cs x fp) {g : Nat} (hg : g = w.heap.size) (hB : B ≤ g) : Acc B e (w.alloc (.cells cs.toArray e)) (.slice (some ⟨g, 0, none⟩) 1 1) [x] [fp] := by
  subst hg
  have hk : Only [] w (w.alloc (.cells cs.toArray e)) := (Only.refl _ _).alloc _
  refine ⟨⟨[cs], ⟨by simp [Rp.len h], .inr ⟨w.heap.size, 1, cs.toArray, rfl, hB, heap_alloc_new w _, Nat.le_refl _, by unfold maxLen; omega, by simp [Rp.len h], by simpa using List.take_of_length_le (Nat.le_of_eq (Rp.len h))⟩⟩, rfl, fun k h1 h2 h3 => ?_⟩, rfl, ?_⟩
  · have : k = 0 := by simpa using h1
    subst this
    exact Rp.keep h hk
  · intro g hg hm
    simp only [Value.ownBlock, Option.some.injEq] at hg
    subst hg
    have := Rp.lt h _ (by simpa using hm)
    omega
section
variable {P : Program} {α : Type} [Rp α] {ops : Array Oper} {rest : List Oper} {o : Oper} {a : Act} {w : World} {Q : Exit → Act → World → Prop}
theorem wpList_push2w (hgd : o.guard = none) (s x : Operand) (t : TypeId)
    (ho : o.op = .call { callee := .builtin .append, args := #[s, x], argTypes := #[t, t] })
    (B : Nat) (e : TypeId) (i : TypeInfo) (z : Value) (bytes : Nat) (ht : P.underlying t = some (.slice e)) (hi : P.info? e = some i) (hz : i.zero = some z)
    (hsize : i.size = Rp.size α) (hby : i.bytes = bytes) (hzs : z.cells.size = Rp.size α) (hsz : 0 < Rp.size α) (hbb : bytes ≤ 65536)
    (w0 : World) (v : Value) (l : List α) (fs : List (List Nat)) (hs : a.eval s = v) (hA : Acc B e w0 v l fs) (hK0 : Only [] w0 w) (hB : B ≤ w0.heap.size)
    (g c : Nat) (cs : List Value) (y : α) (fp : List Nat) (hx : a.eval x = .slice (some ⟨g, 0, none⟩) 1 c) (hsrc : ∀ j u, cs[j]? = some u → w.cell? ⟨g, j, none⟩ = some u) (hcs : ∀ u ∈ cs, u.oneCell' = true)
    (hy : Rp.rep w cs y fp) (hap : ∀ b ∈ fp, v.ownBlock ≠ some b) (hlen : l.length + 1 ≤ 1073741824)
    (h : ∀ v' w', Acc B e w' v' (l ++ [y]) (fs ++ [fp]) → Only v.ownBlock.toList w w' → (∀ wz, Only [] wz w → wz.heap.size ≤ B → Only [] wz w') →
      (Fresh B w0 fs.flatten → Fresh w0.heap.size w fp → Fresh B w' (fs ++ [fp]).flatten) → (v'.ownBlock = v.ownBlock ∨ v'.ownBlock = some w.heap.size) → wpList P ops Q rest (a.put o.dst v') w') : wpList P ops Q (o :: rest) a w :=
  wpList_plain hgd fun _ hK => wp_push2 s x t ho B e i z bytes ht hi hz hsize hby hzs hsz hbb w0 v l fs hs hA hK0 hB g c cs y fp hx hsrc hcs hy hap hlen fun v' w' h1 h2 h3 h4 h5 => hK _ _ (h v' w' h1 h2 h3 h4 h5)
end
/-- which keys are met -/
def metB (L : List (List Int)) (s : ByteArray) : Bool := L.any fun q => decide (kB q = s)
/-- the program's search under way: lo: the call's begin; m1, W: begin and end of the making of the moves -/
structure PBf (x : Puzzle) (m : Nat) (w : World) (m1 : Nat) (W : World) (M : Nat) (L : List (List Int)) (D : List Int) (wr : World) (v1 v2 : Value) (fs fd : List (List Nat)) : Prop where
  acc : Acc w.heap.size 27 wr v1 L fs
  dep : Acc w.heap.size 2 wr v2 D fd
  fr : Fresh w.heap.size wr fs.flatten
  mp : MpB wr M L.length (metB L)
  dl : D.length = L.length
  ll : L.length ≤ 3000
  pat : ∀ q ∈ L, patB x.points m q = true
  rng : ∀ d ∈ D, 0 ≤ d ∧ d ≤ D.length
  a2 : ∀ g, v2.ownBlock = some g → v1.ownBlock ≠ some g ∧ g ∉ fs.flatten ∧ g ≠ M
  a1 : v1.ownBlock ≠ some M ∧ M ∉ fs.flatten
  zone : ∀ g, (g = M ∨ v1.ownBlock = some g ∨ v2.ownBlock = some g) → (w.heap.size ≤ g ∧ g < m1) ∨ W.heap.size ≤ g
  keep : ∀ g, (g < w.heap.size ∨ (m1 ≤ g ∧ g < W.heap.size)) → wr.heap[g]? = W.heap[g]?
  on : Only [] w wr
  sz : W.heap.size ≤ wr.heap.size
  mw : w.heap.size ≤ m1 ∧ m1 ≤ W.heap.size
section
variable {x : Puzzle} {m : Nat} {w : World} {m1 : Nat} {W : World} {M : Nat} {L : List (List Int)} {D : List Int} {wr : World} {v1 v2 : Value} {fs fd : List (List Nat)}
theorem PBf.only {wr' : World} (h : PBf x m w m1 W M L D wr v1 v2 fs fd) (ho : Only [] wr wr') : PBf x m w m1 W M L D wr' v1 v2 fs fd :=
  ⟨h.acc.keep ho, h.dep.keep ho, h.fr.keep ho, h.mp.keep ho, h.dl, h.ll, h.pat, h.rng, h.a2, h.a1, h.zone, fun g hg => by
    have hz := h.sz; have hw := h.mw
    rw [ho.block g (by omega) (by simp)]; exact h.keep g hg, h.on.trans ho, Nat.le_trans h.sz ho.size, h.mw⟩
/-- from a world on, in which all the search's memory lies already -/
theorem PBf.start {W5 : World} (h : PBf x m w m1 W M L D wr v1 v2 fs fd) (ho : Only [] wr W5) : PBf x m w wr.heap.size W5 M L D W5 v1 v2 fs fd := by
  have hw := h.mw; have hz := h.sz
  refine ⟨h.acc.keep ho, h.dep.keep ho, h.fr.keep ho, h.mp.keep ho, h.dl, h.ll, h.pat, h.rng, h.a2, h.a1, fun g hg => .inl ?_, fun g _ => rfl, h.on.trans ho, Nat.le_refl _, by omega, ho.size⟩
  have h1 := h.zone g hg
  refine ⟨by omega, ?_⟩
  rcases hg with rfl | hg | hg
  · exact h.mp.lt
  · exact (h.acc.ownlt g hg).2
  · exact (h.dep.ownlt g hg).2
theorem PBf.fd0 (h : PBf x m w m1 W M L D wr v1 v2 fs fd) : fd.flatten = [] := by
  obtain ⟨css, ho, hcl, hr⟩ := h.dep.own
  have hl := h.dep.fl
  have : fd = List.replicate fd.length [] := by
    apply List.ext_getElem (by simp)
    intro k h1 h2
    have := (hr k (by omega) (by omega) h1).2.2
    simpa using this
  rw [this]; exact flatten_nil _
/-- a new pattern is met: the map, the list, the depths -/
theorem PBf.step {wp wa wb wc wd : World} {v1' v2' : Value} {s : List Int} {d : Int} {f : List Nat}
    (h : PBf x m w m1 W M L D wr v1 v2 fs fd) (hL : L.length < 3000) (hp : patB x.points m s = true) (hd : 0 ≤ d ∧ d ≤ D.length + 1)
    (hm : MpB wp M (L.length + 1) (metB (L ++ [s]))) (ho : Only [M] wr wp)
    (ka : Only [] wp wa) (hA : Acc w.heap.size 27 wb v1' (L ++ [s]) (fs ++ [f])) (oA : Only v1.ownBlock.toList wa wb) (nA : v1'.ownBlock = v1.ownBlock ∨ v1'.ownBlock = some wa.heap.size) (hF : Fresh w.heap.size wb (fs ++ [f]).flatten) (hfM : M ∉ f) (hf2 : ∀ g ∈ f, wr.heap.size ≤ g ∨ v2.ownBlock ≠ some g)
    (kc : Only [] wb wc) (hD : Acc w.heap.size 2 wd v2' (D ++ [d]) (fd ++ [[]])) (oD : Only v2.ownBlock.toList wc wd) (nD : v2'.ownBlock = v2.ownBlock ∨ v2'.ownBlock = some wc.heap.size) :
    PBf x m w m1 W M (L ++ [s]) (D ++ [d]) wd v1' v2' (fs ++ [f]) (fd ++ [[]]) := by
  have s1 := ho.size; have s2 := ka.size; have s3 := oA.size; have s4 := kc.size; have s5 := oD.size
  have hz := h.sz; have hw := h.mw
  have hMl := h.mp.lt
  have l1 := h.acc.ownlt
  have l2 := h.dep.ownlt
  have hfl := h.fr.lt
  have hff : (fs ++ [f]).flatten = fs.flatten ++ f := by simp
  have hfs : ∀ g, v2.ownBlock = some g → g ∉ (fs ++ [f]).flatten := fun g hg hm => by
    rw [hff] at hm
    rcases List.mem_append.1 hm with hm | hm
    · exact (h.a2 g hg).2.1 hm
    · have := l2 g hg
      rcases hf2 g hm with h3 | h3
      · omega
      · exact h3 hg
  have hv12 : ∀ g, v2.ownBlock = some g → v1'.ownBlock ≠ some g := fun g hg he => by
    rcases nA with h3 | h3
    · exact (h.a2 g hg).1 (by rw [← h3]; exact he)
    · rw [h3] at he; injection he with he; have := l2 g hg; omega
  have hmM : ∀ g, v1.ownBlock = some g → g ≠ M := fun g hg e => h.a1.1 (by rw [hg, e])
  have hM1 : v1'.ownBlock ≠ some M := fun he => by
    rcases nA with h3 | h3
    · exact h.a1.1 (by rw [← h3]; exact he)
    · rw [h3] at he; injection he with he; omega
  have hM1' : M ∉ v1.ownBlock.toList := by simpa using h.a1.1
  have hM2' : M ∉ v2.ownBlock.toList := by simp; intro he; exact (h.a2 M he).2.2 rfl
  have hN : ∀ g, v1'.ownBlock = some g → v1.ownBlock = some g ∨ W.heap.size ≤ g := fun g hg => by
    rcases nA with h3 | h3
    · exact .inl (by rw [← h3]; exact hg)
    · rw [h3] at hg; injection hg with hg; right; omega
  have hN2 : ∀ g, v2'.ownBlock = some g → v2.ownBlock = some g ∨ wb.heap.size ≤ g := fun g hg => by
    rcases nD with h3 | h3
    · exact .inl (by rw [← h3]; exact hg)
    · rw [h3] at hg; injection hg with hg; right; omega
  have hko : Only (M :: (v1.ownBlock.toList ++ v2.ownBlock.toList)) wr wd :=
    ((((ho.mono (by simp)).keepThen ka).then_ oA (by intro b hb _; simp at hb ⊢; simp [hb])).keepThen kc).then_ oD (by intro b hb _; simp at hb ⊢; simp [hb])
  refine ⟨hA.only (kc.weaken _ |>.trans oD) (fun b hb hm => hfs b (by simpa using hm) hb) (fun g hg hm => hv12 g (by simpa using hm) hg), hD,
    hF.only (kc.weaken _ |>.trans oD) (fun b hb hm => hfs b (by simpa using hm) hb),
    by simpa using ((((hm.keep ka).only oA hM1').keep kc).only oD hM2'), by simp [h.dl], by simp; omega, ?_, ?_, ?_, ⟨hM1, ?_⟩, ?_, fun g hg => ?_, ?_, by omega, h.mw⟩
  · intro q hq
    rcases List.mem_append.1 hq with hq | hq
    · exact h.pat q hq
    · simp at hq; subst hq; exact hp
  · intro q hq
    rw [List.length_append, List.length_singleton]
    rcases List.mem_append.1 hq with hq | hq
    · have := h.rng q hq; omega
    · simp at hq; subst hq; omega
  · intro g hg
    rcases hN2 g hg with h3 | h3
    · exact ⟨hv12 g h3, hfs g h3, (h.a2 g h3).2.2⟩
    · refine ⟨fun he => ?_, fun hm => ?_, by omega⟩
      · have := (hA.ownlt g he).2; omega
      · have := hF.lt g hm; omega
  · rw [hff]; intro hm
    rcases List.mem_append.1 hm with hm | hm
    · exact h.a1.2 hm
    · exact hfM hm
  · rintro g (rfl | hg | hg)
    · exact h.zone _ (.inl rfl)
    · rcases hN g hg with h3 | h3
      · exact h.zone g (.inr (.inl h3))
      · exact .inr h3
    · rcases hN2 g hg with h3 | h3
      · exact h.zone g (.inr (.inr h3))
      · right; omega
  · rw [hko.block g (by omega) (fun hm => ?_)]
    · exact h.keep g hg
    · simp only [List.mem_cons, List.mem_append, Option.mem_toList] at hm
      have := h.zone g (by rcases hm with hm | hm | hm; exact .inl hm; exact .inr (.inl hm); exact .inr (.inr hm))
      omega
  · refine h.on.then_ hko (fun g hm hg => ?_)
    simp only [List.mem_cons, List.mem_append, Option.mem_toList] at hm
    have := h.zone g (by rcases hm with hm | hm | hm; exact .inl hm; exact .inr (.inl hm); exact .inr (.inr hm))
    omega
/-- what the search hands back -/
theorem PBf.out (h : PBf x m w m1 W M L D wr v1 v2 fs fd) : Rd wr v1 L (v1.ownBlock.toList ++ fs.flatten) ∧ Rd wr v2 D v2.ownBlock.toList ∧ Fresh w.heap.size wr ((v1.ownBlock.toList ++ fs.flatten) ++ v2.ownBlock.toList) := by
  have h0 := h.fd0
  have h2 := h.dep.rd (by decide)
  rw [h0, List.append_nil] at h2
  have hf1 := h.acc.fresh h.fr
  have hf2 := h.dep.fresh (by rw [h0]; exact Fresh.nil _ _)
  rw [h0, List.append_nil] at hf2
  refine ⟨h.acc.rd (by decide), h2, List.nodup_append.2 ⟨hf1.nd, hf2.nd, fun a ha b hb e => ?_⟩, fun b hb => ?_, hf1.own.append hf2.own⟩
  · subst e
    have hb' : v2.ownBlock = some a := by simpa using hb
    rcases List.mem_append.1 ha with ha | ha
    · exact (h.a2 a hb').1 (by simpa using ha)
    · exact (h.a2 a hb').2.1 ha
  · rcases List.mem_append.1 hb with hb | hb
    · exact hf1.ge b hb
    · exact hf2.ge b hb
theorem PBf.old (h : PBf x m w m1 W M L D wr v1 v2 fs fd) {β : Type} [Rp β] {cs : List Value} {y : β} {fp : List Nat} (hr : Rp.rep W cs y fp) (hf : ∀ g ∈ fp, g < w.heap.size ∨ (m1 ≤ g ∧ g < W.heap.size)) : Rp.rep wr cs y fp :=
  Rp.frame hr fun g hg => h.keep g (hf g hg)
end
end Go.Proofs.YtajkhdbdkjhilaaGreat
