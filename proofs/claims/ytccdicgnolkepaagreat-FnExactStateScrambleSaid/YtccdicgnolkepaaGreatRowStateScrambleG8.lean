/- The way down a stabilizer chain (laws 33, 47): the choices at each level, the member that a selection leads to; it hangs on the group alone. IsGeneratorSet: the reference's and the program's. Puzzle: plain data, how it lies in memory, the laws' own helpers on it. (Printed by gen_struct.py.) IsValidPuzzle: the reference's and the program's. Equality of plain data: the reference's and the program's. Tracked sets, patterns and well-formed tables: the reference's and the program's. -/
import Derived.Test.YtccdicgnolkepaaGreatRowStateScrambleG7
import Derived.Test.YtccdicgnolkepaaGreatRowStateScrambleG3
import Derived.Test.YtccdicgnolkepaaGreatRowStateScrambleG6
namespace PM

/-- one number more in an ascending list -/
def insU (v : Int) : List Int → List Int
  | [] => [v]
  | x :: l => if x < v then x :: insU v l else if x = v then x :: l else v :: x :: l
theorem mem_insU {v x : Int} : ∀ {l : List Int}, x ∈ insU v l ↔ x = v ∨ x ∈ l
  | [] => by simp [insU]
  | y :: l => by
    have ih := mem_insU (v := v) (x := x) (l := l)
    unfold insU
    by_cases h1 : y < v
    · rw [if_pos h1, List.mem_cons, ih, List.mem_cons]
      constructor
      · rintro (h | h | h)
        · exact Or.inr (Or.inl h)
        · exact Or.inl h
        · exact Or.inr (Or.inr h)
      · rintro (h | h | h)
        · exact Or.inr (Or.inl h)
        · exact Or.inl h
        · exact Or.inr (Or.inr h)
    · rw [if_neg h1]
      by_cases h2 : y = v
      · rw [if_pos h2]; subst h2; simp
      · rw [if_neg h2, List.mem_cons]
/-- ascending, each once -/
def Asc (l : List Int) : Prop := l.Pairwise (· < ·)
theorem insU_asc {v : Int} : ∀ {l : List Int}, Asc l → Asc (insU v l)
  | [], _ => by simp [insU, Asc]
  | y :: l, h => by
    obtain ⟨a, b⟩ := List.pairwise_cons.1 h
    have ih := insU_asc (v := v) b
    unfold insU
    by_cases h1 : y < v
    · rw [if_pos h1]
      refine List.pairwise_cons.2 ⟨fun z hz => ?_, ih⟩
      rcases mem_insU.1 hz with rfl | hz
      · exact h1
      · exact a z hz
    · rw [if_neg h1]
      by_cases h2 : y = v
      · rw [if_pos h2]; exact h
      · rw [if_neg h2]
        refine List.pairwise_cons.2 ⟨fun z hz => ?_, h⟩
        rcases List.mem_cons.1 hz with rfl | hz
        · omega
        · have := a z hz; omega
theorem asc_ext : ∀ {l l' : List Int}, Asc l → Asc l' → (∀ x, x ∈ l ↔ x ∈ l') → l = l'
  | [], [], _, _, _ => rfl
  | [], y :: l', _, _, h => by have := (h y).2 (by simp); cases this
  | x :: l, [], _, _, h => by have := (h x).1 (by simp); cases this
  | x :: l, y :: l', a, b, h => by
    obtain ⟨a1, a2⟩ := List.pairwise_cons.1 a
    obtain ⟨b1, b2⟩ := List.pairwise_cons.1 b
    have hxy : x = y := by
      have h1 := (h x).1 (by simp)
      have h2 := (h y).2 (by simp)
      rcases List.mem_cons.1 h1 with e | e
      · exact e
      · rcases List.mem_cons.1 h2 with e' | e'
        · exact e'.symm
        · have := b1 _ e; have := a1 _ e'; omega
    subst hxy
    have := asc_ext a2 b2 (fun z => ⟨fun hz => by
      rcases List.mem_cons.1 ((h z).1 (List.mem_cons_of_mem _ hz)) with e | e
      · have := a1 _ hz; omega
      · exact e, fun hz => by
      rcases List.mem_cons.1 ((h z).2 (List.mem_cons_of_mem _ hz)) with e | e
      · have := b1 _ hz; omega
      · exact e⟩)
    rw [this]
/-- the values of entry i in the members that begin as m -/
def choO (m : List Int) (ys : List Int) : List Int := ys.foldl (fun l y => insU (at_ m y) l) []
def rowP (n : Nat) (T : Rows) (i : Nat) : List Int := (pts n).filter fun y => decide (tr T i y ≠ [])
def cho (n : Nat) (T : Rows) (i : Nat) (m : List Int) : List Int := choO m (rowP n T i)
theorem choO_snoc (m ys : List Int) (y : Int) : choO m (ys ++ [y]) = insU (at_ m y) (choO m ys) := by
  unfold choO; rw [List.foldl_append]; rfl
theorem foldl_mem (m : List Int) {v : Int} : ∀ (ys acc : List Int), v ∈ ys.foldl (fun l y => insU (at_ m y) l) acc ↔ (∃ y ∈ ys, at_ m y = v) ∨ v ∈ acc
  | [], acc => by simp
  | y :: ys, acc => by
    rw [List.foldl_cons, foldl_mem m ys, mem_insU]
    constructor
    · rintro (⟨z, h1, h2⟩ | h | h)
      · exact Or.inl ⟨z, List.mem_cons_of_mem _ h1, h2⟩
      · exact Or.inl ⟨y, by simp, h.symm⟩
      · exact Or.inr h
    · rintro (⟨z, h1, h2⟩ | h)
      · rcases List.mem_cons.1 h1 with rfl | h1
        · exact Or.inr (Or.inl h2.symm)
        · exact Or.inl ⟨z, h1, h2⟩
      · exact Or.inr (Or.inr h)
theorem mem_choO {m ys : List Int} {v : Int} : v ∈ choO m ys ↔ ∃ y ∈ ys, at_ m y = v := by
  unfold choO; rw [foldl_mem]; simp
theorem foldl_asc (m : List Int) : ∀ (ys acc : List Int), Asc acc → Asc (ys.foldl (fun l y => insU (at_ m y) l) acc)
  | [], _, h => h
  | y :: ys, acc, h => by rw [List.foldl_cons]; exact foldl_asc m ys _ (insU_asc h)
theorem choO_asc (m ys : List Int) : Asc (choO m ys) := foldl_asc m ys [] List.Pairwise.nil
theorem mem_rowP {n : Nat} {T : Rows} {i : Nat} {y : Int} : y ∈ rowP n T i ↔ (0 ≤ y ∧ y < n) ∧ tr T i y ≠ [] := by
  unfold rowP; rw [List.mem_filter, mem_pts]; simp
theorem mem_cho {n : Nat} {T : Rows} {i : Nat} {m : List Int} {v : Int} : v ∈ cho n T i m ↔ ∃ y : Int, ((0 ≤ y ∧ y < n) ∧ tr T i y ≠ []) ∧ at_ m y = v := by
  unfold cho; rw [mem_choO]
  constructor
  · rintro ⟨y, h1, h2⟩; exact ⟨y, mem_rowP.1 h1, h2⟩
  · rintro ⟨y, h1, h2⟩; exact ⟨y, mem_rowP.2 h1, h2⟩
theorem Asc.nodup {l : List Int} (h : Asc l) : l.Nodup := List.Pairwise.imp (fun h => by omega) h
theorem rowP_nodup (n : Nat) (T : Rows) (i : Nat) : (rowP n T i).Nodup := List.Nodup.sublist List.filter_sublist (pts_nodup n)
theorem cho_len {n : Nat} {T : Rows} {i : Nat} {m : List Int} (hm : PN n m) : (cho n T i m).length = cntR n T i := by
  have hmap : ((rowP n T i).map (at_ m)).Nodup := by
    unfold List.Nodup
    rw [List.pairwise_map]
    refine List.Pairwise.imp_of_mem (fun {a b} ha hb hab e => hab ?_) (rowP_nodup n T i)
    obtain ⟨⟨a0, a1⟩, -⟩ := mem_rowP.1 ha
    obtain ⟨⟨b0, b1⟩, -⟩ := mem_rowP.1 hb
    exact hm.inj a0 a1 b0 b1 e
  have h1 : (cho n T i m).length ≤ ((rowP n T i).map (at_ m)).length := nodup_sub_len (choO_asc _ _).nodup fun v hv => by
    obtain ⟨y, hy, e⟩ := mem_choO.1 hv
    exact List.mem_map.2 ⟨y, hy, e⟩
  have h2 : ((rowP n T i).map (at_ m)).length ≤ (cho n T i m).length := nodup_sub_len hmap fun v hv => by
    obtain ⟨y, hy, e⟩ := List.mem_map.1 hv
    exact mem_choO.2 ⟨y, hy, e⟩
  rw [List.length_map] at h1 h2
  exact Nat.le_antisymm h1 h2
theorem at_inv' {n : Nat} {p : List Int} (hp : PN n p) {x : Int} (h0 : 0 ≤ x) (h1 : x < n) : at_ p (at_ (inv p) x) = x := by
  have h : at_ (comp (inv p) p) x = at_ (pts n) x := by rw [inv_comp hp]
  rw [at_comp h0 (by rw [hp.inv.1]; exact h1), at_pts h0 h1] at h
  exact h
/-- the member that has v at entry i -/
def putV (T : Rows) (i : Nat) (m : List Int) (v : Int) : List Int := comp (tr T i (at_ (inv m) v)) m
theorem cho_pre {n : Nat} {T : Rows} {i : Nat} {m : List Int} (hm : PN n m) {v : Int} (hv : v ∈ cho n T i m) : 0 ≤ v ∧ v < n ∧ 0 ≤ at_ (inv m) v ∧ at_ (inv m) v < n ∧ tr T i (at_ (inv m) v) ≠ [] ∧ at_ m (at_ (inv m) v) = v := by
  obtain ⟨y, ⟨⟨h0, h1⟩, h2⟩, rfl⟩ := mem_cho.1 hv
  have hr := hm.rng h0 h1
  have e := at_inv hm h0 h1
  rw [e]
  exact ⟨hr.1, hr.2, h0, h1, h2, rfl⟩
/-- two permutations begin alike -/
def Alike (i : Nat) (p q : List Int) : Prop := ∀ x : Int, 0 ≤ x → x < i → at_ p x = at_ q x
theorem putV_pn {n : Nat} {T : Rows} (hw : WF n T) {i : Nat} (hi : i < n) {m : List Int} (hm : PN n m) {v : Int} (hv : v ∈ cho n T i m) : PN n (putV T i m v) ∧ Alike i (putV T i m v) m ∧ at_ (putV T i m v) (i : Int) = v := by
  obtain ⟨h0, h1, h2, h3, h4, h5⟩ := cho_pre hm hv
  have ht := hw.pn i _ hi h4
  refine ⟨ht.comp hm, fun x x0 x1 => ?_, ?_⟩
  · unfold putV
    rw [at_comp x0 (by rw [ht.1]; omega), hw.fix i _ hi h4 x x0 x1]
  · unfold putV
    rw [at_comp (by omega) (by rw [ht.1]; omega), hw.at_ i _ hi h4, h5]
/-- down k levels from level i on, by a selection -/
def desc (T : Rows) (n : Nat) (sel : Nat → Nat → Nat) : Nat → Nat → List Int → List Int
  | 0, _, m => m
  | k + 1, i, m => desc T n sel k (i + 1) (putV T i m ((cho n T i m).getD (sel i (cho n T i m).length) 0))
section
variable {n : Nat} {gens : List (List Int)} {G : Gens} {T : Rows} (h : Chain n gens G T) (hn : 0 < n) (hp : ∀ g ∈ gens, PN n g)
include h hn hp
theorem Chain.row_grp {j : Nat} (hj : j < n) {y : Int} (hy : tr T j y ≠ []) : Grp n gens (tr T j y) := by
  have hsub : ∀ j, j < n → ∀ p, Grp n (lv G j) p → Grp n (lv G 0) p := by
    intro j
    induction j with
    | zero => intro _ p hp; exact hp
    | succ j ih =>
      intro hj p hp
      exact ih (by omega) p (Grp.mono (fun g hg => h.inv.gpn j g (by omega) hg) (fun g hg => h.inv.up j g hj hg) hp)
  exact (h.grp hn hp _).1 (hsub j hj _ (h.inv.row j y hj hy))
theorem Chain.putV {i : Nat} (hi : i < n) {m : List Int} (hm : Grp n gens m) {v : Int} (hv : v ∈ cho n T i m) : Grp n gens (PM.putV T i m v) :=
  Grp.comp hp (h.row_grp hn hp hi (cho_pre (hm.pn hp) hv).2.2.2.2.1) hm
/-- the choices are the values of the entry in the members that begin so -/
theorem Chain.mem_cho {i : Nat} (hi : i < n) {m : List Int} (hm : Grp n gens m) {v : Int} : v ∈ cho n T i m ↔ ∃ p, Grp n gens p ∧ Alike i p m ∧ at_ p (i : Int) = v := by
  have hpn := hm.pn hp
  constructor
  · intro hv
    have := putV_pn h.inv.wf hi hpn hv
    exact ⟨_, h.putV hn hp hi hm hv, this.2.1, this.2.2⟩
  · rintro ⟨p, h1, h2, rfl⟩
    have hpp := h1.pn hp
    have hq : Grp n gens (comp p (PM.inv m)) := Grp.comp hp h1 (hm.inv hp)
    have hr := hpp.rng (x := (i : Int)) (by omega) (by omega)
    have hir := (hpn.inv).rng hr.1 hr.2
    refine PM.mem_cho.2 ⟨at_ (PM.inv m) (at_ p (i : Int)), ⟨hir, ?_⟩, at_inv' hpn hr.1 hr.2⟩
    refine (h.row_iff hn hp hi hir.1 hir.2).2 ⟨_, hq, fun x x0 x1 => ?_, ?_⟩
    · rw [at_comp x0 (by rw [hpp.1]; omega), h2 x x0 x1, at_inv hpn x0 (by omega)]
    · rw [at_comp (by omega) (by rw [hpp.1]; omega)]
theorem Chain.cho_congr {G' : Gens} {T' : Rows} (h' : Chain n gens G' T') {i : Nat} (hi : i < n) {m m' : List Int} (hm : Grp n gens m) (hm' : Grp n gens m') (ha : Alike i m m') : cho n T i m = cho n T' i m' := by
  refine asc_ext (choO_asc _ _) (choO_asc _ _) fun v => ?_
  show v ∈ cho n T i m ↔ v ∈ cho n T' i m'
  rw [h.mem_cho hn hp hi hm, h'.mem_cho hn hp hi hm']
  constructor
  · rintro ⟨p, a, b, c⟩; exact ⟨p, a, fun x x0 x1 => (b x x0 x1).trans (ha x x0 x1), c⟩
  · rintro ⟨p, a, b, c⟩; exact ⟨p, a, fun x x0 x1 => (b x x0 x1).trans (ha x x0 x1).symm, c⟩
theorem Chain.cntR_congr {G' : Gens} {T' : Rows} (h' : Chain n gens G' T') {i : Nat} (hi : i < n) : cntR n T i = cntR n T' i := by
  rw [← cho_len (T := T) (i := i) (PN.id n), ← cho_len (T := T') (i := i) (PN.id n), h.cho_congr hn hp h' hi .id .id fun _ _ _ => rfl]
theorem Chain.ordM_congr {G' : Gens} {T' : Rows} (h' : Chain n gens G' T') : ∀ k, k ≤ n → ordM T n k = ordM T' n k
  | 0, _ => rfl
  | k + 1, hk => by
    unfold ordM
    rw [h.cntR_congr hn hp h' (i := n - (k + 1)) (by omega), Chain.ordM_congr h' k (by omega)]
/-- the way down leads to a member -/
theorem Chain.desc_grp (sel : Nat → Nat → Nat) (hs : ∀ i, i < n → sel i (cntR n T i) < cntR n T i) : ∀ (k i : Nat) (m : List Int), i + k = n → Grp n gens m → Grp n gens (desc T n sel k i m)
  | 0, _, _, _, hm => hm
  | k + 1, i, m, hi, hm => by
    have hl := cho_len (T := T) (i := i) (hm.pn hp)
    have hlt : sel i (cho n T i m).length < (cho n T i m).length := by rw [hl]; exact hs i (by omega)
    exact Chain.desc_grp sel hs k (i + 1) _ (by omega) (h.putV hn hp (by omega) hm (by rw [List.getD_eq_getElem?_getD, List.getElem?_eq_getElem hlt]; exact List.getElem_mem hlt))
/-- and it does not hang on the chain -/
theorem Chain.desc_congr {G' : Gens} {T' : Rows} (h' : Chain n gens G' T') (sel : Nat → Nat → Nat) (hs : ∀ i, i < n → sel i (cntR n T i) < cntR n T i) : ∀ (k i : Nat) (m m' : List Int), i + k = n → Grp n gens m → Grp n gens m' → Alike i m m' → desc T n sel k i m = desc T' n sel k i m'
  | 0, i, m, m', hi, hm, hm', ha => by
    have h1 := hm.pn hp
    have h2 := hm'.pn hp
    show m = m'
    exact ext_at (by rw [h1.1, h2.1]) fun x x0 x1 => ha x x0 (by rw [h1.1] at x1; omega)
  | k + 1, i, m, m', hi, hm, hm', ha => by
    have hl := cho_len (T := T) (i := i) (hm.pn hp)
    have hc := h.cho_congr hn hp h' (by omega : i < n) hm hm' ha
    have hlt : sel i (cho n T i m).length < (cho n T i m).length := by rw [hl]; exact hs i (by omega)
    obtain ⟨v, hv⟩ : ∃ v, v = (cho n T i m).getD (sel i (cho n T i m).length) 0 := ⟨_, rfl⟩
    have hvm : v ∈ cho n T i m := by rw [hv, List.getD_eq_getElem?_getD, List.getElem?_eq_getElem hlt]; exact List.getElem_mem hlt
    have hvm' : v ∈ cho n T' i m' := by rw [← hc]; exact hvm
    unfold desc
    rw [← hc, ← hv]
    have a := putV_pn h.inv.wf (by omega : i < n) (hm.pn hp) hvm
    have b := putV_pn h'.inv.wf (by omega : i < n) (hm'.pn hp) hvm'
    refine Chain.desc_congr h' sel hs k (i + 1) _ _ (by omega) (h.putV hn hp (by omega) hm hvm) (h'.putV hn hp (by omega) hm' hvm') fun x x0 x1 => ?_
    by_cases hx : x < i
    · rw [a.2.1 x x0 hx, b.2.1 x x0 hx, ha x x0 hx]
    · have : x = (i : Int) := by omega
      subst this
      rw [a.2.2, b.2.2]
end
open Classical in
/-- the rows of some chain of the generators -/
noncomputable def chainR (n : Nat) (gens : List (List Int)) : Rows := if h : ∃ T, ∃ G, Chain n gens G T then h.choose else []
/-- the member that a selection leads to -/
noncomputable def descG (n : Nat) (gens : List (List Int)) (sel : Nat → Nat → Nat) : List Int := desc (chainR n gens) n sel n 0 (pts n)
theorem Chain.chainR {n : Nat} {gens : List (List Int)} {G : Gens} {T : Rows} (h : Chain n gens G T) : ∃ G', Chain n gens G' (PM.chainR n gens) := by
  have hex : ∃ T, ∃ G, Chain n gens G T := ⟨T, G, h⟩
  unfold PM.chainR
  rw [dif_pos hex]
  exact hex.choose_spec
theorem Chain.descG {n : Nat} {gens : List (List Int)} {G : Gens} {T : Rows} (h : Chain n gens G T) (hn : 0 < n) (hp : ∀ g ∈ gens, PN n g) (sel : Nat → Nat → Nat) (hs : ∀ i, i < n → sel i (cntR n T i) < cntR n T i) : desc T n sel n 0 (pts n) = PM.descG n gens sel := by
  obtain ⟨G', h'⟩ := h.chainR
  exact h.desc_congr hn hp h' sel hs n 0 _ _ (by omega) .id .id fun _ _ _ => rfl
theorem Chain.descG_grp {n : Nat} {gens : List (List Int)} {G : Gens} {T : Rows} (h : Chain n gens G T) (hn : 0 < n) (hp : ∀ g ∈ gens, PN n g) (sel : Nat → Nat → Nat) (hs : ∀ i, i < n → sel i (cntR n T i) < cntR n T i) : Grp n gens (PM.descG n gens sel) := by
  rw [← h.descG hn hp sel hs]
  exact h.desc_grp hn hp sel hs n 0 _ (by omega) .id
/-- one level down -/
theorem desc_step {T : Rows} {n : Nat} {sel : Nat → Nat → Nat} {i : Nat} (hi : i < n) (m : List Int) {k : Nat} (hk : k = sel i (cho n T i m).length) (hl : k < (cho n T i m).length) :
    desc T n sel (n - i) i m = desc T n sel (n - (i + 1)) (i + 1) (putV T i m (cho n T i m)[k]) := by
  have h1 : n - i = (n - (i + 1)) + 1 := by omega
  rw [h1]
  show desc T n sel (n - (i + 1)) (i + 1) (putV T i m ((cho n T i m).getD (sel i (cho n T i m).length) 0)) = _
  rw [← hk, List.getD_eq_getElem?_getD, List.getElem?_eq_getElem hl]
  rfl
theorem desc_end {T : Rows} {n : Nat} {sel : Nat → Nat → Nat} {i : Nat} (hi : n ≤ i) (m : List Int) : desc T n sel (n - i) i m = m := by
  rw [show n - i = 0 by omega]; rfl
end PM

namespace Go.Proofs.YtccdicgnolkepaaGreat
open Go.RowKit
set_option maxRecDepth 10000

set_option maxHeartbeats 400000 in
theorem IndexFunc_rows (f : FuncId) (caps : Array Value) (pr : List Int → Bool) (hcf : ∀ args w, (callFunc f args).run Tryz.prog w = .ok (.enter f args) w)
    (v : Value) (l : List (List Int)) (fp : List Nat) (w : World) (h : Rd w v l fp)
    (hc : ∀ x ∈ l, ∀ u f' w', Only [] w w' → Rd w' u x f' → Calls Tryz.prog f (#[u] ++ caps) w' fun e w'' => e = .returned (.bool (pr x)) ∧ Only [] w' w'') :
    Calls Tryz.prog 103 #[v, .func (.func f) #[] caps] w fun e w' => e = .returned (.int .i64 (idxF pr l)) ∧ Only [] w w' := by
  obtain ⟨a, cap, ob, fps, rfl, -, hI⟩ := h.open_
  have hb := hI.bound
  have HC := Lib.hid hc
  clear hc
  go_enter Tryz.func103, Tryz.ntmps103
  go_wp2
  go_loopw [5, 8] (fun i t wr => ∃ j : Nat, j ≤ l.length ∧ t = .int .i64 j ∧ (∀ x ∈ l.take j, pr x = false) ∧ Only [] w wr)
    (fun _ t _ => l.length - (intOf t).toNat)
  case atStart => exact ⟨0, Nat.zero_le _, rfl, by simp, Only.refl _ _⟩
  case round =>
    obtain ⟨j, hj, rfl, hr, hK⟩ := hrel
    have Hr := Lib.hid hr; clear hr
    by_cases hlt : j < l.length
    · obtain ⟨b, off, u, rfl, -, hc0, hv0⟩ := hI.atRow j hlt
      have hc := hK.cell (by simp) hc0
      have hv := Rp.keep hv0 hK
      clear hc0 hv0
      rcases hp : pr l[j]
      all_goals go_wp2_with (with_reducible refine (HC.out l[j] (List.getElem_mem _) u _ wr hK hv).mono ?_; rintro e w1 ⟨rfl, hk1⟩)
      · go_roundw
        case rel => exact ⟨j + 1, by omega, by go_num, by
          rw [take_succ_get l j hlt]; intro x hx
          rcases List.mem_append.1 hx with hx | hx
          · exact Hr.out x hx
          · simp at hx; subst hx; exact hp, hK.trans hk1⟩
        case measure => simp [intOf]; omega
      · go_ret
        exact ⟨ret_int (idxF_some hlt Hr.out hp).symm, hK.trans hk1⟩
    · go_wp2
      go_ret
      exact ⟨ret_int (idxF_none (by have := Hr.out; rwa [List.take_of_length_le (by omega)] at this)).symm, hK⟩
set_option maxHeartbeats 400000 in
theorem ContainsFunc_rows (f : FuncId) (caps : Array Value) (pr : List Int → Bool) (hcf : ∀ args w, (callFunc f args).run Tryz.prog w = .ok (.enter f args) w)
    (v : Value) (l : List (List Int)) (fp : List Nat) (w : World) (h : Rd w v l fp)
    (hc : ∀ x ∈ l, ∀ u f' w', Only [] w w' → Rd w' u x f' → Calls Tryz.prog f (#[u] ++ caps) w' fun e w'' => e = .returned (.bool (pr x)) ∧ Only [] w' w'') :
    Calls Tryz.prog 87 #[v, .func (.func f) #[] caps] w fun e w' => e = .returned (.bool (l.any pr)) ∧ Only [] w w' := by
  have HC := Lib.hid hc
  clear hc
  go_enter Tryz.func87, Tryz.ntmps87
  go_wp2_with ((go_at_call 103; (with_reducible refine (IndexFunc_rows f caps pr hcf v l _ w h HC.out).mono ?_); rintro e w1 ⟨rfl, hk⟩))
  go_ret
  exact ⟨ret_bool idxF_ge, hk⟩

def genB (n : Int) (g : List Int) : Bool := decide ((g.length : Int) = n) && permB g
def gensB (n : Int) (gens : List (List Int)) : Bool := inR n 1 20 && decide (gens.length ≤ 8) && gens.all (genB n)
set_option maxHeartbeats 1000000 in
theorem specIsGens_any (n : Int) (a : Option Addr) (cap : Nat) (l : List (List Int)) (ob : List Nat) (fps : List (List Nat)) (w : World) (h : SeqA w a cap l ob fps) :
    Calls Tryz.prog 40 #[.int .i64 n, .slice a l.length cap] w fun e w' => e = .returned (.bool (gensB n l)) ∧ Drew w w' := by
  have hb := h.bound
  rcases hq : inR n 1 20
  · go_enter Tryz.func40, Tryz.ntmps40
    go_wp2_with ((go_at_call 42; (with_reducible refine (inRange_any n 1 20 _).mono ?_); rintro e w ⟨rfl, rfl⟩))
    go_ret
    exact ⟨ret_bool (by unfold gensB; rw [hq]; rfl), Drew.refl _⟩
  by_cases hl : 8 < l.length
  · go_enter Tryz.func40, Tryz.ntmps40
    go_wp2_with ((go_at_call 42; (with_reducible refine (inRange_any n 1 20 _).mono ?_); rintro e w ⟨rfl, rfl⟩))
    go_ret
    exact ⟨ret_bool (by unfold gensB; rw [hq, decide_eq_false (by omega)]; rfl), Drew.refl _⟩
  have hfin : gensB n l = l.all (genB n) := by unfold gensB; rw [hq, decide_eq_true (by omega)]; rfl
  have Hfin := Lib.hid hfin; clear hfin
  go_enter Tryz.func40, Tryz.ntmps40
  go_wp2_with ((go_at_call 42; (with_reducible refine (inRange_any n 1 20 _).mono ?_); rintro e w ⟨rfl, rfl⟩))
  go_loopw [5] (fun i wr => ∃ j : Nat, j ≤ l.length ∧ i = .int .i64 j ∧ (∀ x ∈ l.take j, genB n x = true) ∧ Drew w wr)
    (fun i _ => l.length - (intOf i).toNat)
  case atStart => exact ⟨0, Nat.zero_le _, rfl, by simp, Drew.refl _⟩
  case round =>
    obtain ⟨j, hj, rfl, hr, k, rfl⟩ := hrel
    have Hr := Lib.hid hr; clear hr
    by_cases hlt : j < l.length
    · obtain ⟨b, off, v, rfl, -, hc, hv⟩ := h.atRow j hlt
      obtain ⟨a2, c2, rfl, hI⟩ := hv.ints
      have hb2 := hI.bound
      by_cases c1 : (l[j].length : Int) = n
      · have d1 : ((l[j].length : Int) != n) = false := by simp [c1]
        have C1 := Lib.hid c1; clear c1
        rcases c2 : permB l[j]
        all_goals go_wp2_with ((go_at_call 71; (with_reducible refine (specIsPerm_rd _ l[j] _ _ (Rp.keep hv (Only.ofDrewN _ _ _))).mono ?_); rintro e w1 ⟨rfl, n1, rfl⟩))
        · go_ret
          exact ⟨ret_bool (by rw [Hfin.out, eq_comm, List.all_eq_false]; exact ⟨l[j], List.getElem_mem _, by simp [genB, c2]⟩), ⟨_, rfl⟩⟩
        · go_roundw
          case rel => exact ⟨j + 1, by omega, by go_num, by
            rw [take_succ_get l j hlt]; intro x hx
            rcases List.mem_append.1 hx with hx | hx
            · exact Hr.out x hx
            · simp at hx; subst hx; simp [genB, c2, C1.out], ⟨_, rfl⟩⟩
          case measure => simp [intOf]; omega
      · have d1 : ((l[j].length : Int) != n) = true := by simp [c1]
        have C1 := Lib.hid c1; clear c1
        go_wp2
        go_ret
        exact ⟨ret_bool (by rw [Hfin.out, eq_comm, List.all_eq_false]; exact ⟨l[j], List.getElem_mem _, by simp [genB, C1.out]⟩), ⟨_, rfl⟩⟩
    · go_wp2
      go_ret
      exact ⟨ret_bool (by rw [Hfin.out, eq_comm, List.all_eq_true]; have := Hr.out; rwa [List.take_of_length_le (by omega)] at this), ⟨_, rfl⟩⟩
theorem specIsGens_rd (n : Int) (v : Value) (l : List (List Int)) (fp : List Nat) (w : World) (h : Rd w v l fp) :
    Calls Tryz.prog 40 #[.int .i64 n, v] w fun e w' => e = .returned (.bool (gensB n l)) ∧ Drew w w' := by
  obtain ⟨a, cap, ob, fps, rfl, -, hs⟩ := h.open_
  exact specIsGens_any n a cap l ob fps w hs
theorem lengthInt_q (v : Value) (l : List Int) (fp : List Nat) (w : World) (h : Rd w v l fp) :
    Calls Tryz.prog 63 #[v] w fun e w' => e = .returned (.int .i64 l.length) ∧ Drew w w' :=
  (lengthInt_rd v l fp w h).mono fun _ _ ⟨h1, h2⟩ => ⟨h1, by rw [h2]; exact Drew.refl _⟩
set_option maxHeartbeats 1000000 in
theorem IsGens_closure (n : Int) (u : Value) (x : List Int) (fp : List Nat) (b : Nat) (w : World) (h : Rd w u x fp) (hc : w.cell? ⟨b, 0, none⟩ = some (.int .i64 n)) :
    Calls Tryz.prog 88 #[u, .pointer (some ⟨b, 0, none⟩)] w fun e w' => e = .returned (.bool (!genB n x)) ∧ Only [] w w' := by
  obtain ⟨a, cap, rfl, hI⟩ := h.ints
  have hb := hI.bound
  by_cases c1 : (x.length : Int) = n
  · have d1 : ((x.length : Int) != n) = false := by simp [c1]
    have hg : genB n x = permB x := by simp [genB, c1]
    have Hg := Lib.hid hg; clear hg c1
    rcases c2 : permB x
    all_goals go_enter Tryz.func88, Tryz.ntmps88
    all_goals go_wp2
    all_goals go_quiet (first
      | (go_at_call 63; exact quiet_drewN0 (lengthInt_q _ x fp _ (Rp.keep h (Only.ofDrewN _ _ _))))
      | (go_at_call 89; exact quiet_drewN0 (implIsPerm_rd _ x fp _ (Rp.keep h (Only.ofDrewN _ _ _)))))
    all_goals go_wp2
    all_goals go_ret
    all_goals exact ⟨ret_bool (by rw [Hg.out, c2]; rfl), Only.ofDrewN _ _ _⟩
  · have d1 : ((x.length : Int) != n) = true := by simp [c1]
    have hg : genB n x = false := by simp [genB, c1]
    have Hg := Lib.hid hg; clear hg c1
    go_enter Tryz.func88, Tryz.ntmps88
    go_wp2
    go_quiet (first
      | (go_at_call 63; exact quiet_drewN0 (lengthInt_q _ x fp _ (Rp.keep h (Only.ofDrewN _ _ _))))
      | (go_at_call 89; exact quiet_drewN0 (implIsPerm_rd _ x fp _ (Rp.keep h (Only.ofDrewN _ _ _)))))
    go_wp2
    go_ret
    exact ⟨ret_bool (by rw [Hg.out]; rfl), Only.ofDrewN _ _ _⟩
set_option maxHeartbeats 1000000 in
theorem implIsGens_rd (n : Int) (v : Value) (l : List (List Int)) (fp : List Nat) (w : World) (h : Rd w v l fp) :
    Calls Tryz.prog 56 #[.int .i64 n, v] w fun e w' => e = .returned (.bool (gensB n l)) ∧ Only [] w w' := by
  obtain ⟨a, cap, ob, fps, rfl, -, hs⟩ := h.open_
  have hb := hs.bound
  rcases hq : inR n 1 20
  · go_enter Tryz.func56, Tryz.ntmps56
    go_wp2_with ((go_at_call 58; (with_reducible refine (within_any n 1 20 _).mono ?_); rintro e w1 ⟨rfl, rfl⟩))
    go_ret
    exact ⟨ret_bool (by unfold gensB; rw [hq]; rfl), (by with_reducible repeat (first | exact Only.refl _ _ | assumption | refine Only.drewN ?_ _ | refine Only.drew ?_ | refine Only.alloc ?_ _ | refine Only.setCell ?_ (by intro hh; exfalso; simp at hh; try omega) _ | refine Only.trans ?_ (by assumption)))⟩
  by_cases hl : l.length ≤ 8
  · have hfin : gensB n l = !(l.any fun x => !genB n x) := by unfold gensB; rw [hq, decide_eq_true hl, List.not_any_eq_all_not]; simp
    have Hfin := Lib.hid hfin; clear hfin
    have Hc := Lib.hid (ContainsFunc_rows 88 #[.pointer (some ⟨w.heap.size, 0, none⟩)] (fun x => !genB n x) Tryz.call88 (.slice a l.length cap) l _ (w.alloc (.cells #[.int .i64 n] 2)) (Rp.keep h (by with_reducible repeat (first | exact Only.refl _ _ | assumption | refine Only.drewN ?_ _ | refine Only.drew ?_ | refine Only.alloc ?_ _ | refine Only.setCell ?_ (by intro hh; exfalso; simp at hh; try omega) _ | refine Only.trans ?_ (by assumption))))
      (fun x _ u f' w' hw hu => IsGens_closure n u x f' w.heap.size w' hu (hw.cell (by simp) (by simp))))
    rcases hany : l.any fun x => !genB n x
    all_goals go_enter Tryz.func56, Tryz.ntmps56
    all_goals go_wp2_with (first | (go_at_call 58; refine (within_any n 1 20 _).mono ?_; rintro e w1 ⟨rfl, rfl⟩) | (go_at_call 87; (with_reducible refine (Hc.out).mono ?_); rintro e w1 ⟨rfl, hk⟩))
    all_goals go_ret
    all_goals exact ⟨ret_bool (by rw [Hfin.out, hany]; rfl), (by with_reducible repeat (first | exact Only.refl _ _ | assumption | refine Only.drewN ?_ _ | refine Only.drew ?_ | refine Only.alloc ?_ _ | refine Only.setCell ?_ (by intro hh; exfalso; simp at hh; try omega) _ | refine Only.trans ?_ (by assumption)))⟩
  · go_enter Tryz.func56, Tryz.ntmps56
    go_wp2_with ((go_at_call 58; (with_reducible refine (within_any n 1 20 _).mono ?_); rintro e w1 ⟨rfl, rfl⟩))
    go_ret
    exact ⟨ret_bool (by unfold gensB; rw [hq, decide_eq_false hl]; rfl), (by with_reducible repeat (first | exact Only.refl _ _ | assumption | refine Only.drewN ?_ _ | refine Only.drew ?_ | refine Only.alloc ?_ _ | refine Only.setCell ?_ (by intro hh; exfalso; simp at hh; try omega) _ | refine Only.trans ?_ (by assumption)))⟩
end Go.Proofs.YtccdicgnolkepaaGreat

namespace Go.Proofs.YtccdicgnolkepaaGreat
open Go.RowKit
set_option maxRecDepth 10000

structure Puzzle where
  points : Int
  names : ByteArray
  moves : List (List Int)

instance : Rp Puzzle where
  size := 3
  rep w cs x fp := ∃ v2, cs = [Value.int .i64 x.points] ++ [Value.string x.names] ++ [v2] ∧ I64 x.points ∧ x.names.size ≤ maxLen ∧ Rd w v2 x.moves fp
  len h := by
    obtain ⟨v2, rfl, p0, p1, h2⟩ := h
    rfl
  frame h hf := by
    obtain ⟨v2, hcs, p0, p1, h2⟩ := h
    exact ⟨v2, hcs, p0, p1, Rp.frame h2 fun b hb => hf b (by simp [hb])⟩
  lt h := by
    obtain ⟨v2, hcs, p0, p1, h2⟩ := h
    intro b hb
    exact Rp.lt h2 b hb

instance : Mk Puzzle where
  mark k x := ⟨x.points, x.names, Mk.mark (k) x.moves⟩
  cnt x := Mk.cnt x.moves
instance : Sz Puzzle where
  sz x := x.names.size + Sz.sz x.moves
instance : Sm Puzzle where
  sm x := Sm.sm x.moves
instance : SzSm Puzzle := ⟨fun x h => by
  have h' : x.names.size + Sz.sz x.moves ≤ 2097152 := h
  exact SzSm.of_ x.moves (by omega)⟩
instance : CntSz Puzzle := ⟨fun x => by
  have h' : Mk.cnt x.moves ≤ x.names.size + Sz.sz x.moves := by have := CntSz.le x.moves; omega
  exact h'⟩
instance : MkL Puzzle := ⟨fun k x => by simp [Mk.mark, markL_idem], fun k x => by simp [Mk.mark, Mk.cnt, markL_cnt]⟩
theorem Puzzle.eq_iff {x y : Puzzle} : x = y ↔ x.points = y.points ∧ x.names = y.names ∧ x.moves = y.moves := by
  cases x; cases y; simp

set_option maxHeartbeats 1000000 in
theorem eqPuzzle_any (cs cs' : List Value) (x y : Puzzle) (fp fp' : List Nat) (w : World) (h : Rp.rep w cs x fp) (h' : Rp.rep w cs' y fp') :
    Calls Tryz.prog 9 #[.agg cs.toArray, .agg cs'.toArray] w fun e w' => e = .returned (.bool (eqV x y)) ∧ Only [] w w' := by
  obtain ⟨v2, rfl, p0, p1, h2⟩ := h
  obtain ⟨v2', rfl, p0', p1', h2'⟩ := h'
  by_cases q0 : x.points ≠ y.points
  · have b0 : (x.points != y.points) = true := by simpa using q0
    go_enter Tryz.func9, Tryz.ntmps9
    go_wp2_with (first | (go_at_call 21; (with_reducible refine (eqInt64SS_rd v2 v2' x.moves y.moves _ _ _ (Rp.keep h2 (by with_reducible repeat (first | exact Only.refl _ _ | assumption | refine Only.drewN ?_ _ | refine Only.drew ?_ | refine Only.alloc ?_ _ | refine Only.setCell ?_ (by intro hh; exfalso; simp at hh; try omega) _ | refine Only.trans ?_ (by assumption)))) (Rp.keep h2' (by with_reducible repeat (first | exact Only.refl _ _ | assumption | refine Only.drewN ?_ _ | refine Only.drew ?_ | refine Only.alloc ?_ _ | refine Only.setCell ?_ (by intro hh; exfalso; simp at hh; try omega) _ | refine Only.trans ?_ (by assumption))))).mono ?_); rintro e w2 ⟨rfl, n2, rfl⟩))
    go_ret
    exact ⟨ret_bool (eqV_no (fun he => q0 (Puzzle.eq_iff.1 he).1)).symm, (by with_reducible repeat (first | exact Only.refl _ _ | assumption | refine Only.drewN ?_ _ | refine Only.drew ?_ | refine Only.alloc ?_ _ | refine Only.setCell ?_ (by intro hh; exfalso; simp at hh; try omega) _ | refine Only.trans ?_ (by assumption)))⟩
  have q0 : x.points = y.points := Classical.not_not.1 q0
  have b0 : (x.points != y.points) = false := by simpa using q0
  have Q0 := Lib.hid q0
  clear q0
  by_cases q1 : x.names ≠ y.names
  · have b1 := str_ne q1
    go_enter Tryz.func9, Tryz.ntmps9
    go_wp2_with (first | (go_at_call 21; (with_reducible refine (eqInt64SS_rd v2 v2' x.moves y.moves _ _ _ (Rp.keep h2 (by with_reducible repeat (first | exact Only.refl _ _ | assumption | refine Only.drewN ?_ _ | refine Only.drew ?_ | refine Only.alloc ?_ _ | refine Only.setCell ?_ (by intro hh; exfalso; simp at hh; try omega) _ | refine Only.trans ?_ (by assumption)))) (Rp.keep h2' (by with_reducible repeat (first | exact Only.refl _ _ | assumption | refine Only.drewN ?_ _ | refine Only.drew ?_ | refine Only.alloc ?_ _ | refine Only.setCell ?_ (by intro hh; exfalso; simp at hh; try omega) _ | refine Only.trans ?_ (by assumption))))).mono ?_); rintro e w2 ⟨rfl, n2, rfl⟩))
    go_ret
    exact ⟨ret_bool (eqV_no (fun he => q1 (Puzzle.eq_iff.1 he).2.1)).symm, (by with_reducible repeat (first | exact Only.refl _ _ | assumption | refine Only.drewN ?_ _ | refine Only.drew ?_ | refine Only.alloc ?_ _ | refine Only.setCell ?_ (by intro hh; exfalso; simp at hh; try omega) _ | refine Only.trans ?_ (by assumption)))⟩
  have q1 : x.names = y.names := Classical.not_not.1 q1
  have b1 := str_eq q1
  have Q1 := Lib.hid q1
  clear q1
  rcases q2 : eqV x.moves y.moves
  · go_enter Tryz.func9, Tryz.ntmps9
    go_wp2_with (first | (go_at_call 21; (with_reducible refine (eqInt64SS_rd v2 v2' x.moves y.moves _ _ _ (Rp.keep h2 (by with_reducible repeat (first | exact Only.refl _ _ | assumption | refine Only.drewN ?_ _ | refine Only.drew ?_ | refine Only.alloc ?_ _ | refine Only.setCell ?_ (by intro hh; exfalso; simp at hh; try omega) _ | refine Only.trans ?_ (by assumption)))) (Rp.keep h2' (by with_reducible repeat (first | exact Only.refl _ _ | assumption | refine Only.drewN ?_ _ | refine Only.drew ?_ | refine Only.alloc ?_ _ | refine Only.setCell ?_ (by intro hh; exfalso; simp at hh; try omega) _ | refine Only.trans ?_ (by assumption))))).mono ?_); rintro e w2 ⟨rfl, n2, rfl⟩))
    go_ret
    exact ⟨ret_bool (eqV_no (fun he => (eqV_iff'.1 q2) (Puzzle.eq_iff.1 he).2.2)).symm, (by with_reducible repeat (first | exact Only.refl _ _ | assumption | refine Only.drewN ?_ _ | refine Only.drew ?_ | refine Only.alloc ?_ _ | refine Only.setCell ?_ (by intro hh; exfalso; simp at hh; try omega) _ | refine Only.trans ?_ (by assumption)))⟩
  go_enter Tryz.func9, Tryz.ntmps9
  go_wp2_with (first | (go_at_call 21; (with_reducible refine (eqInt64SS_rd v2 v2' x.moves y.moves _ _ _ (Rp.keep h2 (by with_reducible repeat (first | exact Only.refl _ _ | assumption | refine Only.drewN ?_ _ | refine Only.drew ?_ | refine Only.alloc ?_ _ | refine Only.setCell ?_ (by intro hh; exfalso; simp at hh; try omega) _ | refine Only.trans ?_ (by assumption)))) (Rp.keep h2' (by with_reducible repeat (first | exact Only.refl _ _ | assumption | refine Only.drewN ?_ _ | refine Only.drew ?_ | refine Only.alloc ?_ _ | refine Only.setCell ?_ (by intro hh; exfalso; simp at hh; try omega) _ | refine Only.trans ?_ (by assumption))))).mono ?_); rintro e w2 ⟨rfl, n2, rfl⟩))
  go_ret
  exact ⟨ret_bool (eqV_yes (Puzzle.eq_iff.2 ⟨Q0.out, Q1.out, eqV_iff.1 q2⟩)).symm, (by with_reducible repeat (first | exact Only.refl _ _ | assumption | refine Only.drewN ?_ _ | refine Only.drew ?_ | refine Only.alloc ?_ _ | refine Only.setCell ?_ (by intro hh; exfalso; simp at hh; try omega) _ | refine Only.trans ?_ (by assumption)))⟩


set_option maxHeartbeats 1000000 in
theorem szPuzzle_any (cs : List Value) (x : Puzzle) (fp : List Nat) (k : Int) (w : World) (h : Rp.rep w cs x fp) (h0 : 0 ≤ k) (h1 : k ≤ 2147483648) :
    Calls Tryz.prog 4 #[.agg cs.toArray, .int .i64 k] w fun e w' => e = .returned (.int .i64 (szV k x)) ∧ Only [] w w' := by
  obtain ⟨v2, rfl, p0, p1, h2⟩ := h
  have hcc : Sz.sz x = x.names.size + Sz.sz x.moves := rfl
  have Hcc := Lib.hid hcc; clear hcc
  have hm1 := p1
  unfold maxLen at hm1
  by_cases e1 : k - (x.names.size : Nat) < 0
  · go_enter Tryz.func4, Tryz.ntmps4
    go_wp2_with (first | (go_at_call 13; (with_reducible refine (szInt64SS_rd v2 x.moves _ (k - (x.names.size : Nat)) _ (Rp.keep h2 (by with_reducible repeat (first | exact Only.refl _ _ | assumption | refine Only.drewN ?_ _ | refine Only.drew ?_ | refine Only.alloc ?_ _ | refine Only.setCell ?_ (by intro hh; exfalso; simp at hh; try omega) _ | refine Only.trans ?_ (by assumption)))) (by omega) (by omega)).mono ?_); rintro e w2 ⟨rfl, n2, rfl⟩))
    go_ret
    exact ⟨ret_int (szV_no (by have := Hcc.out; omega)).symm, (by with_reducible repeat (first | exact Only.refl _ _ | assumption | refine Only.drewN ?_ _ | refine Only.drew ?_ | refine Only.alloc ?_ _ | refine Only.setCell ?_ (by intro hh; exfalso; simp at hh; try omega) _ | refine Only.trans ?_ (by assumption)))⟩
  rcases szV_cases (k - (x.names.size : Nat)) x.moves with ⟨e2, m2⟩ | ⟨e2, r2, m2⟩
  · go_enter Tryz.func4, Tryz.ntmps4
    go_wp2_with (first | (go_at_call 13; (with_reducible refine (szInt64SS_rd v2 x.moves _ (k - (x.names.size : Nat)) _ (Rp.keep h2 (by with_reducible repeat (first | exact Only.refl _ _ | assumption | refine Only.drewN ?_ _ | refine Only.drew ?_ | refine Only.alloc ?_ _ | refine Only.setCell ?_ (by intro hh; exfalso; simp at hh; try omega) _ | refine Only.trans ?_ (by assumption)))) (by omega) (by omega)).mono ?_); rintro e w2 ⟨rfl, n2, rfl⟩))
    go_ret
    exact ⟨ret_int (szV_no (by have := Hcc.out; omega)).symm, (by with_reducible repeat (first | exact Only.refl _ _ | assumption | refine Only.drewN ?_ _ | refine Only.drew ?_ | refine Only.alloc ?_ _ | refine Only.setCell ?_ (by intro hh; exfalso; simp at hh; try omega) _ | refine Only.trans ?_ (by assumption)))⟩
  go_enter Tryz.func4, Tryz.ntmps4
  go_wp2_with (first | (go_at_call 13; (with_reducible refine (szInt64SS_rd v2 x.moves _ (k - (x.names.size : Nat)) _ (Rp.keep h2 (by with_reducible repeat (first | exact Only.refl _ _ | assumption | refine Only.drewN ?_ _ | refine Only.drew ?_ | refine Only.alloc ?_ _ | refine Only.setCell ?_ (by intro hh; exfalso; simp at hh; try omega) _ | refine Only.trans ?_ (by assumption)))) (by omega) (by omega)).mono ?_); rintro e w2 ⟨rfl, n2, rfl⟩))
  go_ret
  exact ⟨ret_int (by rw [szV_yes (by have := Hcc.out; omega)]; have := Hcc.out; omega), (by with_reducible repeat (first | exact Only.refl _ _ | assumption | refine Only.drewN ?_ _ | refine Only.drew ?_ | refine Only.alloc ?_ _ | refine Only.setCell ?_ (by intro hh; exfalso; simp at hh; try omega) _ | refine Only.trans ?_ (by assumption)))⟩

set_option maxHeartbeats 1000000 in
theorem markPuzzle_any (cs : List Value) (x : Puzzle) (fp : List Nat) (k : Int) (w : World) (h : Rp.rep w cs x fp) (hnd : fp.Nodup) (ho : Own w fp) (h0 : 0 ≤ k) (hc : k + (Mk.cnt x : Nat) ≤ 4611686018427387904) :
    Calls Tryz.prog 10 #[.agg cs.toArray, .int .i64 k] w fun e w' => e = .returned (.int .i64 (k + (Mk.cnt x : Nat))) ∧ Rp.rep w' cs (Mk.mark k x) fp ∧ Own w' fp ∧ Only fp w w' := by
  obtain ⟨v2, rfl, p0, p1, h2⟩ := h
  have hcc : Mk.cnt x = Mk.cnt x.moves := rfl
  have Hcc := Lib.hid hcc; clear hcc
  have hb2 : k + (Mk.cnt x.moves : Nat) ≤ 4611686018427387904 := by have := Hcc.out; omega
  have n2 := hnd
  have l2 := Rp.lt h2
  go_enter Tryz.func10, Tryz.ntmps10
  go_wp2_with (first | (go_at_call 22; (with_reducible refine (markInt64SS_rd v2 x.moves fp (k) _ (Rp.keep h2 (by with_reducible repeat (first | exact Only.refl _ _ | assumption | refine Only.drewN ?_ _ | refine Only.drew ?_ | refine Only.alloc ?_ _ | refine Only.setCell ?_ (by intro hh; exfalso; simp at hh; try omega) _ | refine Only.trans ?_ (by assumption)))) n2 (ho.keep (by with_reducible repeat (first | exact Only.refl _ _ | assumption | refine Only.drewN ?_ _ | refine Only.drew ?_ | refine Only.alloc ?_ _ | refine Only.setCell ?_ (by intro hh; exfalso; simp at hh; try omega) _ | refine Only.trans ?_ (by assumption)))) (by omega) hb2).mono ?_); rintro e w2 ⟨rfl, r2, o2, t2⟩; have s2 : w.heap.size < w2.heap.size := (Nat.lt_of_lt_of_le (by simp) t2.size); have q2 := t2.cells_eq w.heap.size (by simp) (fun hm => absurd (l2 _ hm) (by omega))))
  go_ret
  have hk0 : Only [] w (w.alloc (.cells ([Value.int .i64 x.points] ++ [Value.string x.names] ++ [v2]).toArray 29)) := (by with_reducible repeat (first | exact Only.refl _ _ | assumption | refine Only.drewN ?_ _ | refine Only.drew ?_ | refine Only.alloc ?_ _ | refine Only.setCell ?_ (by intro hh; exfalso; simp at hh; try omega) _ | refine Only.trans ?_ (by assumption)))
  exact ⟨ret_int (by have := Hcc.out; omega), ⟨v2, rfl, p0, p1, r2⟩, o2, (hk0.weaken _).trans t2⟩

set_option maxHeartbeats 1000000 in
theorem toPuzzle_any (cs : List Value) (x : Puzzle) (fp : List Nat) (w : World) (h : Rp.rep w cs x fp) (hsm : Sm.sm x) :
    Calls Tryz.prog 6 #[.agg cs.toArray] w fun e w' => ∃ cs' fp', e = .returned (.agg cs'.toArray) ∧ Rp.rep w' cs' x fp' ∧ Fresh w.heap.size w' fp' ∧ Only [] w w' := by
  obtain ⟨v2, rfl, p0, p1, h2⟩ := h
  have g2 : Sm.sm x.moves := hsm
  go_enter Tryz.func6, Tryz.ntmps6
  go_wp2_with (first | (go_at_call 17; (with_reducible refine (toInt64SS_sm v2 x.moves _ _ (Rp.keep h2 (by with_reducible repeat (first | exact Only.refl _ _ | assumption | refine Only.drewN ?_ _ | refine Only.drew ?_ | refine Only.alloc ?_ _ | refine Only.setCell ?_ (by intro hh; exfalso; simp at hh; try omega) _ | refine Only.trans ?_ (by assumption)))) g2).mono ?_); rintro e w2 ⟨u2, fz2, rfl, r2, F2, t2⟩; have k2 := r2.open_; obtain ⟨A2, C2, _, _, rfl, -⟩ := k2; have s2 : w.heap.size + 1 + 1 < w2.heap.size := (by have := t2.size; simp at this; omega); have y20 := t2.cells_eq w.heap.size (by simp; try omega) (by simp); have z20 := t2.frozen_eq w.heap.size (by simp; try omega) (by simp); have y21 := t2.cells_eq (w.heap.size + 1) (by simp; try omega) (by simp); have z21 := t2.frozen_eq (w.heap.size + 1) (by simp; try omega) (by simp); have y22 := t2.cells_eq (w.heap.size + 1 + 1) (by simp; try omega) (by simp); have z22 := t2.frozen_eq (w.heap.size + 1 + 1) (by simp; try omega) (by simp)))
  have T2 := t2.size
  simp at T2
  refine bodyPost_ret (v := .agg #[.int .i64 x.points, .string x.names, .slice A2 x.moves.length C2]) (by simp [results, Tryz.results6, go_sem, y21]) rfl ⟨[.int .i64 x.points, .string x.names, .slice A2 x.moves.length C2], _, rfl, ⟨.slice A2 x.moves.length C2, rfl, p0, p1, Rp.only (fp' := [w.heap.size + 1, w.heap.size + 1 + 1]) r2 (by with_reducible repeat (first | exact Only.refl _ _ | assumption | refine Only.drewN ?_ _ | refine Only.drew ?_ | refine Only.alloc ?_ _ | refine Only.setCell ?_ (by intro _; simp) _ | refine Only.trans ?_ (Only.weaken (by assumption) _))) (fun b hb hm => by have := F2.ge b hb; simp at hm this; omega)⟩, Fresh.mono (F2.only (fp' := [w.heap.size + 1, w.heap.size + 1 + 1]) (by with_reducible repeat (first | exact Only.refl _ _ | assumption | refine Only.drewN ?_ _ | refine Only.drew ?_ | refine Only.alloc ?_ _ | refine Only.setCell ?_ (by intro _; simp) _ | refine Only.trans ?_ (Only.weaken (by assumption) _))) (fun b hb hm => by have := F2.ge b hb; simp at hm this; omega)) (by simp; try omega), (by with_reducible repeat (first | exact Only.refl _ _ | assumption | refine Only.drewN ?_ _ | refine Only.drew ?_ | refine Only.alloc ?_ _ | refine Only.setCell ?_ (by intro hh; exfalso; simp at hh; try omega) _ | refine Only.trans ?_ (by assumption)))⟩

end Go.Proofs.YtccdicgnolkepaaGreat

namespace Go.Proofs.YtccdicgnolkepaaGreat
open Go.RowKit
set_option maxRecDepth 10000

/-- the bytes of a string, as numbers -/
def bl (s : ByteArray) : List Int := s.data.toList.map fun b => (b.toNat : Int)
theorem bl_len (s : ByteArray) : (bl s).length = s.size := by
  unfold bl; rw [List.length_map, Array.length_toList]; rfl
theorem bl_get (s : ByteArray) (i : Nat) (h : i < s.size) (h' : i < (bl s).length) : (bl s)[i] = (s[i].toNat : Int) := by
  simp [bl]; rfl
def moveNameB (L : List Int) (i : Nat) : Bool := match L[i]? with
  | some b => inR b 65 90 && decide (b ∉ L.take i)
  | none => false
theorem moveNameB_of {L : List Int} {i : Nat} (h : i < L.length) : moveNameB L i = (inR L[i] 65 90 && decide (L[i] ∉ L.take i)) := by
  simp [moveNameB, h]
def namesB (s : ByteArray) : Bool := inR s.size 1 8 && ((bl s).all (fun b => inR b 65 90) && decide (bl s).Nodup)
def validPz (p : Puzzle) : Bool := gensB p.points p.moves && (namesB p.names && decide (p.names.size = p.moves.length))
theorem names_of {L : List Int} : (L.all (fun b => inR b 65 90) && decide L.Nodup) = true ↔ (∀ x ∈ L, inR x 65 90 = true) ∧ L.Nodup := by simp

set_option maxHeartbeats 1000000 in
theorem isMoveName_any (s : ByteArray) (i : Nat) (w : World) (hs : s.size ≤ maxLen) (hi : i < s.size) :
    Calls Tryz.prog 41 #[.string s, .int .i64 i] w fun e w' => e = .returned (.bool (moveNameB (bl s) i)) ∧ Drew w w' := by
  unfold maxLen at hs
  have hi1 : (0 : Int) ≤ (i : Int) := by omega
  have hi2 : (i : Int) < (s.size : Int) := by omega
  have hL : i < (bl s).length := by rw [bl_len]; exact hi
  have hfin : moveNameB (bl s) i = (inR (s[i].toNat : Int) 65 90 && decide ((s[i].toNat : Int) ∉ (bl s).take i)) := by rw [moveNameB_of hL, bl_get s i hi hL]
  have Hfin := Lib.hid hfin; clear hfin
  by_cases c1 : (s[i].toNat : Int) < 65
  · go_enter Tryz.func41, Tryz.ntmps41
    go_wp2
    go_ret
    exact ⟨ret_bool (by rw [Hfin.out, show inR (s[i].toNat : Int) 65 90 = false by rw [inR_not]; omega]; rfl), ⟨0, rfl⟩⟩
  by_cases c2 : 90 < (s[i].toNat : Int)
  · go_enter Tryz.func41, Tryz.ntmps41
    go_wp2
    go_ret
    exact ⟨ret_bool (by rw [Hfin.out, show inR (s[i].toNat : Int) 65 90 = false by rw [inR_not]; omega]; rfl), ⟨0, rfl⟩⟩
  have hR : moveNameB (bl s) i = decide ((s[i].toNat : Int) ∉ (bl s).take i) := by rw [Hfin.out, show inR (s[i].toNat : Int) 65 90 = true by rw [inR_iff]; omega]; rfl
  have HR := Lib.hid hR; clear hR Hfin
  go_enter Tryz.func41, Tryz.ntmps41
  go_wp2
  go_loopw [5] (fun t wr => ∃ j : Nat, j ≤ i ∧ t = .int .i64 j ∧ (s[i].toNat : Int) ∉ (bl s).take j ∧ Drew w wr)
    (fun t _ => i - (intOf t).toNat)
  case atStart => exact ⟨0, Nat.zero_le _, rfl, by simp, Drew.refl _⟩
  case round =>
    obtain ⟨j, hj, rfl, hr, k, rfl⟩ := hrel
    have Hr := Lib.hid hr; clear hr
    by_cases hlt : j < i
    · have hjs : j < s.size := by omega
      have hj1 : (0 : Int) ≤ (j : Int) := by omega
      have hj2 : (j : Int) < (s.size : Int) := by omega
      have hbj : (bl s)[j]'(by rw [bl_len]; exact hjs) = (s[j].toNat : Int) := bl_get s j hjs _
      have Hbj := Lib.hid hbj; clear hbj
      by_cases hx : (s[j].toNat : Int) = (s[i].toNat : Int)
      · have hq : ((s[j].toNat : Int) == (s[i].toNat : Int)) = true := by simp [hx]
        have Hx := Lib.hid hx; clear hx
        go_wp2
        go_quiet (fail)
        go_wp2
        go_ret
        exact ⟨ret_bool (by rw [HR.out, eq_comm, decide_eq_false_iff_not, Classical.not_not, ← Hx.out, ← Hbj.out]; exact List.mem_take_iff_getElem.2 ⟨j, by rw [bl_len]; omega, rfl⟩), ((Drew.refl _).drewN _).drewN _⟩
      · have hq : ((s[j].toNat : Int) == (s[i].toNat : Int)) = false := by simpa using hx
        have Hx := Lib.hid hx; clear hx
        go_wp2
        go_quiet (fail)
        go_wp2
        go_roundw
        case rel => exact ⟨j + 1, by omega, by go_num, by
          rw [take_succ_get (bl s) j (by rw [bl_len]; exact hjs)]; intro hm
          rcases List.mem_append.1 hm with hm | hm
          · exact Hr.out hm
          · simp at hm; rw [Hbj.out] at hm; exact Hx.out hm.symm, ⟨_, rfl⟩⟩
        case measure => simp [intOf]; omega
    · go_wp2
      go_ret
      exact ⟨ret_bool (by rw [HR.out, eq_comm, decide_eq_true_iff]; have := Hr.out; have e : j = i := (by omega); rwa [e] at this), ⟨_, rfl⟩⟩
theorem namesB_yes {L : List Int} (h : ∀ k, k < L.length → moveNameB L k = true) : (L.all (fun b => inR b 65 90) && decide L.Nodup) = true := by
  rw [names_of]
  have hk : ∀ k (hk : k < L.length), inR L[k] 65 90 = true ∧ L[k] ∉ L.take k := by
    intro k hk
    have := h k hk
    rw [moveNameB_of hk] at this
    simpa using this
  refine ⟨fun x hx => ?_, ?_⟩
  · obtain ⟨k, hk', rfl⟩ := List.getElem_of_mem hx
    exact (hk k hk').1
  · rw [List.nodup_iff_pairwise_ne, List.pairwise_iff_getElem]
    intro i j hi hj hij he
    exact (hk j hj).2 (List.mem_take_iff_getElem.2 ⟨i, by omega, he⟩)
theorem namesB_no {L : List Int} {k : Nat} (hk : k < L.length) (h : moveNameB L k = false) : (L.all (fun b => inR b 65 90) && decide L.Nodup) = false := by
  rw [← Bool.not_eq_true, names_of]
  rintro ⟨h1, h2⟩
  rw [moveNameB_of hk, h1 _ (List.getElem_mem _)] at h
  simp at h
  exact nodup_take_not hk h h2
set_option maxHeartbeats 2000000 in
theorem specIsValidPuzzle_any (cs : List Value) (x : Puzzle) (fp : List Nat) (w : World) (h : Rp.rep w cs x fp) :
    Calls Tryz.prog 24 #[.agg cs.toArray] w fun e w' => e = .returned (.bool (validPz x)) ∧ Only [] w w' := by
  obtain ⟨v2, rfl, p0, p1, h2⟩ := h
  obtain ⟨A2, C2, ob, fps, rfl, -, hs⟩ := h2.open_
  have hb := hs.bound
  have hm := p1; unfold maxLen at hm
  by_cases c1 : x.moves.length = 0
  · have hf : validPz x = false := by
      unfold validPz namesB
      rw [Bool.and_eq_false_iff, Bool.and_eq_false_iff, Bool.and_eq_false_iff]
      right
      by_cases hz : x.names.size = x.moves.length
      · left; left; rw [inR_not]; omega
      · right; exact decide_eq_false hz
    have Hf := Lib.hid hf; clear hf
    have d1 : ((x.moves.length : Int) == 0) = true := by simp [c1]
    have C1 := Lib.hid c1; clear c1
    go_enter Tryz.func24, Tryz.ntmps24
    go_wp2
    go_ret
    exact ⟨ret_bool Hf.out.symm, (by with_reducible repeat (first | exact Only.refl _ _ | assumption | refine Only.drewN ?_ _ | refine Only.drew ?_ | refine Only.alloc ?_ _ | refine Only.setCell ?_ (by intro hh; exfalso; simp at hh; try omega) _ | refine Only.trans ?_ (by assumption)))⟩
  have d1 : ((x.moves.length : Int) == 0) = false := by rw [beq_eq_false_iff_ne]; omega
  by_cases c2 : x.names.size = x.moves.length
  · have d2 : ((x.names.size : Int) != (x.moves.length : Int)) = false := by simp [c2]
    rcases c3 : gensB x.points x.moves
    · have hf : validPz x = false := by unfold validPz; rw [c3]; rfl
      have Hf := Lib.hid hf; clear hf
      have C2' := Lib.hid c2; clear c2
      have C1 := Lib.hid c1; clear c1
      go_enter Tryz.func24, Tryz.ntmps24
      go_wp2_with ((go_at_call 40; (with_reducible refine (specIsGens_rd x.points _ x.moves _ _ (Rp.keep h2 (by with_reducible repeat (first | exact Only.refl _ _ | assumption | refine Only.drewN ?_ _ | refine Only.drew ?_ | refine Only.alloc ?_ _ | refine Only.setCell ?_ (by intro hh; exfalso; simp at hh; try omega) _ | refine Only.trans ?_ (by assumption))))).mono ?_); rintro e w1 ⟨rfl, n1, rfl⟩))
      go_ret
      exact ⟨ret_bool Hf.out.symm, (by with_reducible repeat (first | exact Only.refl _ _ | assumption | refine Only.drewN ?_ _ | refine Only.drew ?_ | refine Only.alloc ?_ _ | refine Only.setCell ?_ (by intro hh; exfalso; simp at hh; try omega) _ | refine Only.trans ?_ (by assumption)))⟩
    have hl8 : x.moves.length ≤ 8 := by
      unfold gensB at c3; simp only [Bool.and_eq_true, decide_eq_true_eq] at c3; exact c3.1.2
    have hf : validPz x = ((bl x.names).all (fun b => inR b 65 90) && decide (bl x.names).Nodup) := by
      unfold validPz namesB; rw [c3, decide_eq_true c2, show inR x.names.size 1 8 = true by rw [inR_iff]; omega]; simp
    have Hf := Lib.hid hf; clear hf
    have C2' := Lib.hid c2; clear c2
    have C1 := Lib.hid c1; clear c1
    go_enter Tryz.func24, Tryz.ntmps24
    go_wp2_with ((go_at_call 40; (with_reducible refine (specIsGens_rd x.points _ x.moves _ _ (Rp.keep h2 (by with_reducible repeat (first | exact Only.refl _ _ | assumption | refine Only.drewN ?_ _ | refine Only.drew ?_ | refine Only.alloc ?_ _ | refine Only.setCell ?_ (by intro hh; exfalso; simp at hh; try omega) _ | refine Only.trans ?_ (by assumption))))).mono ?_); rintro e w1 ⟨rfl, n1, rfl⟩))
    go_loopw [3] (fun i wr => ∃ j : Nat, j ≤ x.names.size ∧ i = .int .i64 j ∧ (∀ k, k < j → moveNameB (bl x.names) k = true) ∧ Drew ((w.alloc (.cells #[.int .i64 x.points, .string x.names, .slice A2 x.moves.length C2] 29))) wr)
      (fun i _ => x.names.size - (intOf i).toNat)
    case atStart => exact ⟨0, Nat.zero_le _, rfl, by simp, ⟨_, rfl⟩⟩
    case round =>
      obtain ⟨j, hj, rfl, hr, k, rfl⟩ := hrel
      have Hr := Lib.hid hr; clear hr
      by_cases hlt : j < x.names.size
      · rcases c4 : moveNameB (bl x.names) j
        all_goals go_wp2_with ((go_at_call 41; (with_reducible refine (isMoveName_any x.names j _ p1 hlt).mono ?_); rintro e w1 ⟨rfl, n1, rfl⟩))
        · go_ret
          exact ⟨ret_bool (by rw [Hf.out, namesB_no (by rw [bl_len]; exact hlt) c4]), (by with_reducible repeat (first | exact Only.refl _ _ | assumption | refine Only.drewN ?_ _ | refine Only.drew ?_ | refine Only.alloc ?_ _ | refine Only.setCell ?_ (by intro hh; exfalso; simp at hh; try omega) _ | refine Only.trans ?_ (by assumption)))⟩
        · go_roundw
          case rel => exact ⟨j + 1, by omega, by go_num, fun k hk => by
            by_cases hkj : k = j
            · subst hkj; exact c4
            · exact Hr.out k (by omega), ⟨_, rfl⟩⟩
          case measure => simp [intOf]; omega
      · go_wp2
        go_ret
        exact ⟨ret_bool (by rw [Hf.out, namesB_yes (fun k hk => Hr.out k (by rw [bl_len] at hk; omega))]), (by with_reducible repeat (first | exact Only.refl _ _ | assumption | refine Only.drewN ?_ _ | refine Only.drew ?_ | refine Only.alloc ?_ _ | refine Only.setCell ?_ (by intro hh; exfalso; simp at hh; try omega) _ | refine Only.trans ?_ (by assumption)))⟩
  · have d2 : ((x.names.size : Int) != (x.moves.length : Int)) = true := by simp only [bne_iff_ne, ne_eq]; omega
    have hf : validPz x = false := by unfold validPz; rw [decide_eq_false c2]; simp
    have Hf := Lib.hid hf; clear hf
    have C2' := Lib.hid c2; clear c2
    have C1 := Lib.hid c1; clear c1
    go_enter Tryz.func24, Tryz.ntmps24
    go_wp2
    go_ret
    exact ⟨ret_bool Hf.out.symm, (by with_reducible repeat (first | exact Only.refl _ _ | assumption | refine Only.drewN ?_ _ | refine Only.drew ?_ | refine Only.alloc ?_ _ | refine Only.setCell ?_ (by intro hh; exfalso; simp at hh; try omega) _ | refine Only.trans ?_ (by assumption)))⟩
set_option maxHeartbeats 2000000 in
theorem isNames_any (s : ByteArray) (w : World) (hs : s.size ≤ maxLen) :
    Calls Tryz.prog 57 #[.string s] w fun e w' => e = .returned (.bool (namesB s)) ∧ Drew w w' := by
  unfold maxLen at hs
  have hno : ∀ k, k < s.size → moveNameB (bl s) k = false → namesB s = false := by
    intro k hk h
    unfold namesB
    rw [namesB_no (by rw [bl_len]; exact hk) h]; simp
  have hyes : (∀ k, k < s.size → moveNameB (bl s) k = true) → namesB s = inR s.size 1 8 := by
    intro h
    unfold namesB
    rw [namesB_yes (fun k hk => h k (by rw [bl_len] at hk; exact hk))]; simp
  have Hno := Lib.hid hno; clear hno
  have Hyes := Lib.hid hyes; clear hyes
  go_enter Tryz.func57, Tryz.ntmps57
  go_wp2
  go_loopw [7] (fun i wr => ∃ j : Nat, j ≤ s.size ∧ i = .int .i64 j ∧ (∀ k, k < j → moveNameB (bl s) k = true) ∧ Drew w wr)
    (fun i _ => s.size - (intOf i).toNat)
  case atStart => exact ⟨0, Nat.zero_le _, rfl, by simp, Drew.refl _⟩
  case round =>
    obtain ⟨j, hj, rfl, hr, k, rfl⟩ := hrel
    have Hr := Lib.hid hr; clear hr
    by_cases hlt : j < s.size
    · have hi1 : (0 : Int) ≤ (j : Int) := by omega
      have hi2 : (j : Int) < (s.size : Int) := by omega
      have hL : j < (bl s).length := by rw [bl_len]; exact hlt
      have hbj : (bl s)[j] = (s[j].toNat : Int) := bl_get s j hlt _
      have hmn : moveNameB (bl s) j = (inR (s[j].toNat : Int) 65 90 && decide ((s[j].toNat : Int) ∉ (bl s).take j)) := by rw [moveNameB_of hL, hbj]
      have Hmn := Lib.hid hmn; clear hmn hbj hL
      have hw : wrap64 (s[j].toNat : Int) = (s[j].toNat : Int) := wrap64_small _ (by omega) (by have := UInt8.toNat_lt s[j]; omega)
      rcases c1 : inR (s[j].toNat : Int) 65 90
      · go_wp2_with ((go_at_call 58; (with_reducible refine (within_any (s[j].toNat : Int) 65 90 _).mono ?_); rintro e w1 ⟨rfl, rfl⟩))
        go_ret
        exact ⟨ret_bool (Hno.out j hlt (by rw [Hmn.out, c1]; rfl)).symm, ⟨_, rfl⟩⟩
      go_wp2_with ((go_at_call 58; (with_reducible refine (within_any (s[j].toNat : Int) 65 90 _).mono ?_); rintro e w1 ⟨rfl, rfl⟩))
      go_loopw [17] (fun i wr => ∃ q : Nat, q ≤ j ∧ i = .int .i64 q ∧ (s[j].toNat : Int) ∉ (bl s).take q ∧ Drew w wr)
        (fun i _ => j - (intOf i).toNat)
      case atStart => exact ⟨0, Nat.zero_le _, rfl, by simp, ⟨_, rfl⟩⟩
      case round =>
        obtain ⟨q, hq, rfl, hu, k2, rfl⟩ := hrel
        have Hu := Lib.hid hu; clear hu
        by_cases hlq : q < j
        · have hqs : q < s.size := by omega
          have hq1 : (0 : Int) ≤ (q : Int) := by omega
          have hq2 : (q : Int) < (s.size : Int) := by omega
          have hbq : (bl s)[q]'(by rw [bl_len]; exact hqs) = (s[q].toNat : Int) := bl_get s q hqs _
          have Hbq := Lib.hid hbq; clear hbq
          by_cases hx : (s[q].toNat : Int) = (s[j].toNat : Int)
          · have hqq : ((s[q].toNat : Int) == (s[j].toNat : Int)) = true := by simp [hx]
            have Hx := Lib.hid hx; clear hx
            go_wp2
            go_quiet (fail)
            go_wp2
            go_ret
            exact ⟨ret_bool (Hno.out j hlt (by rw [Hmn.out, c1, decide_eq_false (by rw [Classical.not_not, ← Hx.out, ← Hbq.out]; exact List.mem_take_iff_getElem.2 ⟨q, by rw [bl_len]; omega, rfl⟩)]; rfl)).symm, ((Drew.refl _).drewN _).drewN _⟩
          · have hqq : ((s[q].toNat : Int) == (s[j].toNat : Int)) = false := by simpa using hx
            have Hx := Lib.hid hx; clear hx
            go_wp2
            go_quiet (fail)
            go_wp2
            go_roundw
            case rel => exact ⟨q + 1, by omega, by go_num, by
              rw [take_succ_get (bl s) q (by rw [bl_len]; exact hqs)]; intro hm
              rcases List.mem_append.1 hm with hm | hm
              · exact Hu.out hm
              · simp at hm; rw [Hbq.out] at hm; exact Hx.out hm.symm, ⟨_, rfl⟩⟩
            case measure => simp [intOf]; omega
        · have hqj : q = j := by omega
          have Hqj := Lib.hid hqj; clear hqj
          go_wp2
          go_roundw
          case rel => exact ⟨j + 1, by omega, by go_num, fun z hz => by
            by_cases hzj : z = j
            · subst hzj; rw [Hmn.out, c1, decide_eq_true (by have := Hu.out; rwa [Hqj.out] at this)]; rfl
            · exact Hr.out z (by omega), ⟨_, rfl⟩⟩
          case measure => simp [intOf]; omega
    · rcases c5 : inR s.size 1 8
      all_goals go_wp2_with ((go_at_call 58; (with_reducible refine (within_any s.size 1 8 _).mono ?_); rintro e w1 ⟨rfl, rfl⟩))
      all_goals go_ret
      all_goals exact ⟨ret_bool (by rw [Hyes.out (fun z hz => Hr.out z (by omega)), c5]), ⟨_, rfl⟩⟩
set_option maxHeartbeats 2000000 in
theorem implIsValidPuzzle_any (cs : List Value) (x : Puzzle) (fp : List Nat) (w : World) (h : Rp.rep w cs x fp) :
    Calls Tryz.prog 32 #[.agg cs.toArray] w fun e w' => e = .returned (.bool (validPz x)) ∧ Only [] w w' := by
  obtain ⟨v2, rfl, p0, p1, h2⟩ := h
  obtain ⟨A2, C2, ob, fps, rfl, -, hs⟩ := h2.open_
  have hb := hs.bound
  have hm := p1; unfold maxLen at hm
  have G : ∀ w', Only [] w w' → Calls Tryz.prog 56 #[.int .i64 x.points, .slice A2 x.moves.length C2] w' fun e w'' => e = .returned (.bool (gensB x.points x.moves)) ∧ Only [] w' w'' :=
    fun w' hw => implIsGens_rd x.points _ x.moves _ w' (Rp.keep h2 hw)
  have HG := Lib.hid G; clear G
  rcases c3 : gensB x.points x.moves
  · have hf : validPz x = false := by unfold validPz; rw [c3]; rfl
    have Hf := Lib.hid hf; clear hf
    go_enter Tryz.func32, Tryz.ntmps32
    go_wp2_with ((go_at_call 56; (with_reducible refine (HG.out _ (by with_reducible repeat (first | exact Only.refl _ _ | assumption | refine Only.drewN ?_ _ | refine Only.drew ?_ | refine Only.alloc ?_ _ | refine Only.setCell ?_ (by intro hh; exfalso; simp at hh; try omega) _ | refine Only.trans ?_ (by assumption)))).mono ?_); rintro e w1 ⟨rfl, t1⟩; have y1 := t1.cells_eq w.heap.size (by simp) (by simp)))
    go_ret
    exact ⟨ret_bool Hf.out.symm, (by with_reducible repeat (first | exact Only.refl _ _ | assumption | refine Only.drewN ?_ _ | refine Only.drew ?_ | refine Only.alloc ?_ _ | refine Only.setCell ?_ (by intro hh; exfalso; simp at hh; try omega) _ | refine Only.trans ?_ (by assumption)))⟩
  rcases c4 : namesB x.names
  · have hf : validPz x = false := by unfold validPz; rw [c3, c4]; rfl
    have Hf := Lib.hid hf; clear hf
    go_enter Tryz.func32, Tryz.ntmps32
    go_wp2_with (first | (go_at_call 56; (with_reducible refine (HG.out _ (by with_reducible repeat (first | exact Only.refl _ _ | assumption | refine Only.drewN ?_ _ | refine Only.drew ?_ | refine Only.alloc ?_ _ | refine Only.setCell ?_ (by intro hh; exfalso; simp at hh; try omega) _ | refine Only.trans ?_ (by assumption)))).mono ?_); rintro e w1 ⟨rfl, t1⟩; have y1 := t1.cells_eq w.heap.size (by simp) (by simp)) | (go_at_call 57; (with_reducible refine (isNames_any x.names _ p1).mono ?_); rintro e w2 ⟨rfl, n2, rfl⟩))
    go_ret
    exact ⟨ret_bool Hf.out.symm, (by with_reducible repeat (first | exact Only.refl _ _ | assumption | refine Only.drewN ?_ _ | refine Only.drew ?_ | refine Only.alloc ?_ _ | refine Only.setCell ?_ (by intro hh; exfalso; simp at hh; try omega) _ | refine Only.trans ?_ (by assumption)))⟩
  have hf : validPz x = decide (x.names.size = x.moves.length) := by unfold validPz; rw [c3, c4]; rfl
  have Hf := Lib.hid hf; clear hf
  by_cases c5 : x.names.size = x.moves.length
  · have d5 : ((x.names.size : Int) == (x.moves.length : Int)) = true := by simp [c5]
    have C5 := Lib.hid c5; clear c5
    go_enter Tryz.func32, Tryz.ntmps32
    go_wp2_with (first | (go_at_call 56; (with_reducible refine (HG.out _ (by with_reducible repeat (first | exact Only.refl _ _ | assumption | refine Only.drewN ?_ _ | refine Only.drew ?_ | refine Only.alloc ?_ _ | refine Only.setCell ?_ (by intro hh; exfalso; simp at hh; try omega) _ | refine Only.trans ?_ (by assumption)))).mono ?_); rintro e w1 ⟨rfl, t1⟩; have y1 := t1.cells_eq w.heap.size (by simp) (by simp)) | (go_at_call 57; (with_reducible refine (isNames_any x.names _ p1).mono ?_); rintro e w2 ⟨rfl, n2, rfl⟩))
    go_ret
    exact ⟨ret_bool (by rw [Hf.out, decide_eq_true C5.out]), (by with_reducible repeat (first | exact Only.refl _ _ | assumption | refine Only.drewN ?_ _ | refine Only.drew ?_ | refine Only.alloc ?_ _ | refine Only.setCell ?_ (by intro hh; exfalso; simp at hh; try omega) _ | refine Only.trans ?_ (by assumption)))⟩
  · have d5 : ((x.names.size : Int) == (x.moves.length : Int)) = false := by rw [beq_eq_false_iff_ne]; omega
    have C5 := Lib.hid c5; clear c5
    go_enter Tryz.func32, Tryz.ntmps32
    go_wp2_with (first | (go_at_call 56; (with_reducible refine (HG.out _ (by with_reducible repeat (first | exact Only.refl _ _ | assumption | refine Only.drewN ?_ _ | refine Only.drew ?_ | refine Only.alloc ?_ _ | refine Only.setCell ?_ (by intro hh; exfalso; simp at hh; try omega) _ | refine Only.trans ?_ (by assumption)))).mono ?_); rintro e w1 ⟨rfl, t1⟩; have y1 := t1.cells_eq w.heap.size (by simp) (by simp)) | (go_at_call 57; (with_reducible refine (isNames_any x.names _ p1).mono ?_); rintro e w2 ⟨rfl, n2, rfl⟩))
    go_ret
    exact ⟨ret_bool (by rw [Hf.out, decide_eq_false C5.out]), (by with_reducible repeat (first | exact Only.refl _ _ | assumption | refine Only.drewN ?_ _ | refine Only.drew ?_ | refine Only.alloc ?_ _ | refine Only.setCell ?_ (by intro hh; exfalso; simp at hh; try omega) _ | refine Only.trans ?_ (by assumption)))⟩
end Go.Proofs.YtccdicgnolkepaaGreat

namespace Go.Proofs.YtccdicgnolkepaaGreat
open Go.RowKit
set_option maxRecDepth 10000

set_option maxHeartbeats 400000 in
theorem equalInts_any (a a' : Option Addr) (cap cap' : Nat) (l l' : List Int) (fp fp' : List Nat) (w : World) (h : IntsA w a cap l fp) (h' : IntsA w a' cap' l' fp') :
    Calls Tryz.prog 82 #[.slice a l.length cap, .slice a' l'.length cap'] w fun e w' => e = .returned (.bool (eqV l l')) ∧ Drew w w' := by
  have hb := h.bound
  have hb' := h'.bound
  by_cases hl : l.length = l'.length
  · have hne : ((l.length : Int) != (l'.length : Int)) = false := by simp [hl]
    have Hl := Lib.hid hl; clear hl
    go_enter Tryz.func82, Tryz.ntmps82
    go_wp2
    go_loopw [5] (fun i wr => ∃ j : Nat, j ≤ l.length ∧ i = .int .i64 j ∧ l.take j = l'.take j ∧ Drew w wr)
      (fun i _ => l.length - (intOf i).toNat)
    case atStart => exact ⟨0, Nat.zero_le _, rfl, rfl, Drew.refl _⟩
    case round =>
      obtain ⟨j, hj, rfl, hr, n, rfl⟩ := hrel
      have Hr := Lib.hid hr; clear hr
      by_cases hlt : j < l.length
      · have hlt' : j < l'.length := by have := Hl.out; omega
        obtain ⟨b, off, ha, -, hc⟩ := h.at_ j hlt
        obtain ⟨b', off', ha', -, hc'⟩ := h'.at_ j hlt'
        go_wp2
        go_quiet (fail)
        go_wp2
        · have hne : (l[j] != l'[j]) = true := by assumption
          go_ret
          exact ⟨ret_bool (eqInts_no hlt hlt' hne).symm, ((Drew.refl _).drewN _).drewN _⟩
        · have heq : (l[j] != l'[j]) = false := by assumption
          go_roundw
          case rel => exact ⟨j + 1, by omega, by go_num, eqInts_step hlt hlt' heq Hr.out, ⟨_, rfl⟩⟩
          case measure => simp [intOf]; omega
      · go_wp2
        go_ret
        exact ⟨ret_bool (eqL_yes Hl.out hlt Hr.out).symm, (Drew.refl _).drewN n⟩
  · have hne : ((l.length : Int) != (l'.length : Int)) = true := by simp; omega
    go_enter Tryz.func82, Tryz.ntmps82
    go_wp2
    go_ret
    exact ⟨ret_bool (eqL_len hne).symm, Drew.refl _⟩

theorem equalInts_rd (v v' : Value) (l l' : List Int) (fp fp' : List Nat) (w : World) (h : Rd w v l fp) (h' : Rd w v' l' fp') :
    Calls Tryz.prog 82 #[v, v'] w fun e w' => e = .returned (.bool (eqV l l')) ∧ Drew w w' := by
  obtain ⟨a, cap, rfl, hI⟩ := h.ints
  obtain ⟨a', cap', rfl, hI'⟩ := h'.ints
  exact equalInts_any a a' cap cap' l l' fp fp' w hI hI'




end Go.Proofs.YtccdicgnolkepaaGreat


namespace Go.Proofs.YtccdicgnolkepaaGreat
open Go.RowKit
set_option maxRecDepth 10000

/-- a strictly increasing list of points of n -/
def Inc (n : Int) (l : List Int) : Prop := (∀ x ∈ l, 0 ≤ x ∧ x < n) ∧ l.Pairwise (· < ·)
instance (n : Int) (l : List Int) : Decidable (Inc n l) := inferInstanceAs (Decidable (_ ∧ _))
/-- distinct points of n -/
def Dis (n : Int) (l : List Int) : Prop := (∀ x ∈ l, 0 ≤ x ∧ x < n) ∧ l.Nodup
instance (n : Int) (l : List Int) : Decidable (Dis n l) := inferInstanceAs (Decidable (_ ∧ _))
def trackB (n : Int) (l : List Int) : Bool := decide (0 < l.length) && decide (Inc n l)
def patB (n : Int) (k : Nat) (l : List Int) : Bool := decide (l.length = k) && decide (Dis n l)
theorem inc_ge {l : List Int} (h0 : ∀ x ∈ l, 0 ≤ x) (hp : l.Pairwise (· < ·)) : ∀ k (hk : k < l.length), (k : Int) ≤ l[k] := by
  intro k
  induction k with
  | zero => intro hk; have := h0 _ (List.getElem_mem hk); omega
  | succ k ih =>
    intro hk
    have h1 := ih (by omega)
    have h2 := List.pairwise_iff_getElem.1 hp k (k + 1) (by omega) hk (by omega)
    omega
theorem Inc.len {n : Int} {l : List Int} (h : Inc n l) : (l.length : Int) ≤ n ∨ l.length = 0 := by
  rcases Nat.eq_zero_or_pos l.length with h0 | h0
  · exact .inr h0
  · left
    have h1 := inc_ge (fun x hx => (h.1 x hx).1) h.2 (l.length - 1) (by omega)
    have h2 := (h.1 l[l.length - 1] (List.getElem_mem _)).2
    omega
theorem pw_nodup {l : List Int} (h : l.Pairwise (· < ·)) : l.Nodup := by
  rw [List.nodup_iff_pairwise_ne]
  exact h.imp fun h => Int.ne_of_lt h
theorem Inc.dis {n : Int} {l : List Int} (h : Inc n l) : Dis n l := ⟨h.1, pw_nodup h.2⟩
theorem trackB_iff {n : Int} {l : List Int} : trackB n l = true ↔ 0 < l.length ∧ Inc n l := by simp [trackB]
theorem patB_iff {n : Int} {k : Nat} {l : List Int} : patB n k l = true ↔ l.length = k ∧ Dis n l := by simp [patB]
theorem trackB_pat {n : Int} {l : List Int} (h : trackB n l = true) : patB n l.length l = true := patB_iff.2 ⟨rfl, (trackB_iff.1 h).2.dis⟩
def wfT (t : Table) : Bool := trackB 20 t.tracked && (inR t.patterns.length 1 3000 && (decide (t.distances.length = t.patterns.length) && (t.patterns.all (patB 20 t.tracked.length) && t.distances.all (fun d => inR d 0 3000))))
theorem wfT_iff {t : Table} : wfT t = true ↔ trackB 20 t.tracked = true ∧ (1 ≤ t.patterns.length ∧ t.patterns.length ≤ 3000) ∧ t.distances.length = t.patterns.length ∧ (∀ x ∈ t.patterns, patB 20 t.tracked.length x = true) ∧ (∀ d ∈ t.distances, inR d 0 3000 = true) := by
  simp [wfT, inR]; omega
end Go.Proofs.YtccdicgnolkepaaGreat
