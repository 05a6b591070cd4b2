/- The making of chains: the reference's emptyChain and buildChain; membership. States and reachable states: the reference's and the program's functions. -/
import Derived.Test.YtnagknkllkdkaaaGreatRowScrambleSessionG7
import Derived.Test.YtnagknkllkdkaaaGreatRowScrambleSessionG8
namespace Go.Proofs.YtnagknkllkdkaaaGreat
open Go.RowKit
set_option maxRecDepth 10000

def empV (eb : Nat → Nat) (j : Nat) : List RawV := (List.range j).map fun k => ⟨.slice (some ⟨eb k, 0, none⟩) 0 0⟩
theorem empV_len (eb : Nat → Nat) (j : Nat) : (empV eb j).length = j := by simp [empV]
theorem empV_succ (eb : Nat → Nat) (j b : Nat) : empV (updF eb j b) (j + 1) = empV eb j ++ [⟨.slice (some ⟨b, 0, none⟩) 0 0⟩] := by
  unfold empV
  rw [List.range_succ, List.map_append]
  congr 1
  · refine List.map_congr_left fun k hk => ?_
    rw [updF_other _ _ (by have := List.mem_range.1 hk; omega)]
  · simp [updF_same]
/-- the reference's chain as far as it is made: j1 rows, j2 lists of generators -/
structure SR (eR eG : TypeId) (n : Nat) (w : World) (g : Nat) (j1 j2 : Nat) (wr : World) (S : Key → List Nat) (tv gt : Value) (rb : Nat → Nat) (iv : Nat → Value) (eb : Nat → Nat) : Prop where
  em : Em eR w.heap.size n j1 wr S tv rb iv
  gS : S .g = [g]
  acc : ∃ fs, Acc w.heap.size eR wr gt (empV eb j2) fs ∧ fs.flatten = []
  gtS : gt.ownBlock.toList = S .gt
  emp : ∀ k, k < j2 → S (.emp k) = [eb k] ∧ Acc w.heap.size eG wr (.slice (some ⟨eb k, 0, none⟩) 0 0) ([] : List (List Int)) []
  blk : Blk wr g [.int .i64 n, tv, gt]
  keep : Only [] w wr
section
variable {eR eG eI : TypeId} {n : Nat} {w wr w1 w2 w4 w5 w8 w9 : World} {g j j1 j2 : Nat} {S : Key → List Nat} {tv gt : Value} {rb : Nat → Nat} {iv : Nat → Value} {eb : Nat → Nat}
theorem SR.row (h : SR eR eG n w g j j2 wr S tv gt rb iv eb) (hj : j < n)
    (hown : w1.ownsRow wr.heap.size eI 1 (.slice (some ⟨wr.heap.size, 0, none⟩) n n) n (List.replicate n (.slice none 0 0))) (h1 : Only [] wr w1)
    {v2 : Value} {f2 : List Nat} (r2 : Rd w2 v2 (PM.pts n) f2) (F2 : Fresh w1.heap.size w2 f2) (h2 : Only [] w1 w2) (h4 : Only [] (w2.setCell ⟨wr.heap.size, j, none⟩ v2) w4)
    {tv' : Value} {fs' : List (List Nat)} (hA : Acc w.heap.size eR w5 tv' (rowsV n rb j ++ [⟨rowV n wr.heap.size⟩]) fs') (hfs : fs'.flatten = []) (h5 : Only tv.ownBlock.toList w4 w5) (hb : tv'.ownBlock = tv.ownBlock ∨ tv'.ownBlock = some w4.heap.size) :
    ∃ S' rb' iv', SR eR eG n w g (j + 1) j2 (w5.setCell ⟨g, 1, none⟩ tv') S' tv' gt rb' iv' eb := by
  obtain ⟨S', hE', e1, e2, e3⟩ := h.em.step hj hown h1 r2 F2 h2 h4 hA hfs h5 hb
  have hst := setCell_only w5 g 1 tv'
  have hst2 := setCell_only w2 wr.heap.size j v2
  have hgS : g ∈ S .g := by rw [h.gS]; simp
  have hgS' : g ∈ S' .g := by rw [e1]; exact hgS
  have hglt := h.em.sep.lt _ _ hgS
  have hgtv : g ∉ tv.ownBlock.toList := by rw [h.em.tvS]; exact h.em.sep.sep _ _ (by simp) _ hgS
  have hwr : w.heap.size ≤ wr.heap.size := h.keep.size
  have hw2 : wr.heap.size ≤ w2.heap.size := Nat.le_trans h1.size h2.size
  have key : ∀ {β : Type} [Rp β] {e : TypeId} {v : Value} {l : List β} {fs : List (List Nat)}, Acc w.heap.size e wr v l fs → fs.flatten = [] → (∀ b ∈ v.ownBlock.toList, b ∉ S .g ∧ b ∉ S .tv ∧ b < wr.heap.size) → Acc w.heap.size e (w5.setCell ⟨g, 1, none⟩ tv') v l fs := by
    intro β _ e v l fs hA hfs hv
    refine ((((((hA.keep h1).keep h2).only hst2 (by rw [hfs]; simp) fun x hx hm => ?_).keep h4).only h5 (by rw [hfs]; simp) fun x hx hm => ?_).only hst (by rw [hfs]; simp) fun x hx hm => ?_)
    · have e : x = wr.heap.size := by simpa using hm
      have := (hv x (by simp [hx])).2.2; omega
    · rw [h.em.tvS] at hm
      exact (hv x (by simp [hx])).2.1 hm
    · have e : x = g := by simpa using hm
      subst e
      exact (hv x (by simp [hx])).1 hgS
  obtain ⟨fs, hacc, hfs0⟩ := h.acc
  refine ⟨S', _, _, hE'.only hst fun b hb' => ?_, by rw [e1, h.gS], ⟨fs, key hacc hfs0 fun b hb' => ?_, hfs0⟩, by rw [e2]; exact h.gtS, fun k hk => ⟨by rw [e3]; exact (h.emp k hk).1, key (h.emp k hk).2 rfl fun b hb' => ?_⟩, ?_, ?_⟩
  · have e : b = g := by simpa using hb'
    subst e
    exact ⟨hE'.sep.sep _ _ (by simp) _ hgS', fun k => hE'.sep.sep _ _ (by simp) _ hgS', fun k => hE'.sep.sep _ _ (by simp) _ hgS'⟩
  · rw [h.gtS] at hb'
    exact ⟨h.em.sep.sep _ _ (by simp) _ hb', h.em.sep.sep _ _ (by simp) _ hb', h.em.sep.lt _ _ hb'⟩
  · have hb2 : b ∈ S (.emp k) := by rw [(h.emp k hk).1]; simpa [Value.ownBlock, eq_comm] using hb'
    exact ⟨h.em.sep.sep _ _ (by simp) _ hb2, h.em.sep.sep _ _ (by simp) _ hb2, h.em.sep.lt _ _ hb2⟩
  · have := (((((h.blk.keep h1).keep h2).only hst2 (by simp; omega)).keep h4).only h5 hgtv).set 1 tv'
    simpa using this
  · refine ((((h.keep.trans h1).trans h2).setCell (fun h => by simp at h; omega) _).trans h4).then_ h5 (fun x hx hl => ?_) |>.setCell (fun h' => ?_) _
    · rw [h.em.tvS] at hx
      have := h.em.sep.ge _ _ hx; omega
    · have := h.em.sep.ge _ _ hgS
      have h'' : g < w.heap.size := h'
      omega
theorem SR.gen {e0 : Nat} (he0 : e0 = wr.heap.size) (h : SR eR eG n w g j1 j wr S tv gt rb iv eb) (h8 : Only [] (wr.alloc (.cells #[] eG)) w8)
    {gt' : Value} {fs' : List (List Nat)} (hA : Acc w.heap.size eR w9 gt' (empV eb j ++ [⟨.slice (some ⟨e0, 0, none⟩) 0 0⟩]) fs') (hfs : fs'.flatten = []) (h9 : Only gt.ownBlock.toList w8 w9) (hb : gt'.ownBlock = gt.ownBlock ∨ gt'.ownBlock = some w8.heap.size) :
    ∃ S' eb', SR eR eG n w g j1 (j + 1) (w9.setCell ⟨g, 2, none⟩ gt') S' tv gt' rb iv eb' := by
  subst he0
  have hst := setCell_only w9 g 2 gt'
  have h7 : Only [] wr (wr.alloc (.cells #[] eG)) := (Only.refl _ _).alloc _
  have h78 := h7.trans h8
  have hs7 : (wr.alloc (.cells #[] eG)).heap.size = wr.heap.size + 1 := by simp
  have hs8 := h8.size
  have hs9 := h9.size
  have hgS : g ∈ S .g := by rw [h.gS]; simp
  have hglt := h.em.sep.lt _ _ hgS
  have hwr : w.heap.size ≤ wr.heap.size := h.keep.size
  have hggt : g ∉ gt.ownBlock.toList := by rw [h.gtS]; exact h.em.sep.sep _ _ (by simp) _ hgS
  -- the old rows
  have hE9 : Em eR w.heap.size n j1 (w9.setCell ⟨g, 2, none⟩ gt') S tv rb iv := ((h.em.keep h78).only h9 fun b hb' => by
    rw [h.gtS] at hb'
    exact ⟨h.em.sep.sep _ _ (by simp) _ hb', fun k => h.em.sep.sep _ _ (by simp) _ hb', fun k => h.em.sep.sep _ _ (by simp) _ hb'⟩).only hst fun b hb' => by
    have e : b = g := by simpa using hb'
    subst e
    exact ⟨h.em.sep.sep _ _ (by simp) _ hgS, fun k => h.em.sep.sep _ _ (by simp) _ hgS, fun k => h.em.sep.sep _ _ (by simp) _ hgS⟩
  have hemp : ∀ k b, k < j → b ∈ S (.emp k) → b ∉ gt.ownBlock.toList ∧ b ≠ g ∧ b < wr.heap.size := fun k b hk hb' => by
    refine ⟨by rw [h.gtS]; exact h.em.sep.sep _ _ (by simp) _ hb', fun e => h.em.sep.sep .g (.emp k) (by simp) _ hgS (e ▸ hb'), h.em.sep.lt _ _ hb'⟩
  have hS1 : Sep w.heap.size w8 (updS S (.emp j) [wr.heap.size]) := h.em.sep.upd (fun x hx => by
    have e : x = wr.heap.size := by simpa using hx
    omega) (by omega)
  have hgt'S : ∀ x, gt'.ownBlock = some x → x ≠ g := fun x hx e => by
    subst e
    rcases hb with hb | hb
    · rw [hb] at hx; exact hggt (by simp [hx])
    · rw [hb] at hx; injection hx with hx; omega
  have hblk : Blk (w9.setCell ⟨g, 2, none⟩ gt') g [.int .i64 n, tv, gt'] := by
    have := ((h.blk.keep h78).only h9 hggt).set 2 gt'
    simpa using this
  have hkeep : Only [] w (w9.setCell ⟨g, 2, none⟩ gt') := by
    refine ((h.keep.trans h78).then_ h9 fun x hx hl => ?_).setCell (fun h' => ?_) _
    · rw [h.gtS] at hx
      have := h.em.sep.ge _ _ hx; omega
    · have := h.em.sep.ge _ _ hgS
      have h'' : g < w.heap.size := h'
      omega
  have hacc : Acc w.heap.size eR (w9.setCell ⟨g, 2, none⟩ gt') gt' (empV (updF eb j wr.heap.size) (j + 1)) fs' := by
    rw [empV_succ]
    exact hA.only hst (by rw [hfs]; simp) fun x hx hm => hgt'S x hx (by simpa using hm)
  have hnew : Acc w.heap.size eG (w9.setCell ⟨g, 2, none⟩ gt') (.slice (some ⟨wr.heap.size, 0, none⟩) 0 0) ([] : List (List Int)) [] := by
    refine (((Acc.made wr w.heap.size eG rfl hwr).keep h8).only h9 (by simp) fun x hx hm => ?_).only hst (by simp) fun x hx hm => ?_
    · have e : wr.heap.size = x := by simpa [Value.ownBlock] using hx
      rw [h.gtS] at hm
      have := h.em.sep.lt _ _ hm; omega
    · have e : wr.heap.size = x := by simpa [Value.ownBlock] using hx
      have e2 : x = g := by simpa using hm
      omega
  have key : ∀ S' : Key → List Nat, Sep w.heap.size (w9.setCell ⟨g, 2, none⟩ gt') S' → gt'.ownBlock.toList = S' .gt → S' .tv = S .tv → S' .g = S .g → (∀ k, S' (.row k) = S (.row k)) → (∀ k, S' (.idn k) = S (.idn k)) → (∀ k, S' (.emp k) = updS S (.emp j) [wr.heap.size] (.emp k)) →
      SR eR eG n w g j1 (j + 1) (w9.setCell ⟨g, 2, none⟩ gt') S' tv gt' rb iv (updF eb j wr.heap.size) := by
    intro S' hs hgt htv hg hr hi he
    refine ⟨hE9.reS hs htv hr hi, by rw [hg]; exact h.gS, ⟨fs', hacc, hfs⟩, hgt, fun k hk => ?_, hblk, hkeep⟩
    rw [he k]
    by_cases e : k = j
    · subst e
      rw [updS_same, updF_same]
      exact ⟨rfl, hnew⟩
    · rw [updS_other _ _ (by simpa using e), updF_other _ _ e]
      obtain ⟨p1, p2⟩ := h.emp k (by omega)
      have hin : eb k ∈ S (.emp k) := by rw [p1]; simp
      obtain ⟨q1, q2, q3⟩ := hemp k (eb k) (by omega) hin
      refine ⟨p1, ((p2.keep h78).only h9 (by simp) fun x hx hm => ?_).only hst (by simp) fun x hx hm => ?_⟩
      · have e : eb k = x := by simpa [Value.ownBlock] using hx
        subst e; exact q1 hm
      · have e : eb k = x := by simpa [Value.ownBlock] using hx
        subst e; exact q2 (by simpa using hm)
  have hsz9 : (w9.setCell ⟨g, 2, none⟩ gt').heap.size = w9.heap.size := by simp [World.setCell]
  rcases hb with hb | hb
  · refine ⟨updS S (.emp j) [wr.heap.size], _, key _ (hS1.keep (by omega)) ?_ ?_ ?_ (fun k => ?_) (fun k => ?_) (fun k => rfl)⟩
    · rw [hb, h.gtS, updS_other _ _ (by simp)]
    all_goals rw [updS_other _ _ (by simp)]
  · have hlt := (hA.ownlt _ hb).2
    refine ⟨updS (updS S (.emp j) [wr.heap.size]) .gt [w8.heap.size], _, key _ (hS1.upd (fun x hx => by
      have e : x = w8.heap.size := by simpa using hx
      omega) (by omega)) ?_ ?_ ?_ (fun k => ?_) (fun k => ?_) (fun k => ?_)⟩
    · rw [hb, updS_same]; rfl
    · rw [updS_other _ _ (by simp), updS_other _ _ (by simp)]
    · rw [updS_other _ _ (by simp), updS_other _ _ (by simp)]
    · rw [updS_other _ _ (by simp), updS_other _ _ (by simp)]
    · rw [updS_other _ _ (by simp), updS_other _ _ (by simp)]
    · rw [updS_other _ _ (by simp)]
theorem SR.fin (h : SR eR eG n w g n n wr S tv gt rb iv eb) (hn : 0 < n) (hn20 : n ≤ 20) : NC1 eG 2 1 n w (.pointer (some ⟨g, 0, none⟩)) wr := by
  obtain ⟨fs, hA, hfs⟩ := h.acc
  have hlen := empV_len eb n
  obtain ⟨bg, cG, hgt, -⟩ := hA.raw (k := 0) (by omega)
  rw [hlen] at hgt
  have hbg : S .gt = [bg] := by rw [← h.gtS, hgt]; rfl
  obtain ⟨css, hown, -, -⟩ := hA.own
  have hob := (own_fresh hown).own
  rw [h.gtS, hbg] at hob
  obtain ⟨L, M, F, e1, e2, e3, -, hC⟩ := h.em.ch (eG := eG) (oG := 2) (oT := 1) (cG := cG) hn hn20 (fun k => .slice (some ⟨eb k, 0, none⟩) 0 0) h.gS hbg (h.blk.cell 0 rfl) (by rw [h.blk.cell 2 rfl, hgt]) (h.blk.cell 1 rfl)
    (fun k hk => by
      obtain ⟨g', c', q1, q2⟩ := hA.raw (k := k) (by omega)
      have q3 := hgt.symm.trans q1
      injection q3 with q4 _ _
      injection q4 with q5
      injection q5 with q6 _ _
      rw [← q6] at q2
      rw [q2]; simp [empV])
    (fun k hk => (h.emp k hk).2) (fun k hk => by rw [(h.emp k hk).1]; rfl) hob
  exact ⟨L, _, M, F, by rw [e1], e2, e3, hC, h.keep⟩
end
set_option maxHeartbeats 2000000 in
theorem emptyChain_any (n : Nat) (hn : 0 < n) (hn20 : n ≤ 20) (w : World) :
    Calls Tryz.prog 60 #[.int .i64 n] w fun e w' => ∃ v, e = .returned v ∧ NC1 25 2 1 n w v w' := by
  obtain ⟨i2, hi2, hz20, hz21, hz22⟩ := info_parts Tryz.info222
  obtain ⟨i1, hi, hz0, hz1, hz2⟩ := info_parts Tryz.info22
  have HN0 : Hid (∃ S tv gt rb iv eb, SR 22 25 n w w.heap.size 0 0 (w.alloc (.cells #[.int .i64 n, .slice none 0 0, .slice none 0 0] 82)) S tv gt rb iv eb) := Lib.hid (by
    have hsz : (w.alloc (.cells #[.int .i64 n, .slice none 0 0, .slice none 0 0] 82)).heap.size = w.heap.size + 1 := by simp
    exact ⟨updS (updS (fun _ => []) .g [w.heap.size]) .gt [], .slice none 0 0, .slice none 0 0, fun _ => 0, fun _ => .slice none 0 0, fun _ => 0, Em.start _ n (Sep.start _ _ (by omega) (by simp) (by simp) (by simp)) (by rw [updS_other _ _ (by simp), updS_other _ _ (by simp)]) _ _, by rw [updS_other _ _ (by simp), updS_same], ⟨[], Acc.nil _ _ _, rfl⟩, by rw [updS_same]; rfl, by intro k hk; omega, Blk.new w _ _, (Only.refl _ _).alloc _⟩)
  go_enter Tryz.func60, Tryz.ntmps60
  go_wp2
  go_loopw [4] (fun i wr => ∃ (j : Nat), j ≤ n ∧ i = .int .i64 j ∧ ∃ S tv gt rb iv eb, SR 22 25 n w w.heap.size j j wr S tv gt rb iv eb)
    (fun i _ => n - (intOf i).toNat)
  case atStart => exact ⟨0, Nat.zero_le _, rfl, HN0.out⟩
  case round =>
    obtain ⟨W2, hnew⟩ : ∃ W, W = wr := ⟨_, rfl⟩
    subst hnew
    obtain ⟨j, hj, rfl, S, tv, gt, rb, iv, eb, hN⟩ := hrel
    by_cases hlt : j < n
    · have hE := hN.em
      have hgS : w.heap.size ∈ S .g := by rw [hN.gS]; simp
      have hglt := hE.sep.lt _ _ hgS
      have hgtv : w.heap.size ∉ tv.ownBlock.toList := by rw [hE.tvS]; exact hE.sep.sep _ _ (by simp) _ hgS
      have hggt : w.heap.size ∉ gt.ownBlock.toList := by rw [hN.gtS]; exact hE.sep.sep _ _ (by simp) _ hgS
      obtain ⟨fs, hA, hfs⟩ := hE.acc
      have hrl := rowsV_len n rb j
      have hel := empV_len eb j
      have hne : w.heap.size ≠ W2.heap.size := by omega
      have hBn : w.heap.size ≤ W2.heap.size := hN.keep.size
      have htvlt : ∀ g, tv.ownBlock = some g → g ∉ [W2.heap.size] := fun g hg hm => by
        have h5 := (hA.ownlt g hg).2
        have h6 : g = W2.heap.size := by simpa using hm
        omega
      have HN := Lib.hid hN
      have HA := Lib.hid hA
      have Hfs := Lib.hid hfs
      have Hrl := Lib.hid hrl
      have Hel := Lib.hid hel
      have Hgtv := Lib.hid hgtv
      have Hggt := Lib.hid hggt
      have Htvlt := Lib.hid htvlt
      clear hN hE hA hfs hrl hel hgS hgtv hggt htvlt
      go_wp2_with (first
        | (at_make; refine wpList_make_full _ rfl _ _ 22 rfl W2.heap.size 25 i1 _ 1 Tryz.underlying22 hi hz0 hz1 _ _ _ _ n rfl rfl rfl rfl (by rw [hz2]; omega) (by unfold maxLen; omega) (Nat.le_refl _) ?_; intro w3 hown hg; rw [madeNils', Nat.mul_one] at hown; have h3 : Only [] W2 w3 := (Only.refl _ _).grown hg (by simp); have Hown := Lib.hid hown; clear hown hg)
        | (go_at_call 37; (with_reducible refine (specIdentity_any n w3 (by omega)).mono ?_); rintro en w4 ⟨v4, f4, rfl, r4, F4, t4⟩; obtain ⟨a4, c4, rfl, -⟩ := r4.ints; have hO4 := owns_keep Hown.out t4; have c40 := (hO4.cellAt j (by omega)); rw [List.getElem?_replicate, if_pos hlt] at c40; have z40 := hO4.frozenAt j; have HO4 := Lib.hid hO4; clear hO4; have c41 := ((HN.out.blk.keep h3).keep t4).cell 1 rfl)
        | (at_builtin; go_loud (refine wpList_push2d (α := RawV) rfl (.tmp 25) (.tmp 27) 80 rfl w.heap.size 22 i2 _ 24 Tryz.underlying80 hi2 hz20 hz21 hz22 rfl (by decide) (by decide) (w4.setCell ⟨W2.heap.size, j, none⟩ _) tv (rowsV n rb j) fs rfl (((HA.out.keep h3).keep t4).only (setCell_only w4 _ j _) (by rw [Hfs.out]; simp) Htvlt.out) ((Only.refl _ _).alloc _) (Nat.le_trans hBn (Nat.le_trans (Nat.le_trans h3.size t4.size) (setCell_only w4 _ j _).size)) _ 1 [.slice (some ⟨W2.heap.size, 0, none⟩) n n] ⟨rowV n W2.heap.size⟩ [] rfl (lit_src _ [.slice (some ⟨W2.heap.size, 0, none⟩) n n] _ (by simp only [World.size_setCell])) (by intro u hu; simp at hu; subst hu; rfl) ⟨rfl, rfl⟩ (by simp) (by rw [Hrl.out]; omega) ?_; intro v5 w5 hA5 hO5 hb5; obtain ⟨a5, n5, c5, rfl⟩ : ∃ a n c, v5 = Value.slice a n c := (let ⟨a, c, hh⟩ := hA5.form; ⟨a, _, c, hh⟩); have hB5 := ((((HN.out.blk.keep h3).keep t4).only (setCell_only w4 W2.heap.size j _) (by simpa using hne)).keep ((Only.refl _ _).alloc _)).only hO5 Hgtv.out; have y5 := hB5.cell 1 rfl; have z5 := hB5.frozen 1; clear hB5; obtain ⟨S6, rb6, iv6, hN6⟩ := HN.out.row hlt Hown.out h3 r4 F4 t4 ((Only.refl _ _).alloc _) hA5 (by rw [List.flatten_append, Hfs.out]; rfl) hO5 hb5; obtain ⟨fs6, hA6, hfs6⟩ := hN6.acc; have y6 := hN6.blk.cell 2 rfl; have hn6 : w.heap.size ≤ (w5.setCell ⟨w.heap.size, 1, none⟩ (.slice a5 n5 c5)).heap.size := hN6.keep.size; have HN6 := Lib.hid hN6; have Hn6 := Lib.hid hn6; have HA6 := Lib.hid hA6; have Hfs6 := Lib.hid hfs6; clear hN6 hA6 hfs6 hn6))
        | (at_builtin; go_loud (refine wpList_push2d (α := RawV) rfl (.tmp 35) (.tmp 37) 80 rfl w.heap.size 22 i2 _ 24 Tryz.underlying80 hi2 hz20 hz21 hz22 rfl (by decide) (by decide) (w5.setCell ⟨w.heap.size, 1, none⟩ _) gt (empV eb j) fs6 rfl HA6.out (((Only.refl _ _).alloc _).alloc _) Hn6.out _ 1 [.slice (some ⟨w5.heap.size, 0, none⟩) 0 0] ⟨.slice (some ⟨w5.heap.size, 0, none⟩) 0 0⟩ [] rfl (lit_src _ [.slice (some ⟨w5.heap.size, 0, none⟩) 0 0] _ (by simp [World.size_setCell])) (by intro u hu; simp at hu; subst hu; rfl) ⟨rfl, rfl⟩ (by simp) (by rw [Hel.out]; omega) ?_; intro v9 w9 hA9 hO9 hb9; obtain ⟨a9, n9, c9, rfl⟩ : ∃ a n c, v9 = Value.slice a n c := (let ⟨a, c, hh⟩ := hA9.form; ⟨a, _, c, hh⟩); have hB9 := (HN6.out.blk.keep (((Only.refl _ _).alloc _).alloc _)).only hO9 Hggt.out; have y9 := hB9.cell 2 rfl; have z9 := hB9.frozen 2; clear hB9))
        | fail "no arm")
      go_roundw
      case rel => exact ⟨j + 1, by omega, by go_num, (let ⟨S', eb', hh⟩ := SR.gen (by simp) HN6.out ((Only.refl _ _).alloc _) hA9 (by rw [List.flatten_append, Hfs6.out]; rfl) hO9 (hb9.imp id fun h => h.trans (by simp)); ⟨S', _, _, _, _, eb', hh⟩)⟩
      case measure => simp [intOf]; omega
    · obtain rfl : j = n := by omega
      have HF := Lib.hid (hN.fin hn hn20)
      clear hN
      go_wp2
      go_ret
      exact ⟨_, rfl, HF.out⟩
theorem specGen0 {n : Nat} {B : Nat} {L : Lay} {gv : Nat → Value} {G : PM.Gens} {T : PM.Rows} {M F : List Nat} {w : World} (hC : Ch 25 B w L gv n G T M F) (hoG : L.oG = 2) (hoT : L.oT = 1) (hI : PM.Inv n 0 G T) (hL : PM.Ln n 0 G T)
    {p : List Int} {vp : Value} {fp : List Nat} (hp : PM.PN n p) (hv : Rd w vp p fp) (hf : ∀ b ∈ fp, b ∉ M) (hB : B ≤ w.heap.size) :
    Calls Tryz.prog 61 #[.pointer (some ⟨L.g, 0, none⟩), .int .i64 0, vp] w fun en w' => en = .returned (.tuple #[]) ∧ AddP 25 B L n 0 p G T M F fp gv w w' :=
  specGen_any B L hoG hoT n n 0 (by omega) (by omega) gv G T M F w hC hI hL p vp fp (PM.May.zero G hp) hv hf hB
set_option maxHeartbeats 2000000 in
theorem buildChain_any (n : Nat) (hn : 0 < n) (hn20 : n ≤ 20) (vg : Value) (gens : List (List Int)) (fpg : List Nat) (w : World) (hg : Rd w vg gens fpg) (hpn : ∀ g ∈ gens, PM.PN n g) (hgl : gens.length ≤ 1000) :
    Calls Tryz.prog 35 #[.int .i64 n, vg] w fun e w' => ∃ (L : Lay) (gv : Nat → Value) (G : PM.Gens) (T : PM.Rows) (M F : List Nat), e = .returned (.pointer (some ⟨L.g, 0, none⟩)) ∧ L.oG = 2 ∧ L.oT = 1 ∧ Ch 25 w.heap.size w' L gv n G T M F ∧ PM.Chain n gens G T ∧ Only [] w w' := by
  obtain ⟨ag, cg, obg, fpsg, rfl, hfpg, hSg⟩ := hg.open_
  have hgb := hSg.bound
  have Hpn := Lib.hid hpn
  have HSg := Lib.hid hSg
  clear hpn hSg hg hfpg
  go_enter Tryz.func35, Tryz.ntmps35
  go_wp2_with (first
    | (go_at_call 60; (with_reducible refine (emptyChain_any n hn hn20 w).mono ?_); rintro en w1 ⟨v1, rfl, hN1⟩; obtain ⟨⟨g', bg', bt', cG', cT', oG', oT', rb'⟩, gv0, M0, F0, es, eoG, eoT, hC, hK⟩ := hN1; subst es; have eoG' : oG' = 2 := eoG; subst eoG'; have eoT' : oT' = 1 := eoT; subst eoT'; have HL0 := Lib.hid (CL.start gens hC hK); clear eoG eoT hC hK)
    | fail "no arm")
  go_loopw [6] (fun i wr => ∃ m : Nat, m ≤ gens.length ∧ i = .int .i64 m ∧ CL 25 ⟨g', bg', bt', cG', cT', 2, 1, rb'⟩ n gens w m wr)
    (fun i _ => gens.length - (intOf i).toNat)
  case atStart => exact ⟨0, Nat.zero_le _, rfl, HL0.out⟩
  case round =>
    obtain ⟨W3, hnew⟩ : ∃ W, W = wr := ⟨_, rfl⟩
    subst hnew
    obtain ⟨m, hm, rfl, hCL⟩ := hrel
    obtain ⟨gv3, G3, T3, M3, F3, hC3, hc3, hL3, hK3⟩ := hCL
    by_cases hltm : m < gens.length
    · obtain ⟨b, off, u, rfl, hob, hcu0, hru0⟩ := HSg.out.atRow m hltm
      have hcu := hK3.cell (by simp) hcu0
      have hru := Rp.keep hru0 hK3
      have hgm : gens[m] ∈ gens := List.getElem_mem _
      have hpm := Hpn.out _ hgm
      have hlm : gens[m].length ≤ 1073741824 := by rw [hpm.1]; omega
      have HC3 := Lib.hid hC3
      have Hc3 := Lib.hid hc3
      have HL3 := Lib.hid hL3
      have HK3 := Lib.hid hK3
      have Hru := Lib.hid hru
      have Hpm := Lib.hid hpm
      have Hlm := Lib.hid hlm
      clear hcu0 hru0 hC3 hc3 hL3 hK3 hru hpm hob hgm hlm
      go_wp2_with (first
        | (go_at_call 62; (with_reducible refine (copyInts_rd _ _ _ _ Hru.out Hlm.out).mono ?_); rintro en w4 ⟨v4, f4, rfl, r4, F4, t4⟩)
        | (go_at_call 61; (with_reducible refine (specGen0 (HC3.out.keep t4) rfl rfl Hc3.out.inv HL3.out Hpm.out r4 (notin_fresh HC3.out.lM (Nat.le_refl _) F4) (Nat.le_trans HK3.out.size t4.size)).mono ?_); rintro en w5 ⟨rfl, ha5⟩)
        | fail "no arm")
      go_roundw
      case rel => exact ⟨m + 1, by omega, by go_num, CL.step HC3.out Hc3.out HK3.out t4 hltm ha5⟩
      case measure => simp [intOf]; omega
    · obtain rfl : m = gens.length := by omega
      rw [List.take_length] at hc3
      have Hc3 := Lib.hid hc3
      have HC3 := Lib.hid hC3
      have HK3 := Lib.hid hK3
      clear hC3 hc3 hL3 hK3
      go_wp2
      go_ret
      exact ⟨_, gv3, G3, T3, M3, F3, rfl, rfl, rfl, HC3.out, Hc3.out, HK3.out⟩
end Go.Proofs.YtnagknkllkdkaaaGreat

namespace Go.Proofs.YtnagknkllkdkaaaGreat
open Go.RowKit
set_option maxRecDepth 10000

open Classical in
/-- membership in the group that gens generate -/
noncomputable def memB (n : Nat) (gens : List (List Int)) (p : List Int) : Bool := decide (PM.Grp n gens p)
def stateB (x : Puzzle) (s : List Int) : Bool := validPz x && genB x.points s
noncomputable def reachB (x : Puzzle) (s : List Int) : Bool := stateB x s && memB x.points.toNat x.moves s
theorem gensB_iff {n : Int} {gens : List (List Int)} : gensB n gens = true ↔ (1 ≤ n ∧ n ≤ 20) ∧ gens.length ≤ 8 ∧ ∀ g ∈ gens, PM.PN n.toNat g := by
  unfold gensB
  rw [Bool.and_eq_true, Bool.and_eq_true, inR_iff, decide_eq_true_iff, List.all_eq_true]
  constructor
  · rintro ⟨⟨h1, h2⟩, h3⟩
    refine ⟨h1, h2, fun g hg => ?_⟩
    have h := h3 g hg
    unfold genB at h
    rw [Bool.and_eq_true, decide_eq_true_iff, permB_iff] at h
    exact ⟨by omega, h.2.2⟩
  · rintro ⟨h1, h2, h3⟩
    refine ⟨⟨h1, h2⟩, fun g hg => ?_⟩
    obtain ⟨h4, h5⟩ := h3 g hg
    unfold genB
    rw [Bool.and_eq_true, decide_eq_true_iff, permB_iff]
    exact ⟨by omega, ⟨by omega, by omega⟩, h5⟩
theorem genB_iff {n : Int} {g : List Int} (h0 : 1 ≤ n) (h1 : n ≤ 20) : genB n g = true ↔ PM.PN n.toNat g := by
  unfold genB
  rw [Bool.and_eq_true, decide_eq_true_iff, permB_iff]
  constructor
  · rintro ⟨h2, -, h3⟩; exact ⟨by omega, h3⟩
  · rintro ⟨h2, h3⟩; exact ⟨by omega, ⟨by omega, by omega⟩, h3⟩
theorem validPz_gensB {x : Puzzle} (h : validPz x = true) : gensB x.points x.moves = true := by
  unfold validPz at h
  rw [Bool.and_eq_true] at h
  exact h.1
theorem stateB_pn {x : Puzzle} {s : List Int} (h : stateB x s = true) : (1 ≤ x.points ∧ x.points ≤ 20) ∧ x.moves.length ≤ 8 ∧ (∀ g ∈ x.moves, PM.PN x.points.toNat g) ∧ PM.PN x.points.toNat s := by
  unfold stateB at h
  rw [Bool.and_eq_true] at h
  obtain ⟨a, b, c⟩ := gensB_iff.1 (validPz_gensB h.1)
  exact ⟨a, b, c, (genB_iff a.1 a.2).1 h.2⟩
theorem reachB_state {x : Puzzle} {s : List Int} (h : reachB x s = true) : stateB x s = true := by
  unfold reachB at h
  rw [Bool.and_eq_true] at h; exact h.1
theorem stateB_valid {x : Puzzle} {s : List Int} (h : stateB x s = true) : validPz x = true := by
  unfold stateB at h
  rw [Bool.and_eq_true] at h; exact h.1
set_option maxHeartbeats 1000000 in
theorem isPermOf_rd (n : Int) (v : Value) (s : List Int) (fp : List Nat) (w : World) (h : Rd w v s fp) :
    Calls Tryz.prog 80 #[.int .i64 n, v] w fun e w' => e = .returned (.bool (genB n s)) ∧ Drew w w' := by
  obtain ⟨a, cap, rfl, hI⟩ := h.ints
  have hb := hI.bound
  by_cases c1 : (s.length : Int) = n
  · have d1 : ((s.length : Int) == n) = true := by simp [c1]
    have hg : genB n s = permB s := by simp [genB, c1]
    have Hg := Lib.hid hg; clear hg c1
    go_enter Tryz.func80, Tryz.ntmps80
    go_wp2_with ((go_at_call 59; (with_reducible refine (specIsPerm_rd _ s fp _ h).mono ?_); rintro e w1 ⟨rfl, t1⟩))
    go_ret
    exact ⟨ret_bool Hg.out.symm, t1⟩
  · have d1 : ((s.length : Int) == n) = false := by simp [c1]
    have hg : genB n s = false := by simp [genB, c1]
    have Hg := Lib.hid hg; clear hg c1
    go_enter Tryz.func80, Tryz.ntmps80
    go_wp2
    go_ret
    exact ⟨ret_bool Hg.out.symm, Drew.refl _⟩
set_option maxHeartbeats 1000000 in
theorem specIsState_any (cs : List Value) (x : Puzzle) (fp : List Nat) (v : Value) (s : List Int) (fs : List Nat) (w : World) (h : Rp.rep w cs x fp) (hs : Rd w v s fs) :
    Calls Tryz.prog 55 #[.agg cs.toArray, v] w fun e w' => e = .returned (.bool (stateB x s)) ∧ Only [] w w' := by
  have h0 := h
  obtain ⟨v2, rfl, p0, p1, h2⟩ := h
  obtain ⟨A2, C2, ob, fps, rfl, -, -⟩ := h2.open_
  rcases hq : validPz x
  all_goals have hf : stateB x s = (validPz x && genB x.points s) := rfl
  all_goals rw [hq] at hf
  all_goals have Hf := Lib.hid hf
  all_goals clear hf
  all_goals go_enter Tryz.func55, Tryz.ntmps55
  all_goals go_wp2_with (first | (go_at_call 79; (with_reducible refine (specIsValidPuzzle_any [.int .i64 x.points, .string x.names, .slice A2 x.moves.length C2] x _ _ (Rp.keep h0 (by with_reducible repeat (first | exact Only.refl _ _ | assumption | refine Only.drewN ?_ _ | refine Only.drew ?_ | refine Only.alloc ?_ _ | refine Only.setCell ?_ (by intro hh; exfalso; simp at hh; try omega) _ | refine Only.trans ?_ (by assumption))))).mono ?_); rintro e w1 ⟨rfl, t1⟩; have y1 := t1.cells_eq w.heap.size (by simp) (by simp)) | (go_at_call 80; (with_reducible refine (isPermOf_rd x.points _ s _ _ (Rp.keep hs (by with_reducible repeat (first | exact Only.refl _ _ | assumption | refine Only.drewN ?_ _ | refine Only.drew ?_ | refine Only.alloc ?_ _ | refine Only.setCell ?_ (by intro hh; exfalso; simp at hh; try omega) _ | refine Only.trans ?_ (by assumption))))).mono ?_); rintro e w2 ⟨rfl, d2⟩; have t2 := d2.only []) | fail "no arm")
  all_goals go_ret
  all_goals exact ⟨ret_bool Hf.out.symm, (by with_reducible repeat (first | exact Only.refl _ _ | assumption | refine Only.drewN ?_ _ | refine Only.drew ?_ | refine Only.alloc ?_ _ | refine Only.setCell ?_ (by intro hh; exfalso; simp at hh; try omega) _ | refine Only.trans ?_ (by assumption)))⟩
set_option maxHeartbeats 1000000 in
theorem implIsStateOf_any (cs : List Value) (x : Puzzle) (fp : List Nat) (v : Value) (s : List Int) (fs : List Nat) (w : World) (h : Rp.rep w cs x fp) (hs : Rd w v s fs) :
    Calls Tryz.prog 86 #[.agg cs.toArray, v] w fun e w' => e = .returned (.bool (genB x.points s)) ∧ Only [] w w' := by
  have h0 := h
  obtain ⟨v2, rfl, p0, p1, h2⟩ := h
  obtain ⟨A2, C2, ob, fps, rfl, -, -⟩ := h2.open_
  by_cases c1 : (s.length : Int) = x.points
  · have d1 : ((s.length : Int) == x.points) = true := by simp [c1]
    have hg : genB x.points s = permB s := by simp [genB, c1]
    have Hg := Lib.hid hg; clear hg c1
    go_enter Tryz.func86, Tryz.ntmps86
    go_wp2
    go_quiet (first
      | (go_at_call 52; exact quiet_drewN0 (lengthInt_q _ s fs _ (Rp.keep hs (by with_reducible repeat (first | exact Only.refl _ _ | assumption | refine Only.drewN ?_ _ | refine Only.drew ?_ | refine Only.alloc ?_ _ | refine Only.setCell ?_ (by intro hh; exfalso; simp at hh; try omega) _ | refine Only.trans ?_ (by assumption))))))
      | (go_at_call 52; exact quiet_drewN (lengthInt_q _ s fs _ (Rp.keep hs (by with_reducible repeat (first | exact Only.refl _ _ | assumption | refine Only.drewN ?_ _ | refine Only.drew ?_ | refine Only.alloc ?_ _ | refine Only.setCell ?_ (by intro hh; exfalso; simp at hh; try omega) _ | refine Only.trans ?_ (by assumption))))))
      | (go_at_call 73; exact quiet_drewN (implIsPerm_rd _ s fs _ (Rp.keep hs (by with_reducible repeat (first | exact Only.refl _ _ | assumption | refine Only.drewN ?_ _ | refine Only.drew ?_ | refine Only.alloc ?_ _ | refine Only.setCell ?_ (by intro hh; exfalso; simp at hh; try omega) _ | refine Only.trans ?_ (by assumption))))))
      | (go_at_call 73; exact quiet_drewN0 (implIsPerm_rd _ s fs _ (Rp.keep hs (by with_reducible repeat (first | exact Only.refl _ _ | assumption | refine Only.drewN ?_ _ | refine Only.drew ?_ | refine Only.alloc ?_ _ | refine Only.setCell ?_ (by intro hh; exfalso; simp at hh; try omega) _ | refine Only.trans ?_ (by assumption)))))))
    go_wp2
    go_ret
    exact ⟨ret_bool Hg.out.symm, (by with_reducible repeat (first | exact Only.refl _ _ | assumption | refine Only.drewN ?_ _ | refine Only.drew ?_ | refine Only.alloc ?_ _ | refine Only.setCell ?_ (by intro hh; exfalso; simp at hh; try omega) _ | refine Only.trans ?_ (by assumption)))⟩
  · have d1 : ((s.length : Int) == x.points) = false := by simp [c1]
    have hg : genB x.points s = false := by simp [genB, c1]
    have Hg := Lib.hid hg; clear hg c1
    go_enter Tryz.func86, Tryz.ntmps86
    go_wp2
    go_quiet (first
      | (go_at_call 52; exact quiet_drewN0 (lengthInt_q _ s fs _ (Rp.keep hs (by with_reducible repeat (first | exact Only.refl _ _ | assumption | refine Only.drewN ?_ _ | refine Only.drew ?_ | refine Only.alloc ?_ _ | refine Only.setCell ?_ (by intro hh; exfalso; simp at hh; try omega) _ | refine Only.trans ?_ (by assumption))))))
      | (go_at_call 52; exact quiet_drewN (lengthInt_q _ s fs _ (Rp.keep hs (by with_reducible repeat (first | exact Only.refl _ _ | assumption | refine Only.drewN ?_ _ | refine Only.drew ?_ | refine Only.alloc ?_ _ | refine Only.setCell ?_ (by intro hh; exfalso; simp at hh; try omega) _ | refine Only.trans ?_ (by assumption)))))))
    go_wp2
    go_ret
    exact ⟨ret_bool Hg.out.symm, (by with_reducible repeat (first | exact Only.refl _ _ | assumption | refine Only.drewN ?_ _ | refine Only.drew ?_ | refine Only.alloc ?_ _ | refine Only.setCell ?_ (by intro hh; exfalso; simp at hh; try omega) _ | refine Only.trans ?_ (by assumption)))⟩
set_option maxHeartbeats 1000000 in
theorem implIsState_any (cs : List Value) (x : Puzzle) (fp : List Nat) (v : Value) (s : List Int) (fs : List Nat) (w : World) (h : Rp.rep w cs x fp) (hs : Rd w v s fs) :
    Calls Tryz.prog 66 #[.agg cs.toArray, v] w fun e w' => e = .returned (.bool (stateB x s)) ∧ Only [] w w' := by
  have h0 := h
  obtain ⟨v2, rfl, p0, p1, h2⟩ := h
  obtain ⟨A2, C2, ob, fps, rfl, -, -⟩ := h2.open_
  rcases hq : validPz x
  all_goals have hf : stateB x s = (validPz x && genB x.points s) := rfl
  all_goals rw [hq] at hf
  all_goals have Hf := Lib.hid hf
  all_goals clear hf
  all_goals go_enter Tryz.func66, Tryz.ntmps66
  all_goals go_wp2_with (first | (go_at_call 85; (with_reducible refine (implIsValidPuzzle_any [.int .i64 x.points, .string x.names, .slice A2 x.moves.length C2] x _ _ (Rp.keep h0 (by with_reducible repeat (first | exact Only.refl _ _ | assumption | refine Only.drewN ?_ _ | refine Only.drew ?_ | refine Only.alloc ?_ _ | refine Only.setCell ?_ (by intro hh; exfalso; simp at hh; try omega) _ | refine Only.trans ?_ (by assumption))))).mono ?_); rintro e w1 ⟨rfl, t1⟩; have y1 := t1.cells_eq w.heap.size (by simp) (by simp)) | (go_at_call 86; (with_reducible refine (implIsStateOf_any [.int .i64 x.points, .string x.names, .slice A2 x.moves.length C2] x _ _ s _ _ (Rp.keep h0 (by with_reducible repeat (first | exact Only.refl _ _ | assumption | refine Only.drewN ?_ _ | refine Only.drew ?_ | refine Only.alloc ?_ _ | refine Only.setCell ?_ (by intro hh; exfalso; simp at hh; try omega) _ | refine Only.trans ?_ (by assumption)))) (Rp.keep hs (by with_reducible repeat (first | exact Only.refl _ _ | assumption | refine Only.drewN ?_ _ | refine Only.drew ?_ | refine Only.alloc ?_ _ | refine Only.setCell ?_ (by intro hh; exfalso; simp at hh; try omega) _ | refine Only.trans ?_ (by assumption))))).mono ?_); rintro e w2 ⟨rfl, t2⟩) | fail "no arm")
  all_goals go_ret
  all_goals exact ⟨ret_bool Hf.out.symm, (by with_reducible repeat (first | exact Only.refl _ _ | assumption | refine Only.drewN ?_ _ | refine Only.drew ?_ | refine Only.alloc ?_ _ | refine Only.setCell ?_ (by intro hh; exfalso; simp at hh; try omega) _ | refine Only.trans ?_ (by assumption)))⟩
theorem specSift0 {e : TypeId} {B : Nat} {L : Lay} {gv : Nat → Value} {n : Nat} {G : PM.Gens} {T : PM.Rows} {M F : List Nat} {w : World} (hC : Ch e B w L gv n G T M F) (hw : PM.WF n T) (hT : L.oT = 1)
    {vp : Value} {p : List Int} {fp : List Nat} (hp : Rd w vp p fp) (pp : PM.PN n p) :
    Calls Tryz.prog 83 #[.pointer (some ⟨L.g, 0, none⟩), .int .i64 0, vp] w fun e w' => ∃ (v : Value) (lv : Nat), e = .returned (.tuple #[v, .int .i64 lv]) ∧ PM.has T n n p = decide (lv = n) ∧ Only [] w w' :=
  specSift_any w hC hw hT 0 vp p fp (Nat.zero_le _) hp pp
set_option maxHeartbeats 1000000 in
theorem chainHas_any {e : TypeId} {B : Nat} {L : Lay} {gv : Nat → Value} {n : Nat} {G : PM.Gens} {T : PM.Rows} {M F : List Nat} (w : World) (hC : Ch e B w L gv n G T M F) (hw : PM.WF n T) (hT : L.oT = 1)
    (vp : Value) (p : List Int) (fp : List Nat) (hp : Rd w vp p fp) (pp : PM.PN n p) :
    Calls Tryz.prog 81 #[.pointer (some ⟨L.g, 0, none⟩), vp] w fun e w' => e = .returned (.bool (PM.has T n n p)) ∧ Only [] w w' := by
  have cn0 := hC.cn
  obtain ⟨ap, cp, rfl, -⟩ := hp.ints
  rcases hh : PM.has T n n p
  · have Hh := Lib.hid hh
    clear hh
    go_enter Tryz.func81, Tryz.ntmps81
    go_wp2_with (first | (go_at_call 83; (with_reducible refine (specSift0 hC hw hT hp pp).mono ?_); rintro en w1 ⟨v1, lv1, rfl, he, t1⟩; rw [Hh.out] at he; have hlv : lv1 ≠ n := of_decide_eq_false he.symm; clear he; have hlv2 : ((lv1 : Int) == (n : Int)) = false := (by rw [beq_eq_false_iff_ne]; omega); have cn1 := t1.cell (by simp) cn0) | fail "no arm")
    go_ret
    exact ⟨rfl, t1⟩
  · have Hh := Lib.hid hh
    clear hh
    go_enter Tryz.func81, Tryz.ntmps81
    go_wp2_with (first | (go_at_call 83; (with_reducible refine (specSift0 hC hw hT hp pp).mono ?_); rintro en w1 ⟨v1, lv1, rfl, he, t1⟩; rw [Hh.out] at he; have hlv : n = lv1 := (of_decide_eq_true he.symm).symm; clear he; subst hlv; have cn1 := t1.cell (by simp) cn0) | fail "no arm")
    go_ret
    exact ⟨rfl, t1⟩
theorem memB_has {n : Nat} {gens : List (List Int)} {G : PM.Gens} {T : PM.Rows} (h : PM.Chain n gens G T) (hn : 0 < n) (hp : ∀ g ∈ gens, PM.PN n g) {p : List Int} (hpn : PM.PN n p) : PM.has T n n p = memB n gens p := by
  rw [Bool.eq_iff_iff, h.has_iff hn hp hpn]
  unfold memB
  simp
set_option maxHeartbeats 1000000 in
theorem specIsMember_yes (n : Nat) (vg vp : Value) (gens : List (List Int)) (p : List Int) (fg fp : List Nat) (w : World) (hg : Rd w vg gens fg) (hp : Rd w vp p fp) (hgs : gensB n gens = true) (hpn : PM.PN n p) :
    Calls Tryz.prog 56 #[.int .i64 n, vg, vp] w fun e w' => e = .returned (.bool (memB n gens p)) ∧ Only [] w w' := by
  obtain ⟨h1, h2, h3⟩ := gensB_iff.1 hgs
  have hn : 0 < n := by omega
  have hn20 : n ≤ 20 := by omega
  have h3' : ∀ g ∈ gens, PM.PN n g := fun g hg => by simpa using h3 g hg
  have hpm : permB p = true := permB_iff.2 ⟨by have := hpn.1; omega, hpn.2⟩
  have hlen : ((p.length : Int) == (n : Int)) = true := by rw [beq_iff_eq]; have := hpn.1; omega
  obtain ⟨ap, cp, rfl, hIp⟩ := hp.ints
  have hb := hIp.bound
  have Hgs := Lib.hid hgs
  have Hpn := Lib.hid hpn
  have H3 := Lib.hid h3'
  have Hpm := Lib.hid hpm
  clear h1 h3 h3' hgs hpn hpm
  go_enter Tryz.func56, Tryz.ntmps56
  go_wp2_with (first
    | (go_at_call 34; (with_reducible refine (specIsGens_rd n vg gens fg _ (Rp.keep hg (by with_reducible repeat (first | exact Only.refl _ _ | assumption | refine Only.drewN ?_ _ | refine Only.drew ?_ | refine Only.alloc ?_ _ | refine Only.setCell ?_ (by intro hh; exfalso; simp at hh; try omega) _ | refine Only.trans ?_ (by assumption))))).mono ?_); rintro en w1 ⟨he, d1⟩; rw [Hgs.out] at he; subst he; have t1 := d1.only [])
    | (go_at_call 59; (with_reducible refine (specIsPerm_rd _ p fp _ (Rp.keep hp (by with_reducible repeat (first | exact Only.refl _ _ | assumption | refine Only.drewN ?_ _ | refine Only.drew ?_ | refine Only.alloc ?_ _ | refine Only.setCell ?_ (by intro hh; exfalso; simp at hh; try omega) _ | refine Only.trans ?_ (by assumption))))).mono ?_); rintro en w2 ⟨he, d2⟩; rw [Hpm.out] at he; subst he; have t2 := d2.only [])
    | (go_at_call 35; (with_reducible refine (buildChain_any n hn hn20 vg gens fg _ (Rp.keep hg (by with_reducible repeat (first | exact Only.refl _ _ | assumption | refine Only.drewN ?_ _ | refine Only.drew ?_ | refine Only.alloc ?_ _ | refine Only.setCell ?_ (by intro hh; exfalso; simp at hh; try omega) _ | refine Only.trans ?_ (by assumption)))) H3.out (by omega)).mono ?_); rintro en w3 ⟨L, gv, G, T, M, F, rfl, hoG, hoT, hC, hCh, t3⟩; have HC := Lib.hid hC; have HCh := Lib.hid hCh; have HoT := Lib.hid hoT; clear hC hCh hoT hoG)
    | (go_at_call 81; (with_reducible refine (chainHas_any _ HC.out HCh.out.inv.wf HoT.out _ p fp (Rp.keep hp (by with_reducible repeat (first | exact Only.refl _ _ | assumption | refine Only.drewN ?_ _ | refine Only.drew ?_ | refine Only.alloc ?_ _ | refine Only.setCell ?_ (by intro hh; exfalso; simp at hh; try omega) _ | refine Only.trans ?_ (by assumption)))) Hpn.out).mono ?_); rintro en w4 ⟨he, t4⟩; rw [memB_has HCh.out hn H3.out Hpn.out] at he; subst he)
    | fail "no arm")
  go_ret
  exact ⟨rfl, (by with_reducible repeat (first | exact Only.refl _ _ | assumption | refine Only.drewN ?_ _ | refine Only.drew ?_ | refine Only.alloc ?_ _ | refine Only.setCell ?_ (by intro hh; exfalso; simp at hh; try omega) _ | refine Only.trans ?_ (by assumption)))⟩
theorem specIsMember_i (n : Int) (vg vp : Value) (gens : List (List Int)) (p : List Int) (fg fp : List Nat) (w : World) (hg : Rd w vg gens fg) (hp : Rd w vp p fp) (hgs : gensB n gens = true) (hpn : PM.PN n.toNat p) :
    Calls Tryz.prog 56 #[.int .i64 n, vg, vp] w fun e w' => e = .returned (.bool (memB n.toNat gens p)) ∧ Only [] w w' := by
  have h1 := (gensB_iff.1 hgs).1
  obtain ⟨m, rfl⟩ := Int.eq_ofNat_of_zero_le (by omega : 0 ≤ n)
  exact specIsMember_yes m vg vp gens p fg fp w hg hp hgs hpn
set_option maxHeartbeats 1000000 in
theorem specIsReachable_any (cs : List Value) (x : Puzzle) (fp : List Nat) (v : Value) (s : List Int) (fs : List Nat) (w : World) (h : Rp.rep w cs x fp) (hs : Rd w v s fs) :
    Calls Tryz.prog 32 #[.agg cs.toArray, v] w fun e w' => e = .returned (.bool (reachB x s)) ∧ Only [] w w' := by
  have h0 := h
  obtain ⟨v2, rfl, p0, p1, h2⟩ := h
  obtain ⟨A2, C2, ob, fps, rfl, -, -⟩ := h2.open_
  rcases hq : stateB x s
  · have hf : reachB x s = false := by unfold reachB; rw [hq]; rfl
    have Hf := Lib.hid hf
    clear hf
    go_enter Tryz.func32, Tryz.ntmps32
    go_wp2_with (first
      | (go_at_call 55; (with_reducible refine (specIsState_any [.int .i64 x.points, .string x.names, .slice A2 x.moves.length C2] x _ _ s _ _ (Rp.keep h0 (by with_reducible repeat (first | exact Only.refl _ _ | assumption | refine Only.drewN ?_ _ | refine Only.drew ?_ | refine Only.alloc ?_ _ | refine Only.setCell ?_ (by intro hh; exfalso; simp at hh; try omega) _ | refine Only.trans ?_ (by assumption)))) (Rp.keep hs (by with_reducible repeat (first | exact Only.refl _ _ | assumption | refine Only.drewN ?_ _ | refine Only.drew ?_ | refine Only.alloc ?_ _ | refine Only.setCell ?_ (by intro hh; exfalso; simp at hh; try omega) _ | refine Only.trans ?_ (by assumption))))).mono ?_); rintro e w1 ⟨rfl, t1⟩; have y1 := t1.cells_eq w.heap.size (by simp) (by simp)) | fail "no arm")
    go_ret
    exact ⟨ret_bool Hf.out.symm, (by with_reducible repeat (first | exact Only.refl _ _ | assumption | refine Only.drewN ?_ _ | refine Only.drew ?_ | refine Only.alloc ?_ _ | refine Only.setCell ?_ (by intro hh; exfalso; simp at hh; try omega) _ | refine Only.trans ?_ (by assumption)))⟩
  · have hf : reachB x s = memB x.points.toNat x.moves s := by unfold reachB; rw [hq]; rfl
    have Hf := Lib.hid hf
    have hgs := validPz_gensB (stateB_valid hq)
    have hpn := (stateB_pn hq).2.2.2
    have Hgs := Lib.hid hgs
    have Hpn := Lib.hid hpn
    clear hf hgs hpn
    go_enter Tryz.func32, Tryz.ntmps32
    go_wp2_with (first
      | (go_at_call 55; (with_reducible refine (specIsState_any [.int .i64 x.points, .string x.names, .slice A2 x.moves.length C2] x _ _ s _ _ (Rp.keep h0 (by with_reducible repeat (first | exact Only.refl _ _ | assumption | refine Only.drewN ?_ _ | refine Only.drew ?_ | refine Only.alloc ?_ _ | refine Only.setCell ?_ (by intro hh; exfalso; simp at hh; try omega) _ | refine Only.trans ?_ (by assumption)))) (Rp.keep hs (by with_reducible repeat (first | exact Only.refl _ _ | assumption | refine Only.drewN ?_ _ | refine Only.drew ?_ | refine Only.alloc ?_ _ | refine Only.setCell ?_ (by intro hh; exfalso; simp at hh; try omega) _ | refine Only.trans ?_ (by assumption))))).mono ?_); rintro e w1 ⟨rfl, t1⟩; have y1 := t1.cells_eq w.heap.size (by simp) (by simp))
      | (go_at_call 56; (with_reducible refine (specIsMember_i x.points _ _ x.moves s _ _ _ (Rp.keep h2 (by with_reducible repeat (first | exact Only.refl _ _ | assumption | refine Only.drewN ?_ _ | refine Only.drew ?_ | refine Only.alloc ?_ _ | refine Only.setCell ?_ (by intro hh; exfalso; simp at hh; try omega) _ | refine Only.trans ?_ (by assumption)))) (Rp.keep hs (by with_reducible repeat (first | exact Only.refl _ _ | assumption | refine Only.drewN ?_ _ | refine Only.drew ?_ | refine Only.alloc ?_ _ | refine Only.setCell ?_ (by intro hh; exfalso; simp at hh; try omega) _ | refine Only.trans ?_ (by assumption)))) Hgs.out Hpn.out).mono ?_); rintro e w2 ⟨rfl, t2⟩) | fail "no arm")
    go_ret
    exact ⟨ret_bool Hf.out.symm, (by with_reducible repeat (first | exact Only.refl _ _ | assumption | refine Only.drewN ?_ _ | refine Only.drew ?_ | refine Only.alloc ?_ _ | refine Only.setCell ?_ (by intro hh; exfalso; simp at hh; try omega) _ | refine Only.trans ?_ (by assumption)))⟩
theorem implHas0 {e : TypeId} {B : Nat} {L : Lay} {gv : Nat → Value} {n : Nat} {G : PM.Gens} {T : PM.Rows} {M F : List Nat} {w : World} (hC : Ch e B w L gv n G T M F) (hw : PM.WF n T) (hT : L.oT = 2)
    {vp : Value} {p : List Int} {fp : List Nat} (hp : Rd w vp p fp) (pp : PM.PN n p) :
    Calls Tryz.prog 67 #[.pointer (some ⟨L.g, 0, none⟩), .int .i64 0, vp] w fun e w' => e = .returned (.bool (PM.has T n n p)) ∧ Only [] w w' :=
  implHas_any w hC hw hT 0 vp p fp (Nat.zero_le _) hp pp
theorem implNewChain_i (n : Int) (hn : 1 ≤ n) (hn20 : n ≤ 20) (vg : Value) (gens : List (List Int)) (fpg : List Nat) (w : World) (hg : Rd w vg gens fpg) (hpn : ∀ g ∈ gens, PM.PN n.toNat g) (hgl : gens.length ≤ 1000) :
    Calls Tryz.prog 46 #[.int .i64 n, vg] w fun e w' => ∃ (L : Lay) (gv : Nat → Value) (G : PM.Gens) (T : PM.Rows) (M F : List Nat), e = .returned (.pointer (some ⟨L.g, 0, none⟩)) ∧ L.oG = 1 ∧ L.oT = 2 ∧ Ch 25 w.heap.size w' L gv n.toNat G T M F ∧ PM.Chain n.toNat gens G T ∧ Only [] w w' := by
  obtain ⟨m, rfl⟩ := Int.eq_ofNat_of_zero_le (by omega : 0 ≤ n)
  exact implNewChain_any m (by omega) (by omega) vg gens fpg w hg hpn hgl
set_option maxHeartbeats 1000000 in
theorem implIsReachable_any (cs : List Value) (x : Puzzle) (fp : List Nat) (v : Value) (s : List Int) (fs : List Nat) (w : World) (h : Rp.rep w cs x fp) (hs : Rd w v s fs) :
    Calls Tryz.prog 42 #[.agg cs.toArray, v] w fun e w' => e = .returned (.bool (reachB x s)) ∧ Only [] w w' := by
  have h0 := h
  obtain ⟨v2, rfl, p0, p1, h2⟩ := h
  obtain ⟨A2, C2, ob, fps, rfl, -, -⟩ := h2.open_
  rcases hq : stateB x s
  · have hf : reachB x s = false := by unfold reachB; rw [hq]; rfl
    have Hf := Lib.hid hf
    clear hf
    go_enter Tryz.func42, Tryz.ntmps42
    go_wp2_with (first
      | (go_at_call 66; (with_reducible refine (implIsState_any [.int .i64 x.points, .string x.names, .slice A2 x.moves.length C2] x _ _ s _ _ (Rp.keep h0 (by with_reducible repeat (first | exact Only.refl _ _ | assumption | refine Only.drewN ?_ _ | refine Only.drew ?_ | refine Only.alloc ?_ _ | refine Only.setCell ?_ (by intro hh; exfalso; simp at hh; try omega) _ | refine Only.trans ?_ (by assumption)))) (Rp.keep hs (by with_reducible repeat (first | exact Only.refl _ _ | assumption | refine Only.drewN ?_ _ | refine Only.drew ?_ | refine Only.alloc ?_ _ | refine Only.setCell ?_ (by intro hh; exfalso; simp at hh; try omega) _ | refine Only.trans ?_ (by assumption))))).mono ?_); rintro e w1 ⟨rfl, t1⟩; have y1 := t1.cells_eq w.heap.size (by simp) (by simp)) | fail "no arm")
    go_ret
    exact ⟨ret_bool Hf.out.symm, (by with_reducible repeat (first | exact Only.refl _ _ | assumption | refine Only.drewN ?_ _ | refine Only.drew ?_ | refine Only.alloc ?_ _ | refine Only.setCell ?_ (by intro hh; exfalso; simp at hh; try omega) _ | refine Only.trans ?_ (by assumption)))⟩
  · have hf : reachB x s = memB x.points.toNat x.moves s := by unfold reachB; rw [hq]; rfl
    have Hf := Lib.hid hf
    obtain ⟨⟨n1, n20⟩, hml, hmp, hpn⟩ := stateB_pn hq
    have Hmp := Lib.hid hmp
    have Hpn := Lib.hid hpn
    clear hf hmp hpn
    go_enter Tryz.func42, Tryz.ntmps42
    go_wp2_with (first
      | (go_at_call 66; (with_reducible refine (implIsState_any [.int .i64 x.points, .string x.names, .slice A2 x.moves.length C2] x _ _ s _ _ (Rp.keep h0 (by with_reducible repeat (first | exact Only.refl _ _ | assumption | refine Only.drewN ?_ _ | refine Only.drew ?_ | refine Only.alloc ?_ _ | refine Only.setCell ?_ (by intro hh; exfalso; simp at hh; try omega) _ | refine Only.trans ?_ (by assumption)))) (Rp.keep hs (by with_reducible repeat (first | exact Only.refl _ _ | assumption | refine Only.drewN ?_ _ | refine Only.drew ?_ | refine Only.alloc ?_ _ | refine Only.setCell ?_ (by intro hh; exfalso; simp at hh; try omega) _ | refine Only.trans ?_ (by assumption))))).mono ?_); rintro e w1 ⟨rfl, t1⟩; have y1 := t1.cells_eq w.heap.size (by simp) (by simp))
      | (go_at_call 46; (with_reducible refine (implNewChain_i x.points n1 n20 _ x.moves _ _ (Rp.keep h2 (by with_reducible repeat (first | exact Only.refl _ _ | assumption | refine Only.drewN ?_ _ | refine Only.drew ?_ | refine Only.alloc ?_ _ | refine Only.setCell ?_ (by intro hh; exfalso; simp at hh; try omega) _ | refine Only.trans ?_ (by assumption)))) Hmp.out (by omega)).mono ?_); rintro en w3 ⟨L, gv, G, T, M, F, rfl, hoG, hoT, hC, hCh, t3⟩; have HC := Lib.hid hC; have HCh := Lib.hid hCh; have HoT := Lib.hid hoT; clear hC hCh hoT hoG)
      | (go_at_call 67; (with_reducible refine (implHas0 HC.out HCh.out.inv.wf HoT.out (Rp.keep hs (by with_reducible repeat (first | exact Only.refl _ _ | assumption | refine Only.drewN ?_ _ | refine Only.drew ?_ | refine Only.alloc ?_ _ | refine Only.setCell ?_ (by intro hh; exfalso; simp at hh; try omega) _ | refine Only.trans ?_ (by assumption)))) Hpn.out).mono ?_); rintro en w4 ⟨he, t4⟩; rw [memB_has HCh.out (by omega) Hmp.out Hpn.out] at he; subst he) | fail "no arm")
    go_ret
    exact ⟨ret_bool Hf.out.symm, (by with_reducible repeat (first | exact Only.refl _ _ | assumption | refine Only.drewN ?_ _ | refine Only.drew ?_ | refine Only.alloc ?_ _ | refine Only.setCell ?_ (by intro hh; exfalso; simp at hh; try omega) _ | refine Only.trans ?_ (by assumption)))⟩
end Go.Proofs.YtnagknkllkdkaaaGreat
