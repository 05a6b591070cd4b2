/- The making of chains: the reference's emptyChain and buildChain; membership. -/
import Derived.Test.YtpfmkjcngknecaaNewChain
namespace Go.Proofs.Ytpfmkjcngknecaa
open Go.RowKit
set_option maxRecDepth 10000

def empV (eb : Nat → Nat) (j : Nat) : List RawV := (List.range j).map fun k => ⟨.slice (some ⟨eb k, 0, none⟩) 0 0⟩
theorem empV_len (eb : Nat → Nat) (j : Nat) : (empV eb j).length = j := by simp [empV]
theorem empV_succ (eb : Nat → Nat) (j b : Nat) : empV (updF eb j b) (j + 1) = empV eb j ++ [⟨.slice (some ⟨b, 0, none⟩) 0 0⟩] := by
  unfold empV
  rw [List.range_succ, List.map_append]
  congr 1
  · refine List.map_congr_left fun k hk => ?_
    rw [updF_other _ _ (by have := List.mem_range.1 hk; omega)]
  · simp [updF_same]
/-- the reference's chain as far as it is made: j1 rows, j2 lists of generators -/
structure SR (eR eG : TypeId) (n : Nat) (w : World) (g : Nat) (j1 j2 : Nat) (wr : World) (S : Key → List Nat) (tv gt : Value) (rb : Nat → Nat) (iv : Nat → Value) (eb : Nat → Nat) : Prop where
  em : Em eR w.heap.size n j1 wr S tv rb iv
  gS : S .g = [g]
  acc : ∃ fs, Acc w.heap.size eR wr gt (empV eb j2) fs ∧ fs.flatten = []
  gtS : gt.ownBlock.toList = S .gt
  emp : ∀ k, k < j2 → S (.emp k) = [eb k] ∧ Acc w.heap.size eG wr (.slice (some ⟨eb k, 0, none⟩) 0 0) ([] : List (List Int)) []
  blk : Blk wr g [.int .i64 n, tv, gt]
  keep : Only [] w wr
section
variable {eR eG eI : TypeId} {n : Nat} {w wr w1 w2 w4 w5 w8 w9 : World} {g j j1 j2 : Nat} {S : Key → List Nat} {tv gt : Value} {rb : Nat → Nat} {iv : Nat → Value} {eb : Nat → Nat}
theorem SR.row (h : SR eR eG n w g j j2 wr S tv gt rb iv eb) (hj : j < n)
    (hown : w1.ownsRow wr.heap.size eI 1 (.slice (some ⟨wr.heap.size, 0, none⟩) n n) n (List.replicate n (.slice none 0 0))) (h1 : Only [] wr w1)
    {v2 : Value} {f2 : List Nat} (r2 : Rd w2 v2 (PM.pts n) f2) (F2 : Fresh w1.heap.size w2 f2) (h2 : Only [] w1 w2) (h4 : Only [] (w2.setCell ⟨wr.heap.size, j, none⟩ v2) w4)
    {tv' : Value} {fs' : List (List Nat)} (hA : Acc w.heap.size eR w5 tv' (rowsV n rb j ++ [⟨rowV n wr.heap.size⟩]) fs') (hfs : fs'.flatten = []) (h5 : Only tv.ownBlock.toList w4 w5) (hb : tv'.ownBlock = tv.ownBlock ∨ tv'.ownBlock = some w4.heap.size) :
    ∃ S' rb' iv', SR eR eG n w g (j + 1) j2 (w5.setCell ⟨g, 1, none⟩ tv') S' tv' gt rb' iv' eb := by
  obtain ⟨S', hE', e1, e2, e3⟩ := h.em.step hj hown h1 r2 F2 h2 h4 hA hfs h5 hb
  have hst := setCell_only w5 g 1 tv'
  have hst2 := setCell_only w2 wr.heap.size j v2
  have hgS : g ∈ S .g := by rw [h.gS]; simp
  have hgS' : g ∈ S' .g := by rw [e1]; exact hgS
  have hglt := h.em.sep.lt _ _ hgS
  have hgtv : g ∉ tv.ownBlock.toList := by rw [h.em.tvS]; exact h.em.sep.sep _ _ (by simp) _ hgS
  have hwr : w.heap.size ≤ wr.heap.size := h.keep.size
  have hw2 : wr.heap.size ≤ w2.heap.size := Nat.le_trans h1.size h2.size
  have key : ∀ {β : Type} [Rp β] {e : TypeId} {v : Value} {l : List β} {fs : List (List Nat)}, Acc w.heap.size e wr v l fs → fs.flatten = [] → (∀ b ∈ v.ownBlock.toList, b ∉ S .g ∧ b ∉ S .tv ∧ b < wr.heap.size) → Acc w.heap.size e (w5.setCell ⟨g, 1, none⟩ tv') v l fs := by
    intro β _ e v l fs hA hfs hv
    refine ((((((hA.keep h1).keep h2).only hst2 (by rw [hfs]; simp) fun x hx hm => ?_).keep h4).only h5 (by rw [hfs]; simp) fun x hx hm => ?_).only hst (by rw [hfs]; simp) fun x hx hm => ?_)
    · have e : x = wr.heap.size := by simpa using hm
      have := (hv x (by simp [hx])).2.2; omega
    · rw [h.em.tvS] at hm
      exact (hv x (by simp [hx])).2.1 hm
    · have e : x = g := by simpa using hm
      subst e
      exact (hv x (by simp [hx])).1 hgS
  obtain ⟨fs, hacc, hfs0⟩ := h.acc
  refine ⟨S', _, _, hE'.only hst fun b hb' => ?_, by rw [e1, h.gS], ⟨fs, key hacc hfs0 fun b hb' => ?_, hfs0⟩, by rw [e2]; exact h.gtS, fun k hk => ⟨by rw [e3]; exact (h.emp k hk).1, key (h.emp k hk).2 rfl fun b hb' => ?_⟩, ?_, ?_⟩
  · have e : b = g := by simpa using hb'
    subst e
    exact ⟨hE'.sep.sep _ _ (by simp) _ hgS', fun k => hE'.sep.sep _ _ (by simp) _ hgS', fun k => hE'.sep.sep _ _ (by simp) _ hgS'⟩
  · rw [h.gtS] at hb'
    exact ⟨h.em.sep.sep _ _ (by simp) _ hb', h.em.sep.sep _ _ (by simp) _ hb', h.em.sep.lt _ _ hb'⟩
  · have hb2 : b ∈ S (.emp k) := by rw [(h.emp k hk).1]; simpa [Value.ownBlock, eq_comm] using hb'
    exact ⟨h.em.sep.sep _ _ (by simp) _ hb2, h.em.sep.sep _ _ (by simp) _ hb2, h.em.sep.lt _ _ hb2⟩
  · have := (((((h.blk.keep h1).keep h2).only hst2 (by simp; omega)).keep h4).only h5 hgtv).set 1 tv'
    simpa using this
  · refine ((((h.keep.trans h1).trans h2).setCell (fun h => by simp at h; omega) _).trans h4).then_ h5 (fun x hx hl => ?_) |>.setCell (fun h' => ?_) _
    · rw [h.em.tvS] at hx
      have := h.em.sep.ge _ _ hx; omega
    · have := h.em.sep.ge _ _ hgS
      have h'' : g < w.heap.size := h'
      omega
theorem SR.gen {e0 : Nat} (he0 : e0 = wr.heap.size) (h : SR eR eG n w g j1 j wr S tv gt rb iv eb) (h8 : Only [] (wr.alloc (.cells #[] eG)) w8)
    {gt' : Value} {fs' : List (List Nat)} (hA : Acc w.heap.size eR w9 gt' (empV eb j ++ [⟨.slice (some ⟨e0, 0, none⟩) 0 0⟩]) fs') (hfs : fs'.flatten = []) (h9 : Only gt.ownBlock.toList w8 w9) (hb : gt'.ownBlock = gt.ownBlock ∨ gt'.ownBlock = some w8.heap.size) :
    ∃ S' eb', SR eR eG n w g j1 (j + 1) (w9.setCell ⟨g, 2, none⟩ gt') S' tv gt' rb iv eb' := by
  subst he0
  have hst := setCell_only w9 g 2 gt'
  have h7 : Only [] wr (wr.alloc (.cells #[] eG)) := (Only.refl _ _).alloc _
  have h78 := h7.trans h8
  have hs7 : (wr.alloc (.cells #[] eG)).heap.size = wr.heap.size + 1 := by simp
  have hs8 := h8.size
  have hs9 := h9.size
  have hgS : g ∈ S .g := by rw [h.gS]; simp
  have hglt := h.em.sep.lt _ _ hgS
  have hwr : w.heap.size ≤ wr.heap.size := h.keep.size
  have hggt : g ∉ gt.ownBlock.toList := by rw [h.gtS]; exact h.em.sep.sep _ _ (by simp) _ hgS
  -- the old rows
  have hE9 : Em eR w.heap.size n j1 (w9.setCell ⟨g, 2, none⟩ gt') S tv rb iv := ((h.em.keep h78).only h9 fun b hb' => by
    rw [h.gtS] at hb'
    exact ⟨h.em.sep.sep _ _ (by simp) _ hb', fun k => h.em.sep.sep _ _ (by simp) _ hb', fun k => h.em.sep.sep _ _ (by simp) _ hb'⟩).only hst fun b hb' => by
    have e : b = g := by simpa using hb'
    subst e
    exact ⟨h.em.sep.sep _ _ (by simp) _ hgS, fun k => h.em.sep.sep _ _ (by simp) _ hgS, fun k => h.em.sep.sep _ _ (by simp) _ hgS⟩
  have hemp : ∀ k b, k < j → b ∈ S (.emp k) → b ∉ gt.ownBlock.toList ∧ b ≠ g ∧ b < wr.heap.size := fun k b hk hb' => by
    refine ⟨by rw [h.gtS]; exact h.em.sep.sep _ _ (by simp) _ hb', fun e => h.em.sep.sep .g (.emp k) (by simp) _ hgS (e ▸ hb'), h.em.sep.lt _ _ hb'⟩
  have hS1 : Sep w.heap.size w8 (updS S (.emp j) [wr.heap.size]) := h.em.sep.upd (fun x hx => by
    have e : x = wr.heap.size := by simpa using hx
    omega) (by omega)
  have hgt'S : ∀ x, gt'.ownBlock = some x → x ≠ g := fun x hx e => by
    subst e
    rcases hb with hb | hb
    · rw [hb] at hx; exact hggt (by simp [hx])
    · rw [hb] at hx; injection hx with hx; omega
  have hblk : Blk (w9.setCell ⟨g, 2, none⟩ gt') g [.int .i64 n, tv, gt'] := by
    have := ((h.blk.keep h78).only h9 hggt).set 2 gt'
    simpa using this
  have hkeep : Only [] w (w9.setCell ⟨g, 2, none⟩ gt') := by
    refine ((h.keep.trans h78).then_ h9 fun x hx hl => ?_).setCell (fun h' => ?_) _
    · rw [h.gtS] at hx
      have := h.em.sep.ge _ _ hx; omega
    · have := h.em.sep.ge _ _ hgS
      have h'' : g < w.heap.size := h'
      omega
  have hacc : Acc w.heap.size eR (w9.setCell ⟨g, 2, none⟩ gt') gt' (empV (updF eb j wr.heap.size) (j + 1)) fs' := by
    rw [empV_succ]
    exact hA.only hst (by rw [hfs]; simp) fun x hx hm => hgt'S x hx (by simpa using hm)
  have hnew : Acc w.heap.size eG (w9.setCell ⟨g, 2, none⟩ gt') (.slice (some ⟨wr.heap.size, 0, none⟩) 0 0) ([] : List (List Int)) [] := by
    refine (((Acc.made wr w.heap.size eG rfl hwr).keep h8).only h9 (by simp) fun x hx hm => ?_).only hst (by simp) fun x hx hm => ?_
    · have e : wr.heap.size = x := by simpa [Value.ownBlock] using hx
      rw [h.gtS] at hm
      have := h.em.sep.lt _ _ hm; omega
    · have e : wr.heap.size = x := by simpa [Value.ownBlock] using hx
      have e2 : x = g := by simpa using hm
      omega
  have key : ∀ S' : Key → List Nat, Sep w.heap.size (w9.setCell ⟨g, 2, none⟩ gt') S' → gt'.ownBlock.toList = S' .gt → S' .tv = S .tv → S' .g = S .g → (∀ k, S' (.row k) = S (.row k)) → (∀ k, S' (.idn k) = S (.idn k)) → (∀ k, S' (.emp k) = updS S (.emp j) [wr.heap.size] (.emp k)) →
      SR eR eG n w g j1 (j + 1) (w9.setCell ⟨g, 2, none⟩ gt') S' tv gt' rb iv (updF eb j wr.heap.size) := by
    intro S' hs hgt htv hg hr hi he
    refine ⟨hE9.reS hs htv hr hi, by rw [hg]; exact h.gS, ⟨fs', hacc, hfs⟩, hgt, fun k hk => ?_, hblk, hkeep⟩
    rw [he k]
    by_cases e : k = j
    · subst e
      rw [updS_same, updF_same]
      exact ⟨rfl, hnew⟩
    · rw [updS_other _ _ (by simpa using e), updF_other _ _ e]
      obtain ⟨p1, p2⟩ := h.emp k (by omega)
      have hin : eb k ∈ S (.emp k) := by rw [p1]; simp
      obtain ⟨q1, q2, q3⟩ := hemp k (eb k) (by omega) hin
      refine ⟨p1, ((p2.keep h78).only h9 (by simp) fun x hx hm => ?_).only hst (by simp) fun x hx hm => ?_⟩
      · have e : eb k = x := by simpa [Value.ownBlock] using hx
        subst e; exact q1 hm
      · have e : eb k = x := by simpa [Value.ownBlock] using hx
        subst e; exact q2 (by simpa using hm)
  have hsz9 : (w9.setCell ⟨g, 2, none⟩ gt').heap.size = w9.heap.size := by simp [World.setCell]
  rcases hb with hb | hb
  · refine ⟨updS S (.emp j) [wr.heap.size], _, key _ (hS1.keep (by omega)) ?_ ?_ ?_ (fun k => ?_) (fun k => ?_) (fun k => rfl)⟩
    · rw [hb, h.gtS, updS_other _ _ (by simp)]
    all_goals rw [updS_other _ _ (by simp)]
  · have hlt := (hA.ownlt _ hb).2
    refine ⟨updS (updS S (.emp j) [wr.heap.size]) .gt [w8.heap.size], _, key _ (hS1.upd (fun x hx => by
      have e : x = w8.heap.size := by simpa using hx
      omega) (by omega)) ?_ ?_ ?_ (fun k => ?_) (fun k => ?_) (fun k => ?_)⟩
    · rw [hb, updS_same]; rfl
    · rw [updS_other _ _ (by simp), updS_other _ _ (by simp)]
    · rw [updS_other _ _ (by simp), updS_other _ _ (by simp)]
    · rw [updS_other _ _ (by simp), updS_other _ _ (by simp)]
    · rw [updS_other _ _ (by simp), updS_other _ _ (by simp)]
    · rw [updS_other _ _ (by simp)]
theorem SR.fin (h : SR eR eG n w g n n wr S tv gt rb iv eb) (hn : 0 < n) (hn20 : n ≤ 20) : NC1 eG 2 1 n w (.pointer (some ⟨g, 0, none⟩)) wr := by
  obtain ⟨fs, hA, hfs⟩ := h.acc
  have hlen := empV_len eb n
  obtain ⟨bg, cG, hgt, -⟩ := hA.raw (k := 0) (by omega)
  rw [hlen] at hgt
  have hbg : S .gt = [bg] := by rw [← h.gtS, hgt]; rfl
  obtain ⟨css, hown, -, -⟩ := hA.own
  have hob := (own_fresh hown).own
  rw [h.gtS, hbg] at hob
  obtain ⟨L, M, F, e1, e2, e3, hC⟩ := h.em.ch (eG := eG) (oG := 2) (oT := 1) (cG := cG) hn hn20 (fun k => .slice (some ⟨eb k, 0, none⟩) 0 0) h.gS hbg (h.blk.cell 0 rfl) (by rw [h.blk.cell 2 rfl, hgt]) (h.blk.cell 1 rfl)
    (fun k hk => by
      obtain ⟨g', c', q1, q2⟩ := hA.raw (k := k) (by omega)
      have q3 := hgt.symm.trans q1
      injection q3 with q4 _ _
      injection q4 with q5
      injection q5 with q6 _ _
      rw [← q6] at q2
      rw [q2]; simp [empV])
    (fun k hk => (h.emp k hk).2) (fun k hk => by rw [(h.emp k hk).1]; rfl) hob
  exact ⟨L, _, M, F, by rw [e1], e2, e3, hC, h.keep⟩
end
set_option maxHeartbeats 2000000 in
theorem emptyChain_any (n : Nat) (hn : 0 < n) (hn20 : n ≤ 20) (w : World) :
    Calls Try.prog 132 #[.int .i64 n] w fun e w' => ∃ v, e = .returned v ∧ NC1 25 2 1 n w v w' := by
  obtain ⟨i2, hi2, hz20, hz21, hz22⟩ := info_parts Try.info222
  obtain ⟨i1, hi, hz0, hz1, hz2⟩ := info_parts Try.info22
  have HN0 : Hid (∃ S tv gt rb iv eb, SR 22 25 n w w.heap.size 0 0 (w.alloc (.cells #[.int .i64 n, .slice none 0 0, .slice none 0 0] 122)) S tv gt rb iv eb) := Lib.hid (by
    have hsz : (w.alloc (.cells #[.int .i64 n, .slice none 0 0, .slice none 0 0] 122)).heap.size = w.heap.size + 1 := by simp
    exact ⟨updS (updS (fun _ => []) .g [w.heap.size]) .gt [], .slice none 0 0, .slice none 0 0, fun _ => 0, fun _ => .slice none 0 0, fun _ => 0, Em.start _ n (Sep.start _ _ (by omega) (by simp) (by simp) (by simp)) (by rw [updS_other _ _ (by simp), updS_other _ _ (by simp)]) _ _, by rw [updS_other _ _ (by simp), updS_same], ⟨[], Acc.nil _ _ _, rfl⟩, by rw [updS_same]; rfl, by intro k hk; omega, Blk.new w _ _, (Only.refl _ _).alloc _⟩)
  go_enter Try.func132, Try.ntmps132
  go_wp2
  go_loopw [4] (fun i wr => ∃ (j : Nat), j ≤ n ∧ i = .int .i64 j ∧ ∃ S tv gt rb iv eb, SR 22 25 n w w.heap.size j j wr S tv gt rb iv eb)
    (fun i _ => n - (intOf i).toNat)
  case atStart => exact ⟨0, Nat.zero_le _, rfl, HN0.out⟩
  case round =>
    obtain ⟨W2, hnew⟩ : ∃ W, W = wr := ⟨_, rfl⟩
    subst hnew
    obtain ⟨j, hj, rfl, S, tv, gt, rb, iv, eb, hN⟩ := hrel
    by_cases hlt : j < n
    · have hE := hN.em
      have hgS : w.heap.size ∈ S .g := by rw [hN.gS]; simp
      have hglt := hE.sep.lt _ _ hgS
      have hgtv : w.heap.size ∉ tv.ownBlock.toList := by rw [hE.tvS]; exact hE.sep.sep _ _ (by simp) _ hgS
      have hggt : w.heap.size ∉ gt.ownBlock.toList := by rw [hN.gtS]; exact hE.sep.sep _ _ (by simp) _ hgS
      obtain ⟨fs, hA, hfs⟩ := hE.acc
      have hrl := rowsV_len n rb j
      have hel := empV_len eb j
      have hne : w.heap.size ≠ W2.heap.size := by omega
      have hBn : w.heap.size ≤ W2.heap.size := hN.keep.size
      have htvlt : ∀ g, tv.ownBlock = some g → g ∉ [W2.heap.size] := fun g hg hm => by
        have h5 := (hA.ownlt g hg).2
        have h6 : g = W2.heap.size := by simpa using hm
        omega
      have HN := Lib.hid hN
      have HA := Lib.hid hA
      have Hfs := Lib.hid hfs
      have Hrl := Lib.hid hrl
      have Hel := Lib.hid hel
      have Hgtv := Lib.hid hgtv
      have Hggt := Lib.hid hggt
      have Htvlt := Lib.hid htvlt
      clear hN hE hA hfs hrl hel hgS hgtv hggt htvlt
      go_wp2_with (first
        | (at_make; refine wpList_make_full _ rfl _ _ 22 rfl W2.heap.size 25 i1 _ 1 Try.underlying22 hi hz0 hz1 _ _ _ _ n rfl rfl rfl rfl (by rw [hz2]; omega) (by unfold maxLen; omega) (Nat.le_refl _) ?_; intro w3 hown hg; rw [madeNils', Nat.mul_one] at hown; have h3 : Only [] W2 w3 := (Only.refl _ _).grown hg (by simp); have Hown := Lib.hid hown; clear hown hg)
        | (go_at_call 124; (with_reducible refine (specIdentity_any n w3 (by omega)).mono ?_); rintro en w4 ⟨v4, f4, rfl, r4, F4, t4⟩; obtain ⟨a4, c4, rfl, -⟩ := r4.ints; have hO4 := owns_keep Hown.out t4; have c40 := (hO4.cellAt j (by omega)); rw [List.getElem?_replicate, if_pos hlt] at c40; have z40 := hO4.frozenAt j; have HO4 := Lib.hid hO4; clear hO4; have c41 := ((HN.out.blk.keep h3).keep t4).cell 1 rfl)
        | (at_builtin; go_loud (refine wpList_push2d (α := RawV) rfl (.tmp 25) (.tmp 27) 104 rfl w.heap.size 22 i2 _ 24 Try.underlying104 hi2 hz20 hz21 hz22 rfl (by decide) (by decide) (w4.setCell ⟨W2.heap.size, j, none⟩ _) tv (rowsV n rb j) fs rfl (((HA.out.keep h3).keep t4).only (setCell_only w4 _ j _) (by rw [Hfs.out]; simp) Htvlt.out) ((Only.refl _ _).alloc _) (Nat.le_trans hBn (Nat.le_trans (Nat.le_trans h3.size t4.size) (setCell_only w4 _ j _).size)) _ 1 [.slice (some ⟨W2.heap.size, 0, none⟩) n n] ⟨rowV n W2.heap.size⟩ [] rfl (lit_src _ [.slice (some ⟨W2.heap.size, 0, none⟩) n n] _ (by simp only [World.size_setCell])) (by intro u hu; simp at hu; subst hu; rfl) ⟨rfl, rfl⟩ (by simp) (by rw [Hrl.out]; omega) ?_; intro v5 w5 hA5 hO5 hb5; obtain ⟨a5, n5, c5, rfl⟩ : ∃ a n c, v5 = Value.slice a n c := (let ⟨a, c, hh⟩ := hA5.form; ⟨a, _, c, hh⟩); have hB5 := ((((HN.out.blk.keep h3).keep t4).only (setCell_only w4 W2.heap.size j _) (by simpa using hne)).keep ((Only.refl _ _).alloc _)).only hO5 Hgtv.out; have y5 := hB5.cell 1 rfl; have z5 := hB5.frozen 1; clear hB5; obtain ⟨S6, rb6, iv6, hN6⟩ := HN.out.row hlt Hown.out h3 r4 F4 t4 ((Only.refl _ _).alloc _) hA5 (by rw [List.flatten_append, Hfs.out]; rfl) hO5 hb5; obtain ⟨fs6, hA6, hfs6⟩ := hN6.acc; have y6 := hN6.blk.cell 2 rfl; have hn6 : w.heap.size ≤ (w5.setCell ⟨w.heap.size, 1, none⟩ (.slice a5 n5 c5)).heap.size := hN6.keep.size; have HN6 := Lib.hid hN6; have Hn6 := Lib.hid hn6; have HA6 := Lib.hid hA6; have Hfs6 := Lib.hid hfs6; clear hN6 hA6 hfs6 hn6))
        | (at_builtin; go_loud (refine wpList_push2d (α := RawV) rfl (.tmp 35) (.tmp 37) 104 rfl w.heap.size 22 i2 _ 24 Try.underlying104 hi2 hz20 hz21 hz22 rfl (by decide) (by decide) (w5.setCell ⟨w.heap.size, 1, none⟩ _) gt (empV eb j) fs6 rfl HA6.out (((Only.refl _ _).alloc _).alloc _) Hn6.out _ 1 [.slice (some ⟨w5.heap.size, 0, none⟩) 0 0] ⟨.slice (some ⟨w5.heap.size, 0, none⟩) 0 0⟩ [] rfl (lit_src _ [.slice (some ⟨w5.heap.size, 0, none⟩) 0 0] _ (by simp [World.size_setCell])) (by intro u hu; simp at hu; subst hu; rfl) ⟨rfl, rfl⟩ (by simp) (by rw [Hel.out]; omega) ?_; intro v9 w9 hA9 hO9 hb9; obtain ⟨a9, n9, c9, rfl⟩ : ∃ a n c, v9 = Value.slice a n c := (let ⟨a, c, hh⟩ := hA9.form; ⟨a, _, c, hh⟩); have hB9 := (HN6.out.blk.keep (((Only.refl _ _).alloc _).alloc _)).only hO9 Hggt.out; have y9 := hB9.cell 2 rfl; have z9 := hB9.frozen 2; clear hB9))
        | fail "no arm")
      go_roundw
      case rel => exact ⟨j + 1, by omega, by go_num, (let ⟨S', eb', hh⟩ := SR.gen (by simp) HN6.out ((Only.refl _ _).alloc _) hA9 (by rw [List.flatten_append, Hfs6.out]; rfl) hO9 (hb9.imp id fun h => h.trans (by simp)); ⟨S', _, _, _, _, eb', hh⟩)⟩
      case measure => simp [intOf]; omega
    · obtain rfl : j = n := by omega
      have HF := Lib.hid (hN.fin hn hn20)
      clear hN
      go_wp2
      go_ret
      exact ⟨_, rfl, HF.out⟩
theorem specGen0 {n : Nat} {B : Nat} {L : Lay} {gv : Nat → Value} {G : PM.Gens} {T : PM.Rows} {M F : List Nat} {w : World} (hC : Ch 25 B w L gv n G T M F) (hoG : L.oG = 2) (hoT : L.oT = 1) (hI : PM.Inv n 0 G T) (hL : PM.Ln n 0 G T)
    {p : List Int} {vp : Value} {fp : List Nat} (hp : PM.PN n p) (hv : Rd w vp p fp) (hf : ∀ b ∈ fp, b ∉ M) (hB : B ≤ w.heap.size) :
    Calls Try.prog 133 #[.pointer (some ⟨L.g, 0, none⟩), .int .i64 0, vp] w fun en w' => en = .returned (.tuple #[]) ∧ AddP 25 B L n 0 p G T M F fp gv w w' :=
  specGen_any B L hoG hoT n n 0 (by omega) (by omega) gv G T M F w hC hI hL p vp fp (PM.May.zero G hp) hv hf hB
set_option maxHeartbeats 2000000 in
theorem buildChain_any (n : Nat) (hn : 0 < n) (hn20 : n ≤ 20) (vg : Value) (gens : List (List Int)) (fpg : List Nat) (w : World) (hg : Rd w vg gens fpg) (hpn : ∀ g ∈ gens, PM.PN n g) (hgl : gens.length ≤ 1000) :
    Calls Try.prog 111 #[.int .i64 n, vg] w fun e w' => ∃ (L : Lay) (gv : Nat → Value) (G : PM.Gens) (T : PM.Rows) (M F : List Nat), e = .returned (.pointer (some ⟨L.g, 0, none⟩)) ∧ L.oG = 2 ∧ L.oT = 1 ∧ Ch 25 w.heap.size w' L gv n G T M F ∧ PM.Chain n gens G T ∧ Only [] w w' := by
  obtain ⟨ag, cg, obg, fpsg, rfl, hfpg, hSg⟩ := hg.open_
  have hgb := hSg.bound
  have Hpn := Lib.hid hpn
  have HSg := Lib.hid hSg
  clear hpn hSg hg hfpg
  go_enter Try.func111, Try.ntmps111
  go_wp2_with (first
    | (go_at_call 132; (with_reducible refine (emptyChain_any n hn hn20 w).mono ?_); rintro en w1 ⟨v1, rfl, hN1⟩; obtain ⟨⟨g', bg', bt', cG', cT', oG', oT', rb'⟩, gv0, M0, F0, es, eoG, eoT, hC, hK⟩ := hN1; subst es; have eoG' : oG' = 2 := eoG; subst eoG'; have eoT' : oT' = 1 := eoT; subst eoT'; have HL0 := Lib.hid (CL.start gens hC hK); clear eoG eoT hC hK)
    | fail "no arm")
  go_loopw [6] (fun i wr => ∃ m : Nat, m ≤ gens.length ∧ i = .int .i64 m ∧ CL 25 ⟨g', bg', bt', cG', cT', 2, 1, rb'⟩ n gens w m wr)
    (fun i _ => gens.length - (intOf i).toNat)
  case atStart => exact ⟨0, Nat.zero_le _, rfl, HL0.out⟩
  case round =>
    obtain ⟨W3, hnew⟩ : ∃ W, W = wr := ⟨_, rfl⟩
    subst hnew
    obtain ⟨m, hm, rfl, hCL⟩ := hrel
    obtain ⟨gv3, G3, T3, M3, F3, hC3, hc3, hL3, hK3⟩ := hCL
    by_cases hltm : m < gens.length
    · obtain ⟨b, off, u, rfl, hob, hcu0, hru0⟩ := HSg.out.atRow m hltm
      have hcu := hK3.cell (by simp) hcu0
      have hru := Rp.keep hru0 hK3
      have hgm : gens[m] ∈ gens := List.getElem_mem _
      have hpm := Hpn.out _ hgm
      have hlm : gens[m].length ≤ 1073741824 := by rw [hpm.1]; omega
      have HC3 := Lib.hid hC3
      have Hc3 := Lib.hid hc3
      have HL3 := Lib.hid hL3
      have HK3 := Lib.hid hK3
      have Hru := Lib.hid hru
      have Hpm := Lib.hid hpm
      have Hlm := Lib.hid hlm
      clear hcu0 hru0 hC3 hc3 hL3 hK3 hru hpm hob hgm hlm
      go_wp2_with (first
        | (go_at_call 95; (with_reducible refine (copyInts_rd _ _ _ _ Hru.out Hlm.out).mono ?_); rintro en w4 ⟨v4, f4, rfl, r4, F4, t4⟩)
        | (go_at_call 133; (with_reducible refine (specGen0 (HC3.out.keep t4) rfl rfl Hc3.out.inv HL3.out Hpm.out r4 (notin_fresh HC3.out.lM (Nat.le_refl _) F4) (Nat.le_trans HK3.out.size t4.size)).mono ?_); rintro en w5 ⟨rfl, ha5⟩)
        | fail "no arm")
      go_roundw
      case rel => exact ⟨m + 1, by omega, by go_num, CL.step HC3.out Hc3.out HK3.out t4 hltm ha5⟩
      case measure => simp [intOf]; omega
    · obtain rfl : m = gens.length := by omega
      rw [List.take_length] at hc3
      have Hc3 := Lib.hid hc3
      have HC3 := Lib.hid hC3
      have HK3 := Lib.hid hK3
      clear hC3 hc3 hL3 hK3
      go_wp2
      go_ret
      exact ⟨_, gv3, G3, T3, M3, F3, rfl, rfl, rfl, HC3.out, Hc3.out, HK3.out⟩
end Go.Proofs.Ytpfmkjcngknecaa
