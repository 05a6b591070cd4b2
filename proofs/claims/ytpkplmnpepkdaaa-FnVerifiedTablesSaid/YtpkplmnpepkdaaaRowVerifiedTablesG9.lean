/- The program's faults of an entry. (Written by mkprf3.py.) The reference's drawn numbers, permutations (seldom invalid ones), generators (laws 34, 35, ..). The reference's drawn groups (laws 34, 35, ..). The checksum of a string: both builds. Texts of the reference: splitText (the draws of puzzles; laws 45, 50, 55 ..). -/
import Derived.Test.YtpkplmnpepkdaaaRowVerifiedTablesG8
import Derived.Test.YtpkplmnpepkdaaaRowVerifiedTablesG7
import Derived.Test.YtpkplmnpepkdaaaRowVerifiedTablesG2
import Derived.Test.YtpkplmnpepkdaaaRowVerifiedTablesG1
import Derived.Deep.AppendLies
import Derived.Deep.DeepCutAuto
import Derived.Test.YtpkplmnpepkdaaaRowVerifiedTablesG3
import Derived.Test.YtpkplmnpepkdaaaRowVerifiedTablesG6
namespace Go.Proofs.Ytpkplmnpepkdaaa
open Go.RowKit
set_option maxRecDepth 10000

theorem wpList_push2 {P : Program} {α : Type} [Rp α] {ops : Array Oper} {rest : List Oper} {o : Oper} {a : Act} {w : World} {Q : Exit → Act → World → Prop} (hgd : o.guard = none) (s x : Operand) (t : TypeId)
    (ho : o.op = .call { callee := .builtin .append, args := #[s, x], argTypes := #[t, t] })
    (B : Nat) (e : TypeId) (i : TypeInfo) (z : Value) (bytes : Nat) (ht : P.underlying t = some (.slice e)) (hi : P.info? e = some i) (hz : i.zero = some z)
    (hsize : i.size = Rp.size α) (hby : i.bytes = bytes) (hzs : z.cells.size = Rp.size α) (hsz : 0 < Rp.size α) (hbb : bytes ≤ 65536)
    (w0 : World) (v : Value) (l : List α) (fs : List (List Nat)) (hs : a.eval s = v) (hA : Acc B e w0 v l fs) (hK0 : Only [] w0 w) (hB : B ≤ w0.heap.size)
    (g c : Nat) (cs : List Value) (y : α) (fp : List Nat) (hx : a.eval x = .slice (some ⟨g, 0, none⟩) 1 c) (hsrc : ∀ j u, cs[j]? = some u → w.cell? ⟨g, j, none⟩ = some u) (hcs : ∀ u ∈ cs, u.oneCell' = true)
    (hy : Rp.rep w cs y fp) (hap : ∀ b ∈ fp, v.ownBlock ≠ some b) (hlen : l.length + 1 ≤ 1073741824)
    (h : ∀ v' w', Acc B e w' v' (l ++ [y]) (fs ++ [fp]) → Only v.ownBlock.toList w w' → (v'.ownBlock = v.ownBlock ∨ v'.ownBlock = some w.heap.size) → wpList P ops Q rest (a.put o.dst v') w') : wpList P ops Q (o :: rest) a w :=
  wpList_plain hgd fun _ hK => wp_push2 s x t ho B e i z bytes ht hi hz hsize hby hzs hsz hbb w0 v l fs hs hA hK0 hB g c cs y fp hx hsrc hcs hy hap hlen fun v' w' h1 h2 _ _ h5 => hK _ _ (h v' w' h1 h2 h5)
/-- the list of an entry's faults as the closure keeps it -/
def EF (w wx : World) (i : Nat) (L : List Fault) : Prop :=
  ∃ o fs, Blk wx (w.heap.size + 1) [o] ∧ Blk wx w.heap.size [.int .i64 i] ∧ Acc (w.heap.size + 2) 67 wx o L fs ∧ fs.flatten = [] ∧ Only [] w wx ∧ ∃ a n c, o = Value.slice a n c
theorem EF.keep {w wx wy : World} {i : Nat} {L : List Fault} (h : EF w wx i L) (ho : Only [] wx wy) : EF w wy i L := by
  obtain ⟨o, fs, a, b, c, d, e, f⟩ := h
  exact ⟨o, fs, a.keep ho, b.keep ho, c.keep ho, d, e.trans ho, f⟩
theorem EF.only {w wx : World} {i : Nat} {L : List Fault} (h : EF w wx i L) : Only [] w wx := by
  obtain ⟨o, fs, a, b, c, d, e, f⟩ := h; exact e
theorem EF.iCell {w wx : World} {i : Nat} {L : List Fault} (h : EF w wx i L) : wx.cell? ⟨w.heap.size, 0, none⟩ = some (.int .i64 i) := by
  obtain ⟨o, fs, a, b, c, d, e, f⟩ := h; exact b.cell 0 rfl
set_option maxHeartbeats 1000000 in
theorem add_any (w wx : World) (i : Nat) (L : List Fault) (c : Bool) (kind letter : Int) (hE : EF w wx i L) (h1 : I64 kind) (h2 : I64 (i : Int)) (h3 : I64 letter) (hl : L.length + 1 ≤ 1073741824) :
    Calls Try.prog 62 #[.bool c, .int .i64 kind, .int .i64 letter, .pointer (some ⟨w.heap.size + 1, 0, none⟩), .pointer (some ⟨w.heap.size, 0, none⟩)] wx fun e w' => e = .returned (.tuple #[]) ∧ EF w w' i (L ++ one c ⟨kind, i, letter⟩) := by
  rcases c
  · go_enter Try.func62, Try.ntmps62
    go_wp2
    first | go_end0 | refine bodyPost_ret (results_none rfl _ _ _) rfl ?_
    refine ⟨rfl, ?_⟩
    rw [one_false, List.append_nil]
    exact hE
  obtain ⟨o, fs, hB1, hB2, hA, hF, hK, a0, n0, c0, rfl⟩ := hE
  obtain ⟨i0, hi, hz0, hz1, hz2⟩ := info_parts Try.infoFault
  have d1 := hB1.cell 0 rfl
  have d2 := hB2.cell 0 rfl
  have hlt := hB1.lt
  have H123 := Lib.hid (show I64 kind ∧ I64 (i : Int) ∧ I64 letter from ⟨h1, h2, h3⟩)
  have HB1 := Lib.hid hB1
  have hg1 : w.heap.size + 1 ∉ (Value.slice a0 n0 c0).ownBlock.toList := fun hm => by have := (hA.ownlt _ (by simpa using hm)).1; omega
  have hg0 : w.heap.size ∉ (Value.slice a0 n0 c0).ownBlock.toList := fun hm => by have := (hA.ownlt _ (by simpa using hm)).1; omega
  have HH := Lib.hid (show (w.heap.size + 1 ∉ (Value.slice a0 n0 c0).ownBlock.toList) ∧ (w.heap.size ∉ (Value.slice a0 n0 c0).ownBlock.toList) from ⟨hg1, hg0⟩)
  clear hg1 hg0 hB1
  go_enter Try.func62, Try.ntmps62
  go_wp2_with (at_builtin; refine wpList_push2 rfl _ _ 41 rfl (w.heap.size + 2) 67 i0 _ 24 Try.underlying41 hi hz0 hz1 hz2 rfl (by decide) (by decide) wx (.slice a0 n0 c0) L fs rfl hA ((Only.refl _ _).alloc _) (by omega) wx.heap.size 1 [.int .i64 kind, .int .i64 (i : Int), .int .i64 letter] (⟨kind, (i : Int), letter⟩ : Fault) [] rfl (lit_src wx [.int .i64 kind, .int .i64 (i : Int), .int .i64 letter] _ rfl) (by intro u hu; simp at hu; rcases hu with rfl | rfl | rfl <;> rfl) ⟨rfl, H123.out, rfl⟩ (by simp) hl ?_; intro v1 w1 hA1 hO1 hb1; obtain ⟨a9, n9, c9, rfl⟩ : ∃ a n c, v1 = Value.slice a n c := (let ⟨a, c, hh⟩ := hA1.form; ⟨a, _, c, hh⟩); have B9 := (HB1.out.keep ((Only.refl _ _).alloc (.cells #[.int .i64 kind, .int .i64 (i : Int), .int .i64 letter] 67))).only hO1 HH.out.1; have d9 := B9.cell 0 rfl; have z9 := Blk.frozen B9 0)
  first | go_end0 | refine bodyPost_ret (results_none rfl _ _ _) rfl ?_
  refine ⟨rfl, ?_⟩
  refine ⟨.slice a9 n9 c9, fs ++ [[]], B9.set 0 _, ((hB2.keep ((Only.refl _ _).alloc _)).only hO1 HH.out.2).only ((Only.refl [w.heap.size + 1] _).setCell (by intro _; simp) _) (by simp), ?_, by simp [hF], ?_, _, _, _, rfl⟩
  · rw [one_true]
    exact hA1.only ((Only.refl [w.heap.size + 1] _).setCell (by intro _; simp) _) (by simp [hF]) (fun q hq => by
      rcases hb1 with h9 | h9
      · rw [h9] at hq; have := (hA.ownlt _ hq).1; simp; omega
      · rw [h9] at hq; injection hq with hq; simp at hq ⊢; omega)
  · exact ((hK.alloc _).then_ hO1 (fun b hb hl => by have := (hA.ownlt b (by simpa using hb)).1; omega)).setCell (fun hh => by simp at hh; omega) _
theorem idxL_le {l : List (List Int)} {i : Nat} (h : i < l.length) : idxL l l[i] ≤ i ∧ 0 ≤ idxL l l[i] := by
  unfold idxL idxF
  cases hf : l.findIdx? (fun q => decide (q = l[i])) with
  | none => rw [List.findIdx?_eq_none_iff] at hf; have := hf l[i] (List.getElem_mem h); simp at this
  | some k =>
    obtain ⟨hk, hp, hlt⟩ := List.findIdx?_eq_some_iff_getElem.1 hf
    constructor
    · rcases Nat.lt_or_ge i k with h1 | h1
      · have := hlt i h1; simp at this
      · simpa using h1
    · simp
theorem len_ok1 {L : List Fault} (h : L.length + 2 ≤ 1073741824) : L.length + 1 ≤ 1073741824 := by omega
theorem len_ok2 {L : List Fault} {c : Bool} {f : Fault} (h : L.length + 2 ≤ 1073741824) : (L ++ one c f).length + 1 ≤ 1073741824 := by
  have := one_len c f; rw [List.length_append]; omega
theorem inR_shift (y d : Int) : inR (y - d) (-1) 1 = inR y (d - 1) (d + 1) := by
  rw [Bool.eq_iff_iff, inR_iff, inR_iff]; omega
theorem leads_no {x : Puzzle} {t : Table} {p : List Int} {d l : Int} (h : nextI x t p l < 0) : leads x t p d l = false := by
  rw [← Bool.not_eq_true, leads_iff]; omega
theorem leads_yes {x : Puzzle} {t : Table} {p : List Int} {d l : Int} (h : 0 ≤ nextI x t p l) : leads x t p d l = decide (atD t (nextI x t p l) = d) := by
  rw [Bool.eq_iff_iff, leads_iff, decide_eq_true_iff]; exact ⟨fun hh => hh.2, fun hh => ⟨h, hh⟩⟩
theorem any_take_succ {α : Type} (f : α → Bool) (l : List α) (j : Nat) (h : j < l.length) : (l.take (j + 1)).any f = ((l.take j).any f || f l[j]) := by
  rw [take_succ_get l j h, List.any_append]; simp
theorem descL_zero {x : Puzzle} {t : Table} {p : List Int} {d : Int} : decide (descL x t p d = 0) = !((ltrs x.moves.length).any (leads x t p d)) := by
  unfold descL
  cases h : (ltrs x.moves.length).find? (leads x t p d) with
  | none =>
    have : (ltrs x.moves.length).any (leads x t p d) = false := by
      rw [List.any_eq_false]; intro a ha; simpa using List.find?_eq_none.1 h a ha
    rw [this]; rfl
  | some a =>
    have h1 := List.find?_some h
    have h2 := List.mem_of_find?_eq_some h
    have : (ltrs x.moves.length).any (leads x t p d) = true := List.any_eq_true.2 ⟨a, h2, h1⟩
    rw [this]
    have := (mem_ltrs.1 h2).1
    simpa using this
set_option maxHeartbeats 8000000 in
theorem entryFaults_any (g : Nat) (x : Puzzle) (t : Table) (i : Nat) (w : World) (hP : Prf w g x t) (hc : checkT x t = true) (hi0 : i < t.patterns.length) :
    Calls Try.prog 43 #[.pointer (some ⟨g, 0, none⟩), .int .i64 i] w fun e w' => ∃ v fp', e = .returned v ∧ Rd w' v (entF x t i) fp' ∧ Fresh w.heap.size w' fp' ∧ Only [] w w' := by
  obtain ⟨hv, hw, ht, hps⟩ := checkT_iff.1 hc
  have hwf := wfT_iff.1 hw
  have hml := (validPz_facts hv).2.2.1
  have hP0 := hP
  obtain ⟨v0, v1, v2, vl, vm, M, f0, f1, f2, fl, fm, km, hB, r0, r1, r2, rl, rm, hM⟩ := hP
  obtain ⟨A0, C0, rfl, I0⟩ := r0.ints
  obtain ⟨A1, C1, ob, fps, rfl, -, hs⟩ := r1.open_
  obtain ⟨A2, C2, rfl, I2⟩ := r2.ints
  obtain ⟨A3, C3, rfl, I3⟩ := rl.ints
  have hi2 : i < t.distances.length := by have := hwf.2.2.1; omega
  have hi0' : 0 < t.patterns.length := by omega
  have hpat := hps t.patterns[i] (List.getElem_mem hi0)
  have HatP := Lib.hid (atP_of hi0)
  have hatD := atD_of (j := i) rfl hi2
  obtain ⟨b1, o1, uP, rfl, -, hcP, huP⟩ := hs.atRow i hi0
  obtain ⟨b2, o2, rfl, -, hcD⟩ := I2.at_ i hi2
  have hdr := hwf.2.2.2.2 _ (List.getElem_mem hi2)
  rw [inR_iff] at hdr
  obtain ⟨d, hd⟩ : ∃ d, d = t.distances[i] := ⟨_, rfl⟩
  rw [← hd] at hatD hcD hdr
  have HatD := Lib.hid hatD
  have HWF := Lib.hid hwf
  have hplen := hs.bound
  have hn3 := hwf.2.1.2
  have hfidx := firstG_idx (fun q hq => patB_byt (hps q hq) (by have := (validPz_facts hv).2.1; omega)) (patB_byt hpat (by have := (validPz_facts hv).2.1; omega))
  have hix : idxL t.patterns t.patterns[i] ≤ i ∧ 0 ≤ idxL t.patterns t.patterns[i] := idxL_le hi0
  rw [if_pos hix.2] at hfidx
  obtain ⟨n0, hn0⟩ : ∃ n, n = idxL t.patterns t.patterns[i] := ⟨_, rfl⟩
  rw [← hn0] at hfidx hix
  have HN0 := Lib.hid hn0
  have Hfidx := Lib.hid hfidx
  have hplk := (patB_iff.1 hpat).1
  have htl := inc_len_le2 ht
  have hpl2 : t.patterns[i].length ≤ 1000 := by have := (validPz_facts hv).2.1; omega
  have Hks := Lib.hid (show (kB t.patterns[i]).size ≤ maxLen by rw [kB_size]; unfold maxLen; omega)
  obtain ⟨k1, hk1⟩ : ∃ k, k = (decide (i = 0) && (decide (atD t i ≠ 0) || decide (atP t 0 ≠ t.tracked))) := ⟨_, rfl⟩
  obtain ⟨k2, hk2⟩ : ∃ k, k = decide (idxL t.patterns (atP t i) < i) := ⟨_, rfl⟩
  obtain ⟨k3, hk3⟩ : ∃ k, k = (decide (0 < i) && decide (atD t i = 0)) := ⟨_, rfl⟩
  have HK1 := Lib.hid hk1
  have HK2 := Lib.hid hk2
  have HK3 := Lib.hid hk3
  have HIi := Lib.hid (show I64 (i : Int) by unfold I64; omega)
  have d0 := hB.cell 0 rfl
  have d1 := hB.cell 1 rfl
  have d2 := hB.cell 2 rfl
  have d3 := hB.cell 3 rfl
  have d5 := hB.cell 5 rfl
  have hgl := hB.lt
  clear hd hatD hwf hn0 hfidx hplk htl hk1 hk2 hk3
  go_enter Try.func43, Try.ntmps43
  go_upto_region 3 with fail
  go_cut [7, 8] (fun s7 s8 wx => uP = s7 ∧ s8 = .int .i64 d ∧ EF w wx i [])
  case first =>
    have hE : EF w ((w.alloc (.cells #[.int .i64 i] 3)).alloc (.cells #[.slice none 0 0] 41)) i [] :=
      ⟨.slice none 0 0, [], Blk.new_at (w := w.alloc (.cells #[.int .i64 i] 3)) (cs := [.slice none 0 0]) (by simp), Blk.keep (Blk.new_at (w := w) (cs := [.int .i64 i]) (t := 3) rfl) ((Only.refl _ _).alloc _), Acc.nil _ _ _, rfl, (by with_reducible repeat (first | exact Only.refl _ _ | assumption | refine Only.drewN ?_ _ | refine Only.drew ?_ | refine Only.alloc ?_ _ | refine Only.setCell ?_ (by intro hh; exfalso; simp at hh; try omega) _ | refine Only.trans ?_ (by assumption))), _, _, _, rfl⟩
    generalize (w.alloc (.cells #[.int .i64 i] 3)).alloc (.cells #[.slice none 0 0] 41) = Wz at *
    have hz := hE.only
    have z1 := hz.cell (by simp) d1
    have z2 := hz.cell (by simp) d2
    have zp := hz.cell (by simp) hcP
    have zd := hz.cell (by simp) hcD
    have zi := hE.iCell
    go_quiet (fail)
    go_wp2_with fail
    go_meet
    exact ⟨rfl, rfl, hE.keep (by with_reducible repeat (first | exact Only.refl _ _ | assumption | refine Only.drewN ?_ _ | refine Only.drew ?_ | refine Only.alloc ?_ _ | refine Only.setCell ?_ (by intro hh; exfalso; simp at hh; try omega) _ | refine Only.trans ?_ (by assumption)))⟩
  case rest =>
  obtain ⟨rfl, rfl, hE⟩ := hcut
  obtain ⟨Wa, hnew⟩ : ∃ W, W = wc := ⟨_, rfl⟩
  subst hnew
  go_upto_region 4 with fail
  go_cut [] (fun wx => EF w wx i (one k1 ⟨1, i, 0⟩))
  case first =>
    have hKW := hE.only
    have zi := hE.iCell
    have z0 := hKW.cell (by simp) d0
    by_cases hi00 : i = 0
    · have hii : ((i : Int) == 0) = true := by simp [hi00]
      have hatP0 : atP t 0 = t.patterns[i] := by rw [← HatP.out, hi00]
      have HatP0 := Lib.hid hatP0
      have Hi := Lib.hid hi00
      clear hi00 hatP0
      by_cases hd0 : d = 0
      · have hd1 : (d != 0) = false := by simp [hd0]
        have hq := eqV_dec t.patterns[i] t.tracked
        have Hd := Lib.hid hd0
        clear hd0
        rcases hx : eqV t.patterns[i] t.tracked
        all_goals rw [hx] at hq
        · have h9 : t.patterns[i] ≠ t.tracked := of_decide_eq_false hq.symm
          obtain rfl : k1 = true := by rw [HK1.out, HatP0.out, decide_eq_true Hi.out]; simp [h9]
          clear hq h9
          go_wp2_with (first | (go_at_call 63; (with_reducible refine (Equal_rd uP _ t.patterns[i] t.tracked _ _ _ (Rp.keep huP (hKW.trans (by with_reducible repeat (first | exact Only.refl _ _ | assumption | refine Only.drewN ?_ _ | refine Only.drew ?_ | refine Only.alloc ?_ _ | refine Only.setCell ?_ (by intro hh; exfalso; simp at hh; try omega) _ | refine Only.trans ?_ (by assumption))))) (Rp.keep r0 (hKW.trans (by with_reducible repeat (first | exact Only.refl _ _ | assumption | refine Only.drewN ?_ _ | refine Only.drew ?_ | refine Only.alloc ?_ _ | refine Only.setCell ?_ (by intro hh; exfalso; simp at hh; try omega) _ | refine Only.trans ?_ (by assumption)))))).mono ?_); rintro e w2 ⟨he, m2, rfl⟩; rw [hx] at he; subst he) | (go_at_call 62; (with_reducible refine (add_any w _ i [] true 1 0 (hE.keep (by with_reducible repeat (first | exact Only.refl _ _ | assumption | refine Only.drewN ?_ _ | refine Only.drew ?_ | refine Only.alloc ?_ _ | refine Only.setCell ?_ (by intro hh; exfalso; simp at hh; try omega) _ | refine Only.trans ?_ (by assumption)))) (show I64 1 by unfold I64; omega) HIi.out (show I64 0 by unfold I64; omega) (by simp; try omega)).mono ?_); rintro e w3 ⟨rfl, hE3⟩))
          go_meet
          exact hE3
        · have h9 : t.patterns[i] = t.tracked := of_decide_eq_true hq.symm
          obtain rfl : k1 = false := by rw [HK1.out, HatP0.out, HatD.out, Hd.out]; simp [h9]
          clear hq h9
          go_wp2_with (first | (go_at_call 63; (with_reducible refine (Equal_rd uP _ t.patterns[i] t.tracked _ _ _ (Rp.keep huP (hKW.trans (by with_reducible repeat (first | exact Only.refl _ _ | assumption | refine Only.drewN ?_ _ | refine Only.drew ?_ | refine Only.alloc ?_ _ | refine Only.setCell ?_ (by intro hh; exfalso; simp at hh; try omega) _ | refine Only.trans ?_ (by assumption))))) (Rp.keep r0 (hKW.trans (by with_reducible repeat (first | exact Only.refl _ _ | assumption | refine Only.drewN ?_ _ | refine Only.drew ?_ | refine Only.alloc ?_ _ | refine Only.setCell ?_ (by intro hh; exfalso; simp at hh; try omega) _ | refine Only.trans ?_ (by assumption)))))).mono ?_); rintro e w2 ⟨he, m2, rfl⟩; rw [hx] at he; subst he) | (go_at_call 62; (with_reducible refine (add_any w _ i [] false 1 0 (hE.keep (by with_reducible repeat (first | exact Only.refl _ _ | assumption | refine Only.drewN ?_ _ | refine Only.drew ?_ | refine Only.alloc ?_ _ | refine Only.setCell ?_ (by intro hh; exfalso; simp at hh; try omega) _ | refine Only.trans ?_ (by assumption)))) (show I64 1 by unfold I64; omega) HIi.out (show I64 0 by unfold I64; omega) (by simp; try omega)).mono ?_); rintro e w3 ⟨rfl, hE3⟩))
          go_meet
          exact hE3
      · have hd1 : (d != 0) = true := by simp [hd0]
        obtain rfl : k1 = true := by rw [HK1.out, HatD.out, decide_eq_true Hi.out]; simp [hd0]
        clear hd0
        go_wp2_with ((go_at_call 62; (with_reducible refine (add_any w _ i [] true 1 0 (hE.keep (by with_reducible repeat (first | exact Only.refl _ _ | assumption | refine Only.drewN ?_ _ | refine Only.drew ?_ | refine Only.alloc ?_ _ | refine Only.setCell ?_ (by intro hh; exfalso; simp at hh; try omega) _ | refine Only.trans ?_ (by assumption)))) (show I64 1 by unfold I64; omega) HIi.out (show I64 0 by unfold I64; omega) (by simp; try omega)).mono ?_); rintro e w3 ⟨rfl, hE3⟩))
        go_meet
        exact hE3
    · have hii : ((i : Int) == 0) = false := by simp [hi00]
      obtain rfl : k1 = false := by rw [HK1.out]; simp [hi00]
      clear hi00
      go_wp2_with ((go_at_call 62; (with_reducible refine (add_any w _ i [] false 1 0 (hE.keep (by with_reducible repeat (first | exact Only.refl _ _ | assumption | refine Only.drewN ?_ _ | refine Only.drew ?_ | refine Only.alloc ?_ _ | refine Only.setCell ?_ (by intro hh; exfalso; simp at hh; try omega) _ | refine Only.trans ?_ (by assumption)))) (show I64 1 by unfold I64; omega) HIi.out (show I64 0 by unfold I64; omega) (by simp; try omega)).mono ?_); rintro e w3 ⟨rfl, hE3⟩))
      go_meet
      exact hE3
  case rest =>
  replace hE := hcut
  clear hcut
  obtain ⟨Wb, hnew⟩ : ∃ W, W = wc := ⟨_, rfl⟩
  subst hnew
  go_upto_region 5 with fail
  go_cut [] (fun wx => EF w wx i (one k1 ⟨1, i, 0⟩ ++ one k2 ⟨2, i, 0⟩))
  case first =>
    have hKW := hE.only
    have zi := hE.iCell
    have z5 := hKW.cell (by simp) d5
    have hk1l := one_len k1 ⟨1, i, 0⟩
    by_cases hlt : n0 < (i : Int)
    · obtain rfl : k2 = true := by rw [HK2.out, HatP.out, ← HN0.out]; simp [hlt]
      go_region_held3 (fun w' => (EF w w' i (one k1 ⟨1, i, 0⟩) ∨ EF w w' i (one k1 ⟨1, i, 0⟩ ++ one true ⟨2, i, 0⟩)) ∧ w'.cell? ⟨g, 5, none⟩ = some (.map (some M)) ∧ w'.cell? ⟨w.heap.size, 0, none⟩ = some (.int .i64 (i : Int))) ((refine and_of ?_ (fun h__ => ⟨(h__.elim EF.only EF.only).cell (by simp) d5, h__.elim EF.iCell EF.iCell⟩); first | exact .inl (hE.keep (Only.refl _ _).drew) | exact .inl hE5 | exact .inr hE6)) (first | (go_at_call 41; (with_reducible refine (stateKey_rd uP t.patterns[i] _ _ (Rp.keep huP (hKW.trans (by with_reducible repeat (first | exact Only.refl _ _ | assumption | refine Only.drewN ?_ _ | refine Only.drew ?_ | refine Only.alloc ?_ _ | refine Only.setCell ?_ (by intro hh; exfalso; simp at hh; try omega) _ | refine Only.trans ?_ (by assumption))))) hpl2).mono ?_); rintro e w5 ⟨rfl, t5⟩; have hE5 := hE.keep (Only.trans ((Only.refl [] Wb).drew) t5); have hrun5 := (hM.keep hE5.only).run_at_yes Hks.out Hfidx.out) | (go_at_call 62; (with_reducible refine (add_any w _ i (one k1 ⟨1, i, 0⟩) true 2 0 (hE5.keep (by with_reducible repeat (first | exact Only.refl _ _ | assumption | refine Only.drewN ?_ _ | refine Only.drew ?_ | refine Only.alloc ?_ _ | refine Only.setCell ?_ (by intro hh; exfalso; simp at hh; try omega) _ | refine Only.trans ?_ (by assumption)))) (show I64 2 by unfold I64; omega) HIi.out (show I64 0 by unfold I64; omega) (by simp; try omega)).mono ?_); rintro e w6 ⟨rfl, hE6⟩) | fail "no arm")
      go_wp2_with fail
      go_meet
      exact hE6
    · obtain rfl : k2 = false := by rw [HK2.out, HatP.out, ← HN0.out]; simp; omega
      have hd9 : decide (n0 < (i : Int)) = false := decide_eq_false hlt
      go_region_held3 (fun w' => (EF w w' i (one k1 ⟨1, i, 0⟩) ∨ EF w w' i (one k1 ⟨1, i, 0⟩ ++ one false ⟨2, i, 0⟩)) ∧ w'.cell? ⟨g, 5, none⟩ = some (.map (some M)) ∧ w'.cell? ⟨w.heap.size, 0, none⟩ = some (.int .i64 (i : Int))) ((refine and_of ?_ (fun h__ => ⟨(h__.elim EF.only EF.only).cell (by simp) d5, h__.elim EF.iCell EF.iCell⟩); first | exact .inl (hE.keep (Only.refl _ _).drew) | exact .inl hE5 | exact .inr hE6)) (first | (go_at_call 41; (with_reducible refine (stateKey_rd uP t.patterns[i] _ _ (Rp.keep huP (hKW.trans (by with_reducible repeat (first | exact Only.refl _ _ | assumption | refine Only.drewN ?_ _ | refine Only.drew ?_ | refine Only.alloc ?_ _ | refine Only.setCell ?_ (by intro hh; exfalso; simp at hh; try omega) _ | refine Only.trans ?_ (by assumption))))) hpl2).mono ?_); rintro e w5 ⟨rfl, t5⟩; have hE5 := hE.keep (Only.trans ((Only.refl [] Wb).drew) t5); have hrun5 := (hM.keep hE5.only).run_at_yes Hks.out Hfidx.out) | (go_at_call 62; (try rw [hd9]); (with_reducible refine (add_any w _ i (one k1 ⟨1, i, 0⟩) false 2 0 (hE5.keep (by with_reducible repeat (first | exact Only.refl _ _ | assumption | refine Only.drewN ?_ _ | refine Only.drew ?_ | refine Only.alloc ?_ _ | refine Only.setCell ?_ (by intro hh; exfalso; simp at hh; try omega) _ | refine Only.trans ?_ (by assumption)))) (show I64 2 by unfold I64; omega) HIi.out (show I64 0 by unfold I64; omega) (by simp; try omega)).mono ?_); rintro e w6 ⟨rfl, hE6⟩) | fail "no arm")
      go_wp2_with fail
      go_meet
      exact hE6
  case rest =>
  replace hE := hcut
  clear hcut
  obtain ⟨Wc, hnew⟩ : ∃ W, W = wc := ⟨_, rfl⟩
  subst hnew
  go_upto_region 6 with fail
  go_cut [] (fun wx => EF w wx i (one k1 ⟨1, i, 0⟩ ++ one k2 ⟨2, i, 0⟩ ++ one k3 ⟨3, i, 0⟩))
  case first =>
    have zi := hE.iCell
    have hk1l := one_len k1 ⟨1, i, 0⟩
    have hk2l := one_len k2 ⟨2, i, 0⟩
    by_cases hi00 : 0 < i
    · by_cases hd0 : d = 0
      · have hd1 : (d == 0) = true := by simp [hd0]
        obtain rfl : k3 = true := by rw [HK3.out, HatD.out]; simp [hi00, hd0]
        clear hd0
        go_wp2_with ((go_at_call 62; (with_reducible refine (add_any w _ i (one k1 ⟨1, i, 0⟩ ++ one k2 ⟨2, i, 0⟩) true 3 0 (hE.keep (by with_reducible repeat (first | exact Only.refl _ _ | assumption | refine Only.drewN ?_ _ | refine Only.drew ?_ | refine Only.alloc ?_ _ | refine Only.setCell ?_ (by intro hh; exfalso; simp at hh; try omega) _ | refine Only.trans ?_ (by assumption)))) (show I64 3 by unfold I64; omega) HIi.out (show I64 0 by unfold I64; omega) (by simp; try omega)).mono ?_); rintro e w7 ⟨rfl, hE7⟩))
        go_meet
        exact hE7
      · have hd1 : (d == 0) = false := by simp [hd0]
        obtain rfl : k3 = false := by rw [HK3.out, HatD.out]; simp [hd0]
        clear hd0
        go_wp2_with ((go_at_call 62; (with_reducible refine (add_any w _ i (one k1 ⟨1, i, 0⟩ ++ one k2 ⟨2, i, 0⟩) false 3 0 (hE.keep (by with_reducible repeat (first | exact Only.refl _ _ | assumption | refine Only.drewN ?_ _ | refine Only.drew ?_ | refine Only.alloc ?_ _ | refine Only.setCell ?_ (by intro hh; exfalso; simp at hh; try omega) _ | refine Only.trans ?_ (by assumption)))) (show I64 3 by unfold I64; omega) HIi.out (show I64 0 by unfold I64; omega) (by simp; try omega)).mono ?_); rintro e w7 ⟨rfl, hE7⟩))
        go_meet
        exact hE7
    · obtain rfl : k3 = false := by rw [HK3.out]; simp [hi00]
      go_wp2_with ((go_at_call 62; (with_reducible refine (add_any w _ i (one k1 ⟨1, i, 0⟩ ++ one k2 ⟨2, i, 0⟩) false 3 0 (hE.keep (by with_reducible repeat (first | exact Only.refl _ _ | assumption | refine Only.drewN ?_ _ | refine Only.drew ?_ | refine Only.alloc ?_ _ | refine Only.setCell ?_ (by intro hh; exfalso; simp at hh; try omega) _ | refine Only.trans ?_ (by assumption)))) (show I64 3 by unfold I64; omega) HIi.out (show I64 0 by unfold I64; omega) (by simp; try omega)).mono ?_); rintro e w7 ⟨rfl, hE7⟩))
      go_meet
      exact hE7
  case rest =>
  replace hE := hcut
  clear hcut
  obtain ⟨Wd, hnew⟩ : ∃ W, W = wc := ⟨_, rfl⟩
  subst hnew
  obtain ⟨L3, hL3⟩ : ∃ L, L = one k1 ⟨1, i, 0⟩ ++ one k2 ⟨2, i, 0⟩ ++ one k3 ⟨3, i, 0⟩ := ⟨_, rfl⟩
  rw [← hL3] at hE
  have hL3l : L3.length ≤ 3 := by
    rw [hL3]; have := one_len k1 ⟨1, i, 0⟩; have := one_len k2 ⟨2, i, 0⟩; have := one_len k3 ⟨3, i, 0⟩; simp only [List.length_append]; omega
  have HL3 := Lib.hid hL3
  have hKWd := hE.only
  have z3 := hKWd.cell (by simp) d3
  have hb3 := I3.bound
  have hll : (ltrs x.moves.length).length ≤ 16 := by rw [ltrs_len]; omega
  clear hL3
  go_wp2
  clear z3
  go_loopw [9, 73] (fun s9 k wr => ∃ (j : Nat) (ds : Bool), j ≤ (ltrs x.moves.length).length ∧ k = .int .i64 j ∧ s9 = .bool ds ∧ ds = ((ltrs x.moves.length).take j).any (leads x t t.patterns[i] (d - 1)) ∧ EF w wr i (L3 ++ ((ltrs x.moves.length).take j).flatMap (letF x t i)))
    (fun _ k _ => (ltrs x.moves.length).length - (intOf k).toNat)
  case atStart => exact ⟨0, false, Nat.zero_le _, rfl, rfl, by simp, by rw [List.take_zero, List.flatMap_nil, List.append_nil]; exact hE⟩
  case round =>
    clear hE
    obtain ⟨j, ds, hj, rfl, rfl, hds, hE⟩ := hrel
    have Hds := Lib.hid hds
    have hKW := hE.only
    have zi := hE.iCell
    have huP' := Rp.keep huP hKW
    have hlen : (L3 ++ ((ltrs x.moves.length).take j).flatMap (letF x t i)).length + 2 ≤ 1073741824 := by
      have h9 := flat_len (letF_len x t i) ((ltrs x.moves.length).take j)
      rw [List.length_append]; rw [List.length_take] at h9; omega
    have Hlen := Lib.hid hlen
    clear hds hlen
    by_cases hlt : j < (ltrs x.moves.length).length
    · obtain ⟨bl, ol, rfl, -, hcl0⟩ := I3.at_ j hlt
      have hcl := hKW.cell (by simp) hcl0
      have hla := List.getElem_mem hlt
      have HIl := Lib.hid (I3.wf _ hla)
      obtain ⟨hm0, hm1⟩ := (show -1 ≤ nextI x t t.patterns[i] (ltrs x.moves.length)[j] ∧ nextI x t t.patterns[i] (ltrs x.moves.length)[j] < t.patterns.length from idxL_lt)
      obtain ⟨n, hn⟩ : ∃ n, n = nextI x t t.patterns[i] (ltrs x.moves.length)[j] := ⟨_, rfl⟩
      rw [← hn] at hm0 hm1
      have hn' : n = nextI x t (atP t i) (ltrs x.moves.length)[j] := by rw [hn, HatP.out]
      have Hfl := Lib.hid (flat_take_succ (letF x t i) (ltrs x.moves.length) j hlt)
      have Hany := Lib.hid (any_take_succ (leads x t t.patterns[i] (d - 1)) (ltrs x.moves.length) j hlt)
      have HN := Lib.hid hn
      have HN' := Lib.hid hn'
      clear hn hn' hcl0
      by_cases hneg : n < 0
      · have hti := toI_no (t := t) hneg
        have htb := toB_no hneg
        have Hle := Lib.hid (leads_no (x := x) (t := t) (p := t.patterns[i]) (d := d - 1) (l := (ltrs x.moves.length)[j]) (by rw [← HN.out]; exact hneg))
        have Hlf := Lib.hid (letF_miss (x := x) (t := t) (i := i) (l := (ltrs x.moves.length)[j]) (by rw [← HN'.out]; exact hneg))
        rcases ds
        · go_wp2_with (first | (go_at_call 64; (with_reducible refine (to_any g x t uP t.patterns[i] _ j _ (hP0.keep hKW) huP' hc hpat hlt).mono ?_); rintro e w7 ⟨he, t7⟩; rw [← HN.out, hti, htb] at he; subst he; have hE7 := hE.keep t7) | (go_at_call 62; (with_reducible refine (add_any w _ i (L3 ++ ((ltrs x.moves.length).take j).flatMap (letF x t i)) true 4 (ltrs x.moves.length)[j] (hE7.keep (by with_reducible repeat (first | exact Only.refl _ _ | assumption | refine Only.drewN ?_ _ | refine Only.drew ?_ | refine Only.alloc ?_ _ | refine Only.setCell ?_ (by intro hh; exfalso; simp at hh; try omega) _ | refine Only.trans ?_ (by assumption)))) (show I64 4 by unfold I64; omega) HIi.out HIl.out (len_ok1 Hlen.out)).mono ?_); rintro e w8 ⟨rfl, hE8⟩) | (go_at_call 62; (with_reducible refine (add_any w _ i ((L3 ++ ((ltrs x.moves.length).take j).flatMap (letF x t i)) ++ one true ⟨4, i, (ltrs x.moves.length)[j]⟩) false 5 (ltrs x.moves.length)[j] (hE8.keep (by with_reducible repeat (first | exact Only.refl _ _ | assumption | refine Only.drewN ?_ _ | refine Only.drew ?_ | refine Only.alloc ?_ _ | refine Only.setCell ?_ (by intro hh; exfalso; simp at hh; try omega) _ | refine Only.trans ?_ (by assumption)))) (show I64 5 by unfold I64; omega) HIi.out HIl.out (len_ok2 Hlen.out)).mono ?_); rintro e w10 ⟨rfl, hE10⟩))
          go_roundw
          case rel => exact ⟨j + 1, false, by omega, by go_num, rfl, by rw [Hany.out, ← Hds.out, Hle.out]; rfl, by
            have h9 := hE10
            rw [one_true, one_false] at h9
            rw [Hfl.out, Hlf.out, ← List.append_assoc]
            simpa using h9⟩
          case measure => simp [intOf]; omega
        · go_wp2_with (first | (go_at_call 64; (with_reducible refine (to_any g x t uP t.patterns[i] _ j _ (hP0.keep hKW) huP' hc hpat hlt).mono ?_); rintro e w7 ⟨he, t7⟩; rw [← HN.out, hti, htb] at he; subst he; have hE7 := hE.keep t7) | (go_at_call 62; (with_reducible refine (add_any w _ i (L3 ++ ((ltrs x.moves.length).take j).flatMap (letF x t i)) true 4 (ltrs x.moves.length)[j] (hE7.keep (by with_reducible repeat (first | exact Only.refl _ _ | assumption | refine Only.drewN ?_ _ | refine Only.drew ?_ | refine Only.alloc ?_ _ | refine Only.setCell ?_ (by intro hh; exfalso; simp at hh; try omega) _ | refine Only.trans ?_ (by assumption)))) (show I64 4 by unfold I64; omega) HIi.out HIl.out (len_ok1 Hlen.out)).mono ?_); rintro e w8 ⟨rfl, hE8⟩) | (go_at_call 62; (with_reducible refine (add_any w _ i ((L3 ++ ((ltrs x.moves.length).take j).flatMap (letF x t i)) ++ one true ⟨4, i, (ltrs x.moves.length)[j]⟩) false 5 (ltrs x.moves.length)[j] (hE8.keep (by with_reducible repeat (first | exact Only.refl _ _ | assumption | refine Only.drewN ?_ _ | refine Only.drew ?_ | refine Only.alloc ?_ _ | refine Only.setCell ?_ (by intro hh; exfalso; simp at hh; try omega) _ | refine Only.trans ?_ (by assumption)))) (show I64 5 by unfold I64; omega) HIi.out HIl.out (len_ok2 Hlen.out)).mono ?_); rintro e w10 ⟨rfl, hE10⟩))
          go_roundw
          case rel => exact ⟨j + 1, true, by omega, by go_num, rfl, by rw [Hany.out, ← Hds.out, Hle.out]; rfl, by
            have h9 := hE10
            rw [one_true, one_false] at h9
            rw [Hfl.out, Hlf.out, ← List.append_assoc]
            simpa using h9⟩
          case measure => simp [intOf]; omega
      · have hti := toI_yes (t := t) (n := n) (by omega)
        have htb := toB_yes (n := n) (by omega)
        have hmd : n.toNat < t.distances.length := by have := HWF.out.2.2.1; omega
        have hat := atD_of (t := t) (j := n) (i := n.toNat) (by omega) hmd
        rw [hat] at hti
        have hdr2 := HWF.out.2.2.2.2 _ (List.getElem_mem hmd)
        rw [inR_iff] at hdr2
        have hle := leads_yes (x := x) (t := t) (p := t.patterns[i]) (d := d - 1) (l := (ltrs x.moves.length)[j]) (by rw [← HN.out]; omega)
        rw [← HN.out, hat] at hle
        have hlf := fun b => (show inR (atD t (nextI x t (atP t i) (ltrs x.moves.length)[j]) - atD t i) (-1) 1 = b → _ from fun h => h)
        clear hlf
        have hsh : inR (atD t (nextI x t (atP t i) (ltrs x.moves.length)[j]) - atD t i) (-1) 1 = inR t.distances[n.toNat] (d - 1) (d + 1) := by
          rw [← HN'.out, hat, HatD.out]; exact inR_shift _ _
        obtain ⟨y, hy⟩ : ∃ y, y = t.distances[n.toNat] := ⟨_, rfl⟩
        rw [← hy] at hti hle hsh hdr2
        have hnn : ¬ nextI x t (atP t i) (ltrs x.moves.length)[j] < 0 := by rw [← HN'.out]; exact hneg
        rcases hin : inR y (d - 1) (d + 1)
        · have hne : y ≠ d - 1 := by intro e; rw [inR_not] at hin; omega
          have hyy : (y == d - 1) = false := by simp [hne]
          have Hle := Lib.hid (show leads x t t.patterns[i] (d - 1) (ltrs x.moves.length)[j] = false by rw [hle]; simp [hne])
          have Hlf := Lib.hid (letF_jump hnn (by rw [hsh]; exact hin))
          clear hle hsh hy hne hat hnn hneg
          rcases ds
          · go_wp2_with (first | (go_at_call 64; (with_reducible refine (to_any g x t uP t.patterns[i] _ j _ (hP0.keep hKW) huP' hc hpat hlt).mono ?_); rintro e w7 ⟨he, t7⟩; rw [← HN.out, hti, htb] at he; subst he; have hE7 := hE.keep t7) | (go_at_call 62; (with_reducible refine (add_any w _ i (L3 ++ ((ltrs x.moves.length).take j).flatMap (letF x t i)) false 4 (ltrs x.moves.length)[j] (hE7.keep (by with_reducible repeat (first | exact Only.refl _ _ | assumption | refine Only.drewN ?_ _ | refine Only.drew ?_ | refine Only.alloc ?_ _ | refine Only.setCell ?_ (by intro hh; exfalso; simp at hh; try omega) _ | refine Only.trans ?_ (by assumption)))) (show I64 4 by unfold I64; omega) HIi.out HIl.out (len_ok1 Hlen.out)).mono ?_); rintro e w8 ⟨rfl, hE8⟩) | (go_at_call 57; (with_reducible refine (within_any y (d - 1) (d + 1) _).mono ?_); rintro e w9 ⟨he, rfl⟩; rw [hin] at he; subst he) | (go_at_call 62; (with_reducible refine (add_any w _ i ((L3 ++ ((ltrs x.moves.length).take j).flatMap (letF x t i)) ++ one false ⟨4, i, (ltrs x.moves.length)[j]⟩) true 5 (ltrs x.moves.length)[j] (hE8.keep (by with_reducible repeat (first | exact Only.refl _ _ | assumption | refine Only.drewN ?_ _ | refine Only.drew ?_ | refine Only.alloc ?_ _ | refine Only.setCell ?_ (by intro hh; exfalso; simp at hh; try omega) _ | refine Only.trans ?_ (by assumption)))) (show I64 5 by unfold I64; omega) HIi.out HIl.out (len_ok2 Hlen.out)).mono ?_); rintro e w10 ⟨rfl, hE10⟩))
            go_roundw
            case rel => exact ⟨j + 1, false, by omega, by go_num, rfl, by rw [Hany.out, ← Hds.out, Hle.out]; rfl, by
              have h9 := hE10
              rw [one_false, one_true] at h9
              rw [Hfl.out, Hlf.out, ← List.append_assoc]
              simpa using h9⟩
            case measure => simp [intOf]; omega
          · go_wp2_with (first | (go_at_call 64; (with_reducible refine (to_any g x t uP t.patterns[i] _ j _ (hP0.keep hKW) huP' hc hpat hlt).mono ?_); rintro e w7 ⟨he, t7⟩; rw [← HN.out, hti, htb] at he; subst he; have hE7 := hE.keep t7) | (go_at_call 62; (with_reducible refine (add_any w _ i (L3 ++ ((ltrs x.moves.length).take j).flatMap (letF x t i)) false 4 (ltrs x.moves.length)[j] (hE7.keep (by with_reducible repeat (first | exact Only.refl _ _ | assumption | refine Only.drewN ?_ _ | refine Only.drew ?_ | refine Only.alloc ?_ _ | refine Only.setCell ?_ (by intro hh; exfalso; simp at hh; try omega) _ | refine Only.trans ?_ (by assumption)))) (show I64 4 by unfold I64; omega) HIi.out HIl.out (len_ok1 Hlen.out)).mono ?_); rintro e w8 ⟨rfl, hE8⟩) | (go_at_call 57; (with_reducible refine (within_any y (d - 1) (d + 1) _).mono ?_); rintro e w9 ⟨he, rfl⟩; rw [hin] at he; subst he) | (go_at_call 62; (with_reducible refine (add_any w _ i ((L3 ++ ((ltrs x.moves.length).take j).flatMap (letF x t i)) ++ one false ⟨4, i, (ltrs x.moves.length)[j]⟩) true 5 (ltrs x.moves.length)[j] (hE8.keep (by with_reducible repeat (first | exact Only.refl _ _ | assumption | refine Only.drewN ?_ _ | refine Only.drew ?_ | refine Only.alloc ?_ _ | refine Only.setCell ?_ (by intro hh; exfalso; simp at hh; try omega) _ | refine Only.trans ?_ (by assumption)))) (show I64 5 by unfold I64; omega) HIi.out HIl.out (len_ok2 Hlen.out)).mono ?_); rintro e w10 ⟨rfl, hE10⟩))
            go_roundw
            case rel => exact ⟨j + 1, true, by omega, by go_num, rfl, by rw [Hany.out, ← Hds.out, Hle.out]; rfl, by
              have h9 := hE10
              rw [one_false, one_true] at h9
              rw [Hfl.out, Hlf.out, ← List.append_assoc]
              simpa using h9⟩
            case measure => simp [intOf]; omega
        · have Hlf := Lib.hid (letF_ok hnn (by rw [hsh]; exact hin))
          by_cases heq : y = d - 1
          · have hyy : (y == d - 1) = true := by simp [heq]
            have Hle := Lib.hid (show leads x t t.patterns[i] (d - 1) (ltrs x.moves.length)[j] = true by rw [hle]; simp [heq])
            clear hle hsh hy hat hnn hneg heq
            rcases ds
            · go_wp2_with (first | (go_at_call 64; (with_reducible refine (to_any g x t uP t.patterns[i] _ j _ (hP0.keep hKW) huP' hc hpat hlt).mono ?_); rintro e w7 ⟨he, t7⟩; rw [← HN.out, hti, htb] at he; subst he; have hE7 := hE.keep t7) | (go_at_call 62; (with_reducible refine (add_any w _ i (L3 ++ ((ltrs x.moves.length).take j).flatMap (letF x t i)) false 4 (ltrs x.moves.length)[j] (hE7.keep (by with_reducible repeat (first | exact Only.refl _ _ | assumption | refine Only.drewN ?_ _ | refine Only.drew ?_ | refine Only.alloc ?_ _ | refine Only.setCell ?_ (by intro hh; exfalso; simp at hh; try omega) _ | refine Only.trans ?_ (by assumption)))) (show I64 4 by unfold I64; omega) HIi.out HIl.out (len_ok1 Hlen.out)).mono ?_); rintro e w8 ⟨rfl, hE8⟩) | (go_at_call 57; (with_reducible refine (within_any y (d - 1) (d + 1) _).mono ?_); rintro e w9 ⟨he, rfl⟩; rw [hin] at he; subst he) | (go_at_call 62; (with_reducible refine (add_any w _ i ((L3 ++ ((ltrs x.moves.length).take j).flatMap (letF x t i)) ++ one false ⟨4, i, (ltrs x.moves.length)[j]⟩) false 5 (ltrs x.moves.length)[j] (hE8.keep (by with_reducible repeat (first | exact Only.refl _ _ | assumption | refine Only.drewN ?_ _ | refine Only.drew ?_ | refine Only.alloc ?_ _ | refine Only.setCell ?_ (by intro hh; exfalso; simp at hh; try omega) _ | refine Only.trans ?_ (by assumption)))) (show I64 5 by unfold I64; omega) HIi.out HIl.out (len_ok2 Hlen.out)).mono ?_); rintro e w10 ⟨rfl, hE10⟩))
              go_roundw
              case rel => exact ⟨j + 1, true, by omega, by go_num, rfl, by rw [Hany.out, ← Hds.out, Hle.out]; rfl, by
                have h9 := hE10
                rw [one_false, one_false] at h9
                rw [Hfl.out, Hlf.out, ← List.append_assoc]
                simpa using h9⟩
              case measure => simp [intOf]; omega
            · go_wp2_with (first | (go_at_call 64; (with_reducible refine (to_any g x t uP t.patterns[i] _ j _ (hP0.keep hKW) huP' hc hpat hlt).mono ?_); rintro e w7 ⟨he, t7⟩; rw [← HN.out, hti, htb] at he; subst he; have hE7 := hE.keep t7) | (go_at_call 62; (with_reducible refine (add_any w _ i (L3 ++ ((ltrs x.moves.length).take j).flatMap (letF x t i)) false 4 (ltrs x.moves.length)[j] (hE7.keep (by with_reducible repeat (first | exact Only.refl _ _ | assumption | refine Only.drewN ?_ _ | refine Only.drew ?_ | refine Only.alloc ?_ _ | refine Only.setCell ?_ (by intro hh; exfalso; simp at hh; try omega) _ | refine Only.trans ?_ (by assumption)))) (show I64 4 by unfold I64; omega) HIi.out HIl.out (len_ok1 Hlen.out)).mono ?_); rintro e w8 ⟨rfl, hE8⟩) | (go_at_call 57; (with_reducible refine (within_any y (d - 1) (d + 1) _).mono ?_); rintro e w9 ⟨he, rfl⟩; rw [hin] at he; subst he) | (go_at_call 62; (with_reducible refine (add_any w _ i ((L3 ++ ((ltrs x.moves.length).take j).flatMap (letF x t i)) ++ one false ⟨4, i, (ltrs x.moves.length)[j]⟩) false 5 (ltrs x.moves.length)[j] (hE8.keep (by with_reducible repeat (first | exact Only.refl _ _ | assumption | refine Only.drewN ?_ _ | refine Only.drew ?_ | refine Only.alloc ?_ _ | refine Only.setCell ?_ (by intro hh; exfalso; simp at hh; try omega) _ | refine Only.trans ?_ (by assumption)))) (show I64 5 by unfold I64; omega) HIi.out HIl.out (len_ok2 Hlen.out)).mono ?_); rintro e w10 ⟨rfl, hE10⟩))
              go_roundw
              case rel => exact ⟨j + 1, true, by omega, by go_num, rfl, by rw [Hany.out, ← Hds.out, Hle.out]; rfl, by
                have h9 := hE10
                rw [one_false, one_false] at h9
                rw [Hfl.out, Hlf.out, ← List.append_assoc]
                simpa using h9⟩
              case measure => simp [intOf]; omega
          · have hyy : (y == d - 1) = false := by simp [heq]
            have Hle := Lib.hid (show leads x t t.patterns[i] (d - 1) (ltrs x.moves.length)[j] = false by rw [hle]; simp [heq])
            clear hle hsh hy hat hnn hneg heq
            rcases ds
            · go_wp2_with (first | (go_at_call 64; (with_reducible refine (to_any g x t uP t.patterns[i] _ j _ (hP0.keep hKW) huP' hc hpat hlt).mono ?_); rintro e w7 ⟨he, t7⟩; rw [← HN.out, hti, htb] at he; subst he; have hE7 := hE.keep t7) | (go_at_call 62; (with_reducible refine (add_any w _ i (L3 ++ ((ltrs x.moves.length).take j).flatMap (letF x t i)) false 4 (ltrs x.moves.length)[j] (hE7.keep (by with_reducible repeat (first | exact Only.refl _ _ | assumption | refine Only.drewN ?_ _ | refine Only.drew ?_ | refine Only.alloc ?_ _ | refine Only.setCell ?_ (by intro hh; exfalso; simp at hh; try omega) _ | refine Only.trans ?_ (by assumption)))) (show I64 4 by unfold I64; omega) HIi.out HIl.out (len_ok1 Hlen.out)).mono ?_); rintro e w8 ⟨rfl, hE8⟩) | (go_at_call 57; (with_reducible refine (within_any y (d - 1) (d + 1) _).mono ?_); rintro e w9 ⟨he, rfl⟩; rw [hin] at he; subst he) | (go_at_call 62; (with_reducible refine (add_any w _ i ((L3 ++ ((ltrs x.moves.length).take j).flatMap (letF x t i)) ++ one false ⟨4, i, (ltrs x.moves.length)[j]⟩) false 5 (ltrs x.moves.length)[j] (hE8.keep (by with_reducible repeat (first | exact Only.refl _ _ | assumption | refine Only.drewN ?_ _ | refine Only.drew ?_ | refine Only.alloc ?_ _ | refine Only.setCell ?_ (by intro hh; exfalso; simp at hh; try omega) _ | refine Only.trans ?_ (by assumption)))) (show I64 5 by unfold I64; omega) HIi.out HIl.out (len_ok2 Hlen.out)).mono ?_); rintro e w10 ⟨rfl, hE10⟩))
              go_roundw
              case rel => exact ⟨j + 1, false, by omega, by go_num, rfl, by rw [Hany.out, ← Hds.out, Hle.out]; rfl, by
                have h9 := hE10
                rw [one_false, one_false] at h9
                rw [Hfl.out, Hlf.out, ← List.append_assoc]
                simpa using h9⟩
              case measure => simp [intOf]; omega
            · go_wp2_with (first | (go_at_call 64; (with_reducible refine (to_any g x t uP t.patterns[i] _ j _ (hP0.keep hKW) huP' hc hpat hlt).mono ?_); rintro e w7 ⟨he, t7⟩; rw [← HN.out, hti, htb] at he; subst he; have hE7 := hE.keep t7) | (go_at_call 62; (with_reducible refine (add_any w _ i (L3 ++ ((ltrs x.moves.length).take j).flatMap (letF x t i)) false 4 (ltrs x.moves.length)[j] (hE7.keep (by with_reducible repeat (first | exact Only.refl _ _ | assumption | refine Only.drewN ?_ _ | refine Only.drew ?_ | refine Only.alloc ?_ _ | refine Only.setCell ?_ (by intro hh; exfalso; simp at hh; try omega) _ | refine Only.trans ?_ (by assumption)))) (show I64 4 by unfold I64; omega) HIi.out HIl.out (len_ok1 Hlen.out)).mono ?_); rintro e w8 ⟨rfl, hE8⟩) | (go_at_call 57; (with_reducible refine (within_any y (d - 1) (d + 1) _).mono ?_); rintro e w9 ⟨he, rfl⟩; rw [hin] at he; subst he) | (go_at_call 62; (with_reducible refine (add_any w _ i ((L3 ++ ((ltrs x.moves.length).take j).flatMap (letF x t i)) ++ one false ⟨4, i, (ltrs x.moves.length)[j]⟩) false 5 (ltrs x.moves.length)[j] (hE8.keep (by with_reducible repeat (first | exact Only.refl _ _ | assumption | refine Only.drewN ?_ _ | refine Only.drew ?_ | refine Only.alloc ?_ _ | refine Only.setCell ?_ (by intro hh; exfalso; simp at hh; try omega) _ | refine Only.trans ?_ (by assumption)))) (show I64 5 by unfold I64; omega) HIi.out HIl.out (len_ok2 Hlen.out)).mono ?_); rintro e w10 ⟨rfl, hE10⟩))
              go_roundw
              case rel => exact ⟨j + 1, true, by omega, by go_num, rfl, by rw [Hany.out, ← Hds.out, Hle.out]; rfl, by
                have h9 := hE10
                rw [one_false, one_false] at h9
                rw [Hfl.out, Hlf.out, ← List.append_assoc]
                simpa using h9⟩
              case measure => simp [intOf]; omega
    · have hjl : j = (ltrs x.moves.length).length := by omega
      rw [hjl, List.take_length] at hE Hlen
      have hdz := descL_zero (x := x) (t := t) (p := t.patterns[i]) (d := d - 1)
      have hds2 := Hds.out
      rw [hjl, List.take_length] at hds2
      rw [← hds2] at hdz
      have hend : ∀ q : Bool, q = (decide (0 < atD t i) && decide (descL x t (atP t i) (atD t i - 1) = 0)) → entF x t i = (L3 ++ (ltrs x.moves.length).flatMap (letF x t i)) ++ one q ⟨6, i, 0⟩ := by
        intro q hq
        unfold entF
        rw [HL3.out, HK1.out, HK2.out, HK3.out, hq]
        simp only [List.append_assoc]
      rw [HatD.out, HatP.out, hdz] at hend
      have Hend := Lib.hid hend
      clear hend hjl hdz hds2
      by_cases hdp : 0 < d
      · rcases ds
        · go_wp2_with ((go_at_call 62; (with_reducible refine (add_any w _ i (L3 ++ (ltrs x.moves.length).flatMap (letF x t i)) true 6 0 (hE.keep (by with_reducible repeat (first | exact Only.refl _ _ | assumption | refine Only.drewN ?_ _ | refine Only.drew ?_ | refine Only.alloc ?_ _ | refine Only.setCell ?_ (by intro hh; exfalso; simp at hh; try omega) _ | refine Only.trans ?_ (by assumption)))) (show I64 6 by unfold I64; omega) HIi.out (show I64 0 by unfold I64; omega) (len_ok1 Hlen.out)).mono ?_); rintro e w9 ⟨rfl, hE9⟩; obtain ⟨o9, fs9, B9, -, A9, hf9, K9, a9, n9, c9, rfl⟩ := hE9; have z9 := B9.cell 0 rfl))
          go_ret
          refine ⟨_, _, rfl, ?_, (A9.fresh (by rw [hf9]; exact Fresh.nil _ _)).mono (Nat.le_add_right _ _), K9⟩
          rw [Hend.out true (by first | (simp; done) | (simp [hdp]; done))]
          exact A9.rd (by decide)
        · go_wp2_with ((go_at_call 62; (with_reducible refine (add_any w _ i (L3 ++ (ltrs x.moves.length).flatMap (letF x t i)) false 6 0 (hE.keep (by with_reducible repeat (first | exact Only.refl _ _ | assumption | refine Only.drewN ?_ _ | refine Only.drew ?_ | refine Only.alloc ?_ _ | refine Only.setCell ?_ (by intro hh; exfalso; simp at hh; try omega) _ | refine Only.trans ?_ (by assumption)))) (show I64 6 by unfold I64; omega) HIi.out (show I64 0 by unfold I64; omega) (len_ok1 Hlen.out)).mono ?_); rintro e w9 ⟨rfl, hE9⟩; obtain ⟨o9, fs9, B9, -, A9, hf9, K9, a9, n9, c9, rfl⟩ := hE9; have z9 := B9.cell 0 rfl))
          go_ret
          refine ⟨_, _, rfl, ?_, (A9.fresh (by rw [hf9]; exact Fresh.nil _ _)).mono (Nat.le_add_right _ _), K9⟩
          rw [Hend.out false (by first | (simp; done) | (simp [hdp]; done))]
          exact A9.rd (by decide)
      · rcases ds
        · go_wp2_with ((go_at_call 62; (with_reducible refine (add_any w _ i (L3 ++ (ltrs x.moves.length).flatMap (letF x t i)) false 6 0 (hE.keep (by with_reducible repeat (first | exact Only.refl _ _ | assumption | refine Only.drewN ?_ _ | refine Only.drew ?_ | refine Only.alloc ?_ _ | refine Only.setCell ?_ (by intro hh; exfalso; simp at hh; try omega) _ | refine Only.trans ?_ (by assumption)))) (show I64 6 by unfold I64; omega) HIi.out (show I64 0 by unfold I64; omega) (len_ok1 Hlen.out)).mono ?_); rintro e w9 ⟨rfl, hE9⟩; obtain ⟨o9, fs9, B9, -, A9, hf9, K9, a9, n9, c9, rfl⟩ := hE9; have z9 := B9.cell 0 rfl))
          go_ret
          refine ⟨_, _, rfl, ?_, (A9.fresh (by rw [hf9]; exact Fresh.nil _ _)).mono (Nat.le_add_right _ _), K9⟩
          rw [Hend.out false (by first | (simp; done) | (simp [hdp]; done))]
          exact A9.rd (by decide)
        · go_wp2_with ((go_at_call 62; (with_reducible refine (add_any w _ i (L3 ++ (ltrs x.moves.length).flatMap (letF x t i)) false 6 0 (hE.keep (by with_reducible repeat (first | exact Only.refl _ _ | assumption | refine Only.drewN ?_ _ | refine Only.drew ?_ | refine Only.alloc ?_ _ | refine Only.setCell ?_ (by intro hh; exfalso; simp at hh; try omega) _ | refine Only.trans ?_ (by assumption)))) (show I64 6 by unfold I64; omega) HIi.out (show I64 0 by unfold I64; omega) (len_ok1 Hlen.out)).mono ?_); rintro e w9 ⟨rfl, hE9⟩; obtain ⟨o9, fs9, B9, -, A9, hf9, K9, a9, n9, c9, rfl⟩ := hE9; have z9 := B9.cell 0 rfl))
          go_ret
          refine ⟨_, _, rfl, ?_, (A9.fresh (by rw [hf9]; exact Fresh.nil _ _)).mono (Nat.le_add_right _ _), K9⟩
          rw [Hend.out false (by first | (simp; done) | (simp [hdp]; done))]
          exact A9.rd (by decide)
end Go.Proofs.Ytpkplmnpepkdaaa

namespace Go.Proofs.Ytpkplmnpepkdaaa
open Go.RowKit
set_option maxRecDepth 10000

/-- an entry is written over -/
theorem AccI.put {B : Nat} {e : TypeId} {w : World} {v : Value} {l : List Int} (h : AccI B e w v l) {i : Nat} (hi : i < l.length) {x : Int} (hx : I64 x) :
    ∃ g c, v = .slice (some ⟨g, 0, none⟩) l.length c ∧ w.cell? ⟨g, i, none⟩ = some (.int .i64 l[i]) ∧ w.frozen? ⟨g, i, none⟩ = false ∧ B ≤ g ∧ AccI B e (w.setCell ⟨g, i, none⟩ (.int .i64 x)) v (l.set i x) := by
  obtain ⟨hO, hw⟩ := h.row
  obtain ⟨g, cap, rfl, hb, hlt⟩ := hO.form (by omega)
  obtain ⟨hO2, -⟩ := hO.stored i (.int .i64 x)
  refine ⟨g, cap, rfl, ?_, hO.frozenAt i, hb, AccI.ofRow ?_ ?_⟩
  · rw [hO.cellAt i (by omega)]; simp [hi]
  · rw [List.length_set, List.map_set]; exact hO2
  · intro y hy
    rcases List.mem_or_eq_of_mem_set hy with h1 | rfl
    · exact hw y h1
    · exact hx

set_option maxHeartbeats 2000000 in
theorem numberUpTo_any (g : Nat) (fc : List Nat) (l : List UInt8) (n : Int) (w : World) (h : Src w g fc l) (hl : l.length ≤ 4096) (hn : I64 n) :
    Calls Try.prog 51 #[.pointer (some ⟨g, 0, none⟩), .int .i64 n] w fun e w' => ∃ r : Int, e = .returned (.int .i64 r) ∧ I64 r ∧ Src w' g fc l ∧ Only [g] w w' := by
  have hlt := h.lt
  obtain ⟨y, hy⟩ : ∃ y, y = IntKind.i64.wrap (n + 1) := ⟨_, rfl⟩
  have hyI : I64 y := by rw [hy, IntKind.wrap_i64]; unfold I64; omega
  have hyw : IntKind.i64.wrap (n + 1) = y := hy.symm
  obtain ⟨z, hz⟩ : ∃ z, z = IntKind.i64.wrap (min n 4 + 1) := ⟨_, rfl⟩
  have hzI : I64 z := by rw [hz, IntKind.wrap_i64]; unfold I64; omega
  have hzw : IntKind.i64.wrap (min n 4 + 1) = z := hz.symm
  have HyI := Lib.hid hyI
  have HzI := Lib.hid hzI
  have Hn := Lib.hid hn
  clear hy hyI hn hz hzI
  go_enter Try.func51, Try.ntmps51
  go_wp2_with (first
    | (go_at_call 22; (with_reducible refine (oneIn_any g fc l 10 w h hl (by omega)).mono ?_); rintro e w1 ⟨b1, rfl, D1, K1⟩)
    | (go_at_call 22; (with_reducible refine (oneIn_any g fc l 2 w1 D1 hl (by omega)).mono ?_); rintro e w2 ⟨b2, rfl, D2, K2⟩)
    | (go_at_call 69; (with_reducible refine (extremeInt_any g fc l w1 D1 hl).mono ?_); rintro e w2 ⟨x, rfl, hx, D2, K2⟩; have HxI := Lib.hid hx; have hB := Blk.new w2 ([-1, n, y, x].map (Value.int .i64)) 2; have ho : Only [] w2 (w2.alloc (.cells (([-1, n, y, x].map (Value.int .i64))).toArray 2)) := (Only.refl _ _).alloc _; have hgs := D2.lt; clear hx)
    | (go_at_call 23; (with_reducible refine (srcBelow_any g fc l 4 _ (D2.keep (by with_reducible repeat (first | exact Only.refl _ _ | assumption | refine Only.drewN ?_ _ | refine Only.drew ?_ | refine Only.alloc ?_ _ | refine Only.setCell ?_ (by intro hh; exfalso; simp at hh; try omega) _ | refine Only.trans ?_ (by assumption)))) hl (by omega)).mono ?_); rintro e w3 ⟨r, rfl, r0, r1, D3, K3⟩; obtain ⟨k, rfl⟩ := Int.eq_ofNat_of_zero_le r0; have hk : k < 4 := (by omega); have hB1 := hB.only K3 (by simp; omega); have c1 := hB1.cell k (v := .int .i64 (([-1, n, y, x] : List Int)[k]'hk)) (by rw [List.getElem?_map, List.getElem?_eq_getElem (show k < ([-1, n, y, x] : List Int).length from hk)]; rfl); have hk0 : (0 : Int) ≤ (k : Int) := (by omega); have hk1 : (k : Int) < 4 := (by omega))
    | (go_at_call 23; (with_reducible refine (srcBelow_any g fc l y w2 D2 hl (by have := HyI.out; unfold I64 at this; omega)).mono ?_); rintro e w3 ⟨r, rfl, r0, r1, D3, K3⟩)
    | (go_at_call 23; (with_reducible refine (srcBelow_any g fc l z w2 D2 hl (by have := HzI.out; unfold I64 at this; omega)).mono ?_); rintro e w3 ⟨r, rfl, r0, r1, D3, K3⟩)
    | fail "no arm")
  · go_ret
    refine ⟨_, rfl, ?_, D3, ((K1.trans K2).trans (ho.weaken [g])).trans K3⟩
    rcases (show k = 0 ∨ k = 1 ∨ k = 2 ∨ k = 3 by omega) with rfl | rfl | rfl | rfl
    · show I64 (-1); unfold I64; omega
    · exact Hn.out
    · exact HyI.out
    · exact HxI.out
  · go_ret
    exact ⟨r, rfl, by have := HzI.out; unfold I64 at *; omega, D3, (K1.trans K2).trans K3⟩
  · go_ret
    exact ⟨r, rfl, by have := HyI.out; unfold I64 at *; omega, D3, (K1.trans K2).trans K3⟩

set_option maxHeartbeats 4000000 in
theorem drawAny_any (g : Nat) (fc : List Nat) (l : List UInt8) (n : Nat) (w : World) (h : Src w g fc l) (hl : l.length ≤ 4096) (hn : 1 ≤ n ∧ n ≤ 1000) :
    Calls Try.prog 52 #[.pointer (some ⟨g, 0, none⟩), .int .i64 n] w fun e w' => ∃ v, ∃ p : List Int, ∃ fp, e = .returned v ∧ Rd w' v p fp ∧ Fresh w.heap.size w' fp ∧ p.length ≤ n + 21 ∧ Src w' g fc l ∧ Only [g] w w' := by
  obtain ⟨i0, hi, hz0, hz1, hz2⟩ := info_parts Try.info2
  have hg := h.lt
  have hfc : ∀ b ∈ fc, b < w.heap.size := by obtain ⟨_, _, _, _, _, _, _, h4, _⟩ := h; exact fun b hb => Rp.lt h4 b hb
  have hnI : (0 : Int) < (n : Int) := by omega
  go_enter Try.func52, Try.ntmps52
  go_upto_region 2 with ((go_at_call 50; (with_reducible refine (drawPerm_any g fc l n w h (by omega) hl).mono ?_); rintro e w1 ⟨v1, p1, rfl, hA1, hp1, D1, K1⟩))
  go_cut [14] (fun s14 wx => ∃ b : Bool, s14 = .bool b ∧ Src wx g fc l ∧ Only [g] w1 wx)
  case first =>
    go_wp2_with ((go_at_call 22; (with_reducible refine (oneIn_any g fc l 12 w1 D1 hl (by omega)).mono ?_); rintro e w2 ⟨b, rfl, D2, K2⟩))
    all_goals go_meet
    all_goals exact ⟨_, rfl, D2, K2⟩
  case rest =>
    obtain ⟨W2, hnew⟩ : ∃ W, W = wc := ⟨_, rfl⟩
    subst hnew
    obtain ⟨b, rfl, D2, K2⟩ := hcut
    have hmv : ∀ {q : Nat}, v1.ownBlock = some q → q ∉ [g] := fun hq hm => by have := hA1.ownlt _ hq; simp at hm; omega
    have hA2 := hA1.only K2 (fun q hq => hmv hq)
    have K12 := K1.trans K2
    refine (show ∀ a w, Code.wp Try.prog _ _ a w → _ from by assumption) _ _ ?_
    go_cut [5] (fun s5 wx => ∃ p : List Int, ∃ fp, Rd wx s5 p fp ∧ Fresh w.heap.size wx fp ∧ p.length ≤ n + 1 ∧ Src wx g fc l ∧ Only [g] w wx)
    case first =>
      have hln := hp1.1
      have Hln := Lib.hid hln
      have hs12 := K12.size
      clear hp1 hln
      cases b
      · go_wp2
        go_meet
        exact ⟨p1, _, hA2.rd, hA2.fresh, by rw [Hln.out]; omega, D2, K12⟩
      · go_upto_region 4 with ((go_at_call 23; (with_reducible refine (srcBelow_any g fc l 3 W2 D2 hl (by omega)).mono ?_); rintro e w3 ⟨r, rfl, r0, r1, D3, K3⟩))
        have K13 := K12.trans K3
        have hA3 := hA2.only K3 (fun q hq => hmv hq)
        by_cases e0 : r = 0
        · subst e0
          go_wp2_with (first
            | (go_at_call 23; (with_reducible refine (srcBelow_any g fc l n w3 D3 hl (by omega)).mono ?_); rintro e w4 ⟨x4, rfl, x40, x41, D4, K4⟩)
            | (go_at_call 51; (with_reducible refine (numberUpTo_any g fc l n w4 D4 hl (by unfold I64; omega)).mono ?_); rintro e w5 ⟨y, rfl, hy, D5, K5⟩; obtain ⟨xa, rfl⟩ := Int.eq_ofNat_of_zero_le x40; have hxa : xa < n := (by omega); have hxaI : (xa : Int) < (n : Int) := (by omega); have hxa0 : (0 : Int) ≤ (xa : Int) := (by omega); have hA5 := hA3.only (K4.trans K5) (fun q hq => hmv hq); obtain ⟨g3, c3, e3, hc3, hf3, hb3, hA7⟩ := hA5.put (i := xa) (by rw [Hln.out]; exact hxa) hy; obtain ⟨y3, hy3⟩ : ∃ z, w5.cell? ⟨g3, xa, none⟩ = some (.int .i64 z) := ⟨_, hc3⟩; have HA7 := Lib.hid hA7; rw [Hln.out] at e3; clear hc3 hA7 hA5 hA3 hA2 hA1 hmv; subst e3)
            | fail "no arm")
          go_meet
          have k68 : Only [g3] w5 (w5.setCell ⟨g3, xa, none⟩ (.int .i64 y)) := (Only.refl [g3] w5).setCell (by simp) _
          exact ⟨_, _, HA7.out.rd, HA7.out.fresh, by rw [List.length_set, Hln.out]; omega, D5.only k68 (by simp; omega) (fun b hb hm => by have := hfc b hb; simp at hm; omega), (K13.trans (K4.trans K5)).then_ k68 (fun b hb hl => by simp at hb; omega)⟩
        · by_cases e1 : r = 1
          · subst e1
            obtain ⟨hO, hw⟩ := hA3.row
            obtain ⟨g3, c3, e3, hb3, hlt3⟩ := hO.form (by rw [Hln.out]; omega)
            have hR := hA3.rd
            have hFr := hA3.fresh
            rw [e3] at hR hFr
            obtain ⟨a3, c3', e4, I3⟩ := hR.ints
            rw [Hln.out] at e3 e4
            injection e4 with e5 _ e6
            subst e5
            subst e6
            have hcap := I3.len
            rw [Hln.out] at hcap
            have HI := Lib.hid I3
            have hcI : (n : Int) ≤ (c3 : Int) := by omega
            have hn1 : (1 : Int) ≤ (n : Int) := by omega
            have hFO := Lib.hid hFr
            clear hA3 hA2 hA1 hmv hR hO I3 hFr
            subst e3
            by_cases hc1 : c3 = 1
            · subst hc1
              have hn11 : n = 1 := by omega
              subst hn11
              go_wp2
              go_meet
              exact ⟨[], [], (IntsA.nil _ _ (by simp [maxLen])).rd, Fresh.nil _ _, by simp, D3, K13⟩
            · go_wp2
              go_meet
              exact ⟨p1.drop 1, _, by have := (HI.out.drop (k := 1) (by rw [Hln.out]; omega)).rd; rw [List.length_drop, Hln.out] at this; exact this, hFO.out, by rw [List.length_drop, Hln.out]; omega, D3, K13⟩
          · have e2 : r = 2 := by omega
            subst e2
            have hnI64 : I64 (n : Int) := by unfold I64; omega
            have HnI := Lib.hid hnI64
            have hdl : p1.length + 1 ≤ 1073741824 := by rw [Hln.out]; omega
            have hbw : w.heap.size ≤ w3.heap.size := K13.size
            have HA3 := Lib.hid hA3
            clear hnI64
            go_wp2_with (first
              | (at_builtin; refine wpList_pushI rfl _ _ 27 rfl w.heap.size 2 i0 _ Try.underlying27 hi hz0 hz1 hz2 rfl w3 v1 p1 rfl HA3.out ((Only.refl _ _).alloc _) hbw w3.heap.size 1 (n : Int) rfl (lit1 w3 _ _ rfl) HnI.out hdl ?_; intro v9 w9 hA9 hO9 hP9 hN9)
              | fail "no arm")
            go_meet
            exact ⟨_, _, hA9.rd, hA9.fresh, by rw [List.length_append, Hln.out]; simp, (D3.keep ((Only.refl [] w3).alloc _)).only hO9 (fun hm => by have := (hA3.ownlt g (by simpa using hm)).1; omega) (fun b hb hm => by have := hfc b hb; have := (hA3.ownlt b (by simpa using hm)).1; omega), (K13.alloc _).then_ hO9 (fun b hb hl => by have := (hA3.ownlt b (by simpa using hb)).1; omega)⟩
    case rest =>
      obtain ⟨W5, hnew⟩ : ∃ W, W = wc := ⟨_, rfl⟩
      subst hnew
      obtain ⟨p, fp, r5, F5, hp5, D5, K5⟩ := hcut
      go_wp2_with (first
        | (go_at_call 22; (with_reducible refine (oneIn_any g fc l 60 _ D5 hl (by omega)).mono ?_); rintro e w6 ⟨b6, rfl, D6, K6⟩)
        | (go_at_call 23; (with_reducible refine (srcBelow_any g fc l 2 w6 D6 hl (by omega)).mono ?_); rintro e w7 ⟨r, rfl, r0, r1, D7, K7⟩; obtain ⟨k, rfl⟩ := Int.eq_ofNat_of_zero_le r0; have hk : k ≤ 1 := (by omega); obtain ⟨m, hm⟩ : ∃ m : Nat, m = 20 + k := ⟨_, rfl⟩; have hwk : IntKind.i64.wrap (20 + (k : Int)) = (m : Int) := (by rw [IntKind.wrap_i64]; omega); have hm1 : m ≤ 21 := (by omega); clear hm)
        | (go_at_call 50; (with_reducible refine (drawPerm_any g fc l m w7 D7 (by omega) hl).mono ?_); rintro e w8 ⟨v8, p8, rfl, hA8, hp8, D8, K8⟩)
        | fail "no arm")
      · go_ret
        exact ⟨_, p8, _, rfl, hA8.rd, hA8.fresh.mono (Nat.le_trans K5.size (K6.trans K7).size), by rw [hp8.1]; omega, D8, K5.trans ((K6.trans K7).trans K8)⟩
      · go_ret
        exact ⟨_, p, fp, rfl, Rp.only r5 K6 (fun q hq hm => by have := F5.ge q hq; simp at hm; omega), F5.only K6 (fun q hq hm => by have := F5.ge q hq; simp at hm; omega), by omega, D6, K5.trans K6⟩
end Go.Proofs.Ytpkplmnpepkdaaa

namespace Go.Proofs.Ytpkplmnpepkdaaa
open Go.RowKit
set_option maxRecDepth 10000

theorem Acc.low3 {α : Type} [Rp α] {B B' : Nat} {e : TypeId} {w : World} {v : Value} {l : List α} {fs : List (List Nat)} (h : Acc B e w v l fs) (hB : B' ≤ B) : Acc B' e w v l fs := by
  obtain ⟨⟨css, ho, hcl, hr⟩, hf, ha⟩ := h
  refine ⟨⟨css, ⟨ho.1, ?_⟩, hcl, hr⟩, hf, ha⟩
  rcases ho.2 with h1 | ⟨g, cap, cur, h1, h2, h3⟩
  · exact .inl h1
  · exact .inr ⟨g, cap, cur, h1, Nat.le_trans hB h2, h3⟩
theorem push_facts {w W w4 w5 w7 : World} {g : Nat} {fc : List Nat} {l : List UInt8} {e : TypeId} {v : Value} {gs : List (List Int)} {fs : List (List Nat)} {f : List Nat} (hA : Acc w.heap.size e W v gs fs) (hF : Fresh w.heap.size W fs.flatten) (hK : Only [g] w W) (K4 : Only [g] W w4) (hf : Fresh W.heap.size w4 f) (D4 : Src w4 g fc l) (hg : g < w.heap.size) (hfc : ∀ b ∈ fc, b < w.heap.size) (o5 : Only [] w4 w5) (hO7 : Only v.ownBlock.toList w5 w7) :
    Fresh w.heap.size w7 (fs ++ [f]).flatten ∧ Src w7 g fc l ∧ Only [g] w w7 := by
  have F1 : Fresh w.heap.size w7 fs.flatten := ((hF.only K4 (fun q hq hm => by have := hF.ge q hq; simp at hm; omega)).keep o5).only hO7 (fun q hq hm => hA.apart q (by simpa using hm) hq)
  have F2 := (hf.keep o5).only hO7 (fun q hq hm => by have h1 := hf.ge q hq; have h2 := (hA.ownlt q (by simpa using hm)).2; omega)
  have D7 := (D4.keep o5).only hO7 (fun hm => by have := (hA.ownlt g (by simpa using hm)).1; omega) (fun b hb hm => by have := hfc b hb; have := (hA.ownlt b (by simpa using hm)).1; omega)
  refine ⟨by have := F1.append F2 hK.size hF.lt; simpa using this, D7, ((hK.trans K4).trans (o5.weaken [g])).then_ hO7 (fun b hb hl => by have := (hA.ownlt b (by simpa using hb)).1; omega)⟩
end Go.Proofs.Ytpkplmnpepkdaaa

namespace Go.Proofs.Ytpkplmnpepkdaaa
open Go.RowKit
set_option maxRecDepth 10000

def ckF (s : Int × Int) (x : Int) : Int × Int := ((s.1 + x) % 65521, (s.2 + (s.1 + x) % 65521) % 65521)
def ckL (l : List Int) : Int × Int := l.foldl ckF (1, 0)
def csum (s : ByteArray) : Int := (ckL (bl s)).2 * 65536 + (ckL (bl s)).1
theorem ckL_snoc (l : List Int) (x : Int) : ckL (l ++ [x]) = ckF (ckL l) x := by simp [ckL, List.foldl_append]
theorem ckF_rng (s : Int × Int) (x : Int) : (0 ≤ (ckF s x).1 ∧ (ckF s x).1 < 65521) ∧ 0 ≤ (ckF s x).2 ∧ (ckF s x).2 < 65521 := by unfold ckF; simp only; omega
theorem ck_foldl_rng : ∀ (l : List Int) (s : Int × Int), ((0 ≤ s.1 ∧ s.1 < 65521) ∧ 0 ≤ s.2 ∧ s.2 < 65521) → ((0 ≤ (l.foldl ckF s).1 ∧ (l.foldl ckF s).1 < 65521) ∧ 0 ≤ (l.foldl ckF s).2 ∧ (l.foldl ckF s).2 < 65521)
  | [], _, h => h
  | x :: l, s, _ => ck_foldl_rng l (ckF s x) (ckF_rng s x)
theorem ckL_rng (l : List Int) : (0 ≤ (ckL l).1 ∧ (ckL l).1 < 65521) ∧ 0 ≤ (ckL l).2 ∧ (ckL l).2 < 65521 := ck_foldl_rng l (1, 0) (by decide)
theorem csum_rng (s : ByteArray) : 0 ≤ csum s ∧ csum s < 4294967296 := by have := ckL_rng (bl s); unfold csum; omega
theorem tmod_posC {a b : Int} (h : 0 ≤ a) : Int.tmod a b = a % b := Int.tmod_eq_emod_of_nonneg h

set_option maxHeartbeats 1000000 in
theorem specChecksum_any (s : ByteArray) (w : World) (hs : s.size ≤ maxLen) :
    Calls Try.prog 76 #[.string s] w fun e w' => e = .returned (.int .i64 (csum s)) ∧ Drew w w' := by
  unfold maxLen at hs
  go_enter Try.func76, Try.ntmps76
  go_wp2
  go_loopw [3, 4, 5] (fun a b t wr => ∃ j : Nat, j ≤ s.size ∧ t = .int .i64 j ∧ a = .int .i64 (ckL ((bl s).take j)).1 ∧ b = .int .i64 (ckL ((bl s).take j)).2 ∧ Drew w wr)
    (fun _ _ t _ => s.size - (intOf t).toNat)
  case atStart => exact ⟨0, Nat.zero_le _, rfl, rfl, rfl, Drew.refl _⟩
  case round =>
    obtain ⟨j, hj, rfl, rfl, rfl, k, rfl⟩ := hrel
    have hr := ckL_rng ((bl s).take j)
    by_cases hlt : j < s.size
    · have hj1 : (0 : Int) ≤ (j : Int) := by omega
      have hj2 : (j : Int) < (s.size : Int) := by omega
      have hbj : (bl s)[j]'(by rw [bl_len]; exact hlt) = (s[j].toNat : Int) := bl_get s j hlt _
      have hst : ckL ((bl s).take (j + 1)) = ckF (ckL ((bl s).take j)) (s[j].toNat : Int) := by rw [take_succ_get (bl s) j (by rw [bl_len]; exact hlt), ckL_snoc, hbj]
      have hx := UInt8.toNat_lt s[j]
      have hw : wrap64 (s[j].toNat : Int) = (s[j].toNat : Int) := wrap64_small _ (by omega) (by omega)
      generalize hA : (ckL ((bl s).take j)).1 = A at *
      generalize hB : (ckL ((bl s).take j)).2 = B at *
      have hst1 : (ckL ((bl s).take (j + 1))).1 = (A + (s[j].toNat : Int)) % 65521 := by rw [hst]; unfold ckF; rw [hA]
      have hst2 : (ckL ((bl s).take (j + 1))).2 = (B + (A + (s[j].toNat : Int)) % 65521) % 65521 := by rw [hst]; unfold ckF; rw [hA, hB]
      have Hst1 := Lib.hid hst1; have Hst2 := Lib.hid hst2; clear hst hst1 hst2 hbj
      have HA := Lib.hid hA; have HB := Lib.hid hB; clear hA hB
      have e1 : Int.tmod (A + (s[j].toNat : Int)) 65521 = (A + (s[j].toNat : Int)) % 65521 := tmod_posC (by omega)
      have e2 : Int.tmod (B + (A + (s[j].toNat : Int)) % 65521) 65521 = (B + (A + (s[j].toNat : Int)) % 65521) % 65521 := tmod_posC (by omega)
      go_wp2
      go_roundw
      case rel => exact ⟨j + 1, by omega, by go_num, by rw [Hst1.out], by rw [Hst2.out]; congr 1; omega, ⟨_, rfl⟩⟩
      case measure => simp [intOf]; omega
    · have he : csum s = (ckL ((bl s).take j)).2 * 65536 + (ckL ((bl s).take j)).1 := by unfold csum; rw [List.take_of_length_le (by rw [bl_len]; omega)]
      have He := Lib.hid he; clear he
      go_wp2
      go_ret
      exact ⟨ret_int He.out.symm, ⟨_, rfl⟩⟩

end Go.Proofs.Ytpkplmnpepkdaaa

namespace Go.Proofs.Ytpkplmnpepkdaaa
open Go.RowKit
set_option maxRecDepth 10000

instance : Rp ByteArray where
  size := 1
  rep _ cs s fp := cs = [.string s] ∧ s.size ≤ maxLen ∧ fp = []
  len h := by rw [h.1]; rfl
  frame h _ := h
  lt h := by rw [h.2.2]; simp
end Go.Proofs.Ytpkplmnpepkdaaa
