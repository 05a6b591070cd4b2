/- The program's faults of an entry. (Written by mkprf3.py.) The program's DescentLetter. (Written by mkdesc.py.) Faults in plain words: lists of them in memory; descents. The reference's table functions: faults, admissible tables, descents. (Written by mkspectab4.py.) -/
import Derived.Test.YtoinaidncncdhaaRowVerificationG10
import Derived.Test.YtoinaidncncdhaaRowVerificationG9
namespace Go.Proofs.Ytoinaidncncdhaa
open Go.RowKit
set_option maxRecDepth 10000

theorem wpList_push2 {P : Program} {α : Type} [Rp α] {ops : Array Oper} {rest : List Oper} {o : Oper} {a : Act} {w : World} {Q : Exit → Act → World → Prop} (hgd : o.guard = none) (s x : Operand) (t : TypeId)
    (ho : o.op = .call { callee := .builtin .append, args := #[s, x], argTypes := #[t, t] })
    (B : Nat) (e : TypeId) (i : TypeInfo) (z : Value) (bytes : Nat) (ht : P.underlying t = some (.slice e)) (hi : P.info? e = some i) (hz : i.zero = some z)
    (hsize : i.size = Rp.size α) (hby : i.bytes = bytes) (hzs : z.cells.size = Rp.size α) (hsz : 0 < Rp.size α) (hbb : bytes ≤ 65536)
    (w0 : World) (v : Value) (l : List α) (fs : List (List Nat)) (hs : a.eval s = v) (hA : Acc B e w0 v l fs) (hK0 : Only [] w0 w) (hB : B ≤ w0.heap.size)
    (g c : Nat) (cs : List Value) (y : α) (fp : List Nat) (hx : a.eval x = .slice (some ⟨g, 0, none⟩) 1 c) (hsrc : ∀ j u, cs[j]? = some u → w.cell? ⟨g, j, none⟩ = some u) (hcs : ∀ u ∈ cs, u.oneCell' = true)
    (hy : Rp.rep w cs y fp) (hap : ∀ b ∈ fp, v.ownBlock ≠ some b) (hlen : l.length + 1 ≤ 1073741824)
    (h : ∀ v' w', Acc B e w' v' (l ++ [y]) (fs ++ [fp]) → Only v.ownBlock.toList w w' → (v'.ownBlock = v.ownBlock ∨ v'.ownBlock = some w.heap.size) → wpList P ops Q rest (a.put o.dst v') w') : wpList P ops Q (o :: rest) a w :=
  wpList_plain hgd fun _ hK => wp_push2 s x t ho B e i z bytes ht hi hz hsize hby hzs hsz hbb w0 v l fs hs hA hK0 hB g c cs y fp hx hsrc hcs hy hap hlen fun v' w' h1 h2 _ _ h5 => hK _ _ (h v' w' h1 h2 h5)
/-- the list of an entry's faults as the closure keeps it -/
def EF (w wx : World) (i : Nat) (L : List Fault) : Prop :=
  ∃ o fs, Blk wx (w.heap.size + 1) [o] ∧ Blk wx w.heap.size [.int .i64 i] ∧ Acc (w.heap.size + 2) 73 wx o L fs ∧ fs.flatten = [] ∧ Only [] w wx ∧ ∃ a n c, o = Value.slice a n c
theorem EF.keep {w wx wy : World} {i : Nat} {L : List Fault} (h : EF w wx i L) (ho : Only [] wx wy) : EF w wy i L := by
  obtain ⟨o, fs, a, b, c, d, e, f⟩ := h
  exact ⟨o, fs, a.keep ho, b.keep ho, c.keep ho, d, e.trans ho, f⟩
theorem EF.only {w wx : World} {i : Nat} {L : List Fault} (h : EF w wx i L) : Only [] w wx := by
  obtain ⟨o, fs, a, b, c, d, e, f⟩ := h; exact e
theorem EF.iCell {w wx : World} {i : Nat} {L : List Fault} (h : EF w wx i L) : wx.cell? ⟨w.heap.size, 0, none⟩ = some (.int .i64 i) := by
  obtain ⟨o, fs, a, b, c, d, e, f⟩ := h; exact b.cell 0 rfl
set_option maxHeartbeats 1000000 in
theorem add_any (w wx : World) (i : Nat) (L : List Fault) (c : Bool) (kind letter : Int) (hE : EF w wx i L) (h1 : I64 kind) (h2 : I64 (i : Int)) (h3 : I64 letter) (hl : L.length + 1 ≤ 1073741824) :
    Calls Try.prog 81 #[.bool c, .int .i64 kind, .int .i64 letter, .pointer (some ⟨w.heap.size + 1, 0, none⟩), .pointer (some ⟨w.heap.size, 0, none⟩)] wx fun e w' => e = .returned (.tuple #[]) ∧ EF w w' i (L ++ one c ⟨kind, i, letter⟩) := by
  rcases c
  · go_enter Try.func81, Try.ntmps81
    go_wp2
    first | go_end0 | refine bodyPost_ret (results_none rfl _ _ _) rfl ?_
    refine ⟨rfl, ?_⟩
    rw [one_false, List.append_nil]
    exact hE
  obtain ⟨o, fs, hB1, hB2, hA, hF, hK, a0, n0, c0, rfl⟩ := hE
  obtain ⟨i0, hi, hz0, hz1, hz2⟩ := info_parts Try.infoFault
  have d1 := hB1.cell 0 rfl
  have d2 := hB2.cell 0 rfl
  have hlt := hB1.lt
  have H123 := Lib.hid (show I64 kind ∧ I64 (i : Int) ∧ I64 letter from ⟨h1, h2, h3⟩)
  have HB1 := Lib.hid hB1
  have hg1 : w.heap.size + 1 ∉ (Value.slice a0 n0 c0).ownBlock.toList := fun hm => by have := (hA.ownlt _ (by simpa using hm)).1; omega
  have hg0 : w.heap.size ∉ (Value.slice a0 n0 c0).ownBlock.toList := fun hm => by have := (hA.ownlt _ (by simpa using hm)).1; omega
  have HH := Lib.hid (show (w.heap.size + 1 ∉ (Value.slice a0 n0 c0).ownBlock.toList) ∧ (w.heap.size ∉ (Value.slice a0 n0 c0).ownBlock.toList) from ⟨hg1, hg0⟩)
  clear hg1 hg0 hB1
  go_enter Try.func81, Try.ntmps81
  go_wp2_with (at_builtin; refine wpList_push2 rfl _ _ 38 rfl (w.heap.size + 2) 73 i0 _ 24 Try.underlying38 hi hz0 hz1 hz2 rfl (by decide) (by decide) wx (.slice a0 n0 c0) L fs rfl hA ((Only.refl _ _).alloc _) (by omega) wx.heap.size 1 [.int .i64 kind, .int .i64 (i : Int), .int .i64 letter] (⟨kind, (i : Int), letter⟩ : Fault) [] rfl (lit_src wx [.int .i64 kind, .int .i64 (i : Int), .int .i64 letter] _ rfl) (by intro u hu; simp at hu; rcases hu with rfl | rfl | rfl <;> rfl) ⟨rfl, H123.out, rfl⟩ (by simp) hl ?_; intro v1 w1 hA1 hO1 hb1; obtain ⟨a9, n9, c9, rfl⟩ : ∃ a n c, v1 = Value.slice a n c := (let ⟨a, c, hh⟩ := hA1.form; ⟨a, _, c, hh⟩); have B9 := (HB1.out.keep ((Only.refl _ _).alloc (.cells #[.int .i64 kind, .int .i64 (i : Int), .int .i64 letter] 73))).only hO1 HH.out.1; have d9 := B9.cell 0 rfl; have z9 := Blk.frozen B9 0)
  first | go_end0 | refine bodyPost_ret (results_none rfl _ _ _) rfl ?_
  refine ⟨rfl, ?_⟩
  refine ⟨.slice a9 n9 c9, fs ++ [[]], B9.set 0 _, ((hB2.keep ((Only.refl _ _).alloc _)).only hO1 HH.out.2).only ((Only.refl [w.heap.size + 1] _).setCell (by intro _; simp) _) (by simp), ?_, by simp [hF], ?_, _, _, _, rfl⟩
  · rw [one_true]
    exact hA1.only ((Only.refl [w.heap.size + 1] _).setCell (by intro _; simp) _) (by simp [hF]) (fun q hq => by
      rcases hb1 with h9 | h9
      · rw [h9] at hq; have := (hA.ownlt _ hq).1; simp; omega
      · rw [h9] at hq; injection hq with hq; simp at hq ⊢; omega)
  · exact ((hK.alloc _).then_ hO1 (fun b hb hl => by have := (hA.ownlt b (by simpa using hb)).1; omega)).setCell (fun hh => by simp at hh; omega) _
theorem idxL_le {l : List (List Int)} {i : Nat} (h : i < l.length) : idxL l l[i] ≤ i ∧ 0 ≤ idxL l l[i] := by
  unfold idxL idxF
  cases hf : l.findIdx? (fun q => decide (q = l[i])) with
  | none => rw [List.findIdx?_eq_none_iff] at hf; have := hf l[i] (List.getElem_mem h); simp at this
  | some k =>
    obtain ⟨hk, hp, hlt⟩ := List.findIdx?_eq_some_iff_getElem.1 hf
    constructor
    · rcases Nat.lt_or_ge i k with h1 | h1
      · have := hlt i h1; simp at this
      · simpa using h1
    · simp
theorem len_ok1 {L : List Fault} (h : L.length + 2 ≤ 1073741824) : L.length + 1 ≤ 1073741824 := by omega
theorem len_ok2 {L : List Fault} {c : Bool} {f : Fault} (h : L.length + 2 ≤ 1073741824) : (L ++ one c f).length + 1 ≤ 1073741824 := by
  have := one_len c f; rw [List.length_append]; omega
theorem inR_shift (y d : Int) : inR (y - d) (-1) 1 = inR y (d - 1) (d + 1) := by
  rw [Bool.eq_iff_iff, inR_iff, inR_iff]; omega
theorem leads_no {x : Puzzle} {t : Table} {p : List Int} {d l : Int} (h : nextI x t p l < 0) : leads x t p d l = false := by
  rw [← Bool.not_eq_true, leads_iff]; omega
theorem leads_yes {x : Puzzle} {t : Table} {p : List Int} {d l : Int} (h : 0 ≤ nextI x t p l) : leads x t p d l = decide (atD t (nextI x t p l) = d) := by
  rw [Bool.eq_iff_iff, leads_iff, decide_eq_true_iff]; exact ⟨fun hh => hh.2, fun hh => ⟨h, hh⟩⟩
theorem any_take_succ {α : Type} (f : α → Bool) (l : List α) (j : Nat) (h : j < l.length) : (l.take (j + 1)).any f = ((l.take j).any f || f l[j]) := by
  rw [take_succ_get l j h, List.any_append]; simp
theorem descL_zero {x : Puzzle} {t : Table} {p : List Int} {d : Int} : decide (descL x t p d = 0) = !((ltrs x.moves.length).any (leads x t p d)) := by
  unfold descL
  cases h : (ltrs x.moves.length).find? (leads x t p d) with
  | none =>
    have : (ltrs x.moves.length).any (leads x t p d) = false := by
      rw [List.any_eq_false]; intro a ha; simpa using List.find?_eq_none.1 h a ha
    rw [this]; rfl
  | some a =>
    have h1 := List.find?_some h
    have h2 := List.mem_of_find?_eq_some h
    have : (ltrs x.moves.length).any (leads x t p d) = true := List.any_eq_true.2 ⟨a, h2, h1⟩
    rw [this]
    have := (mem_ltrs.1 h2).1
    simpa using this
set_option maxHeartbeats 8000000 in
theorem entryFaults_any (g : Nat) (x : Puzzle) (t : Table) (i : Nat) (w : World) (hP : Prf w g x t) (hc : checkT x t = true) (hi0 : i < t.patterns.length) :
    Calls Try.prog 37 #[.pointer (some ⟨g, 0, none⟩), .int .i64 i] w fun e w' => ∃ v fp', e = .returned v ∧ Rd w' v (entF x t i) fp' ∧ Fresh w.heap.size w' fp' ∧ Only [] w w' := by
  obtain ⟨hv, hw, ht, hps⟩ := checkT_iff.1 hc
  have hwf := wfT_iff.1 hw
  have hml := (validPz_facts hv).2.2.1
  have hP0 := hP
  obtain ⟨v0, v1, v2, vl, vm, M, f0, f1, f2, fl, fm, km, hB, r0, r1, r2, rl, rm, hM⟩ := hP
  obtain ⟨A0, C0, rfl, I0⟩ := r0.ints
  obtain ⟨A1, C1, ob, fps, rfl, -, hs⟩ := r1.open_
  obtain ⟨A2, C2, rfl, I2⟩ := r2.ints
  obtain ⟨A3, C3, rfl, I3⟩ := rl.ints
  have hi2 : i < t.distances.length := by have := hwf.2.2.1; omega
  have hi0' : 0 < t.patterns.length := by omega
  have hpat := hps t.patterns[i] (List.getElem_mem hi0)
  have HatP := Lib.hid (atP_of hi0)
  have hatD := atD_of (j := i) rfl hi2
  obtain ⟨b1, o1, uP, rfl, -, hcP, huP⟩ := hs.atRow i hi0
  obtain ⟨b2, o2, rfl, -, hcD⟩ := I2.at_ i hi2
  have hdr := hwf.2.2.2.2 _ (List.getElem_mem hi2)
  rw [inR_iff] at hdr
  obtain ⟨d, hd⟩ : ∃ d, d = t.distances[i] := ⟨_, rfl⟩
  rw [← hd] at hatD hcD hdr
  have HatD := Lib.hid hatD
  have HWF := Lib.hid hwf
  have hplen := hs.bound
  have hn3 := hwf.2.1.2
  have hfidx := firstG_idx (fun q hq => patB_byt (hps q hq) (by have := (validPz_facts hv).2.1; omega)) (patB_byt hpat (by have := (validPz_facts hv).2.1; omega))
  have hix : idxL t.patterns t.patterns[i] ≤ i ∧ 0 ≤ idxL t.patterns t.patterns[i] := idxL_le hi0
  rw [if_pos hix.2] at hfidx
  obtain ⟨n0, hn0⟩ : ∃ n, n = idxL t.patterns t.patterns[i] := ⟨_, rfl⟩
  rw [← hn0] at hfidx hix
  have HN0 := Lib.hid hn0
  have Hfidx := Lib.hid hfidx
  have hplk := (patB_iff.1 hpat).1
  have htl := inc_len_le2 ht
  have hpl2 : t.patterns[i].length ≤ 1000 := by have := (validPz_facts hv).2.1; omega
  have Hks := Lib.hid (show (kB t.patterns[i]).size ≤ maxLen by rw [kB_size]; unfold maxLen; omega)
  obtain ⟨k1, hk1⟩ : ∃ k, k = (decide (i = 0) && (decide (atD t i ≠ 0) || decide (atP t 0 ≠ t.tracked))) := ⟨_, rfl⟩
  obtain ⟨k2, hk2⟩ : ∃ k, k = decide (idxL t.patterns (atP t i) < i) := ⟨_, rfl⟩
  obtain ⟨k3, hk3⟩ : ∃ k, k = (decide (0 < i) && decide (atD t i = 0)) := ⟨_, rfl⟩
  have HK1 := Lib.hid hk1
  have HK2 := Lib.hid hk2
  have HK3 := Lib.hid hk3
  have HIi := Lib.hid (show I64 (i : Int) by unfold I64; omega)
  have d0 := hB.cell 0 rfl
  have d1 := hB.cell 1 rfl
  have d2 := hB.cell 2 rfl
  have d3 := hB.cell 3 rfl
  have d5 := hB.cell 5 rfl
  have hgl := hB.lt
  clear hd hatD hwf hn0 hfidx hplk htl hk1 hk2 hk3
  go_enter Try.func37, Try.ntmps37
  go_upto_region 3 with fail
  go_cut [7, 8] (fun s7 s8 wx => uP = s7 ∧ s8 = .int .i64 d ∧ EF w wx i [])
  case first =>
    have hE : EF w ((w.alloc (.cells #[.int .i64 i] 3)).alloc (.cells #[.slice none 0 0] 38)) i [] :=
      ⟨.slice none 0 0, [], Blk.new_at (w := w.alloc (.cells #[.int .i64 i] 3)) (cs := [.slice none 0 0]) (by simp), Blk.keep (Blk.new_at (w := w) (cs := [.int .i64 i]) (t := 3) rfl) ((Only.refl _ _).alloc _), Acc.nil _ _ _, rfl, (by with_reducible repeat (first | exact Only.refl _ _ | assumption | refine Only.drewN ?_ _ | refine Only.drew ?_ | refine Only.alloc ?_ _ | refine Only.setCell ?_ (by intro hh; exfalso; simp at hh; try omega) _ | refine Only.trans ?_ (by assumption))), _, _, _, rfl⟩
    generalize (w.alloc (.cells #[.int .i64 i] 3)).alloc (.cells #[.slice none 0 0] 38) = Wz at *
    have hz := hE.only
    have z1 := hz.cell (by simp) d1
    have z2 := hz.cell (by simp) d2
    have zp := hz.cell (by simp) hcP
    have zd := hz.cell (by simp) hcD
    have zi := hE.iCell
    go_quiet (fail)
    go_wp2_with fail
    go_meet
    exact ⟨rfl, rfl, hE.keep (by with_reducible repeat (first | exact Only.refl _ _ | assumption | refine Only.drewN ?_ _ | refine Only.drew ?_ | refine Only.alloc ?_ _ | refine Only.setCell ?_ (by intro hh; exfalso; simp at hh; try omega) _ | refine Only.trans ?_ (by assumption)))⟩
  case rest =>
  obtain ⟨rfl, rfl, hE⟩ := hcut
  obtain ⟨Wa, hnew⟩ : ∃ W, W = wc := ⟨_, rfl⟩
  subst hnew
  go_upto_region 4 with fail
  go_cut [] (fun wx => EF w wx i (one k1 ⟨1, i, 0⟩))
  case first =>
    have hKW := hE.only
    have zi := hE.iCell
    have z0 := hKW.cell (by simp) d0
    by_cases hi00 : i = 0
    · have hii : ((i : Int) == 0) = true := by simp [hi00]
      have hatP0 : atP t 0 = t.patterns[i] := by rw [← HatP.out, hi00]
      have HatP0 := Lib.hid hatP0
      have Hi := Lib.hid hi00
      clear hi00 hatP0
      by_cases hd0 : d = 0
      · have hd1 : (d != 0) = false := by simp [hd0]
        have hq := eqV_dec t.patterns[i] t.tracked
        have Hd := Lib.hid hd0
        clear hd0
        rcases hx : eqV t.patterns[i] t.tracked
        all_goals rw [hx] at hq
        · have h9 : t.patterns[i] ≠ t.tracked := of_decide_eq_false hq.symm
          obtain rfl : k1 = true := by rw [HK1.out, HatP0.out, decide_eq_true Hi.out]; simp [h9]
          clear hq h9
          go_wp2_with (first | (go_at_call 40; (with_reducible refine (Equal_rd uP _ t.patterns[i] t.tracked _ _ _ (Rp.keep huP (hKW.trans (by with_reducible repeat (first | exact Only.refl _ _ | assumption | refine Only.drewN ?_ _ | refine Only.drew ?_ | refine Only.alloc ?_ _ | refine Only.setCell ?_ (by intro hh; exfalso; simp at hh; try omega) _ | refine Only.trans ?_ (by assumption))))) (Rp.keep r0 (hKW.trans (by with_reducible repeat (first | exact Only.refl _ _ | assumption | refine Only.drewN ?_ _ | refine Only.drew ?_ | refine Only.alloc ?_ _ | refine Only.setCell ?_ (by intro hh; exfalso; simp at hh; try omega) _ | refine Only.trans ?_ (by assumption)))))).mono ?_); rintro e w2 ⟨he, m2, rfl⟩; rw [hx] at he; subst he) | (go_at_call 81; (with_reducible refine (add_any w _ i [] true 1 0 (hE.keep (by with_reducible repeat (first | exact Only.refl _ _ | assumption | refine Only.drewN ?_ _ | refine Only.drew ?_ | refine Only.alloc ?_ _ | refine Only.setCell ?_ (by intro hh; exfalso; simp at hh; try omega) _ | refine Only.trans ?_ (by assumption)))) (show I64 1 by unfold I64; omega) HIi.out (show I64 0 by unfold I64; omega) (by simp; try omega)).mono ?_); rintro e w3 ⟨rfl, hE3⟩))
          go_meet
          exact hE3
        · have h9 : t.patterns[i] = t.tracked := of_decide_eq_true hq.symm
          obtain rfl : k1 = false := by rw [HK1.out, HatP0.out, HatD.out, Hd.out]; simp [h9]
          clear hq h9
          go_wp2_with (first | (go_at_call 40; (with_reducible refine (Equal_rd uP _ t.patterns[i] t.tracked _ _ _ (Rp.keep huP (hKW.trans (by with_reducible repeat (first | exact Only.refl _ _ | assumption | refine Only.drewN ?_ _ | refine Only.drew ?_ | refine Only.alloc ?_ _ | refine Only.setCell ?_ (by intro hh; exfalso; simp at hh; try omega) _ | refine Only.trans ?_ (by assumption))))) (Rp.keep r0 (hKW.trans (by with_reducible repeat (first | exact Only.refl _ _ | assumption | refine Only.drewN ?_ _ | refine Only.drew ?_ | refine Only.alloc ?_ _ | refine Only.setCell ?_ (by intro hh; exfalso; simp at hh; try omega) _ | refine Only.trans ?_ (by assumption)))))).mono ?_); rintro e w2 ⟨he, m2, rfl⟩; rw [hx] at he; subst he) | (go_at_call 81; (with_reducible refine (add_any w _ i [] false 1 0 (hE.keep (by with_reducible repeat (first | exact Only.refl _ _ | assumption | refine Only.drewN ?_ _ | refine Only.drew ?_ | refine Only.alloc ?_ _ | refine Only.setCell ?_ (by intro hh; exfalso; simp at hh; try omega) _ | refine Only.trans ?_ (by assumption)))) (show I64 1 by unfold I64; omega) HIi.out (show I64 0 by unfold I64; omega) (by simp; try omega)).mono ?_); rintro e w3 ⟨rfl, hE3⟩))
          go_meet
          exact hE3
      · have hd1 : (d != 0) = true := by simp [hd0]
        obtain rfl : k1 = true := by rw [HK1.out, HatD.out, decide_eq_true Hi.out]; simp [hd0]
        clear hd0
        go_wp2_with ((go_at_call 81; (with_reducible refine (add_any w _ i [] true 1 0 (hE.keep (by with_reducible repeat (first | exact Only.refl _ _ | assumption | refine Only.drewN ?_ _ | refine Only.drew ?_ | refine Only.alloc ?_ _ | refine Only.setCell ?_ (by intro hh; exfalso; simp at hh; try omega) _ | refine Only.trans ?_ (by assumption)))) (show I64 1 by unfold I64; omega) HIi.out (show I64 0 by unfold I64; omega) (by simp; try omega)).mono ?_); rintro e w3 ⟨rfl, hE3⟩))
        go_meet
        exact hE3
    · have hii : ((i : Int) == 0) = false := by simp [hi00]
      obtain rfl : k1 = false := by rw [HK1.out]; simp [hi00]
      clear hi00
      go_wp2_with ((go_at_call 81; (with_reducible refine (add_any w _ i [] false 1 0 (hE.keep (by with_reducible repeat (first | exact Only.refl _ _ | assumption | refine Only.drewN ?_ _ | refine Only.drew ?_ | refine Only.alloc ?_ _ | refine Only.setCell ?_ (by intro hh; exfalso; simp at hh; try omega) _ | refine Only.trans ?_ (by assumption)))) (show I64 1 by unfold I64; omega) HIi.out (show I64 0 by unfold I64; omega) (by simp; try omega)).mono ?_); rintro e w3 ⟨rfl, hE3⟩))
      go_meet
      exact hE3
  case rest =>
  replace hE := hcut
  clear hcut
  obtain ⟨Wb, hnew⟩ : ∃ W, W = wc := ⟨_, rfl⟩
  subst hnew
  go_upto_region 5 with fail
  go_cut [] (fun wx => EF w wx i (one k1 ⟨1, i, 0⟩ ++ one k2 ⟨2, i, 0⟩))
  case first =>
    have hKW := hE.only
    have zi := hE.iCell
    have z5 := hKW.cell (by simp) d5
    have hk1l := one_len k1 ⟨1, i, 0⟩
    by_cases hlt : n0 < (i : Int)
    · obtain rfl : k2 = true := by rw [HK2.out, HatP.out, ← HN0.out]; simp [hlt]
      go_region_held3 (fun w' => (EF w w' i (one k1 ⟨1, i, 0⟩) ∨ EF w w' i (one k1 ⟨1, i, 0⟩ ++ one true ⟨2, i, 0⟩)) ∧ w'.cell? ⟨g, 5, none⟩ = some (.map (some M)) ∧ w'.cell? ⟨w.heap.size, 0, none⟩ = some (.int .i64 (i : Int))) ((refine and_of ?_ (fun h__ => ⟨(h__.elim EF.only EF.only).cell (by simp) d5, h__.elim EF.iCell EF.iCell⟩); first | exact .inl (hE.keep (Only.refl _ _).drew) | exact .inl hE5 | exact .inr hE6)) (first | (go_at_call 57; (with_reducible refine (stateKey_rd uP t.patterns[i] _ _ (Rp.keep huP (hKW.trans (by with_reducible repeat (first | exact Only.refl _ _ | assumption | refine Only.drewN ?_ _ | refine Only.drew ?_ | refine Only.alloc ?_ _ | refine Only.setCell ?_ (by intro hh; exfalso; simp at hh; try omega) _ | refine Only.trans ?_ (by assumption))))) hpl2).mono ?_); rintro e w5 ⟨rfl, t5⟩; have hE5 := hE.keep (Only.trans ((Only.refl [] Wb).drew) t5); have hrun5 := (hM.keep hE5.only).run_at_yes Hks.out Hfidx.out) | (go_at_call 81; (with_reducible refine (add_any w _ i (one k1 ⟨1, i, 0⟩) true 2 0 (hE5.keep (by with_reducible repeat (first | exact Only.refl _ _ | assumption | refine Only.drewN ?_ _ | refine Only.drew ?_ | refine Only.alloc ?_ _ | refine Only.setCell ?_ (by intro hh; exfalso; simp at hh; try omega) _ | refine Only.trans ?_ (by assumption)))) (show I64 2 by unfold I64; omega) HIi.out (show I64 0 by unfold I64; omega) (by simp; try omega)).mono ?_); rintro e w6 ⟨rfl, hE6⟩) | fail "no arm")
      go_wp2_with fail
      go_meet
      exact hE6
    · obtain rfl : k2 = false := by rw [HK2.out, HatP.out, ← HN0.out]; simp; omega
      have hd9 : decide (n0 < (i : Int)) = false := decide_eq_false hlt
      go_region_held3 (fun w' => (EF w w' i (one k1 ⟨1, i, 0⟩) ∨ EF w w' i (one k1 ⟨1, i, 0⟩ ++ one false ⟨2, i, 0⟩)) ∧ w'.cell? ⟨g, 5, none⟩ = some (.map (some M)) ∧ w'.cell? ⟨w.heap.size, 0, none⟩ = some (.int .i64 (i : Int))) ((refine and_of ?_ (fun h__ => ⟨(h__.elim EF.only EF.only).cell (by simp) d5, h__.elim EF.iCell EF.iCell⟩); first | exact .inl (hE.keep (Only.refl _ _).drew) | exact .inl hE5 | exact .inr hE6)) (first | (go_at_call 57; (with_reducible refine (stateKey_rd uP t.patterns[i] _ _ (Rp.keep huP (hKW.trans (by with_reducible repeat (first | exact Only.refl _ _ | assumption | refine Only.drewN ?_ _ | refine Only.drew ?_ | refine Only.alloc ?_ _ | refine Only.setCell ?_ (by intro hh; exfalso; simp at hh; try omega) _ | refine Only.trans ?_ (by assumption))))) hpl2).mono ?_); rintro e w5 ⟨rfl, t5⟩; have hE5 := hE.keep (Only.trans ((Only.refl [] Wb).drew) t5); have hrun5 := (hM.keep hE5.only).run_at_yes Hks.out Hfidx.out) | (go_at_call 81; (try rw [hd9]); (with_reducible refine (add_any w _ i (one k1 ⟨1, i, 0⟩) false 2 0 (hE5.keep (by with_reducible repeat (first | exact Only.refl _ _ | assumption | refine Only.drewN ?_ _ | refine Only.drew ?_ | refine Only.alloc ?_ _ | refine Only.setCell ?_ (by intro hh; exfalso; simp at hh; try omega) _ | refine Only.trans ?_ (by assumption)))) (show I64 2 by unfold I64; omega) HIi.out (show I64 0 by unfold I64; omega) (by simp; try omega)).mono ?_); rintro e w6 ⟨rfl, hE6⟩) | fail "no arm")
      go_wp2_with fail
      go_meet
      exact hE6
  case rest =>
  replace hE := hcut
  clear hcut
  obtain ⟨Wc, hnew⟩ : ∃ W, W = wc := ⟨_, rfl⟩
  subst hnew
  go_upto_region 6 with fail
  go_cut [] (fun wx => EF w wx i (one k1 ⟨1, i, 0⟩ ++ one k2 ⟨2, i, 0⟩ ++ one k3 ⟨3, i, 0⟩))
  case first =>
    have zi := hE.iCell
    have hk1l := one_len k1 ⟨1, i, 0⟩
    have hk2l := one_len k2 ⟨2, i, 0⟩
    by_cases hi00 : 0 < i
    · by_cases hd0 : d = 0
      · have hd1 : (d == 0) = true := by simp [hd0]
        obtain rfl : k3 = true := by rw [HK3.out, HatD.out]; simp [hi00, hd0]
        clear hd0
        go_wp2_with ((go_at_call 81; (with_reducible refine (add_any w _ i (one k1 ⟨1, i, 0⟩ ++ one k2 ⟨2, i, 0⟩) true 3 0 (hE.keep (by with_reducible repeat (first | exact Only.refl _ _ | assumption | refine Only.drewN ?_ _ | refine Only.drew ?_ | refine Only.alloc ?_ _ | refine Only.setCell ?_ (by intro hh; exfalso; simp at hh; try omega) _ | refine Only.trans ?_ (by assumption)))) (show I64 3 by unfold I64; omega) HIi.out (show I64 0 by unfold I64; omega) (by simp; try omega)).mono ?_); rintro e w7 ⟨rfl, hE7⟩))
        go_meet
        exact hE7
      · have hd1 : (d == 0) = false := by simp [hd0]
        obtain rfl : k3 = false := by rw [HK3.out, HatD.out]; simp [hd0]
        clear hd0
        go_wp2_with ((go_at_call 81; (with_reducible refine (add_any w _ i (one k1 ⟨1, i, 0⟩ ++ one k2 ⟨2, i, 0⟩) false 3 0 (hE.keep (by with_reducible repeat (first | exact Only.refl _ _ | assumption | refine Only.drewN ?_ _ | refine Only.drew ?_ | refine Only.alloc ?_ _ | refine Only.setCell ?_ (by intro hh; exfalso; simp at hh; try omega) _ | refine Only.trans ?_ (by assumption)))) (show I64 3 by unfold I64; omega) HIi.out (show I64 0 by unfold I64; omega) (by simp; try omega)).mono ?_); rintro e w7 ⟨rfl, hE7⟩))
        go_meet
        exact hE7
    · obtain rfl : k3 = false := by rw [HK3.out]; simp [hi00]
      go_wp2_with ((go_at_call 81; (with_reducible refine (add_any w _ i (one k1 ⟨1, i, 0⟩ ++ one k2 ⟨2, i, 0⟩) false 3 0 (hE.keep (by with_reducible repeat (first | exact Only.refl _ _ | assumption | refine Only.drewN ?_ _ | refine Only.drew ?_ | refine Only.alloc ?_ _ | refine Only.setCell ?_ (by intro hh; exfalso; simp at hh; try omega) _ | refine Only.trans ?_ (by assumption)))) (show I64 3 by unfold I64; omega) HIi.out (show I64 0 by unfold I64; omega) (by simp; try omega)).mono ?_); rintro e w7 ⟨rfl, hE7⟩))
      go_meet
      exact hE7
  case rest =>
  replace hE := hcut
  clear hcut
  obtain ⟨Wd, hnew⟩ : ∃ W, W = wc := ⟨_, rfl⟩
  subst hnew
  obtain ⟨L3, hL3⟩ : ∃ L, L = one k1 ⟨1, i, 0⟩ ++ one k2 ⟨2, i, 0⟩ ++ one k3 ⟨3, i, 0⟩ := ⟨_, rfl⟩
  rw [← hL3] at hE
  have hL3l : L3.length ≤ 3 := by
    rw [hL3]; have := one_len k1 ⟨1, i, 0⟩; have := one_len k2 ⟨2, i, 0⟩; have := one_len k3 ⟨3, i, 0⟩; simp only [List.length_append]; omega
  have HL3 := Lib.hid hL3
  have hKWd := hE.only
  have z3 := hKWd.cell (by simp) d3
  have hb3 := I3.bound
  have hll : (ltrs x.moves.length).length ≤ 16 := by rw [ltrs_len]; omega
  clear hL3
  go_wp2
  clear z3
  go_loopw [9, 73] (fun s9 k wr => ∃ (j : Nat) (ds : Bool), j ≤ (ltrs x.moves.length).length ∧ k = .int .i64 j ∧ s9 = .bool ds ∧ ds = ((ltrs x.moves.length).take j).any (leads x t t.patterns[i] (d - 1)) ∧ EF w wr i (L3 ++ ((ltrs x.moves.length).take j).flatMap (letF x t i)))
    (fun _ k _ => (ltrs x.moves.length).length - (intOf k).toNat)
  case atStart => exact ⟨0, false, Nat.zero_le _, rfl, rfl, by simp, by rw [List.take_zero, List.flatMap_nil, List.append_nil]; exact hE⟩
  case round =>
    clear hE
    obtain ⟨j, ds, hj, rfl, rfl, hds, hE⟩ := hrel
    have Hds := Lib.hid hds
    have hKW := hE.only
    have zi := hE.iCell
    have huP' := Rp.keep huP hKW
    have hlen : (L3 ++ ((ltrs x.moves.length).take j).flatMap (letF x t i)).length + 2 ≤ 1073741824 := by
      have h9 := flat_len (letF_len x t i) ((ltrs x.moves.length).take j)
      rw [List.length_append]; rw [List.length_take] at h9; omega
    have Hlen := Lib.hid hlen
    clear hds hlen
    by_cases hlt : j < (ltrs x.moves.length).length
    · obtain ⟨bl, ol, rfl, -, hcl0⟩ := I3.at_ j hlt
      have hcl := hKW.cell (by simp) hcl0
      have hla := List.getElem_mem hlt
      have HIl := Lib.hid (I3.wf _ hla)
      obtain ⟨hm0, hm1⟩ := (show -1 ≤ nextI x t t.patterns[i] (ltrs x.moves.length)[j] ∧ nextI x t t.patterns[i] (ltrs x.moves.length)[j] < t.patterns.length from idxL_lt)
      obtain ⟨n, hn⟩ : ∃ n, n = nextI x t t.patterns[i] (ltrs x.moves.length)[j] := ⟨_, rfl⟩
      rw [← hn] at hm0 hm1
      have hn' : n = nextI x t (atP t i) (ltrs x.moves.length)[j] := by rw [hn, HatP.out]
      have Hfl := Lib.hid (flat_take_succ (letF x t i) (ltrs x.moves.length) j hlt)
      have Hany := Lib.hid (any_take_succ (leads x t t.patterns[i] (d - 1)) (ltrs x.moves.length) j hlt)
      have HN := Lib.hid hn
      have HN' := Lib.hid hn'
      clear hn hn' hcl0
      by_cases hneg : n < 0
      · have hti := toI_no (t := t) hneg
        have htb := toB_no hneg
        have Hle := Lib.hid (leads_no (x := x) (t := t) (p := t.patterns[i]) (d := d - 1) (l := (ltrs x.moves.length)[j]) (by rw [← HN.out]; exact hneg))
        have Hlf := Lib.hid (letF_miss (x := x) (t := t) (i := i) (l := (ltrs x.moves.length)[j]) (by rw [← HN'.out]; exact hneg))
        rcases ds
        · go_wp2_with (first | (go_at_call 82; (with_reducible refine (to_any g x t uP t.patterns[i] _ j _ (hP0.keep hKW) huP' hc hpat hlt).mono ?_); rintro e w7 ⟨he, t7⟩; rw [← HN.out, hti, htb] at he; subst he; have hE7 := hE.keep t7) | (go_at_call 81; (with_reducible refine (add_any w _ i (L3 ++ ((ltrs x.moves.length).take j).flatMap (letF x t i)) true 4 (ltrs x.moves.length)[j] (hE7.keep (by with_reducible repeat (first | exact Only.refl _ _ | assumption | refine Only.drewN ?_ _ | refine Only.drew ?_ | refine Only.alloc ?_ _ | refine Only.setCell ?_ (by intro hh; exfalso; simp at hh; try omega) _ | refine Only.trans ?_ (by assumption)))) (show I64 4 by unfold I64; omega) HIi.out HIl.out (len_ok1 Hlen.out)).mono ?_); rintro e w8 ⟨rfl, hE8⟩) | (go_at_call 81; (with_reducible refine (add_any w _ i ((L3 ++ ((ltrs x.moves.length).take j).flatMap (letF x t i)) ++ one true ⟨4, i, (ltrs x.moves.length)[j]⟩) false 5 (ltrs x.moves.length)[j] (hE8.keep (by with_reducible repeat (first | exact Only.refl _ _ | assumption | refine Only.drewN ?_ _ | refine Only.drew ?_ | refine Only.alloc ?_ _ | refine Only.setCell ?_ (by intro hh; exfalso; simp at hh; try omega) _ | refine Only.trans ?_ (by assumption)))) (show I64 5 by unfold I64; omega) HIi.out HIl.out (len_ok2 Hlen.out)).mono ?_); rintro e w10 ⟨rfl, hE10⟩))
          go_roundw
          case rel => exact ⟨j + 1, false, by omega, by go_num, rfl, by rw [Hany.out, ← Hds.out, Hle.out]; rfl, by
            have h9 := hE10
            rw [one_true, one_false] at h9
            rw [Hfl.out, Hlf.out, ← List.append_assoc]
            simpa using h9⟩
          case measure => simp [intOf]; omega
        · go_wp2_with (first | (go_at_call 82; (with_reducible refine (to_any g x t uP t.patterns[i] _ j _ (hP0.keep hKW) huP' hc hpat hlt).mono ?_); rintro e w7 ⟨he, t7⟩; rw [← HN.out, hti, htb] at he; subst he; have hE7 := hE.keep t7) | (go_at_call 81; (with_reducible refine (add_any w _ i (L3 ++ ((ltrs x.moves.length).take j).flatMap (letF x t i)) true 4 (ltrs x.moves.length)[j] (hE7.keep (by with_reducible repeat (first | exact Only.refl _ _ | assumption | refine Only.drewN ?_ _ | refine Only.drew ?_ | refine Only.alloc ?_ _ | refine Only.setCell ?_ (by intro hh; exfalso; simp at hh; try omega) _ | refine Only.trans ?_ (by assumption)))) (show I64 4 by unfold I64; omega) HIi.out HIl.out (len_ok1 Hlen.out)).mono ?_); rintro e w8 ⟨rfl, hE8⟩) | (go_at_call 81; (with_reducible refine (add_any w _ i ((L3 ++ ((ltrs x.moves.length).take j).flatMap (letF x t i)) ++ one true ⟨4, i, (ltrs x.moves.length)[j]⟩) false 5 (ltrs x.moves.length)[j] (hE8.keep (by with_reducible repeat (first | exact Only.refl _ _ | assumption | refine Only.drewN ?_ _ | refine Only.drew ?_ | refine Only.alloc ?_ _ | refine Only.setCell ?_ (by intro hh; exfalso; simp at hh; try omega) _ | refine Only.trans ?_ (by assumption)))) (show I64 5 by unfold I64; omega) HIi.out HIl.out (len_ok2 Hlen.out)).mono ?_); rintro e w10 ⟨rfl, hE10⟩))
          go_roundw
          case rel => exact ⟨j + 1, true, by omega, by go_num, rfl, by rw [Hany.out, ← Hds.out, Hle.out]; rfl, by
            have h9 := hE10
            rw [one_true, one_false] at h9
            rw [Hfl.out, Hlf.out, ← List.append_assoc]
            simpa using h9⟩
          case measure => simp [intOf]; omega
      · have hti := toI_yes (t := t) (n := n) (by omega)
        have htb := toB_yes (n := n) (by omega)
        have hmd : n.toNat < t.distances.length := by have := HWF.out.2.2.1; omega
        have hat := atD_of (t := t) (j := n) (i := n.toNat) (by omega) hmd
        rw [hat] at hti
        have hdr2 := HWF.out.2.2.2.2 _ (List.getElem_mem hmd)
        rw [inR_iff] at hdr2
        have hle := leads_yes (x := x) (t := t) (p := t.patterns[i]) (d := d - 1) (l := (ltrs x.moves.length)[j]) (by rw [← HN.out]; omega)
        rw [← HN.out, hat] at hle
        have hlf := fun b => (show inR (atD t (nextI x t (atP t i) (ltrs x.moves.length)[j]) - atD t i) (-1) 1 = b → _ from fun h => h)
        clear hlf
        have hsh : inR (atD t (nextI x t (atP t i) (ltrs x.moves.length)[j]) - atD t i) (-1) 1 = inR t.distances[n.toNat] (d - 1) (d + 1) := by
          rw [← HN'.out, hat, HatD.out]; exact inR_shift _ _
        obtain ⟨y, hy⟩ : ∃ y, y = t.distances[n.toNat] := ⟨_, rfl⟩
        rw [← hy] at hti hle hsh hdr2
        have hnn : ¬ nextI x t (atP t i) (ltrs x.moves.length)[j] < 0 := by rw [← HN'.out]; exact hneg
        rcases hin : inR y (d - 1) (d + 1)
        · have hne : y ≠ d - 1 := by intro e; rw [inR_not] at hin; omega
          have hyy : (y == d - 1) = false := by simp [hne]
          have Hle := Lib.hid (show leads x t t.patterns[i] (d - 1) (ltrs x.moves.length)[j] = false by rw [hle]; simp [hne])
          have Hlf := Lib.hid (letF_jump hnn (by rw [hsh]; exact hin))
          clear hle hsh hy hne hat hnn hneg
          rcases ds
          · go_wp2_with (first | (go_at_call 82; (with_reducible refine (to_any g x t uP t.patterns[i] _ j _ (hP0.keep hKW) huP' hc hpat hlt).mono ?_); rintro e w7 ⟨he, t7⟩; rw [← HN.out, hti, htb] at he; subst he; have hE7 := hE.keep t7) | (go_at_call 81; (with_reducible refine (add_any w _ i (L3 ++ ((ltrs x.moves.length).take j).flatMap (letF x t i)) false 4 (ltrs x.moves.length)[j] (hE7.keep (by with_reducible repeat (first | exact Only.refl _ _ | assumption | refine Only.drewN ?_ _ | refine Only.drew ?_ | refine Only.alloc ?_ _ | refine Only.setCell ?_ (by intro hh; exfalso; simp at hh; try omega) _ | refine Only.trans ?_ (by assumption)))) (show I64 4 by unfold I64; omega) HIi.out HIl.out (len_ok1 Hlen.out)).mono ?_); rintro e w8 ⟨rfl, hE8⟩) | (go_at_call 83; (with_reducible refine (within_any y (d - 1) (d + 1) _).mono ?_); rintro e w9 ⟨he, rfl⟩; rw [hin] at he; subst he) | (go_at_call 81; (with_reducible refine (add_any w _ i ((L3 ++ ((ltrs x.moves.length).take j).flatMap (letF x t i)) ++ one false ⟨4, i, (ltrs x.moves.length)[j]⟩) true 5 (ltrs x.moves.length)[j] (hE8.keep (by with_reducible repeat (first | exact Only.refl _ _ | assumption | refine Only.drewN ?_ _ | refine Only.drew ?_ | refine Only.alloc ?_ _ | refine Only.setCell ?_ (by intro hh; exfalso; simp at hh; try omega) _ | refine Only.trans ?_ (by assumption)))) (show I64 5 by unfold I64; omega) HIi.out HIl.out (len_ok2 Hlen.out)).mono ?_); rintro e w10 ⟨rfl, hE10⟩))
            go_roundw
            case rel => exact ⟨j + 1, false, by omega, by go_num, rfl, by rw [Hany.out, ← Hds.out, Hle.out]; rfl, by
              have h9 := hE10
              rw [one_false, one_true] at h9
              rw [Hfl.out, Hlf.out, ← List.append_assoc]
              simpa using h9⟩
            case measure => simp [intOf]; omega
          · go_wp2_with (first | (go_at_call 82; (with_reducible refine (to_any g x t uP t.patterns[i] _ j _ (hP0.keep hKW) huP' hc hpat hlt).mono ?_); rintro e w7 ⟨he, t7⟩; rw [← HN.out, hti, htb] at he; subst he; have hE7 := hE.keep t7) | (go_at_call 81; (with_reducible refine (add_any w _ i (L3 ++ ((ltrs x.moves.length).take j).flatMap (letF x t i)) false 4 (ltrs x.moves.length)[j] (hE7.keep (by with_reducible repeat (first | exact Only.refl _ _ | assumption | refine Only.drewN ?_ _ | refine Only.drew ?_ | refine Only.alloc ?_ _ | refine Only.setCell ?_ (by intro hh; exfalso; simp at hh; try omega) _ | refine Only.trans ?_ (by assumption)))) (show I64 4 by unfold I64; omega) HIi.out HIl.out (len_ok1 Hlen.out)).mono ?_); rintro e w8 ⟨rfl, hE8⟩) | (go_at_call 83; (with_reducible refine (within_any y (d - 1) (d + 1) _).mono ?_); rintro e w9 ⟨he, rfl⟩; rw [hin] at he; subst he) | (go_at_call 81; (with_reducible refine (add_any w _ i ((L3 ++ ((ltrs x.moves.length).take j).flatMap (letF x t i)) ++ one false ⟨4, i, (ltrs x.moves.length)[j]⟩) true 5 (ltrs x.moves.length)[j] (hE8.keep (by with_reducible repeat (first | exact Only.refl _ _ | assumption | refine Only.drewN ?_ _ | refine Only.drew ?_ | refine Only.alloc ?_ _ | refine Only.setCell ?_ (by intro hh; exfalso; simp at hh; try omega) _ | refine Only.trans ?_ (by assumption)))) (show I64 5 by unfold I64; omega) HIi.out HIl.out (len_ok2 Hlen.out)).mono ?_); rintro e w10 ⟨rfl, hE10⟩))
            go_roundw
            case rel => exact ⟨j + 1, true, by omega, by go_num, rfl, by rw [Hany.out, ← Hds.out, Hle.out]; rfl, by
              have h9 := hE10
              rw [one_false, one_true] at h9
              rw [Hfl.out, Hlf.out, ← List.append_assoc]
              simpa using h9⟩
            case measure => simp [intOf]; omega
        · have Hlf := Lib.hid (letF_ok hnn (by rw [hsh]; exact hin))
          by_cases heq : y = d - 1
          · have hyy : (y == d - 1) = true := by simp [heq]
            have Hle := Lib.hid (show leads x t t.patterns[i] (d - 1) (ltrs x.moves.length)[j] = true by rw [hle]; simp [heq])
            clear hle hsh hy hat hnn hneg heq
            rcases ds
            · go_wp2_with (first | (go_at_call 82; (with_reducible refine (to_any g x t uP t.patterns[i] _ j _ (hP0.keep hKW) huP' hc hpat hlt).mono ?_); rintro e w7 ⟨he, t7⟩; rw [← HN.out, hti, htb] at he; subst he; have hE7 := hE.keep t7) | (go_at_call 81; (with_reducible refine (add_any w _ i (L3 ++ ((ltrs x.moves.length).take j).flatMap (letF x t i)) false 4 (ltrs x.moves.length)[j] (hE7.keep (by with_reducible repeat (first | exact Only.refl _ _ | assumption | refine Only.drewN ?_ _ | refine Only.drew ?_ | refine Only.alloc ?_ _ | refine Only.setCell ?_ (by intro hh; exfalso; simp at hh; try omega) _ | refine Only.trans ?_ (by assumption)))) (show I64 4 by unfold I64; omega) HIi.out HIl.out (len_ok1 Hlen.out)).mono ?_); rintro e w8 ⟨rfl, hE8⟩) | (go_at_call 83; (with_reducible refine (within_any y (d - 1) (d + 1) _).mono ?_); rintro e w9 ⟨he, rfl⟩; rw [hin] at he; subst he) | (go_at_call 81; (with_reducible refine (add_any w _ i ((L3 ++ ((ltrs x.moves.length).take j).flatMap (letF x t i)) ++ one false ⟨4, i, (ltrs x.moves.length)[j]⟩) false 5 (ltrs x.moves.length)[j] (hE8.keep (by with_reducible repeat (first | exact Only.refl _ _ | assumption | refine Only.drewN ?_ _ | refine Only.drew ?_ | refine Only.alloc ?_ _ | refine Only.setCell ?_ (by intro hh; exfalso; simp at hh; try omega) _ | refine Only.trans ?_ (by assumption)))) (show I64 5 by unfold I64; omega) HIi.out HIl.out (len_ok2 Hlen.out)).mono ?_); rintro e w10 ⟨rfl, hE10⟩))
              go_roundw
              case rel => exact ⟨j + 1, true, by omega, by go_num, rfl, by rw [Hany.out, ← Hds.out, Hle.out]; rfl, by
                have h9 := hE10
                rw [one_false, one_false] at h9
                rw [Hfl.out, Hlf.out, ← List.append_assoc]
                simpa using h9⟩
              case measure => simp [intOf]; omega
            · go_wp2_with (first | (go_at_call 82; (with_reducible refine (to_any g x t uP t.patterns[i] _ j _ (hP0.keep hKW) huP' hc hpat hlt).mono ?_); rintro e w7 ⟨he, t7⟩; rw [← HN.out, hti, htb] at he; subst he; have hE7 := hE.keep t7) | (go_at_call 81; (with_reducible refine (add_any w _ i (L3 ++ ((ltrs x.moves.length).take j).flatMap (letF x t i)) false 4 (ltrs x.moves.length)[j] (hE7.keep (by with_reducible repeat (first | exact Only.refl _ _ | assumption | refine Only.drewN ?_ _ | refine Only.drew ?_ | refine Only.alloc ?_ _ | refine Only.setCell ?_ (by intro hh; exfalso; simp at hh; try omega) _ | refine Only.trans ?_ (by assumption)))) (show I64 4 by unfold I64; omega) HIi.out HIl.out (len_ok1 Hlen.out)).mono ?_); rintro e w8 ⟨rfl, hE8⟩) | (go_at_call 83; (with_reducible refine (within_any y (d - 1) (d + 1) _).mono ?_); rintro e w9 ⟨he, rfl⟩; rw [hin] at he; subst he) | (go_at_call 81; (with_reducible refine (add_any w _ i ((L3 ++ ((ltrs x.moves.length).take j).flatMap (letF x t i)) ++ one false ⟨4, i, (ltrs x.moves.length)[j]⟩) false 5 (ltrs x.moves.length)[j] (hE8.keep (by with_reducible repeat (first | exact Only.refl _ _ | assumption | refine Only.drewN ?_ _ | refine Only.drew ?_ | refine Only.alloc ?_ _ | refine Only.setCell ?_ (by intro hh; exfalso; simp at hh; try omega) _ | refine Only.trans ?_ (by assumption)))) (show I64 5 by unfold I64; omega) HIi.out HIl.out (len_ok2 Hlen.out)).mono ?_); rintro e w10 ⟨rfl, hE10⟩))
              go_roundw
              case rel => exact ⟨j + 1, true, by omega, by go_num, rfl, by rw [Hany.out, ← Hds.out, Hle.out]; rfl, by
                have h9 := hE10
                rw [one_false, one_false] at h9
                rw [Hfl.out, Hlf.out, ← List.append_assoc]
                simpa using h9⟩
              case measure => simp [intOf]; omega
          · have hyy : (y == d - 1) = false := by simp [heq]
            have Hle := Lib.hid (show leads x t t.patterns[i] (d - 1) (ltrs x.moves.length)[j] = false by rw [hle]; simp [heq])
            clear hle hsh hy hat hnn hneg heq
            rcases ds
            · go_wp2_with (first | (go_at_call 82; (with_reducible refine (to_any g x t uP t.patterns[i] _ j _ (hP0.keep hKW) huP' hc hpat hlt).mono ?_); rintro e w7 ⟨he, t7⟩; rw [← HN.out, hti, htb] at he; subst he; have hE7 := hE.keep t7) | (go_at_call 81; (with_reducible refine (add_any w _ i (L3 ++ ((ltrs x.moves.length).take j).flatMap (letF x t i)) false 4 (ltrs x.moves.length)[j] (hE7.keep (by with_reducible repeat (first | exact Only.refl _ _ | assumption | refine Only.drewN ?_ _ | refine Only.drew ?_ | refine Only.alloc ?_ _ | refine Only.setCell ?_ (by intro hh; exfalso; simp at hh; try omega) _ | refine Only.trans ?_ (by assumption)))) (show I64 4 by unfold I64; omega) HIi.out HIl.out (len_ok1 Hlen.out)).mono ?_); rintro e w8 ⟨rfl, hE8⟩) | (go_at_call 83; (with_reducible refine (within_any y (d - 1) (d + 1) _).mono ?_); rintro e w9 ⟨he, rfl⟩; rw [hin] at he; subst he) | (go_at_call 81; (with_reducible refine (add_any w _ i ((L3 ++ ((ltrs x.moves.length).take j).flatMap (letF x t i)) ++ one false ⟨4, i, (ltrs x.moves.length)[j]⟩) false 5 (ltrs x.moves.length)[j] (hE8.keep (by with_reducible repeat (first | exact Only.refl _ _ | assumption | refine Only.drewN ?_ _ | refine Only.drew ?_ | refine Only.alloc ?_ _ | refine Only.setCell ?_ (by intro hh; exfalso; simp at hh; try omega) _ | refine Only.trans ?_ (by assumption)))) (show I64 5 by unfold I64; omega) HIi.out HIl.out (len_ok2 Hlen.out)).mono ?_); rintro e w10 ⟨rfl, hE10⟩))
              go_roundw
              case rel => exact ⟨j + 1, false, by omega, by go_num, rfl, by rw [Hany.out, ← Hds.out, Hle.out]; rfl, by
                have h9 := hE10
                rw [one_false, one_false] at h9
                rw [Hfl.out, Hlf.out, ← List.append_assoc]
                simpa using h9⟩
              case measure => simp [intOf]; omega
            · go_wp2_with (first | (go_at_call 82; (with_reducible refine (to_any g x t uP t.patterns[i] _ j _ (hP0.keep hKW) huP' hc hpat hlt).mono ?_); rintro e w7 ⟨he, t7⟩; rw [← HN.out, hti, htb] at he; subst he; have hE7 := hE.keep t7) | (go_at_call 81; (with_reducible refine (add_any w _ i (L3 ++ ((ltrs x.moves.length).take j).flatMap (letF x t i)) false 4 (ltrs x.moves.length)[j] (hE7.keep (by with_reducible repeat (first | exact Only.refl _ _ | assumption | refine Only.drewN ?_ _ | refine Only.drew ?_ | refine Only.alloc ?_ _ | refine Only.setCell ?_ (by intro hh; exfalso; simp at hh; try omega) _ | refine Only.trans ?_ (by assumption)))) (show I64 4 by unfold I64; omega) HIi.out HIl.out (len_ok1 Hlen.out)).mono ?_); rintro e w8 ⟨rfl, hE8⟩) | (go_at_call 83; (with_reducible refine (within_any y (d - 1) (d + 1) _).mono ?_); rintro e w9 ⟨he, rfl⟩; rw [hin] at he; subst he) | (go_at_call 81; (with_reducible refine (add_any w _ i ((L3 ++ ((ltrs x.moves.length).take j).flatMap (letF x t i)) ++ one false ⟨4, i, (ltrs x.moves.length)[j]⟩) false 5 (ltrs x.moves.length)[j] (hE8.keep (by with_reducible repeat (first | exact Only.refl _ _ | assumption | refine Only.drewN ?_ _ | refine Only.drew ?_ | refine Only.alloc ?_ _ | refine Only.setCell ?_ (by intro hh; exfalso; simp at hh; try omega) _ | refine Only.trans ?_ (by assumption)))) (show I64 5 by unfold I64; omega) HIi.out HIl.out (len_ok2 Hlen.out)).mono ?_); rintro e w10 ⟨rfl, hE10⟩))
              go_roundw
              case rel => exact ⟨j + 1, true, by omega, by go_num, rfl, by rw [Hany.out, ← Hds.out, Hle.out]; rfl, by
                have h9 := hE10
                rw [one_false, one_false] at h9
                rw [Hfl.out, Hlf.out, ← List.append_assoc]
                simpa using h9⟩
              case measure => simp [intOf]; omega
    · have hjl : j = (ltrs x.moves.length).length := by omega
      rw [hjl, List.take_length] at hE Hlen
      have hdz := descL_zero (x := x) (t := t) (p := t.patterns[i]) (d := d - 1)
      have hds2 := Hds.out
      rw [hjl, List.take_length] at hds2
      rw [← hds2] at hdz
      have hend : ∀ q : Bool, q = (decide (0 < atD t i) && decide (descL x t (atP t i) (atD t i - 1) = 0)) → entF x t i = (L3 ++ (ltrs x.moves.length).flatMap (letF x t i)) ++ one q ⟨6, i, 0⟩ := by
        intro q hq
        unfold entF
        rw [HL3.out, HK1.out, HK2.out, HK3.out, hq]
        simp only [List.append_assoc]
      rw [HatD.out, HatP.out, hdz] at hend
      have Hend := Lib.hid hend
      clear hend hjl hdz hds2
      by_cases hdp : 0 < d
      · rcases ds
        · go_wp2_with ((go_at_call 81; (with_reducible refine (add_any w _ i (L3 ++ (ltrs x.moves.length).flatMap (letF x t i)) true 6 0 (hE.keep (by with_reducible repeat (first | exact Only.refl _ _ | assumption | refine Only.drewN ?_ _ | refine Only.drew ?_ | refine Only.alloc ?_ _ | refine Only.setCell ?_ (by intro hh; exfalso; simp at hh; try omega) _ | refine Only.trans ?_ (by assumption)))) (show I64 6 by unfold I64; omega) HIi.out (show I64 0 by unfold I64; omega) (len_ok1 Hlen.out)).mono ?_); rintro e w9 ⟨rfl, hE9⟩; obtain ⟨o9, fs9, B9, -, A9, hf9, K9, a9, n9, c9, rfl⟩ := hE9; have z9 := B9.cell 0 rfl))
          go_ret
          refine ⟨_, _, rfl, ?_, (A9.fresh (by rw [hf9]; exact Fresh.nil _ _)).mono (Nat.le_add_right _ _), K9⟩
          rw [Hend.out true (by first | (simp; done) | (simp [hdp]; done))]
          exact A9.rd (by decide)
        · go_wp2_with ((go_at_call 81; (with_reducible refine (add_any w _ i (L3 ++ (ltrs x.moves.length).flatMap (letF x t i)) false 6 0 (hE.keep (by with_reducible repeat (first | exact Only.refl _ _ | assumption | refine Only.drewN ?_ _ | refine Only.drew ?_ | refine Only.alloc ?_ _ | refine Only.setCell ?_ (by intro hh; exfalso; simp at hh; try omega) _ | refine Only.trans ?_ (by assumption)))) (show I64 6 by unfold I64; omega) HIi.out (show I64 0 by unfold I64; omega) (len_ok1 Hlen.out)).mono ?_); rintro e w9 ⟨rfl, hE9⟩; obtain ⟨o9, fs9, B9, -, A9, hf9, K9, a9, n9, c9, rfl⟩ := hE9; have z9 := B9.cell 0 rfl))
          go_ret
          refine ⟨_, _, rfl, ?_, (A9.fresh (by rw [hf9]; exact Fresh.nil _ _)).mono (Nat.le_add_right _ _), K9⟩
          rw [Hend.out false (by first | (simp; done) | (simp [hdp]; done))]
          exact A9.rd (by decide)
      · rcases ds
        · go_wp2_with ((go_at_call 81; (with_reducible refine (add_any w _ i (L3 ++ (ltrs x.moves.length).flatMap (letF x t i)) false 6 0 (hE.keep (by with_reducible repeat (first | exact Only.refl _ _ | assumption | refine Only.drewN ?_ _ | refine Only.drew ?_ | refine Only.alloc ?_ _ | refine Only.setCell ?_ (by intro hh; exfalso; simp at hh; try omega) _ | refine Only.trans ?_ (by assumption)))) (show I64 6 by unfold I64; omega) HIi.out (show I64 0 by unfold I64; omega) (len_ok1 Hlen.out)).mono ?_); rintro e w9 ⟨rfl, hE9⟩; obtain ⟨o9, fs9, B9, -, A9, hf9, K9, a9, n9, c9, rfl⟩ := hE9; have z9 := B9.cell 0 rfl))
          go_ret
          refine ⟨_, _, rfl, ?_, (A9.fresh (by rw [hf9]; exact Fresh.nil _ _)).mono (Nat.le_add_right _ _), K9⟩
          rw [Hend.out false (by first | (simp; done) | (simp [hdp]; done))]
          exact A9.rd (by decide)
        · go_wp2_with ((go_at_call 81; (with_reducible refine (add_any w _ i (L3 ++ (ltrs x.moves.length).flatMap (letF x t i)) false 6 0 (hE.keep (by with_reducible repeat (first | exact Only.refl _ _ | assumption | refine Only.drewN ?_ _ | refine Only.drew ?_ | refine Only.alloc ?_ _ | refine Only.setCell ?_ (by intro hh; exfalso; simp at hh; try omega) _ | refine Only.trans ?_ (by assumption)))) (show I64 6 by unfold I64; omega) HIi.out (show I64 0 by unfold I64; omega) (len_ok1 Hlen.out)).mono ?_); rintro e w9 ⟨rfl, hE9⟩; obtain ⟨o9, fs9, B9, -, A9, hf9, K9, a9, n9, c9, rfl⟩ := hE9; have z9 := B9.cell 0 rfl))
          go_ret
          refine ⟨_, _, rfl, ?_, (A9.fresh (by rw [hf9]; exact Fresh.nil _ _)).mono (Nat.le_add_right _ _), K9⟩
          rw [Hend.out false (by first | (simp; done) | (simp [hdp]; done))]
          exact A9.rd (by decide)
end Go.Proofs.Ytoinaidncncdhaa

namespace Go.Proofs.Ytoinaidncncdhaa
open Go.RowKit
set_option maxRecDepth 10000
theorem newProof_all (cs ds : List Value) (x : Puzzle) (t : Table) (f1 f2 : List Nat) (w : World) (h : Rp.rep w cs x f1) (h2 : Rp.rep w ds t f2) :
    Calls Try.prog 35 #[.agg cs.toArray, .agg ds.toArray] w fun e w' => ∃ q, e = .returned (.tuple #[.pointer q, .bool (checkT x t)]) ∧ (checkT x t = true → ∃ g, q = some ⟨g, 0, none⟩ ∧ Prf w' g x t) ∧ Only [] w w' := by
  by_cases hc : validPz x = true ∧ wfT t = true ∧ trackB x.points t.tracked = true
  · exact newProof_any cs ds x t f1 f2 w h h2 hc.1 hc.2.1 hc.2.2
  · have hck : checkT x t = false := by
      rw [← Bool.not_eq_true, checkT_iff]; rintro ⟨a, b, c, -⟩; exact hc ⟨a, b, c⟩
    refine (newProof_bad cs ds x t f1 f2 w h h2 hc).mono ?_
    rintro e w' ⟨rfl, hk⟩
    exact ⟨none, by rw [hck], fun hh => (by rw [hck] at hh; cases hh), hk⟩
end Go.Proofs.Ytoinaidncncdhaa

namespace Go.Proofs.Ytoinaidncncdhaa
open Go.RowKit
set_option maxRecDepth 10000

theorem SeqA.takeF {α : Type} [Rp α] {w : World} {a : Option Addr} {cap : Nat} {xs : List α} {ob : List Nat} {fps : List (List Nat)} (h : SeqA w a cap xs ob fps) (n : Nat) : SeqA w a cap (xs.take n) ob (fps.take n) := by
  refine ⟨Nat.le_trans (by simp; omega) h.len, h.cap, by simp [h.nf], fun k hk => ?_, h.lt, h.one⟩
  have hk' : k < xs.length := by simp at hk; omega
  obtain ⟨b, off, cs, h1, h2, h3, h4⟩ := h.at_ k hk'
  exact ⟨b, off, cs, h1, h2, h3, by simpa using h4⟩
/-- the first n elements -/
theorem take_rd {α : Type} [Rp α] {w : World} {a : Option Addr} {cap len : Nat} {xs : List α} {fp : List Nat} (h : Rd w (.slice a len cap) xs fp) (n : Nat) (hn : n ≤ xs.length) : ∃ fp', Rd w (.slice a n cap) (xs.take n) fp' ∧ (∀ b ∈ fp', b ∈ fp) ∧ (fp.Nodup → fp'.Nodup) := by
  obtain ⟨a', cap', ob, fps, hv, hfp, hs⟩ := h.open_
  injection hv with h1 h2 h3
  subst h1; subst h3
  have h4 := (hs.takeF n).rd
  rw [List.length_take, Nat.min_eq_left hn] at h4
  refine ⟨_, h4, fun b hb => ?_, fun hnd => ?_⟩
  · rw [hfp]
    rcases List.mem_append.1 hb with hb | hb
    · exact List.mem_append_left _ hb
    · obtain ⟨f, hf, hb⟩ := List.mem_flatten.1 hb
      exact List.mem_append_right _ (List.mem_flatten.2 ⟨f, List.mem_of_mem_take hf, hb⟩)
  · rw [hfp] at hnd
    obtain ⟨n1, n2, n3⟩ := List.nodup_append.1 hnd
    have hsub : (fps.take n).flatten.Sublist fps.flatten := by
      have : fps = fps.take n ++ fps.drop n := (List.take_append_drop n fps).symm
      rw [show fps.flatten = (fps.take n).flatten ++ (fps.drop n).flatten by rw [← List.flatten_append, ← this]]
      exact List.sublist_append_left _ _
    exact List.nodup_append.2 ⟨n1, List.Nodup.sublist hsub n2, fun x hx y hy => n3 x hx y (hsub.subset hy)⟩
/-- the cells of a fault -/
def fcells (f : Fault) : List Value := [.int .i64 f.kind, .int .i64 f.entry, .int .i64 f.letter]
theorem fcells_get : ∀ (ys : List Fault) (j : Nat) (u : Value), (ys.map fcells).flatten[j]? = some u → ∃ (k r : Nat) (h : k < ys.length), j = k * 3 + r ∧ r < 3 ∧ (fcells ys[k])[r]? = some u
  | [], j, u, h => by simp at h
  | y :: ys, j, u, h => by
    rw [List.map_cons, List.flatten_cons] at h
    by_cases hj : j < 3
    · rw [List.getElem?_append_left (by simp [fcells]; exact hj)] at h
      exact ⟨0, j, by simp, by omega, hj, h⟩
    · rw [List.getElem?_append_right (by simp [fcells]; omega)] at h
      have e : j - (fcells y).length = j - 3 := rfl
      rw [e] at h
      obtain ⟨k, r, hk, h1, h2, h3⟩ := fcells_get ys (j - 3) u h
      exact ⟨k + 1, r, by simp; omega, by omega, h2, h3⟩
theorem fault_src {w : World} {a : Option Addr} {cap : Nat} {ys : List Fault} {ob : List Nat} {fps : List (List Nat)} (h : SeqA w a cap ys ob fps) :
    (∀ ad, a = some ad → ∀ j u, (ys.map fcells).flatten[j]? = some u → w.cell? (ad.add j) = some u) ∧ (a = none → ys.length = 0) := by
  constructor
  · intro ad ha j u hu
    obtain ⟨k, r, hk, rfl, hr, hu⟩ := fcells_get ys j u hu
    obtain ⟨b, off, cs, ha', -, hc, rfl, -, -⟩ := h.at_ k hk
    rw [ha] at ha'; injection ha' with ha'; subst ha'
    have hadd : (⟨b, off, none⟩ : Addr).add (k * 3 + r) = ⟨b, off + (k * 3 + r), none⟩ := by unfold Addr.add; split <;> simp_all
    rw [hadd, ← Nat.add_assoc]
    exact hc r u hu
  · intro ha
    rcases Nat.eq_zero_or_pos ys.length with h0 | h0
    · exact h0
    · obtain ⟨_, _, _, ha', _⟩ := h.at_ 0 h0
      rw [ha] at ha'; cases ha'
theorem fcells_len (ys : List Fault) : (ys.map fcells).flatten.length = ys.length * 3 := by
  induction ys with
  | nil => rfl
  | cons y ys ih => simp [fcells, ih]; omega
/-- append(v, ys...) -/
theorem wp_fapp {o : Oper} {a : Act} {K : Act → World → Prop} {Q : Exit → Act → World → Prop} {w w0 wx W : World} {B : Nat} {G : List Nat} {v : Value} {L ys : List Fault}
    (s y : Operand) (ho : o.op = .call { callee := .builtin .append, args := #[s, y], argTypes := #[38, 38] })
    (hs : a.eval s = v) (hA : AccK w B 73 G W w0 v L) (hK0 : Only [] w0 wx) (hB0 : w.heap.size ≤ B) (hB : B ≤ w0.heap.size) (u : Value) (fp : List Nat) (hx : a.eval y = u) (hy : Rd wx u ys fp) (hlen : L.length + ys.length ≤ 1073741824)
    (h : ∀ v' w', AccK w B 73 G W w' v' (L ++ ys) → Only v.ownBlock.toList wx w' → K (a.put o.dst v') w') : o.wp Try.prog a wx K Q := by
  obtain ⟨i0, hi, hz0, hz1, hz2⟩ := info_parts Try.infoFault
  obtain ⟨fs, hAc, hF, hO, hd, hl, hap⟩ := hA
  obtain ⟨css, hown, hcl, hre⟩ := (hAc.keep hK0).own
  obtain ⟨A, cap, ob, fps, rfl, -, hsq⟩ := hy.open_
  obtain ⟨hsrc, hnone⟩ := fault_src hsq
  have hfl := hAc.fl
  have hfn : ∀ k (hk : k < fps.length), fps[k] = [] := fun k hk => by
    obtain ⟨_, _, _, _, _, _, _, _, h9⟩ := hsq.at_ k (by rw [← hsq.nf]; exact hk)
    exact h9
  have hfw : ∀ k (hk : k < ys.length), I64 ys[k].kind ∧ I64 ys[k].entry ∧ I64 ys[k].letter := fun k hk => by
    obtain ⟨_, _, _, _, _, _, _, h9, _⟩ := hsq.at_ k hk
    exact h9
  refine wp_app wx s y _ ho B 73 i0 _ 3 24 Try.underlying38 hi hz0 hz1 hz2 rfl (by omega) v L.length css.flatten hs hown A ys.length cap (ys.map fcells).flatten hx (fcells_len ys) hsrc hnone ?_ (by unfold maxLen; omega) (by omega) (Nat.le_trans hB hK0.size) ?_
  · intro u hu
    obtain ⟨l, hl', hu⟩ := List.mem_flatten.1 hu
    obtain ⟨f, -, rfl⟩ := List.mem_map.1 hl'
    simp [fcells] at hu
    rcases hu with rfl | rfl | rfl <;> rfl
  intro v' w' hO' hg hb
  have hW : Only v.ownBlock.toList wx w' := (Only.refl _ _).grown hg (by intro k hk _; simp [hk])
  have hlt := (hAc.keep hK0).lt
  have hfs : ∀ b ∈ fs.flatten, b ∉ v.ownBlock.toList := fun b hb hm => hAc.apart b (by simpa using hm) hb
  have hfl2 : (fs ++ List.replicate ys.length ([] : List Nat)).flatten = fs.flatten := by rw [List.flatten_append, flatten_nil, List.append_nil]
  refine h v' w' ⟨fs ++ List.replicate ys.length [], ⟨⟨css ++ ys.map fcells, ?_, by simp [hcl], fun k h1 h2 h3 => ?_⟩, by simp [hfl], ?_⟩, ?_, ?_, fun b hb => ?_, fun b hb => ?_, fun b hb hm => ?_⟩ hW
  · rw [List.length_append, List.flatten_append]; exact hO'
  · by_cases hk : k < L.length
    · rw [List.getElem_append_left (by rw [hcl]; exact hk), List.getElem_append_left hk, List.getElem_append_left (by rw [hfl]; exact hk)]
      exact Rp.only (hre k (by omega) hk (by omega)) hW fun b hb => hfs b (List.mem_flatten.2 ⟨_, List.getElem_mem _, hb⟩)
    · rw [List.getElem_append_right (by rw [hcl]; omega), List.getElem_append_right (by omega), List.getElem_append_right (by rw [hfl]; omega)]
      simp only [List.getElem_map, List.getElem_replicate, hcl]
      exact ⟨rfl, hfw _ _, rfl⟩
  · intro g' hg' hm
    rw [hfl2] at hm
    rcases hb with hb | hb
    · rw [hb] at hg'; exact hAc.apart g' hg' hm
    · rw [hb] at hg'; injection hg' with hg'; subst hg'
      exact absurd (hlt _ hm) (by omega)
  · rw [hfl2]
    exact (hF.keep hK0).only hW hfs
  · exact (hO.trans hK0).then_ hW fun b hm hb => by have := (hAc.ownlt b (by simpa using hm)).1; omega
  · have hlt' := Nat.lt_of_lt_of_le (hl b hb) hK0.size
    rw [hW.block b hlt' (hap b hb), hK0.block b (hl b hb) (by simp)]
    exact hd b hb
  · exact Nat.lt_of_lt_of_le (Nat.lt_of_lt_of_le (hl b hb) hK0.size) hW.size
  · have hm' : v'.ownBlock = some b := by simpa using hm
    rcases ‹v'.ownBlock = v.ownBlock ∨ v'.ownBlock = some wx.heap.size› with h5 | h5
    · exact hap b hb (by rw [← h5]; exact hm)
    · rw [h5] at hm'; injection hm' with hm'
      have := hl b hb; have := hK0.size; omega
theorem wpList_fapp {ops : Array Oper} {rest : List Oper} {o : Oper} {a : Act} {Q : Exit → Act → World → Prop} {w w0 wx W : World} {B : Nat} {G : List Nat} {v : Value} {L ys : List Fault}
    (hgd : o.guard = none) (s y : Operand) (ho : o.op = .call { callee := .builtin .append, args := #[s, y], argTypes := #[38, 38] })
    (hs : a.eval s = v) (hA : AccK w B 73 G W w0 v L) (hK0 : Only [] w0 wx) (hB0 : w.heap.size ≤ B) (hB : B ≤ w0.heap.size) (u : Value) (fp : List Nat) (hx : a.eval y = u) (hy : Rd wx u ys fp) (hlen : L.length + ys.length ≤ 1073741824)
    (h : ∀ v' w', AccK w B 73 G W w' v' (L ++ ys) → Only v.ownBlock.toList wx w' → wpList Try.prog ops Q rest (a.put o.dst v') w') : wpList Try.prog ops Q (o :: rest) a wx :=
  wpList_plain hgd fun _ hK => wp_fapp s y ho hs hA hK0 hB0 hB u fp hx hy hlen fun v' w' h1 h2 => hK _ _ (h v' w' h1 h2)

/-- the faults of the entries ahead of j, more than enough -/
theorem faultsTo_add (x : Puzzle) (t : Table) (j n : Nat) (h : j ≤ n) : ∃ r, faultsTo x t n = faultsTo x t j ++ r := by
  obtain ⟨m, rfl⟩ : ∃ m, n = j + m := ⟨n - j, by omega⟩
  induction m with
  | zero => exact ⟨[], by simp⟩
  | succ m ih =>
    obtain ⟨r, hr⟩ := ih (by omega)
    exact ⟨r ++ entF x t (j + m), by rw [show j + (m + 1) = (j + m) + 1 by omega, faultsTo_succ, hr, List.append_assoc]⟩
theorem faults_enough {x : Puzzle} {t : Table} {j n : Nat} (h : j ≤ n) (hl : 40 ≤ (faultsTo x t j).length) : (faultsTo x t n).take 40 = (faultsTo x t j).take 40 := by
  obtain ⟨r, hr⟩ := faultsTo_add x t j n h
  rw [hr, List.take_append_of_le_length hl]
end Go.Proofs.Ytoinaidncncdhaa

namespace Go.Proofs.Ytoinaidncncdhaa
open Go.RowKit
set_option maxRecDepth 10000

theorem fault_lit (w : World) (f : Fault) (hf : I64 f.kind ∧ I64 f.entry ∧ I64 f.letter) (e : TypeId) {g : Nat} (hg : g = w.heap.size) :
    Rd (w.alloc (.cells #[.int .i64 f.kind, .int .i64 f.entry, .int .i64 f.letter] e)) (.slice (some ⟨g, 0, none⟩) 1 1) [f] [g] ∧ Fresh w.heap.size (w.alloc (.cells #[.int .i64 f.kind, .int .i64 f.entry, .int .i64 f.letter] e)) [g] := by
  subst hg
  have hgg : (w.alloc (.cells #[.int .i64 f.kind, .int .i64 f.entry, .int .i64 f.letter] e)).heap[w.heap.size]? = some (.cells #[.int .i64 f.kind, .int .i64 f.entry, .int .i64 f.letter] e (0, 0)) := heap_alloc_new w _
  refine ⟨⟨_, 1, [w.heap.size], [[]], rfl, by simp, ⟨by simp, by simp [maxLen], rfl, fun k hk => ?_, by simp, by simp⟩⟩, by simp, by simp, fun b hb => ?_⟩
  · have : k = 0 := by simpa using hk
    subst this
    refine ⟨w.heap.size, 0, [.int .i64 f.kind, .int .i64 f.entry, .int .i64 f.letter], rfl, rfl, fun j u hu => ?_, rfl, hf, rfl⟩
    rw [cell_of_row _ _ _ _ _ _ hgg]
    simpa using hu
  · simp at hb; subst hb; exact ⟨_, _, hgg⟩
theorem AccK.drop {α : Type} [Rp α] {w0 W wx : World} {B : Nat} {e : TypeId} {G G' : List Nat} {v : Value} {l : List α} (h : AccK w0 B e G W wx v l) (hs : ∀ b ∈ G', b ∈ G) : AccK w0 B e G' W wx v l := by
  obtain ⟨fs, a, b, c, d, f, g⟩ := h
  exact ⟨fs, a, b, c, fun x hx => d x (hs x hx), fun x hx => f x (hs x hx), fun x hx => g x (hs x hx)⟩
theorem AccK.blk {α : Type} [Rp α] {w0 W wx : World} {B : Nat} {e : TypeId} {G : List Nat} {v : Value} {l : List α} (h : AccK w0 B e G W wx v l) {g : Nat} {cs : List Value} (hb : Blk W g cs) (hg : g ∈ G) : Blk wx g cs := by
  obtain ⟨fs, _, _, _, d, _⟩ := h
  obtain ⟨t, ht⟩ := hb
  exact ⟨t, by rw [d g hg]; exact ht⟩
theorem rd_at {α : Type} [Rp α] {w : World} {a : Option Addr} {n cap : Nat} {xs : List α} {fp : List Nat} (h : Rd w (.slice a n cap) xs fp) (h0 : 0 < xs.length) : xs.length ≤ cap ∧ cap ≤ maxLen ∧ ∃ b off, a = some ⟨b, off, none⟩ := by
  obtain ⟨a', cap', ob, fps, hv, -, hs⟩ := h.open_
  injection hv with h1 h2 h3
  subst h1; subst h3
  obtain ⟨b, off, _, ha, _⟩ := hs.at_ 0 h0
  exact ⟨hs.len, hs.cap, b, off, ha⟩
theorem mem_take_stepF {α : Type} {l : List α} {j : Nat} (h : j < l.length) {P : α → Prop} (h1 : ∀ x ∈ l.take j, P x) (h2 : P l[j]) : ∀ x ∈ l.take (j + 1), P x := by
  rw [take_succ_get l j h]
  intro x hx
  rcases List.mem_append.1 hx with hx | hx
  · exact h1 x hx
  · simp at hx; subst hx; exact h2
theorem admB_iff {x : Puzzle} {t : Table} (hc : checkT x t = true) : admB x t = true ↔ ∀ i, i < t.patterns.length → ∀ f ∈ entF x t i, badK f = false := by
  unfold admB
  rw [hc, Bool.true_and, List.all_eq_true]
  simp
theorem badK_of {f : Fault} : badK f = true ↔ f.kind = 1 ∨ f.kind = 4 ∨ f.kind = 5 := by simp [badK]
end Go.Proofs.Ytoinaidncncdhaa
