/- The program's smallest optimal word (law 38). The reference's search of all states (laws 20, 38). The reference's depth of a state, its distance (laws 20, 38). The reference's smallest optimal word (laws 20, 38). -/
import Derived.Test.YtndcifpbbnebmaaGreatRowRandomStatesG17
import Derived.Test.YtndcifpbbnebmaaGreatRowRandomStatesG14
import Derived.Test.YtndcifpbbnebmaaGreatRowRandomStatesG13
import Derived.Deep.DeepCutAuto
import Derived.Deep.RegionLaw
import Derived.Test.YtndcifpbbnebmaaGreatRowRandomStatesG15
import Derived.Test.YtndcifpbbnebmaaGreatRowRandomStatesG12
import Derived.Test.YtndcifpbbnebmaaGreatRowRandomStatesG11
import Derived.Deep.RegionHeld3
namespace Go.Proofs.YtndcifpbbnebmaaGreat
open Go.RowKit
set_option maxRecDepth 10000

/-- two slices under way, apart -/
def Two (B : Nat) (e : TypeId) (w : World) (o o' : Value) (l l' : List Int) : Prop := AccI B e w o l ∧ AccI B e w o' l' ∧ ∀ b, o.ownBlock = some b → o'.ownBlock ≠ some b
theorem Two.keep {B : Nat} {e : TypeId} {w w' : World} {o o' : Value} {l l' : List Int} (h : Two B e w o o' l l') (ho : Only [] w w') : Two B e w' o o' l l' := ⟨h.1.keep ho, h.2.1.keep ho, h.2.2⟩
theorem Two.fst {B : Nat} {e : TypeId} {wa wb : World} {o o' v : Value} {l l' : List Int} {n : Int} (h : Two B e wa o o' l l') (hA : AccI B e wb v (l ++ [n])) (oA : Only o.ownBlock.toList wa wb) (nA : v.ownBlock = o.ownBlock ∨ v.ownBlock = some wa.heap.size) : Two B e wb v o' (l ++ [n]) l' := by
  refine ⟨hA, h.2.1.only oA (fun g hg hm => h.2.2 g (by simpa using hm) hg), fun b hb he => ?_⟩
  rcases nA with e | e
  · exact h.2.2 b (by rw [← e]; exact hb) he
  · rw [e] at hb; injection hb with hb
    have := (h.2.1.ownlt b he).2; omega
theorem Two.snd {B : Nat} {e : TypeId} {wa wb : World} {o o' v : Value} {l l' : List Int} {n : Int} (h : Two B e wa o o' l l') (hA : AccI B e wb v (l' ++ [n])) (oA : Only o'.ownBlock.toList wa wb) (nA : v.ownBlock = o'.ownBlock ∨ v.ownBlock = some wa.heap.size) : Two B e wb o v l (l' ++ [n]) := by
  refine ⟨h.1.only oA (fun g hg hm => h.2.2 g hg (by simpa using hm)), hA, fun b hb he => ?_⟩
  rcases nA with e | e
  · exact h.2.2 b hb (by rw [← e]; exact he)
  · rw [e] at he; injection he with he
    have := (h.1.ownlt b hb).2; omega
set_option maxHeartbeats 4000000 in
theorem closer_any (x : Puzzle) (t : Table) (v : Value) (i : Nat) (w : World) (h : Exp w x t v) (he : expl x = some t) (hi : i < t.patterns.length) :
    Calls Tryz.prog 82 #[v, .int .i64 i] w fun e w' => ∃ u1 u2 f1 f2, e = .returned (.tuple #[u1, u2]) ∧ Rd w' u1 (clL x t i (ltrs x.moves.length)) f1 ∧ Rd w' u2 (clS x t i (ltrs x.moves.length)) f2 ∧ (∀ b ∈ f2, w.heap.size ≤ b) ∧ Only [] w w' := by
  obtain ⟨g, M, v2, us, ud, up, uy, un, fm, f1, f2, f3, km, rfl, hB, hp, -, hD, hN, -⟩ := h
  obtain ⟨hb, -⟩ := expl_built he
  obtain ⟨q1, q20, q8, -⟩ := validPz_facts hb.v
  obtain ⟨v2', hvv, -, -, h2⟩ := hp
  have e2 : v2 = v2' := by simpa using hvv
  subst e2
  obtain ⟨A2, C2, _, _, rfl, -, -⟩ := h2.open_
  obtain ⟨aD, cD, rfl, ID⟩ := hD.ints
  obtain ⟨aN, cN, obN, fpN, rfl, -, SN⟩ := hN.open_
  have hil : i < (t.patterns.map (rowT x t)).length := by simpa using hi
  obtain ⟨bN, oN, ur, rfl, -, hcN, hur⟩ := SN.atRow i hil
  rw [List.getElem_map] at hur
  have hri : rowT x t t.patterns[i] = rowT x t (t.patterns.getD i []) := by rw [getD_get hi]
  rw [hri] at hur
  obtain ⟨row, hrow⟩ : ∃ row, row = rowT x t (t.patterns.getD i []) := ⟨_, rfl⟩
  rw [← hrow] at hur
  obtain ⟨aR, cR, rfl, IR⟩ := hur.ints
  have hdl : t.distances.length = t.patterns.length := hb.bi.dl
  have hid : i < t.distances.length := by omega
  obtain ⟨bD, oD, rfl, -, hcD⟩ := ID.at_ i hid
  obtain ⟨iI, hiI, hzI0, hzI1, hzI2⟩ := info_parts Tryz.info2
  have x2 := hB.cell 2 rfl
  have y4 := hB.cell 4 rfl
  have y8 := hB.cell 8 rfl
  have hll0 := hb.ll
  have hbN := SN.bound
  have hrl : row.length = (ltrs x.moves.length).length := by rw [hrow]; simp [rowT]
  obtain ⟨np, hnp⟩ : ∃ np, np = (t.patterns.map (rowT x t)).length := ⟨_, rfl⟩
  rw [← hnp] at hil hbN y8
  obtain ⟨di, hdi⟩ : ∃ di, di = t.distances[i] := ⟨_, rfl⟩
  rw [← hdi] at hcD
  have hid2 : i < t.distances.length := hid
  have Hdi := Lib.hid (show t.distances.getD i 0 = di by rw [hdi, getD_get hid])
  have Hb := Lib.hid hb
  have Hrow := Lib.hid hrow
  have Hdl := Lib.hid hdl
  have Hrl := Lib.hid hrl
  clear hnp hdi hdl hrow hrl hri he hb hvv
  go_enter Tryz.func82, Tryz.ntmps82
  go_wp2_with (first
    | (go_at_call 92; (with_reducible refine (letters_any x.moves.length _ (by omega)).mono ?_); rintro e w1 ⟨u1, f8, rfl, r1, F1, t1⟩; obtain ⟨a1, c1, rfl, I1⟩ := r1.ints; have y8' := t1.cell (by simp) y8; have hcN' := t1.cell (by simp) hcN)
    | fail "no arm")
  obtain ⟨ls, hls⟩ : ∃ ls, ls = ltrs x.moves.length := ⟨_, rfl⟩
  rw [← hls] at I1 ⊢
  have Hls := Lib.hid hls
  have hrl2 : row.length = ls.length := by rw [Hrl.out, hls]
  have hll : ls.length ≤ 1000 := by rw [hls, ltrs_len]; omega
  have Hrl2 := Lib.hid hrl2
  have hr1000 : row.length ≤ 1000 := by omega
  clear hls hrl2 r1 F1 Hrl
  go_loopw [6, 7, 26] (fun o o' k wr => ∃ j : Nat, j ≤ row.length ∧ k = .int .i64 j ∧ Two w1.heap.size 2 wr o o' (clL x t i (ls.take j)) (clS x t i (ls.take j)) ∧ Only [] w1 wr)
    (fun _ _ k _ => row.length - (intOf k).toNat)
  case atStart => exact ⟨0, Nat.zero_le _, rfl, ⟨AccI.nil _ _ _, AccI.nil _ _ _, by simp [Value.ownBlock]⟩, Only.refl _ _⟩
  case round =>
    obtain ⟨W2, hnew⟩ : ∃ W, W = wr := ⟨_, rfl⟩
    subst hnew
    obtain ⟨j, hj, rfl, hT, hK⟩ := hrel
    by_cases hlt : j < row.length
    · have hjl : j < ls.length := by have := Hrl2.out; omega
      have hla : ls[j] ∈ ltrs x.moves.length := by rw [← Hls.out]; exact List.getElem_mem hjl
      obtain ⟨tz, hto, -, hidx⟩ := idx_step Hb.out hi hla
      have hrj : row[j] = (tz : Int) := by rw [← hidx]; simp [Hrow.out, rowT, Hls.out]
      have htd : tz < t.distances.length := by have := Hdl.out; omega
      have IRw := IR.keep (t1.trans hK)
      obtain ⟨bR, oR, rfl, -, hcR⟩ := IRw.at_ j hlt
      rw [hrj] at hcR
      have IDw := ID.keep (t1.trans hK)
      obtain ⟨bD', oD', eD, -, hcT⟩ := IDw.at_ tz htd
      injection eD with eD; injection eD with eD1 eD2; subst eD1; subst eD2
      have hcDw := (t1.trans hK).cell (by simp) hcD
      have y4w := (t1.trans hK).cell (by simp) y4
      obtain ⟨b1, o1, rfl, -, hc1⟩ := (I1.keep hK).at_ j hjl
      obtain ⟨dt, hdt⟩ : ∃ dt, dt = t.distances[tz] := ⟨_, rfl⟩
      rw [← hdt] at hcT
      have hclp : clP x t i ls[j] = decide (dt < di) := by
        unfold clP
        rw [hidx, Int.toNat_natCast, Hdi.out, hdt, getD_get htd]
      have HIt := Lib.hid (show I64 (tz : Int) by unfold I64; omega)
      have HIl := Lib.hid (show I64 ls[j] by have := mem_ltrs.1 hla; unfold I64; omega)
      have hsn1 := clL_snoc (x := x) (t := t) i (ls.take j) ls[j]
      have hsn2 := clS_snoc (x := x) (t := t) i (ls.take j) ls[j]
      rw [← take_succ_get ls j hjl] at hsn1 hsn2
      rw [hidx] at hsn2
      rw [hclp] at hsn1 hsn2
      have hB2 : w1.heap.size ≤ W2.heap.size := hK.size
      have hl1 : (clL x t i (ls.take j)).length + 1 ≤ 1073741824 := by
        have := List.length_filter_le (clP x t i) (ls.take j)
        unfold clL; rw [List.length_take] at this; omega
      have hl2 : (clS x t i (ls.take j)).length + 1 ≤ 1073741824 := by
        unfold clS; rw [List.length_map]; exact hl1
      have HT := Lib.hid hT
      clear hla hidx hrj hdt hclp IRw IDw hT
      by_cases hc : dt < di
      · rw [if_pos (decide_eq_true hc)] at hsn1 hsn2
        have Hs1 := Lib.hid hsn1
        have Hs2 := Lib.hid hsn2
        clear hsn1 hsn2
        go_wp2
        go_quiet (fail)
        have hKq : Only [] W2 (W2.drewN nq) := Only.ofDrewN W2 nq []
        have hT5 := HT.out.keep hKq
        have hc5 := hKq.cell (by simp) hc1
        have hK5 := hK.trans hKq
        have hB5 : w1.heap.size ≤ (W2.drewN nq).heap.size := hK5.size
        clear hc1 hcR hcT hcDw y4w HT
        generalize W2.drewN nq = W5 at *
        have HT := Lib.hid hT5
        clear hT5
        go_wp2_with (first
          | (at_builtin; refine wpList_pushI rfl _ _ 32 rfl w1.heap.size 2 iI _ Tryz.underlying32 hiI hzI0 hzI1 hzI2 rfl W5 u6 _ rfl HT.out.1 ((Only.refl _ _).alloc _) hB5 W5.heap.size 1 ls[j] rfl (lit1 W5 _ _ rfl) HIl.out hl1 ?_; intro v6 w6 hA6 hO6 hP6 hN6; have HT6 := Lib.hid ((HT.out.keep ((Only.refl _ _).alloc (.cells #[.int .i64 ls[j]] 2))).fst hA6 hO6 hN6); have hK6 := hP6 w1 (hK5.alloc _) (Nat.le_refl _); have hB6 := hK6.size)
          | (at_builtin; refine wpList_pushI rfl _ _ 32 rfl w1.heap.size 2 iI _ Tryz.underlying32 hiI hzI0 hzI1 hzI2 rfl w6 u7 _ rfl HT6.out.2.1 ((Only.refl _ _).alloc _) hB6 w6.heap.size 1 (tz : Int) rfl (lit1 w6 _ _ rfl) HIt.out hl2 ?_; intro v7 w7 hA7 hO7 hP7 hN7)
          | fail "no arm")
        have hT7 := (HT6.out.keep ((Only.refl _ _).alloc (.cells #[.int .i64 (tz : Int)] 2))).snd hA7 hO7 hN7
        have hK7 := hP7 w1 (hK6.alloc _) (Nat.le_refl _)
        go_roundw
        case rel => exact ⟨j + 1, by omega, by go_num, by rw [Hs1.out, Hs2.out]; exact hT7, hK7⟩
        case measure => simp [intOf]; omega
      · rw [if_neg (by simpa using hc)] at hsn1 hsn2
        have Hs1 := Lib.hid hsn1
        have Hs2 := Lib.hid hsn2
        have hcb : decide (dt < di) = false := decide_eq_false hc
        clear hsn1 hsn2
        go_wp2
        go_quiet (fail)
        go_wp2
        go_roundw
        case rel => exact ⟨j + 1, by omega, by go_num, by rw [Hs1.out, Hs2.out]; exact HT.out.keep (by with_reducible repeat (first | exact Only.refl _ _ | assumption | refine Only.drewN ?_ _ | refine Only.drew ?_ | refine Only.alloc ?_ _ | refine Only.setCell ?_ (by intro hh; exfalso; simp at hh; try omega) _ | refine Only.trans ?_ (by assumption))), (by with_reducible repeat (first | exact Only.refl _ _ | assumption | refine Only.drewN ?_ _ | refine Only.drew ?_ | refine Only.alloc ?_ _ | refine Only.setCell ?_ (by intro hh; exfalso; simp at hh; try omega) _ | refine Only.trans ?_ (by assumption)))⟩
        case measure => simp [intOf]; omega
    · obtain rfl : j = row.length := by omega
      rw [Hrl2.out, List.take_length, Hls.out] at hT
      have HT := Lib.hid hT
      clear hT
      go_wp2
      exact bodyPost_ret (v := .tuple #[u6, u7]) (by simp [results, Tryz.results82, go_sem]) rfl ⟨u6, u7, _, _, rfl, HT.out.1.rd, HT.out.2.1.rd, fun b hb => Nat.le_trans t1.size (HT.out.2.1.fresh.ge b hb), t1.trans hK⟩
/-- the entry of the depths at hand -/
theorem Exp.depth {w : World} {x : Puzzle} {t : Table} {v : Value} (h : Exp w x t v) : ∃ g aD cD fD, v = .pointer (some ⟨g, 0, none⟩) ∧ w.cell? ⟨g, 4, none⟩ = some (.slice aD t.distances.length cD) ∧ IntsA w aD cD t.distances fD := by
  obtain ⟨g, M, v2, us, ud, up, uy, un, fm, f1, f2, f3, k, rfl, hB, -, -, hD, -, -⟩ := h
  obtain ⟨aD, cD, rfl, ID⟩ := hD.ints
  exact ⟨g, aD, cD, _, rfl, hB.cell 4 rfl, ID⟩
set_option maxHeartbeats 2000000 in
theorem optimalWord_far (x : Puzzle) (t : Table) (v : Value) (i : Nat) (w : World) (h : Exp w x t v) (he : expl x = some t) (hi : i < t.patterns.length) (hN : 200 < t.distances.getD i 0) :
    Calls Tryz.prog 62 #[v, .int .i64 i] w fun e w' => e = .returned (.tuple #[.slice none 0 0, .bool false]) ∧ Only [] w w' := by
  obtain ⟨hb, -⟩ := expl_built he
  have hid : i < t.distances.length := by have : t.distances.length = t.patterns.length := hb.bi.dl; omega
  obtain ⟨g, aD, cD, fD, rfl, y4, ID⟩ := h.depth
  obtain ⟨bD, oD, rfl, -, hcD⟩ := ID.at_ i hid
  rw [getD_get hid] at hN
  obtain ⟨d, hd⟩ : ∃ d, d = t.distances[i] := ⟨_, rfl⟩
  rw [← hd] at hcD hN
  clear hd hb he
  go_enter Tryz.func62, Tryz.ntmps62
  go_wp2
  exact bodyPost_ret (v := .tuple #[.slice none 0 0, .bool false]) (by simp [results, Tryz.results62, go_sem]) rfl ⟨rfl, Only.refl _ _⟩
set_option maxHeartbeats 4000000 in
theorem optimalWord_any (x : Puzzle) (t : Table) (v : Value) (i0 N : Nat) (w : World) (h : Exp w x t v) (he : expl x = some t) (hi0 : i0 < t.patterns.length) (hN : t.distances.getD i0 0 = N) (h200 : N ≤ 200) :
    Calls Tryz.prog 62 #[v, .int .i64 i0] w fun e w' => ∃ u f, e = .returned (.tuple #[u, .bool true]) ∧ Rd w' u (oW x t N (t.patterns.getD i0 [])) f ∧ Fresh w.heap.size w' f ∧ Only [] w w' := by
  obtain ⟨hb, -⟩ := expl_built he
  have hdl : t.distances.length = t.patterns.length := hb.bi.dl
  have hX := h
  obtain ⟨g, aD, cD, fD, rfl, y4, ID⟩ := h.depth
  have hid : i0 < t.distances.length := by omega
  obtain ⟨bD, oD, rfl, -, hcD⟩ := ID.at_ i0 hid
  obtain ⟨iI, hiI, hzI0, hzI1, hzI2⟩ := info_parts Tryz.info2
  have hll := hb.ll
  have hds : t.distances[i0] = (N : Int) := by rw [← hN, getD_get hid]
  rw [hds] at hcD
  obtain ⟨s0, hs0⟩ : ∃ s0, s0 = t.patterns.getD i0 [] := ⟨_, rfl⟩
  have Hs0 := Lib.hid hs0
  rw [← hs0]
  have HN := Lib.hid hN
  have Hb := Lib.hid hb
  have He := Lib.hid he
  have Hdl := Lib.hid hdl
  have hlD := ID.bound
  clear hN hb he hs0 hdl hds
  go_enter Tryz.func62, Tryz.ntmps62
  go_wp2
  go_loopw [1, 6] (fun c o wr => ∃ (n i : Nat) (dn : List Int), c = .int .i64 i ∧ n ≤ 200 ∧ dn.length + n = N ∧ i < t.patterns.length ∧ t.distances.getD i 0 = n ∧ dn ++ oW x t n (t.patterns.getD i []) = oW x t N s0 ∧ AccI w.heap.size 2 wr o dn ∧ Only [] w wr)
    (fun c _ _ => (t.distances.getD (intOf c).toNat 0).toNat)
  case atStart => exact ⟨N, i0, [], rfl, h200, by simp, hi0, HN.out, by rw [Hs0.out]; rfl, AccI.nil _ _ _, Only.refl _ _⟩
  case round =>
    clear hcD hid
    obtain ⟨W3, hnew⟩ : ∃ W, W = wr := ⟨_, rfl⟩
    subst hnew
    obtain ⟨n, i, dn, rfl, hn, hlen, hil, hdi, hcat, hA, hK⟩ := hrel
    have hid : i < t.distances.length := by have := Hdl.out; omega
    have y4w := hK.cell (by simp) y4
    obtain ⟨bD', oD', eD, -, hcD⟩ := (ID.keep hK).at_ i hid
    injection eD with eD; injection eD with eD1 eD2; subst eD1; subst eD2
    rw [show t.distances[i] = (n : Int) by rw [← hdi, getD_get hid]] at hcD
    have Hcat := Lib.hid hcat
    have Hdi := Lib.hid hdi
    have Hlen := Lib.hid hlen
    have HA := Lib.hid hA
    clear hcat hdi hlen hA
    by_cases h0 : 0 < n
    · obtain ⟨m, hm⟩ : ∃ m, n = m + 1 := ⟨n - 1, by omega⟩
      have hdm : t.distances.getD i 0 = (m : Int) + 1 := by rw [Hdi.out, hm]; push_cast; rfl
      obtain ⟨k, j, hDn⟩ := Hb.out.down hil hdm
      obtain ⟨r1, r2, hL1, hL2⟩ := hDn.head Hb.out hil hdm
      obtain ⟨l, hl⟩ : ∃ l, l = (ltrs x.moves.length)[k]'hDn.hk := ⟨_, rfl⟩
      have hla : l ∈ ltrs x.moves.length := by rw [hl]; exact List.getElem_mem _
      have hv := validPz_facts Hb.out.v
      have HIl := Lib.hid (show I64 l by have := mem_ltrs.1 hla; unfold I64; omega)
      rw [← hl] at hL1
      have HL1 := Lib.hid hL1
      have HL2 := Lib.hid hL2
      have HDn := Lib.hid hDn
      have Hl := Lib.hid hl
      have Hm := Lib.hid hm
      have hm1 : m + 1 ≤ n := by omega
      have hm2 : n ≤ m + 1 := by omega
      have hbw : w.heap.size ≤ W3.heap.size := hK.size
      have hdl1 : dn.length + 1 ≤ 1073741824 := by have := Hlen.out; omega
      clear hL1 hL2 hl hm hdm hla hv
      go_wp2_with (first
        | (go_at_call 82; (with_reducible refine (closer_any x t _ i _ (hX.keep hK) He.out hil).mono ?_); rintro e w4 ⟨u1, u2, f1, f2, rfl, r1', r2', hf2, t4⟩; rw [HL1.out] at r1'; rw [HL2.out] at r2'; obtain ⟨a1, c1, rfl, I1⟩ := r1'.ints; obtain ⟨a2, c2, rfl, I2⟩ := r2'.ints; obtain ⟨b1, o1, rfl, -, hc1⟩ := I1.at_ 0 (by simp); obtain ⟨b2, o2, rfl, hfb2, hc2⟩ := I2.at_ 0 (by simp); have hb2w := hf2 b2 (by rw [hfb2]; simp); clear hfb2 hf2; simp only [List.getElem_cons_zero, Nat.add_zero] at hc1 hc2; have hbw4 : w.heap.size ≤ w4.heap.size := (Nat.le_trans hbw t4.size); have hA4 := Lib.hid (HA.out.keep t4))
        | (at_builtin; refine wpList_pushI rfl _ _ 32 rfl w.heap.size 2 iI _ Tryz.underlying32 hiI hzI0 hzI1 hzI2 rfl w4 u6 _ rfl hA4.out ((Only.refl _ _).alloc _) hbw4 w4.heap.size 1 l rfl (lit1 w4 _ _ rfl) HIl.out hdl1 ?_; intro v9 w9 hA9 hO9 hP9 hN9; have hc29 := hO9.cell (p := ⟨b2, o2, none⟩) (fun hm => by have h7 := (HA.out.ownlt b2 (by simpa using hm)).2; omega) (((Only.refl [] w4).alloc _).cell (by simp) hc2))
        | fail "no arm")
      have hA9' := hA9
      have hK9 := hP9 w ((hK.trans t4).alloc _) (Nat.le_refl _)
      exact ⟨⟨m, j, dn ++ [l], rfl, by omega, by have := Hlen.out; simp; omega, HDn.out.hj, HDn.out.ds, by rw [← Hcat.out, Hm.out, HDn.out.oW_, Hl.out]; simp, hA9', hK9⟩, by show (t.distances.getD ((j : Nat) : Int).toNat 0).toNat < (t.distances.getD ((i : Nat) : Int).toNat 0).toNat; rw [Int.toNat_natCast, Int.toNat_natCast, HDn.out.ds, Hdi.out]; omega⟩
    · obtain rfl : n = 0 := by omega
      have hfin : dn = oW x t N s0 := by have := Hcat.out; rwa [show oW x t 0 (t.patterns.getD i []) = [] from rfl, List.append_nil] at this
      have Hfin := Lib.hid hfin
      clear hfin
      go_wp2
      exact bodyPost_ret (v := .tuple #[u6, .bool true]) (by simp [results, Tryz.results62, go_sem]) rfl ⟨u6, rfl, _, by rw [← Hfin.out]; exact HA.out.rd, HA.out.fresh, hK⟩

end Go.Proofs.YtndcifpbbnebmaaGreat

namespace Go.Proofs.YtndcifpbbnebmaaGreat
open Go.RowKit
set_option maxRecDepth 10000

theorem expl_from {x : Puzzle} (hv : validPz x = true) {wh : Bool} {L : List (List Int)} {D : List Int} (h : bFrom x 3001 0 ([PM.pts x.points.toNat], [0]) = if wh = true then some (L, D) else none) : expl x = if wh = true then some ⟨PM.pts x.points.toNat, L, D⟩ else none := by
  unfold expl bTab
  rw [bfs16_yes (by rw [hv, pts_track hv]; rfl), h]
  cases wh <;> rfl
/-- v is the search that found the entries of t; its memory lies from B on -/
def SrF (B : Nat) (w : World) (x : Puzzle) (t : Table) (v : Value) : Prop := ∃ A1 A2 A3 C1 C2 C3 so ob fps fd fz, v = .agg #[.slice A1 t.patterns.length C1, .slice A2 t.distances.length C2, .slice A3 (List.length so) C3, .bool true] ∧ SrR w A1 A2 A3 C1 C2 C3 t.patterns t.distances so ob fps fd fz ∧ Srt x.points.toNat t.patterns so ∧ ∀ g ∈ (ob ++ fps.flatten) ++ (fd ++ fz), B ≤ g
theorem SrF.only {B : Nat} {w w' : World} {x : Puzzle} {t : Table} {v : Value} {fp : List Nat} (h : SrF B w x t v) (ho : Only fp w w') (hd : ∀ g ∈ fp, g < B) : SrF B w' x t v := by
  obtain ⟨A1, A2, A3, C1, C2, C3, so, ob, fps, fd, fz, h1, h2, h3, h4⟩ := h
  exact ⟨A1, A2, A3, C1, C2, C3, so, ob, fps, fd, fz, h1, h2.only ho (fun g hg hm => by have := h4 g hg; have := hd g hm; omega), h3, h4⟩
theorem SrF.keep {B : Nat} {w w' : World} {x : Puzzle} {t : Table} {v : Value} (h : SrF B w x t v) (ho : Only [] w w') : SrF B w' x t v := h.only ho (by simp)
theorem SrF.mono {B B' : Nat} {w : World} {x : Puzzle} {t : Table} {v : Value} (h : SrF B w x t v) (hB : B' ≤ B) : SrF B' w x t v := by
  obtain ⟨A1, A2, A3, C1, C2, C3, so, ob, fps, fd, fz, h1, h2, h3, h4⟩ := h
  exact ⟨A1, A2, A3, C1, C2, C3, so, ob, fps, fd, fz, h1, h2, h3, fun g hg => Nat.le_trans hB (h4 g hg)⟩
theorem SrR.lt {w : World} {A1 A2 A3 : Option Addr} {C1 C2 C3 : Nat} {L : List (List Int)} {D : List Int} {so : List Nat} {ob : List Nat} {fps : List (List Nat)} {fd fs : List Nat} (h : SrR w A1 A2 A3 C1 C2 C3 L D so ob fps fd fs) : ∀ g ∈ (ob ++ fps.flatten) ++ (fd ++ fs), g < w.heap.size := fun g hg => by
  rcases List.mem_append.1 hg with hg | hg
  · exact h.ls.lt_all g hg
  · rcases List.mem_append.1 hg with hg | hg
    · exact h.dp.lt g hg
    · exact h.st.lt g hg
/-- the search's variable behind the search of all states -/
def SS1 (W wx : World) (x : Puzzle) (s4 : Value) : Prop :=
  ∃ g A1 A2 A3 C1 C2 C3 wh L D so ob fps fd fz, s4 = .pointer (some ⟨g, 0, none⟩) ∧ Blk wx g [.slice A1 (List.length L) C1, .slice A2 (List.length D) C2, .slice A3 (List.length so) C3, .bool wh] ∧ SrR wx A1 A2 A3 C1 C2 C3 L D so ob fps fd fz ∧
    (expl x = if wh = true then some ⟨PM.pts x.points.toNat, L, D⟩ else none) ∧ Srt x.points.toNat L so ∧ (∀ g' ∈ (ob ++ fps.flatten) ++ (fd ++ fz), W.heap.size ≤ g') ∧ Only [] W wx ∧ W.heap.size ≤ g
section
variable {W w5 : World} {x : Puzzle} {g : Nat} {A1 A2 A3 : Option Addr} {C1 C2 C3 : Nat} {wh : Bool} {L : List (List Int)} {D : List Int} {so : List Nat} {ob : List Nat} {fps : List (List Nat)} {fd fz : List Nat} {cs : List Value} {e : TypeId}
theorem SS1.of (hz : Blk w5 g cs) (hcs : cs.length = 4) (hK : Only [] W w5) (hr : SrR w5 A1 A2 A3 C1 C2 C3 L D so ob fps fd fz) (he : expl x = if wh = true then some ⟨PM.pts x.points.toNat, L, D⟩ else none) (hs : Srt x.points.toNat L so)
    (hb : ∀ g' ∈ (ob ++ fps.flatten) ++ (fd ++ fz), W.heap.size ≤ g') (hg : ∀ g' ∈ (ob ++ fps.flatten) ++ (fd ++ fz), g' ≠ g) (hW : W.heap.size ≤ g) :
    SS1 W ((((w5.setCell ⟨g, 0, none⟩ (.slice A1 L.length C1)).setCell ⟨g, 1, none⟩ (.slice A2 D.length C2)).setCell ⟨g, 2, none⟩ (.slice A3 so.length C3)).setCell ⟨g, 3, none⟩ (.bool wh)) x (.pointer (some ⟨g, 0, none⟩)) := by
  have ho : Only [g] w5 ((((w5.setCell ⟨g, 0, none⟩ (.slice A1 L.length C1)).setCell ⟨g, 1, none⟩ (.slice A2 D.length C2)).setCell ⟨g, 2, none⟩ (.slice A3 so.length C3)).setCell ⟨g, 3, none⟩ (.bool wh)) := ((((Only.refl _ _).setCell (by simp) _).setCell (by simp) _).setCell (by simp) _).setCell (by simp) _
  have hbk := (((hz.set 0 (.slice A1 L.length C1)).set 1 (.slice A2 D.length C2)).set 2 (.slice A3 so.length C3)).set 3 (.bool wh)
  refine ⟨g, A1, A2, A3, C1, C2, C3, wh, L, D, so, ob, fps, fd, fz, rfl, ?_, hr.only ho (fun b hm hq => hg b hm (by simpa using hq)), he, hs, hb, hK.then_ ho (by intro b hm hl; simp at hm; omega), hW⟩
  obtain ⟨u0, u1, u2, u3, rfl⟩ : ∃ u0 u1 u2 u3, cs = [u0, u1, u2, u3] := by
    match cs, hcs with
    | [u0, u1, u2, u3], _ => exact ⟨u0, u1, u2, u3, rfl⟩
  simpa only [List.set] using hbk
theorem SS1.of2 (hK : Only [] W w5) (hr : SrR w5 A1 A2 A3 C1 C2 C3 L D so ob fps fd fz) (he : expl x = if wh = true then some ⟨PM.pts x.points.toNat, L, D⟩ else none) (hs : Srt x.points.toNat L so)
    (hb : ∀ g' ∈ (ob ++ fps.flatten) ++ (fd ++ fz), W.heap.size ≤ g') (hg : g = w5.heap.size) :
    SS1 W (w5.alloc (.cells #[.slice A1 L.length C1, .slice A2 D.length C2, .slice A3 so.length C3, .bool wh] e)) x (.pointer (some ⟨g, 0, none⟩)) := by
  subst hg
  have ho : Only [] w5 (w5.alloc (.cells #[.slice A1 L.length C1, .slice A2 D.length C2, .slice A3 so.length C3, .bool wh] e)) := (Only.refl _ _).alloc _
  exact ⟨_, A1, A2, A3, C1, C2, C3, wh, L, D, so, ob, fps, fd, fz, rfl, Blk.new w5 [.slice A1 L.length C1, .slice A2 D.length C2, .slice A3 so.length C3, .bool wh] e, hr.keep ho, he, hs, hb, hK.trans ho, hK.size⟩
end
set_option maxHeartbeats 4000000 in
theorem searchStates_any (cs : List Value) (x : Puzzle) (fp : List Nat) (w : World) (h : Rp.rep w cs x fp) :
    Calls Tryz.prog 64 #[.agg cs.toArray] w fun e w' => ((expl x = none ∧ ∃ A1 n1 C1 A2 n2 C2 A3 n3 C3 wh,  e = .returned (.tuple #[.agg #[.slice A1 n1 C1, .slice A2 n2 C2, .slice A3 n3 C3, .bool wh], .bool false])) ∨ (∃ t, expl x = some t ∧ ∃ v, e = .returned (.tuple #[v, .bool true]) ∧ SrF w.heap.size w' x t v)) ∧ Only [] w w' := by
  have h0 := h
  obtain ⟨v2, rfl, p0, p1, h2⟩ := h
  obtain ⟨A2, C2, _, _, rfl, -, -⟩ := h2.open_
  clear h2 p0 p1
  have X0 : Blk ((w.alloc (.cells #[.int .i64 x.points, .string x.names, .slice A2 x.moves.length C2] 29)).alloc (.cells #[.slice none 0 0, .slice none 0 0, .slice none 0 0, .bool false] 63)) w.heap.size [.int .i64 x.points, .string x.names, .slice A2 x.moves.length C2] := (Blk.new w [.int .i64 x.points, .string x.names, .slice A2 x.moves.length C2] 29).keep ((Only.refl _ _).alloc _)
  have Y0 : Blk ((w.alloc (.cells #[.int .i64 x.points, .string x.names, .slice A2 x.moves.length C2] 29)).alloc (.cells #[.slice none 0 0, .slice none 0 0, .slice none 0 0, .bool false] 63)) (w.heap.size + 1) [.slice none 0 0, .slice none 0 0, .slice none 0 0, .bool false] := Blk.new_at (by simp)
  rcases hq : validPz x
  · have Hn := Lib.hid (expl_none hq)
    have Hq := Lib.hid hq
    clear hq
    go_enter Tryz.func64, Tryz.ntmps64
    go_wp2_with (first
      | (go_at_call 31; (with_reducible refine (specIsValidPuzzle_any [.int .i64 x.points, .string x.names, .slice A2 x.moves.length C2] x _ _ (Rp.keep h0 (by with_reducible repeat (first | exact Only.refl _ _ | assumption | refine Only.drewN ?_ _ | refine Only.drew ?_ | refine Only.alloc ?_ _ | refine Only.setCell ?_ (by intro hh; exfalso; simp at hh; try omega) _ | refine Only.trans ?_ (by assumption))))).mono ?_); rintro e w1 ⟨he, t1⟩; rw [Hq.out] at he; subst he; have Y1 := Y0.keep t1; have g0 := Y1.cell 0 rfl; have g1 := Y1.cell 1 rfl; have g2 := Y1.cell 2 rfl; have g3 := Y1.cell 3 rfl; have p0 := Y1.frozen 0; have p1 := Y1.frozen 1; have p2 := Y1.frozen 2; have p3 := Y1.frozen 3)
      | fail "no arm")
    have K1 : Only [] w w1 := (by with_reducible repeat (first | exact Only.refl _ _ | assumption | refine Only.drewN ?_ _ | refine Only.drew ?_ | refine Only.alloc ?_ _ | refine Only.setCell ?_ (by intro hh; exfalso; simp at hh; try omega) _ | refine Only.trans ?_ (by assumption)))
    have Yf := (((Y1.set 0 (.slice none 0 0)).set 1 (.slice none 0 0)).set 2 (.slice none 0 0)).set 3 (.bool false)
    have kf : Only [] w ((((w1.setCell ⟨w.heap.size + 1, 0, none⟩ (.slice none 0 0)).setCell ⟨w.heap.size + 1, 1, none⟩ (.slice none 0 0)).setCell ⟨w.heap.size + 1, 2, none⟩ (.slice none 0 0)).setCell ⟨w.heap.size + 1, 3, none⟩ (.bool false)) := K1.then_ (((((Only.refl [w.heap.size + 1] w1).setCell (by simp) _).setCell (by simp) _).setCell (by simp) _).setCell (by simp) _) (by simp)
    obtain ⟨wf, hwf⟩ : ∃ wf, wf = ((((w1.setCell ⟨w.heap.size + 1, 0, none⟩ (.slice none 0 0)).setCell ⟨w.heap.size + 1, 1, none⟩ (.slice none 0 0)).setCell ⟨w.heap.size + 1, 2, none⟩ (.slice none 0 0)).setCell ⟨w.heap.size + 1, 3, none⟩ (.bool false)) := ⟨_, rfl⟩
    rw [← hwf] at Yf kf ⊢
    simp only [List.set] at Yf
    clear hwf g0 g1 g2 g3 p0 p1 p2 p3
    have r0 := Yf.cell 0 rfl
    have r1 := Yf.cell 1 rfl
    have r2 := Yf.cell 2 rfl
    have r3 := Yf.cell 3 rfl
    exact bodyPost_ret (v := .tuple #[.agg #[.slice none 0 0, .slice none 0 0, .slice none 0 0, .bool false], .bool false]) (by simp [results, Tryz.results64, go_sem, r0, r1, r2, r3]) rfl ⟨.inl ⟨Hn.out, _, _, _, _, _, _, _, _, _, _, rfl⟩, kf⟩
  · have hf := validPz_facts hq
    obtain ⟨hp1, hp20, -, -⟩ := hf
    have Hq := Lib.hid hq
    have hpt := trackB_pat (pts_track hq)
    have Hp := Lib.hid hpt
    have hpl : (PM.pts x.points.toNat).length ≤ 1000 := by rw [PM.pts_len]; omega
    have Hpl := Lib.hid hpl
    clear hq hpt hpl
    go_enter Tryz.func64, Tryz.ntmps64
    go_upto_region 3 with (first
      | (go_at_call 31; (with_reducible refine (specIsValidPuzzle_any [.int .i64 x.points, .string x.names, .slice A2 x.moves.length C2] x _ _ (Rp.keep h0 (by with_reducible repeat (first | exact Only.refl _ _ | assumption | refine Only.drewN ?_ _ | refine Only.drew ?_ | refine Only.alloc ?_ _ | refine Only.setCell ?_ (by intro hh; exfalso; simp at hh; try omega) _ | refine Only.trans ?_ (by assumption))))).mono ?_); rintro e w1 ⟨he, t1⟩; rw [Hq.out] at he; subst he)
      | fail "no arm")
    have X1 := X0.keep t1
    have Y1 := Y0.keep t1
    have K1 : Only [] w w1 := (by with_reducible repeat (first | exact Only.refl _ _ | assumption | refine Only.drewN ?_ _ | refine Only.drew ?_ | refine Only.alloc ?_ _ | refine Only.setCell ?_ (by intro hh; exfalso; simp at hh; try omega) _ | refine Only.trans ?_ (by assumption)))
    have hs1 : w.heap.size + 2 ≤ w1.heap.size := by have := t1.size; simp at this; omega
    have g0 := X1.cell 0 rfl
    have g1 := X1.cell 1 rfl
    have g2 := X1.cell 2 rfl
    have ka := (Only.refl [] w1).alloc (.cells #[.slice none 0 0, .slice none 0 0, .slice none 0 0, .bool false] 63)
    have ga0 := ka.cell (by simp) g0
    have ga1 := ka.cell (by simp) g1
    have ga2 := ka.cell (by simp) g2
    clear X0 Y0 t1
    have hc4 : ([.slice none 0 0, .slice none 0 0, .slice none 0 0, .bool false] : List Value).length = 4 := rfl
    go_cut [4] (fun s4 wx => SS1 w1 wx x s4)
    case first =>
      go_region_law (first
        | (go_simp; go_at_call 52; (with_reducible refine (specIdentity_i x.points _ (by omega) (by omega)).mono ?_); rintro e w5 ⟨v5, f5, rfl, r5, F5, t5⟩; have hz5 := t5.size; (try simp at hz5); have X5 := X1.keep ((by with_reducible repeat (first | exact Only.refl _ _ | assumption | refine Only.drew ?_ | refine Only.alloc ?_ _ | refine Only.trans ?_ (by assumption))) : Only [] w1 w5); have q0 := X5.cell 0 rfl; have q1 := X5.cell 1 rfl; have q2 := X5.cell 2 rfl; have kb := (Only.refl [] w5).alloc (.cells #[.slice none 0 0, .slice none 0 0, .slice none 0 0, .bool false] 63); have qa0 := kb.cell (by simp) q0; have qa1 := kb.cell (by simp) q1; have qa2 := kb.cell (by simp) q2)
        | (go_simp; go_at_call 83; (with_reducible refine (searchFrom_srt [.int .i64 x.points, .string x.names, .slice A2 x.moves.length C2] x _ _ (PM.pts x.points.toNat) _ _ (Rp.keep h0 (by with_reducible repeat (first | exact Only.refl _ _ | assumption | refine Only.drewN ?_ _ | refine Only.drew ?_ | refine Only.alloc ?_ _ | refine Only.setCell ?_ (by intro hh; exfalso; simp at hh; try omega) _ | refine Only.trans ?_ (by assumption)))) (Rp.keep r5 (by with_reducible repeat (first | exact Only.refl _ _ | assumption | refine Only.drewN ?_ _ | refine Only.drew ?_ | refine Only.alloc ?_ _ | refine Only.setCell ?_ (by intro hh; exfalso; simp at hh; try omega) _ | refine Only.trans ?_ (by assumption)))) Hq.out Hp.out Hpl.out).mono ?_); rintro e w2 ⟨B1, B2, B3, D1, D2, D3, n3, wh, L, D, fL, fD, rfl, o1, o2, o3, t2, o4, o5, o6, o7, so, ob, fps, fd, fz, o8, o9, o10, o11⟩; have O3 := Lib.hid (expl_from Hq.out o3); have O10 := Lib.hid o10; have O11 := Lib.hid o11; subst o8; clear o3 o10 o11 o1 o2 o4 o5 o6 o7; have hz2 := t2.size; (try simp at hz2); first
        | (have Z := ((Blk.new w1 [.slice none 0 0, .slice none 0 0, .slice none 0 0, .bool false] 63).keep t5).keep t2; have g0 := Z.cell 0 rfl; have g1 := Z.cell 1 rfl; have g2 := Z.cell 2 rfl; have g3 := Z.cell 3 rfl; have p0 := Z.frozen 0; have p1 := Z.frozen 1; have p2 := Z.frozen 2; have p3 := Z.frozen 3)
        | (have Z := (((Blk.new w1 [.slice none 0 0, .slice none 0 0, .slice none 0 0, .bool false] 63).keep ((Only.refl [] _).drew)).keep t5).keep t2; have g0 := Z.cell 0 rfl; have g1 := Z.cell 1 rfl; have g2 := Z.cell 2 rfl; have g3 := Z.cell 3 rfl; have p0 := Z.frozen 0; have p1 := Z.frozen 1; have p2 := Z.frozen 2; have p3 := Z.frozen 3)
        | (have Z := ((Blk.new w5 [.slice none 0 0, .slice none 0 0, .slice none 0 0, .bool false] 63)).keep t2; have g0 := Z.cell 0 rfl; have g1 := Z.cell 1 rfl; have g2 := Z.cell 2 rfl; have g3 := Z.cell 3 rfl; have p0 := Z.frozen 0; have p1 := Z.frozen 1; have p2 := Z.frozen 2; have p3 := Z.frozen 3)
        | (have Z := ((Blk.new w5 [.slice none 0 0, .slice none 0 0, .slice none 0 0, .bool false] 63).keep ((Only.refl [] _).drew)).keep t2; have g0 := Z.cell 0 rfl; have g1 := Z.cell 1 rfl; have g2 := Z.cell 2 rfl; have g3 := Z.cell 3 rfl; have p0 := Z.frozen 0; have p1 := Z.frozen 1; have p2 := Z.frozen 2; have p3 := Z.frozen 3)
        | (have Z := Blk.new w2 [.slice none 0 0, .slice none 0 0, .slice none 0 0, .bool false] 63; have g0 := Z.cell 0 rfl; have g1 := Z.cell 1 rfl; have g2 := Z.cell 2 rfl; have g3 := Z.cell 3 rfl; have p0 := Z.frozen 0; have p1 := Z.frozen 1; have p2 := Z.frozen 2; have p3 := Z.frozen 3))
        | fail "no arm")
      all_goals go_wp2_with fail
      all_goals go_meet
      all_goals have KK5 : Only [] w1 w2 := (by with_reducible repeat (first | exact Only.refl _ _ | assumption | refine Only.drew ?_ | refine Only.alloc ?_ _ | refine Only.trans ?_ (by assumption)))
      all_goals have hK2 : w1.heap.size ≤ w5.heap.size := (by omega)
      all_goals have hbb : ∀ g' ∈ (ob ++ fps.flatten) ++ (fd ++ fz), w1.heap.size ≤ g' := (fun g' hg' => by have := O11.out g' hg'; first | omega | (simp at this; omega))
      all_goals have h10 := O10.out
      all_goals rw [PM.pts_len] at h10
      all_goals first
        | with_reducible exact SS1.of2 KK5 o9 O3.out h10 hbb rfl
        | with_reducible exact SS1.of Z hc4 KK5 o9 O3.out h10 hbb (fun g' hg' e' => by have := O11.out g' hg'; first | omega | (simp at this; omega)) (by omega)
    case rest =>
      have q7 := hcut
      clear hcut
      obtain ⟨b, B1, B2, B3, D1, D2, D3, wh, L, D, so, ob, fps, fd, fz, rfl, B4, o9', o3, o10, o11, K3', hbw⟩ := q7
      have O3 := Lib.hid o3
      have O10 := Lib.hid o10
      have K3 := K1.trans K3'
      have Y1 := Y1.keep K3'
      have hne : b ≠ w.heap.size + 1 := by omega
      have c0 := B4.cell 0 rfl
      have c1 := B4.cell 1 rfl
      have c2 := B4.cell 2 rfl
      have c3 := B4.cell 3 rfl
      clear o3 o10 g0 g1 g2 ga0 ga1 ga2 ka
      have g0 := Y1.cell 0 rfl
      have g1 := Y1.cell 1 rfl
      have g2 := Y1.cell 2 rfl
      have g3 := Y1.cell 3 rfl
      have p0 := Y1.frozen 0
      have p1 := Y1.frozen 1
      have p2 := Y1.frozen 2
      have p3 := Y1.frozen 3
      have Yf := (((Y1.set 0 (.slice B1 L.length D1)).set 1 (.slice B2 D.length D2)).set 2 (.slice B3 so.length D3)).set 3 (.bool wh)
      simp only [List.set] at Yf
      have r0 := Yf.cell 0 rfl
      have r1 := Yf.cell 1 rfl
      have r2 := Yf.cell 2 rfl
      have r3 := Yf.cell 3 rfl
      have hno : ∀ g ∈ (ob ++ fps.flatten) ++ (fd ++ fz), g ∉ [w.heap.size + 1] := fun g hg hm => by have := o11 g hg; simp at hm; omega
      have hpost : ∀ wf, Only [w.heap.size + 1] wc wf → (((expl x = none ∧ ∃ A1 n1 C1 A2 n2 C2 A3 n3 C3 wh', (Ending.returned (.tuple #[.agg #[.slice B1 L.length D1, .slice B2 D.length D2, .slice B3 so.length D3, .bool wh], .bool wh]) : Ending) = .returned (.tuple #[.agg #[.slice A1 n1 C1, .slice A2 n2 C2, .slice A3 n3 C3, .bool wh'], .bool false])) ∨ (∃ t, expl x = some t ∧ ∃ v, (Ending.returned (.tuple #[.agg #[.slice B1 L.length D1, .slice B2 D.length D2, .slice B3 so.length D3, .bool wh], .bool wh]) : Ending) = .returned (.tuple #[v, .bool true]) ∧ SrF w.heap.size wf x t v)) ∧ Only [] w wf) := fun wf ho => by
        refine ⟨?_, K3.then_ ho (by simp)⟩
        have h3 := O3.out
        have h10 := O10.out
        cases wh with
        | false => exact .inl ⟨by simpa using h3, _, _, _, _, _, _, _, _, _, _, rfl⟩
        | true => exact .inr ⟨⟨PM.pts x.points.toNat, L, D⟩, by simpa using h3, _, rfl, B1, B2, B3, D1, D2, D3, so, ob, fps, fd, fz, rfl, o9'.only ho hno, h10, fun g hg => Nat.le_trans K1.size (o11 g hg)⟩
      have Hpost := Lib.hid hpost
      clear hpost
      go_wp2
      go_region
      all_goals go_wp2
      all_goals exact bodyPost_ret (v := .tuple #[.agg #[.slice B1 L.length D1, .slice B2 D.length D2, .slice B3 so.length D3, .bool wh], .bool wh]) (by simp [results, Tryz.results64, go_sem, r0, r1, r2, r3]) rfl (Hpost.out _ (by with_reducible repeat (first | exact Only.refl _ _ | refine Only.drew ?_ | refine Only.setCell ?_ (by simp) _)))
end Go.Proofs.YtndcifpbbnebmaaGreat

namespace Go.Proofs.YtndcifpbbnebmaaGreat
open Go.RowKit
set_option maxRecDepth 10000

theorem searchIndex_yes (A1 A2 A3 : Option Addr) (C1 C2 C3 : Nat) (wh : Bool) (L : List (List Int)) (D : List Int) (so : List Nat) (ob : List Nat) (fps : List (List Nat)) (fd fs : List Nat) (m : Nat) (v : Value) (s : List Int) (f : List Nat) (w : World)
    (h : SrR w A1 A2 A3 C1 C2 C3 L D so ob fps fd fs) (hS : Srt m L so) (hv : Rd w v s f) (hs : s.length = m) (hL : L.length ≤ 3000) (i : Nat) (hi : i < L.length) (hg : L.getD i [] = s) (hnd : L.Nodup) :
    Calls Tryz.prog 84 #[.agg #[.slice A1 L.length C1, .slice A2 D.length C2, .slice A3 so.length C3, .bool wh], v] w fun e w' => e = .returned (.int .i64 i) ∧ Only [] w w' := by
  refine (searchIndex_at A1 A2 A3 C1 C2 C3 wh L D so ob fps fd fs m v s f w h hS hv hs hL).mono ?_
  rintro e w' ⟨r, rfl, h1, h2, h3⟩
  have hm : s ∈ L := by rw [← hg, getD_get hi]; exact List.getElem_mem hi
  rcases h2 with rfl | ⟨k, rfl, hk, hg2⟩
  · have := h1.2 hm; omega
  · rw [getD_get hk] at hg2
    rw [getD_get hi] at hg
    have := nodup_at hnd hk hi (hg2.trans hg.symm)
    subst this
    exact ⟨rfl, h3⟩
theorem searchIndex_no (A1 A2 A3 : Option Addr) (C1 C2 C3 : Nat) (wh : Bool) (L : List (List Int)) (D : List Int) (so : List Nat) (ob : List Nat) (fps : List (List Nat)) (fd fs : List Nat) (m : Nat) (v : Value) (s : List Int) (f : List Nat) (w : World)
    (h : SrR w A1 A2 A3 C1 C2 C3 L D so ob fps fd fs) (hS : Srt m L so) (hv : Rd w v s f) (hs : s.length = m) (hL : L.length ≤ 3000) (hn : s ∉ L) :
    Calls Tryz.prog 84 #[.agg #[.slice A1 L.length C1, .slice A2 D.length C2, .slice A3 so.length C3, .bool wh], v] w fun e w' => e = .returned (.int .i64 (-1)) ∧ Only [] w w' := by
  refine (searchIndex_at A1 A2 A3 C1 C2 C3 wh L D so ob fps fd fs m v s f w h hS hv hs hL).mono ?_
  rintro e w' ⟨r, rfl, h1, h2, h3⟩
  rcases h2 with rfl | ⟨k, rfl, hk, hg2⟩
  · exact ⟨rfl, h3⟩
  · exact absurd (h1.1 (by omega)) hn
/-- the depth of a list that a search has met, -1 if it has not -/
def depT (t : Table) (s : List Int) : Int := if s ∈ t.patterns then atD t (idxL t.patterns s) else -1
theorem depT_yes {x : Puzzle} {t : Table} (hb : Built x t) {i : Nat} (hi : i < t.patterns.length) : depT t (t.patterns.getD i []) = t.distances.getD i 0 := by
  unfold depT
  rw [if_pos (by rw [getD_get hi]; exact List.getElem_mem hi), hb.idx hi]
  unfold atD
  rw [Int.toNat_natCast]
theorem depT_no {t : Table} {s : List Int} (h : s ∉ t.patterns) : depT t s = -1 := if_neg h
set_option maxHeartbeats 2000000 in
theorem depthOf_any (x : Puzzle) (t : Table) (v u : Value) (s : List Int) (f : List Nat) (w : World) {B : Nat} (h : SrF B w x t v) (hb : Built x t) (hu : Rd w u s f) (hs : s.length = x.points.toNat) :
    Calls Tryz.prog 65 #[v, u] w fun e w' => e = .returned (.int .i64 (depT t s)) ∧ Only [] w w' := by
  obtain ⟨A1, A2, A3, C1, C2, C3, so, ob, fps, fd, fz, rfl, hR, hS, -⟩ := h
  have hL := hb.ll
  have hdl : t.distances.length = t.patterns.length := hb.bi.dl
  have hnd : t.patterns.Nodup := hb.bi.nd
  have HS := Lib.hid hS
  have Hnd := Lib.hid hnd
  have Hb := Lib.hid hb
  have Hs := Lib.hid hs
  have Hdl := Lib.hid hdl
  clear hS hnd hb hs hdl
  have hB := Blk.new w [.slice A1 t.patterns.length C1, .slice A2 t.distances.length C2, .slice A3 so.length C3, .bool true] 63
  by_cases hm : s ∈ t.patterns
  · obtain ⟨i, hi, e⟩ := List.getElem_of_mem hm
    have hg : t.patterns.getD i [] = s := by rw [getD_get hi, e]
    have hd := depT_yes Hb.out hi
    rw [hg] at hd
    have hid : i < t.distances.length := by rw [Hdl.out]; exact hi
    obtain ⟨b2, off2, rfl, -, hc0⟩ := hR.dp.at_ i hid
    have hdv : t.distances.getD i 0 = t.distances[i] := getD_get hid
    have Hd := Lib.hid (hd.trans hdv)
    have Hg := Lib.hid hg
    clear hm e hg hd hdv
    go_enter Tryz.func65, Tryz.ntmps65
    go_wp2_with (first
      | (go_at_call 84; (with_reducible refine (searchIndex_yes A1 (some ⟨b2, off2, none⟩) A3 C1 C2 C3 true t.patterns t.distances so ob fps fd fz x.points.toNat _ s f _ (hR.keep (by with_reducible repeat (first | exact Only.refl _ _ | assumption | refine Only.drewN ?_ _ | refine Only.drew ?_ | refine Only.alloc ?_ _ | refine Only.setCell ?_ (by intro hh; exfalso; simp at hh; try omega) _ | refine Only.trans ?_ (by assumption)))) HS.out (Rp.keep hu (by with_reducible repeat (first | exact Only.refl _ _ | assumption | refine Only.drewN ?_ _ | refine Only.drew ?_ | refine Only.alloc ?_ _ | refine Only.setCell ?_ (by intro hh; exfalso; simp at hh; try omega) _ | refine Only.trans ?_ (by assumption)))) Hs.out hL i hi Hg.out Hnd.out).mono ?_); rintro e w1 ⟨rfl, t1⟩; have y1 := (hB.keep t1).cell 1 rfl; have y2 := (((Only.refl [] w).alloc _).trans t1).cell (by simp) hc0)
      | fail "no arm")
    go_ret
    exact ⟨ret_int Hd.out.symm, (by with_reducible repeat (first | exact Only.refl _ _ | assumption | refine Only.drewN ?_ _ | refine Only.drew ?_ | refine Only.alloc ?_ _ | refine Only.setCell ?_ (by intro hh; exfalso; simp at hh; try omega) _ | refine Only.trans ?_ (by assumption)))⟩
  · have Hd := Lib.hid (depT_no hm)
    have Hm := Lib.hid hm
    clear hm
    go_enter Tryz.func65, Tryz.ntmps65
    go_wp2_with (first
      | (go_at_call 84; (with_reducible refine (searchIndex_no A1 A2 A3 C1 C2 C3 true t.patterns t.distances so ob fps fd fz x.points.toNat _ s f _ (hR.keep (by with_reducible repeat (first | exact Only.refl _ _ | assumption | refine Only.drewN ?_ _ | refine Only.drew ?_ | refine Only.alloc ?_ _ | refine Only.setCell ?_ (by intro hh; exfalso; simp at hh; try omega) _ | refine Only.trans ?_ (by assumption)))) HS.out (Rp.keep hu (by with_reducible repeat (first | exact Only.refl _ _ | assumption | refine Only.drewN ?_ _ | refine Only.drew ?_ | refine Only.alloc ?_ _ | refine Only.setCell ?_ (by intro hh; exfalso; simp at hh; try omega) _ | refine Only.trans ?_ (by assumption)))) Hs.out hL Hm.out).mono ?_); rintro e w1 ⟨rfl, t1⟩; have y1 := (hB.keep t1).cell 1 rfl)
      | fail "no arm")
    go_ret
    exact ⟨ret_int Hd.out.symm, (by with_reducible repeat (first | exact Only.refl _ _ | assumption | refine Only.drewN ?_ _ | refine Only.drew ?_ | refine Only.alloc ?_ _ | refine Only.setCell ?_ (by intro hh; exfalso; simp at hh; try omega) _ | refine Only.trans ?_ (by assumption)))⟩
theorem searchStates_no (cs : List Value) (x : Puzzle) (fp : List Nat) (w : World) (h : Rp.rep w cs x fp) (he : expl x = none) :
    Calls Tryz.prog 64 #[.agg cs.toArray] w fun e w' => ∃ A1 n1 C1 A2 n2 C2 A3 n3 C3 wh, e = .returned (.tuple #[.agg #[.slice A1 n1 C1, .slice A2 n2 C2, .slice A3 n3 C3, .bool wh], .bool false]) ∧ Only [] w w' := by
  refine (searchStates_any cs x fp w h).mono ?_
  rintro e w' ⟨⟨-, A1, n1, C1, A2, n2, C2, A3, n3, C3, wh, rfl⟩ | ⟨t, h1, -⟩, ho⟩
  · exact ⟨A1, n1, C1, A2, n2, C2, A3, n3, C3, wh, rfl, ho⟩
  · rw [he] at h1; cases h1
theorem searchStates_yes (cs : List Value) (x : Puzzle) (t : Table) (fp : List Nat) (w : World) (h : Rp.rep w cs x fp) (he : expl x = some t) :
    Calls Tryz.prog 64 #[.agg cs.toArray] w fun e w' => ∃ A1 n1 C1 A2 n2 C2 A3 n3 C3 wh, e = .returned (.tuple #[.agg #[.slice A1 n1 C1, .slice A2 n2 C2, .slice A3 n3 C3, .bool wh], .bool true]) ∧ SrF w.heap.size w' x t (.agg #[.slice A1 n1 C1, .slice A2 n2 C2, .slice A3 n3 C3, .bool wh]) ∧ Only [] w w' := by
  refine (searchStates_any cs x fp w h).mono ?_
  rintro e w' ⟨⟨h1, -⟩ | ⟨t', h1, v, rfl, h2⟩, ho⟩
  · rw [he] at h1; cases h1
  · rw [he] at h1
    injection h1 with h1
    subst h1
    have h3 := h2
    obtain ⟨A1, A2, A3, C1, C2, C3, so, ob, fps, fd, fz, rfl, -⟩ := h3
    exact ⟨_, _, _, _, _, _, _, _, _, _, rfl, h2, ho⟩
theorem distX_dep {x : Puzzle} {t : Table} {s : List Int} (ht : expl x = some t) : distX x s = depT t s := by
  rcases hr : reachB x s
  · rw [distX_no hr, depT_no]
    intro hm
    rw [(expl_reach ht).1 hm] at hr; cases hr
  · unfold distX depT
    rw [ht, if_pos ((expl_reach ht).2 hr)]
    show (if reachB x s = true then _ else _) = _
    rw [if_pos hr]
theorem distX_nost {x : Puzzle} {s : List Int} (h : stateB x s = false) : distX x s = -1 := distX_no (by unfold reachB; rw [h]; rfl)
theorem store4 {w1 : World} {r : Nat} {o0 o1 o2 o3 : Value} (hR : Blk w1 r [o0, o1, o2, o3]) (a b c d : Value) :
    Blk ((((w1.setCell ⟨r, 0, none⟩ a).setCell ⟨r, 1, none⟩ b).setCell ⟨r, 2, none⟩ c).setCell ⟨r, 3, none⟩ d) r [a, b, c, d] ∧
    Only [r] w1 ((((w1.setCell ⟨r, 0, none⟩ a).setCell ⟨r, 1, none⟩ b).setCell ⟨r, 2, none⟩ c).setCell ⟨r, 3, none⟩ d) := by
  refine ⟨?_, ((((Only.refl _ _).setCell (by simp) _).setCell (by simp) _).setCell (by simp) _).setCell (by simp) _⟩
  exact (((hR.set 0 a).set 1 b).set 2 c).set 3 d
set_option maxHeartbeats 4000000 in
theorem searchState_any (cs : List Value) (x : Puzzle) (fp : List Nat) (v : Value) (s : List Int) (fs : List Nat) (w : World) (h : Rp.rep w cs x fp) (hs : Rd w v s fs) :
    Calls Tryz.prog 38 #[.agg cs.toArray, v] w fun e w' => ∃ A1 n1 C1 A2 n2 C2 A3 n3 C3 wh, e = .returned (.tuple #[.agg #[.slice A1 n1 C1, .slice A2 n2 C2, .slice A3 n3 C3, .bool wh], .int .i64 (distX x s), .bool (decide (0 ≤ distX x s))]) ∧ (∀ t, expl x = some t → SrF w.heap.size w' x t (.agg #[.slice A1 n1 C1, .slice A2 n2 C2, .slice A3 n3 C3, .bool wh])) ∧ Only [] w w' := by
  have h0 := h
  obtain ⟨v2, rfl, p0, p1, h2⟩ := h
  clear p0 p1 h2
  have X0 : Blk ((w.alloc (.cells #[.int .i64 x.points, .string x.names, v2] 29)).alloc (.cells #[.slice none 0 0, .slice none 0 0, .slice none 0 0, .bool false] 63)) w.heap.size [.int .i64 x.points, .string x.names, v2] := (Blk.new w [.int .i64 x.points, .string x.names, v2] 29).keep ((Only.refl _ _).alloc _)
  have Y0 : Blk ((w.alloc (.cells #[.int .i64 x.points, .string x.names, v2] 29)).alloc (.cells #[.slice none 0 0, .slice none 0 0, .slice none 0 0, .bool false] 63)) (w.heap.size + 1) [.slice none 0 0, .slice none 0 0, .slice none 0 0, .bool false] := Blk.new_at (by simp)
  rcases he : expl x with _ | t
  · have Hn := Lib.hid (distX_none (s := s) he)
    have He := Lib.hid he
    clear he
    go_enter Tryz.func38, Tryz.ntmps38
    go_wp2_with (first
      | (go_at_call 64; (with_reducible refine (searchStates_no [.int .i64 x.points, .string x.names, v2] x _ _ (Rp.keep h0 (by with_reducible repeat (first | exact Only.refl _ _ | assumption | refine Only.drewN ?_ _ | refine Only.drew ?_ | refine Only.alloc ?_ _ | refine Only.setCell ?_ (by intro hh; exfalso; simp at hh; try omega) _ | refine Only.trans ?_ (by assumption)))) He.out).mono ?_); rintro e w1 ⟨A1, n1, C1, A2, n2, C2, A3, n3, C3, wh, rfl, t1⟩; have Z := Blk.new w1 [.slice none 0 0, .slice none 0 0, .slice none 0 0, .bool false] 63; have z0 := Z.cell 0 rfl; have z1 := Z.cell 1 rfl; have z2 := Z.cell 2 rfl; have z3 := Z.cell 3 rfl; have zp0 := Z.frozen 0; have zp1 := Z.frozen 1; have zp2 := Z.frozen 2; have zp3 := Z.frozen 3; have Y1 := (Y0.keep t1).keep ((Only.refl [] _).alloc (.cells #[.slice A1 n1 C1, .slice A2 n2 C2, .slice A3 n3 C3, .bool wh] 63)); have U1 := Blk.new w1 [.slice A1 n1 C1, .slice A2 n2 C2, .slice A3 n3 C3, .bool wh] 63; have a0 := U1.cell 0 rfl; have a1 := U1.cell 1 rfl; have a2 := U1.cell 2 rfl; have a3 := U1.cell 3 rfl; have g0 := Y1.cell 0 rfl; have g1 := Y1.cell 1 rfl; have g2 := Y1.cell 2 rfl; have g3 := Y1.cell 3 rfl; have p0 := Y1.frozen 0; have p1 := Y1.frozen 1; have p2 := Y1.frozen 2; have p3 := Y1.frozen 3)
      | fail "no arm")
    have K1 : Only [] w (w1.alloc (.cells #[.slice A1 n1 C1, .slice A2 n2 C2, .slice A3 n3 C3, .bool wh] 63)) := (by with_reducible repeat (first | exact Only.refl _ _ | assumption | refine Only.drewN ?_ _ | refine Only.drew ?_ | refine Only.alloc ?_ _ | refine Only.setCell ?_ (by intro hh; exfalso; simp at hh; try omega) _ | refine Only.trans ?_ (by assumption)))
    obtain ⟨Yf, kf⟩ := store4 Y1 (.slice A1 n1 C1) (.slice A2 n2 C2) (.slice A3 n3 C3) (.bool wh)
    obtain ⟨wf, hwf⟩ : ∃ wf, wf = (((((w1.alloc (.cells #[.slice A1 n1 C1, .slice A2 n2 C2, .slice A3 n3 C3, .bool wh] 63)).setCell ⟨w.heap.size + 1, 0, none⟩ (.slice A1 n1 C1)).setCell ⟨w.heap.size + 1, 1, none⟩ (.slice A2 n2 C2)).setCell ⟨w.heap.size + 1, 2, none⟩ (.slice A3 n3 C3)).setCell ⟨w.heap.size + 1, 3, none⟩ (.bool wh)) := ⟨_, rfl⟩
    rw [← hwf] at Yf kf ⊢
    clear hwf g0 g1 g2 g3 p0 p1 p2 p3
    have r0 := Yf.cell 0 rfl
    have r1 := Yf.cell 1 rfl
    have r2 := Yf.cell 2 rfl
    have r3 := Yf.cell 3 rfl
    refine bodyPost_ret (v := .tuple #[.agg #[.slice A1 n1 C1, .slice A2 n2 C2, .slice A3 n3 C3, .bool wh], .int .i64 (-1), .bool false]) (by simp [results, Tryz.results38, go_sem, r0, r1, r2, r3]) rfl ⟨A1, n1, C1, A2, n2, C2, A3, n3, C3, wh, by rw [Hn.out]; rfl, fun t h9 => (by cases h9), K1.then_ kf (by simp)⟩
  · obtain ⟨hb, -⟩ := expl_built he
    have He := Lib.hid he
    have Hb := Lib.hid hb
    clear he hb
    rcases hq : stateB x s
    · have Hn := Lib.hid (distX_nost hq)
      have Hq := Lib.hid hq
      clear hq
      go_enter Tryz.func38, Tryz.ntmps38
      go_wp2_with (first
        | (go_at_call 64; (with_reducible refine (searchStates_yes [.int .i64 x.points, .string x.names, v2] x t _ _ (Rp.keep h0 (by with_reducible repeat (first | exact Only.refl _ _ | assumption | refine Only.drewN ?_ _ | refine Only.drew ?_ | refine Only.alloc ?_ _ | refine Only.setCell ?_ (by intro hh; exfalso; simp at hh; try omega) _ | refine Only.trans ?_ (by assumption)))) He.out).mono ?_); rintro e w1 ⟨A1, n1, C1, A2, n2, C2, A3, n3, C3, wh, rfl, hS, t1⟩; have Z := Blk.new w1 [.slice none 0 0, .slice none 0 0, .slice none 0 0, .bool false] 63; have z0 := Z.cell 0 rfl; have z1 := Z.cell 1 rfl; have z2 := Z.cell 2 rfl; have z3 := Z.cell 3 rfl; have zp0 := Z.frozen 0; have zp1 := Z.frozen 1; have zp2 := Z.frozen 2; have zp3 := Z.frozen 3; have X1 := (X0.keep t1).keep ((Only.refl [] _).alloc (.cells #[.slice A1 n1 C1, .slice A2 n2 C2, .slice A3 n3 C3, .bool wh] 63)); have x0 := X1.cell 0 rfl; have x1 := X1.cell 1 rfl; have x2 := X1.cell 2 rfl; have Y1 := (Y0.keep t1).keep ((Only.refl [] _).alloc (.cells #[.slice A1 n1 C1, .slice A2 n2 C2, .slice A3 n3 C3, .bool wh] 63)); have U1 := Blk.new w1 [.slice A1 n1 C1, .slice A2 n2 C2, .slice A3 n3 C3, .bool wh] 63)
        | (go_at_call 25; (with_reducible refine (specIsState_any [.int .i64 x.points, .string x.names, v2] x _ _ s _ _ (Rp.keep h0 (by with_reducible repeat (first | exact Only.refl _ _ | assumption | refine Only.drewN ?_ _ | refine Only.drew ?_ | refine Only.alloc ?_ _ | refine Only.setCell ?_ (by intro hh; exfalso; simp at hh; try omega) _ | refine Only.trans ?_ (by assumption)))) (Rp.keep hs (by with_reducible repeat (first | exact Only.refl _ _ | assumption | refine Only.drewN ?_ _ | refine Only.drew ?_ | refine Only.alloc ?_ _ | refine Only.setCell ?_ (by intro hh; exfalso; simp at hh; try omega) _ | refine Only.trans ?_ (by assumption))))).mono ?_); rintro e w2 ⟨he, t2⟩; rw [Hq.out] at he; subst he; have U2 := U1.keep t2; have Y2 := Y1.keep t2; have a0 := U2.cell 0 rfl; have a1 := U2.cell 1 rfl; have a2 := U2.cell 2 rfl; have a3 := U2.cell 3 rfl; have g0 := Y2.cell 0 rfl; have g1 := Y2.cell 1 rfl; have g2 := Y2.cell 2 rfl; have g3 := Y2.cell 3 rfl; have p0 := Y2.frozen 0; have p1 := Y2.frozen 1; have p2 := Y2.frozen 2; have p3 := Y2.frozen 3)
        | fail "no arm")
      have K1 : Only [] w w2 := (by with_reducible repeat (first | exact Only.refl _ _ | assumption | refine Only.drewN ?_ _ | refine Only.drew ?_ | refine Only.alloc ?_ _ | refine Only.setCell ?_ (by intro hh; exfalso; simp at hh; try omega) _ | refine Only.trans ?_ (by assumption)))
      have hS2 := SrF.keep hS (((Only.refl [] w1).alloc (.cells #[.slice A1 n1 C1, .slice A2 n2 C2, .slice A3 n3 C3, .bool wh] 63)).trans t2)
      have Y9 := Y2
      obtain ⟨Yf, kf⟩ := store4 Y9 (.slice A1 n1 C1) (.slice A2 n2 C2) (.slice A3 n3 C3) (.bool wh)
      obtain ⟨wf, hwf⟩ : ∃ wf, wf = ((((w2.setCell ⟨w.heap.size + 1, 0, none⟩ (.slice A1 n1 C1)).setCell ⟨w.heap.size + 1, 1, none⟩ (.slice A2 n2 C2)).setCell ⟨w.heap.size + 1, 2, none⟩ (.slice A3 n3 C3)).setCell ⟨w.heap.size + 1, 3, none⟩ (.bool wh)) := ⟨_, rfl⟩
      rw [← hwf] at Yf kf ⊢
      clear hwf g0 g1 g2 g3 p0 p1 p2 p3
      have r0 := Yf.cell 0 rfl
      have r1 := Yf.cell 1 rfl
      have r2 := Yf.cell 2 rfl
      have r3 := Yf.cell 3 rfl
      exact bodyPost_ret (v := .tuple #[.agg #[.slice A1 n1 C1, .slice A2 n2 C2, .slice A3 n3 C3, .bool wh], .int .i64 (-1), .bool false]) (by simp [results, Tryz.results38, go_sem, r0, r1, r2, r3]) rfl ⟨A1, n1, C1, A2, n2, C2, A3, n3, C3, wh, by rw [Hn.out]; rfl, fun t' h9 => (by injection h9 with h9; subst h9; exact (SrF.only hS2 kf (by intro b hb; simp at hb; subst hb; simp)).mono (by simp; omega)), K1.then_ kf (by simp)⟩
    · have hsl : s.length = x.points.toNat := (stateB_pn hq).2.2.2.1
      have Hq := Lib.hid hq
      have Hsl := Lib.hid hsl
      have Hd := Lib.hid (distX_dep (s := s) He.out)
      clear hq hsl
      go_enter Tryz.func38, Tryz.ntmps38
      go_wp2_with (first
        | (go_at_call 64; (with_reducible refine (searchStates_yes [.int .i64 x.points, .string x.names, v2] x t _ _ (Rp.keep h0 (by with_reducible repeat (first | exact Only.refl _ _ | assumption | refine Only.drewN ?_ _ | refine Only.drew ?_ | refine Only.alloc ?_ _ | refine Only.setCell ?_ (by intro hh; exfalso; simp at hh; try omega) _ | refine Only.trans ?_ (by assumption)))) He.out).mono ?_); rintro e w1 ⟨A1, n1, C1, A2, n2, C2, A3, n3, C3, wh, rfl, hS, t1⟩; have Z := Blk.new w1 [.slice none 0 0, .slice none 0 0, .slice none 0 0, .bool false] 63; have z0 := Z.cell 0 rfl; have z1 := Z.cell 1 rfl; have z2 := Z.cell 2 rfl; have z3 := Z.cell 3 rfl; have zp0 := Z.frozen 0; have zp1 := Z.frozen 1; have zp2 := Z.frozen 2; have zp3 := Z.frozen 3; have X1 := (X0.keep t1).keep ((Only.refl [] _).alloc (.cells #[.slice A1 n1 C1, .slice A2 n2 C2, .slice A3 n3 C3, .bool wh] 63)); have x0 := X1.cell 0 rfl; have x1 := X1.cell 1 rfl; have x2 := X1.cell 2 rfl; have Y1 := (Y0.keep t1).keep ((Only.refl [] _).alloc (.cells #[.slice A1 n1 C1, .slice A2 n2 C2, .slice A3 n3 C3, .bool wh] 63)); have U1 := Blk.new w1 [.slice A1 n1 C1, .slice A2 n2 C2, .slice A3 n3 C3, .bool wh] 63)
        | (go_at_call 25; (with_reducible refine (specIsState_any [.int .i64 x.points, .string x.names, v2] x _ _ s _ _ (Rp.keep h0 (by with_reducible repeat (first | exact Only.refl _ _ | assumption | refine Only.drewN ?_ _ | refine Only.drew ?_ | refine Only.alloc ?_ _ | refine Only.setCell ?_ (by intro hh; exfalso; simp at hh; try omega) _ | refine Only.trans ?_ (by assumption)))) (Rp.keep hs (by with_reducible repeat (first | exact Only.refl _ _ | assumption | refine Only.drewN ?_ _ | refine Only.drew ?_ | refine Only.alloc ?_ _ | refine Only.setCell ?_ (by intro hh; exfalso; simp at hh; try omega) _ | refine Only.trans ?_ (by assumption))))).mono ?_); rintro e w2 ⟨he, t2⟩; rw [Hq.out] at he; subst he; have U2 := U1.keep t2; have Y2 := Y1.keep t2; have b0 := U2.cell 0 rfl; have b1 := U2.cell 1 rfl; have b2 := U2.cell 2 rfl; have b3 := U2.cell 3 rfl; have hS2 := SrF.keep hS (((Only.refl [] w1).alloc (.cells #[.slice A1 n1 C1, .slice A2 n2 C2, .slice A3 n3 C3, .bool wh] 63)).trans t2))
        | (go_at_call 65; (with_reducible refine (depthOf_any x t _ _ s _ _ hS2 Hb.out (Rp.keep hs (by with_reducible repeat (first | exact Only.refl _ _ | assumption | refine Only.drewN ?_ _ | refine Only.drew ?_ | refine Only.alloc ?_ _ | refine Only.setCell ?_ (by intro hh; exfalso; simp at hh; try omega) _ | refine Only.trans ?_ (by assumption)))) Hsl.out).mono ?_); rintro e w3 ⟨he, t3⟩; rw [← Hd.out] at he; subst he; have U3 := U2.keep t3; have Y9 := Y2.keep t3; have a0 := U3.cell 0 rfl; have a1 := U3.cell 1 rfl; have a2 := U3.cell 2 rfl; have a3 := U3.cell 3 rfl; have g0 := Y9.cell 0 rfl; have g1 := Y9.cell 1 rfl; have g2 := Y9.cell 2 rfl; have g3 := Y9.cell 3 rfl; have p0 := Y9.frozen 0; have p1 := Y9.frozen 1; have p2 := Y9.frozen 2; have p3 := Y9.frozen 3)
        | fail "no arm")
      have K1 : Only [] w w3 := (by with_reducible repeat (first | exact Only.refl _ _ | assumption | refine Only.drewN ?_ _ | refine Only.drew ?_ | refine Only.alloc ?_ _ | refine Only.setCell ?_ (by intro hh; exfalso; simp at hh; try omega) _ | refine Only.trans ?_ (by assumption)))
      have hS3 := SrF.keep hS2 t3
      obtain ⟨Yf, kf⟩ := store4 Y9 (.slice A1 n1 C1) (.slice A2 n2 C2) (.slice A3 n3 C3) (.bool wh)
      obtain ⟨wf, hwf⟩ : ∃ wf, wf = ((((w3.setCell ⟨w.heap.size + 1, 0, none⟩ (.slice A1 n1 C1)).setCell ⟨w.heap.size + 1, 1, none⟩ (.slice A2 n2 C2)).setCell ⟨w.heap.size + 1, 2, none⟩ (.slice A3 n3 C3)).setCell ⟨w.heap.size + 1, 3, none⟩ (.bool wh)) := ⟨_, rfl⟩
      rw [← hwf] at Yf kf ⊢
      clear hwf g0 g1 g2 g3 p0 p1 p2 p3
      have r0 := Yf.cell 0 rfl
      have r1 := Yf.cell 1 rfl
      have r2 := Yf.cell 2 rfl
      have r3 := Yf.cell 3 rfl
      exact bodyPost_ret (v := .tuple #[.agg #[.slice A1 n1 C1, .slice A2 n2 C2, .slice A3 n3 C3, .bool wh], .int .i64 (distX x s), .bool (decide (0 ≤ distX x s))]) (by simp [results, Tryz.results38, go_sem, r0, r1, r2, r3]) rfl ⟨A1, n1, C1, A2, n2, C2, A3, n3, C3, wh, rfl, fun t' h9 => (by injection h9 with h9; subst h9; exact (SrF.only hS3 kf (by intro b hb; simp at hb; subst hb; simp)).mono (by simp; omega)), K1.then_ kf (by simp)⟩
set_option maxHeartbeats 4000000 in
theorem specDistance_any (cs : List Value) (x : Puzzle) (fp : List Nat) (v : Value) (s : List Int) (fs : List Nat) (w : World) (h : Rp.rep w cs x fp) (hs : Rd w v s fs) :
    Calls Tryz.prog 18 #[.agg cs.toArray, v] w fun e w' => e = .returned (.int .i64 (distX x s)) ∧ Only [] w w' := by
  have h0 := h
  obtain ⟨v2, rfl, p0, p1, h2⟩ := h
  clear p0 p1 h2
  by_cases hd : 0 ≤ distX x s
  · have hdb : decide (0 ≤ distX x s) = true := decide_eq_true hd
    have Hdb := Lib.hid hdb
    clear hdb hd
    go_enter Tryz.func18, Tryz.ntmps18
    go_wp2_with (first
      | (go_at_call 38; (with_reducible refine (searchState_any [.int .i64 x.points, .string x.names, v2] x _ v s _ _ (Rp.keep h0 (by with_reducible repeat (first | exact Only.refl _ _ | assumption | refine Only.drewN ?_ _ | refine Only.drew ?_ | refine Only.alloc ?_ _ | refine Only.setCell ?_ (by intro hh; exfalso; simp at hh; try omega) _ | refine Only.trans ?_ (by assumption)))) (Rp.keep hs (by with_reducible repeat (first | exact Only.refl _ _ | assumption | refine Only.drewN ?_ _ | refine Only.drew ?_ | refine Only.alloc ?_ _ | refine Only.setCell ?_ (by intro hh; exfalso; simp at hh; try omega) _ | refine Only.trans ?_ (by assumption))))).mono ?_); rintro e w1 ⟨A1, n1, C1, A2, n2, C2, A3, n3, C3, wh, he, q1, t1⟩; rw [Hdb.out] at he; subst he)
      | fail "no arm")
    go_ret
    exact ⟨rfl, (by with_reducible repeat (first | exact Only.refl _ _ | assumption | refine Only.drewN ?_ _ | refine Only.drew ?_ | refine Only.alloc ?_ _ | refine Only.setCell ?_ (by intro hh; exfalso; simp at hh; try omega) _ | refine Only.trans ?_ (by assumption)))⟩
  · have hdb : decide (0 ≤ distX x s) = false := decide_eq_false hd
    have Hdb := Lib.hid hdb
    have hn : distX x s = -1 := by
      rcases distX_or x s with h1 | h1
      · exact h1
      · exact absurd h1.1 hd
    have Hn := Lib.hid hn
    clear hdb hd hn
    go_enter Tryz.func18, Tryz.ntmps18
    go_wp2_with (first
      | (go_at_call 38; (with_reducible refine (searchState_any [.int .i64 x.points, .string x.names, v2] x _ v s _ _ (Rp.keep h0 (by with_reducible repeat (first | exact Only.refl _ _ | assumption | refine Only.drewN ?_ _ | refine Only.drew ?_ | refine Only.alloc ?_ _ | refine Only.setCell ?_ (by intro hh; exfalso; simp at hh; try omega) _ | refine Only.trans ?_ (by assumption)))) (Rp.keep hs (by with_reducible repeat (first | exact Only.refl _ _ | assumption | refine Only.drewN ?_ _ | refine Only.drew ?_ | refine Only.alloc ?_ _ | refine Only.setCell ?_ (by intro hh; exfalso; simp at hh; try omega) _ | refine Only.trans ?_ (by assumption))))).mono ?_); rintro e w1 ⟨A1, n1, C1, A2, n2, C2, A3, n3, C3, wh, he, q1, t1⟩; rw [Hdb.out] at he; subst he)
      | fail "no arm")
    go_ret
    exact ⟨ret_int Hn.out.symm, (by with_reducible repeat (first | exact Only.refl _ _ | assumption | refine Only.drewN ?_ _ | refine Only.drew ?_ | refine Only.alloc ?_ _ | refine Only.setCell ?_ (by intro hh; exfalso; simp at hh; try omega) _ | refine Only.trans ?_ (by assumption)))⟩
end Go.Proofs.YtndcifpbbnebmaaGreat

namespace Go.Proofs.YtndcifpbbnebmaaGreat
open Go.RowKit
set_option maxRecDepth 10000

/-- the way down from a state: the word so far (o), the state at hand (s2) -/
structure DWn (x : Puzzle) (t : Table) (w W0 : World) (e : TypeId) (G : List Nat) (wr : World) (o s2 : Value) (dn : List Int) (i : Nat) (f2 : List Nat) : Prop where
  acc : AccI w.heap.size e wr o dn
  rd : Rd wr s2 (t.patterns.getD i []) f2
  ap : ∀ b ∈ f2, o.ownBlock ≠ some b
  on : Only [] w wr
  kp : ∀ b ∈ G, wr.heap[b]? = W0.heap[b]?
  ga : ∀ b ∈ G, o.ownBlock ≠ some b
  gl : ∀ b ∈ G, b < wr.heap.size
section
variable {x : Puzzle} {t : Table} {w W0 : World} {e : TypeId} {G : List Nat} {wr w' : World} {o s2 : Value} {dn : List Int} {i : Nat} {f2 : List Nat}
theorem DWn.keep (h : DWn x t w W0 e G wr o s2 dn i f2) (ho : Only [] wr w') : DWn x t w W0 e G w' o s2 dn i f2 :=
  ⟨h.acc.keep ho, Rp.keep h.rd ho, h.ap, h.on.trans ho, fun b hb => (ho.block b (h.gl b hb) (by simp)).trans (h.kp b hb), h.ga, fun b hb => Nat.lt_of_lt_of_le (h.gl b hb) ho.size⟩
theorem DWn.old (h : DWn x t w W0 e G wr o s2 dn i f2) {β : Type} [Rp β] {cs : List Value} {y : β} {fp : List Nat} (hr : Rp.rep W0 cs y fp) (hf : ∀ b ∈ fp, b ∈ G) : Rp.rep wr cs y fp := Rp.frame hr fun b hb => h.kp b (hf b hb)
theorem DWn.blk (h : DWn x t w W0 e G wr o s2 dn i f2) {g : Nat} {cs : List Value} (hb : Blk W0 g cs) (hg : g ∈ G) : Blk wr g cs := by
  obtain ⟨ty, hb⟩ := hb
  exact ⟨ty, (h.kp g hg).trans hb⟩
theorem DWn.ints (h : DWn x t w W0 e G wr o s2 dn i f2) {a : Option Addr} {c : Nat} {l : List Int} {fp : List Nat} (hr : IntsA W0 a c l fp) (hf : ∀ b ∈ fp, b ∈ G) : IntsA wr a c l fp := hr.frame fun b hb => h.kp b (hf b hb)
theorem DWn.step {wa wb : World} {o' s3 : Value} {l : Int} {j : Nat} {f3 : List Nat} (h : DWn x t w W0 e G wr o s2 dn i f2) (hk : Only [] wr wa) (hA : AccI w.heap.size e wb o' (dn ++ [l])) (oA : Only o.ownBlock.toList wa wb) (nA : o'.ownBlock = o.ownBlock ∨ o'.ownBlock = some wa.heap.size)
    (hP : ∀ wz, Only [] wz wa → wz.heap.size ≤ w.heap.size → Only [] wz wb) (hr : Rd wa s3 (t.patterns.getD j []) f3) (hf : ∀ b ∈ f3, o.ownBlock ≠ some b) : DWn x t w W0 e G wb o' s3 (dn ++ [l]) j f3 := by
  have h1 := h.keep hk
  refine ⟨hA, Rp.only hr oA (fun b hb hm => hf b hb (by simpa using hm)), fun b hb => own_after nA (hf b hb) (Rp.lt hr b hb), hP w h1.on (Nat.le_refl _), fun b hb => ?_, fun b hb => own_after nA (h1.ga b hb) (h1.gl b hb), fun b hb => Nat.lt_of_lt_of_le (h1.gl b hb) oA.size⟩
  rw [oA.block b (h1.gl b hb) (fun hm => h1.ga b hb (by simpa using hm))]
  exact h1.kp b hb
end
end Go.Proofs.YtndcifpbbnebmaaGreat
