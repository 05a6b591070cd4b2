/- The reference's DrawIsAdmissibleTable, DrawIsCorrectTable (laws 49, 26). Bounds only. (Printed by mkvdr4.py.) A search of the patterns of a puzzle with at most five points ends (laws 26, 49): plain facts. The program's DescentLetter. (Written by mkdesc.py.) The reference's table functions: faults, admissible tables, descents. (Written by mkspectab4.py.) The program's faults of a table. (Written by mkadm.py.) The laws' own comparison of numbers: likeInts (laws 10, 11). The law on verified tables (law 26): its walk. (Printed by mkverlaw.py.) -/
import Derived.Test.YtpkplmnpepkdaaaRowVerifiedTablesG16
import Derived.Test.YtpkplmnpepkdaaaRowVerifiedTablesG7
import Derived.Test.YtpkplmnpepkdaaaRowVerifiedTablesG8
import Derived.Test.YtpkplmnpepkdaaaRowVerifiedTablesG15
import Derived.Test.YtpkplmnpepkdaaaRowVerifiedTablesG9
import Derived.Test.YtpkplmnpepkdaaaRowVerifiedTablesG4
import Derived.Test.YtpkplmnpepkdaaaRowVerifiedTablesG2
import Derived.Deep.RegionLaw
import Derived.Deep.RegionHeld3
import Derived.BigQuiet
namespace Go.Proofs.Ytpkplmnpepkdaaa
open Go.RowKit
set_option maxRecDepth 10000

/-- drawn: a puzzle (if valid, of few points) and a table -/
def DTab (w : World) (e : Ending) (w' : World) : Prop :=
  ∃ (n : Int) (nm : ByteArray) (am : Option Addr) (cm : Nat) (gs : List (List Int)) (fp : List Nat) (v1 v2 v3 : Value) (t : Table) (f : List Nat), e = .returned (.tuple #[.agg #[.int .i64 n, .string nm, .slice am gs.length cm], .agg #[v1, v2, v3]]) ∧ Rp.rep w' [.int .i64 n, .string nm, .slice am gs.length cm] (⟨n, nm, gs⟩ : Puzzle) fp ∧ Rp.rep w' [v1, v2, v3] t f ∧ midT t ∧ (validPz (⟨n, nm, gs⟩ : Puzzle) = true → n ≤ 5) ∧ gs.length ≤ 9 ∧ Only [] w w'
theorem DTab.mk {w V : World} {n : Int} {nm : ByteArray} {am : Option Addr} {cm : Nat} {gs : List (List Int)} {fp : List Nat} {v1 v2 v3 x0 x1 x2 y0 y1 y2 : Value} (k : Only [] w V) (R0 : Blk V w.heap.size [x0, x1, x2]) (R1 : Blk V (w.heap.size + 1) [y0, y1, y2])
    (hn : I64 n) (h2 : nm.size ≤ 20) (h3 : Rd V (.slice am gs.length cm) gs fp) (h4 : ∀ b ∈ fp, w.heap.size + 2 ≤ b) (h5 : gs.length ≤ 9) (h7 : validPz (⟨n, nm, gs⟩ : Puzzle) = true → n ≤ 5) (hT : JT (w.heap.size + 2) V v1 v2 v3) :
    Blk ((((((V.setCell ⟨w.heap.size, 0, none⟩ (.int .i64 n)).setCell ⟨w.heap.size, 1, none⟩ (.string nm)).setCell ⟨w.heap.size, 2, none⟩ (.slice am gs.length cm)).setCell ⟨w.heap.size + 1, 0, none⟩ v1).setCell ⟨w.heap.size + 1, 1, none⟩ v2).setCell ⟨w.heap.size + 1, 2, none⟩ v3) w.heap.size [.int .i64 n, .string nm, .slice am gs.length cm] ∧ Blk ((((((V.setCell ⟨w.heap.size, 0, none⟩ (.int .i64 n)).setCell ⟨w.heap.size, 1, none⟩ (.string nm)).setCell ⟨w.heap.size, 2, none⟩ (.slice am gs.length cm)).setCell ⟨w.heap.size + 1, 0, none⟩ v1).setCell ⟨w.heap.size + 1, 1, none⟩ v2).setCell ⟨w.heap.size + 1, 2, none⟩ v3) (w.heap.size + 1) [v1, v2, v3] ∧ DTab w (.returned (.tuple #[.agg #[.int .i64 n, .string nm, .slice am gs.length cm], .agg #[v1, v2, v3]])) ((((((V.setCell ⟨w.heap.size, 0, none⟩ (.int .i64 n)).setCell ⟨w.heap.size, 1, none⟩ (.string nm)).setCell ⟨w.heap.size, 2, none⟩ (.slice am gs.length cm)).setCell ⟨w.heap.size + 1, 0, none⟩ v1).setCell ⟨w.heap.size + 1, 1, none⟩ v2).setCell ⟨w.heap.size + 1, 2, none⟩ v3) := by
  have k0 := only_set3 V w.heap.size (.int .i64 n) (.string nm) (.slice am gs.length cm)
  have S0 := R0.set3 (.int .i64 n) (.string nm) (.slice am gs.length cm)
  have T1 := R1.only k0 (by simp)
  have k1 := only_set3 (((V.setCell ⟨w.heap.size, 0, none⟩ (.int .i64 n)).setCell ⟨w.heap.size, 1, none⟩ (.string nm)).setCell ⟨w.heap.size, 2, none⟩ (.slice am gs.length cm)) (w.heap.size + 1) v1 v2 v3
  have S1 := T1.set3 v1 v2 v3
  have hd : ∀ q : Nat, w.heap.size + 2 ≤ q → q ∉ [w.heap.size] ∧ q ∉ [w.heap.size + 1] := fun q hq => ⟨by simp; omega, by simp; omega⟩
  obtain ⟨t, f, a, b, c⟩ := (hT.only k0 (by simp)).only k1 (by simp)
  refine ⟨S0.only k1 (by simp), S1, n, nm, am, cm, gs, fp, v1, v2, v3, t, f, rfl, ⟨_, rfl, hn, by show nm.size ≤ maxLen; unfold maxLen; omega, Rp.only (Rp.only h3 k0 fun b hb => (hd b (h4 b hb)).1) k1 fun b hb => (hd b (h4 b hb)).2⟩, a, c, h7, h5, (k.then_ k0 fun b hb hl => ?_).then_ k1 fun b hb hl => ?_⟩
  · simp at hb; omega
  · simp at hb; omega

set_option maxHeartbeats 8000000 in
theorem drawCor_any (v : Value) (l : List UInt8) (fc : List Nat) (w : World) (h : Rd w v l fc) (hl : l.length ≤ 4096) :
    Calls Try.prog 5 #[v] w (DTab w) := by
  have kw : Only [] w ((w.alloc (.cells #[.int .i64 0, .string ⟨#[]⟩, .slice none 0 0] 26)).alloc (.cells #[.slice none 0 0, .slice none 0 0, .slice none 0 0] 29)) := ((Only.refl _ _).alloc _).alloc _
  have R0 := (Blk.new w [.int .i64 0, .string ⟨#[]⟩, .slice none 0 0] 26).keep ((Only.refl _ _).alloc (.cells #[.slice none 0 0, .slice none 0 0, .slice none 0 0] 29))
  have R1 : Blk ((w.alloc (.cells #[.int .i64 0, .string ⟨#[]⟩, .slice none 0 0] 26)).alloc (.cells #[.slice none 0 0, .slice none 0 0, .slice none 0 0] 29)) (w.heap.size + 1) [.slice none 0 0, .slice none 0 0, .slice none 0 0] := Blk.new_at (by simp)
  have e1 : (w.alloc (.cells #[.int .i64 0, .string ⟨#[]⟩, .slice none 0 0] 26)).heap.size = w.heap.size + 1 := by simp
  have e2 : ((w.alloc (.cells #[.int .i64 0, .string ⟨#[]⟩, .slice none 0 0] 26)).alloc (.cells #[.slice none 0 0, .slice none 0 0, .slice none 0 0] 29)).heap.size = w.heap.size + 2 := by simp
  have hv0 := Rp.keep h kw
  go_enter Try.func5, Try.ntmps5
  go_upto_region 1 with fail
  try rw [e1]
  obtain ⟨W0, hW0⟩ : ∃ W, W = ((w.alloc (.cells #[.int .i64 0, .string ⟨#[]⟩, .slice none 0 0] 26)).alloc (.cells #[.slice none 0 0, .slice none 0 0, .slice none 0 0] 29)) := ⟨_, rfl⟩
  rw [← hW0] at kw R0 R1 e2 hv0 ⊢
  clear hW0 e1
  go_upto_region 2 with (first
    | (go_at_call 11; (with_reducible refine (newSource_any v l fc W0 hv0 hl).mono ?_); rintro e w1 ⟨g, rfl, D1, hg, t1⟩; have R01 := R0.keep t1; have R11 := R1.keep t1)
    | fail "no arm")
  have hg1 := D1.lt
  have hs1 := t1.size
  have k1 := kw.trans t1
  clear R0 R1 hv0
  go_wp2_with (first
    | (go_at_call 12; (with_reducible refine (draw30_any g fc l w1 D1 hl).mono ?_); rintro e w2 ⟨n, nm, vm, gs, fp, v1, v2, v3, rfl, hn, nml, rm, gem, gl9, gy30, hval, hJT, D2, K2⟩; obtain ⟨am, cm, _, _, rfl, -, -⟩ := rm.open_; obtain ⟨t0, f0, r0, ge0, mid0⟩ := hJT; have r0' := r0; obtain ⟨_, _, _, _, _, _, hcs, -, q1, q2, q3⟩ := r0'; injection hcs with h1 hcs; injection hcs with h2 hcs; injection hcs with h3 hcs; subst h1; subst h2; subst h3; obtain ⟨a1, c1, _, _, rfl, -, -⟩ := q1.open_; obtain ⟨a2, c2, _, _, rfl, -, -⟩ := q2.open_; obtain ⟨a3, c3, _, _, rfl, -, -⟩ := q3.open_; have R02 := R01.only K2 (by simp; omega); have R12 := R11.only K2 (by simp; omega); have a0z := R02.cell 0 rfl; have a1z := R02.cell 1 rfl; have a2z := R02.cell 2 rfl; have b0z := R02.frozen 0; have b1z := R02.frozen 1; have b2z := R02.frozen 2; have c0z := R12.cell 0 rfl; have c1z := R12.cell 1 rfl; have c2z := R12.cell 2 rfl; have d0z := R12.frozen 0; have d1z := R12.frozen 1; have d2z := R12.frozen 2)
    | fail "no arm")
  have gem' : ∀ b ∈ fp, w.heap.size + 2 ≤ b := fun b hb => by have := gem b hb; omega
  have hJT' : JT (w.heap.size + 2) w2 (.slice a1 t0.tracked.length c1) (.slice a2 t0.patterns.length c2) (.slice a3 t0.distances.length c3) := ⟨t0, f0, r0, fun q hq => by have := ge0 q hq; omega, mid0⟩
  obtain ⟨S0, S1, hD⟩ := DTab.mk (k1.then_ K2 (fun b hb hl => by simp at hb; omega)) R02 R12 hn nml rm gem' gl9 hval hJT'
  have x0y := S0.cell 0 rfl; have x1y := S0.cell 1 rfl; have x2y := S0.cell 2 rfl; have y0y := S1.cell 0 rfl; have y1y := S1.cell 1 rfl; have y2y := S1.cell 2 rfl
  exact bodyPost_ret (v := .tuple #[.agg #[.int .i64 n, .string nm, .slice am gs.length cm], .agg #[.slice a1 t0.tracked.length c1, .slice a2 t0.patterns.length c2, .slice a3 t0.distances.length c3]]) (by simp [results, Try.results5, go_sem, x0y, x1y, x2y, y0y, y1y, y2y]) rfl hD
end Go.Proofs.Ytpkplmnpepkdaaa

namespace Go.Proofs.Ytpkplmnpepkdaaa
open Go.RowKit
set_option maxRecDepth 10000

theorem inc_lo {n : Int} {l : List Int} (h : Inc n l) : ∀ (i : Nat) (hi : i < l.length), (i : Int) ≤ l[i]
  | 0, hi => (h.1 _ (List.getElem_mem hi)).1
  | i + 1, hi => by
    have h1 := inc_lo h i (by omega)
    have h2 := List.pairwise_iff_getElem.1 h.2 i (i + 1) (by omega) hi (by omega)
    omega
theorem inc_hi {n : Int} {l : List Int} (h : Inc n l) : ∀ (k i : Nat) (hi : i + k + 1 = l.length), l[i]'(by omega) + (k : Int) < n
  | 0, i, hi => by have := (h.1 _ (List.getElem_mem (show i < l.length by omega))).2; omega
  | k + 1, i, hi => by
    have h1 := inc_hi h k (i + 1) (by omega)
    have h2 := List.pairwise_iff_getElem.1 h.2 i (i + 1) (by omega) (by omega) (by omega)
    omega
/-- so many points one above the other are all points -/
theorem pts_full {n : Int} {l : List Int} (h : Inc n l) (hl : (l.length : Int) = n) : l = PM.pts n.toNat := by
  refine List.ext_getElem (by rw [PM.pts_len]; omega) fun i h1 h2 => ?_
  rw [PM.pts_get]
  have a := inc_lo h i h1
  have b := inc_hi h (l.length - i - 1) i (by omega)
  omega
theorem allL_len9 {A : List Int} : ∀ k, (PM.allL A k).length = A.length ^ k
  | 0 => by simp [PM.allL]
  | k + 1 => by
    unfold PM.allL
    rw [List.length_flatMap]
    simp only [List.length_map]
    rw [List.map_const', List.sum_replicate_nat, allL_len9 k, Nat.pow_succ]
theorem pow5 {a k : Nat} (ha : a ≤ 5) (hk : k ≤ 4) : a ^ k < 3000 :=
  Nat.lt_of_le_of_lt (Nat.pow_le_pow_left ha k) (Nat.lt_of_le_of_lt (Nat.pow_le_pow_right (by omega) hk) (by decide))
/-- a permutation is told by all its values but the last -/
theorem take_inj {n : Nat} {p q : List Int} (hp : PM.PN (n + 1) p) (hq : PM.PN (n + 1) q) (h : p.take n = q.take n) : p = q := by
  obtain ⟨p1, p2⟩ := hp
  obtain ⟨q1, q2⟩ := hq
  have ep : p = p.take n ++ [p[n]'(by omega)] := by rw [← take_succ_get p n (by omega), List.take_of_length_le (by omega)]
  have eq : q = q.take n ++ [q[n]'(by omega)] := by rw [← take_succ_get q n (by omega), List.take_of_length_le (by omega)]
  have hb : q[n]'(by omega) ∈ p := p2.all (by rw [p1, ← q1]; exact q2.sub (List.getElem_mem _))
  rw [ep] at hb
  rcases List.mem_append.1 hb with hb | hb
  · have hn := q2.2
    rw [eq, List.nodup_append] at hn
    rw [h] at hb
    exact absurd rfl (hn.2.2 _ hb _ (List.mem_singleton.2 rfl))
  · rw [ep, eq, h, List.mem_singleton.1 hb]
theorem card5 {x : Puzzle} (hv : validPz x = true) (h5 : x.points ≤ 5) : cardG x ≤ 3000 := by
  have hf := validPz_facts hv
  obtain ⟨n, hn⟩ : ∃ n, x.points.toNat = n + 1 := ⟨x.points.toNat - 1, by omega⟩
  have hp := validPz_pn hv
  show (grpL x.points.toNat x.moves).length ≤ 3000
  have hpn : ∀ p ∈ grpL x.points.toNat x.moves, PM.PN (n + 1) p := fun p hm => by
    have := PM.Grp.pn hp ((mem_grpL hp).1 hm)
    rwa [hn] at this
  have hnd : ((grpL x.points.toNat x.moves).map (List.take n)).Nodup := by
    exact List.pairwise_map.2 ((grpL_nodup _ _).imp_of_mem fun ha hb hne e => hne (take_inj (hpn _ ha) (hpn _ hb) e))
  have hs : (grpL x.points.toNat x.moves).map (List.take n) ⊆ PM.allL (PM.pts (n + 1)) n := fun y hy => by
    obtain ⟨p, hm, rfl⟩ := List.mem_map.1 hy
    obtain ⟨p1, p2⟩ := hpn p hm
    have hl : (p.take n).length = n := by rw [List.length_take]; omega
    have := PM.mem_allL (A := PM.pts (n + 1)) (p.take n) fun z hz => by have := p2.sub (List.mem_of_mem_take hz); rwa [p1] at this
    rwa [hl] at this
  have h1 := PM.nodup_sub_len hnd hs
  rw [List.length_map, allL_len9, PM.pts_len] at h1
  have h2 := pow5 (a := n + 1) (k := n) (by omega) (by omega)
  omega
theorem bTab5 {x : Puzzle} {tr : List Int} (hv : validPz x = true) (h5 : x.points ≤ 5) (ht : trackB x.points tr = true) : ∃ t, bTab x tr = some t := by
  have hT := trackB_iff.1 ht
  have hf := validPz_facts hv
  by_cases hl : (tr.length : Int) = x.points
  · rw [pts_full hT.2 hl]
    exact (expl_iff hv).2 (card5 hv h5)
  · refine bTab_some hv ht ?_
    have h1 := hT.2.len
    rw [allL_len9, PM.pts_len]
    exact pow5 (by omega) (by omega)
end Go.Proofs.Ytpkplmnpepkdaaa

namespace Go.Proofs.Ytpkplmnpepkdaaa
open Go.RowKit
set_option maxRecDepth 10000
theorem newProof_all (cs ds : List Value) (x : Puzzle) (t : Table) (f1 f2 : List Nat) (w : World) (h : Rp.rep w cs x f1) (h2 : Rp.rep w ds t f2) :
    Calls Try.prog 25 #[.agg cs.toArray, .agg ds.toArray] w fun e w' => ∃ q, e = .returned (.tuple #[.pointer q, .bool (checkT x t)]) ∧ (checkT x t = true → ∃ g, q = some ⟨g, 0, none⟩ ∧ Prf w' g x t) ∧ Only [] w w' := by
  by_cases hc : validPz x = true ∧ wfT t = true ∧ trackB x.points t.tracked = true
  · exact newProof_any cs ds x t f1 f2 w h h2 hc.1 hc.2.1 hc.2.2
  · have hck : checkT x t = false := by
      rw [← Bool.not_eq_true, checkT_iff]; rintro ⟨a, b, c, -⟩; exact hc ⟨a, b, c⟩
    refine (newProof_bad cs ds x t f1 f2 w h h2 hc).mono ?_
    rintro e w' ⟨rfl, hk⟩
    exact ⟨none, by rw [hck], fun hh => (by rw [hck] at hh; cases hh), hk⟩



end Go.Proofs.Ytpkplmnpepkdaaa

namespace Go.Proofs.Ytpkplmnpepkdaaa
open Go.RowKit
set_option maxRecDepth 10000

theorem fault_lit (w : World) (f : Fault) (hf : I64 f.kind ∧ I64 f.entry ∧ I64 f.letter) (e : TypeId) {g : Nat} (hg : g = w.heap.size) :
    Rd (w.alloc (.cells #[.int .i64 f.kind, .int .i64 f.entry, .int .i64 f.letter] e)) (.slice (some ⟨g, 0, none⟩) 1 1) [f] [g] ∧ Fresh w.heap.size (w.alloc (.cells #[.int .i64 f.kind, .int .i64 f.entry, .int .i64 f.letter] e)) [g] := by
  subst hg
  have hgg : (w.alloc (.cells #[.int .i64 f.kind, .int .i64 f.entry, .int .i64 f.letter] e)).heap[w.heap.size]? = some (.cells #[.int .i64 f.kind, .int .i64 f.entry, .int .i64 f.letter] e (0, 0)) := heap_alloc_new w _
  refine ⟨⟨_, 1, [w.heap.size], [[]], rfl, by simp, ⟨by simp, by simp [maxLen], rfl, fun k hk => ?_, by simp, by simp⟩⟩, by simp, by simp, fun b hb => ?_⟩
  · have : k = 0 := by simpa using hk
    subst this
    refine ⟨w.heap.size, 0, [.int .i64 f.kind, .int .i64 f.entry, .int .i64 f.letter], rfl, rfl, fun j u hu => ?_, rfl, hf, rfl⟩
    rw [cell_of_row _ _ _ _ _ _ hgg]
    simpa using hu
  · simp at hb; subst hb; exact ⟨_, _, hgg⟩
theorem rd_at {α : Type} [Rp α] {w : World} {a : Option Addr} {n cap : Nat} {xs : List α} {fp : List Nat} (h : Rd w (.slice a n cap) xs fp) (h0 : 0 < xs.length) : xs.length ≤ cap ∧ cap ≤ maxLen ∧ ∃ b off, a = some ⟨b, off, none⟩ := by
  obtain ⟨a', cap', ob, fps, hv, -, hs⟩ := h.open_
  injection hv with h1 h2 h3
  subst h1; subst h3
  obtain ⟨b, off, _, ha, _⟩ := hs.at_ 0 h0
  exact ⟨hs.len, hs.cap, b, off, ha⟩
end Go.Proofs.Ytpkplmnpepkdaaa

namespace Go.Proofs.Ytpkplmnpepkdaaa
open Go.RowKit
set_option maxRecDepth 10000
theorem AccK.formN {α : Type} [Rp α] {w0 W wx : World} {B : Nat} {e : TypeId} {G : List Nat} {v : Value} {l : List α} (h : AccK w0 B e G W wx v l) : ∃ a n c, n = l.length ∧ v = Value.slice a n c := by
  obtain ⟨a, c, hv⟩ := h.form
  exact ⟨a, _, c, rfl, hv⟩
set_option maxHeartbeats 1000000 in
theorem CloneFaults_rd (b o n cap : Nat) (L : List Fault) (fp : List Nat) (w : World) (h : Rd w (.slice (some ⟨b, o, none⟩) n cap) L fp) (hl : L.length ≤ 1000) :
    Calls Try.prog 44 #[.slice (some ⟨b, o, none⟩) n cap] w fun e w' => ∃ v fp', e = .returned v ∧ Rd w' v L fp' ∧ Fresh w.heap.size w' fp' ∧ Only [] w w' := by
  have hA : AccK w w.heap.size 67 [] w (w.alloc (.cells #[] 67)) (.slice (some ⟨w.heap.size, 0, none⟩) 0 0) ([] : List Fault) :=
    ⟨[], Acc.made w w.heap.size _ rfl (Nat.le_refl _), Fresh.nil _ _, (Only.refl _ _).alloc _, by simp, by simp, by simp⟩
  have hnil := fun W => Lib.run_eql_slice_nil (P := Try.prog) W 41 67 (some ⟨b, o, none⟩) n cap 0 0 Try.underlying41
  go_enter Try.func44, Try.ntmps44
  go_wp2_with (at_builtin; refine wpList_fapp rfl _ _ rfl rfl hA (Only.refl _ _) (Nat.le_refl _) (by simp) _ fp rfl (Rp.keep h ((Only.refl _ _).alloc _)) (by simp; omega) ?_; intro v5 w5 hR5 hO5)
  go_ret
  obtain ⟨fp', hr, hF⟩ := AccK.rd hR5 (by decide)
  exact ⟨_, _, rfl, hr, hF, hR5.only⟩
set_option maxHeartbeats 4000000 in
theorem faults_any (g : Nat) (x : Puzzle) (t : Table) (w : World) (hP : Prf w g x t) (hc : checkT x t = true) :
    Calls Try.prog 26 #[.pointer (some ⟨g, 0, none⟩)] w fun e w' => ∃ v fp', e = .returned v ∧ Rd w' v (tableFaults x t) fp' ∧ Fresh w.heap.size w' fp' ∧ Only [] w w' := by
  have hP0 := hP
  obtain ⟨v0, v1, v2, vl, vm, M, f0, f1, f2, fl, fm, km, hB, r0, r1, r2, rl, rm, hM⟩ := hP
  obtain ⟨A1, C1, ob, fps, rfl, -, hs⟩ := r1.open_
  have d1 := hB.cell 1 rfl
  have b1 := hs.bound
  have hx8 := (validPz_facts (checkT_iff.1 hc).1).2.2.1
  go_enter Try.func26, Try.ntmps26
  go_wp2
  go_loopw [3, 11] (fun o i wr => ∃ j : Nat, j ≤ t.patterns.length ∧ i = .int .i64 j ∧ AccK w w.heap.size 67 [] w wr o (faultsTo x t j) ∧ (faultsTo x t j).length < 40)
    (fun _ i _ => t.patterns.length - (intOf i).toNat)
  case atStart => exact ⟨0, Nat.zero_le _, rfl, ⟨[], Acc.nil w _ _, Fresh.nil _ _, Only.refl _ _, by simp, by simp, by simp⟩, by simp [faultsTo]⟩
  case round =>
    obtain ⟨j, hj, rfl, hR, hl40⟩ := hrel
    have hKW := hR.only
    have hBw := hKW.size
    by_cases hlt : j < t.patterns.length
    · have hel := entF_len x t j
      have hsucc := faultsTo_succ x t j
      have Hsucc := Lib.hid hsucc
      by_cases h40 : 40 ≤ (faultsTo x t (j + 1)).length
      · have hT := Lib.hid (show tableFaults x t = (faultsTo x t (j + 1)).take 40 by unfold tableFaults; rw [hc]; exact faults_enough (by omega) h40)
        have H40 := Lib.hid h40
        clear hsucc h40
        go_wp2_with (first | (go_at_call 43; (with_reducible refine (entryFaults_any g x t j _ (hP0.keep hKW) hc hlt).mono ?_); rintro e w4 ⟨u4, f4, rfl, r4, F4, t4⟩) | (at_builtin; refine wpList_fapp rfl _ _ rfl rfl hR t4 (Nat.le_refl _) hBw u4 f4 rfl r4 (by omega) ?_; intro v5 w5 hR5 hO5; rw [← Hsucc.out] at hR5; obtain ⟨a5, n5, c5, hn5, rfl⟩ := hR5.formN; have hn40 : 40 ≤ n5 := (by rw [hn5]; exact H40.out); obtain ⟨fpx, hrx, hFx⟩ := AccK.rd hR5 (by decide); obtain ⟨hcc, hcm, b9, o9, rfl⟩ := rd_at hrx (by have := H40.out; omega); unfold maxLen at hcm; have hn5c : n5 ≤ c5 := (by rw [hn5]; exact hcc); obtain ⟨fpt, hrt, hst, -⟩ := take_rd hrx 40 H40.out; clear hn5 hcc) | (go_at_call 44; (with_reducible refine (CloneFaults_rd b9 o9 40 c5 _ _ _ hrt (by rw [List.length_take]; omega)).mono ?_); rintro e w6 ⟨u6, f6, rfl, r6, F6, t6⟩))
        go_ret
        exact ⟨_, _, rfl, by rw [hT.out]; exact r6, F6.mono hR5.only.size, hR5.only.trans t6⟩
      · have H40 := Lib.hid h40
        clear hsucc h40
        go_wp2_with (first | (go_at_call 43; (with_reducible refine (entryFaults_any g x t j _ (hP0.keep hKW) hc hlt).mono ?_); rintro e w4 ⟨u4, f4, rfl, r4, F4, t4⟩) | (at_builtin; refine wpList_fapp rfl _ _ rfl rfl hR t4 (Nat.le_refl _) hBw u4 f4 rfl r4 (by omega) ?_; intro v5 w5 hR5 hO5; rw [← Hsucc.out] at hR5; obtain ⟨a5, n5, c5, hn5, rfl⟩ := hR5.formN; have hn40 : n5 < 40 := (by rw [hn5]; have := H40.out; omega); clear hn5))
        go_roundw
        case rel => exact ⟨j + 1, by omega, by go_num, hR5, by have := H40.out; omega⟩
        case measure => simp [intOf]; omega
    · have hjl : j = t.patterns.length := by omega
      have hT := Lib.hid (show tableFaults x t = faultsTo x t j by unfold tableFaults; rw [hc, ← hjl, if_pos rfl, List.take_of_length_le (by omega)])
      clear hjl
      go_wp2
      go_ret
      obtain ⟨fp, hr, hF⟩ := AccK.rd hR (by decide)
      exact ⟨_, _, rfl, by rw [hT.out]; exact hr, hF, hKW⟩
set_option maxHeartbeats 1000000 in
theorem implTableFaults_any (cs ds : List Value) (x : Puzzle) (t : Table) (f1 f2 : List Nat) (w : World) (h : Rp.rep w cs x f1) (h2 : Rp.rep w ds t f2) :
    Calls Try.prog 13 #[.agg cs.toArray, .agg ds.toArray] w fun e w' => ∃ v fp', e = .returned v ∧ Rd w' v (tableFaults x t) fp' ∧ Fresh w.heap.size w' fp' ∧ Only [] w w' := by
  have h0 := h
  have h20 := h2
  obtain ⟨v2, rfl, p0, p1, hm⟩ := h
  obtain ⟨u0, u1, u2, q0, q1, q2, rfl, rfl, r0, r1, r2⟩ := h2
  rcases hc : checkT x t
  · have hf : tableFaults x t = [⟨0, 0, 0⟩] := by unfold tableFaults; rw [hc]; rfl
    have Hf := Lib.hid hf; clear hf
    go_enter Try.func13, Try.ntmps13
    go_wp2_with ((go_at_call 25; (with_reducible refine (newProof_all [.int .i64 x.points, .string x.names, v2] [u0, u1, u2] x t _ _ _ (Rp.keep h0 (by with_reducible repeat (first | exact Only.refl _ _ | assumption | refine Only.drewN ?_ _ | refine Only.drew ?_ | refine Only.alloc ?_ _ | refine Only.setCell ?_ (by intro hh; exfalso; simp at hh; try omega) _ | refine Only.trans ?_ (by assumption)))) (Rp.keep h20 (by with_reducible repeat (first | exact Only.refl _ _ | assumption | refine Only.drewN ?_ _ | refine Only.drew ?_ | refine Only.alloc ?_ _ | refine Only.setCell ?_ (by intro hh; exfalso; simp at hh; try omega) _ | refine Only.trans ?_ (by assumption))))).mono ?_); rintro e w1 ⟨q, he, hq, t1⟩; rw [hc] at he; subst he))
    have hK : Only [] w w1 := (by with_reducible repeat (first | exact Only.refl _ _ | assumption | refine Only.drewN ?_ _ | refine Only.drew ?_ | refine Only.alloc ?_ _ | refine Only.setCell ?_ (by intro hh; exfalso; simp at hh; try omega) _ | refine Only.trans ?_ (by assumption)))
    go_ret
    have hl := fault_lit w1 ⟨0, 0, 0⟩ ⟨(show I64 0 by unfold I64; omega), (show I64 0 by unfold I64; omega), (show I64 0 by unfold I64; omega)⟩ 67 rfl
    exact ⟨_, _, rfl, by rw [Hf.out]; exact hl.1, hl.2.mono hK.size, (by with_reducible repeat (first | exact Only.refl _ _ | assumption | refine Only.drewN ?_ _ | refine Only.drew ?_ | refine Only.alloc ?_ _ | refine Only.setCell ?_ (by intro hh; exfalso; simp at hh; try omega) _ | refine Only.trans ?_ (by assumption)))⟩
  · go_enter Try.func13, Try.ntmps13
    go_wp2_with (first | (go_at_call 25; (with_reducible refine (newProof_all [.int .i64 x.points, .string x.names, v2] [u0, u1, u2] x t _ _ _ (Rp.keep h0 (by with_reducible repeat (first | exact Only.refl _ _ | assumption | refine Only.drewN ?_ _ | refine Only.drew ?_ | refine Only.alloc ?_ _ | refine Only.setCell ?_ (by intro hh; exfalso; simp at hh; try omega) _ | refine Only.trans ?_ (by assumption)))) (Rp.keep h20 (by with_reducible repeat (first | exact Only.refl _ _ | assumption | refine Only.drewN ?_ _ | refine Only.drew ?_ | refine Only.alloc ?_ _ | refine Only.setCell ?_ (by intro hh; exfalso; simp at hh; try omega) _ | refine Only.trans ?_ (by assumption))))).mono ?_); rintro e w1 ⟨q, he, hq, t1⟩; rw [hc] at he; subst he; obtain ⟨g, rfl, hP⟩ := hq hc; have hK1 : Only [] w w1 := (by with_reducible repeat (first | exact Only.refl _ _ | assumption | refine Only.drewN ?_ _ | refine Only.drew ?_ | refine Only.alloc ?_ _ | refine Only.setCell ?_ (by intro hh; exfalso; simp at hh; try omega) _ | refine Only.trans ?_ (by assumption)))) | (go_at_call 26; (with_reducible refine (faults_any g x t _ hP hc).mono ?_); rintro e w2 ⟨u5, f5, rfl, r5, F5, t5⟩))
    go_ret
    exact ⟨_, _, rfl, r5, F5.mono hK1.size, hK1.trans t5⟩
set_option maxHeartbeats 1000000 in
theorem implIsCorrectTable_any (cs ds : List Value) (x : Puzzle) (t : Table) (f1 f2 : List Nat) (w : World) (h : Rp.rep w cs x f1) (h2 : Rp.rep w ds t f2) :
    Calls Try.prog 6 #[.agg cs.toArray, .agg ds.toArray] w fun e w' => e = .returned (.bool (decide ((tableFaults x t).length = 0))) ∧ Only [] w w' := by
  have h0 := h
  have h20 := h2
  obtain ⟨v2, rfl, p0, p1, hm⟩ := h
  obtain ⟨u0, u1, u2, q0, q1, q2, rfl, rfl, r0, r1, r2⟩ := h2
  by_cases hl : (tableFaults x t).length = 0
  · have hd : (((tableFaults x t).length : Int) == 0) = true := by simp [hl]
    have Hl := Lib.hid hl; clear hl
    go_enter Try.func6, Try.ntmps6
    go_wp2_with ((go_at_call 13; (with_reducible refine (implTableFaults_any [.int .i64 x.points, .string x.names, v2] [u0, u1, u2] x t _ _ _ (Rp.keep h0 (by with_reducible repeat (first | exact Only.refl _ _ | assumption | refine Only.drewN ?_ _ | refine Only.drew ?_ | refine Only.alloc ?_ _ | refine Only.setCell ?_ (by intro hh; exfalso; simp at hh; try omega) _ | refine Only.trans ?_ (by assumption)))) (Rp.keep h20 (by with_reducible repeat (first | exact Only.refl _ _ | assumption | refine Only.drewN ?_ _ | refine Only.drew ?_ | refine Only.alloc ?_ _ | refine Only.setCell ?_ (by intro hh; exfalso; simp at hh; try omega) _ | refine Only.trans ?_ (by assumption))))).mono ?_); rintro e w1 ⟨u3, f3, rfl, r3, F3, t3⟩; obtain ⟨A3, C3, _, _, rfl, -⟩ := r3.open_))
    go_ret
    exact ⟨ret_bool (by rw [Hl.out]; rfl), (by with_reducible repeat (first | exact Only.refl _ _ | assumption | refine Only.drewN ?_ _ | refine Only.drew ?_ | refine Only.alloc ?_ _ | refine Only.setCell ?_ (by intro hh; exfalso; simp at hh; try omega) _ | refine Only.trans ?_ (by assumption)))⟩
  · have hd : (((tableFaults x t).length : Int) == 0) = false := by rw [beq_eq_false_iff_ne]; omega
    have Hl := Lib.hid hl; clear hl
    go_enter Try.func6, Try.ntmps6
    go_wp2_with ((go_at_call 13; (with_reducible refine (implTableFaults_any [.int .i64 x.points, .string x.names, v2] [u0, u1, u2] x t _ _ _ (Rp.keep h0 (by with_reducible repeat (first | exact Only.refl _ _ | assumption | refine Only.drewN ?_ _ | refine Only.drew ?_ | refine Only.alloc ?_ _ | refine Only.setCell ?_ (by intro hh; exfalso; simp at hh; try omega) _ | refine Only.trans ?_ (by assumption)))) (Rp.keep h20 (by with_reducible repeat (first | exact Only.refl _ _ | assumption | refine Only.drewN ?_ _ | refine Only.drew ?_ | refine Only.alloc ?_ _ | refine Only.setCell ?_ (by intro hh; exfalso; simp at hh; try omega) _ | refine Only.trans ?_ (by assumption))))).mono ?_); rintro e w1 ⟨u3, f3, rfl, r3, F3, t3⟩; obtain ⟨A3, C3, _, _, rfl, -⟩ := r3.open_))
    go_ret
    exact ⟨ret_bool (by rw [decide_eq_false Hl.out]), (by with_reducible repeat (first | exact Only.refl _ _ | assumption | refine Only.drewN ?_ _ | refine Only.drew ?_ | refine Only.alloc ?_ _ | refine Only.setCell ?_ (by intro hh; exfalso; simp at hh; try omega) _ | refine Only.trans ?_ (by assumption)))⟩

end Go.Proofs.Ytpkplmnpepkdaaa

namespace Go.Proofs.Ytpkplmnpepkdaaa
open Go.RowKit
set_option maxRecDepth 10000

set_option maxHeartbeats 400000 in
theorem likeInts_any (a a' : Option Addr) (cap cap' : Nat) (l l' : List Int) (fp fp' : List Nat) (w : World) (h : IntsA w a cap l fp) (h' : IntsA w a' cap' l' fp') :
    Calls Try.prog 9 #[.slice a l.length cap, .slice a' l'.length cap'] w fun e w' => e = .returned (.bool (eqV l l')) ∧ Drew w w' := by
  have hb := h.bound
  have hb' := h'.bound
  by_cases hl : l.length = l'.length
  · have hne : ((l.length : Int) != (l'.length : Int)) = false := by simp [hl]
    have Hl := Lib.hid hl; clear hl
    go_enter Try.func9, Try.ntmps9
    go_wp2
    go_loopw [5] (fun i wr => ∃ j : Nat, j ≤ l.length ∧ i = .int .i64 j ∧ l.take j = l'.take j ∧ Drew w wr)
      (fun i _ => l.length - (intOf i).toNat)
    case atStart => exact ⟨0, Nat.zero_le _, rfl, rfl, Drew.refl _⟩
    case round =>
      obtain ⟨j, hj, rfl, hr, n, rfl⟩ := hrel
      have Hr := Lib.hid hr; clear hr
      by_cases hlt : j < l.length
      · have hlt' : j < l'.length := by have := Hl.out; omega
        obtain ⟨b, off, ha, -, hc⟩ := h.at_ j hlt
        obtain ⟨b', off', ha', -, hc'⟩ := h'.at_ j hlt'
        go_wp2
        go_quiet (fail)
        go_wp2
        · have hne : (l[j] != l'[j]) = true := by assumption
          go_ret
          exact ⟨ret_bool (eqInts_no hlt hlt' hne).symm, ((Drew.refl _).drewN _).drewN _⟩
        · have heq : (l[j] != l'[j]) = false := by assumption
          go_roundw
          case rel => exact ⟨j + 1, by omega, by go_num, eqInts_step hlt hlt' heq Hr.out, ⟨_, rfl⟩⟩
          case measure => simp [intOf]; omega
      · go_wp2
        go_ret
        exact ⟨ret_bool (eqL_yes Hl.out hlt Hr.out).symm, (Drew.refl _).drewN n⟩
  · have hne : ((l.length : Int) != (l'.length : Int)) = true := by simp; omega
    go_enter Try.func9, Try.ntmps9
    go_wp2
    go_ret
    exact ⟨ret_bool (eqL_len hne).symm, Drew.refl _⟩

end Go.Proofs.Ytpkplmnpepkdaaa

namespace Go.Proofs.Ytpkplmnpepkdaaa
open Go.RowKit
set_option maxRecDepth 10000

/-- what the law compares ahead of the lookups -/
noncomputable def sm0 (x : Puzzle) (t t' : Table) : Bool := (bTab x t.tracked).isSome && decide (t'.patterns.length = t.patterns.length) && wfT t && eqV (t.patterns.getD 0 []) t.tracked
theorem ver_law {x : Puzzle} {t : Table} (h5 : validPz x = true → x.points ≤ 5) : decide ((tableFaults x t).length = 0) = true ↔ (sm0 x t ((bTab x t.tracked).getD noTab) = true ∧ ∀ i : Nat, i < ((bTab x t.tracked).getD noTab).patterns.length → lookV t (((bTab x t.tracked).getD noTab).patterns.getD i []) = atD ((bTab x t.tracked).getD noTab) i) := by
  rw [decide_eq_true_iff]
  cases hb : bTab x t.tracked with
  | none =>
    constructor
    · intro h
      have hk := checkT_iff.1 (tableFaults_len0.1 h).1
      obtain ⟨u, hu⟩ := bTab5 hk.1 (h5 hk.1) hk.2.2.1
      rw [hb] at hu; cases hu
    · intro h
      have h1 := h.1
      unfold sm0 at h1
      rw [hb] at h1
      simp at h1
  | some t' =>
    obtain ⟨hbu, htt⟩ := bTab_built hb
    rw [ver_iff hbu htt]
    unfold sm0
    rw [hb]
    simp only [Option.isSome_some, Option.getD_some, Bool.true_and, Bool.and_eq_true, decide_eq_true_iff]
    have he : eqV (t.patterns.getD 0 []) t.tracked = true ↔ t.patterns.getD 0 [] = t.tracked := by simp [eqV]
    rw [he]
    constructor
    · exact fun h => ⟨⟨⟨h.1, h.2.1⟩, h.2.2.1⟩, h.2.2.2⟩
    · exact fun h => ⟨h.1.1.1, h.1.1.2, h.1.2, h.2⟩
theorem drew_only {w w' : World} (h : Drew w w') : Only [] w w' := by
  obtain ⟨n, rfl⟩ := h
  exact (Only.refl [] w).drewN n
theorem all_next {P : Nat → Prop} {j : Nat} (h : ∀ i, i < j → P i) (hj : P j) : ∀ i, i < j + 1 → P i := fun i hi => by
  rcases Nat.lt_or_ge i j with h1 | h1
  · exact h i h1
  · obtain rfl : i = j := by omega
    exact hj
set_option maxHeartbeats 16000000 in
theorem FnVerifiedTables_any (w : World) (v : Value) (l : List UInt8) (fc : List Nat) (h : Rd w v l fc) :
    Calls Try.prog 3 #[v] w fun e w' => e = .returned (.bool true) ∧ Only [] w w' := by
  by_cases hb : 4096 < l.length
  · have hd : decide (4096 < l.length) = true := by simp [hb]
    go_enter Try.func3, Try.ntmps3
    go_wp2_with ((go_at_call 4; (with_reducible refine (big_any v l fc _ h).mono ?_); rintro e w1 ⟨he, t1⟩; rw [hd] at he; subst he))
    go_ret
    exact ⟨rfl, (by with_reducible repeat (first | exact Only.refl _ _ | assumption | refine Only.drewN ?_ _ | refine Only.drew ?_ | refine Only.alloc ?_ _ | refine Only.setCell ?_ (by intro hh; exfalso; simp at hh; try omega) _ | refine Only.trans ?_ (by assumption)))⟩
  have hd : decide (4096 < l.length) = false := by simp [hb]
  have hl : l.length ≤ 4096 := by omega
  go_enter Try.func3, Try.ntmps3
  go_upto_region 4 with (first
    | (go_at_call 4; (with_reducible refine (big_any v l fc _ h).mono ?_); rintro e w1 ⟨he, t1⟩; rw [hd] at he; subst he; have k1 : Only [] w w1 := (by with_reducible repeat (first | exact Only.refl _ _ | assumption | refine Only.drewN ?_ _ | refine Only.drew ?_ | refine Only.alloc ?_ _ | refine Only.setCell ?_ (by intro hh; exfalso; simp at hh; try omega) _ | refine Only.trans ?_ (by assumption))))
    | (go_at_call 5; (with_reducible refine (drawCor_any v l fc w1 (Rp.keep h k1) hl).mono ?_); rintro e w2 ⟨n, nm, am, cm, gs, fp, u1, u2, u3, t, f, rfl, rp, rt, hmid, h5, hg9, t2⟩; have rt' := rt; obtain ⟨_, _, _, _, _, _, hcs, -, k1', k2', k3'⟩ := rt'; injection hcs with h1 hcs; injection hcs with h2 hcs; injection hcs with h3 hcs; subst h1; subst h2; subst h3; obtain ⟨a1, c1, _, _, rfl, -, -⟩ := k1'.open_; obtain ⟨a2, c2, _, _, rfl, -, -⟩ := k2'.open_; obtain ⟨a3, c3, _, _, rfl, -, -⟩ := k3'.open_)
    | fail "no arm")
  have kal : Only [] w2 ((w2.alloc (.cells #[.int .i64 n, .string nm, .slice am gs.length cm] 26)).alloc (.cells #[.slice a1 t.tracked.length c1, .slice a2 t.patterns.length c2, .slice a3 t.distances.length c3] 29)) := ((Only.refl _ _).alloc _).alloc _
  have Bp := (Blk.new w2 [.int .i64 n, .string nm, .slice am gs.length cm] 26).keep ((Only.refl _ _).alloc (.cells #[.slice a1 t.tracked.length c1, .slice a2 t.patterns.length c2, .slice a3 t.distances.length c3] 29))
  have Bt := Blk.new (w2.alloc (.cells #[.int .i64 n, .string nm, .slice am gs.length cm] 26)) [.slice a1 t.tracked.length c1, .slice a2 t.patterns.length c2, .slice a3 t.distances.length c3] 29
  have eY : (w2.alloc (.cells #[.int .i64 n, .string nm, .slice am gs.length cm] 26)).heap.size = w2.heap.size + 1 := by simp
  rw [eY] at Bt
  have rpW := Rp.keep rp kal
  have rtW := Rp.keep rt kal
  have rkW := Rp.keep k1' kal
  have rqW := Rp.keep k2' kal
  have kW := (k1.trans t2).trans kal
  obtain ⟨W2, hW2⟩ : ∃ W, W = ((w2.alloc (.cells #[.int .i64 n, .string nm, .slice am gs.length cm] 26)).alloc (.cells #[.slice a1 t.tracked.length c1, .slice a2 t.patterns.length c2, .slice a3 t.distances.length c3] 29)) := ⟨_, rfl⟩
  obtain ⟨pb, hpb⟩ : ∃ pb, pb = w2.heap.size := ⟨_, rfl⟩
  obtain ⟨tb, htb⟩ : ∃ tb, tb = w2.heap.size + 1 := ⟨_, rfl⟩
  try rw [eY]
  rw [← hW2] at Bp Bt rpW rtW rkW rqW kW ⊢
  rw [← htb] at Bt ⊢
  rw [← hpb] at Bp ⊢
  clear hW2 hpb htb eY kal rp rt k1 t1 t2 hb hd h k1' k2' k3'
  have c00 := Bp.cell 0 rfl; have c10 := Bp.cell 1 rfl; have c20 := Bp.cell 2 rfl; have d00 := Bt.cell 0 rfl; have d10 := Bt.cell 1 rfl; have d20 := Bt.cell 2 rfl
  have hp2 := Bp.lt; have ht2 := Bt.lt
  have hvl := ver_law (x := (⟨n, nm, gs⟩ : Puzzle)) (t := t) h5
  have htl : t.tracked.length ≤ 2097152 := by have := hmid.1; omega
  have HcI := Lib.hid (fun (W : World) (hK : Only [] W2 W) => implIsCorrectTable_any [.int .i64 n, .string nm, .slice am gs.length cm] [.slice a1 t.tracked.length c1, .slice a2 t.patterns.length c2, .slice a3 t.distances.length c3] (⟨n, nm, gs⟩ : Puzzle) t fp f W (Rp.keep rpW hK) (Rp.keep rtW hK))
  have HcB := Lib.hid (fun (W : World) (hK : Only [] W2 W) => specBuildTable_any [.int .i64 n, .string nm, .slice am gs.length cm] (⟨n, nm, gs⟩ : Puzzle) fp (.slice a1 t.tracked.length c1) t.tracked _ W (Rp.keep rpW hK) (Rp.keep rkW hK) htl)
  obtain ⟨B, hB⟩ : ∃ B, B = decide ((tableFaults (⟨n, nm, gs⟩ : Puzzle) t).length = 0) := ⟨_, rfl⟩
  obtain ⟨t', ht'⟩ : ∃ t', t' = (bTab (⟨n, nm, gs⟩ : Puzzle) t.tracked).getD noTab := ⟨_, rfl⟩
  have hdl : t'.distances.length = t'.patterns.length := by
    rw [ht']
    cases hb : bTab (⟨n, nm, gs⟩ : Puzzle) t.tracked with
    | none => rfl
    | some u => exact (bTab_built hb).1.bi.dl
  have hpl : t'.patterns.length ≤ 3000 := by
    rw [ht']
    cases hb : bTab (⟨n, nm, gs⟩ : Puzzle) t.tracked with
    | none => simp [noTab]
    | some u => exact (bTab_built hb).1.ll
  have hok : (bTab (⟨n, nm, gs⟩ : Puzzle) t.tracked).isSome = true → 1 ≤ t'.patterns.length := by
    rw [ht']
    cases hb : bTab (⟨n, nm, gs⟩ : Puzzle) t.tracked with
    | none => intro h; cases h
    | some u => intro _; exact (bTab_built hb).1.bi.ne
  rw [← hB] at HcI hvl
  rw [← ht'] at HcB hvl
  obtain ⟨s0, hs0⟩ : ∃ s0, s0 = sm0 (⟨n, nm, gs⟩ : Puzzle) t t' := ⟨_, rfl⟩
  rw [← hs0] at hvl
  unfold sm0 at hs0
  obtain ⟨ok, hokk⟩ : ∃ ok, ok = (bTab (⟨n, nm, gs⟩ : Puzzle) t.tracked).isSome := ⟨_, rfl⟩
  rw [← hokk] at HcB hs0 hok
  have HVL := Lib.hid hvl; have HM := Lib.hid hmid; have Hok := Lib.hid hok; have Hdl := Lib.hid hdl
  clear hdl hvl hmid h5 hB ht' hok hokk
  go_upto_region 5 with (first
    | (go_at_call 6; (with_reducible refine (HcI.out _ (by with_reducible repeat (first | exact Only.refl _ _ | assumption | refine Only.drewN ?_ _ | refine Only.drew ?_ | refine Only.alloc ?_ _ | refine Only.setCell ?_ (by intro hh; exfalso; simp at hh; try omega) _ | refine Only.trans ?_ (by assumption)))).mono ?_); rintro e w3 ⟨rfl, t3⟩; have P3 := Bp.keep t3; have T3 := Bt.keep t3; have c03 := P3.cell 0 rfl; have c13 := P3.cell 1 rfl; have c23 := P3.cell 2 rfl; have d03 := T3.cell 0 rfl; have d13 := T3.cell 1 rfl; have d23 := T3.cell 2 rfl)
    | fail "no arm")
  go_upto_region 6 with (first
    | (go_at_call 7; (with_reducible refine (HcB.out _ (by with_reducible repeat (first | exact Only.refl _ _ | assumption | refine Only.drewN ?_ _ | refine Only.drew ?_ | refine Only.alloc ?_ _ | refine Only.setCell ?_ (by intro hh; exfalso; simp at hh; try omega) _ | refine Only.trans ?_ (by assumption)))).mono ?_); rintro e w4 ⟨cs4, f4, rfl, r4, F4, t4⟩; obtain ⟨z1, z2, z3, f41, f42, f43, rfl, -, s1, s2, s3⟩ := id r4; obtain ⟨a4, c4, _, _, rfl, -, -⟩ := s1.open_; obtain ⟨a5, c5, _, _, rfl, -, -⟩ := s2.open_; obtain ⟨a6, c6, _, _, rfl, -, -⟩ := s3.open_)
    | fail "no arm")
  have kal : Only [] w4 (w4.alloc (.cells #[.slice a4 t'.tracked.length c4, .slice a5 t'.patterns.length c5, .slice a6 t'.distances.length c6] 29)) := (Only.refl _ _).alloc _
  have K25 : Only [] W2 (w4.alloc (.cells #[.slice a4 t'.tracked.length c4, .slice a5 t'.patterns.length c5, .slice a6 t'.distances.length c6] 29)) := (t3.trans t4).trans kal
  have P5 := Bp.keep K25
  have T5 := Bt.keep K25
  have Q5 := Blk.new w4 [.slice a4 t'.tracked.length c4, .slice a5 t'.patterns.length c5, .slice a6 t'.distances.length c6] 29
  have s2' := Rp.keep s2 kal
  have s3' := Rp.keep s3 kal
  obtain ⟨W5, hW5⟩ : ∃ W, W = w4.alloc (.cells #[.slice a4 t'.tracked.length c4, .slice a5 t'.patterns.length c5, .slice a6 t'.distances.length c6] 29) := ⟨_, rfl⟩
  obtain ⟨qb, hqb⟩ : ∃ qb, qb = w4.heap.size := ⟨_, rfl⟩
  rw [← hW5] at P5 T5 Q5 K25 s2' s3' ⊢
  rw [← hqb] at Q5 ⊢
  clear hW5 hqb kal t3 t4 s1 s2 s3 r4 F4 P3 T3 c03 c13 c23 d03 d13 d23 c00 c10 c20 d00 d10 d20
  have d05 := T5.cell 0 rfl; have d15 := T5.cell 1 rfl; have d25 := T5.cell 2 rfl; have q05 := Q5.cell 0 rfl; have q15 := Q5.cell 1 rfl; have q25 := Q5.cell 2 rfl
  have HcW := Lib.hid (fun (W : World) (hK : Only [] W5 W) => specWfTable_any [.slice a1 t.tracked.length c1, .slice a2 t.patterns.length c2, .slice a3 t.distances.length c3] t f W (Rp.keep rtW (K25.trans hK)))
  go_cut [8] (fun s8 wx => s8 = .bool s0 ∧ Only [] W5 wx)
  case first =>
    cases ok
    · simp only [Bool.false_and] at hs0
      subst hs0
      go_quiet (fail)
      go_wp2
      go_meet
      exact ⟨rfl, (by with_reducible repeat (first | exact Only.refl _ _ | assumption | refine Only.drewN ?_ _ | refine Only.drew ?_ | refine Only.alloc ?_ _ | refine Only.trans ?_ (by assumption)))⟩
    simp only [Bool.true_and] at hs0
    by_cases hle : t'.patterns.length = t.patterns.length
    · have hlI : ((t'.patterns.length : Int) == (t.patterns.length : Int)) = true := by rw [beq_iff_eq]; omega
      have hd1 : decide (t'.patterns.length = t.patterns.length) = true := decide_eq_true hle
      rw [hd1, Bool.true_and] at hs0
      have Hle := Lib.hid hle
      clear hle hd1
      rcases hw : wfT t
      · rw [hw, Bool.false_and] at hs0
        subst hs0
        first
          | go_region_law (first
              | (go_simp; go_at_call 8; (with_reducible refine (HcW.out _ (by with_reducible repeat (first | exact Only.refl _ _ | assumption | refine Only.drewN ?_ _ | refine Only.drew ?_ | refine Only.alloc ?_ _ | refine Only.trans ?_ (by assumption)))).mono ?_); rintro e w6 ⟨he6, t6⟩; rw [hw] at he6; subst he6; have K56 : Only [] W5 w6 := Only.trans (by with_reducible repeat (first | exact Only.refl _ _ | assumption | refine Only.drewN ?_ _ | refine Only.drew ?_ | refine Only.alloc ?_ _ | refine Only.trans ?_ (by assumption))) t6)
              | fail "no arm")
          | fail "no region"
        all_goals
          go_wp2
          go_meet
          exact ⟨rfl, (by with_reducible repeat (first | exact Only.refl _ _ | assumption | refine Only.drewN ?_ _ | refine Only.drew ?_ | refine Only.alloc ?_ _ | refine Only.trans ?_ (by assumption)))⟩
      · rw [hw, Bool.true_and] at hs0
        have h1 := Hok.out rfl
        have h0l : 0 < t.patterns.length := by have := Hle.out; omega
        have r25 := Rp.keep rqW K25
        obtain ⟨_, _, ob, fps, hv2, -, S2⟩ := Rd.open_ r25
        injection hv2 with e1 _ e2
        subst e1; subst e2
        obtain ⟨b8, o8, u8, he8, -, hrow, hu8⟩ := S2.atRow 0 h0l
        subst he8
        obtain ⟨a8, c8, rfl, I8⟩ := hu8.ints
        have hg0 : t.patterns.getD 0 [] = t.patterns[0] := getD_get h0l
        rw [hg0] at hs0
        obtain ⟨y0, hy0⟩ : ∃ y0, y0 = t.patterns[0] := ⟨_, rfl⟩
        rw [← hy0] at hs0 hrow hu8 I8
        rw [Nat.add_zero] at hrow
        obtain ⟨_, _, hv3, I1⟩ := Rd.ints (Rp.keep rkW K25)
        injection hv3 with e1 _ e2
        subst e1; subst e2
        clear hg0 hy0 r25
        have hIz : (0 : Int) < (t.patterns.length : Int) := by omega
        go_region_held3 (fun w' => Only [] W5 w' ∧ w'.cell? ⟨tb, 0, none⟩ = some (.slice a1 t.tracked.length c1) ∧ w'.cell? ⟨tb, 1, none⟩ = some (.slice (some ⟨b8, o8, none⟩) t.patterns.length c2) ∧ w'.cell? ⟨tb, 2, none⟩ = some (.slice a3 t.distances.length c3) ∧ w'.cell? ⟨qb, 1, none⟩ = some (.slice a5 t'.patterns.length c5) ∧ w'.cell? ⟨b8, o8, none⟩ = some (.slice a8 y0.length c8)) (((refine and_of ?_ (fun h__ => ⟨h__.cell (by simp) d05, h__.cell (by simp) d15, h__.cell (by simp) d25, h__.cell (by simp) q15, h__.cell (by simp) hrow⟩)); first | exact (Only.refl _ _).drew | exact ((Only.refl _ _).drewN _).drew | exact Only.trans (And.left (by assumption)) (by assumption) | exact Only.alloc (And.left (by assumption)) _ | assumption)) (first | (go_at_call 8; (with_reducible refine (HcW.out _ (And.left (by assumption))).mono ?_); rintro e w6 ⟨he6, t6⟩; rw [hw] at he6; subst he6) | (go_at_call 9; (with_reducible refine (likeInts_any a8 a1 c8 c1 y0 t.tracked _ _ _ (I8.keep (And.left (by assumption))) (I1.keep (And.left (by assumption)))).mono ?_); rintro e w7 ⟨he7, t7⟩; rw [← hs0] at he7; subst he7; have t8 := drew_only t7) | fail "no arm")
        go_wp2
        go_meet
        exact ⟨by first | rfl | rw [hs0], by with_reducible exact And.left (by assumption)⟩
    · have hlI : ((t'.patterns.length : Int) == (t.patterns.length : Int)) = false := by rw [beq_eq_false_iff_ne]; omega
      have hd1 : decide (t'.patterns.length = t.patterns.length) = false := decide_eq_false hle
      rw [hd1, Bool.false_and, Bool.false_and] at hs0
      subst hs0
      go_quiet (fail)
      go_wp2
      go_meet
      exact ⟨rfl, (by with_reducible repeat (first | exact Only.refl _ _ | assumption | refine Only.drewN ?_ _ | refine Only.drew ?_ | refine Only.alloc ?_ _ | refine Only.trans ?_ (by assumption)))⟩
  case rest =>
  obtain ⟨W6, hnew⟩ : ∃ W, W = wc := ⟨_, rfl⟩
  subst hnew
  obtain ⟨rfl, K56⟩ := hcut
  refine (show ∀ a w, Code.wp Try.prog _ _ a w → _ from by assumption) _ _ ?_
  clear hs0 HcW HcI HcB
  go_upto_region 8 with fail
  go_loopw [8, 9] (fun s8 s9 wr => ∃ (j : Nat) (b : Bool), s8 = .bool b ∧ s9 = .int .i64 j ∧ j ≤ t'.patterns.length ∧ (b = true ↔ (s0 = true ∧ ∀ i : Nat, i < j → lookV t (t'.patterns.getD i []) = atD t' i)) ∧ Only [] W5 wr)
    (fun _ s9 _ => t'.patterns.length - (intOf s9).toNat)
  case atStart => exact ⟨0, s0, rfl, rfl, Nat.zero_le _, ⟨fun h => ⟨h, fun i hi => by omega⟩, fun h => h.1⟩, K56⟩
  case round =>
    obtain ⟨V, hnew⟩ : ∃ W, W = wr := ⟨_, rfl⟩
    subst hnew
    obtain ⟨j, b, rfl, rfl, hj, hbi, KV⟩ := hrel
    have QV := Q5.keep KV
    have TV := T5.keep KV
    have d0v := TV.cell 0 rfl; have d1v := TV.cell 1 rfl; have d2v := TV.cell 2 rfl; have q0v := QV.cell 0 rfl; have q1v := QV.cell 1 rfl; have q2v := QV.cell 2 rfl
    have HBI := Lib.hid hbi
    clear hbi
    by_cases hlt : j < t'.patterns.length
    · have hjI : (j : Int) < (t'.patterns.length : Int) := by omega
      cases b
      · have hBf : B = false := by
          rcases hBq : B
          · rfl
          · have h1 := HVL.out.1 hBq
            have := HBI.out.2 ⟨h1.1, fun i hi => h1.2 i (by omega)⟩
            cases this
        subst hBf
        go_wp2
        go_ret
        exact ⟨rfl, kW.trans (K25.trans KV)⟩
      · have hj0 : (0 : Int) ≤ (j : Int) := by omega
        have hjd : j < t'.distances.length := by rw [Hdl.out]; exact hlt
        have hjdI : (j : Int) < (t'.distances.length : Int) := by omega
        obtain ⟨_, _, ob, fps, hv2, -, S2⟩ := Rd.open_ (Rp.keep s2' KV)
        injection hv2 with e1 _ e2
        subst e1; subst e2
        obtain ⟨b8, o8, u8, he8, -, hrow, hu8⟩ := S2.atRow j hlt
        subst he8
        obtain ⟨a8, c8, rfl, I8⟩ := hu8.ints
        obtain ⟨_, _, hv3, I3⟩ := Rd.ints (Rp.keep s3' KV)
        injection hv3 with e1 _ e2
        subst e1; subst e2
        obtain ⟨b9, o9, he9, -, hdc⟩ := I3.at_ j hjd
        subst he9
        obtain ⟨y, hy⟩ : ∃ y, y = t'.patterns[j] := ⟨_, rfl⟩
        obtain ⟨d, hd⟩ : ∃ d, d = t'.distances[j] := ⟨_, rfl⟩
        have hyg : t'.patterns.getD j [] = y := by rw [hy]; exact getD_get hlt
        have hdg : atD t' j = d := by rw [atD_nat, hd]; exact getD_get hjd
        rw [← hy] at hrow hu8 I8
        rw [← hd] at hdc
        obtain ⟨L, hL⟩ : ∃ L, L = lookV t y := ⟨_, rfl⟩
        have HcL := Lib.hid (fun (W : World) (hK : Only [] V W) => specTableLookup_any [.slice a1 t.tracked.length c1, .slice a2 t.patterns.length c2, .slice a3 t.distances.length c3] t f (.slice a8 y.length c8) y _ W (Rp.keep rtW ((K25.trans KV).trans hK)) (Rp.keep hu8 hK))
        rw [← hL] at HcL
        clear hy hd
        go_upto_region 10 with fail
        go_region_law (first
          | (go_simp; go_at_call 10; (with_reducible refine (HcL.out _ (by with_reducible repeat (first | exact Only.refl _ _ | assumption | refine Only.drewN ?_ _ | refine Only.drew ?_ | refine Only.alloc ?_ _ | refine Only.trans ?_ (by assumption)))).mono ?_); rintro e w7 ⟨rfl, t7⟩; have KV7 : Only [] V w7 := Only.trans (by with_reducible repeat (first | exact Only.refl _ _ | assumption | refine Only.drewN ?_ _ | refine Only.drew ?_ | refine Only.alloc ?_ _ | refine Only.trans ?_ (by assumption))) t7; have Q7 := QV.keep KV7; have q07 := Q7.cell 0 rfl; have q17 := Q7.cell 1 rfl; have q27 := Q7.cell 2 rfl; have hdc7 := KV7.cell (by simp) hdc)
          | fail "no arm")
        all_goals
          go_wp2
          go_roundw
          case rel =>
            refine ⟨j + 1, _, rfl, by go_num, by omega, ?_, KV.trans (by with_reducible repeat (first | exact Only.refl _ _ | assumption | refine Only.drewN ?_ _ | refine Only.drew ?_ | refine Only.alloc ?_ _ | refine Only.trans ?_ (by assumption)))⟩
            rw [beq_iff_eq]
            constructor
            · intro h
              exact ⟨(HBI.out.1 rfl).1, all_next (HBI.out.1 rfl).2 (by rw [hyg, hdg]; first | exact h | (rw [← hL]; exact h))⟩
            · intro h
              have := h.2 j (by omega)
              rw [hyg, hdg] at this
              first
                | exact this
                | (rw [← hL] at this; exact this)
          case measure => simp [intOf]; omega
    · have hjI : ¬ (j : Int) < (t'.patterns.length : Int) := by omega
      have hBb : B = b := by
        have h1 := HVL.out
        have h2 := HBI.out
        obtain rfl : j = t'.patterns.length := by omega
        rcases B <;> rcases b
        · rfl
        · exact h1.2 (h2.1 rfl)
        · exact (h2.2 (h1.1 rfl)).symm
        · rfl
      subst hBb
      go_wp2
      go_ret
      refine ⟨?_, kW.trans (K25.trans KV)⟩
      first
        | rfl
        | exact ret_bool (by simp)
end Go.Proofs.Ytpkplmnpepkdaaa
