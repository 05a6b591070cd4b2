/- The reference's drawn tables: l30Draw (laws 26, 49): a puzzle (if it is valid it has few points) and a table, correct or with a few changes. Bounds only. (Printed by mkvdr3.py.) -/
import Derived.Test.YtpkplmnpepkdaaaRowVerifiedTablesG15
import Derived.Deep.RegionLaw
namespace Go.Proofs.Ytpkplmnpepkdaaa
open Go.RowKit
set_option maxRecDepth 10000

/-- a drawn puzzle and table -/
def DrT (w : World) (g : Nat) (fc : List Nat) (l : List UInt8) (e : Ending) (w' : World) : Prop :=
  ∃ (n : Int) (nm : ByteArray) (vm : Value) (gs : List (List Int)) (fp : List Nat) (v1 v2 v3 : Value), e = .returned (.tuple #[.agg #[.int .i64 n, .string nm, vm], .agg #[v1, v2, v3]]) ∧ I64 n ∧ nm.size ≤ 20 ∧ Rd w' vm gs fp ∧ (∀ b ∈ fp, w.heap.size ≤ b) ∧ gs.length ≤ 9 ∧ (∀ y : List Int, y ∈ gs → y.length ≤ 30) ∧ (validPz (⟨n, nm, gs⟩ : Puzzle) = true → n ≤ 5) ∧ JT w.heap.size w' v1 v2 v3 ∧ Src w' g fc l ∧ Only [g] w w'
theorem DrT.keep {w V V' : World} {g : Nat} {fc : List Nat} {l : List UInt8} {e : Ending} (h : DrT w g fc l e V) (k : Only [] V V') : DrT w g fc l e V' := by
  obtain ⟨n, nm, vm, gs, fp, v1, v2, v3, h0, h1, h2, h3, h4, h5, h6, h7, h8, h9, h10⟩ := h
  exact ⟨n, nm, vm, gs, fp, v1, v2, v3, h0, h1, h2, Rp.keep h3 k, h4, h5, h6, h7, h8.only k (by simp), h9.keep k, h10.keepThen k⟩
theorem DrT.mk {w V : World} {g : Nat} {fc : List Nat} {l : List UInt8} {n : Int} {nm : ByteArray} {vm : Value} {gs : List (List Int)} {fp : List Nat} {v1 v2 v3 x0 x1 x2 y0 y1 y2 : Value} (hg : g < w.heap.size) (hfc : ∀ b ∈ fc, b < w.heap.size) (R0 : Blk V w.heap.size [x0, x1, x2]) (R1 : Blk V (w.heap.size + 1) [y0, y1, y2])
    (hn : I64 n) (h2 : nm.size ≤ 20) (h3 : Rd V vm gs fp) (h4 : ∀ b ∈ fp, w.heap.size + 2 ≤ b) (h5 : gs.length ≤ 9) (h6 : ∀ y : List Int, y ∈ gs → y.length ≤ 30) (h7 : validPz (⟨n, nm, gs⟩ : Puzzle) = true → n ≤ 5) (hT : JT (w.heap.size + 2) V v1 v2 v3) (D : Src V g fc l) (k : Only [g] w V) :
    ∃ Vf, Vf = ((((((V.setCell ⟨w.heap.size, 0, none⟩ (.int .i64 n)).setCell ⟨w.heap.size, 1, none⟩ (.string nm)).setCell ⟨w.heap.size, 2, none⟩ vm).setCell ⟨w.heap.size + 1, 0, none⟩ v1).setCell ⟨w.heap.size + 1, 1, none⟩ v2).setCell ⟨w.heap.size + 1, 2, none⟩ v3) ∧
      Blk Vf w.heap.size [.int .i64 n, .string nm, vm] ∧ Blk Vf (w.heap.size + 1) [v1, v2, v3] ∧ DrT w g fc l (.returned (.tuple #[.agg #[.int .i64 n, .string nm, vm], .agg #[v1, v2, v3]])) Vf := by
  have k0 := only_set3 V w.heap.size (.int .i64 n) (.string nm) vm
  have S0 := R0.set3 (.int .i64 n) (.string nm) vm
  have T1 := R1.only k0 (by simp)
  obtain ⟨V1, hV1⟩ : ∃ V1, V1 = (((V.setCell ⟨w.heap.size, 0, none⟩ (.int .i64 n)).setCell ⟨w.heap.size, 1, none⟩ (.string nm)).setCell ⟨w.heap.size, 2, none⟩ vm) := ⟨_, rfl⟩
  rw [← hV1] at k0 S0 T1 ⊢
  have k1 := only_set3 V1 (w.heap.size + 1) v1 v2 v3
  have S1 := T1.set3 v1 v2 v3
  have hd : ∀ q : Nat, w.heap.size + 2 ≤ q → q ∉ [w.heap.size] ∧ q ∉ [w.heap.size + 1] := fun q hq => ⟨by simp; omega, by simp; omega⟩
  refine ⟨_, rfl, S0.only k1 (by simp), S1, n, nm, vm, gs, fp, v1, v2, v3, rfl, hn, h2, Rp.only (Rp.only h3 k0 fun b hb => (hd b (h4 b hb)).1) k1 fun b hb => (hd b (h4 b hb)).2, fun b hb => by have := h4 b hb; omega, h5, h6, h7, ?_, (D.only k0 (by simp; omega) (fun b hb hm => by have := hfc b hb; simp at hm; omega)).only k1 (by simp; omega) (fun b hb hm => by have := hfc b hb; simp at hm; omega), (k.then_ k0 (fun b hb hl => by simp at hb; omega)).then_ k1 (fun b hb hl => by simp at hb; omega)⟩
  obtain ⟨t, f, a, b, c⟩ := (hT.only k0 (by simp)).only k1 (by simp)
  exact ⟨t, f, a, fun q hq => by have := b q hq; omega, c⟩
/-- the table's variable under way -/
def TV (w : World) (g : Nat) (fc : List Nat) (l : List UInt8) (n : Int) (nm : ByteArray) (am : Option Addr) (cm : Nat) (gs : List (List Int)) (fp : List Nat) (B pb tb : Nat) (N : Nat) (wx : World) : Prop :=
  ∃ (t : Table) (A1 A2 A3 : Option Addr) (C1 C2 C3 : Nat) (f1 : List Nat) (fs : List (List Nat)), Blk wx tb [.slice A1 t.tracked.length C1, .slice A2 t.patterns.length C2, .slice A3 t.distances.length C3] ∧ TW B wx (.slice A1 t.tracked.length C1) (.slice A2 t.patterns.length C2) (.slice A3 t.distances.length C3) t f1 fs ∧ (∀ b ∈ TWf (.slice A2 t.patterns.length C2) (.slice A3 t.distances.length C3) f1 fs, b ≠ tb) ∧ (t.patterns.length = N ∧ t.distances.length = N) ∧ midT t ∧ (∀ d ∈ t.distances, -10000 ≤ d ∧ d ≤ 10000) ∧ Src wx g fc l ∧ Only [g] w wx ∧ Blk wx w.heap.size [.int .i64 0, .string ⟨#[]⟩, .slice none 0 0] ∧ Blk wx (w.heap.size + 1) [.slice none 0 0, .slice none 0 0, .slice none 0 0] ∧ Blk wx pb [.int .i64 n, .string nm, .slice am gs.length cm] ∧ Rd wx (.slice am gs.length cm) gs fp
theorem TV.draw {w w1 w2 : World} {g : Nat} {fc : List Nat} {l : List UInt8} {n : Int} {nm : ByteArray} {am : Option Addr} {cm : Nat} {gs : List (List Int)} {fp : List Nat} {B pb tb N : Nat} (h : TV w g fc l n nm am cm gs fp B pb tb N w1) (hg : g < w.heap.size) (hw : w.heap.size + 2 ≤ pb) (hB : w.heap.size + 2 ≤ B) (htb : B ≤ tb) (hge : ∀ b ∈ fp, w.heap.size + 2 ≤ b) (D : Src w2 g fc l) (K : Only [g] w1 w2) : TV w g fc l n nm am cm gs fp B pb tb N w2 := by
  obtain ⟨t, A1, A2, A3, C1, C2, C3, f1, fs, h1, h2, h3, h4, h5, h6, h7, h8, h9, h10, h11, h12⟩ := h
  refine ⟨t, A1, A2, A3, C1, C2, C3, f1, fs, h1.only K (by simp; omega), h2.only K (fun b hb hm => by have := (h2.geF b hb).1; simp at hm; omega), h3, h4, h5, h6, D, h8.trans K, h9.only K (by simp; omega), h10.only K (by simp; omega), h11.only K (by simp; omega), Rp.only h12 K (fun b hb hm => by have := hge b hb; simp at hm; omega)⟩
/-- the table's variable at the end -/
def FT (w : World) (g : Nat) (fc : List Nat) (l : List UInt8) (n : Int) (nm : ByteArray) (am : Option Addr) (cm : Nat) (gs : List (List Int)) (fp : List Nat) (pb tb : Nat) (wx : World) : Prop :=
  ∃ (A1 A2 A3 : Option Addr) (n1 n2 n3 C1 C2 C3 : Nat), Blk wx tb [.slice A1 n1 C1, .slice A2 n2 C2, .slice A3 n3 C3] ∧ JT (w.heap.size + 2) wx (.slice A1 n1 C1) (.slice A2 n2 C2) (.slice A3 n3 C3) ∧ Src wx g fc l ∧ Only [g] w wx ∧ Blk wx w.heap.size [.int .i64 0, .string ⟨#[]⟩, .slice none 0 0] ∧ Blk wx (w.heap.size + 1) [.slice none 0 0, .slice none 0 0, .slice none 0 0] ∧ Blk wx pb [.int .i64 n, .string nm, .slice am gs.length cm] ∧ Rd wx (.slice am gs.length cm) gs fp
theorem TV.ft {w w1 : World} {g : Nat} {fc : List Nat} {l : List UInt8} {n : Int} {nm : ByteArray} {am : Option Addr} {cm : Nat} {gs : List (List Int)} {fp : List Nat} {B pb tb N : Nat} (h : TV w g fc l n nm am cm gs fp B pb tb N w1) (hB : w.heap.size + 2 ≤ B) : FT w g fc l n nm am cm gs fp pb tb w1 := by
  obtain ⟨t, A1, A2, A3, C1, C2, C3, f1, fs, h1, h2, h3, h4, h5, h6, h7, h8, h9, h10, h11, h12⟩ := h
  exact ⟨A1, A2, A3, _, _, _, C1, C2, C3, h1, h2.jt h5 hB, h7, h8, h9, h10, h11, h12⟩
/-- a pattern is appended -/
theorem TW.pushP {B : Nat} {w w' : World} {v1 v2 v3 u : Value} {t : Table} {f1 : List Nat} {fs : List (List Nat)} {y : List Int} {f : List Nat} (h : TW B w v1 v2 v3 t f1 fs) (hB : B ≤ w.heap.size) {w7 : World} (k0 : Only [] w w7) (hA : Acc B 27 w' u (t.patterns ++ [y]) (fs ++ [f])) (hO : Only v2.ownBlock.toList w7 w') (hN : u.ownBlock = v2.ownBlock ∨ ∃ q, u.ownBlock = some q ∧ w.heap.size ≤ q) (hf : ∀ b ∈ f, w.heap.size ≤ b) : TW B w' v1 u v3 ⟨t.tracked, t.patterns ++ [y], t.distances⟩ f1 (fs ++ [f]) := by
  have hg := h.geF
  have hfl : ∀ b ∈ (fs ++ [f]).flatten, b ∈ fs.flatten ∨ w.heap.size ≤ b := fun b hb => by
    rw [List.flatten_append] at hb
    rcases List.mem_append.1 hb with hb | hb
    · exact .inl hb
    · exact .inr (hf b (by simpa using hb))
  have hd : ∀ b ∈ v3.ownBlock.toList, b < w.heap.size := fun b hb => (hg b (List.mem_append_right _ (List.mem_append_right _ hb))).2
  have h1 : ∀ b ∈ f1, b < w.heap.size := fun b hb => (hg b (List.mem_append_left _ (List.mem_append_left _ hb))).2
  refine ⟨Rp.only (Rp.keep h.tk k0) hO (fun b hb hm => (h.s2 b hm).1 hb), hA, (h.dt.keep k0).only hO (fun q hq hm => (h.s2 q hm).2 (by simp [hq])), fun b hb => ?_, fun b hb => ?_, fun b hb => ⟨(h.s3 b hb).1, fun hm => ?_⟩⟩
  · rcases List.mem_append.1 hb with hb | hb
    · exact h.ge b (List.mem_append_left _ hb)
    · rcases hfl b hb with hb | hb
      · exact h.ge b (List.mem_append_right _ hb)
      · omega
  · rcases hN with e | ⟨q, e, hq⟩
    · rw [e] at hb; exact h.s2 b hb
    · have : b = q := by rw [e] at hb; simpa [eq_comm] using hb
      subst this
      exact ⟨fun hm => by have := h1 b hm; omega, fun hm => by have := hd b hm; omega⟩
  · rcases hfl b hm with hm | hm
    · exact (h.s3 b hb).2 hm
    · have := hd b hb; omega
/-- a distance is appended -/
theorem TW.pushD {B : Nat} {w w' : World} {v1 v2 v3 u : Value} {t : Table} {f1 : List Nat} {fs : List (List Nat)} {y : Int} (h : TW B w v1 v2 v3 t f1 fs) {w7 : World} (h7 : TW B w7 v1 v2 v3 t f1 fs) (hA : AccI B 2 w' u (t.distances ++ [y])) (hO : Only v3.ownBlock.toList w7 w') (hN : u.ownBlock = v3.ownBlock ∨ ∃ q, u.ownBlock = some q ∧ w.heap.size ≤ q) : TW B w' v1 v2 u ⟨t.tracked, t.patterns, t.distances ++ [y]⟩ f1 fs := by
  have hg := h.geF
  refine ⟨Rp.only h7.tk hO (fun b hb hm => (h.s3 b hm).1 hb), h7.pt.only hO (fun b hb hm => (h.s3 b hm).2 hb) (fun q hq hm => (h.s2 q (by simp [hq])).2 hm), hA, h.ge, fun b hb => ⟨(h.s2 b hb).1, fun hm => ?_⟩, fun b hb => ?_⟩
  · rcases hN with e | ⟨q, e, hq⟩
    · rw [e] at hm; exact (h.s2 b hb).2 hm
    · have : b = q := by rw [e] at hm; simpa [eq_comm] using hm
      have := (hg b (List.mem_append_right _ (List.mem_append_left _ hb))).2
      omega
  · rcases hN with e | ⟨q, e, hq⟩
    · rw [e] at hb; exact h.s3 b hb
    · have : b = q := by rw [e] at hb; simpa [eq_comm] using hb
      subst this
      refine ⟨fun hm => ?_, fun hm => ?_⟩
      · have := (hg b (List.mem_append_left _ (List.mem_append_left _ hm))).2; omega
      · have := (hg b (List.mem_append_left _ (List.mem_append_right _ hm))).2; omega
/-- a copy of a pattern is appended: the end of it -/
theorem fin24 {W9 w8 w9 : World} {B tb gp k : Nat} {A1 A3 a9 : Option Addr} {C1 C2 C3 c9 : Nat} {t1 : Table} {f1 f7 : List Nat} {fs : List (List Nat)} (hkp : k < t1.patterns.length) (hS : B ≤ W9.heap.size) (htl : tb < W9.heap.size) (hgp : gp ≠ tb)
    (TW8 : TW B W9 (.slice A1 t1.tracked.length C1) (.slice (some ⟨gp, 0, none⟩) t1.patterns.length C2) (.slice A3 t1.distances.length C3) t1 f1 fs) (ne8 : ∀ b ∈ TWf (.slice (some ⟨gp, 0, none⟩) t1.patterns.length C2) (.slice A3 t1.distances.length C3) f1 fs, b ≠ tb) (T8 : Blk W9 tb [.slice A1 t1.tracked.length C1, .slice (some ⟨gp, 0, none⟩) t1.patterns.length C2, .slice A3 t1.distances.length C3])
    (k8 : Only [] W9 w8) (hf7 : ∀ b ∈ f7, W9.heap.size ≤ b) (hA9 : Acc B 27 w9 (.slice a9 (t1.patterns.length + 1) c9) (t1.patterns ++ [t1.patterns[k]]) (fs ++ [f7])) (hO9 : Only [gp] w8 w9) (hN9 : (Value.slice a9 (t1.patterns.length + 1) c9).ownBlock = (Value.slice (some ⟨gp, 0, none⟩) t1.patterns.length C2).ownBlock ∨ (Value.slice a9 (t1.patterns.length + 1) c9).ownBlock = some w8.heap.size) :
    ∃ (A2' : Option Addr) (C2' : Nat) (fs' : List (List Nat)), Blk (w9.setCell ⟨tb, 1, none⟩ (.slice a9 (t1.patterns.length + 1) c9)) tb [.slice A1 t1.tracked.length C1, .slice A2' (t1.patterns.length + 1) C2', .slice A3 t1.distances.length C3] ∧ TW B (w9.setCell ⟨tb, 1, none⟩ (.slice a9 (t1.patterns.length + 1) c9)) (.slice A1 t1.tracked.length C1) (.slice A2' (t1.patterns.length + 1) C2') (.slice A3 t1.distances.length C3) ⟨t1.tracked, t1.patterns ++ [t1.patterns[k]], t1.distances⟩ f1 fs' ∧ (∀ b ∈ TWf (.slice A2' (t1.patterns.length + 1) C2') (.slice A3 t1.distances.length C3) f1 fs', b ≠ tb) ∧ Only [gp, tb] W9 (w9.setCell ⟨tb, 1, none⟩ (.slice a9 (t1.patterns.length + 1) c9)) := by
  have kq : Only [tb] w9 (w9.setCell ⟨tb, 1, none⟩ (.slice a9 (t1.patterns.length + 1) c9)) := (Only.refl _ _).setCell (by simp) _
  have hN : (Value.slice a9 (t1.patterns.length + 1) c9).ownBlock = (Value.slice (some ⟨gp, 0, none⟩) t1.patterns.length C2).ownBlock ∨ ∃ q, (Value.slice a9 (t1.patterns.length + 1) c9).ownBlock = some q ∧ W9.heap.size ≤ q := hN9.elim .inl fun e => .inr ⟨_, e, k8.size⟩
  have J9 := (T8.keep k8).only hO9 (by simpa using Ne.symm hgp)
  have TP := TW8.pushP hS k8 hA9 hO9 hN hf7
  have hne' : ∀ b ∈ TWf (.slice a9 (t1.patterns.length + 1) c9) (.slice A3 t1.distances.length C3) f1 (fs ++ [f7]), b ≠ tb := fun b hb e => by
    rcases List.mem_append.1 hb with hb | hb
    · rcases List.mem_append.1 hb with hb | hb
      · exact ne8 b (List.mem_append_left _ (List.mem_append_left _ hb)) e
      · rw [List.flatten_append] at hb
        rcases List.mem_append.1 hb with hb | hb
        · exact ne8 b (List.mem_append_left _ (List.mem_append_right _ hb)) e
        · have := hf7 b (by simpa using hb); omega
    · rcases List.mem_append.1 hb with hb | hb
      · rcases hN with e' | ⟨q, e', hq⟩
        · rw [e'] at hb; exact ne8 b (List.mem_append_right _ (List.mem_append_left _ hb)) e
        · have : b = q := by rw [e'] at hb; simpa [eq_comm] using hb
          omega
      · exact ne8 b (List.mem_append_right _ (List.mem_append_right _ hb)) e
  exact ⟨a9, c9, fs ++ [f7], J9.set 1 _, TP.only kq (fun b hb hm => hne' b hb (by simpa using hm)), hne', ((k8.weaken _).trans (hO9.mono (by simp))).trans (kq.mono (by simp))⟩
/-- a distance is appended: the end of it -/
theorem fin25 {w W9 W10 w7 w8 w9 : World} {g : Nat} {fc : List Nat} {l : List UInt8} {n : Int} {nm : ByteArray} {am : Option Addr} {cm : Nat} {gs : List (List Int)} {fp : List Nat} {B pb tb gp gd k : Nat} {A1 A2' a9 : Option Addr} {C1 C2' C3 c9 : Nat} {t1 : Table} {f1 : List Nat} {fs' : List (List Nat)} {y : Int}
    (hg : g < w.heap.size) (hfc : ∀ b ∈ fc, b < w.heap.size) (hBw : w.heap.size + 2 ≤ B) (htbB : B ≤ tb) (htl : tb < W9.heap.size) (HM : midT t1) (h3 : t1.patterns.length ≤ 3000) (h4 : t1.distances.length ≤ 3000) (hkp : k < t1.patterns.length)
    (HR : ∀ (fpK : List Nat) (W : World), Only fpK W9 W → (∀ q ∈ fpK, q = g ∨ B ≤ q) → Only [g] w W ∧ Blk W w.heap.size [.int .i64 0, .string ⟨#[]⟩, .slice none 0 0] ∧ Blk W (w.heap.size + 1) [.slice none 0 0, .slice none 0 0, .slice none 0 0] ∧ Blk W pb [.int .i64 n, .string nm, .slice am gs.length cm] ∧ Rd W (.slice am gs.length cm) gs fp)
    (gB : B ≤ gp) (gdB : B ≤ gd) (hdp : gd ≠ tb) (KA : Only [gp, tb] W9 W10) (TWA : TW B W10 (.slice A1 t1.tracked.length C1) (.slice A2' (t1.patterns.length + 1) C2') (.slice (some ⟨gd, 0, none⟩) t1.distances.length C3) ⟨t1.tracked, t1.patterns ++ [t1.patterns[k]], t1.distances⟩ f1 fs') (neA : ∀ b ∈ TWf (.slice A2' (t1.patterns.length + 1) C2') (.slice (some ⟨gd, 0, none⟩) t1.distances.length C3) f1 fs', b ≠ tb)
    (K67 : Only [g] W10 w7) (D7 : Src w7 g fc l) (T7 : Blk w7 tb [.slice A1 t1.tracked.length C1, .slice A2' (t1.patterns.length + 1) C2', .slice (some ⟨gd, 0, none⟩) t1.distances.length C3]) (k8 : Only [] w7 w8)
    (hA9 : AccI B 2 w9 (.slice a9 (t1.distances.length + 1) c9) (t1.distances ++ [y])) (hO9 : Only [gd] w8 w9) (hN9 : (Value.slice a9 (t1.distances.length + 1) c9).ownBlock = (Value.slice (some ⟨gd, 0, none⟩) t1.distances.length C3).ownBlock ∨ (Value.slice a9 (t1.distances.length + 1) c9).ownBlock = some w8.heap.size) :
    FT w g fc l n nm am cm gs fp pb tb (w9.setCell ⟨tb, 2, none⟩ (.slice a9 (t1.distances.length + 1) c9)) := by
  have hdg : gd ≠ g := by omega
  have hsA := KA.size
  have kq : Only [tb] w9 (w9.setCell ⟨tb, 2, none⟩ (.slice a9 (t1.distances.length + 1) c9)) := (Only.refl _ _).setCell (by simp) _
  have hN : (Value.slice a9 (t1.distances.length + 1) c9).ownBlock = (Value.slice (some ⟨gd, 0, none⟩) t1.distances.length C3).ownBlock ∨ ∃ q, (Value.slice a9 (t1.distances.length + 1) c9).ownBlock = some q ∧ W10.heap.size ≤ q := hN9.elim .inl fun e => .inr ⟨_, e, Nat.le_trans K67.size k8.size⟩
  have TW7 := TWA.only K67 (fun b hb hm => by have := (TWA.geF b hb).1; simp at hm; omega)
  have J9 := (T7.keep k8).only hO9 (by simpa using Ne.symm hdp)
  have TP := TWA.pushD (TW7.keep k8) hA9 hO9 hN
  have hne' : ∀ b ∈ TWf (.slice A2' (t1.patterns.length + 1) C2') (.slice a9 (t1.distances.length + 1) c9) f1 fs', b ≠ tb := fun b hb e => by
    rcases List.mem_append.1 hb with hb | hb
    · exact neA b (List.mem_append_left _ hb) e
    · rcases List.mem_append.1 hb with hb | hb
      · exact neA b (List.mem_append_right _ (List.mem_append_left _ hb)) e
      · rcases hN with e' | ⟨q, e', hq⟩
        · rw [e'] at hb; exact neA b (List.mem_append_right _ (List.mem_append_right _ hb)) e
        · have : b = q := by rw [e'] at hb; simpa [eq_comm] using hb
          omega
  obtain ⟨q1, q2, q3, q4, q5⟩ := HR [gp, tb, g, gd] _ (((KA.mono (by simp)).trans ((K67.mono (by simp)).trans (k8.weaken _))).trans ((hO9.mono (by simp)).trans (kq.mono (by simp)))) (by simp; omega)
  exact ⟨_, _, _, _, _, _, _, _, _, J9.set 2 _, (TP.only kq (fun b hb hm => hne' b hb (by simpa using hm))).jt ⟨HM.1, by show (t1.patterns ++ [t1.patterns[k]]).length ≤ _; rw [List.length_append, List.length_singleton]; omega, fun y hy => by
    rcases List.mem_append.1 hy with hy | hy
    · exact HM.2.2.1 y hy
    · rw [List.mem_singleton.1 hy]; exact HM.2.2.1 _ (List.getElem_mem hkp), by show (t1.distances ++ [_]).length ≤ _; rw [List.length_append, List.length_singleton]; omega⟩ hBw, ((D7.keep k8).only hO9 (by simpa using Ne.symm hdg) (fun b hb hm => by have := hfc b hb; simp at hm; omega)).only kq (by simp; omega) (fun b hb hm => by have := hfc b hb; simp at hm; omega), q1, q2, q3, q4, q5⟩
/-- a distance is changed: the end of it -/
theorem fin19 {w W9 w7 : World} {g : Nat} {fc : List Nat} {l : List UInt8} {n : Int} {nm : ByteArray} {am : Option Addr} {cm : Nat} {gs : List (List Int)} {fp : List Nat} {B pb tb gd k : Nat} {A1 A2 : Option Addr} {C1 C2 C3 : Nat} {t1 : Table} {f1 : List Nat} {fs : List (List Nat)} {y : Int}
    (hg : g < w.heap.size) (hfc : ∀ b ∈ fc, b < w.heap.size) (hBw : w.heap.size + 2 ≤ B) (HM : midT t1) (hkd : k < t1.distances.length)
    (HR : ∀ (fpK : List Nat) (W : World), Only fpK W9 W → (∀ q ∈ fpK, q = g ∨ B ≤ q) → Only [g] w W ∧ Blk W w.heap.size [.int .i64 0, .string ⟨#[]⟩, .slice none 0 0] ∧ Blk W (w.heap.size + 1) [.slice none 0 0, .slice none 0 0, .slice none 0 0] ∧ Blk W pb [.int .i64 n, .string nm, .slice am gs.length cm] ∧ Rd W (.slice am gs.length cm) gs fp)
    (gB : B ≤ gd) (hdp : gd ≠ tb) (TW8 : TW B W9 (.slice A1 t1.tracked.length C1) (.slice A2 t1.patterns.length C2) (.slice (some ⟨gd, 0, none⟩) t1.distances.length C3) t1 f1 fs)
    (K67 : Only [g] W9 w7) (D7 : Src w7 g fc l) (T7 : Blk w7 tb [.slice A1 t1.tracked.length C1, .slice A2 t1.patterns.length C2, .slice (some ⟨gd, 0, none⟩) t1.distances.length C3]) (hy : I64 (t1.distances[k] + y)) :
    FT w g fc l n nm am cm gs fp pb tb (w7.setCell ⟨gd, k, none⟩ (.int .i64 (t1.distances[k] + y))) := by
  have hdg : gd ≠ g := by omega
  obtain ⟨_, _, ev9, -, -, -, -, kq, WQ⟩ := (TW8.only K67 (fun b hb hm => by have := (TW8.geF b hb).1; simp at hm; omega)).putD hkd (x := t1.distances[k] + y) hy
  injection ev9 with e1'
  injection e1' with e1'
  injection e1' with e1'
  subst e1'
  obtain ⟨q1, q2, q3, q4, q5⟩ := HR [g, gd] _ ((K67.mono (by simp)).trans (kq.mono (by simp))) (by simp; exact .inr gB)
  exact ⟨_, _, _, _, _, _, _, _, _, T7.only kq (by simpa using Ne.symm hdp), WQ.jt ⟨HM.1, HM.2.1, HM.2.2.1, by show (List.set _ _ _).length ≤ _; rw [List.length_set]; exact HM.2.2.2⟩ hBw, D7.only kq (by simpa using Ne.symm hdg) (fun b hb hm => by have := hfc b hb; simp at hm; omega), q1, q2, q3, q4, q5⟩
theorem half_rng {x : Int} (h : -10000 ≤ x ∧ x ≤ 10000) : -10000 ≤ x.tdiv 2 ∧ x.tdiv 2 ≤ 10000 := by
  have h1 := Int.mul_tdiv_add_tmod x 2
  rcases Int.le_total 0 x with h0 | h0
  · rw [Int.tdiv_eq_ediv_of_nonneg h0]; omega
  · have : x.tdiv 2 = -((-x) / 2) := by rw [← Int.tdiv_eq_ediv_of_nonneg (by omega), Int.neg_tdiv]; omega
    rw [this]; omega
theorem ent_len {l : List Int} (h : ∀ d ∈ l, inR d 0 3000 = true) : ∀ d ∈ l, -10000 ≤ d ∧ d ≤ 10000 := fun d hd => by have := inR_iff.1 (h d hd); omega
set_option maxHeartbeats 16000000 in
theorem draw30_any (g : Nat) (fc : List Nat) (l : List UInt8) (w : World) (h : Src w g fc l) (hl : l.length ≤ 4096) :
    Calls Try.prog 12 #[.pointer (some ⟨g, 0, none⟩)] w (DrT w g fc l) := by
  obtain ⟨i1, hi, hz0, hz1, hz2⟩ := info_parts Try.info2
  obtain ⟨il, hil, hl0, hl1, hl2⟩ := info_parts Try.info22
  have hg := h.lt
  have hfc : ∀ b ∈ fc, b < w.heap.size := by obtain ⟨_, _, _, _, _, _, _, h4, _⟩ := h; exact fun b hb => Rp.lt h4 b hb
  have R0 := (Blk.new w [.int .i64 0, .string ⟨#[]⟩, .slice none 0 0] 26).keep ((Only.refl _ _).alloc (.cells #[.slice none 0 0, .slice none 0 0, .slice none 0 0] 29))
  have R1 : Blk ((w.alloc (.cells #[.int .i64 0, .string ⟨#[]⟩, .slice none 0 0] 26)).alloc (.cells #[.slice none 0 0, .slice none 0 0, .slice none 0 0] 29)) (w.heap.size + 1) [.slice none 0 0, .slice none 0 0, .slice none 0 0] := Blk.new_at (by simp)
  have ho : Only [] w ((w.alloc (.cells #[.int .i64 0, .string ⟨#[]⟩, .slice none 0 0] 26)).alloc (.cells #[.slice none 0 0, .slice none 0 0, .slice none 0 0] 29)) := ((Only.refl _ _).alloc _).alloc _
  have Hsz0 : Hid (((w.alloc (.cells #[.int .i64 0, .string ⟨#[]⟩, .slice none 0 0] 26)).alloc (.cells #[.slice none 0 0, .slice none 0 0, .slice none 0 0] 29)).heap.size = w.heap.size + 2) := Lib.hid (by simp)
  have e1 : (w.alloc (.cells #[.int .i64 0, .string ⟨#[]⟩, .slice none 0 0] 26)).heap.size = w.heap.size + 1 := by simp
  have D0 := h.keep ho
  go_enter Try.func12, Try.ntmps12
  go_upto_region 1 with fail
  try rw [e1]
  obtain ⟨W0, hW0⟩ : ∃ W, W = ((w.alloc (.cells #[.int .i64 0, .string ⟨#[]⟩, .slice none 0 0] 26)).alloc (.cells #[.slice none 0 0, .slice none 0 0, .slice none 0 0] 29)) := ⟨_, rfl⟩
  rw [← hW0] at R0 R1 ho Hsz0 D0 ⊢
  clear hW0 e1 h
  go_upto_region 2 with (first
    | (go_at_call 21; (with_reducible refine (draw28_any g fc l W0 D0 hl).mono ?_); rintro e w1 ⟨n, nm, vm, gs, fp, v1, v2, v3, nx, sy, lg, rfl, hn, nml, rm, gem, gl9, gy30, hval, hJT, D1, K1⟩; obtain ⟨am, cm, _, _, rfl, -, -⟩ := rm.open_; obtain ⟨t0, f0, r0, ge0, mid0⟩ := hJT; have r0' := r0; obtain ⟨_, _, _, _, _, _, hcs, -, k1, k2, k3⟩ := r0'; injection hcs with h1 hcs; injection hcs with h2 hcs; injection hcs with h3 hcs; subst h1; subst h2; subst h3; obtain ⟨a1, c1, _, _, rfl, -, -⟩ := k1.open_; obtain ⟨a2, c2, _, _, rfl, -, -⟩ := k2.open_; obtain ⟨a3, c3, _, _, rfl, -, -⟩ := k3.open_; have R01 := R0.only K1 (by simp; omega); have R11 := R1.only K1 (by simp; omega))
    | fail "no arm")
  have hge : ∀ b ∈ fp, w.heap.size + 2 ≤ b := fun b hb => by have := gem b hb; rw [Hsz0.out] at this; exact this
  have hge0 : ∀ b ∈ f0, w.heap.size + 2 ≤ b := fun b hb => by have := ge0 b hb; rw [Hsz0.out] at this; exact this
  have s1 : w.heap.size + 2 ≤ w1.heap.size := by have := K1.size; rw [Hsz0.out] at this; exact this
  have kal : Only [] w1 ((w1.alloc (.cells #[.int .i64 n, .string nm, .slice am gs.length cm] 26)).alloc (.cells #[.slice a1 t0.tracked.length c1, .slice a2 t0.patterns.length c2, .slice a3 t0.distances.length c3, .int .i64 nx, .string lg, .int .i64 sy] 57)) := ((Only.refl _ _).alloc _).alloc _
  have P2 := (Blk.new w1 [.int .i64 n, .string nm, .slice am gs.length cm] 26).keep ((Only.refl _ _).alloc (.cells #[.slice a1 t0.tracked.length c1, .slice a2 t0.patterns.length c2, .slice a3 t0.distances.length c3, .int .i64 nx, .string lg, .int .i64 sy] 57))
  have J2 : Blk ((w1.alloc (.cells #[.int .i64 n, .string nm, .slice am gs.length cm] 26)).alloc (.cells #[.slice a1 t0.tracked.length c1, .slice a2 t0.patterns.length c2, .slice a3 t0.distances.length c3, .int .i64 nx, .string lg, .int .i64 sy] 57)) (w1.heap.size + 1) [.slice a1 t0.tracked.length c1, .slice a2 t0.patterns.length c2, .slice a3 t0.distances.length c3, .int .i64 nx, .string lg, .int .i64 sy] := Blk.new_at (by simp)
  have eY : (w1.alloc (.cells #[.int .i64 n, .string nm, .slice am gs.length cm] 26)).heap.size = w1.heap.size + 1 := by simp
  have eZ : ((w1.alloc (.cells #[.int .i64 n, .string nm, .slice am gs.length cm] 26)).alloc (.cells #[.slice a1 t0.tracked.length c1, .slice a2 t0.patterns.length c2, .slice a3 t0.distances.length c3, .int .i64 nx, .string lg, .int .i64 sy] 57)).heap.size = w1.heap.size + 2 := by simp
  have R02 := R01.keep kal
  have R12 := R11.keep kal
  have rm2 := Rp.keep rm kal
  have r02 := Rp.keep r0 kal
  have rt2 := Rp.keep k1 kal
  have D2 := D1.keep kal
  have k2w : Only [g] w ((w1.alloc (.cells #[.int .i64 n, .string nm, .slice am gs.length cm] 26)).alloc (.cells #[.slice a1 t0.tracked.length c1, .slice a2 t0.patterns.length c2, .slice a3 t0.distances.length c3, .int .i64 nx, .string lg, .int .i64 sy] 57)) := ((ho.weaken [g]).trans K1).trans (kal.weaken [g])
  have hfl : ∀ b ∈ fp, b < w1.heap.size := fun b hb => Rp.lt rm b hb
  try rw [eY]
  obtain ⟨W2, hW2⟩ : ∃ W, W = ((w1.alloc (.cells #[.int .i64 n, .string nm, .slice am gs.length cm] 26)).alloc (.cells #[.slice a1 t0.tracked.length c1, .slice a2 t0.patterns.length c2, .slice a3 t0.distances.length c3, .int .i64 nx, .string lg, .int .i64 sy] 57)) := ⟨_, rfl⟩
  obtain ⟨pb, hpb⟩ : ∃ pb, pb = w1.heap.size := ⟨_, rfl⟩
  obtain ⟨jb, hjb⟩ : ∃ jb, jb = w1.heap.size + 1 := ⟨_, rfl⟩
  rw [← hW2] at P2 J2 R02 R12 rm2 r02 rt2 D2 k2w ⊢
  rw [← hjb] at J2 ⊢
  rw [← hpb] at P2 hfl s1 hjb ⊢
  have hjp : pb < jb := by omega
  have hj2 : jb < W2.heap.size := J2.lt
  have Hge := Lib.hid hge; have Hfl := Lib.hid hfl; have Hval := Lib.hid hval; have Gy := Lib.hid gy30
  clear hjb eZ hW2 hpb eY R0 R1 R01 R11 rm D0 D1 kal ho K1 gem ge0 hge hfl hval gy30 r0 k1 k2 k3
  have hx : Rp.rep W2 [.int .i64 n, .string nm, .slice am gs.length cm] (⟨n, nm, gs⟩ : Puzzle) fp := ⟨_, rfl, hn, by show nm.size ≤ maxLen; unfold maxLen; omega, rm2⟩
  have x02 := P2.cell 0 rfl; have x12 := P2.cell 1 rfl; have x22 := P2.cell 2 rfl
  have j02 := J2.cell 0 rfl
  have HcB := Lib.hid (specBuildTable_acc [.int .i64 n, .string nm, .slice am gs.length cm] ⟨n, nm, gs⟩ fp (.slice a1 t0.tracked.length c1) t0.tracked _ W2 hx rt2 mid0.1)
  cases hb : bTab (⟨n, nm, gs⟩ : Puzzle) t0.tracked with
  | none =>
    have Hb := Lib.hid hb
    clear hb
    go_upto_region 4 with (first
      | (go_at_call 7; (with_reducible refine (HcB.out).mono ?_); rintro e w4 ⟨u1, u2, u3, fs4, rfl, hyes, hno, t4⟩; obtain ⟨rfl, rfl, rfl⟩ := hno Hb.out; rw [Hb.out]; clear hyes hno; have P4 := P2.keep t4; have J4 := J2.keep t4; have R04 := R02.keep t4; have R14 := R12.keep t4; have D4 := D2.keep t4)
      | fail "no arm")
    have kal : Only [] w4 (w4.alloc (.cells #[.slice none 0 0, .slice none 0 0, .slice none 0 0] 29)) := (Only.refl _ _).alloc _
    have P5 := P4.keep kal
    have R05 := R04.keep kal
    have R15 := R14.keep kal
    have J5 := J4.keep kal
    have D5 := D4.keep kal
    have k25 : Only [] W2 (w4.alloc (.cells #[.slice none 0 0, .slice none 0 0, .slice none 0 0] 29)) := t4.trans kal
    obtain ⟨W5, hW5⟩ : ∃ W, W = w4.alloc (.cells #[.slice none 0 0, .slice none 0 0, .slice none 0 0] 29) := ⟨_, rfl⟩
    rw [← hW5] at J5 P5 R05 R15 D5 k25 ⊢
    clear hW5 P4 R04 R14 D4 kal t4 P2 R02 R12 D2 J4 J2 x02 x12 x22 j02
    obtain ⟨Vf, hVf, S0, S1, hD⟩ := DrT.mk hg hfc R05 R15 hn nml (Rp.keep rm2 k25) Hge.out gl9 Gy.out Hval.out ⟨t0, f0, Rp.keep r02 k25, hge0, mid0⟩ D5 (k2w.trans (k25.weaken [g]))
    have x0z := P5.cell 0 rfl; have x1z := P5.cell 1 rfl; have x2z := P5.cell 2 rfl
    have a0z := R05.cell 0 rfl; have a1z := R05.cell 1 rfl; have a2z := R05.cell 2 rfl
    have b0z := R05.frozen 0; have b1z := R05.frozen 1; have b2z := R05.frozen 2
    have c0z := R15.cell 0 rfl; have c1z := R15.cell 1 rfl; have c2z := R15.cell 2 rfl
    have d0z := R15.frozen 0; have d1z := R15.frozen 1; have d2z := R15.frozen 2
    have j0z := J5.cell 0 rfl; have j1z := J5.cell 1 rfl; have j2z := J5.cell 2 rfl
    go_region_law (fail "no arm")
    all_goals
      go_wp2
      rw [← hVf]
      have x0y := S0.cell 0 rfl; have x1y := S0.cell 1 rfl; have x2y := S0.cell 2 rfl
      have c0y := S1.cell 0 rfl; have c1y := S1.cell 1 rfl; have c2y := S1.cell 2 rfl
      exact bodyPost_ret (v := .tuple #[.agg #[.int .i64 n, .string nm, .slice am gs.length cm], .agg #[.slice a1 t0.tracked.length c1, .slice a2 t0.patterns.length c2, .slice a3 t0.distances.length c3]]) (by simp [results, Try.results12, go_sem, x0y, x1y, x2y, c0y, c1y, c2y]) rfl (hD.keep (by with_reducible repeat (first | exact Only.refl _ _ | refine Only.drewN ?_ _ | refine Only.drew ?_)))
  | some t =>
    obtain ⟨hbu, htt⟩ := bTab_built hb
    have hck := checkT_iff.1 hbu.check
    have hwf := wfT_iff.1 hck.2.1
    have hN1 : 1 ≤ t.patterns.length := hwf.2.1.1
    have hN2 : t.patterns.length ≤ 3000 := hwf.2.1.2
    have hdl : t.distances.length = t.patterns.length := hwf.2.2.1
    have hmid : midT t := ⟨by rw [htt]; exact mid0.1, by omega, fun y hy => by have := (patB_iff.1 (hwf.2.2.2.1 y hy)).1; have h9 := mid0.1; rw [← htt] at h9; omega, by omega⟩
    have hdi := ent_len hwf.2.2.2.2
    have Hb := Lib.hid hb
    have Hdl := Lib.hid hdl
    clear hb hbu hck hwf hdl htt
    go_upto_region 5 with (first
      | (go_at_call 7; (with_reducible refine (HcB.out).mono ?_); rintro e w4 ⟨u1, u2, u3, fs4, rfl, hyes, hno, t4⟩; have hT4 := hyes t Hb.out; obtain ⟨b1, d1, rfl⟩ := hT4.tk.form; obtain ⟨b2, d2, rfl⟩ := hT4.pt.form; obtain ⟨b3, d3, rfl⟩ := hT4.dt.form; have HT4 := Lib.hid hT4; rw [Hb.out]; clear hyes hno hT4; have P4 := P2.keep t4; have R04 := R02.keep t4; have R14 := R12.keep t4; have D4 := D2.keep t4)
      | fail "no arm")
    have kal : Only [] w4 (w4.alloc (.cells #[.slice b1 t.tracked.length d1, .slice b2 t.patterns.length d2, .slice b3 t.distances.length d3] 29)) := (Only.refl _ _).alloc _
    have T5 := Blk.new w4 [.slice b1 t.tracked.length d1, .slice b2 t.patterns.length d2, .slice b3 t.distances.length d3] 29
    have P5 := P4.keep kal
    have R05 := R04.keep kal
    have R15 := R14.keep kal
    have D5 := D4.keep kal
    have k25 : Only [] W2 (w4.alloc (.cells #[.slice b1 t.tracked.length d1, .slice b2 t.patterns.length d2, .slice b3 t.distances.length d3] 29)) := t4.trans kal
    have hT5 := (HT4.out.keep kal).tw
    have hlt4 : ∀ b ∈ TWf (.slice b2 t.patterns.length d2) (.slice b3 t.distances.length d3) (Value.slice b1 t.tracked.length d1).ownBlock.toList fs4, b < w4.heap.size := fun b hb => (HT4.out.tw.geF b hb).2
    have s4 := t4.size
    obtain ⟨W5, hW5⟩ : ∃ W, W = w4.alloc (.cells #[.slice b1 t.tracked.length d1, .slice b2 t.patterns.length d2, .slice b3 t.distances.length d3] 29) := ⟨_, rfl⟩
    obtain ⟨tb, htb⟩ : ∃ tb, tb = w4.heap.size := ⟨_, rfl⟩
    rw [← hW5] at T5 P5 R05 R15 D5 k25 hT5 ⊢
    rw [← htb] at T5 s4 hlt4 ⊢
    have htbB : W2.heap.size ≤ tb := s4
    obtain ⟨N, hN⟩ : ∃ N, N = t.patterns.length := ⟨_, rfl⟩
    have hdN : t.distances.length = N := by rw [Hdl.out, hN]
    have HV5 : TV w g fc l n nm am cm gs fp W2.heap.size pb tb N W5 := ⟨t, b1, b2, b3, d1, d2, d3, _, fs4, T5, hT5, fun b hb e => by have := hlt4 b hb; omega, ⟨hN.symm, hdN⟩, hmid, hdi, D5, k2w.trans (k25.weaken [g]), R05, R15, P5, Rp.keep rm2 k25⟩
    have hBw : w.heap.size + 2 ≤ W2.heap.size := by omega
    have hpw : w.heap.size + 2 ≤ pb := s1
    have hpB : pb < W2.heap.size := by omega
    have t15 := T5.cell 1 rfl
    clear hW5 htb P4 R04 R14 D4 kal t4 HT4 P2 R02 R12 D2 J2 x02 x12 x22 j02 HcB hx rm2 r02 rt2 k2w
    go_upto_region 6 with fail
    rw [← hN]
    rw [← hN] at hN1 hN2
    clear T5 P5 R05 R15 D5 hT5 hlt4 k25 t15 hmid hdi hN hdN
    go_cut [41] (fun s41 wx => ∃ b : Bool, s41 = .bool b ∧ (b = true → 2 < N) ∧ TV w g fc l n nm am cm gs fp W2.heap.size pb tb N wx)
    case first =>
      have hD5 : Src W5 g fc l := by obtain ⟨_, _, _, _, _, _, _, _, _, _, _, _, _, _, _, hD, _⟩ := HV5; exact hD
      by_cases h2 : 2 < N
      · have h2I : (2 : Int) < (N : Int) := by omega
        go_wp2_with ((go_at_call 22; (with_reducible refine (oneIn_any g fc l 3 W5 hD5 hl (by omega)).mono ?_); rintro e w6 ⟨b6, rfl, D6, K6⟩))
        go_meet
        exact ⟨_, rfl, fun _ => h2, HV5.draw hg hpw hBw htbB Hge.out D6 K6⟩
      · have h2I : ¬ (2 : Int) < (N : Int) := by omega
        go_wp2
        go_meet
        exact ⟨false, rfl, (fun h => by cases h), HV5⟩
    case rest =>
    obtain ⟨W6, hnew⟩ : ∃ W, W = wc := ⟨_, rfl⟩
    subst hnew
    obtain ⟨b6, rfl, hb6, HV6⟩ := hcut
    refine (show ∀ a w, Code.wp Try.prog _ _ a w → _ from by assumption) _ _ ?_
    go_cut [] (fun wx => TV w g fc l n nm am cm gs fp W2.heap.size pb tb N wx)
    case first =>
      as_aux_lemma =>
      cases b6
      · go_wp2
        go_meet
        exact HV6
      · have h2 := hb6 rfl
        clear hb6
        have hwN : IntKind.i64.wrap ((N : Int) - 1) = ((N - 1 : Nat) : Int) := by rw [IntKind.wrap_i64]; omega
        have hD6 : Src W6 g fc l := by obtain ⟨_, _, _, _, _, _, _, _, _, _, _, _, _, _, _, hD, _⟩ := HV6; exact hD
        go_upto_region 8 with (first
          | (go_at_call 23; (with_reducible refine (srcBelow_any g fc l ((N - 1 : Nat) : Int) W6 hD6 hl (by omega)).mono ?_); rintro e w7 ⟨r, rfl, r0, r1, D7, K7⟩; obtain ⟨k1, rfl⟩ := Int.eq_ofNat_of_zero_le r0; have hw1 : IntKind.i64.wrap (1 + (k1 : Int)) = ((1 + k1 : Nat) : Int) := (by rw [IntKind.wrap_i64]; omega); have ha1 : 1 + k1 < N := (by omega))
          | fail "no arm")
        have HV7 := HV6.draw hg hpw hBw htbB Hge.out D7 K7
        clear r0 r1
        go_upto_region 9 with (first
          | (go_at_call 23; (with_reducible refine (srcBelow_any g fc l ((N - 1 : Nat) : Int) w7 D7 hl (by omega)).mono ?_); rintro e w8 ⟨r, rfl, r0, r1, D8, K8⟩; obtain ⟨k2, rfl⟩ := Int.eq_ofNat_of_zero_le r0; have hw2 : IntKind.i64.wrap (1 + (k2 : Int)) = ((1 + k2 : Nat) : Int) := (by rw [IntKind.wrap_i64]; omega); have ha2 : 1 + k2 < N := (by omega))
          | fail "no arm")
        have HV8 := HV7.draw hg hpw hBw htbB Hge.out D8 K8
        obtain ⟨a, ha⟩ : ∃ a : Nat, (a : Int) = 1 + (k1 : Int) := ⟨1 + k1, by omega⟩
        obtain ⟨b, hbb⟩ : ∃ b : Nat, (b : Int) = 1 + (k2 : Int) := ⟨1 + k2, by omega⟩
        rw [← ha, ← hbb]
        have ha1' : a < N := by omega
        have ha2' : b < N := by omega
        clear r0 r1 HV6 HV7 D7 K7 D8 K8 hw1 hw2 ha hbb hwN ha1 ha2
        obtain ⟨t1, A1, A2, A3, C1, C2, C3, f1, fs, T8, W8, ne8, ⟨n8, m8⟩, mid8, di8, D8, k8, R8, S8, P8, rm8⟩ := HV8
        have hpa : a < t1.patterns.length := by omega
        have hpb' : b < t1.patterns.length := by omega
        obtain ⟨gp, cp, ua, fa, ev, ca, za, ra, gfa, fBa, gB, gl, sfa⟩ := W8.cellP hpa
        injection ev with e1 _ e3
        subst e1
        subst e3
        obtain ⟨gp', cp', ub, fb, ev, cb, zb, rb, gfb, fBb, -, -, sfb⟩ := W8.cellP hpb'
        injection ev with e1 _ e3
        injection e1 with e1
        injection e1 with e1
        subst e1
        clear e3
        obtain ⟨xa, ya, _, _, rfl, -, -⟩ := id ra.open_
        obtain ⟨xb, yb, _, _, rfl, -, -⟩ := id rb.open_
        have hIa0 : (0 : Int) ≤ (a : Int) := by omega
        have hIa1 : (a : Int) < (t1.patterns.length : Int) := by omega
        have hIb0 : (0 : Int) ≤ (b : Int) := by omega
        have hIb1 : (b : Int) < (t1.patterns.length : Int) := by omega
        have Hn8 := Lib.hid n8; have Hm8 := Lib.hid m8; have Hne8 := Lib.hid ne8
        have hgp : gp ≠ tb := ne8 gp (List.mem_append_right _ (List.mem_append_left _ (by simp [Value.ownBlock])))
        have hgpg : gp ≠ g := by omega
        clear n8 m8 ne8
        have t08 := T8.cell 0 rfl; have t18 := T8.cell 1 rfl; have t28 := T8.cell 2 rfl
        go_upto_region 10 with fail
        go_cut [] (fun wx => ∃ fs', TW W2.heap.size wx (.slice A1 t1.tracked.length C1) (.slice (some ⟨gp, 0, none⟩) t1.patterns.length C2) (.slice A3 t1.distances.length C3) ⟨t1.tracked, t1.patterns.set a t1.patterns[b], t1.distances⟩ f1 fs' ∧ Only [gp] w8 wx ∧ ∀ q ∈ fs'.flatten, q ∈ fs.flatten)
        case first =>
          go_region_law (fail "no arm")
          all_goals
            try go_wp2
            go_meet
            obtain ⟨kq, WQ⟩ := W8.putP hpa rfl rb gfb fBb
            exact ⟨_, WQ.keep (by with_reducible repeat (first | exact Only.refl _ _ | assumption | refine Only.drewN ?_ _ | refine Only.drew ?_ | refine Only.alloc ?_ _ | refine Only.trans ?_ (by assumption))), kq.keepThen (by with_reducible repeat (first | exact Only.refl _ _ | assumption | refine Only.drewN ?_ _ | refine Only.drew ?_ | refine Only.alloc ?_ _ | refine Only.trans ?_ (by assumption))), fun q hq => (mem_flat_set hq).elim (sfb q) id⟩
        case rest =>
        obtain ⟨W9, hnew⟩ : ∃ W, W = wc := ⟨_, rfl⟩
        subst hnew
        obtain ⟨fs9, W9T, K9, sf9⟩ := hcut
        refine (show ∀ a w, Code.wp Try.prog _ _ a w → _ from by assumption) _ _ ?_
        obtain ⟨gp9, cp9, u9, f9, ev9, c9, z9, -, -, -, -, -, -⟩ := W9T.cellP (k := b) (by show b < (t1.patterns.set a _).length; rw [List.length_set]; exact hpb')
        injection ev9 with e1 e2 e3
        clear e2 e3
        injection e1 with e1
        injection e1 with e1
        subst e1
        have T9 := T8.only K9 (by simpa using Ne.symm hgp)
        have t09 := T9.cell 0 rfl; have t19 := T9.cell 1 rfl; have t29 := T9.cell 2 rfl
        have ra9 := Rp.only ra K9 (fun q hq hm => gfa (by have e : q = gp := (by simpa using hm); rw [← e]; exact hq))
        obtain ⟨kq, W10T⟩ := W9T.putP (k := b) (by show b < (t1.patterns.set a _).length; rw [List.length_set]; exact hpb') (by show _ = Value.slice (some ⟨gp, 0, none⟩) (t1.patterns.set a _).length C2; rw [List.length_set]) ra9 gfa fBa
        have D9 := D8.only K9 (by simpa using Ne.symm hgpg) (fun q hq hm => by have := hfc q hq; simp at hm; omega)
        go_upto_region 12 with fail
        have HV10 : TV w g fc l n nm am cm gs fp W2.heap.size pb tb N (W9.setCell ⟨gp, b, none⟩ (.slice xa t1.patterns[a].length ya)) := by
          have l1 : ((t1.patterns.set a t1.patterns[b]).set b t1.patterns[a]).length = t1.patterns.length := by rw [List.length_set, List.length_set]
          have hq : ∀ q : Nat, q < W2.heap.size → q ∉ [gp] := fun q hq hm => by have e : q = gp := (by simpa using hm); omega
          refine ⟨⟨t1.tracked, (t1.patterns.set a t1.patterns[b]).set b t1.patterns[a], t1.distances⟩, A1, some ⟨gp, 0, none⟩, A3, C1, C2, C3, f1, fs9.set b fa, ?_, ?_, ?_, ⟨by rw [← Hn8.out]; exact l1, Hm8.out⟩, ⟨mid8.1, by show ((t1.patterns.set a t1.patterns[b]).set b t1.patterns[a]).length ≤ _; rw [l1]; exact mid8.2.1, fun y hy => ?_, mid8.2.2.2⟩, di8, D9.only kq (by simpa using Ne.symm hgpg) (fun q hq hm => by have := hfc q hq; simp at hm; omega), (k8.then_ K9 (fun q hq hl => by simp at hq; omega)).then_ kq (fun q hq hl => by simp at hq; omega), (R8.only K9 (hq _ (by omega))).only kq (hq _ (by omega)), (S8.only K9 (hq _ (by omega))).only kq (hq _ (by omega)), (P8.only K9 (hq _ hpB)).only kq (hq _ hpB), Rp.only (Rp.only rm8 K9 (fun q hm => hq q (by have := Hfl.out q hm; omega))) kq (fun q hm => hq q (by have := Hfl.out q hm; omega))⟩
          · show Blk _ tb [_, .slice _ ((t1.patterns.set a t1.patterns[b]).set b t1.patterns[a]).length _, _]
            rw [l1]
            exact T9.only kq (by simpa using Ne.symm hgp)
          · show TW _ _ _ (.slice _ ((t1.patterns.set a t1.patterns[b]).set b t1.patterns[a]).length _) _ _ _ _
            rw [l1]
            exact W10T
          · intro q hq
            rcases List.mem_append.1 hq with hq | hq
            · rcases List.mem_append.1 hq with hq | hq
              · exact Hne8.out q (List.mem_append_left _ (List.mem_append_left _ hq))
              · rcases mem_flat_set hq with hq | hq
                · exact Hne8.out q (List.mem_append_left _ (List.mem_append_right _ (sfa q hq)))
                · exact Hne8.out q (List.mem_append_left _ (List.mem_append_right _ (sf9 q hq)))
            · rcases List.mem_append.1 hq with hq | hq
              · have e : q = gp := by simpa [Value.ownBlock, eq_comm] using hq
                rw [e]; exact hgp
              · exact Hne8.out q (List.mem_append_right _ (List.mem_append_right _ hq))
          · rcases List.mem_or_eq_of_mem_set hy with hy | rfl
            · rcases List.mem_or_eq_of_mem_set hy with hy | rfl
              · exact mid8.2.2.1 y hy
              · exact mid8.2.2.1 _ (List.getElem_mem hpb')
            · exact mid8.2.2.1 _ (List.getElem_mem hpa)
        obtain ⟨Wa, hWa⟩ : ∃ W, W = (W9.setCell ⟨gp, b, none⟩ (.slice xa t1.patterns[a].length ya)) := ⟨_, rfl⟩
        rw [← hWa] at HV10 ⊢
        clear hWa W10T kq D9 ra9 T9 t09 t19 t29 c9 z9 W9T K9 sf9 t08 t18 t28 hgp hgpg hIa0 hIa1 hIb0 hIb1 Hn8 Hm8 Hne8 rb gfb fBb sfb cb zb ra gfa fBa sfa ca za W8 T8 D8 k8 R8 S8 P8 rm8 mid8 di8
        have hDa : Src Wa g fc l := by obtain ⟨_, _, _, _, _, _, _, _, _, _, _, _, _, _, _, hD, _⟩ := HV10; exact hD
        go_cut [73] (fun s73 wx => ∃ q : Bool, s73 = .bool q ∧ TV w g fc l n nm am cm gs fp W2.heap.size pb tb N wx)
        case first =>
          go_wp2_with ((go_at_call 22; (with_reducible refine (oneIn_any g fc l 4 Wa hDa hl (by omega)).mono ?_); rintro e w7 ⟨b7, rfl, D7, K7⟩))
          go_meet
          exact ⟨_, rfl, HV10.draw hg hpw hBw htbB Hge.out D7 K7⟩
        case rest =>
        obtain ⟨Wb, hnew⟩ : ∃ W, W = wc := ⟨_, rfl⟩
        subst hnew
        obtain ⟨b7, rfl, HVb⟩ := hcut
        refine (show ∀ a w, Code.wp Try.prog _ _ a w → _ from by assumption) _ _ ?_
        cases b7
        · go_wp2
          go_meet
          exact HVb
        clear HV10 hDa
        obtain ⟨t2, A1, A2, A3, C1, C2, C3, f1, fs, T8, W8, ne8, ⟨n8, m8⟩, mid8, di8, D8, k8, R8, S8, P8, rm8⟩ := HVb
        have hda : a < t2.distances.length := by omega
        have hdb : b < t2.distances.length := by omega
        have hia := di8 _ (List.getElem_mem hda)
        have hib := di8 _ (List.getElem_mem hdb)
        have HIa := Lib.hid (show I64 t2.distances[a] by unfold I64; omega)
        have HIb := Lib.hid (show I64 t2.distances[b] by unfold I64; omega)
        obtain ⟨gd, cd, ev, ca, za, gB, gl, kqa, WQa⟩ := W8.putD hda HIb.out
        injection ev with e1 e2 e3
        subst e1
        subst e3
        clear e2
        obtain ⟨gd', cd', ev, cb, zb, -, -, -, -⟩ := W8.putD hdb HIa.out
        injection ev with e1 e2 e3
        clear e2 e3
        injection e1 with e1
        injection e1 with e1
        subst e1
        have hIa0 : (0 : Int) ≤ (a : Int) := by omega
        have hIa1 : (a : Int) < (t2.distances.length : Int) := by omega
        have hIb0 : (0 : Int) ≤ (b : Int) := by omega
        have hIb1 : (b : Int) < (t2.distances.length : Int) := by omega
        have Hn8 := Lib.hid n8; have Hm8 := Lib.hid m8; have Hne8 := Lib.hid ne8; have Hia := Lib.hid hia; have Hib := Lib.hid hib
        have hgp : gd ≠ tb := ne8 gd (List.mem_append_right _ (List.mem_append_right _ (by simp [Value.ownBlock])))
        have hgpg : gd ≠ g := by omega
        clear n8 m8 ne8 hia hib
        have t08 := T8.cell 0 rfl; have t18 := T8.cell 1 rfl; have t28 := T8.cell 2 rfl
        go_upto_region 14 with fail
        go_cut [] (fun wx => TW W2.heap.size wx (.slice A1 t2.tracked.length C1) (.slice A2 t2.patterns.length C2) (.slice (some ⟨gd, 0, none⟩) t2.distances.length C3) ⟨t2.tracked, t2.patterns, t2.distances.set a t2.distances[b]⟩ f1 fs ∧ Only [gd] Wb wx)
        case first =>
          go_region_law (fail "no arm")
          all_goals
            try go_wp2
            go_meet
            exact ⟨WQa.keep (by with_reducible repeat (first | exact Only.refl _ _ | assumption | refine Only.drewN ?_ _ | refine Only.drew ?_ | refine Only.alloc ?_ _ | refine Only.trans ?_ (by assumption))), kqa.keepThen (by with_reducible repeat (first | exact Only.refl _ _ | assumption | refine Only.drewN ?_ _ | refine Only.drew ?_ | refine Only.alloc ?_ _ | refine Only.trans ?_ (by assumption)))⟩
        case rest =>
        obtain ⟨W9, hnew⟩ : ∃ W, W = wc := ⟨_, rfl⟩
        subst hnew
        obtain ⟨W9T, K9⟩ := hcut
        refine (show ∀ a w, Code.wp Try.prog _ _ a w → _ from by assumption) _ _ ?_
        obtain ⟨gd9, cd9, ev9, c9, z9, -, -, kq, W10T⟩ := W9T.putD (i := b) (by show b < (t2.distances.set a _).length; rw [List.length_set]; exact hdb) HIa.out
        injection ev9 with e1 e2 e3
        clear e2 e3
        injection e1 with e1
        injection e1 with e1
        subst e1
        have T9 := T8.only K9 (by simpa using Ne.symm hgp)
        have t09 := T9.cell 0 rfl; have t19 := T9.cell 1 rfl; have t29 := T9.cell 2 rfl
        have D9 := D8.only K9 (by simpa using Ne.symm hgpg) (fun q hq hm => by have := hfc q hq; simp at hm; omega)
        go_wp2
        go_meet
        have l1 : ((t2.distances.set a t2.distances[b]).set b t2.distances[a]).length = t2.distances.length := by rw [List.length_set, List.length_set]
        have hq : ∀ q : Nat, q < W2.heap.size → q ∉ [gd] := fun q hq hm => by have e : q = gd := (by simpa using hm); omega
        refine ⟨⟨t2.tracked, t2.patterns, (t2.distances.set a t2.distances[b]).set b t2.distances[a]⟩, A1, A2, some ⟨gd, 0, none⟩, C1, C2, C3, f1, fs, ?_, ?_, ?_, ⟨Hn8.out, by rw [← Hm8.out]; exact l1⟩, ⟨mid8.1, mid8.2.1, mid8.2.2.1, by show ((t2.distances.set a t2.distances[b]).set b t2.distances[a]).length ≤ _; rw [l1]; exact mid8.2.2.2⟩, fun y hy => ?_, D9.only kq (by simpa using Ne.symm hgpg) (fun q hq hm => by have := hfc q hq; simp at hm; omega), (k8.then_ K9 (fun q hq hl => by simp at hq; omega)).then_ kq (fun q hq hl => by simp at hq; omega), (R8.only K9 (hq _ (by omega))).only kq (hq _ (by omega)), (S8.only K9 (hq _ (by omega))).only kq (hq _ (by omega)), (P8.only K9 (hq _ hpB)).only kq (hq _ hpB), Rp.only (Rp.only rm8 K9 (fun q hm => hq q (by have := Hfl.out q hm; omega))) kq (fun q hm => hq q (by have := Hfl.out q hm; omega))⟩
        · show Blk _ tb [_, _, .slice _ ((t2.distances.set a t2.distances[b]).set b t2.distances[a]).length _]
          rw [l1]
          exact T9.only kq (by simpa using Ne.symm hgp)
        · show TW _ _ _ _ (.slice _ ((t2.distances.set a t2.distances[b]).set b t2.distances[a]).length _) _ _ _
          rw [l1]
          exact W10T
        · intro q hq'
          rcases List.mem_append.1 hq' with hq' | hq'
          · exact Hne8.out q (List.mem_append_left _ hq')
          · rcases List.mem_append.1 hq' with hq' | hq'
            · exact Hne8.out q (List.mem_append_right _ (List.mem_append_left _ hq'))
            · have e : q = gd := by simpa [Value.ownBlock, eq_comm] using hq'
              rw [e]; exact hgp
        · rcases List.mem_or_eq_of_mem_set hy with hy | rfl
          · rcases List.mem_or_eq_of_mem_set hy with hy | rfl
            · exact di8 y hy
            · exact Hib.out
          · exact Hia.out
    case rest =>
    obtain ⟨W7, hnew⟩ : ∃ W, W = wc := ⟨_, rfl⟩
    subst hnew
    have HV7 := hcut
    clear hcut HV6 HV5 hb6
    refine (show ∀ a w, Code.wp Try.prog _ _ a w → _ from by assumption) _ _ ?_
    go_upto_region 16 with fail
    go_cut [13] (fun s13 wx => ∃ k : Nat, s13 = .int .i64 k ∧ k < N ∧ TV w g fc l n nm am cm gs fp W2.heap.size pb tb N wx)
    case first =>
      have HV := HV7
      obtain ⟨t1, A1, A2, A3, C1, C2, C3, f1, fs, T8, W8, ne8, ⟨n8, m8⟩, mid8, di8, D8, k8, R8, S8, P8, rm8⟩ := HV7
      rw [n8] at T8
      have t18 := T8.cell 1 rfl
      clear n8 m8 ne8 mid8 di8 k8 R8 S8 P8 rm8 W8
      go_wp2_with (first
        | (go_at_call 23; (with_reducible refine (srcBelow_any g fc l (N : Int) W7 D8 hl (by omega)).mono ?_); rintro e w8 ⟨r, rfl, r0, r1, D9, K9⟩; obtain ⟨k, rfl⟩ := Int.eq_ofNat_of_zero_le r0)
        | fail "no arm")
      go_meet
      exact ⟨k, rfl, by omega, HV.draw hg hpw hBw htbB Hge.out D9 K9⟩
    case rest =>
    obtain ⟨W8, hnew⟩ : ∃ W, W = wc := ⟨_, rfl⟩
    subst hnew
    obtain ⟨k, rfl, hkN, HV8⟩ := hcut
    clear HV7
    refine (show ∀ a w, Code.wp Try.prog _ _ a w → _ from by assumption) _ _ ?_
    go_upto_region 17 with fail
    go_cut [99] (fun s99 wx => ∃ r : Int, s99 = .int .i64 r ∧ 0 ≤ r ∧ r ≤ 7 ∧ TV w g fc l n nm am cm gs fp W2.heap.size pb tb N wx)
    case first =>
      have hD8 : Src W8 g fc l := by obtain ⟨_, _, _, _, _, _, _, _, _, _, _, _, _, _, _, hD, _⟩ := HV8; exact hD
      go_wp2_with ((go_at_call 23; (with_reducible refine (srcBelow_any g fc l 8 W8 hD8 hl (by omega)).mono ?_); rintro e w9 ⟨r, rfl, r0, r1, D9, K9⟩))
      go_meet
      exact ⟨r, rfl, r0, by omega, HV8.draw hg hpw hBw htbB Hge.out D9 K9⟩
    case rest =>
    obtain ⟨W9, hnew⟩ : ∃ W, W = wc := ⟨_, rfl⟩
    subst hnew
    obtain ⟨r, rfl, r0, r7, HV9⟩ := hcut
    clear HV8
    refine (show ∀ a w, Code.wp Try.prog _ _ a w → _ from by assumption) _ _ ?_
    go_cut [] (fun wx => FT w g fc l n nm am cm gs fp pb tb wx)
    case first =>
      have HF9 := HV9.ft hBw
      have HV := HV9
      obtain ⟨t1, A1, A2, A3, C1, C2, C3, f1, fs, T8, TW8, ne8, ⟨n8, m8⟩, mid8, di8, D8, k8, R8, S8, P8, rm8⟩ := HV9
      have hkp : k < t1.patterns.length := by omega
      have hkd : k < t1.distances.length := by omega
      have Hn8 := Lib.hid n8; have Hm8 := Lib.hid m8; have Hne8 := Lib.hid ne8
      clear n8 m8 ne8
      have t08 := T8.cell 0 rfl; have t18 := T8.cell 1 rfl; have t28 := T8.cell 2 rfl; have q08 := T8.frozen 0; have q18 := T8.frozen 1; have q28 := T8.frozen 2
      have HR : Hid (∀ (fpK : List Nat) (W : World), Only fpK W9 W → (∀ q ∈ fpK, q = g ∨ W2.heap.size ≤ q) → Only [g] w W ∧ Blk W w.heap.size [.int .i64 0, .string ⟨#[]⟩, .slice none 0 0] ∧ Blk W (w.heap.size + 1) [.slice none 0 0, .slice none 0 0, .slice none 0 0] ∧ Blk W pb [.int .i64 n, .string nm, .slice am gs.length cm] ∧ Rd W (.slice am gs.length cm) gs fp) := Lib.hid fun fpK W hK hq => by
        have hn : ∀ b : Nat, b ≠ g → b < W2.heap.size → b ∉ fpK := fun b h1 h2 hm => (hq b hm).elim h1 (fun h3 => by omega)
        exact ⟨k8.then_ hK (fun b hb hl => by have := hq b hb; simp; omega), R8.only hK (hn _ (by omega) (by omega)), S8.only hK (hn _ (by omega) (by omega)), P8.only hK (hn _ (by omega) (by omega)), Rp.only rm8 hK fun b hb => hn b (by have := Hge.out b hb; omega) (by have := Hfl.out b hb; omega)⟩
      have hk0 : (0 : Int) ≤ (k : Int) := by omega
      have hkp1 : (k : Int) < (t1.patterns.length : Int) := by omega
      have hkd1 : (k : Int) < (t1.distances.length : Int) := by omega
      have HM := Lib.hid mid8
      have HDI := Lib.hid di8
      have htl : tb < W9.heap.size := T8.lt
      have HS9 := Lib.hid (show W2.heap.size ≤ W9.heap.size by omega)
      clear k8 R8 S8 P8 rm8 mid8 di8
      rcases (show r = 0 ∨ r = 1 ∨ r = 2 ∨ r = 3 ∨ r = 4 ∨ 5 ≤ r by omega) with rfl | rfl | rfl | rfl | rfl | hr5
      · as_aux_lemma =>
        clear HV HF9
        obtain ⟨gd, cd, ev, ca, za, gB, gl, -, -⟩ := TW8.putD hkd (x := 0) (by unfold I64; omega)
        injection ev with e1 e2 e3
        subst e1; subst e3; clear e2
        have hgp : gd ≠ tb := Hne8.out gd (List.mem_append_right _ (List.mem_append_right _ (by simp [Value.ownBlock])))
        have hgpg : gd ≠ g := by omega
        have hdk := HDI.out _ (List.getElem_mem hkd)
        go_upto_region 19 with fail
        go_region_law (first
          | (go_simp; go_at_call 24; (with_reducible refine (between_rng g fc l (-1) 2 _ (D8.keep (by with_reducible repeat (first | exact Only.refl _ _ | assumption | refine Only.drewN ?_ _ | refine Only.drew ?_ | refine Only.alloc ?_ _ | refine Only.trans ?_ (by assumption)))) hl (by omega) (by omega) (by omega)).mono ?_); rintro en w7 ⟨y7, rfl, y0, y1, D7, K7⟩; have K67 : Only [g] W9 w7 := Only.trans (by with_reducible repeat (first | exact Only.refl _ _ | assumption | refine Only.drewN ?_ _ | refine Only.drew ?_ | refine Only.alloc ?_ _ | refine Only.trans ?_ (by assumption))) K7; have T7 := T8.only K67 (by simp; omega); have t27 := T7.cell 2 rfl; have hc37 := K67.cell (p := ⟨gd, k, none⟩) (by simpa using hgpg) ca; have hz37 := frozen_keep za K67 gl (by simpa using hgpg); have hwr : IntKind.i64.wrap (t1.distances[k] + y7) = t1.distances[k] + y7 := (by rw [IntKind.wrap_i64]; omega); have hyI : I64 (t1.distances[k] + y7) := (by unfold I64; omega))
          | fail "no arm")
        all_goals
          go_wp2
          go_meet
          exact fin19 hg hfc hBw HM.out hkd HR.out gB hgp TW8 K67 D7 T7 hyI
      · as_aux_lemma =>
        clear HV HF9
        obtain ⟨m, hm⟩ : ∃ m, m = k + 1 := ⟨_, rfl⟩
        have hwn : IntKind.i64.wrap ((k : Int) + 1) = (m : Int) := by have := HM.out.2.1; rw [IntKind.wrap_i64]; omega
        obtain ⟨fq2, p2, s2, -⟩ := take_rd (TW8.pt.rd (by decide)) m (by omega)
        obtain ⟨fq3, p3, s3, -⟩ := take_rd TW8.dt.rd m (by omega)
        obtain ⟨_, _, _, _, hv2, -, S6⟩ := (TW8.pt.rd (by decide)).open_
        injection hv2 with e1 _ e2
        subst e1; subst e2
        obtain ⟨_, _, hv3, I8⟩ := TW8.dt.rd.ints
        injection hv3 with e1 _ e2
        subst e1; subst e2
        have hc2 : m ≤ C2 := by have := S6.len; omega
        have hc3 : m ≤ C3 := by have := I8.len; omega
        have hm0 : (0 : Int) ≤ (m : Int) := by omega
        clear S6 I8
        go_wp2
        go_meet
        subst hm
        have kq : Only [tb] W9 ((W9.setCell ⟨tb, 1, none⟩ (.slice A2 (k + 1) C2)).setCell ⟨tb, 2, none⟩ (.slice A3 (k + 1) C3)) := ((Only.refl _ _).setCell (by simp) _).setCell (by simp) _
        have T9 := (T8.set 1 (.slice A2 (k + 1) C2)).set 2 (.slice A3 (k + 1) C3)
        obtain ⟨q1, q2, q3, q4, q5⟩ := HR.out [tb] _ kq (by simp; exact .inr htbB)
        have hnt : ∀ b ∈ TWf (.slice A2 t1.patterns.length C2) (.slice A3 t1.distances.length C3) f1 fs, b ∉ [tb] := fun b hb hm => Hne8.out b hb (by simpa using hm)
        have i1 : ∀ b ∈ f1, b ∈ TWf (.slice A2 t1.patterns.length C2) (.slice A3 t1.distances.length C3) f1 fs := fun b hb => List.mem_append_left _ (List.mem_append_left _ hb)
        have i2 : ∀ b ∈ fq2, b ∈ TWf (.slice A2 t1.patterns.length C2) (.slice A3 t1.distances.length C3) f1 fs := fun b hb => by
          rcases List.mem_append.1 (s2 b hb) with hb | hb
          · exact List.mem_append_right _ (List.mem_append_left _ hb)
          · exact List.mem_append_left _ (List.mem_append_right _ hb)
        have i3 : ∀ b ∈ fq3, b ∈ TWf (.slice A2 t1.patterns.length C2) (.slice A3 t1.distances.length C3) f1 fs := fun b hb => List.mem_append_right _ (List.mem_append_right _ (s3 b hb))
        refine ⟨_, _, _, _, _, _, _, _, _, T9, ⟨⟨t1.tracked, t1.patterns.take (k + 1), t1.distances.take (k + 1)⟩, _, ⟨_, _, _, _, _, _, rfl, rfl, Rp.only TW8.tk kq (fun b hb => hnt b (i1 b hb)), Rp.only p2 kq (fun b hb => hnt b (i2 b hb)), Rp.only p3 kq (fun b hb => hnt b (i3 b hb))⟩, fun b hb => ?_, HM.out.1, ?_, ?_, ?_⟩, D8.only kq (by simp; omega) (fun b hb hm => by have := hfc b hb; simp at hm; omega), q1, q2, q3, q4, q5⟩
        · have : b ∈ TWf (.slice A2 t1.patterns.length C2) (.slice A3 t1.distances.length C3) f1 fs := by
            rcases List.mem_append.1 hb with hb | hb
            · exact i1 b hb
            · rcases List.mem_append.1 hb with hb | hb
              · exact i2 b hb
              · exact i3 b hb
          have := (TW8.geF b this).1
          omega
        · show (List.take _ _).length ≤ _
          rw [List.length_take]; have := HM.out.2.1; omega
        · exact fun y hy => HM.out.2.2.1 y (List.mem_of_mem_take hy)
        · show (List.take _ _).length ≤ _
          rw [List.length_take]; have := HM.out.2.2.2; omega
      · as_aux_lemma =>
        clear HV HF9
        obtain ⟨gp, cp, ua, fa, ev, ca, za, ra, gfa, fBa, gB, gl, sfa⟩ := TW8.cellP hkp
        injection ev with e1 e2 e3
        subst e1; subst e3; clear e2
        obtain ⟨xa, ya, _, _, rfl, -, -⟩ := ra.open_
        have HcC := Lib.hid (fun (W : World) (hW : Only [] W9 W) => copyInts_rd (.slice xa t1.patterns[k].length ya) t1.patterns[k] _ W (Rp.keep ra hW) (by have := HM.out.2.2.1 _ (List.getElem_mem hkp); omega))
        have hlen : t1.patterns.length + 1 ≤ 1073741824 := by have := HM.out.2.1; omega
        have hgp : gp ≠ tb := Hne8.out gp (List.mem_append_right _ (List.mem_append_left _ (by simp [Value.ownBlock])))
        have hgpg : gp ≠ g := by omega
        go_upto_region 24 with fail
        go_cut [] (fun wx => ∃ (A2' : Option Addr) (C2' : Nat) (fs' : List (List Nat)), Blk wx tb [.slice A1 t1.tracked.length C1, .slice A2' (t1.patterns.length + 1) C2', .slice A3 t1.distances.length C3] ∧ TW W2.heap.size wx (.slice A1 t1.tracked.length C1) (.slice A2' (t1.patterns.length + 1) C2') (.slice A3 t1.distances.length C3) ⟨t1.tracked, t1.patterns ++ [t1.patterns[k]], t1.distances⟩ f1 fs' ∧ (∀ b ∈ TWf (.slice A2' (t1.patterns.length + 1) C2') (.slice A3 t1.distances.length C3) f1 fs', b ≠ tb) ∧ Only [gp, tb] W9 wx)
        case first =>
          as_aux_lemma =>
          go_region_law (first
            | (go_simp; go_at_call 15; (with_reducible refine (HcC.out _ (by with_reducible repeat (first | exact Only.refl _ _ | assumption | refine Only.drewN ?_ _ | refine Only.drew ?_ | refine Only.alloc ?_ _ | refine Only.trans ?_ (by assumption)))).mono ?_); rintro en w7 ⟨v7, f7, rfl, r7, F7, t7⟩; obtain ⟨a7, c7, _, _, rfl, -⟩ := r7.open_; have K67 : Only [] W9 w7 := Only.trans (by with_reducible repeat (first | exact Only.refl _ _ | assumption | refine Only.drewN ?_ _ | refine Only.drew ?_ | refine Only.alloc ?_ _ | refine Only.trans ?_ (by assumption))) t7; have J7 := T8.keep K67; have j17 := J7.cell 1 rfl; have j17a := (J7.keep ((Only.refl _ _).alloc (.cells #[.slice a7 t1.patterns[k].length c7] 27))).cell 1 rfl; have f17 := J7.frozen 1; have hA7 := TW8.pt.keep K67; have hs7 : W2.heap.size ≤ w7.heap.size := Nat.le_trans HS9.out K67.size)
            | (refine step_push2w (α := List Int) rfl (.tmp 131) (.tmp 138) 24 rfl W2.heap.size 27 il _ 24 Try.underlying24 hil hl0 hl1 hl2 rfl (by decide) (by decide) w7 (.slice (some ⟨gp, 0, none⟩) t1.patterns.length C2) t1.patterns fs rfl hA7 (by with_reducible repeat (first | exact Only.refl _ _ | assumption | refine Only.drewN ?_ _ | refine Only.drew ?_ | refine Only.alloc ?_ _ | refine Only.trans ?_ (by assumption))) hs7 _ 1 [.slice a7 t1.patterns[k].length c7] t1.patterns[k] f7 rfl (lit_src _ [.slice a7 t1.patterns[k].length c7] _ rfl) (by intro u hu; simp at hu; subst hu; rfl) (Rp.keep r7 (by with_reducible repeat (first | exact Only.refl _ _ | assumption | refine Only.drewN ?_ _ | refine Only.drew ?_ | refine Only.alloc ?_ _ | refine Only.trans ?_ (by assumption)))) ?hap hlen ?_; (case hap => (intro b hb he; have h1 := F7.ge b hb; have h2 : gp = b := (by simpa [Value.ownBlock] using he); simp at h1; omega)); intro v9 w9 hA9 hO9 hN9; replace hO9 : Only [gp] _ w9 := hO9; obtain ⟨a9, c9, rfl⟩ := hA9.form; rw [List.length_append, List.length_singleton] at hA9 hN9; have kal9 : Only [] W9 (w7.alloc (.cells #[.slice a7 t1.patterns[k].length c7] 27)) := K67.alloc _; have J9 := (T8.keep kal9).only hO9 (by simpa using Ne.symm hgp); have j19 := J9.cell 1 rfl; have f19 := J9.frozen 1)
            | fail "no arm")
          all_goals
            go_wp2
            go_meet
            exact fin24 hkp HS9.out htl hgp TW8 Hne8.out T8 kal9 (fun b hb => by have := F7.ge b hb; simpa using this) hA9 hO9 hN9
        case rest =>
        obtain ⟨W10, hnew⟩ : ∃ W, W = wc := ⟨_, rfl⟩
        subst hnew
        obtain ⟨A2', C2', fs', TA, TWA, neA, KA⟩ := hcut
        refine (show ∀ a w, Code.wp Try.prog _ _ a w → _ from by assumption) _ _ ?_
        have DA := D8.only KA (by simp; omega) (fun b hb hm => by have := hfc b hb; simp at hm; omega)
        have NeA := Lib.hid neA
        clear neA HcC ca za ra gfa fBa gl sfa t08 t18 t28 q08 q18 q28
        obtain ⟨gd, cd, ev, ca, za, gdB, gdl, -, -⟩ := TWA.putD hkd (x := 0) (by unfold I64; omega)
        injection ev with e1 e2 e3
        subst e1; subst e3; clear e2
        have hdp : gd ≠ tb := NeA.out gd (List.mem_append_right _ (List.mem_append_right _ (by simp [Value.ownBlock])))
        have hdg : gd ≠ g := by omega
        have hdk := HDI.out _ (List.getElem_mem hkd)
        have hn3 : t1.patterns.length ≤ 3000 := by rw [Hn8.out]; exact hN2
        have hm3 : t1.distances.length ≤ 3000 := by rw [Hm8.out]; exact hN2
        have hlnd : t1.distances.length + 1 ≤ 1073741824 := by have := HM.out.2.2.2; omega
        have hsA : W9.heap.size ≤ W10.heap.size := KA.size
        have t0A := TA.cell 0 rfl; have t1A := TA.cell 1 rfl; have t2A := TA.cell 2 rfl; have q2A := TA.frozen 2
        as_aux_lemma =>
        go_region_law (first
          | (go_simp; go_at_call 23; (with_reducible refine (srcBelow_any g fc l 2 _ (DA.keep (by with_reducible repeat (first | exact Only.refl _ _ | assumption | refine Only.drewN ?_ _ | refine Only.drew ?_ | refine Only.alloc ?_ _ | refine Only.trans ?_ (by assumption)))) hl (by omega)).mono ?_); rintro en w7 ⟨y7, rfl, y0, y1, D7, K7⟩; have K67 : Only [g] W10 w7 := Only.trans (by with_reducible repeat (first | exact Only.refl _ _ | assumption | refine Only.drewN ?_ _ | refine Only.drew ?_ | refine Only.alloc ?_ _ | refine Only.trans ?_ (by assumption))) K7; have T7 := TA.only K67 (by simp; omega); have t27 := T7.cell 2 rfl; have hc37 := K67.cell (p := ⟨gd, k, none⟩) (by simpa using hdg) ca; have hz37 := frozen_keep za K67 gdl (by simpa using hdg); have hwr : IntKind.i64.wrap (t1.distances[k] + y7) = t1.distances[k] + y7 := (by rw [IntKind.wrap_i64]; omega); have TW7 := TWA.only K67 (fun b hb hm => by have := (TWA.geF b hb).1; simp at hm; omega); have hs7 : W2.heap.size ≤ w7.heap.size := Nat.le_trans HS9.out (Nat.le_trans hsA K67.size); have hyI : I64 (t1.distances[k] + y7) := (by unfold I64; omega); have kal7 : Only [] w7 (w7.alloc (.cells #[.int .i64 (t1.distances[k] + y7)] 2)) := (Only.refl _ _).alloc _; have t27a := (T7.keep kal7).cell 2 rfl)
          | (refine step_pushI rfl (.tmp 142) (.tmp 151) 27 rfl W2.heap.size 2 i1 _ Try.underlying27 hi hz0 hz1 hz2 rfl w7 (.slice (some ⟨gd, 0, none⟩) t1.distances.length C3) t1.distances rfl TW7.dt (by with_reducible repeat (first | exact Only.refl _ _ | assumption | refine Only.drewN ?_ _ | refine Only.drew ?_ | refine Only.alloc ?_ _ | refine Only.trans ?_ (by assumption))) hs7 _ 1 (t1.distances[k] + y7) rfl (lit1 _ _ _ rfl) hyI hlnd ?_; intro v9 w9 hA9 hO9 hN9; replace hO9 : Only [gd] _ w9 := hO9; obtain ⟨a9, c9, rfl⟩ := hA9.form; rw [List.length_append, List.length_singleton] at hA9 hN9; have kal9 : Only [] w7 (w7.alloc (.cells #[.int .i64 (t1.distances[k] + y7)] 2)) := (Only.refl _ _).alloc _; have J9 := (T7.keep kal9).only hO9 (by simpa using Ne.symm hdp); have j29 := J9.cell 2 rfl; have f29 := J9.frozen 2)
          | fail "no arm")
        all_goals
          go_wp2
          go_meet
          exact fin25 hg hfc hBw htbB htl HM.out hn3 hm3 hkp HR.out gB gdB hdp KA TWA NeA.out K67 D7 T7 kal9 hA9 hO9 hN9
      · as_aux_lemma =>
        clear HV HF9
        obtain ⟨gd, cd, ev, -, -, gB, gl, -, -⟩ := TW8.putD hkd (x := 0) (by unfold I64; omega)
        injection ev with e1 e2 e3
        subst e1; subst e3; clear e2
        have hgp : gd ≠ tb := Hne8.out gd (List.mem_append_right _ (List.mem_append_right _ (by simp [Value.ownBlock])))
        have hgpg : gd ≠ g := by omega
        go_upto_region 28 with fail
        go_loopw [14] (fun c wr => ∃ (j : Nat) (D : List Int), c = .int .i64 j ∧ j ≤ D.length ∧ D.length = t1.distances.length ∧ (∀ d ∈ D, -10000 ≤ d ∧ d ≤ 10000) ∧ TW W2.heap.size wr (.slice A1 t1.tracked.length C1) (.slice A2 t1.patterns.length C2) (.slice (some ⟨gd, 0, none⟩) t1.distances.length C3) ⟨t1.tracked, t1.patterns, D⟩ f1 fs ∧ Only [gd] W9 wr)
          (fun c _ => t1.distances.length - (intOf c).toNat)
        case atStart => exact ⟨0, t1.distances, rfl, Nat.zero_le _, rfl, HDI.out, TW8, Only.refl _ _⟩
        case round =>
          obtain ⟨V, hnew⟩ : ∃ W, W = wr := ⟨_, rfl⟩
          subst hnew
          obtain ⟨j, D, rfl, hj, hDl, hDb, TV8, KV⟩ := hrel
          have TB8 := T8.only KV (by simpa using Ne.symm hgp)
          have u0 := TB8.cell 0 rfl; have u1 := TB8.cell 1 rfl; have u2 := TB8.cell 2 rfl
          by_cases hlt : j < D.length
          · have hjI : (j : Int) < (t1.distances.length : Int) := by omega
            have hj0 : (0 : Int) ≤ (j : Int) := by omega
            have hjb : j < 3000 := by have := Hm8.out; omega
            obtain ⟨x, hx⟩ : ∃ x, D[j] = x := ⟨_, rfl⟩
            obtain ⟨q, hdiv⟩ : ∃ q, x.tdiv 2 = q := ⟨_, rfl⟩
            have hdb : -10000 ≤ q ∧ q ≤ 10000 := by rw [← hdiv, ← hx]; exact half_rng (hDb _ (List.getElem_mem hlt))
            obtain ⟨_, _, ev, ca, za, -, -, kq, TQ⟩ := TV8.putD (i := j) hlt (x := q) (by unfold I64; omega)
            injection ev with e1 e2 e3
            clear e2 e3
            injection e1 with e1
            injection e1 with e1
            subst e1
            have hwr : IntKind.i64.wrap q = q := by rw [IntKind.wrap_i64]; omega
            replace ca : V.cell? ⟨gd, j, none⟩ = some (.int .i64 x) := by rw [← hx]; exact ca
            clear hx
            have HDb := Lib.hid hDb
            clear hDb
            go_upto_region 30 with fail
            go_region_law (fail "no arm")
            all_goals
              go_wp2
              go_roundw
              case rel => exact ⟨j + 1, D.set j q, by go_num, by rw [List.length_set]; omega, by rw [List.length_set]; exact hDl, fun d hd => (List.mem_or_eq_of_mem_set hd).elim (HDb.out d) (fun e => by rw [e]; exact hdb), TQ.keep (by with_reducible repeat (first | exact Only.refl _ _ | assumption | refine Only.drewN ?_ _ | refine Only.drew ?_ | refine Only.alloc ?_ _ | refine Only.trans ?_ (by assumption))), KV.trans (kq.keepThen (by with_reducible repeat (first | exact Only.refl _ _ | assumption | refine Only.drewN ?_ _ | refine Only.drew ?_ | refine Only.alloc ?_ _ | refine Only.trans ?_ (by assumption))))⟩
              case measure => simp [intOf]; omega
          · have hjI : ¬ (j : Int) < (t1.distances.length : Int) := by omega
            go_wp2
            go_meet
            obtain ⟨q1, q2, q3, q4, q5⟩ := HR.out [gd] _ KV (by simp; exact .inr gB)
            exact ⟨_, _, _, _, _, _, _, _, _, TB8, TV8.jt ⟨HM.out.1, HM.out.2.1, HM.out.2.2.1, by show D.length ≤ _; rw [hDl]; exact HM.out.2.2.2⟩ hBw, D8.only KV (by simpa using Ne.symm hgpg) (fun b hb hm => by have := hfc b hb; simp at hm; omega), q1, q2, q3, q4, q5⟩
      · as_aux_lemma =>
        go_wp2_with (first
          | (go_at_call 22; (with_reducible refine (oneIn_any g fc l 3 W9 D8 hl (by omega)).mono ?_); rintro e w10 ⟨b10, rfl, D10, K10⟩; have T10 := T8.only K10 (by simp; omega))
          | fail "no arm")
        · clear HV HF9 t08 t18 t28 q08 q18 q28 D8
          obtain ⟨gp, cp, ua, fa, ev, ca, za, -, -, -, gB, gl, -⟩ := TW8.cellP hkp
          injection ev with e1 e2 e3
          subst e1; subst e3; clear e2
          have hgp : gp ≠ tb := Hne8.out gp (List.mem_append_right _ (List.mem_append_left _ (by simp [Value.ownBlock])))
          have hgpg : gp ≠ g := by omega
          have t1A := T10.cell 1 rfl
          have zA := frozen_keep za K10 gl (by simpa using hgpg)
          have cA := K10.cell (p := ⟨gp, k, none⟩) (by simpa using hgpg) ca
          have glA : gp < w10.heap.size := Nat.lt_of_lt_of_le gl K10.size
          have TWA := TW8.only K10 (fun b hb hm => by have := (TW8.geF b hb).1; simp at hm; omega)
          go_region_law (first
            | (go_simp; go_at_call 24; (with_reducible refine (between_rng g fc l (-1) 6 _ (D10.keep (by with_reducible repeat (first | exact Only.refl _ _ | assumption | refine Only.drewN ?_ _ | refine Only.drew ?_ | refine Only.alloc ?_ _ | refine Only.trans ?_ (by assumption)))) hl (by omega) (by omega) (by omega)).mono ?_); rintro en w7 ⟨y7, rfl, y0, y1, D7, K7⟩; have K67 : Only [g] w10 w7 := Only.trans (by with_reducible repeat (first | exact Only.refl _ _ | assumption | refine Only.drewN ?_ _ | refine Only.drew ?_ | refine Only.alloc ?_ _ | refine Only.trans ?_ (by assumption))) K7; have T7 := T10.only K67 (by simp; omega); have t17 := T7.cell 1 rfl; have hz37 := frozen_keep zA K67 glA (by simpa using hgpg); have kal7 : Only [] w7 (w7.alloc (.cells #[.int .i64 y7] 2)) := (Only.refl _ _).alloc _; have t17a := (T7.keep kal7).cell 1 rfl; have gl7 : gp < w7.heap.size := Nat.lt_of_lt_of_le glA K67.size; have hz37a := frozen_keep hz37 kal7 gl7 (by simp); have hc37a := kal7.cell (p := ⟨gp, k, none⟩) (by simp) (K67.cell (p := ⟨gp, k, none⟩) (by simpa using hgpg) cA))
            | fail "no arm")
          all_goals
            go_wp2
            go_meet
            have TW7 := (TWA.only K67 (fun b hb hm => by have := (TWA.geF b hb).1; simp at hm; omega)).keep kal7
            have hy : Rd (w7.alloc (.cells #[.int .i64 y7] 2)) (.slice (some ⟨w7.heap.size, 0, none⟩) 1 1) [y7] [w7.heap.size] := by
              have := (AccI.one (n := y7) (by unfold I64; omega) w7 0 2 rfl (Nat.zero_le _)).rd
              simpa [Value.ownBlock] using this
            have hs7 : W9.heap.size ≤ w7.heap.size := Nat.le_trans K10.size K67.size
            obtain ⟨kq, TQ⟩ := TW7.putP hkp rfl hy (by simp; omega) (fun b hb => by
              have e : b = w7.heap.size := by simpa using hb
              subst e
              refine ⟨by have := HS9.out; omega, fun hm => ?_⟩
              have := (TW8.geF _ (List.mem_append_right _ (List.mem_append_right _ hm))).2
              omega)
            rw [World.setCell_alloc_past _ _ _ _ gl7] at kq TQ
            obtain ⟨q1, q2, q3, q4, q5⟩ := HR.out [g, gp] _ (((K10.mono (by simp)).trans ((K67.mono (by simp)).trans (kal7.weaken _))).trans (kq.mono (by simp))) (by simp; exact .inr gB)
            exact ⟨_, _, _, _, _, _, _, _, _, (T7.keep kal7).only kq (by simpa using Ne.symm hgp), TQ.jt ⟨HM.out.1, by show (List.set _ _ _).length ≤ _; rw [List.length_set]; exact HM.out.2.1, fun y hy => (List.mem_or_eq_of_mem_set hy).elim (HM.out.2.2.1 y) (fun e => by rw [e]; simp), HM.out.2.2.2⟩ hBw, (D7.keep kal7).only kq (by simpa using Ne.symm hgpg) (fun b hb hm => by have := hfc b hb; simp at hm; omega), q1, q2, q3, q4, q5⟩
        · go_meet
          exact (HV.draw hg hpw hBw htbB Hge.out D10 K10).ft hBw
      · as_aux_lemma =>
        go_wp2
        go_meet
        exact HF9
    case rest =>
    obtain ⟨Wf, hnew⟩ : ∃ W, W = wc := ⟨_, rfl⟩
    subst hnew
    clear HV9
    obtain ⟨A1, A2, A3, n1, n2, n3, C1, C2, C3, TC, hJT, DC, kC, RC, SC, PC', rmC⟩ := hcut
    refine (show ∀ a w, Code.wp Try.prog _ _ a w → _ from by assumption) _ _ ?_
    obtain ⟨Vf, hVf, S0, S1, hD⟩ := DrT.mk hg hfc RC SC hn nml rmC Hge.out gl9 Gy.out Hval.out hJT DC kC
    have htw : w.heap.size + 2 ≤ tb := by omega
    go_upto_region 34 with fail
    have x0z := PC'.cell 0 rfl; have x1z := PC'.cell 1 rfl; have x2z := PC'.cell 2 rfl
    have a0z := RC.cell 0 rfl; have a1z := RC.cell 1 rfl; have a2z := RC.cell 2 rfl
    have b0z := RC.frozen 0; have b1z := RC.frozen 1; have b2z := RC.frozen 2
    have c0z := SC.cell 0 rfl; have c1z := SC.cell 1 rfl; have c2z := SC.cell 2 rfl
    have d0z := SC.frozen 0; have d1z := SC.frozen 1; have d2z := SC.frozen 2
    have j0z := TC.cell 0 rfl; have j1z := TC.cell 1 rfl; have j2z := TC.cell 2 rfl
    go_region_law (fail "no arm")
    all_goals
      go_wp2
      rw [← hVf]
      have x0y := S0.cell 0 rfl; have x1y := S0.cell 1 rfl; have x2y := S0.cell 2 rfl
      have c0y := S1.cell 0 rfl; have c1y := S1.cell 1 rfl; have c2y := S1.cell 2 rfl
      exact bodyPost_ret (v := .tuple #[.agg #[.int .i64 n, .string nm, .slice am gs.length cm], .agg #[.slice A1 n1 C1, .slice A2 n2 C2, .slice A3 n3 C3]]) (by simp [results, Try.results12, go_sem, x0y, x1y, x2y, c0y, c1y, c2y]) rfl (hD.keep (by with_reducible repeat (first | exact Only.refl _ _ | refine Only.drewN ?_ _ | refine Only.drew ?_)))
end Go.Proofs.Ytpkplmnpepkdaaa
