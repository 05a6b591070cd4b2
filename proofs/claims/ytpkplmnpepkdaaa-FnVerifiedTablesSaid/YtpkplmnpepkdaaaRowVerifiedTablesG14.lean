/- The reference's drawn jobs: l28Draw (laws 26, 49): a puzzle (if it is valid it has few points) and a table in memory of the call's own. Bounds only. (Printed by mkvdr2.py.) -/
import Derived.Test.YtpkplmnpepkdaaaRowVerifiedTablesG10
import Derived.Test.YtpkplmnpepkdaaaRowVerifiedTablesG13
import Derived.Deep.RegionLaw
namespace Go.Proofs.Ytpkplmnpepkdaaa
open Go.RowKit
set_option maxRecDepth 10000

/-- some table, with bounds -/
def JT (B : Nat) (w : World) (v1 v2 v3 : Value) : Prop := ∃ (t : Table) (f : List Nat), Rp.rep w [v1, v2, v3] t f ∧ (∀ b ∈ f, B ≤ b) ∧ midT t
theorem JT.only {B : Nat} {w w' : World} {v1 v2 v3 : Value} {fp : List Nat} (h : JT B w v1 v2 v3) (ho : Only fp w w') (hd : ∀ b ∈ fp, b < B) : JT B w' v1 v2 v3 := by
  obtain ⟨t, f, a, b, c⟩ := h
  exact ⟨t, f, Rp.only a ho fun q hq hm => by have h1 := b q hq; have h2 := hd q hm; omega, b, c⟩
theorem JT.nil (B : Nat) (w : World) : JT B w (.slice none 0 0) (.slice none 0 0) (.slice none 0 0) := ⟨noTab, [], ⟨_, _, _, [], [], [], rfl, rfl, nil_rd _, nil_rd _, nil_rd _⟩, by simp, by simp [midT, noTab]⟩
/-- a drawn job: a puzzle, a table -/
def DrJ (w : World) (g : Nat) (fc : List Nat) (l : List UInt8) (e : Ending) (w' : World) : Prop :=
  ∃ (n : Int) (nm : ByteArray) (vm : Value) (gs : List (List Int)) (fp : List Nat) (v1 v2 v3 : Value) (nx sy : Int) (lg : ByteArray), e = .returned (.tuple #[.agg #[.int .i64 n, .string nm, vm], .agg #[v1, v2, v3, .int .i64 nx, .string lg, .int .i64 sy]]) ∧ I64 n ∧ nm.size ≤ 20 ∧ Rd w' vm gs fp ∧ (∀ b ∈ fp, w.heap.size ≤ b) ∧ gs.length ≤ 9 ∧ (∀ y : List Int, y ∈ gs → y.length ≤ 30) ∧ (validPz (⟨n, nm, gs⟩ : Puzzle) = true → n ≤ 5) ∧ JT w.heap.size w' v1 v2 v3 ∧ Src w' g fc l ∧ Only [g] w w'
theorem pz_rd {w : World} {n : Int} {nm : ByteArray} {vm : Value} {gs : List (List Int)} {fp : List Nat} (h : Rp.rep w [.int .i64 n, .string nm, vm] (⟨n, nm, gs⟩ : Puzzle) fp) : Rd w vm gs fp := by
  obtain ⟨v, e, -, -, h⟩ := h
  injection e with _ e
  injection e with _ e
  injection e with e _
  subst e
  exact h
theorem Blk.set6 {V : World} {b : Nat} {x0 x1 x2 x3 x4 x5 : Value} (h : Blk V b [x0, x1, x2, x3, x4, x5]) (y0 y1 y2 y3 y4 y5 : Value) : Blk ((((((V.setCell ⟨b, 0, none⟩ y0).setCell ⟨b, 1, none⟩ y1).setCell ⟨b, 2, none⟩ y2).setCell ⟨b, 3, none⟩ y3).setCell ⟨b, 4, none⟩ y4).setCell ⟨b, 5, none⟩ y5) b [y0, y1, y2, y3, y4, y5] := (((((h.set 0 y0).set 1 y1).set 2 y2).set 3 y3).set 4 y4).set 5 y5
theorem only_set6 (V : World) (b : Nat) (y0 y1 y2 y3 y4 y5 : Value) : Only [b] V ((((((V.setCell ⟨b, 0, none⟩ y0).setCell ⟨b, 1, none⟩ y1).setCell ⟨b, 2, none⟩ y2).setCell ⟨b, 3, none⟩ y3).setCell ⟨b, 4, none⟩ y4).setCell ⟨b, 5, none⟩ y5) := ((((((Only.refl _ _).setCell (by simp) _).setCell (by simp) _).setCell (by simp) _).setCell (by simp) _).setCell (by simp) _).setCell (by simp) _
theorem DrJ.keep {w V V' : World} {g : Nat} {fc : List Nat} {l : List UInt8} {e : Ending} (h : DrJ w g fc l e V) (k : Only [] V V') : DrJ w g fc l e V' := by
  obtain ⟨n, nm, vm, gs, fp, v1, v2, v3, nx, sy, lg, h0, h1, h2, h3, h4, h5, h6, h7, h8, h9, h10⟩ := h
  exact ⟨n, nm, vm, gs, fp, v1, v2, v3, nx, sy, lg, h0, h1, h2, Rp.keep h3 k, h4, h5, h6, h7, h8.only k (by simp), h9.keep k, h10.keepThen k⟩
/-- what both results' cells hold at the end -/
theorem DrJ.mk {w V : World} {g : Nat} {fc : List Nat} {l : List UInt8} {n : Int} {nm : ByteArray} {vm : Value} {gs : List (List Int)} {fp : List Nat} {v1 v2 v3 : Value} {nx sy : Int} {lg : ByteArray} {x0 x1 x2 y0 y1 y2 y3 y4 y5 : Value} (hg : g < w.heap.size) (hfc : ∀ b ∈ fc, b < w.heap.size) (R0 : Blk V w.heap.size [x0, x1, x2]) (R1 : Blk V (w.heap.size + 1) [y0, y1, y2, y3, y4, y5])
    (hn : I64 n) (h2 : nm.size ≤ 20) (h3 : Rd V vm gs fp) (h4 : ∀ b ∈ fp, w.heap.size + 2 ≤ b) (h5 : gs.length ≤ 9) (h6 : ∀ y : List Int, y ∈ gs → y.length ≤ 30) (h7 : validPz (⟨n, nm, gs⟩ : Puzzle) = true → n ≤ 5) (hT : JT (w.heap.size + 2) V v1 v2 v3) (D : Src V g fc l) (k : Only [g] w V) :
    ∃ Vf, Vf = (((((((((V.setCell ⟨w.heap.size, 0, none⟩ (.int .i64 n)).setCell ⟨w.heap.size, 1, none⟩ (.string nm)).setCell ⟨w.heap.size, 2, none⟩ vm).setCell ⟨w.heap.size + 1, 0, none⟩ v1).setCell ⟨w.heap.size + 1, 1, none⟩ v2).setCell ⟨w.heap.size + 1, 2, none⟩ v3).setCell ⟨w.heap.size + 1, 3, none⟩ (.int .i64 nx)).setCell ⟨w.heap.size + 1, 4, none⟩ (.string lg)).setCell ⟨w.heap.size + 1, 5, none⟩ (.int .i64 sy)) ∧
      Blk Vf w.heap.size [.int .i64 n, .string nm, vm] ∧ Blk Vf (w.heap.size + 1) [v1, v2, v3, .int .i64 nx, .string lg, .int .i64 sy] ∧ DrJ w g fc l (.returned (.tuple #[.agg #[.int .i64 n, .string nm, vm], .agg #[v1, v2, v3, .int .i64 nx, .string lg, .int .i64 sy]])) Vf := by
  have k0 := only_set3 V w.heap.size (.int .i64 n) (.string nm) vm
  have S0 := R0.set3 (.int .i64 n) (.string nm) vm
  have T1 := R1.only k0 (by simp)
  obtain ⟨V1, hV1⟩ : ∃ V1, V1 = (((V.setCell ⟨w.heap.size, 0, none⟩ (.int .i64 n)).setCell ⟨w.heap.size, 1, none⟩ (.string nm)).setCell ⟨w.heap.size, 2, none⟩ vm) := ⟨_, rfl⟩
  rw [← hV1] at k0 S0 T1 ⊢
  have k1 := only_set6 V1 (w.heap.size + 1) v1 v2 v3 (.int .i64 nx) (.string lg) (.int .i64 sy)
  have S1 := T1.set6 v1 v2 v3 (.int .i64 nx) (.string lg) (.int .i64 sy)
  have hd : ∀ q : Nat, w.heap.size + 2 ≤ q → q ∉ [w.heap.size] ∧ q ∉ [w.heap.size + 1] := fun q hq => ⟨by simp; omega, by simp; omega⟩
  refine ⟨_, rfl, S0.only k1 (by simp), S1, n, nm, vm, gs, fp, v1, v2, v3, nx, sy, lg, rfl, hn, h2, Rp.only (Rp.only h3 k0 fun b hb => (hd b (h4 b hb)).1) k1 fun b hb => (hd b (h4 b hb)).2, fun b hb => by have := h4 b hb; omega, h5, h6, h7, ?_, (D.only k0 (by simp; omega) (fun b hb hm => by have := hfc b hb; simp at hm; omega)).only k1 (by simp; omega) (fun b hb hm => by have := hfc b hb; simp at hm; omega), (k.then_ k0 (fun b hb hl => by simp at hb; omega)).then_ k1 (fun b hb hl => by simp at hb; omega)⟩
  obtain ⟨t, f, a, b, c⟩ := (hT.only k0 (by simp)).only k1 (by simp)
  exact ⟨t, f, a, fun q hq => by have := b q hq; omega, c⟩
theorem atF_ne (x : Puzzle) (tr : List Int) : ∀ m, 1 ≤ (atF x tr m).table.patterns.length
  | 0 => Nat.le_refl 1
  | m + 1 => Nat.le_trans (atF_ne x tr m) (atF_len_le x tr m)
theorem jt_of {B B' : Nat} {w : World} {v1 v2 v3 : Value} {t : Table} {fs : List (List Nat)} (h1 : AccI B 2 w v1 t.tracked) (h2 : Acc B 27 w v2 t.patterns fs) (h3 : AccI B 2 w v3 t.distances) (hf : ∀ b ∈ fs.flatten, B ≤ b) (hm : midT t) (hB : B' ≤ B) : JT B' w v1 v2 v3 := by
  refine ⟨t, _, ⟨_, _, _, _, _, _, rfl, rfl, h1.rd, h2.rd (by decide), h3.rd⟩, fun b hb => ?_, hm⟩
  rcases List.mem_append.1 hb with hb | hb
  · have := (h1.ownlt b (by simpa using hb)).1; omega
  · rcases List.mem_append.1 hb with hb | hb
    · rcases List.mem_append.1 hb with hb | hb
      · have := (h2.ownlt b (by simpa using hb)).1; omega
      · have := hf b hb; omega
    · have := (h3.ownlt b (by simpa using hb)).1; omega
theorem TB.jt {B B' : Nat} {w : World} {v1 v2 v3 : Value} {t : Table} {fs : List (List Nat)} (h : TB B w v1 v2 v3 t fs) (hm : midT t) (hB : B' ≤ B) : JT B' w v1 v2 v3 := jt_of h.tk h.pt h.dt (fun b hb => h.fr.ge b (List.mem_append_right _ (List.mem_append_left _ (List.mem_append_right _ hb)))) hm hB
theorem TB.sep {B : Nat} {w : World} {v1 v2 v3 : Value} {t : Table} {fs : List (List Nat)} (h : TB B w v1 v2 v3 t fs) : (∀ b ∈ v1.ownBlock.toList, b ∉ v2.ownBlock.toList ∧ b ∉ fs.flatten ∧ b ∉ v3.ownBlock.toList) ∧ (∀ b ∈ v3.ownBlock.toList, b ∉ v2.ownBlock.toList ∧ b ∉ fs.flatten ∧ b ∉ v1.ownBlock.toList) := by
  have hn := h.fr.nd
  have h1 := List.nodup_append.1 hn
  have h2 := List.nodup_append.1 h1.2.1
  refine ⟨fun b hb => ⟨fun hm => h1.2.2 b hb b (List.mem_append_left _ (List.mem_append_left _ hm)) rfl, fun hm => h1.2.2 b hb b (List.mem_append_left _ (List.mem_append_right _ hm)) rfl, fun hm => h1.2.2 b hb b (List.mem_append_right _ hm) rfl⟩, fun b hb => ⟨fun hm => h2.2.2 b (List.mem_append_left _ hm) b hb rfl, fun hm => h2.2.2 b (List.mem_append_right _ hm) b hb rfl, fun hm => h1.2.2 b hm b (List.mem_append_right _ hb) rfl⟩⟩
/-- a step along the chain of jobs -/
theorem step28_ch (cs : List Value) (x : Puzzle) (fp : List Nat) (tr : List Int) (m : Nat) (s : Int) (B : Nat) (v1 v2 v3 : Value) (fs : List (List Nat)) (w : World) (h : Rp.rep w cs x fp) (hs : I64 s) (hB : B ≤ w.heap.size) (hb : (bTab x tr).isSome = true) (hok : okF x tr m) (hT : TB B w v1 v2 v3 (atF x tr m).table fs) :
    Calls Try.prog 33 #[.agg cs.toArray, .agg #[v1, v2, v3, .int .i64 m, .string (atF x tr m).log, .int .i64 s]] w fun e w' => ∃ (m' : Nat) (u1 u2 u3 : Value) (fs' : List (List Nat)) (b : Bool), e = .returned (.tuple #[.agg #[u1, u2, u3, .int .i64 m', .string (atF x tr m').log, .int .i64 s], .bool b]) ∧ okF x tr m' ∧ m' ≤ m + 1 ∧ TB B w' u1 u2 u3 (atF x tr m').table fs' ∧ (∀ q ∈ TBf u1 u2 u3 fs', q ∈ TBf v1 v2 v3 fs ∨ w.heap.size ≤ q) ∧ Only [] w w' := by
  have hnx : ∀ k, okF x tr k → (atF x tr k).next = k := fun k hk => (chF_go (s := s) hb hk).nx
  have e0 : chF x tr s m = ⟨⟨(atF x tr m).table.tracked, (atF x tr m).table.patterns, (atF x tr m).table.distances⟩, (m : Int), (atF x tr m).log, s⟩ := by
    unfold chF
    rw [← hnx m hok]
  have hgo := chF_go (s := s) hb hok
  rw [e0] at hgo
  obtain ⟨m', hok', hm1, ej⟩ : ∃ m' : Nat, okF x tr m' ∧ m' ≤ m + 1 ∧ (stepF x (chF x tr s m)).1 = chF x tr s m' := by
    cases h2 : (stepF x (chF x tr s m)).2 with
    | false => exact ⟨m, hok, Nat.le_succ m, chF_stay h2⟩
    | true => exact ⟨m + 1, (chF_step hb hok h2).1, Nat.le_refl _, (chF_step hb hok h2).2⟩
  rw [e0] at ej
  refine (step28_acc cs x fp v1 v2 v3 _ _ _ m _ s B fs w h hB hT hs hgo).mono ?_
  rintro e w' ⟨u1, u2, u3, fs', rfl, hT', hq, t⟩
  rw [ej] at hT'
  refine ⟨m', u1, u2, u3, fs', (stepF x ⟨⟨(atF x tr m).table.tracked, (atF x tr m).table.patterns, (atF x tr m).table.distances⟩, (m : Int), (atF x tr m).log, s⟩).2, ?_, hok', hm1, hT', hq, t⟩
  rw [ej]
  have e1 : (chF x tr s m').next = (m' : Int) := hnx m' hok'
  rw [e1]
  rfl
/-- the job's variable in the loop -/
def JLp (x : Puzzle) (tr : List Int) (B : Nat) (W5 : World) (g : Nat) (fc : List Nat) (l : List UInt8) (jb j : Nat) (wr : World) : Prop :=
  ∃ (m : Nat) (s : Int) (v1 v2 v3 : Value) (fs : List (List Nat)), Blk wr jb [v1, v2, v3, .int .i64 m, .string (atF x tr m).log, .int .i64 s] ∧ okF x tr m ∧ m + j ≤ 5 ∧ I64 s ∧ TB B wr v1 v2 v3 (atF x tr m).table fs ∧ (∀ b ∈ TBf v1 v2 v3 fs, b ≠ jb) ∧ Src wr g fc l ∧ Only [g, jb] W5 wr
set_option maxHeartbeats 16000000 in
theorem draw28_any (g : Nat) (fc : List Nat) (l : List UInt8) (w : World) (h : Src w g fc l) (hl : l.length ≤ 4096) :
    Calls Try.prog 21 #[.pointer (some ⟨g, 0, none⟩)] w (DrJ w g fc l) := by
  obtain ⟨i1, hi, hz0, hz1, hz2⟩ := info_parts Try.info2
  obtain ⟨il, hil, hl0, hl1, hl2⟩ := info_parts Try.info22
  have hg := h.lt
  have hfc : ∀ b ∈ fc, b < w.heap.size := by obtain ⟨_, _, _, _, _, _, _, h4, _⟩ := h; exact fun b hb => Rp.lt h4 b hb
  have R0 := (Blk.new w [.int .i64 0, .string ⟨#[]⟩, .slice none 0 0] 26).keep ((Only.refl _ _).alloc (.cells #[.slice none 0 0, .slice none 0 0, .slice none 0 0, .int .i64 0, .string ⟨#[]⟩, .int .i64 0] 57))
  have R1 : Blk ((w.alloc (.cells #[.int .i64 0, .string ⟨#[]⟩, .slice none 0 0] 26)).alloc (.cells #[.slice none 0 0, .slice none 0 0, .slice none 0 0, .int .i64 0, .string ⟨#[]⟩, .int .i64 0] 57)) (w.heap.size + 1) [.slice none 0 0, .slice none 0 0, .slice none 0 0, .int .i64 0, .string ⟨#[]⟩, .int .i64 0] := Blk.new_at (by simp)
  have ho : Only [] w ((w.alloc (.cells #[.int .i64 0, .string ⟨#[]⟩, .slice none 0 0] 26)).alloc (.cells #[.slice none 0 0, .slice none 0 0, .slice none 0 0, .int .i64 0, .string ⟨#[]⟩, .int .i64 0] 57)) := ((Only.refl _ _).alloc _).alloc _
  have Hsz0 : Hid (((w.alloc (.cells #[.int .i64 0, .string ⟨#[]⟩, .slice none 0 0] 26)).alloc (.cells #[.slice none 0 0, .slice none 0 0, .slice none 0 0, .int .i64 0, .string ⟨#[]⟩, .int .i64 0] 57)).heap.size = w.heap.size + 2) := Lib.hid (by simp)
  have e1 : (w.alloc (.cells #[.int .i64 0, .string ⟨#[]⟩, .slice none 0 0] 26)).heap.size = w.heap.size + 1 := by simp
  have D0 := h.keep ho
  go_enter Try.func21, Try.ntmps21
  go_upto_region 1 with fail
  try rw [e1]
  obtain ⟨W0, hW0⟩ : ∃ W, W = ((w.alloc (.cells #[.int .i64 0, .string ⟨#[]⟩, .slice none 0 0] 26)).alloc (.cells #[.slice none 0 0, .slice none 0 0, .slice none 0 0, .int .i64 0, .string ⟨#[]⟩, .int .i64 0] 57)) := ⟨_, rfl⟩
  rw [← hW0] at R0 R1 ho Hsz0 D0 ⊢
  clear hW0 e1 h
  go_upto_region 2 with (first
    | (go_at_call 31; (with_reducible refine (drawVPuzzle_any g fc l W0 D0 hl).mono ?_); rintro e w1 ⟨n, nm, vm, gs, fp, rfl, hn, nml, rm, gem, gl9, gy30, hval, D1, K1⟩; obtain ⟨am, cm, _, _, rfl, -, -⟩ := rm.open_; have R01 := R0.only K1 (by simp; omega); have R11 := R1.only K1 (by simp; omega))
    | fail "no arm")
  have hge : ∀ b ∈ fp, w.heap.size + 2 ≤ b := fun b hb => by have := gem b hb; rw [Hsz0.out] at this; exact this
  have s1 : w.heap.size + 2 ≤ w1.heap.size := by have := K1.size; rw [Hsz0.out] at this; exact this
  have kal : Only [] w1 (w1.alloc (.cells #[.int .i64 n, .string nm, .slice am gs.length cm] 26)) := (Only.refl _ _).alloc _
  have R02 := R01.keep kal
  have R12 := R11.keep kal
  have P2 := Blk.new w1 [.int .i64 n, .string nm, .slice am gs.length cm] 26
  have rm2 := Rp.keep rm kal
  have D2 := D1.keep kal
  have k2 : Only [g] w (w1.alloc (.cells #[.int .i64 n, .string nm, .slice am gs.length cm] 26)) := ((ho.weaken [g]).trans K1).alloc _
  have hpb3 : w1.heap.size < (w1.alloc (.cells #[.int .i64 n, .string nm, .slice am gs.length cm] 26)).heap.size := by simp
  have hfl : ∀ b ∈ fp, b < w1.heap.size := fun b hb => Rp.lt rm b hb
  obtain ⟨W2, hW2⟩ : ∃ W, W = w1.alloc (.cells #[.int .i64 n, .string nm, .slice am gs.length cm] 26) := ⟨_, rfl⟩
  obtain ⟨pb, hpb⟩ : ∃ pb, pb = w1.heap.size := ⟨_, rfl⟩
  rw [← hW2, ← hpb] at hpb3
  rw [← hW2] at R02 R12 P2 rm2 D2 k2 ⊢
  rw [← hpb] at P2 hfl s1 ⊢
  have Hge := Lib.hid hge; have Hfl := Lib.hid hfl; have Hval := Lib.hid hval; have Gy := Lib.hid gy30
  clear hW2 hpb R0 R1 R01 R11 rm D0 D1 kal ho K1 gem hge hfl hval gy30
  have hx : Rp.rep W2 [.int .i64 n, .string nm, .slice am gs.length cm] (⟨n, nm, gs⟩ : Puzzle) fp := ⟨_, rfl, hn, by show nm.size ≤ maxLen; unfold maxLen; omega, rm2⟩
  have hW2g : g < W2.heap.size := D2.lt
  have HxK : Hid (∀ V, Only [g] W2 V → Rp.rep V [.int .i64 n, .string nm, .slice am gs.length cm] (⟨n, nm, gs⟩ : Puzzle) fp) := Lib.hid fun V hV => Rp.only hx hV fun b hb hm => by have := Hge.out b hb; simp at hm; omega
  go_upto_region 3 with (first
    | (go_at_call 23; (with_reducible refine (srcBelow_any g fc l 2 W2 D2 hl (by omega)).mono ?_); rintro e w3 ⟨r, rfl, r0, r1, D3, K3⟩; have A3 : AccI W2.heap.size 2 (w3.alloc (.cells #[.int .i64 r] 2)) (.slice (some ⟨w3.heap.size, 0, none⟩) 1 1) [r] := ⟨_, Acc.one (α := Int) (w := w3) W2.heap.size 2 (cs := [.int .i64 r]) (x := r) (fp := []) (int_rd _ (by unfold I64; omega)) rfl K3.size⟩; have kal3 : Only [] w3 (w3.alloc (.cells #[.int .i64 r] 2)) := (Only.refl _ _).alloc _; have D3a := D3.keep kal3; have K3a : Only [g] W2 (w3.alloc (.cells #[.int .i64 r] 2)) := K3.alloc _)
    | fail "no arm")
  obtain ⟨Va, hVa⟩ : ∃ V, V = w3.alloc (.cells #[.int .i64 r] 2) := ⟨_, rfl⟩
  obtain ⟨tb, htb⟩ : ∃ tb, tb = w3.heap.size := ⟨_, rfl⟩
  rw [← hVa, ← htb] at A3
  rw [← hVa] at D3a K3a ⊢
  rw [← htb]
  clear hVa htb kal3 D3 K3 r0 r1
  go_cut [15] (fun s15 wx => ∃ b : Bool, s15 = .bool b ∧ Src wx g fc l ∧ Only [g] Va wx)
  case first =>
    go_wp2_with ((go_at_call 22; (with_reducible refine (oneIn_any g fc l 2 Va D3a hl (by omega)).mono ?_); rintro e w4 ⟨b4, rfl, D4, K4⟩))
    go_meet
    exact ⟨_, rfl, D4, K4⟩
  case rest =>
  obtain ⟨Vb, hnew⟩ : ∃ W, W = wc := ⟨_, rfl⟩
  subst hnew
  obtain ⟨b4, rfl, D4, K4⟩ := hcut
  refine (show ∀ a w, Code.wp Try.prog _ _ a w → _ from by assumption) _ _ ?_
  go_cut [5] (fun s5 wx => ∃ tr, AccI W2.heap.size 2 wx s5 tr ∧ (tr.length ≤ 2 ∧ 1 ≤ tr.length) ∧ Src wx g fc l ∧ Only [g] W2 wx)
  case first =>
    have hA4 := A3.only K4 (fun q hq hm => by have := (A3.ownlt q hq).1; simp at hm; omega)
    have hB4 : W2.heap.size ≤ Vb.heap.size := (K3a.trans K4).size
    have kal4 : Only [] Vb (Vb.alloc (.cells #[.int .i64 2] 2)) := (Only.refl _ _).alloc _
    have hI2 : I64 2 := by unfold I64; omega
    have hlen1 : [r].length + 1 ≤ 1073741824 := by simp
    cases b4
    · go_wp2
      go_meet
      exact ⟨[r], hA4, ⟨by simp, by simp⟩, D4, K3a.trans K4⟩
    · go_wp2_with (first
        | (at_builtin; refine wpList_pushI rfl _ _ 27 rfl W2.heap.size 2 i1 _ Try.underlying27 hi hz0 hz1 hz2 rfl Vb (.slice (some ⟨tb, 0, none⟩) 1 1) [r] rfl hA4 kal4 hB4 Vb.heap.size 1 2 rfl (lit1 Vb _ _ rfl) hI2 hlen1 ?_; intro v9 w9 hA9 hO9 hP9 hN9; replace hO9 : Only (Value.slice (some ⟨tb, 0, none⟩) 1 1).ownBlock.toList _ w9 := hO9)
        | fail "no arm")
      go_meet
      exact ⟨[r] ++ [2], hA9, ⟨by simp, by simp⟩, (D4.keep kal4).only hO9 (fun hm => by have := (hA4.ownlt g (by simpa using hm)).1; omega) (fun b hb hm => by have h1 := hfc b hb; have := (hA4.ownlt b (by simpa using hm)).1; omega), ((K3a.trans K4).alloc _).then_ hO9 (fun b hb hl => by have := (hA4.ownlt b (by simpa using hb)).1; omega)⟩
  case rest =>
  obtain ⟨W3, hnew⟩ : ∃ W, W = wc := ⟨_, rfl⟩
  subst hnew
  obtain ⟨tr, hA3, ⟨htl, htl1⟩, D3, K3⟩ := hcut
  refine (show ∀ a w, Code.wp Try.prog _ _ a w → _ from by assumption) _ _ ?_
  have s3 := K3.size
  have hA3l := hA3.ownlt
  have R03 := R02.only K3 (by simp; omega)
  have R13 := R12.only K3 (by simp; omega)
  have P3 := P2.only K3 (by simp; omega)
  have x03 := P3.cell 0 rfl; have x13 := P3.cell 1 rfl; have x23 := P3.cell 2 rfl
  have hx3 := HxK.out W3 K3
  obtain ⟨av, cv, rfl⟩ := hA3.form
  have HcS := Lib.hid (specStartFill_acc [.int .i64 n, .string nm, .slice am gs.length cm] ⟨n, nm, gs⟩ fp (.slice av tr.length cv) tr _ _ hx3 hA3.rd (by omega))
  have HA3 := Lib.hid hA3
  have HxK3 : Hid (∀ V, Only [g] W3 V → Rp.rep V [.int .i64 n, .string nm, .slice am gs.length cm] (⟨n, nm, gs⟩ : Puzzle) fp) := Lib.hid fun V hV => HxK.out V (K3.trans hV)
  have k3 := k2.trans K3
  have hpb3' : pb < W3.heap.size := by omega
  clear hA3 hA3l hx3 HxK P2 R02 R12 D2 k2 hx K3 rm2 K3a D4 K4 A3 hW2g D3a
  rcases hb : (bTab (⟨n, nm, gs⟩ : Puzzle) tr).isSome
  · have Hb := Lib.hid hb
    clear hb
    go_upto_region 7 with (first
      | (go_at_call 32; (with_reducible refine (HcS.out).mono ?_); rintro e w4 ⟨v1, v2, v3, fs4, rfl, hyes, hno, t4⟩; obtain ⟨rfl, rfl, rfl⟩ := hno Hb.out; rw [Hb.out]; clear hyes hno; have P4 := P3.keep t4; have R04 := R03.keep t4; have R14 := R13.keep t4; have D4 := D3.keep t4; have x04 := P4.cell 0 rfl; have x14 := P4.cell 1 rfl; have x24 := P4.cell 2 rfl; have a04 := R04.cell 0 rfl; have a14 := R04.cell 1 rfl; have a24 := R04.cell 2 rfl; have b04 := R04.frozen 0; have b14 := R04.frozen 1; have b24 := R04.frozen 2; have c04 := R14.cell 0 rfl; have c14 := R14.cell 1 rfl; have c24 := R14.cell 2 rfl; have c34 := R14.cell 3 rfl; have c44 := R14.cell 4 rfl; have c54 := R14.cell 5 rfl; have d04 := R14.frozen 0; have d14 := R14.frozen 1; have d24 := R14.frozen 2; have d34 := R14.frozen 3; have d44 := R14.frozen 4; have d54 := R14.frozen 5)
      | fail "no arm")
    have kal : Only [] w4 (w4.alloc (.cells #[.slice none 0 0, .slice none 0 0, .slice none 0 0, .int .i64 0, .string ⟨#[]⟩, .int .i64 0] 57)) := (Only.refl _ _).alloc _
    have J5 := Blk.new w4 [.slice none 0 0, .slice none 0 0, .slice none 0 0, .int .i64 0, .string ⟨#[]⟩, .int .i64 0] 57
    have P5 := P4.keep kal
    have R05 := R04.keep kal
    have R15 := R14.keep kal
    have D5 := D4.keep kal
    have k35 : Only [g] W3 (w4.alloc (.cells #[.slice none 0 0, .slice none 0 0, .slice none 0 0, .int .i64 0, .string ⟨#[]⟩, .int .i64 0] 57)) := (t4.trans kal).weaken [g]
    have s4 := t4.size
    obtain ⟨W5, hW5⟩ : ∃ W, W = w4.alloc (.cells #[.slice none 0 0, .slice none 0 0, .slice none 0 0, .int .i64 0, .string ⟨#[]⟩, .int .i64 0] 57) := ⟨_, rfl⟩
    obtain ⟨jb, hjb⟩ : ∃ jb, jb = w4.heap.size := ⟨_, rfl⟩
    rw [← hW5] at J5 P5 R05 R15 D5 k35 ⊢
    rw [← hjb] at J5 s4 ⊢
    clear hW5 hjb P4 R04 R14 D4 kal t4 P3 R03 R13 D3 x04 x14 x24 a04 b04 a14 b14 a24 b24 c04 d04 c14 d14 c24 d24 c34 d34 c44 d44 c54 d54 x03 x13 x23
    have hjw : w.heap.size + 2 ≤ jb := by omega
    obtain ⟨Vf, hVf, S0, S1, hD⟩ := DrJ.mk (nx := 0) (sy := 0) (lg := ⟨#[]⟩) hg hfc R05 R15 hn nml (pz_rd (HxK3.out W5 k35)) Hge.out gl9 Gy.out Hval.out (JT.nil _ _) D5 (k3.trans k35)
    have x0z := P5.cell 0 rfl; have x1z := P5.cell 1 rfl; have x2z := P5.cell 2 rfl
    have a0z := R05.cell 0 rfl; have a1z := R05.cell 1 rfl; have a2z := R05.cell 2 rfl
    have b0z := R05.frozen 0; have b1z := R05.frozen 1; have b2z := R05.frozen 2
    have c0z := R15.cell 0 rfl; have c1z := R15.cell 1 rfl; have c2z := R15.cell 2 rfl; have c3z := R15.cell 3 rfl; have c4z := R15.cell 4 rfl; have c5z := R15.cell 5 rfl
    have d0z := R15.frozen 0; have d1z := R15.frozen 1; have d2z := R15.frozen 2; have d3z := R15.frozen 3; have d4z := R15.frozen 4; have d5z := R15.frozen 5
    have j0z := J5.cell 0 rfl; have j1z := J5.cell 1 rfl; have j2z := J5.cell 2 rfl; have j3z := J5.cell 3 rfl; have j4z := J5.cell 4 rfl; have j5z := J5.cell 5 rfl
    go_region_law (fail "no arm")
    all_goals
      go_wp2
      rw [← hVf]
      have x0y := S0.cell 0 rfl; have x1y := S0.cell 1 rfl; have x2y := S0.cell 2 rfl
      have c0y := S1.cell 0 rfl; have c1y := S1.cell 1 rfl; have c2y := S1.cell 2 rfl; have c3y := S1.cell 3 rfl; have c4y := S1.cell 4 rfl; have c5y := S1.cell 5 rfl
      exact bodyPost_ret (v := .tuple #[.agg #[.int .i64 n, .string nm, .slice am gs.length cm], .agg #[.slice none 0 0, .slice none 0 0, .slice none 0 0, .int .i64 0, .string ⟨#[]⟩, .int .i64 0]]) (by simp [results, Try.results21, go_sem, x0y, x1y, x2y, c0y, c1y, c2y, c3y, c4y, c5y]) rfl (hD.keep (by with_reducible repeat (first | exact Only.refl _ _ | refine Only.drewN ?_ _ | refine Only.drew ?_)))
  · have Hb := Lib.hid hb
    clear hb
    go_upto_region 8 with (first
      | (go_at_call 32; (with_reducible refine (HcS.out).mono ?_); rintro e w4 ⟨v1, v2, v3, fs4, rfl, hyes, hno, t4⟩; have hT4 := hyes Hb.out; obtain ⟨a1, c1, rfl⟩ := hT4.tk.form; obtain ⟨a2, c2, rfl⟩ := hT4.pt.form; obtain ⟨a3, c3, rfl⟩ := hT4.dt.form; have HT4 := Lib.hid hT4; rw [Hb.out]; clear hyes hno hT4; have P4 := P3.keep t4; have R04 := R03.keep t4; have R14 := R13.keep t4; have D4 := D3.keep t4)
      | fail "no arm")
    have kal : Only [] w4 (w4.alloc (.cells #[.slice a1 (startF tr).table.tracked.length c1, .slice a2 (startF tr).table.patterns.length c2, .slice a3 (startF tr).table.distances.length c3, .int .i64 0, .string ⟨#[]⟩, .int .i64 0] 57)) := (Only.refl _ _).alloc _
    have J5 := Blk.new w4 [.slice a1 (startF tr).table.tracked.length c1, .slice a2 (startF tr).table.patterns.length c2, .slice a3 (startF tr).table.distances.length c3, .int .i64 0, .string ⟨#[]⟩, .int .i64 0] 57
    have P5 := P4.keep kal
    have R05 := R04.keep kal
    have R15 := R14.keep kal
    have D5 := D4.keep kal
    have hT5 := HT4.out.keep kal
    have hlt4 : ∀ b ∈ TBf (.slice a1 (startF tr).table.tracked.length c1) (.slice a2 (startF tr).table.patterns.length c2) (.slice a3 (startF tr).table.distances.length c3) fs4, b < w4.heap.size := fun b hb => HT4.out.fr.lt b hb
    have k35 : Only [g] W3 (w4.alloc (.cells #[.slice a1 (startF tr).table.tracked.length c1, .slice a2 (startF tr).table.patterns.length c2, .slice a3 (startF tr).table.distances.length c3, .int .i64 0, .string ⟨#[]⟩, .int .i64 0] 57)) := (t4.trans kal).weaken [g]
    have s4 := t4.size
    have hjb3 : w4.heap.size < (w4.alloc (.cells #[.slice a1 (startF tr).table.tracked.length c1, .slice a2 (startF tr).table.patterns.length c2, .slice a3 (startF tr).table.distances.length c3, .int .i64 0, .string ⟨#[]⟩, .int .i64 0] 57)).heap.size := by simp
    obtain ⟨W5, hW5⟩ : ∃ W, W = w4.alloc (.cells #[.slice a1 (startF tr).table.tracked.length c1, .slice a2 (startF tr).table.patterns.length c2, .slice a3 (startF tr).table.distances.length c3, .int .i64 0, .string ⟨#[]⟩, .int .i64 0] 57) := ⟨_, rfl⟩
    obtain ⟨jb, hjb⟩ : ∃ jb, jb = w4.heap.size := ⟨_, rfl⟩
    rw [← hW5, ← hjb] at hjb3
    rw [← hW5] at J5 P5 R05 R15 D5 k35 hT5 ⊢
    rw [← hjb] at J5 s4 hlt4 ⊢
    clear hW5 hjb P4 R04 R14 D4 kal t4 P3 R03 R13 D3 HT4 x03 x13 x23
    have hjw : w.heap.size + 2 ≤ jb := by omega
    have hjp : pb < jb := by omega
    have k5 := k3.trans k35
    have hx5 := Lib.hid (fun (V : World) (hV : Only [g] W5 V) => HxK3.out V (k35.trans hV))
    have hB5 : W3.heap.size ≤ W5.heap.size := k35.size
    clear HcS
    go_upto_region 9 with ((go_at_call 23; (with_reducible refine (srcBelow_any g fc l 5 W5 D5 hl (by omega)).mono ?_); rintro e w6 ⟨r, rfl, r0, r1, D6, K6⟩; obtain ⟨k, rfl⟩ := Int.eq_ofNat_of_zero_le r0))
    have hgB : g < W3.heap.size := by omega
    have P6 := P5.only K6 (by simp; omega)
    have R06 := R05.only K6 (by simp; omega)
    have R16 := R15.only K6 (by simp; omega)
    have hx6 := hx5.out w6 K6
    have k6 := k5.trans K6
    have hB6 : W3.heap.size ≤ w6.heap.size := Nat.le_trans hB5 K6.size
    have hjb6 : jb < w6.heap.size := Nat.lt_of_lt_of_le hjb3 K6.size
    have HJ6 : JLp (⟨n, nm, gs⟩ : Puzzle) tr W3.heap.size w6 g fc l jb k w6 := ⟨0, 0, _, _, _, fs4, J5.only K6 (by simp; omega), fun m hm => absurd hm (Nat.not_lt_zero _), by omega, by unfold I64; omega, hT5.only K6 (fun b hb hm => by have := hT5.fr.ge b hb; simp at hm; omega), fun b hb e => by have := hlt4 b hb; omega, D6, Only.refl _ _⟩
    have HA6 := Lib.hid (HA3.out.only (k35.trans K6) (fun q hq hm => by have := (HA3.out.ownlt q hq).1; simp at hm; omega))
    have HX6 := Lib.hid (fun (V : World) (hV : Only [g, jb] w6 V) => Rp.only hx6 hV (fun b hb hm => by have h1 := Hge.out b hb; have h2 := Hfl.out b hb; simp at hm; omega))
    clear J5 hT5 hlt4 P5 R05 R15 D5 hx5 k35 K6 hx6
    go_loopw [8] (fun c wr => ∃ j : Nat, c = .int .i64 j ∧ j ≤ 5 ∧ JLp (⟨n, nm, gs⟩ : Puzzle) tr W3.heap.size w6 g fc l jb j wr)
      (fun c _ => (intOf c).toNat)
    case atStart => exact ⟨k, rfl, by omega, HJ6⟩
    case round =>
      obtain ⟨V, hnew⟩ : ∃ W, W = wr := ⟨_, rfl⟩
      subst hnew
      obtain ⟨j, rfl, hj5, m, s, v1, v2, v3, fs, JV, hok, hmj, hs, hT, hne, DV, KV⟩ := hrel
      clear HJ6 D6 r1
      have PV := P6.only KV (by simp; omega)
      have hxV := HX6.out V KV
      have hBV : W3.heap.size ≤ V.heap.size := Nat.le_trans hB6 KV.size
      have hjbV : jb < V.heap.size := Nat.lt_of_lt_of_le hjb6 KV.size
      obtain ⟨d1, e1, rfl⟩ := hT.tk.form
      obtain ⟨d2, e2, rfl⟩ := hT.pt.form
      obtain ⟨d3, e3, rfl⟩ := hT.dt.form
      have HT := Lib.hid hT; have Hne := Lib.hid hne; have Hok := Lib.hid hok
      clear hT hne hok
      have x0V := PV.cell 0 rfl; have x1V := PV.cell 1 rfl; have x2V := PV.cell 2 rfl
      have j0V := JV.cell 0 rfl; have j1V := JV.cell 1 rfl; have j2V := JV.cell 2 rfl; have j3V := JV.cell 3 rfl; have j4V := JV.cell 4 rfl; have j5V := JV.cell 5 rfl
      by_cases hj : 0 < j
      · have hjI : (0 : Int) < (j : Int) := by omega
        have HcT := Lib.hid (step28_ch [.int .i64 n, .string nm, .slice am gs.length cm] (⟨n, nm, gs⟩ : Puzzle) fp tr m s W3.heap.size _ _ _ fs V hxV hs hBV Hb.out Hok.out HT.out)
        clear hxV
        go_wp2_with (first
          | (go_at_call 33; (with_reducible refine (HcT.out).mono ?_); rintro e w7 ⟨m', u1, u2, u3, fs', b7, rfl, hok', hm', hT', hq', t7⟩; obtain ⟨d1, e1, rfl⟩ := hT'.tk.form; obtain ⟨d2, e2, rfl⟩ := hT'.pt.form; obtain ⟨d3, e3, rfl⟩ := hT'.dt.form; have J7 := JV.keep t7; have j07 := J7.cell 0 rfl; have j17 := J7.cell 1 rfl; have j27 := J7.cell 2 rfl; have j37 := J7.cell 3 rfl; have j47 := J7.cell 4 rfl; have j57 := J7.cell 5 rfl; have f07 := J7.frozen 0; have f17 := J7.frozen 1; have f27 := J7.frozen 2; have f37 := J7.frozen 3; have f47 := J7.frozen 4; have f57 := J7.frozen 5; have hd7 : ∀ b ∈ TBf (.slice d1 (atF (⟨n, nm, gs⟩ : Puzzle) tr m').table.tracked.length e1) (.slice d2 (atF (⟨n, nm, gs⟩ : Puzzle) tr m').table.patterns.length e2) (.slice d3 (atF (⟨n, nm, gs⟩ : Puzzle) tr m').table.distances.length e3) fs', b ≠ jb := (fun b hb e => (hq' b hb).elim (fun h9 => Hne.out b h9 e) (fun h9 => by omega)); have kst := only_set6 w7 jb (.slice d1 (atF (⟨n, nm, gs⟩ : Puzzle) tr m').table.tracked.length e1) (.slice d2 (atF (⟨n, nm, gs⟩ : Puzzle) tr m').table.patterns.length e2) (.slice d3 (atF (⟨n, nm, gs⟩ : Puzzle) tr m').table.distances.length e3) (.int .i64 m') (.string (atF (⟨n, nm, gs⟩ : Puzzle) tr m').log) (.int .i64 s); have J8 := J7.set6 (.slice d1 (atF (⟨n, nm, gs⟩ : Puzzle) tr m').table.tracked.length e1) (.slice d2 (atF (⟨n, nm, gs⟩ : Puzzle) tr m').table.patterns.length e2) (.slice d3 (atF (⟨n, nm, gs⟩ : Puzzle) tr m').table.distances.length e3) (.int .i64 m') (.string (atF (⟨n, nm, gs⟩ : Puzzle) tr m').log) (.int .i64 s); have HT8 := Lib.hid (hT'.only kst (fun b hb hm => hd7 b hb (by simpa using hm))); have Hd7 := Lib.hid hd7; have Hok' := Lib.hid hok'; have D8 := (DV.keep t7).only kst (by simp; omega) (fun b hb hm => by have := hfc b hb; simp at hm; omega); have K8 : Only [g, jb] w6 _ := ((KV.trans (t7.weaken _)).trans (kst.mono (by simp))); clear hd7 hT' hok' hq' J7)
          | (go_at_call 22; (with_reducible refine (oneIn_any g fc l 3 _ D8 hl (by omega)).mono ?_); rintro e w9 ⟨b9, rfl, D9, K9⟩; have J9 := J8.only K9 (by simp; omega); have j09 := J9.cell 0 rfl; have j19 := J9.cell 1 rfl; have j29 := J9.cell 2 rfl; have j39 := J9.cell 3 rfl; have j49 := J9.cell 4 rfl; have j59 := J9.cell 5 rfl; have f09 := J9.frozen 0; have f19 := J9.frozen 1; have f29 := J9.frozen 2; have f39 := J9.frozen 3; have f49 := J9.frozen 4; have f59 := J9.frozen 5; have HT9 := Lib.hid (HT8.out.only K9 (fun b hb hm => by have := HT8.out.fr.ge b hb; simp at hm; omega)); have K9w := K8.trans (K9.mono (by simp)))
          | fail "no arm")
        · have hlg : (atF (⟨n, nm, gs⟩ : Puzzle) tr m').log.size ≤ 2000000 := (chF_go (s := 0) Hb.out Hok'.out).lg
          have kq : Only [jb] w9 (w9.setCell ⟨jb, 5, none⟩ (.int .i64 ((atF (⟨n, nm, gs⟩ : Puzzle) tr m').log.size : Nat))) := (Only.refl _ _).setCell (by simp) _
          have J10 := J9.set 5 (.int .i64 ((atF (⟨n, nm, gs⟩ : Puzzle) tr m').log.size : Nat))
          simp only [List.set] at J10
          go_roundw
          case rel => exact ⟨j - 1, by go_num, by omega, m', _, _, _, _, fs', J10, Hok'.out, by omega, by unfold I64; omega, HT9.out.only kq (fun b hb hm => Hd7.out b hb (by simpa using hm)), Hd7.out, D9.only kq (by simp; omega) (fun b hb hm => by have := hfc b hb; simp at hm; omega), K9w.trans (kq.mono (by simp))⟩
          case measure => simp [intOf]; omega
        · go_roundw
          case rel => exact ⟨j - 1, by go_num, by omega, m', s, _, _, _, fs', J9, Hok'.out, by omega, hs, HT9.out, Hd7.out, D9, K9w⟩
          case measure => simp [intOf]; omega
      · have hjI : ¬ (0 : Int) < (j : Int) := by omega
        have RV := R06.only KV (by simp; omega)
        have SV := R16.only KV (by simp; omega)
        have kV : Only [g] w V := k6.then_ KV (fun b hb hl => by simp at hb ⊢; omega)
        have hAV : AccI W2.heap.size 2 V (.slice av tr.length cv) tr := (HA6.out).only KV (fun q hq hm => by have h1 := (HA3.out.ownlt q hq).1; have h2 := (HA3.out.ownlt q hq).2; simp at hm; omega)
        go_upto_region 14 with fail
        go_cut [48] (fun s48 wx => ∃ b : Bool, s48 = .bool b ∧ Src wx g fc l ∧ Only [g] V wx)
        case first =>
          go_wp2_with ((go_at_call 22; (with_reducible refine (oneIn_any g fc l 8 V DV hl (by omega)).mono ?_); rintro e w4 ⟨b4, rfl, D4, K4⟩))
          go_meet
          exact ⟨_, rfl, D4, K4⟩
        case rest =>
        obtain ⟨Vb, hnew⟩ : ∃ W, W = wc := ⟨_, rfl⟩
        subst hnew
        obtain ⟨b4, rfl, D4, K4⟩ := hcut
        refine (show ∀ a w, Code.wp Try.prog _ _ a w → _ from by assumption) _ _ ?_
        go_cut [] (fun wx => ∃ (A1 A2 A3 : Option Addr) (n1 n2 n3 C1 C2 C3 : Nat) (nx sy : Int) (lg : ByteArray), Blk wx jb [.slice A1 n1 C1, .slice A2 n2 C2, .slice A3 n3 C3, .int .i64 nx, .string lg, .int .i64 sy] ∧ JT (w.heap.size + 2) wx (.slice A1 n1 C1) (.slice A2 n2 C2) (.slice A3 n3 C3) ∧ Src wx g fc l ∧ Only [g] w wx ∧ Blk wx w.heap.size [.int .i64 0, .string ⟨#[]⟩, .slice none 0 0] ∧ Blk wx (w.heap.size + 1) [.slice none 0 0, .slice none 0 0, .slice none 0 0, .int .i64 0, .string ⟨#[]⟩, .int .i64 0] ∧ Blk wx pb [.int .i64 n, .string nm, .slice am gs.length cm] ∧ Rd wx (.slice am gs.length cm) gs fp)
        case first =>
          have hgo := chF_go (s := s) Hb.out Hok.out
          have hmid : midT (atF (⟨n, nm, gs⟩ : Puzzle) tr m).table := hgo.mid
          have hgf := (atF_good Hb.out m Hok.out).1
          have hlg : (atF (⟨n, nm, gs⟩ : Puzzle) tr m).log.size ≤ 2000 := by have := hgf.lg; omega
          have HL1 : Hid (1 ≤ (atF (⟨n, nm, gs⟩ : Puzzle) tr m).table.distances.length ∧ 1 ≤ (atF (⟨n, nm, gs⟩ : Puzzle) tr m).table.tracked.length) := Lib.hid ⟨by rw [hgf.ln]; exact atF_ne _ _ m, by rw [hgf.tk]; exact htl1⟩
          have HR : Hid (∀ (fpK : List Nat) (W : World), Only fpK V W → (∀ q ∈ fpK, q = g ∨ W3.heap.size ≤ q) → Only [g] w W ∧ Blk W w.heap.size [.int .i64 0, .string ⟨#[]⟩, .slice none 0 0] ∧ Blk W (w.heap.size + 1) [.slice none 0 0, .slice none 0 0, .slice none 0 0, .int .i64 0, .string ⟨#[]⟩, .int .i64 0] ∧ Blk W pb [.int .i64 n, .string nm, .slice am gs.length cm] ∧ Rd W (.slice am gs.length cm) gs fp) := Lib.hid fun fpK W hK hq => by
            have hn : ∀ b : Nat, b ≠ g → b < W3.heap.size → b ∉ fpK := fun b h1 h2 hm => (hq b hm).elim h1 (fun h3 => by omega)
            exact ⟨kV.then_ hK (fun b hb hl => by have := hq b hb; simp; omega), RV.only hK (hn _ (by omega) (by omega)), SV.only hK (hn _ (by omega) (by omega)), PV.only hK (hn _ (by omega) (by omega)), Rp.only (pz_rd hxV) hK fun b hb => hn b (by have := Hge.out b hb; omega) (by have := Hfl.out b hb; omega)⟩
          have hBw : w.heap.size + 2 ≤ W3.heap.size := by omega
          have hjB : W3.heap.size ≤ jb := by omega
          have HT4 := Lib.hid (HT.out.only K4 (fun b hb hm => by have := HT.out.fr.ge b hb; simp at hm; omega))
          have J4 := JV.only K4 (by simp; omega)
          have hjb4 : jb < Vb.heap.size := Nat.lt_of_lt_of_le hjbV K4.size
          clear hgo hgf RV SV PV hxV kV x0V x1V x2V
          have j04 := J4.cell 0 rfl; have j14 := J4.cell 1 rfl; have j24 := J4.cell 2 rfl; have j34 := J4.cell 3 rfl; have j44 := J4.cell 4 rfl; have j54 := J4.cell 5 rfl; have f04 := J4.frozen 0; have f14 := J4.frozen 1; have f24 := J4.frozen 2; have f34 := J4.frozen 3; have f44 := J4.frozen 4; have f54 := J4.frozen 5
          go_wp2_with (first
            | (go_at_call 23; (with_reducible refine (srcBelow_any g fc l 6 Vb D4 hl (by omega)).mono ?_); rintro e w6 ⟨r, rfl, r0, r1, D6, K6⟩; have J6 := J4.only K6 (by simp; omega); have j06 := J6.cell 0 rfl; have j16 := J6.cell 1 rfl; have j26 := J6.cell 2 rfl; have j36 := J6.cell 3 rfl; have j46 := J6.cell 4 rfl; have j56 := J6.cell 5 rfl; have f06 := J6.frozen 0; have f16 := J6.frozen 1; have f26 := J6.frozen 2; have f36 := J6.frozen 3; have f46 := J6.frozen 4; have f56 := J6.frozen 5; have K46 := K4.trans K6; have HT6 := Lib.hid (HT4.out.only K6 (fun b hb hm => by have := HT4.out.fr.ge b hb; simp at hm; omega)))
            | (go_at_call 24; (with_reducible refine (between_rng g fc l (-1) (((atF (⟨n, nm, gs⟩ : Puzzle) tr m).log.size : Nat) + 1) w6 D6 hl (by omega) (by omega) (by omega)).mono ?_); rintro e w7 ⟨y7, rfl, y0, y1, D7, K7⟩; have J7 := J6.only K7 (by simp; omega); have j07 := J7.cell 0 rfl; have j17 := J7.cell 1 rfl; have j27 := J7.cell 2 rfl; have j37 := J7.cell 3 rfl; have j47 := J7.cell 4 rfl; have j57 := J7.cell 5 rfl; have f07 := J7.frozen 0; have f17 := J7.frozen 1; have f27 := J7.frozen 2; have f37 := J7.frozen 3; have f47 := J7.frozen 4; have f57 := J7.frozen 5)
            | (go_at_call 34; (with_reducible refine (corrupt_any g fc l (atF (⟨n, nm, gs⟩ : Puzzle) tr m).log ⟨#[0, 1, 2]⟩ w6 D6 hl (by omega) (by decide) (by decide)).mono ?_); rintro e w7 ⟨t7, rfl, tl, D7, K7⟩; have J7 := J6.only K7 (by simp; omega); have j07 := J7.cell 0 rfl; have j17 := J7.cell 1 rfl; have j27 := J7.cell 2 rfl; have j37 := J7.cell 3 rfl; have j47 := J7.cell 4 rfl; have j57 := J7.cell 5 rfl; have f07 := J7.frozen 0; have f17 := J7.frozen 1; have f27 := J7.frozen 2; have f37 := J7.frozen 3; have f47 := J7.frozen 4; have f57 := J7.frozen 5)
            | fail "no arm")
          · go_region_law (first
            | (go_simp; go_at_call 24; (with_reducible refine (between_rng g fc l (-1) 1 _ (D6.keep (by with_reducible repeat (first | exact Only.refl _ _ | assumption | refine Only.drewN ?_ _ | refine Only.drew ?_ | refine Only.alloc ?_ _ | refine Only.trans ?_ (by assumption)))) hl (by omega) (by omega) (by omega)).mono ?_); rintro en w7 ⟨y7, rfl, y0, y1, D7, K7⟩; have K67 : Only [g] w6 w7 := Only.trans (by with_reducible repeat (first | exact Only.refl _ _ | assumption | refine Only.drewN ?_ _ | refine Only.drew ?_ | refine Only.alloc ?_ _ | refine Only.trans ?_ (by assumption))) K7; have J7 := J6.only K67 (by simp; omega); have j07 := J7.cell 0 rfl; have j17 := J7.cell 1 rfl; have j27 := J7.cell 2 rfl; have j37 := J7.cell 3 rfl; have j47 := J7.cell 4 rfl; have j57 := J7.cell 5 rfl; have f07 := J7.frozen 0; have f17 := J7.frozen 1; have f27 := J7.frozen 2; have f37 := J7.frozen 3; have f47 := J7.frozen 4; have f57 := J7.frozen 5)
            | fail "no arm")
            all_goals
              go_wp2
              go_meet
              have kq : Only [jb] w7 (w7.setCell ⟨jb, 3, none⟩ (.int .i64 (IntKind.i64.wrap ((m : Int) + y7)))) := (Only.refl _ _).setCell (by simp) _
              have T7 := (HT6.out.only K67 (fun b hb hm => by have := HT6.out.fr.ge b hb; simp at hm; omega)).only kq (fun b hb hm => Hne.out b hb (by simpa using hm))
              have K8 : Only [g, jb] V (w7.setCell ⟨jb, 3, none⟩ (.int .i64 (IntKind.i64.wrap ((m : Int) + y7)))) := ((K46.trans K67).mono (by simp)).trans (kq.mono (by simp))
              obtain ⟨q1, q2, q3, q4, q5⟩ := HR.out [g, jb] _ K8 (by simp; first | done | exact .inr hjB | omega)
              exact ⟨_, _, _, _, _, _, _, _, _, _, _, _, J7.set 3 _, T7.jt hmid hBw, (D7.only kq (by simp; omega) (fun b hb hm => by have := hfc b hb; simp at hm; omega)), q1, q2, q3, q4, q5⟩
          · go_meet
            have kq : Only [jb] w7 (w7.setCell ⟨jb, 5, none⟩ (.int .i64 y7)) := (Only.refl _ _).setCell (by simp) _
            have T7 := (HT6.out.only K7 (fun b hb hm => by have := HT6.out.fr.ge b hb; simp at hm; omega)).only kq (fun b hb hm => Hne.out b hb (by simpa using hm))
            have K8 : Only [g, jb] V (w7.setCell ⟨jb, 5, none⟩ (.int .i64 y7)) := ((K46.trans K7).mono (by simp)).trans (kq.mono (by simp))
            obtain ⟨q1, q2, q3, q4, q5⟩ := HR.out [g, jb] _ K8 (by simp; first | done | exact .inr hjB | omega)
            exact ⟨_, _, _, _, _, _, _, _, _, _, _, _, J7.set 5 _, T7.jt hmid hBw, (D7.only kq (by simp; omega) (fun b hb hm => by have := hfc b hb; simp at hm; omega)), q1, q2, q3, q4, q5⟩
          · go_meet
            have kq : Only [jb] w7 (w7.setCell ⟨jb, 4, none⟩ (.string t7)) := (Only.refl _ _).setCell (by simp) _
            have T7 := (HT6.out.only K7 (fun b hb hm => by have := HT6.out.fr.ge b hb; simp at hm; omega)).only kq (fun b hb hm => Hne.out b hb (by simpa using hm))
            have K8 : Only [g, jb] V (w7.setCell ⟨jb, 4, none⟩ (.string t7)) := ((K46.trans K7).mono (by simp)).trans (kq.mono (by simp))
            obtain ⟨q1, q2, q3, q4, q5⟩ := HR.out [g, jb] _ K8 (by simp; first | done | exact .inr hjB | omega)
            exact ⟨_, _, _, _, _, _, _, _, _, _, _, _, J7.set 4 _, T7.jt hmid hBw, (D7.only kq (by simp; omega) (fun b hb hm => by have := hfc b hb; simp at hm; omega)), q1, q2, q3, q4, q5⟩
          · obtain ⟨g3, c3, ev, hc3, hz3, hgB3, -⟩ := HT6.out.dt.put (i := 0) (Nat.lt_of_lt_of_le Nat.zero_lt_one HL1.out.1) (x := 0) (by unfold I64; omega)
            injection ev with e1' _ e3'
            subst e1'
            subst e3'
            have hl3 : 0 < (atF (⟨n, nm, gs⟩ : Puzzle) tr m).table.distances.length := by have := HL1.out.1; omega
            have hg3 : g3 ≠ g := by omega
            have hg3l : g3 < w6.heap.size := (HT6.out.dt.ownlt g3 rfl).2
            have HS := Lib.hid (HT6.out.sep.2 g3 (by simp [Value.ownBlock]))
            go_region_law (first
              | (go_simp; go_at_call 23; (with_reducible refine (srcBelow_any g fc l 2 _ (D6.keep (by with_reducible repeat (first | exact Only.refl _ _ | assumption | refine Only.drewN ?_ _ | refine Only.drew ?_ | refine Only.alloc ?_ _ | refine Only.trans ?_ (by assumption)))) hl (by omega)).mono ?_); rintro en w7 ⟨y7, rfl, y0, y1, D7, K7⟩; have K67 : Only [g] w6 w7 := Only.trans (by with_reducible repeat (first | exact Only.refl _ _ | assumption | refine Only.drewN ?_ _ | refine Only.drew ?_ | refine Only.alloc ?_ _ | refine Only.trans ?_ (by assumption))) K7; have J7 := J6.only K67 (by simp; omega); have j27 := J7.cell 2 rfl; have hc37 := K67.cell (p := ⟨g3, 0, none⟩) (by simpa using hg3) hc3; have hz37 := frozen_keep hz3 K67 hg3l (by simpa using hg3))
              | fail "no arm")
            all_goals
              go_wp2
              go_meet
              have T7 := HT6.out.only K67 (fun b hb hm => by have := HT6.out.fr.ge b hb; simp at hm; omega)
              obtain ⟨g9, c9, ev9, -, -, -, hA9⟩ := T7.dt.put (i := 0) (Nat.lt_of_lt_of_le Nat.zero_lt_one HL1.out.1) (x := y7) (by unfold I64; omega)
              injection ev9 with e1'
              injection e1' with e1'
              injection e1' with e1'
              subst e1'
              have kq : Only [g3] w7 (w7.setCell ⟨g3, 0, none⟩ (.int .i64 y7)) := (Only.refl _ _).setCell (by simp) _
              have K8 : Only [g, g3] V (w7.setCell ⟨g3, 0, none⟩ (.int .i64 y7)) := ((K46.trans K67).mono (by simp)).trans (kq.mono (by simp))
              have hJT : JT (w.heap.size + 2) (w7.setCell ⟨g3, 0, none⟩ (.int .i64 y7)) _ _ _ := jt_of (t := ⟨(atF (⟨n, nm, gs⟩ : Puzzle) tr m).table.tracked, (atF (⟨n, nm, gs⟩ : Puzzle) tr m).table.patterns, (atF (⟨n, nm, gs⟩ : Puzzle) tr m).table.distances.set 0 y7⟩) (T7.tk.only kq (fun q hq hm => HS.out.2.2 (by have : q = g3 := (by simpa using hm); subst this; simpa using hq))) (T7.pt.only kq (fun b hb hm => HS.out.2.1 (by have : b = g3 := (by simpa using hm); subst this; exact hb)) (fun q hq hm => HS.out.1 (by have : q = g3 := (by simpa using hm); subst this; simpa using hq))) (hA9) (fun b hb => T7.fr.ge b (List.mem_append_right _ (List.mem_append_left _ (List.mem_append_right _ hb)))) (⟨hmid.1, hmid.2.1, hmid.2.2.1, by show (List.set _ _ _).length ≤ _; rw [List.length_set]; exact hmid.2.2.2⟩) hBw
              obtain ⟨q1, q2, q3, q4, q5⟩ := HR.out [g, g3] _ K8 (by simp; exact .inr hgB3)
              exact ⟨_, _, _, _, _, _, _, _, _, _, _, _, J7.only kq (by simp; exact fun e => Hne.out g3 (List.mem_append_right _ (List.mem_append_right _ (by simp [Value.ownBlock]))) e.symm), hJT, D7.only kq (by simp; omega) (fun b hb hm => by have := hfc b hb; simp at hm; omega), q1, q2, q3, q4, q5⟩
          · have hA6 : AccI W2.heap.size 2 w6 (.slice av tr.length cv) tr := hAV.only K46 (fun q hq hm => by have := (hAV.ownlt q hq).1; simp at hm; omega)
            have HcC := Lib.hid (fun (W : World) (hW : Only [] w6 W) => copyInts_rd (.slice av tr.length cv) tr _ W (Rp.keep hA6.rd hW) (by omega))
            have hlen : (atF (⟨n, nm, gs⟩ : Puzzle) tr m).table.patterns.length + 1 ≤ 1073741824 := by have := hmid.2.1; omega
            have hv2 : ∀ q, (Value.slice d2 (atF (⟨n, nm, gs⟩ : Puzzle) tr m).table.patterns.length e2).ownBlock = some q → q ≠ jb ∧ W3.heap.size ≤ q ∧ q < w6.heap.size := fun q hq => ⟨Hne.out q (List.mem_append_right _ (List.mem_append_left _ (List.mem_append_left _ (by simpa using hq)))), (HT6.out.pt.ownlt q hq).1, (HT6.out.pt.ownlt q hq).2⟩
            have Hv2 := Lib.hid hv2
            have hs6 : W3.heap.size ≤ w6.heap.size := Nat.le_trans hBV K46.size
            have hjb6' : jb < w6.heap.size := Nat.lt_of_lt_of_le hjbV K46.size
            clear hv2
            go_region_law (first
              | (go_simp; go_at_call 15; (with_reducible refine (HcC.out _ (by with_reducible repeat (first | exact Only.refl _ _ | assumption | refine Only.drewN ?_ _ | refine Only.drew ?_ | refine Only.alloc ?_ _ | refine Only.trans ?_ (by assumption)))).mono ?_); rintro en w7 ⟨v7, f7, rfl, r7, F7, t7⟩; obtain ⟨a7, c7, _, _, rfl, -⟩ := r7.open_; have K67 : Only [] w6 w7 := Only.trans (by with_reducible repeat (first | exact Only.refl _ _ | assumption | refine Only.drewN ?_ _ | refine Only.drew ?_ | refine Only.alloc ?_ _ | refine Only.trans ?_ (by assumption))) t7; have J7 := J6.keep K67; have j17 := J7.cell 1 rfl; have j17a := (J7.keep ((Only.refl _ _).alloc (.cells #[.slice a7 tr.length c7] 27))).cell 1 rfl; have f17 := J7.frozen 1; have hA7 := HT6.out.pt.keep K67; have hs7 : W3.heap.size ≤ w7.heap.size := Nat.le_trans hs6 K67.size)
              | (refine step_push2w (α := List Int) rfl (.tmp 87) (.tmp 90) 24 rfl W3.heap.size 27 il _ 24 Try.underlying24 hil hl0 hl1 hl2 rfl (by decide) (by decide) w7 (.slice d2 (atF (⟨n, nm, gs⟩ : Puzzle) tr m).table.patterns.length e2) (atF (⟨n, nm, gs⟩ : Puzzle) tr m).table.patterns fs rfl hA7 (by with_reducible repeat (first | exact Only.refl _ _ | assumption | refine Only.drewN ?_ _ | refine Only.drew ?_ | refine Only.alloc ?_ _ | refine Only.trans ?_ (by assumption))) hs7 _ 1 [.slice a7 tr.length c7] tr f7 rfl (lit_src _ [.slice a7 tr.length c7] _ rfl) (by intro u hu; simp at hu; subst hu; rfl) (Rp.keep r7 (by with_reducible repeat (first | exact Only.refl _ _ | assumption | refine Only.drewN ?_ _ | refine Only.drew ?_ | refine Only.alloc ?_ _ | refine Only.trans ?_ (by assumption)))) ?hap hlen ?_; (case hap => (intro b hb he; have h1 := F7.ge b hb; have h2 := (Hv2.out b he).2.2; simp at h1; omega)); intro v9 w9 hA9 hO9 hN9; replace hO9 : Only (Value.slice d2 (atF (⟨n, nm, gs⟩ : Puzzle) tr m).table.patterns.length e2).ownBlock.toList _ w9 := hO9; obtain ⟨a9, c9, rfl⟩ := hA9.form; rw [List.length_append, List.length_singleton] at hA9 hN9; have J9 := (J7.keep (by with_reducible repeat (first | exact Only.refl _ _ | assumption | refine Only.drewN ?_ _ | refine Only.drew ?_ | refine Only.alloc ?_ _ | refine Only.trans ?_ (by assumption)))).only hO9 (fun hm => (Hv2.out jb (by simpa using hm)).1 rfl); have j19 := J9.cell 1 rfl; have f19 := J9.frozen 1; have k69 : Only (Value.slice d2 (atF (⟨n, nm, gs⟩ : Puzzle) tr m).table.patterns.length e2).ownBlock.toList w6 w9 := Only.trans (Only.weaken (K67.trans (by with_reducible repeat (first | exact Only.refl _ _ | assumption | refine Only.drewN ?_ _ | refine Only.drew ?_ | refine Only.alloc ?_ _ | refine Only.trans ?_ (by assumption)))) _) hO9)
              | fail "no arm")
            all_goals
              go_wp2
              go_meet
              have kq : Only [jb] w9 (w9.setCell ⟨jb, 1, none⟩ (.slice a9 ((atF (⟨n, nm, gs⟩ : Puzzle) tr m).table.patterns.length + 1) c9)) := (Only.refl _ _).setCell (by simp) _
              have hnew : ∀ q, (Value.slice a9 ((atF (⟨n, nm, gs⟩ : Puzzle) tr m).table.patterns.length + 1) c9).ownBlock = some q → q ≠ jb := fun q hq e => by
                rw [hq] at hN9
                rcases hN9 with e' | e'
                · exact (Hv2.out q e'.symm).1 e
                · injection e' with e'
                  have := K67.size
                  simp at e'
                  omega
              have S1 := HT6.out.sep
              have hf7 : ∀ b ∈ f7, w6.heap.size ≤ b := fun b hb => by have := F7.ge b hb; simpa using this
              have hrow : ∀ b ∈ (fs ++ [f7]).flatten, W3.heap.size ≤ b ∧ b ≠ jb := fun b hb => by
                rw [List.flatten_append] at hb
                rcases List.mem_append.1 hb with hb | hb
                · exact ⟨HT6.out.fr.ge b (List.mem_append_right _ (List.mem_append_left _ (List.mem_append_right _ hb))), Hne.out b (List.mem_append_right _ (List.mem_append_left _ (List.mem_append_right _ hb)))⟩
                · have := hf7 b (by simpa using hb)
                  exact ⟨by omega, by omega⟩
              have hJT : JT (w.heap.size + 2) (w9.setCell ⟨jb, 1, none⟩ (.slice a9 ((atF (⟨n, nm, gs⟩ : Puzzle) tr m).table.patterns.length + 1) c9)) _ _ _ := jt_of (t := ⟨(atF (⟨n, nm, gs⟩ : Puzzle) tr m).table.tracked, (atF (⟨n, nm, gs⟩ : Puzzle) tr m).table.patterns ++ [tr], (atF (⟨n, nm, gs⟩ : Puzzle) tr m).table.distances⟩) ((HT6.out.tk.only k69 (fun q hq hm => (S1.1 q (by simpa using hq)).1 hm)).only kq (fun q hq hm => Hne.out q (List.mem_append_left _ (by simpa using hq)) (by simpa using hm))) (hA9.only kq (fun b hb hm => (hrow b hb).2 (by simpa using hm)) (fun q hq hm => hnew q hq (by simpa using hm))) ((HT6.out.dt.only k69 (fun q hq hm => (S1.2 q (by simpa using hq)).1 hm)).only kq (fun q hq hm => Hne.out q (List.mem_append_right _ (List.mem_append_right _ (by simpa using hq))) (by simpa using hm))) (fun b hb => (hrow b hb).1) ⟨hmid.1, by show ((atF (⟨n, nm, gs⟩ : Puzzle) tr m).table.patterns ++ [tr]).length ≤ _; rw [List.length_append, List.length_singleton]; have := (chF_go (s := 0) Hb.out Hok.out).le; show (atF (⟨n, nm, gs⟩ : Puzzle) tr m).table.patterns.length + 1 ≤ _; have h9 : (atF (⟨n, nm, gs⟩ : Puzzle) tr m).table.patterns.length ≤ 3000 := this; omega, fun y hy => by
                rcases List.mem_append.1 hy with hy | hy
                · exact hmid.2.2.1 y hy
                · rw [List.mem_singleton.1 hy]; omega, hmid.2.2.2⟩ hBw
              have k69' : Only (g :: jb :: (Value.slice d2 (atF (⟨n, nm, gs⟩ : Puzzle) tr m).table.patterns.length e2).ownBlock.toList) w6 w9 := k69.mono (fun b hb _ => List.mem_cons_of_mem _ (List.mem_cons_of_mem _ hb))
              have K8 : Only (g :: jb :: (Value.slice d2 (atF (⟨n, nm, gs⟩ : Puzzle) tr m).table.patterns.length e2).ownBlock.toList) V (w9.setCell ⟨jb, 1, none⟩ (.slice a9 ((atF (⟨n, nm, gs⟩ : Puzzle) tr m).table.patterns.length + 1) c9)) := ((K46.mono (by simp)).trans k69').trans (kq.mono (by simp))
              obtain ⟨q1, q2, q3, q4, q5⟩ := HR.out _ _ K8 (fun q hq => by
                rcases List.mem_cons.1 hq with rfl | hq
                · exact .inl rfl
                · rcases List.mem_cons.1 hq with rfl | hq
                  · exact .inr hjB
                  · exact .inr (Hv2.out q (by simpa using hq)).2.1)
              exact ⟨_, _, _, _, _, _, _, _, _, _, _, _, J9.set 1 _, hJT, ((D6.only k69 (fun hm => by have := (Hv2.out g (by simpa using hm)).2.1; omega) (fun b hb hm => by have h1 := hfc b hb; have := (Hv2.out b (by simpa using hm)).2.1; omega))).only kq (by simp; omega) (fun b hb hm => by have := hfc b hb; simp at hm; omega), q1, q2, q3, q4, q5⟩
          · obtain ⟨g3, c3, ev, hc3, hz3, hgB3, -⟩ := HT6.out.tk.put (i := 0) (Nat.lt_of_lt_of_le Nat.zero_lt_one HL1.out.2) (x := 0) (by unfold I64; omega)
            injection ev with e1' _ e3'
            subst e1'
            subst e3'
            have hl3 : 0 < (atF (⟨n, nm, gs⟩ : Puzzle) tr m).table.tracked.length := by have := HL1.out.2; omega
            have hg3 : g3 ≠ g := by omega
            have hg3l : g3 < w6.heap.size := (HT6.out.tk.ownlt g3 rfl).2
            have HS := Lib.hid (HT6.out.sep.1 g3 (by simp [Value.ownBlock]))
            go_region_law (first
              | (go_simp; go_at_call 24; (with_reducible refine (between_rng g fc l (-1) 4 _ (D6.keep (by with_reducible repeat (first | exact Only.refl _ _ | assumption | refine Only.drewN ?_ _ | refine Only.drew ?_ | refine Only.alloc ?_ _ | refine Only.trans ?_ (by assumption)))) hl (by omega) (by omega) (by omega)).mono ?_); rintro en w7 ⟨y7, rfl, y0, y1, D7, K7⟩; have K67 : Only [g] w6 w7 := Only.trans (by with_reducible repeat (first | exact Only.refl _ _ | assumption | refine Only.drewN ?_ _ | refine Only.drew ?_ | refine Only.alloc ?_ _ | refine Only.trans ?_ (by assumption))) K7; have J7 := J6.only K67 (by simp; omega); have j27 := J7.cell 0 rfl; have hc37 := K67.cell (p := ⟨g3, 0, none⟩) (by simpa using hg3) hc3; have hz37 := frozen_keep hz3 K67 hg3l (by simpa using hg3))
              | fail "no arm")
            all_goals
              go_wp2
              go_meet
              have T7 := HT6.out.only K67 (fun b hb hm => by have := HT6.out.fr.ge b hb; simp at hm; omega)
              obtain ⟨g9, c9, ev9, -, -, -, hA9⟩ := T7.tk.put (i := 0) (Nat.lt_of_lt_of_le Nat.zero_lt_one HL1.out.2) (x := y7) (by unfold I64; omega)
              injection ev9 with e1'
              injection e1' with e1'
              injection e1' with e1'
              subst e1'
              have kq : Only [g3] w7 (w7.setCell ⟨g3, 0, none⟩ (.int .i64 y7)) := (Only.refl _ _).setCell (by simp) _
              have K8 : Only [g, g3] V (w7.setCell ⟨g3, 0, none⟩ (.int .i64 y7)) := ((K46.trans K67).mono (by simp)).trans (kq.mono (by simp))
              have hJT : JT (w.heap.size + 2) (w7.setCell ⟨g3, 0, none⟩ (.int .i64 y7)) _ _ _ := jt_of (t := ⟨(atF (⟨n, nm, gs⟩ : Puzzle) tr m).table.tracked.set 0 y7, (atF (⟨n, nm, gs⟩ : Puzzle) tr m).table.patterns, (atF (⟨n, nm, gs⟩ : Puzzle) tr m).table.distances⟩) (hA9) (T7.pt.only kq (fun b hb hm => HS.out.2.1 (by have : b = g3 := (by simpa using hm); subst this; exact hb)) (fun q hq hm => HS.out.1 (by have : q = g3 := (by simpa using hm); subst this; simpa using hq))) (T7.dt.only kq (fun q hq hm => HS.out.2.2 (by have : q = g3 := (by simpa using hm); subst this; simpa using hq))) (fun b hb => T7.fr.ge b (List.mem_append_right _ (List.mem_append_left _ (List.mem_append_right _ hb)))) (⟨by show (List.set _ _ _).length ≤ _; rw [List.length_set]; exact hmid.1, hmid.2.1, hmid.2.2.1, hmid.2.2.2⟩) hBw
              obtain ⟨q1, q2, q3, q4, q5⟩ := HR.out [g, g3] _ K8 (by simp; exact .inr hgB3)
              exact ⟨_, _, _, _, _, _, _, _, _, _, _, _, J7.only kq (by simp; exact fun e => Hne.out g3 (List.mem_append_left _ (by simp [Value.ownBlock])) e.symm), hJT, D7.only kq (by simp; omega) (fun b hb hm => by have := hfc b hb; simp at hm; omega), q1, q2, q3, q4, q5⟩
          · go_meet
            obtain ⟨q1, q2, q3, q4, q5⟩ := HR.out [g] _ K4 (by simp; first | done | exact .inr hjB | omega)
            exact ⟨_, _, _, _, _, _, _, _, _, _, _, _, J4, HT4.out.jt hmid hBw, D4, q1, q2, q3, q4, q5⟩
        case rest =>
        clear hj HX6 HA6 RV SV PV hxV kV KV hBV JV HT Hne hAV x0V x1V x2V j0V j1V j2V j3V j4V j5V DV P6 R06 R16
        obtain ⟨Vc, hnew⟩ : ∃ W, W = wc := ⟨_, rfl⟩
        subst hnew
        obtain ⟨A1, A2, A3, n1, n2, n3, C1, C2, C3, nx, sy, lg, JC, hJT, DC, kC, RC, SC, PC', rmC⟩ := hcut
        refine (show ∀ a w, Code.wp Try.prog _ _ a w → _ from by assumption) _ _ ?_
        obtain ⟨Vf, hVf, S0, S1, hD⟩ := DrJ.mk (nx := nx) (sy := sy) (lg := lg) hg hfc RC SC hn nml rmC Hge.out gl9 Gy.out Hval.out hJT DC kC
        go_upto_region 28 with fail
        have x0z := PC'.cell 0 rfl; have x1z := PC'.cell 1 rfl; have x2z := PC'.cell 2 rfl
        have a0z := RC.cell 0 rfl; have a1z := RC.cell 1 rfl; have a2z := RC.cell 2 rfl
        have b0z := RC.frozen 0; have b1z := RC.frozen 1; have b2z := RC.frozen 2
        have c0z := SC.cell 0 rfl; have c1z := SC.cell 1 rfl; have c2z := SC.cell 2 rfl; have c3z := SC.cell 3 rfl; have c4z := SC.cell 4 rfl; have c5z := SC.cell 5 rfl
        have d0z := SC.frozen 0; have d1z := SC.frozen 1; have d2z := SC.frozen 2; have d3z := SC.frozen 3; have d4z := SC.frozen 4; have d5z := SC.frozen 5
        have j0z := JC.cell 0 rfl; have j1z := JC.cell 1 rfl; have j2z := JC.cell 2 rfl; have j3z := JC.cell 3 rfl; have j4z := JC.cell 4 rfl; have j5z := JC.cell 5 rfl
        go_region_law (fail "no arm")
        all_goals
          go_wp2
          rw [← hVf]
          have x0y := S0.cell 0 rfl; have x1y := S0.cell 1 rfl; have x2y := S0.cell 2 rfl
          have c0y := S1.cell 0 rfl; have c1y := S1.cell 1 rfl; have c2y := S1.cell 2 rfl; have c3y := S1.cell 3 rfl; have c4y := S1.cell 4 rfl; have c5y := S1.cell 5 rfl
          exact bodyPost_ret (v := .tuple #[.agg #[.int .i64 n, .string nm, .slice am gs.length cm], .agg #[.slice A1 n1 C1, .slice A2 n2 C2, .slice A3 n3 C3, .int .i64 nx, .string lg, .int .i64 sy]]) (by simp [results, Try.results21, go_sem, x0y, x1y, x2y, c0y, c1y, c2y, c3y, c4y, c5y]) rfl (hD.keep (by with_reducible repeat (first | exact Only.refl _ _ | refine Only.drewN ?_ _ | refine Only.drew ?_)))
end Go.Proofs.Ytpkplmnpepkdaaa
