/- The reference's drawn puzzles, also invalid ones: drawAnyPuzzle (laws 45, 50, 55, 59). Bounds only. The reference's session operations as steps of a drawn session: bounds only (laws 50, 55). -/
import Derived.Test.YtajkhdbdkjhilaaGreatRowScrambledSessionsG18
import Derived.Deep.RegionLaw
import Derived.Test.YtajkhdbdkjhilaaGreatRowScrambledSessionsG15
import Derived.Test.YtajkhdbdkjhilaaGreatRowScrambledSessionsG16
namespace Go.Proofs.YtajkhdbdkjhilaaGreat
open Go.RowKit
set_option maxRecDepth 10000

/-- a puzzle under way in block pb: its moves can be appended to -/
def PzA (eS : TypeId) (w : World) (pb : Nat) (wx : World) (n : Int) (nm : ByteArray) (vm : Value) : Prop :=
  ∃ (gs : List (List Int)) (fs : List (List Nat)), Acc (w.heap.size + 1) eS wx vm gs fs ∧ Fresh (w.heap.size + 1) wx fs.flatten ∧ (pb ∉ vm.ownBlock.toList ∧ pb ∉ fs.flatten) ∧ (0 ≤ n ∧ n ≤ 20) ∧ nm.size ≤ 8 ∧ gs.length ≤ 8 ∧ (∀ y : List Int, y ∈ gs → y.length ≤ 30)
/-- a drawn puzzle -/
def PzR (w : World) (g : Nat) (fc : List Nat) (l : List UInt8) (e : Ending) (w' : World) : Prop := ∃ (n : Int) (nm : ByteArray) (vm : Value) (gs : List (List Int)) (fp : List Nat), e = .returned (.agg #[.int .i64 n, .string nm, vm]) ∧ I64 n ∧ nm.size ≤ 20 ∧ Rd w' vm gs fp ∧ Fresh w.heap.size w' fp ∧ gs.length ≤ 9 ∧ (∀ y : List Int, y ∈ gs → y.length ≤ 30) ∧ Src w' g fc l ∧ Only [g] w w'
theorem PzR.mk {w w' : World} {g : Nat} {fc : List Nat} {l : List UInt8} {n : Int} {nm : ByteArray} {vm : Value} {gs : List (List Int)} {fp : List Nat} (hn : I64 n) (h2 : nm.size ≤ 20) (h3 : Rd w' vm gs fp) (h4 : Fresh w.heap.size w' fp) (h5 : gs.length ≤ 9) (h6 : ∀ y : List Int, y ∈ gs → y.length ≤ 30) (D : Src w' g fc l) (k : Only [g] w w') : PzR w g fc l (.returned (.agg #[.int .i64 n, .string nm, vm])) w' := ⟨n, nm, vm, gs, fp, rfl, hn, h2, h3, h4, h5, h6, D, k⟩
theorem PzR.rep {w' : World} {n : Int} {nm : ByteArray} {vm : Value} {gs : List (List Int)} {fp : List Nat} (hn : I64 n) (h2 : nm.size ≤ 20) (h3 : Rd w' vm gs fp) : Rp.rep w' [.int .i64 n, .string nm, vm] (⟨n, nm, gs⟩ : Puzzle) fp := ⟨vm, rfl, hn, by show nm.size ≤ maxLen; unfold maxLen; omega, h3⟩
/-- three cells stored into a block of three -/
theorem Blk.set3 {V : World} {b : Nat} {x0 x1 x2 : Value} (h : Blk V b [x0, x1, x2]) (y0 y1 y2 : Value) : Blk (((V.setCell ⟨b, 0, none⟩ y0).setCell ⟨b, 1, none⟩ y1).setCell ⟨b, 2, none⟩ y2) b [y0, y1, y2] := ((h.set 0 y0).set 1 y1).set 2 y2
theorem only_set3 (V : World) (b : Nat) (y0 y1 y2 : Value) : Only [b] V (((V.setCell ⟨b, 0, none⟩ y0).setCell ⟨b, 1, none⟩ y1).setCell ⟨b, 2, none⟩ y2) := (((Only.refl _ _).setCell (by simp) _).setCell (by simp) _).setCell (by simp) _
theorem pz_fin {w V : World} {g : Nat} {fc : List Nat} {l : List UInt8} {n : Int} {nm : ByteArray} {vm : Value} {gs : List (List Int)} {fp : List Nat} (hg : g < w.heap.size) (hfc : ∀ b ∈ fc, b < w.heap.size) (hn : I64 n) (h2 : nm.size ≤ 20) (h3 : Rd V vm gs fp) (h4 : Fresh w.heap.size V fp) (hne : ∀ b ∈ fp, b ≠ w.heap.size) (h5 : gs.length ≤ 9) (h6 : ∀ y : List Int, y ∈ gs → y.length ≤ 30) (D : Src V g fc l) (k : Only [g] w V) : PzR w g fc l (.returned (.agg #[.int .i64 n, .string nm, vm])) (((V.setCell ⟨w.heap.size, 0, none⟩ (.int .i64 n)).setCell ⟨w.heap.size, 1, none⟩ (.string nm)).setCell ⟨w.heap.size, 2, none⟩ vm) := by
  have kst := only_set3 V w.heap.size (.int .i64 n) (.string nm) vm
  have hd : ∀ b ∈ fp, b ∉ [w.heap.size] := fun b hb hm => by have := hne b hb; simp at hm; omega
  exact PzR.mk hn h2 (Rp.only h3 kst hd) (h4.only kst hd) h5 h6 (D.only kst (by simp; omega) (fun b hb hm => by have := hfc b hb; simp at hm; omega)) (k.then_ kst (fun b hb hl => by simp at hb; omega))
set_option maxHeartbeats 16000000 in
theorem drawAnyPuzzle_any (g : Nat) (fc : List Nat) (l : List UInt8) (w : World) (h : Src w g fc l) (hl : l.length ≤ 4096) :
    Calls Tryz.prog 66 #[.pointer (some ⟨g, 0, none⟩)] w (PzR w g fc l) := by
  obtain ⟨i0, hi, hz0, hz1, hz2⟩ := info_parts Tryz.info22
  have hg := h.lt
  have hfc : ∀ b ∈ fc, b < w.heap.size := by obtain ⟨_, _, _, _, _, _, _, h4, _⟩ := h; exact fun b hb => Rp.lt h4 b hb
  have hB0 := Blk.new w [.int .i64 0, .string ⟨#[]⟩, .slice none 0 0] 26
  have ho : Only [] w (w.alloc (.cells #[.int .i64 0, .string ⟨#[]⟩, .slice none 0 0] 26)) := (Only.refl _ _).alloc _
  have Hsz0 : Hid ((w.alloc (.cells #[.int .i64 0, .string ⟨#[]⟩, .slice none 0 0] 26)).heap.size = w.heap.size + 1) := Lib.hid (by simp)
  go_enter Tryz.func66, Tryz.ntmps66
  go_upto_region 2 with (first
    | (go_at_call 61; (with_reducible refine (drawPuzzle_any g fc l _ (h.keep ho) hl).mono ?_); rintro e w1 ⟨n, nm, vm, rfl, hP, D1, K1⟩; obtain ⟨am, km, cm, rfl⟩ := hP.form; rw [Hsz0.out] at hP; have HP := Lib.hid hP; clear hP; have k1 : Only [g] w w1 := (ho.weaken [g]).trans K1; have s1 : w.heap.size + 1 ≤ w1.heap.size := (by have := K1.size; rw [Hsz0.out] at this; exact this); have B1 := hB0.only K1 (by simp; omega))
    | fail "no arm")
  have kal : Only [] w1 (w1.alloc (.cells #[.int .i64 n, .string nm, .slice am km cm] 26)) := (Only.refl _ _).alloc _
  have B2 := B1.keep kal
  have Pb := Blk.new w1 [.int .i64 n, .string nm, .slice am km cm] 26
  have hA : PzA 27 w w1.heap.size (w1.alloc (.cells #[.int .i64 n, .string nm, .slice am km cm] 26)) n nm (.slice am km cm) := by
    obtain ⟨gs, fs, a, b, c⟩ := HP.out
    exact ⟨gs, fs, a.keep kal, b.keep kal, ⟨fun hm => by have := (a.ownlt _ (by simpa using hm)).2; omega, fun hm => by have := b.lt _ hm; omega⟩, c⟩
  have D2 := D1.keep kal
  have k2 : Only [g] w (w1.alloc (.cells #[.int .i64 n, .string nm, .slice am km cm] 26)) := k1.alloc _
  obtain ⟨W2, hW2⟩ : ∃ W, W = w1.alloc (.cells #[.int .i64 n, .string nm, .slice am km cm] 26) := ⟨_, rfl⟩
  obtain ⟨pb, hpb⟩ : ∃ pb, pb = w1.heap.size := ⟨_, rfl⟩
  have hpb2 : w.heap.size + 1 ≤ pb := by omega
  have hpb3 : pb < W2.heap.size := by rw [hW2, hpb]; simp
  rw [← hW2] at B2 Pb hA D2 k2 ⊢
  rw [← hpb] at Pb hA ⊢
  clear hW2 HP B1 hB0 ho kal D1 K1 k1 s1 hpb
  go_cut [7] (fun s7 wx => ∃ b : Bool, s7 = .bool b ∧ Src wx g fc l ∧ Only [g] W2 wx)
  case first =>
    go_wp2_with ((go_at_call 25; (with_reducible refine (oneIn_any g fc l 20 W2 D2 hl (by omega)).mono ?_); rintro e w3 ⟨b, rfl, D3, K3⟩))
    go_meet
    exact ⟨_, rfl, D3, K3⟩
  case rest =>
    obtain ⟨W3, hnew⟩ : ∃ W, W = wc := ⟨_, rfl⟩
    subst hnew
    obtain ⟨b3, rfl, D3, K3⟩ := hcut
    refine (show ∀ a w, Code.wp Tryz.prog _ _ a w → _ from by assumption) _ _ ?_
    go_cut [] (fun wx => ∃ (n : Int) (nm : ByteArray) (am : Option Addr) (km cm : Nat), Blk wx w.heap.size [.int .i64 0, .string ⟨#[]⟩, .slice none 0 0] ∧ Blk wx pb [.int .i64 n, .string nm, .slice am km cm] ∧ PzA 27 w pb wx n nm (.slice am km cm) ∧ Src wx g fc l ∧ Only [g] w wx ∧ pb < wx.heap.size)
    case first =>
      have B3 := B2.only K3 (by simp; omega)
      have P3 := Pb.only K3 (by simp; omega)
      have k3 := k2.trans K3
      have hp3 : pb < W3.heap.size := Nat.lt_of_lt_of_le hpb3 K3.size
      cases b3
      · have hA3 : PzA 27 w pb W3 n nm (.slice am km cm) := by
          obtain ⟨gs, fs, a, b, c⟩ := hA
          exact ⟨gs, fs, a.only K3 (fun q hq hm => by have := b.ge q hq; simp at hm; omega) (fun q hq hm => by have := (a.ownlt q hq).1; simp at hm; omega), b.only K3 (fun q hq hm => by have := b.ge q hq; simp at hm; omega), c⟩
        go_wp2
        go_meet
        exact ⟨n, nm, am, km, cm, B3, P3, hA3, D3, k3, hp3⟩
      · go_wp2_with (first
          | (go_at_call 52; (with_reducible refine (srcBelow_any g fc l 6 W3 D3 hl (by omega)).mono ?_); rintro e w4 ⟨r, rfl, r0, r1, D4, K4⟩; have B4 := B3.only K4 (by simp; omega); have P4 := P3.only K4 (by simp; omega); have hr5 : r ≤ 5 := (by omega))
          | (go_at_call 106; (with_reducible refine (knownPuzzle_any r w4 r0 hr5).mono ?_); rintro e w5 ⟨n5, nm5, vm5, b5, rfl, hP, t5⟩; obtain ⟨a5, m5, c5, rfl⟩ := hP.form; have HP := Lib.hid hP; clear hP; have P5 := P4.keep t5; have g0 := P5.cell 0 rfl; have g1 := P5.cell 1 rfl; have g2 := P5.cell 2 rfl; have p0 := P5.frozen 0; have p1 := P5.frozen 1; have p2 := P5.frozen 2)
          | fail "no arm")
        go_meet
        have kst := only_set3 w5 pb (.int .i64 n5) (.string nm5) (.slice a5 m5 c5)
        have B5 := (B4.keep t5).only kst (by simp; omega)
        have P6 := P5.set3 (.int .i64 n5) (.string nm5) (.slice a5 m5 c5)
        have hs4 := K4.size
        have hs5 := t5.size
        refine ⟨n5, nm5, a5, m5, c5, B5, P6, ?_, (D4.keep t5).only kst (by simp; omega) (fun b hb hm => by have := hfc b hb; simp at hm; omega), ((k3.trans K4).trans (t5.weaken _)).then_ kst (fun b hb hl => by simp at hb; omega), Nat.lt_of_lt_of_le (by omega : pb < w5.heap.size) kst.size⟩
        obtain ⟨gs, fs, a, b, c⟩ := HP.out
        exact ⟨gs, fs, (a.only kst (fun q hq hm => by have := b.ge q hq; simp at hm; omega) (fun q hq hm => by have := (a.ownlt q hq).1; simp at hm; omega)).low3 (by omega), (b.only kst (fun q hq hm => by have := b.ge q hq; simp at hm; omega)).mono (by omega), ⟨fun hm => by have := (a.ownlt _ (by simpa using hm)).1; omega, fun hm => by have := b.ge _ hm; omega⟩, c⟩
    case rest =>
      obtain ⟨W4, hnew⟩ : ∃ W, W = wc := ⟨_, rfl⟩
      subst hnew
      clear B2 Pb hA D2 k2 hpb3 D3 K3
      obtain ⟨n, nm, am, km, cm, B4, P4, hA, D4, k4, hp4⟩ := hcut
      refine (show ∀ a w, Code.wp Tryz.prog _ _ a w → _ from by assumption) _ _ ?_
      obtain ⟨gs, fs, cA, cF, ⟨cv, cf⟩, ⟨n0, n20⟩, nml, gsl, gs30⟩ := hA
      obtain ⟨am', cm', ev⟩ := cA.form
      injection ev with e1 e2 e3
      subst e1
      subst e2
      subst e3
      have hfd : ∀ q ∈ fs.flatten, q ∉ [g] := fun q hq hm => by have := cF.ge q hq; simp at hm; omega
      have hvd : ∀ q, (Value.slice am gs.length cm).ownBlock = some q → q ∉ [g] := fun q hq hm => by have := (cA.ownlt q hq).1; simp at hm; omega
      have Gs30 := Lib.hid gs30
      have Hcv := Lib.hid cv
      have Hcf := Lib.hid cf
      have Hfd := Lib.hid hfd
      have Hvd := Lib.hid hvd
      have HA := Lib.hid cA
      clear gs30 cv cf hfd hvd cA
      have hOk : ∀ V, Only [g] W4 V → Rd V (.slice am gs.length cm) gs ((Value.slice am gs.length cm).ownBlock.toList ++ fs.flatten) ∧ Fresh (w.heap.size + 1) V ((Value.slice am gs.length cm).ownBlock.toList ++ fs.flatten) := fun V hV => by
        have hA := HA.out.only hV Hfd.out Hvd.out
        have hF := cF.only hV Hfd.out
        exact ⟨hA.rd (by decide), hA.fresh hF⟩
      have HOk := Lib.hid hOk
      clear hOk
      go_wp2_with (first
        | (go_at_call 25; (with_reducible refine (oneIn_any g fc l 15 W4 D4 hl (by omega)).mono ?_); rintro e w5 ⟨b5, rfl, D5, K5⟩; have B5 := B4.only K5 (by simp; omega); have P5 := P4.only K5 (by simp; omega); have x05 := P5.cell 0 rfl; have x15 := P5.cell 1 rfl; have x25 := P5.cell 2 rfl; have p05 := P5.frozen 0; have p15 := P5.frozen 1; have p25 := P5.frozen 2; have g05 := B5.cell 0 rfl; have g15 := B5.cell 1 rfl; have g25 := B5.cell 2 rfl; have q05 := B5.frozen 0; have q15 := B5.frozen 1; have q25 := B5.frozen 2)
        | (go_at_call 52; (with_reducible refine (srcBelow_any g fc l 4 w5 D5 hl (by omega)).mono ?_); rintro e w6 ⟨r, rfl, r0, r1, D6, K6⟩; have B6 := B5.only K6 (by simp; omega); have P6 := P5.only K6 (by simp; omega); have x06 := P6.cell 0 rfl; have x16 := P6.cell 1 rfl; have x26 := P6.cell 2 rfl; have p06 := P6.frozen 0; have p16 := P6.frozen 1; have p26 := P6.frozen 2; have g06 := B6.cell 0 rfl; have g16 := B6.cell 1 rfl; have g26 := B6.cell 2 rfl; have q06 := B6.frozen 0; have q16 := B6.frozen 1; have q26 := B6.frozen 2)
        | (go_at_call 112; (with_reducible refine (corrupt_any g fc l nm ⟨#[65, 66, 97]⟩ w6 D6 hl (by omega) (by decide) (by decide)).mono ?_); rintro e w7 ⟨t7, rfl, tl, D7, K7⟩; have B7 := B6.only K7 (by simp; omega); have P7 := P6.only K7 (by simp; omega); have x07 := P7.cell 0 rfl; have x17 := P7.cell 1 rfl; have x27 := P7.cell 2 rfl; have p07 := P7.frozen 0; have p17 := P7.frozen 1; have p27 := P7.frozen 2; have g07 := B7.cell 0 rfl; have g17 := B7.cell 1 rfl; have g27 := B7.cell 2 rfl; have q07 := B7.frozen 0; have q17 := B7.frozen 1; have q27 := B7.frozen 2)
        | (go_at_call 111; (with_reducible refine (numberUpTo_any g fc l 20 w6 D6 hl (by unfold I64; omega)).mono ?_); rintro e w7 ⟨y7, rfl, hy7, D7, K7⟩; have B7 := B6.only K7 (by simp; omega); have P7 := P6.only K7 (by simp; omega); have x07 := P7.cell 0 rfl; have x17 := P7.cell 1 rfl; have x27 := P7.cell 2 rfl; have p07 := P7.frozen 0; have p17 := P7.frozen 1; have p27 := P7.frozen 2; have g07 := B7.cell 0 rfl; have g17 := B7.cell 1 rfl; have g27 := B7.cell 2 rfl; have q07 := B7.frozen 0; have q17 := B7.frozen 1; have q27 := B7.frozen 2; have Hy7 := Lib.hid hy7; clear hy7)
        | fail "no arm")
      · have kst : Only [pb] w7 (w7.setCell ⟨pb, 1, none⟩ (.string t7)) := (Only.refl _ _).setCell (by simp) _
        have K47 := K5.trans (K6.trans K7)
        obtain ⟨hR, hF⟩   := HOk.out w7 K47
        have hd : ∀ b ∈ (Value.slice am gs.length cm).ownBlock.toList ++ fs.flatten, b ∉ [pb] := fun b hb hm => by
          simp only [List.mem_singleton] at hm
          subst hm
          rcases List.mem_append.1 hb with hb | hb
          · exact Hcv.out hb
          · exact Hcf.out hb
        have Yf := (B7.only kst (by simp; omega)).set3 (.int .i64 n) (.string t7) (.slice am gs.length cm)
        have r0f := Yf.cell 0 rfl
        have r1f := Yf.cell 1 rfl
        have r2f := Yf.cell 2 rfl
        exact bodyPost_ret (v := .agg #[.int .i64 n, .string t7, .slice am gs.length cm]) (by simp [results, Tryz.results66, go_sem, r0f, r1f, r2f]) rfl (pz_fin hg hfc (by unfold I64; omega) (by omega) (Rp.only hR kst hd) ((hF.only kst hd).mono (by omega)) (fun b hb => by have := hF.ge b hb; omega) (by omega) Gs30.out (D7.only kst (by simp; omega) (fun b hb hm => by have := hfc b hb; simp at hm; omega)) ((k4.trans K47).then_ kst (fun b hb hl => by simp at hb; omega)))
      · have kst : Only [pb] w7 (w7.setCell ⟨pb, 0, none⟩ (.int .i64 y7)) := (Only.refl _ _).setCell (by simp) _
        have K47 := K5.trans (K6.trans K7)
        obtain ⟨hR, hF⟩   := HOk.out w7 K47
        have hd : ∀ b ∈ (Value.slice am gs.length cm).ownBlock.toList ++ fs.flatten, b ∉ [pb] := fun b hb hm => by
          simp only [List.mem_singleton] at hm
          subst hm
          rcases List.mem_append.1 hb with hb | hb
          · exact Hcv.out hb
          · exact Hcf.out hb
        have Yf := (B7.only kst (by simp; omega)).set3 (.int .i64 y7) (.string nm) (.slice am gs.length cm)
        have r0f := Yf.cell 0 rfl
        have r1f := Yf.cell 1 rfl
        have r2f := Yf.cell 2 rfl
        exact bodyPost_ret (v := .agg #[.int .i64 y7, .string nm, .slice am gs.length cm]) (by simp [results, Tryz.results66, go_sem, r0f, r1f, r2f]) rfl (pz_fin hg hfc Hy7.out (by omega) (Rp.only hR kst hd) ((hF.only kst hd).mono (by omega)) (fun b hb => by have := hF.ge b hb; omega) (by omega) Gs30.out (D7.only kst (by simp; omega) (fun b hb hm => by have := hfc b hb; simp at hm; omega)) ((k4.trans K47).then_ kst (fun b hb hl => by simp at hb; omega)))
      · have kst := only_set3 w6 pb (.int .i64 0) (.string ⟨#[]⟩) (.slice none 0 0)
        have Yf := (B6.only kst (by simp; omega)).set3 (.int .i64 0) (.string ⟨#[]⟩) (.slice none 0 0)
        have r0f := Yf.cell 0 rfl
        have r1f := Yf.cell 1 rfl
        have r2f := Yf.cell 2 rfl
        exact bodyPost_ret (v := .agg #[.int .i64 0, .string ⟨#[]⟩, .slice none 0 0]) (by simp [results, Tryz.results66, go_sem, r0f, r1f, r2f]) rfl (pz_fin hg hfc (by unfold I64; omega) (by decide) (nil_rd (α := List Int) _) (Fresh.nil _ _) (by simp) (by simp) (by simp) (D6.only kst (by simp; omega) (fun b hb hm => by have := hfc b hb; simp at hm; omega)) ((k4.trans (K5.trans K6)).then_ kst (fun b hb hl => by simp at hb; omega)))
      · have HcP : Hid (∀ V, Src V g fc l → Calls Tryz.prog 65 #[.pointer (some ⟨g, 0, none⟩), .int .i64 4] V fun e w' => ∃ v, ∃ p : List Int, ∃ fp, e = .returned v ∧ Rd w' v p fp ∧ Fresh V.heap.size w' fp ∧ p.length ≤ 25 ∧ Src w' g fc l ∧ Only [g] V w') := Lib.hid (fun V D => drawAny_any g fc l 4 V D hl (by decide))
        have hlen : gs.length + 1 ≤ 1073741824 := by omega
        have K46 := K5.trans K6
        have hs6 : w.heap.size + 1 ≤ w6.heap.size := Nat.le_trans hpb2 (Nat.le_of_lt (Nat.lt_of_lt_of_le hp4 K46.size))
        go_region_law (first
          | (go_simp; go_at_call 65; (with_reducible refine (HcP.out _ (D6.keep (by with_reducible repeat (first | exact Only.refl _ _ | assumption | refine Only.drewN ?_ _ | refine Only.drew ?_ | refine Only.alloc ?_ _ | refine Only.trans ?_ (by assumption))))).mono ?_); rintro en w7 ⟨v7, p7, f7, rfl, r7, F7, l7, D7, K7⟩; obtain ⟨a7, c7, rfl, -⟩ := Rd.ints r7; have B7 := (B6.keep (by with_reducible repeat (first | exact Only.refl _ _ | assumption | refine Only.drewN ?_ _ | refine Only.drew ?_ | refine Only.alloc ?_ _ | refine Only.trans ?_ (by assumption)))).only K7 (by simp; omega); have P7 := (P6.keep (by with_reducible repeat (first | exact Only.refl _ _ | assumption | refine Only.drewN ?_ _ | refine Only.drew ?_ | refine Only.alloc ?_ _ | refine Only.trans ?_ (by assumption)))).only K7 (by simp; omega); have x27 := P7.cell 2 rfl; have p27 := P7.frozen 2; have x27a := (P7.keep ((Only.refl _ _).alloc (.cells #[.slice a7 p7.length c7] 27))).cell 2 rfl; have K67 : Only [g] w6 w7 := Only.trans (by with_reducible repeat (first | exact Only.refl _ _ | assumption | refine Only.drewN ?_ _ | refine Only.drew ?_ | refine Only.alloc ?_ _ | refine Only.trans ?_ (by assumption))) K7; have hA7 := HA.out.only (K46.trans K67) Hfd.out Hvd.out; have hs7 : w.heap.size + 1 ≤ w7.heap.size := Nat.le_trans hs6 K67.size)
          | (refine step_push2w (α := List Int) rfl (.tmp 36) (.tmp 39) 24 rfl (w.heap.size + 1) 27 i0 _ 24 Tryz.underlying24 hi hz0 hz1 hz2 rfl (by decide) (by decide) w7 (.slice am gs.length cm) gs fs rfl hA7 (by with_reducible repeat (first | exact Only.refl _ _ | assumption | refine Only.drewN ?_ _ | refine Only.drew ?_ | refine Only.alloc ?_ _ | refine Only.trans ?_ (by assumption))) hs7 _ 1 [.slice a7 p7.length c7] p7 f7 rfl (lit_src _ [.slice a7 p7.length c7] _ rfl) (by intro u hu; simp at hu; subst hu; rfl) (Rp.keep r7 (by with_reducible repeat (first | exact Only.refl _ _ | assumption | refine Only.drewN ?_ _ | refine Only.drew ?_ | refine Only.alloc ?_ _ | refine Only.trans ?_ (by assumption)))) ?hap hlen ?_; (case hap => (intro b hb he; have h1 := F7.ge b hb; have h2 := (HA.out.ownlt b he).2; have h3 := K46.size; simp at h1; omega)); intro v9 w9 hA9 hO9 hN9; obtain ⟨a9, c9, rfl⟩ := hA9.form; rw [List.length_append, List.length_singleton] at hA9 hN9; have P9 := (P7.keep (by with_reducible repeat (first | exact Only.refl _ _ | assumption | refine Only.drewN ?_ _ | refine Only.drew ?_ | refine Only.alloc ?_ _ | refine Only.trans ?_ (by assumption)))).only hO9 Hcv.out; have B9 := (B7.keep (by with_reducible repeat (first | exact Only.refl _ _ | assumption | refine Only.drewN ?_ _ | refine Only.drew ?_ | refine Only.alloc ?_ _ | refine Only.trans ?_ (by assumption)))).only hO9 (fun hm => by have := (HA.out.ownlt _ (by simpa using hm)).1; omega); have F9 := (push_facts (w := w) (W := w6) ((HA.out.only K46 Hfd.out Hvd.out).low3 (by omega)) ((cF.only K46 Hfd.out).mono (by omega)) (k4.trans K46) K67 (F7.mono (by simp)) D7 hg hfc (by with_reducible repeat (first | exact Only.refl _ _ | assumption | refine Only.drewN ?_ _ | refine Only.drew ?_ | refine Only.alloc ?_ _ | refine Only.trans ?_ (by assumption))) hO9).1; have D9 := (D7.keep (by with_reducible repeat (first | exact Only.refl _ _ | assumption | refine Only.drewN ?_ _ | refine Only.drew ?_ | refine Only.alloc ?_ _ | refine Only.trans ?_ (by assumption)))).only hO9 (fun hm => by have := (HA.out.ownlt _ (by simpa using hm)).1; omega) (fun b hb hm => by have h1 := hfc b hb; have := (HA.out.ownlt _ (by simpa using hm)).1; omega); have k9 : Only [g] w w9 := Only.then_ (show Only [g] w _ from Only.trans (k4.trans (K46.trans K67)) (by with_reducible repeat (first | exact Only.refl _ _ | assumption | refine Only.drewN ?_ _ | refine Only.drew ?_ | refine Only.alloc ?_ _ | refine Only.trans ?_ (by assumption)))) hO9 (fun b hb hl => by have := (HA.out.ownlt b (by simpa using hb)).1; omega); have x09 := P9.cell 0 rfl; have x19 := P9.cell 1 rfl; have x29 := P9.cell 2 rfl; have p09 := P9.frozen 0; have p19 := P9.frozen 1; have p29 := P9.frozen 2; have g09 := B9.cell 0 rfl; have g19 := B9.cell 1 rfl; have g29 := B9.cell 2 rfl; have q09 := B9.frozen 0; have q19 := B9.frozen 1; have q29 := B9.frozen 2)
          | fail "no arm")
        all_goals
          go_wp2
          have kst : Only [pb] w9 (w9.setCell ⟨pb, 2, none⟩ (.slice a9 (gs.length + 1) c9)) := (Only.refl _ _).setCell (by simp) _
          have hown : ∀ b, (Value.slice a9 (gs.length + 1) c9).ownBlock = some b → b ≠ pb ∧ b ≠ w.heap.size := fun b hb => by
            rw [hb] at hN9
            rcases hN9 with e | e
            · have h1 := (HA.out.ownlt b e.symm).1
              refine ⟨fun e2 => Hcv.out (by rw [← e2]; simpa using e.symm), by omega⟩
            · injection e with e
              have h1 := K46.size
              have h2 := K67.size
              simp at e
              refine ⟨by omega, by omega⟩
          have hrows : ∀ b ∈ (fs ++ [f7]).flatten, b ≠ pb ∧ b ≠ w.heap.size := fun b hb => by
            rw [List.flatten_append] at hb
            rcases List.mem_append.1 hb with hb | hb
            · exact ⟨fun e2 => Hcf.out (by rw [← e2]; exact hb), by have := cF.ge b hb; omega⟩
            · have h1 := F7.ge b (by simpa using hb)
              have h2 := K46.size
              simp at h1
              exact ⟨by omega, by omega⟩
          have hall : ∀ b ∈ (Value.slice a9 (gs.length + 1) c9).ownBlock.toList ++ (fs ++ [f7]).flatten, b ≠ pb ∧ b ≠ w.heap.size := fun b hb => by
            rcases List.mem_append.1 hb with hb | hb
            · exact hown b (by simpa using hb)
            · exact hrows b hb
          have hd : ∀ b ∈ (Value.slice a9 (gs.length + 1) c9).ownBlock.toList ++ (fs ++ [f7]).flatten, b ∉ [pb] := fun b hb hm => (hall b hb).1 (by simpa using hm)
          have hR := hA9.rd (by decide)
          have hF := (hA9.low3 (show w.heap.size ≤ w.heap.size + 1 by omega)).fresh F9
          have Yf := (B9.only kst (by simp; omega)).set3 (.int .i64 n) (.string nm) (.slice a9 (gs.length + 1) c9)
          have r0f := Yf.cell 0 rfl
          have r1f := Yf.cell 1 rfl
          have r2f := Yf.cell 2 rfl
          have hg30 : ∀ y : List Int, y ∈ gs ++ [p7] → y.length ≤ 30 := fun y hy => by
            rcases List.mem_append.1 hy with hy | hy
            · exact Gs30.out y hy
            · rw [List.mem_singleton.1 hy]; omega
          exact bodyPost_ret (v := .agg #[.int .i64 n, .string nm, .slice a9 (gs.length + 1) c9]) (by simp [results, Tryz.results66, go_sem, r0f, r1f, r2f]) rfl (pz_fin (gs := gs ++ [p7]) hg hfc (by unfold I64; omega) (by omega) (Rp.only hR kst hd) (hF.only kst hd) (fun b hb => (hall b hb).2) (by rw [List.length_append, List.length_singleton]; omega) hg30 (D9.only kst (by simp; omega) (fun b hb hm => by have := hfc b hb; simp at hm; omega)) (k9.then_ kst (fun b hb hl => by simp at hb; omega)))
      · obtain ⟨hR, hF⟩   := HOk.out w5 K5
        have Yf := (B5).set3 (.int .i64 n) (.string nm) (.slice am gs.length cm)
        have r0f := Yf.cell 0 rfl
        have r1f := Yf.cell 1 rfl
        have r2f := Yf.cell 2 rfl
        exact bodyPost_ret (v := .agg #[.int .i64 n, .string nm, .slice am gs.length cm]) (by simp [results, Tryz.results66, go_sem, r0f, r1f, r2f]) rfl (pz_fin hg hfc (by unfold I64; omega) (by omega) hR (hF.mono (by omega)) (fun b hb => by have := hF.ge b hb; omega) (by omega) Gs30.out D5 (k4.trans K5))
end Go.Proofs.YtajkhdbdkjhilaaGreat

namespace Go.Proofs.YtajkhdbdkjhilaaGreat
open Go.RowKit
set_option maxRecDepth 10000

/-- a session with few words on points of a puzzle -/
def Small (k : Nat) (x : Session) : Prop := x.history.length ≤ k ∧ x.future.length ≤ k ∧ 0 ≤ x.puzzle.points ∧ x.puzzle.points ≤ 20 ∧ x.puzzle.moves.length ≤ 8
theorem Small.mono {k k' : Nat} {x : Session} (h : Small k x) (hk : k ≤ k') : Small k' x := ⟨by have := h.1; omega, by have := h.2.1; omega, h.2.2.1, h.2.2.2⟩
theorem Small.no (k : Nat) : Small k noSess := ⟨Nat.zero_le _, Nat.zero_le _, by show (0 : Int) ≤ 0; omega, by show (0 : Int) ≤ 20; omega, by show (0 : Nat) ≤ 8; omega⟩
/-- what a step leaves -/
def SeStep (eI : TypeId) (k : Nat) (w : World) (e : Ending) (w' : World) : Prop :=
  ∃ (x' : Session) (A2 A3 A4 A5 : Option Addr) (C2 C3 C4 C5 : Nat) (b : Bool) (fm fs : List Nat) (hs us : List (List Nat)), e = .returned (.tuple #[.agg #[.int .i64 x'.puzzle.points, .string x'.puzzle.names, .slice A2 x'.puzzle.moves.length C2, .slice A3 x'.state.length C3, .slice A4 x'.history.length C4, .slice A5 x'.future.length C5], .bool b]) ∧
    SeP eI w.heap.size w' x' (.slice A2 x'.puzzle.moves.length C2) (.slice A3 x'.state.length C3) (.slice A4 x'.history.length C4) (.slice A5 x'.future.length C5) fm fs hs us ∧ Small k x' ∧ Only [] w w'
theorem SeStep.of {eI : TypeId} {k : Nat} {x' : Session} {b : Bool} {w w' : World} {e : Ending} (h : SeResA eI x' b w e w') (hk : Small k x') : SeStep eI k w e w' := by
  obtain ⟨vm, vs, vh, vf, fm, fs, hs, us, rfl, hP, hO⟩ := h
  obtain ⟨A2, C2, _, _, rfl, -, -⟩ := Rd.open_ hP.mv
  obtain ⟨A3, C3, _, _, rfl, -, -⟩ := Rd.open_ hP.st
  obtain ⟨A4, C4, rfl⟩ := hP.hi.form
  obtain ⟨A5, C5, rfl⟩ := hP.fu.form
  exact ⟨x', A2, A3, A4, A5, C2, C3, C4, C5, b, fm, fs, hs, us, rfl, hP, hk, hO⟩
theorem pushW_le (l : List (List Int)) (y : List Int) : (pushW l y).length ≤ l.length + 1 := by
  unfold pushW
  split
  · rw [List.length_drop, List.length_append, List.length_singleton]; omega
  · rw [List.length_append, List.length_singleton]; exact Nat.le_refl _
theorem undo_step (cs : List Value) (x : Session) (fp : List Nat) (k : Nat) (w : World) (h : Rp.rep w cs x fp) (hk : Small k x) (h38 : k ≤ 38) :
    Calls Tryz.prog 62 #[.agg cs.toArray] w (SeStep 27 (k + 1) w) := by
  rcases hq : validSe x
  · exact (specUndoWord_noA cs x fp w h hq).mono fun e w' hr => SeStep.of hr (Small.no _)
  · by_cases hw : x.history.length = 0
    · exact (specUndoWord_badA cs x fp w h hq hw).mono fun e w' hr => SeStep.of hr (hk.mono (by omega))
    · exact (specUndoWord_yesA cs x fp w h hq hw (by have := hk.2.1; omega)).mono fun e w' hr => SeStep.of hr ⟨by
        show (restW x.history).length ≤ k + 1
        rw [restW_len]; have := hk.1; omega, by
        show (pushW x.future (lastW x.history)).length ≤ k + 1
        have := pushW_le x.future (lastW x.history); have := hk.2.1; omega, hk.2.2.1, hk.2.2.2⟩
theorem redo_step (cs : List Value) (x : Session) (fp : List Nat) (k : Nat) (w : World) (h : Rp.rep w cs x fp) (hk : Small k x) (h38 : k ≤ 38) :
    Calls Tryz.prog 63 #[.agg cs.toArray] w (SeStep 27 (k + 1) w) := by
  rcases hq : validSe x
  · exact (specRedoWord_noA cs x fp w h hq).mono fun e w' hr => SeStep.of hr (Small.no _)
  · by_cases hw : x.future.length = 0
    · exact (specRedoWord_badA cs x fp w h hq hw).mono fun e w' hr => SeStep.of hr (hk.mono (by omega))
    · exact (specRedoWord_yesA cs x fp w h hq hw (by have := hk.1; omega)).mono fun e w' hr => SeStep.of hr ⟨by
        show (pushW x.history (lastW x.future)).length ≤ k + 1
        have := pushW_le x.history (lastW x.future); have := hk.1; omega, by
        show (restW x.future).length ≤ k + 1
        rw [restW_len]; have := hk.2.1; omega, hk.2.2.1, hk.2.2.2⟩
theorem play_step (cs : List Value) (x : Session) (fp : List Nat) (vl : Value) (l : List Int) (fl : List Nat) (k : Nat) (w : World) (h : Rp.rep w cs x fp) (hl : Rd w vl l fl) (hk : Small k x) (h38 : k ≤ 38) :
    Calls Tryz.prog 8 #[.agg cs.toArray, vl] w (SeStep 27 (k + 1) w) := by
  rcases hq : validSe x
  · exact (specPlayWord_noA cs x fp vl l fl w h hl hq).mono fun e w' hr => SeStep.of hr (Small.no _)
  · rcases hw : validW x.puzzle.moves.length l
    · exact (specPlayWord_badA cs x fp vl l fl w h hl hq hw).mono fun e w' hr => SeStep.of hr (hk.mono (by omega))
    · exact (specPlayWord_yesA cs x fp vl l fl w h hl hq hw (by have := hk.1; omega)).mono fun e w' hr => SeStep.of hr ⟨by
        show (pushW x.history l).length ≤ k + 1
        have := pushW_le x.history l; have := hk.1; omega, by
        show (0 : Nat) ≤ k + 1
        omega, hk.2.2.1, hk.2.2.2⟩
theorem scramble_step (cs : List Value) (x : Session) (fp : List Nat) (seed : Int) (k : Nat) (w : World) (h : Rp.rep w cs x fp) (hs : I64 seed) (hk : Small k x) :
    Calls Tryz.prog 64 #[.agg cs.toArray, .int .i64 seed] w (SeStep 27 (k + 1) w) := by
  refine (specScramble_anyA cs x fp seed w h hs).mono fun e w' hr => SeStep.of hr ?_
  unfold scrS
  split
  · exact ⟨Nat.zero_le _, Nat.zero_le _, hk.2.2.1, hk.2.2.2⟩
  · exact Small.no _
theorem new_step (cs : List Value) (x : Puzzle) (fp : List Nat) (w : World) (h : Rp.rep w cs x fp) :
    Calls Tryz.prog 60 #[.agg cs.toArray] w (SeStep 27 0 w) := by
  refine (specNewSession_anyA cs x fp w h).mono fun e w' hr => SeStep.of hr ?_
  unfold newSess
  split
  · rename_i hv
    obtain ⟨g1, g2, g3, -⟩ := validPz_gens hv
    exact ⟨Nat.zero_le _, Nat.zero_le _, by show (0 : Int) ≤ x.points; omega, g2, g3⟩
  · exact Small.no _
/-- six cells stored into a block of six -/
theorem Blk.set6 {V : World} {b : Nat} {x0 x1 x2 x3 x4 x5 : Value} (h : Blk V b [x0, x1, x2, x3, x4, x5]) (y0 y1 y2 y3 y4 y5 : Value) : Blk ((((((V.setCell ⟨b, 0, none⟩ y0).setCell ⟨b, 1, none⟩ y1).setCell ⟨b, 2, none⟩ y2).setCell ⟨b, 3, none⟩ y3).setCell ⟨b, 4, none⟩ y4).setCell ⟨b, 5, none⟩ y5) b [y0, y1, y2, y3, y4, y5] := (((((h.set 0 y0).set 1 y1).set 2 y2).set 3 y3).set 4 y4).set 5 y5
theorem only_set6 (V : World) (b : Nat) (y0 y1 y2 y3 y4 y5 : Value) : Only [b] V ((((((V.setCell ⟨b, 0, none⟩ y0).setCell ⟨b, 1, none⟩ y1).setCell ⟨b, 2, none⟩ y2).setCell ⟨b, 3, none⟩ y3).setCell ⟨b, 4, none⟩ y4).setCell ⟨b, 5, none⟩ y5) := ((((((Only.refl _ _).setCell (by simp) _).setCell (by simp) _).setCell (by simp) _).setCell (by simp) _).setCell (by simp) _).setCell (by simp) _
/-- the drawn session under way: in block sb, its memory from block base on -/
def DSe (eI : TypeId) (base sb k : Nat) (wx : World) : Prop :=
  ∃ (x : Session) (A2 A3 A4 A5 : Option Addr) (C2 C3 C4 C5 : Nat) (fm fs : List Nat) (hs us : List (List Nat)), Blk wx sb [.int .i64 x.puzzle.points, .string x.puzzle.names, .slice A2 x.puzzle.moves.length C2, .slice A3 x.state.length C3, .slice A4 x.history.length C4, .slice A5 x.future.length C5] ∧
    SeP eI base wx x (.slice A2 x.puzzle.moves.length C2) (.slice A3 x.state.length C3) (.slice A4 x.history.length C4) (.slice A5 x.future.length C5) fm fs hs us ∧
    (∀ b ∈ fm ++ (fs ++ (((Value.slice A4 x.history.length C4).ownBlock.toList ++ hs.flatten) ++ ((Value.slice A5 x.future.length C5).ownBlock.toList ++ us.flatten))), b ≠ sb) ∧ Small k x
theorem DSe.only {eI : TypeId} {base sb k : Nat} {w w' : World} {fp : List Nat} (h : DSe eI base sb k w) (ho : Only fp w w') (hd : ∀ b ∈ fp, b < base) (hs : sb ∉ fp) : DSe eI base sb k w' := by
  obtain ⟨x, A2, A3, A4, A5, C2, C3, C4, C5, fm, fs, hs', us, hB, hP, hn, hk⟩ := h
  exact ⟨x, A2, A3, A4, A5, C2, C3, C4, C5, fm, fs, hs', us, hB.only ho hs, hP.only ho (fun b hb => .inl (hd b hb)), hn, hk⟩
/-- a step stored -/
theorem DSe.store {eI : TypeId} {base sb k : Nat} {w0 V : World} {x : Session} {A2 A3 A4 A5 : Option Addr} {C2 C3 C4 C5 : Nat} {fm fs : List Nat} {hs us : List (List Nat)} {z0 z1 z2 z3 z4 z5 : Value} (hB : Blk V sb [z0, z1, z2, z3, z4, z5])
    (hP : SeP eI w0.heap.size V x (.slice A2 x.puzzle.moves.length C2) (.slice A3 x.state.length C3) (.slice A4 x.history.length C4) (.slice A5 x.future.length C5) fm fs hs us) (hk : Small k x) (hb : base ≤ w0.heap.size) (hs0 : sb < w0.heap.size) :
    DSe eI base sb k ((((((V.setCell ⟨sb, 0, none⟩ (.int .i64 x.puzzle.points)).setCell ⟨sb, 1, none⟩ (.string x.puzzle.names)).setCell ⟨sb, 2, none⟩ (.slice A2 x.puzzle.moves.length C2)).setCell ⟨sb, 3, none⟩ (.slice A3 x.state.length C3)).setCell ⟨sb, 4, none⟩ (.slice A4 x.history.length C4)).setCell ⟨sb, 5, none⟩ (.slice A5 x.future.length C5)) :=
  ⟨x, A2, A3, A4, A5, C2, C3, C4, C5, fm, fs, hs, us, hB.set6 _ _ _ _ _ _, (hP.only (only_set6 V sb _ _ _ _ _ _) (fun b hm => by simp at hm; omega)).mono hb, fun b hm e => by have := hP.fr.ge b hm; omega, hk⟩
set_option maxHeartbeats 4000000 in
theorem drawAny0_any (g : Nat) (fc : List Nat) (l : List UInt8) (w : World) (h : Src w g fc l) (hl : l.length ≤ 4096) :
    Calls Tryz.prog 65 #[.pointer (some ⟨g, 0, none⟩), .int .i64 0] w fun e w' => ∃ v, ∃ p : List Int, ∃ fp, e = .returned v ∧ Rd w' v p fp ∧ Fresh w.heap.size w' fp ∧ p.length ≤ 21 ∧ Src w' g fc l ∧ Only [g] w w' := by
  have HcP : Hid (∀ V, Src V g fc l → Calls Tryz.prog 110 #[.pointer (some ⟨g, 0, none⟩), .int .i64 0] V fun e w' => ∃ v p, e = .returned v ∧ AccI V.heap.size 2 w' v p ∧ PM.PN 0 p ∧ Src w' g fc l ∧ Only [g] V w') := Lib.hid (fun V D => drawPerm_any g fc l 0 V D (by omega) hl)
  go_enter Tryz.func65, Tryz.ntmps65
  go_wp2_with (first
    | (go_at_call 110; (with_reducible refine (HcP.out w h).mono ?_); rintro e w1 ⟨v1, p1, rfl, hA1, hp1, D1, K1⟩; have hl1 := hp1.1; have Hl1 := Lib.hid hl1; clear hp1 hl1)
    | (go_at_call 25; (with_reducible refine (oneIn_any g fc l 12 w1 D1 hl (by omega)).mono ?_); rintro e w2 ⟨b2, rfl, D2, K2⟩)
    | (go_at_call 25; (with_reducible refine (oneIn_any g fc l 60 w2 D2 hl (by omega)).mono ?_); rintro e w6 ⟨b6, rfl, D6, K6⟩)
    | (go_at_call 52; (with_reducible refine (srcBelow_any g fc l 2 w6 D6 hl (by omega)).mono ?_); rintro e w7 ⟨r, rfl, r0, r1, D7, K7⟩; obtain ⟨k, rfl⟩ := Int.eq_ofNat_of_zero_le r0; have hk : k ≤ 1 := (by omega); obtain ⟨m, hm⟩ : ∃ m : Nat, m = 20 + k := ⟨_, rfl⟩; have hwk : IntKind.i64.wrap (20 + (k : Int)) = (m : Int) := (by rw [IntKind.wrap_i64]; omega); have hm1 : m ≤ 21 := (by omega); clear hm)
    | (go_at_call 110; (with_reducible refine (drawPerm_any g fc l m w7 D7 (by omega) hl).mono ?_); rintro e w8 ⟨v8, p8, rfl, hA8, hp8, D8, K8⟩)
    | fail "no arm")
  all_goals
    have hmv : ∀ {V : World} {q : Nat}, v1.ownBlock = some q → q ∉ [g] := fun hq hm => by have := hA1.ownlt _ hq; have := h.lt; simp at hm; omega
  all_goals first
    | (go_ret; exact ⟨v8, p8, _, rfl, hA8.rd, hA8.fresh.mono (K1.trans (K2.trans (K6.trans K7))).size, by rw [hp8.1]; omega, D8, (K1.trans (K2.trans (K6.trans K7))).trans K8⟩)
    | (go_ret; exact ⟨v1, p1, _, rfl, (hA1.only (K2.trans K6) (fun q hq => hmv (V := w1) hq)).rd, (hA1.only (K2.trans K6) (fun q hq => hmv (V := w1) hq)).fresh, by rw [Hl1.out]; omega, D6, K1.trans (K2.trans K6)⟩)
theorem drawAnyN_any (g : Nat) (fc : List Nat) (l : List UInt8) (n : Int) (w : World) (h : Src w g fc l) (hl : l.length ≤ 4096) (hn : 0 ≤ n ∧ n ≤ 20) :
    Calls Tryz.prog 65 #[.pointer (some ⟨g, 0, none⟩), .int .i64 n] w fun e w' => ∃ v, ∃ p : List Int, ∃ fp, e = .returned v ∧ Rd w' v p fp ∧ Fresh w.heap.size w' fp ∧ p.length ≤ 41 ∧ Src w' g fc l ∧ Only [g] w w' := by
  obtain ⟨m, rfl⟩ := Int.eq_ofNat_of_zero_le hn.1
  by_cases h0 : m = 0
  · subst h0
    exact (drawAny0_any g fc l w h hl).mono fun e w' ⟨v, p, fp, a, b, c, d, e', f⟩ => ⟨v, p, fp, a, b, c, by omega, e', f⟩
  · exact (drawAny_any g fc l m w h hl ⟨by omega, by omega⟩).mono fun e w' ⟨v, p, fp, a, b, c, d, e', f⟩ => ⟨v, p, fp, a, b, c, by omega, e', f⟩
end Go.Proofs.YtajkhdbdkjhilaaGreat
