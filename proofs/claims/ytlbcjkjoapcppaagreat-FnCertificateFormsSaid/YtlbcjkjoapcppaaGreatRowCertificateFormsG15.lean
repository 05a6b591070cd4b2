/- The reference's drawn puzzles, also invalid ones: drawAnyPuzzle (laws 45, 50, 55, 59). Bounds only. The reference's drawn sets of points and tables: drawTrackedSets, drawTables (laws 45, 59). Bounds only. slices.Reverse at []int64, walked; the slice is the call's own. The program's cycles of a permutation: cycles, cycleType, CycleType; the reference's CycleType (laws 32, 44). The program's walk down a chain: how many values are less (laws 34, 35). The reference's MemberAt: the member of a rank (laws 33, 34, ..). The reference's Rank of the member of a rank (laws 34, 35, 53). The program's countBelow and Rank of the member of a rank (laws 34, 35). RandomState, of the reference and of the program (law 33). The program's Rank, IsMember, MemberAt, FirstNonIdentity; random members of no group (laws 34, 35). The program's members, Members, GroupOrder, OrbitSizes, hasAll, SameGroup; the reference's Members, OrbitSizes, PermutationLess (laws 32, 36, 44). The program's cycleType, CycleType; the reference's CycleType; CountMembersOfType of both (laws 32, 44). The reference's CycleType, the program's CycleType; CountMembersOfType of both (laws 32, 44). What the laws on members draw: drawMember, drawGroupAndMember, DrawCountMembersOfType (law 44; drawn states). -/
import Derived.Test.YtlbcjkjoapcppaaGreatRowCertificateFormsG14
import Derived.Deep.RegionLaw
import Derived.Test.YtlbcjkjoapcppaaGreatRowCertificateFormsG12
import Derived.Test.YtlbcjkjoapcppaaGreatRowCertificateFormsG10
import Derived.Deep.LoopGhost
import Derived.Lib.Walk
import Derived.Sort.WalkB12
import Derived.Lib.SlicesMore
import Derived.Test.YtlbcjkjoapcppaaGreatRowCertificateFormsG13
import Derived.Test.YtlbcjkjoapcppaaGreatRowCertificateFormsG11
import Derived.Test.YtlbcjkjoapcppaaGreatRowCertificateFormsG7
import Derived.Deep.QuietTactic
import Derived.Test.YtlbcjkjoapcppaaGreatRowCertificateFormsG2
import Derived.Deep.RegionHeld3
namespace Go.Proofs.YtlbcjkjoapcppaaGreat
open Go.RowKit
set_option maxRecDepth 10000

/-- a puzzle under way in block pb: its moves can be appended to -/
def PzA (eS : TypeId) (w : World) (pb : Nat) (wx : World) (n : Int) (nm : ByteArray) (vm : Value) : Prop :=
  ∃ (gs : List (List Int)) (fs : List (List Nat)), Acc (w.heap.size + 1) eS wx vm gs fs ∧ Fresh (w.heap.size + 1) wx fs.flatten ∧ (pb ∉ vm.ownBlock.toList ∧ pb ∉ fs.flatten) ∧ (0 ≤ n ∧ n ≤ 20) ∧ nm.size ≤ 8 ∧ gs.length ≤ 8 ∧ (∀ y : List Int, y ∈ gs → y.length ≤ 30)
/-- a drawn puzzle -/
def PzR (w : World) (g : Nat) (fc : List Nat) (l : List UInt8) (e : Ending) (w' : World) : Prop := ∃ (n : Int) (nm : ByteArray) (vm : Value) (gs : List (List Int)) (fp : List Nat), e = .returned (.agg #[.int .i64 n, .string nm, vm]) ∧ I64 n ∧ nm.size ≤ 20 ∧ Rd w' vm gs fp ∧ Fresh w.heap.size w' fp ∧ gs.length ≤ 9 ∧ (∀ y : List Int, y ∈ gs → y.length ≤ 30) ∧ Src w' g fc l ∧ Only [g] w w'
theorem PzR.mk {w w' : World} {g : Nat} {fc : List Nat} {l : List UInt8} {n : Int} {nm : ByteArray} {vm : Value} {gs : List (List Int)} {fp : List Nat} (hn : I64 n) (h2 : nm.size ≤ 20) (h3 : Rd w' vm gs fp) (h4 : Fresh w.heap.size w' fp) (h5 : gs.length ≤ 9) (h6 : ∀ y : List Int, y ∈ gs → y.length ≤ 30) (D : Src w' g fc l) (k : Only [g] w w') : PzR w g fc l (.returned (.agg #[.int .i64 n, .string nm, vm])) w' := ⟨n, nm, vm, gs, fp, rfl, hn, h2, h3, h4, h5, h6, D, k⟩
theorem PzR.rep {w' : World} {n : Int} {nm : ByteArray} {vm : Value} {gs : List (List Int)} {fp : List Nat} (hn : I64 n) (h2 : nm.size ≤ 20) (h3 : Rd w' vm gs fp) : Rp.rep w' [.int .i64 n, .string nm, vm] (⟨n, nm, gs⟩ : Puzzle) fp := ⟨vm, rfl, hn, by show nm.size ≤ maxLen; unfold maxLen; omega, h3⟩
/-- three cells stored into a block of three -/
theorem Blk.set3 {V : World} {b : Nat} {x0 x1 x2 : Value} (h : Blk V b [x0, x1, x2]) (y0 y1 y2 : Value) : Blk (((V.setCell ⟨b, 0, none⟩ y0).setCell ⟨b, 1, none⟩ y1).setCell ⟨b, 2, none⟩ y2) b [y0, y1, y2] := ((h.set 0 y0).set 1 y1).set 2 y2
theorem only_set3 (V : World) (b : Nat) (y0 y1 y2 : Value) : Only [b] V (((V.setCell ⟨b, 0, none⟩ y0).setCell ⟨b, 1, none⟩ y1).setCell ⟨b, 2, none⟩ y2) := (((Only.refl _ _).setCell (by simp) _).setCell (by simp) _).setCell (by simp) _
theorem pz_fin {w V : World} {g : Nat} {fc : List Nat} {l : List UInt8} {n : Int} {nm : ByteArray} {vm : Value} {gs : List (List Int)} {fp : List Nat} (hg : g < w.heap.size) (hfc : ∀ b ∈ fc, b < w.heap.size) (hn : I64 n) (h2 : nm.size ≤ 20) (h3 : Rd V vm gs fp) (h4 : Fresh w.heap.size V fp) (hne : ∀ b ∈ fp, b ≠ w.heap.size) (h5 : gs.length ≤ 9) (h6 : ∀ y : List Int, y ∈ gs → y.length ≤ 30) (D : Src V g fc l) (k : Only [g] w V) : PzR w g fc l (.returned (.agg #[.int .i64 n, .string nm, vm])) (((V.setCell ⟨w.heap.size, 0, none⟩ (.int .i64 n)).setCell ⟨w.heap.size, 1, none⟩ (.string nm)).setCell ⟨w.heap.size, 2, none⟩ vm) := by
  have kst := only_set3 V w.heap.size (.int .i64 n) (.string nm) vm
  have hd : ∀ b ∈ fp, b ∉ [w.heap.size] := fun b hb hm => by have := hne b hb; simp at hm; omega
  exact PzR.mk hn h2 (Rp.only h3 kst hd) (h4.only kst hd) h5 h6 (D.only kst (by simp; omega) (fun b hb hm => by have := hfc b hb; simp at hm; omega)) (k.then_ kst (fun b hb hl => by simp at hb; omega))
set_option maxHeartbeats 16000000 in
theorem drawAnyPuzzle_any (g : Nat) (fc : List Nat) (l : List UInt8) (w : World) (h : Src w g fc l) (hl : l.length ≤ 4096) :
    Calls Tryz.prog 53 #[.pointer (some ⟨g, 0, none⟩)] w (PzR w g fc l) := by
  obtain ⟨i0, hi, hz0, hz1, hz2⟩ := info_parts Tryz.info22
  have hg := h.lt
  have hfc : ∀ b ∈ fc, b < w.heap.size := by obtain ⟨_, _, _, _, _, _, _, h4, _⟩ := h; exact fun b hb => Rp.lt h4 b hb
  have hB0 := Blk.new w [.int .i64 0, .string ⟨#[]⟩, .slice none 0 0] 42
  have ho : Only [] w (w.alloc (.cells #[.int .i64 0, .string ⟨#[]⟩, .slice none 0 0] 42)) := (Only.refl _ _).alloc _
  have Hsz0 : Hid ((w.alloc (.cells #[.int .i64 0, .string ⟨#[]⟩, .slice none 0 0] 42)).heap.size = w.heap.size + 1) := Lib.hid (by simp)
  go_enter Tryz.func53, Tryz.ntmps53
  go_upto_region 2 with (first
    | (go_at_call 17; (with_reducible refine (drawPuzzle_any g fc l _ (h.keep ho) hl).mono ?_); rintro e w1 ⟨n, nm, vm, rfl, hP, D1, K1⟩; obtain ⟨am, km, cm, rfl⟩ := hP.form; rw [Hsz0.out] at hP; have HP := Lib.hid hP; clear hP; have k1 : Only [g] w w1 := (ho.weaken [g]).trans K1; have s1 : w.heap.size + 1 ≤ w1.heap.size := (by have := K1.size; rw [Hsz0.out] at this; exact this); have B1 := hB0.only K1 (by simp; omega))
    | fail "no arm")
  have kal : Only [] w1 (w1.alloc (.cells #[.int .i64 n, .string nm, .slice am km cm] 42)) := (Only.refl _ _).alloc _
  have B2 := B1.keep kal
  have Pb := Blk.new w1 [.int .i64 n, .string nm, .slice am km cm] 42
  have hA : PzA 24 w w1.heap.size (w1.alloc (.cells #[.int .i64 n, .string nm, .slice am km cm] 42)) n nm (.slice am km cm) := by
    obtain ⟨gs, fs, a, b, c⟩ := HP.out
    exact ⟨gs, fs, a.keep kal, b.keep kal, ⟨fun hm => by have := (a.ownlt _ (by simpa using hm)).2; omega, fun hm => by have := b.lt _ hm; omega⟩, c⟩
  have D2 := D1.keep kal
  have k2 : Only [g] w (w1.alloc (.cells #[.int .i64 n, .string nm, .slice am km cm] 42)) := k1.alloc _
  obtain ⟨W2, hW2⟩ : ∃ W, W = w1.alloc (.cells #[.int .i64 n, .string nm, .slice am km cm] 42) := ⟨_, rfl⟩
  obtain ⟨pb, hpb⟩ : ∃ pb, pb = w1.heap.size := ⟨_, rfl⟩
  have hpb2 : w.heap.size + 1 ≤ pb := by omega
  have hpb3 : pb < W2.heap.size := by rw [hW2, hpb]; simp
  rw [← hW2] at B2 Pb hA D2 k2 ⊢
  rw [← hpb] at Pb hA ⊢
  clear hW2 HP B1 hB0 ho kal D1 K1 k1 s1 hpb
  go_cut [7] (fun s7 wx => ∃ b : Bool, s7 = .bool b ∧ Src wx g fc l ∧ Only [g] W2 wx)
  case first =>
    go_wp2_with ((go_at_call 20; (with_reducible refine (oneIn_any g fc l 20 W2 D2 hl (by omega)).mono ?_); rintro e w3 ⟨b, rfl, D3, K3⟩))
    go_meet
    exact ⟨_, rfl, D3, K3⟩
  case rest =>
    obtain ⟨W3, hnew⟩ : ∃ W, W = wc := ⟨_, rfl⟩
    subst hnew
    obtain ⟨b3, rfl, D3, K3⟩ := hcut
    refine (show ∀ a w, Code.wp Tryz.prog _ _ a w → _ from by assumption) _ _ ?_
    go_cut [] (fun wx => ∃ (n : Int) (nm : ByteArray) (am : Option Addr) (km cm : Nat), Blk wx w.heap.size [.int .i64 0, .string ⟨#[]⟩, .slice none 0 0] ∧ Blk wx pb [.int .i64 n, .string nm, .slice am km cm] ∧ PzA 24 w pb wx n nm (.slice am km cm) ∧ Src wx g fc l ∧ Only [g] w wx ∧ pb < wx.heap.size)
    case first =>
      have B3 := B2.only K3 (by simp; omega)
      have P3 := Pb.only K3 (by simp; omega)
      have k3 := k2.trans K3
      have hp3 : pb < W3.heap.size := Nat.lt_of_lt_of_le hpb3 K3.size
      cases b3
      · have hA3 : PzA 24 w pb W3 n nm (.slice am km cm) := by
          obtain ⟨gs, fs, a, b, c⟩ := hA
          exact ⟨gs, fs, a.only K3 (fun q hq hm => by have := b.ge q hq; simp at hm; omega) (fun q hq hm => by have := (a.ownlt q hq).1; simp at hm; omega), b.only K3 (fun q hq hm => by have := b.ge q hq; simp at hm; omega), c⟩
        go_wp2
        go_meet
        exact ⟨n, nm, am, km, cm, B3, P3, hA3, D3, k3, hp3⟩
      · go_wp2_with (first
          | (go_at_call 45; (with_reducible refine (srcBelow_any g fc l 6 W3 D3 hl (by omega)).mono ?_); rintro e w4 ⟨r, rfl, r0, r1, D4, K4⟩; have B4 := B3.only K4 (by simp; omega); have P4 := P3.only K4 (by simp; omega); have hr5 : r ≤ 5 := (by omega))
          | (go_at_call 42; (with_reducible refine (knownPuzzle_any r w4 r0 hr5).mono ?_); rintro e w5 ⟨n5, nm5, vm5, b5, rfl, hP, t5⟩; obtain ⟨a5, m5, c5, rfl⟩ := hP.form; have HP := Lib.hid hP; clear hP; have P5 := P4.keep t5; have g0 := P5.cell 0 rfl; have g1 := P5.cell 1 rfl; have g2 := P5.cell 2 rfl; have p0 := P5.frozen 0; have p1 := P5.frozen 1; have p2 := P5.frozen 2)
          | fail "no arm")
        go_meet
        have kst := only_set3 w5 pb (.int .i64 n5) (.string nm5) (.slice a5 m5 c5)
        have B5 := (B4.keep t5).only kst (by simp; omega)
        have P6 := P5.set3 (.int .i64 n5) (.string nm5) (.slice a5 m5 c5)
        have hs4 := K4.size
        have hs5 := t5.size
        refine ⟨n5, nm5, a5, m5, c5, B5, P6, ?_, (D4.keep t5).only kst (by simp; omega) (fun b hb hm => by have := hfc b hb; simp at hm; omega), ((k3.trans K4).trans (t5.weaken _)).then_ kst (fun b hb hl => by simp at hb; omega), Nat.lt_of_lt_of_le (by omega : pb < w5.heap.size) kst.size⟩
        obtain ⟨gs, fs, a, b, c⟩ := HP.out
        exact ⟨gs, fs, (a.only kst (fun q hq hm => by have := b.ge q hq; simp at hm; omega) (fun q hq hm => by have := (a.ownlt q hq).1; simp at hm; omega)).low3 (by omega), (b.only kst (fun q hq hm => by have := b.ge q hq; simp at hm; omega)).mono (by omega), ⟨fun hm => by have := (a.ownlt _ (by simpa using hm)).1; omega, fun hm => by have := b.ge _ hm; omega⟩, c⟩
    case rest =>
      obtain ⟨W4, hnew⟩ : ∃ W, W = wc := ⟨_, rfl⟩
      subst hnew
      clear B2 Pb hA D2 k2 hpb3 D3 K3
      obtain ⟨n, nm, am, km, cm, B4, P4, hA, D4, k4, hp4⟩ := hcut
      refine (show ∀ a w, Code.wp Tryz.prog _ _ a w → _ from by assumption) _ _ ?_
      obtain ⟨gs, fs, cA, cF, ⟨cv, cf⟩, ⟨n0, n20⟩, nml, gsl, gs30⟩ := hA
      obtain ⟨am', cm', ev⟩ := cA.form
      injection ev with e1 e2 e3
      subst e1
      subst e2
      subst e3
      have hfd : ∀ q ∈ fs.flatten, q ∉ [g] := fun q hq hm => by have := cF.ge q hq; simp at hm; omega
      have hvd : ∀ q, (Value.slice am gs.length cm).ownBlock = some q → q ∉ [g] := fun q hq hm => by have := (cA.ownlt q hq).1; simp at hm; omega
      have Gs30 := Lib.hid gs30
      have Hcv := Lib.hid cv
      have Hcf := Lib.hid cf
      have Hfd := Lib.hid hfd
      have Hvd := Lib.hid hvd
      have HA := Lib.hid cA
      clear gs30 cv cf hfd hvd cA
      have hOk : ∀ V, Only [g] W4 V → Rd V (.slice am gs.length cm) gs ((Value.slice am gs.length cm).ownBlock.toList ++ fs.flatten) ∧ Fresh (w.heap.size + 1) V ((Value.slice am gs.length cm).ownBlock.toList ++ fs.flatten) := fun V hV => by
        have hA := HA.out.only hV Hfd.out Hvd.out
        have hF := cF.only hV Hfd.out
        exact ⟨hA.rd (by decide), hA.fresh hF⟩
      have HOk := Lib.hid hOk
      clear hOk
      go_wp2_with (first
        | (go_at_call 20; (with_reducible refine (oneIn_any g fc l 15 W4 D4 hl (by omega)).mono ?_); rintro e w5 ⟨b5, rfl, D5, K5⟩; have B5 := B4.only K5 (by simp; omega); have P5 := P4.only K5 (by simp; omega); have x05 := P5.cell 0 rfl; have x15 := P5.cell 1 rfl; have x25 := P5.cell 2 rfl; have p05 := P5.frozen 0; have p15 := P5.frozen 1; have p25 := P5.frozen 2; have g05 := B5.cell 0 rfl; have g15 := B5.cell 1 rfl; have g25 := B5.cell 2 rfl; have q05 := B5.frozen 0; have q15 := B5.frozen 1; have q25 := B5.frozen 2)
        | (go_at_call 45; (with_reducible refine (srcBelow_any g fc l 4 w5 D5 hl (by omega)).mono ?_); rintro e w6 ⟨r, rfl, r0, r1, D6, K6⟩; have B6 := B5.only K6 (by simp; omega); have P6 := P5.only K6 (by simp; omega); have x06 := P6.cell 0 rfl; have x16 := P6.cell 1 rfl; have x26 := P6.cell 2 rfl; have p06 := P6.frozen 0; have p16 := P6.frozen 1; have p26 := P6.frozen 2; have g06 := B6.cell 0 rfl; have g16 := B6.cell 1 rfl; have g26 := B6.cell 2 rfl; have q06 := B6.frozen 0; have q16 := B6.frozen 1; have q26 := B6.frozen 2)
        | (go_at_call 67; (with_reducible refine (corrupt_any g fc l nm ⟨#[65, 66, 97]⟩ w6 D6 hl (by omega) (by decide) (by decide)).mono ?_); rintro e w7 ⟨t7, rfl, tl, D7, K7⟩; have B7 := B6.only K7 (by simp; omega); have P7 := P6.only K7 (by simp; omega); have x07 := P7.cell 0 rfl; have x17 := P7.cell 1 rfl; have x27 := P7.cell 2 rfl; have p07 := P7.frozen 0; have p17 := P7.frozen 1; have p27 := P7.frozen 2; have g07 := B7.cell 0 rfl; have g17 := B7.cell 1 rfl; have g27 := B7.cell 2 rfl; have q07 := B7.frozen 0; have q17 := B7.frozen 1; have q27 := B7.frozen 2)
        | (go_at_call 64; (with_reducible refine (numberUpTo_any g fc l 20 w6 D6 hl (by unfold I64; omega)).mono ?_); rintro e w7 ⟨y7, rfl, hy7, D7, K7⟩; have B7 := B6.only K7 (by simp; omega); have P7 := P6.only K7 (by simp; omega); have x07 := P7.cell 0 rfl; have x17 := P7.cell 1 rfl; have x27 := P7.cell 2 rfl; have p07 := P7.frozen 0; have p17 := P7.frozen 1; have p27 := P7.frozen 2; have g07 := B7.cell 0 rfl; have g17 := B7.cell 1 rfl; have g27 := B7.cell 2 rfl; have q07 := B7.frozen 0; have q17 := B7.frozen 1; have q27 := B7.frozen 2; have Hy7 := Lib.hid hy7; clear hy7)
        | fail "no arm")
      · have kst : Only [pb] w7 (w7.setCell ⟨pb, 1, none⟩ (.string t7)) := (Only.refl _ _).setCell (by simp) _
        have K47 := K5.trans (K6.trans K7)
        obtain ⟨hR, hF⟩   := HOk.out w7 K47
        have hd : ∀ b ∈ (Value.slice am gs.length cm).ownBlock.toList ++ fs.flatten, b ∉ [pb] := fun b hb hm => by
          simp only [List.mem_singleton] at hm
          subst hm
          rcases List.mem_append.1 hb with hb | hb
          · exact Hcv.out hb
          · exact Hcf.out hb
        have Yf := (B7.only kst (by simp; omega)).set3 (.int .i64 n) (.string t7) (.slice am gs.length cm)
        have r0f := Yf.cell 0 rfl
        have r1f := Yf.cell 1 rfl
        have r2f := Yf.cell 2 rfl
        exact bodyPost_ret (v := .agg #[.int .i64 n, .string t7, .slice am gs.length cm]) (by simp [results, Tryz.results53, go_sem, r0f, r1f, r2f]) rfl (pz_fin hg hfc (by unfold I64; omega) (by omega) (Rp.only hR kst hd) ((hF.only kst hd).mono (by omega)) (fun b hb => by have := hF.ge b hb; omega) (by omega) Gs30.out (D7.only kst (by simp; omega) (fun b hb hm => by have := hfc b hb; simp at hm; omega)) ((k4.trans K47).then_ kst (fun b hb hl => by simp at hb; omega)))
      · have kst : Only [pb] w7 (w7.setCell ⟨pb, 0, none⟩ (.int .i64 y7)) := (Only.refl _ _).setCell (by simp) _
        have K47 := K5.trans (K6.trans K7)
        obtain ⟨hR, hF⟩   := HOk.out w7 K47
        have hd : ∀ b ∈ (Value.slice am gs.length cm).ownBlock.toList ++ fs.flatten, b ∉ [pb] := fun b hb hm => by
          simp only [List.mem_singleton] at hm
          subst hm
          rcases List.mem_append.1 hb with hb | hb
          · exact Hcv.out hb
          · exact Hcf.out hb
        have Yf := (B7.only kst (by simp; omega)).set3 (.int .i64 y7) (.string nm) (.slice am gs.length cm)
        have r0f := Yf.cell 0 rfl
        have r1f := Yf.cell 1 rfl
        have r2f := Yf.cell 2 rfl
        exact bodyPost_ret (v := .agg #[.int .i64 y7, .string nm, .slice am gs.length cm]) (by simp [results, Tryz.results53, go_sem, r0f, r1f, r2f]) rfl (pz_fin hg hfc Hy7.out (by omega) (Rp.only hR kst hd) ((hF.only kst hd).mono (by omega)) (fun b hb => by have := hF.ge b hb; omega) (by omega) Gs30.out (D7.only kst (by simp; omega) (fun b hb hm => by have := hfc b hb; simp at hm; omega)) ((k4.trans K47).then_ kst (fun b hb hl => by simp at hb; omega)))
      · have kst := only_set3 w6 pb (.int .i64 0) (.string ⟨#[]⟩) (.slice none 0 0)
        have Yf := (B6.only kst (by simp; omega)).set3 (.int .i64 0) (.string ⟨#[]⟩) (.slice none 0 0)
        have r0f := Yf.cell 0 rfl
        have r1f := Yf.cell 1 rfl
        have r2f := Yf.cell 2 rfl
        exact bodyPost_ret (v := .agg #[.int .i64 0, .string ⟨#[]⟩, .slice none 0 0]) (by simp [results, Tryz.results53, go_sem, r0f, r1f, r2f]) rfl (pz_fin hg hfc (by unfold I64; omega) (by decide) (nil_rd (α := List Int) _) (Fresh.nil _ _) (by simp) (by simp) (by simp) (D6.only kst (by simp; omega) (fun b hb hm => by have := hfc b hb; simp at hm; omega)) ((k4.trans (K5.trans K6)).then_ kst (fun b hb hl => by simp at hb; omega)))
      · have HcP : Hid (∀ V, Src V g fc l → Calls Tryz.prog 68 #[.pointer (some ⟨g, 0, none⟩), .int .i64 4] V fun e w' => ∃ v, ∃ p : List Int, ∃ fp, e = .returned v ∧ Rd w' v p fp ∧ Fresh V.heap.size w' fp ∧ p.length ≤ 25 ∧ Src w' g fc l ∧ Only [g] V w') := Lib.hid (fun V D => drawAny_any g fc l 4 V D hl (by decide))
        have hlen : gs.length + 1 ≤ 1073741824 := by omega
        have K46 := K5.trans K6
        have hs6 : w.heap.size + 1 ≤ w6.heap.size := Nat.le_trans hpb2 (Nat.le_of_lt (Nat.lt_of_lt_of_le hp4 K46.size))
        go_region_law (first
          | (go_simp; go_at_call 68; (with_reducible refine (HcP.out _ (D6.keep (by with_reducible repeat (first | exact Only.refl _ _ | assumption | refine Only.drewN ?_ _ | refine Only.drew ?_ | refine Only.alloc ?_ _ | refine Only.trans ?_ (by assumption))))).mono ?_); rintro en w7 ⟨v7, p7, f7, rfl, r7, F7, l7, D7, K7⟩; obtain ⟨a7, c7, rfl, -⟩ := Rd.ints r7; have B7 := (B6.keep (by with_reducible repeat (first | exact Only.refl _ _ | assumption | refine Only.drewN ?_ _ | refine Only.drew ?_ | refine Only.alloc ?_ _ | refine Only.trans ?_ (by assumption)))).only K7 (by simp; omega); have P7 := (P6.keep (by with_reducible repeat (first | exact Only.refl _ _ | assumption | refine Only.drewN ?_ _ | refine Only.drew ?_ | refine Only.alloc ?_ _ | refine Only.trans ?_ (by assumption)))).only K7 (by simp; omega); have x27 := P7.cell 2 rfl; have p27 := P7.frozen 2; have x27a := (P7.keep ((Only.refl _ _).alloc (.cells #[.slice a7 p7.length c7] 24))).cell 2 rfl; have K67 : Only [g] w6 w7 := Only.trans (by with_reducible repeat (first | exact Only.refl _ _ | assumption | refine Only.drewN ?_ _ | refine Only.drew ?_ | refine Only.alloc ?_ _ | refine Only.trans ?_ (by assumption))) K7; have hA7 := HA.out.only (K46.trans K67) Hfd.out Hvd.out; have hs7 : w.heap.size + 1 ≤ w7.heap.size := Nat.le_trans hs6 K67.size)
          | (refine step_push2w (α := List Int) rfl (.tmp 36) (.tmp 39) 30 rfl (w.heap.size + 1) 24 i0 _ 24 Tryz.underlying30 hi hz0 hz1 hz2 rfl (by decide) (by decide) w7 (.slice am gs.length cm) gs fs rfl hA7 (by with_reducible repeat (first | exact Only.refl _ _ | assumption | refine Only.drewN ?_ _ | refine Only.drew ?_ | refine Only.alloc ?_ _ | refine Only.trans ?_ (by assumption))) hs7 _ 1 [.slice a7 p7.length c7] p7 f7 rfl (lit_src _ [.slice a7 p7.length c7] _ rfl) (by intro u hu; simp at hu; subst hu; rfl) (Rp.keep r7 (by with_reducible repeat (first | exact Only.refl _ _ | assumption | refine Only.drewN ?_ _ | refine Only.drew ?_ | refine Only.alloc ?_ _ | refine Only.trans ?_ (by assumption)))) ?hap hlen ?_; (case hap => (intro b hb he; have h1 := F7.ge b hb; have h2 := (HA.out.ownlt b he).2; have h3 := K46.size; simp at h1; omega)); intro v9 w9 hA9 hO9 hN9; obtain ⟨a9, c9, rfl⟩ := hA9.form; rw [List.length_append, List.length_singleton] at hA9 hN9; have P9 := (P7.keep (by with_reducible repeat (first | exact Only.refl _ _ | assumption | refine Only.drewN ?_ _ | refine Only.drew ?_ | refine Only.alloc ?_ _ | refine Only.trans ?_ (by assumption)))).only hO9 Hcv.out; have B9 := (B7.keep (by with_reducible repeat (first | exact Only.refl _ _ | assumption | refine Only.drewN ?_ _ | refine Only.drew ?_ | refine Only.alloc ?_ _ | refine Only.trans ?_ (by assumption)))).only hO9 (fun hm => by have := (HA.out.ownlt _ (by simpa using hm)).1; omega); have F9 := (push_facts (w := w) (W := w6) ((HA.out.only K46 Hfd.out Hvd.out).low3 (by omega)) ((cF.only K46 Hfd.out).mono (by omega)) (k4.trans K46) K67 (F7.mono (by simp)) D7 hg hfc (by with_reducible repeat (first | exact Only.refl _ _ | assumption | refine Only.drewN ?_ _ | refine Only.drew ?_ | refine Only.alloc ?_ _ | refine Only.trans ?_ (by assumption))) hO9).1; have D9 := (D7.keep (by with_reducible repeat (first | exact Only.refl _ _ | assumption | refine Only.drewN ?_ _ | refine Only.drew ?_ | refine Only.alloc ?_ _ | refine Only.trans ?_ (by assumption)))).only hO9 (fun hm => by have := (HA.out.ownlt _ (by simpa using hm)).1; omega) (fun b hb hm => by have h1 := hfc b hb; have := (HA.out.ownlt _ (by simpa using hm)).1; omega); have k9 : Only [g] w w9 := Only.then_ (show Only [g] w _ from Only.trans (k4.trans (K46.trans K67)) (by with_reducible repeat (first | exact Only.refl _ _ | assumption | refine Only.drewN ?_ _ | refine Only.drew ?_ | refine Only.alloc ?_ _ | refine Only.trans ?_ (by assumption)))) hO9 (fun b hb hl => by have := (HA.out.ownlt b (by simpa using hb)).1; omega); have x09 := P9.cell 0 rfl; have x19 := P9.cell 1 rfl; have x29 := P9.cell 2 rfl; have p09 := P9.frozen 0; have p19 := P9.frozen 1; have p29 := P9.frozen 2; have g09 := B9.cell 0 rfl; have g19 := B9.cell 1 rfl; have g29 := B9.cell 2 rfl; have q09 := B9.frozen 0; have q19 := B9.frozen 1; have q29 := B9.frozen 2)
          | fail "no arm")
        all_goals
          go_wp2
          have kst : Only [pb] w9 (w9.setCell ⟨pb, 2, none⟩ (.slice a9 (gs.length + 1) c9)) := (Only.refl _ _).setCell (by simp) _
          have hown : ∀ b, (Value.slice a9 (gs.length + 1) c9).ownBlock = some b → b ≠ pb ∧ b ≠ w.heap.size := fun b hb => by
            rw [hb] at hN9
            rcases hN9 with e | e
            · have h1 := (HA.out.ownlt b e.symm).1
              refine ⟨fun e2 => Hcv.out (by rw [← e2]; simpa using e.symm), by omega⟩
            · injection e with e
              have h1 := K46.size
              have h2 := K67.size
              simp at e
              refine ⟨by omega, by omega⟩
          have hrows : ∀ b ∈ (fs ++ [f7]).flatten, b ≠ pb ∧ b ≠ w.heap.size := fun b hb => by
            rw [List.flatten_append] at hb
            rcases List.mem_append.1 hb with hb | hb
            · exact ⟨fun e2 => Hcf.out (by rw [← e2]; exact hb), by have := cF.ge b hb; omega⟩
            · have h1 := F7.ge b (by simpa using hb)
              have h2 := K46.size
              simp at h1
              exact ⟨by omega, by omega⟩
          have hall : ∀ b ∈ (Value.slice a9 (gs.length + 1) c9).ownBlock.toList ++ (fs ++ [f7]).flatten, b ≠ pb ∧ b ≠ w.heap.size := fun b hb => by
            rcases List.mem_append.1 hb with hb | hb
            · exact hown b (by simpa using hb)
            · exact hrows b hb
          have hd : ∀ b ∈ (Value.slice a9 (gs.length + 1) c9).ownBlock.toList ++ (fs ++ [f7]).flatten, b ∉ [pb] := fun b hb hm => (hall b hb).1 (by simpa using hm)
          have hR := hA9.rd (by decide)
          have hF := (hA9.low3 (show w.heap.size ≤ w.heap.size + 1 by omega)).fresh F9
          have Yf := (B9.only kst (by simp; omega)).set3 (.int .i64 n) (.string nm) (.slice a9 (gs.length + 1) c9)
          have r0f := Yf.cell 0 rfl
          have r1f := Yf.cell 1 rfl
          have r2f := Yf.cell 2 rfl
          have hg30 : ∀ y : List Int, y ∈ gs ++ [p7] → y.length ≤ 30 := fun y hy => by
            rcases List.mem_append.1 hy with hy | hy
            · exact Gs30.out y hy
            · rw [List.mem_singleton.1 hy]; omega
          exact bodyPost_ret (v := .agg #[.int .i64 n, .string nm, .slice a9 (gs.length + 1) c9]) (by simp [results, Tryz.results53, go_sem, r0f, r1f, r2f]) rfl (pz_fin (gs := gs ++ [p7]) hg hfc (by unfold I64; omega) (by omega) (Rp.only hR kst hd) (hF.only kst hd) (fun b hb => (hall b hb).2) (by rw [List.length_append, List.length_singleton]; omega) hg30 (D9.only kst (by simp; omega) (fun b hb hm => by have := hfc b hb; simp at hm; omega)) (k9.then_ kst (fun b hb hl => by simp at hb; omega)))
      · obtain ⟨hR, hF⟩   := HOk.out w5 K5
        have Yf := (B5).set3 (.int .i64 n) (.string nm) (.slice am gs.length cm)
        have r0f := Yf.cell 0 rfl
        have r1f := Yf.cell 1 rfl
        have r2f := Yf.cell 2 rfl
        exact bodyPost_ret (v := .agg #[.int .i64 n, .string nm, .slice am gs.length cm]) (by simp [results, Tryz.results53, go_sem, r0f, r1f, r2f]) rfl (pz_fin hg hfc (by unfold I64; omega) (by omega) hR (hF.mono (by omega)) (fun b hb => by have := hF.ge b hb; omega) (by omega) Gs30.out D5 (k4.trans K5))
end Go.Proofs.YtlbcjkjoapcppaaGreat

namespace Go.Proofs.YtlbcjkjoapcppaaGreat
open Go.RowKit
set_option maxRecDepth 10000

/-- one row of a list of rows replaced -/
theorem SeqA.putRow {w V : World} {a : Option Addr} {cap : Nat} {xs : List (List Int)} {ob : List Nat} {fps : List (List Nat)} (h : SeqA w a cap xs ob fps) (k : Nat) {u' : Value} {y : List Int} {f' : List Nat}
    (hcell : ∀ b off, a = some ⟨b, off, none⟩ → (∀ j, j < xs.length → j ≠ k → V.cell? ⟨b, off + j, none⟩ = w.cell? ⟨b, off + j, none⟩) ∧ V.cell? ⟨b, off + k, none⟩ = some u') (hy : Rd V u' y f') (hrows : ∀ j (hj : j < fps.length), j ≠ k → ∀ b ∈ fps[j], V.heap[b]? = w.heap[b]?) (hlt : ∀ b ∈ ob, b < V.heap.size) : SeqA V a cap (xs.set k y) ob (fps.set k f') := by
  refine ⟨by rw [List.length_set]; exact h.len, h.cap, by rw [List.length_set, List.length_set]; exact h.nf, fun j hj => ?_, hlt, h.one⟩
  have hj' : j < xs.length := by rw [List.length_set] at hj; exact hj
  obtain ⟨b, off, u, ha, hob, hc, hu⟩ := h.atRow j hj'
  obtain ⟨h1, h2⟩ := hcell b off ha
  by_cases e : j = k
  · subst e
    refine ⟨b, off, [u'], ha, hob, fun i v hv => ?_, ?_⟩
    · cases i with
      | zero => simp at hv; subst hv; simpa [Rp.size] using h2
      | succ i => simp at hv
    · simpa using hy
  · refine ⟨b, off, [u], ha, hob, fun i v hv => ?_, ?_⟩
    · cases i with
      | zero => simp at hv; subst hv; have := (h1 j hj' e).trans hc; simpa [Rp.size] using this
      | succ i => simp at hv
    · have hu' := Rp.frame hu (fun q hq => hrows j (by rw [h.nf]; exact hj') e q hq)
      rw [List.getElem_set_ne (Ne.symm e)]
      have := hu'
      simpa [List.getElem_set_ne (Ne.symm e)] using this
/-- the first row of a list of rows of the call's own -/
theorem Acc.row0 {B : Nat} {e : TypeId} {w : World} {v : Value} {L : List OwnI} {fs : List (List Nat)} (h : Acc B e w v L fs) (hL : 0 < L.length) :
    ∃ g c u, v = .slice (some ⟨g, 0, none⟩) L.length c ∧ L.length ≤ c ∧ w.cell? ⟨g, 0, none⟩ = some u ∧ w.frozen? ⟨g, 0, none⟩ = false ∧ AccI 0 2 w u (L[0]).l ∧ fs[0]? = some u.ownBlock.toList ∧ B ≤ g := by
  obtain ⟨⟨css, ho, hcl, hr⟩, hf, ha⟩ := h
  obtain ⟨v0, hc0, hA0, hf0⟩ := hr 0 (by omega) hL (by omega)
  have ho0 := ho
  rcases ho.2 with ⟨h1, h2⟩ | ⟨g, cp, cur, h1, hb, hg, hn, hcp, hz, ht⟩
  · omega
  · subst h1
    have hcs : css.flatten[0]? = some v0 := by
      match css, hcl, hc0 with
      | [], hcl, _ => simp at hcl; omega
      | c :: css', _, hc0 => simp at hc0; subst hc0; simp
    refine ⟨g, cp, v0, rfl, hn, ?_, ho0.frozenAt 0, hA0, by rw [List.getElem?_eq_getElem (by omega), hf0], hb⟩
    have := World.ownsRow.cells ho0 (g := g) rfl 0 v0 hcs
    have hadd : (⟨g, 0, none⟩ : Addr).add 0 = ⟨g, 0, none⟩ := by unfold Addr.add; split <;> simp_all
    rwa [hadd] at this
theorem frozen_keep {w w' : World} {p : Addr} {fp : List Nat} (h : w.frozen? p = false) (ho : Only fp w w') (hp : p.block < w.heap.size) (hn : p.block ∉ fp) : w'.frozen? p = false := by
  have e := ho.block p.block hp hn
  simp only [World.frozen?, e] at h ⊢
  exact h
theorem flatten_set0 {fs : List (List Nat)} {f : List Nat} {b : Nat} (h : b ∈ (fs.set 0 f).flatten) : b ∈ f ∨ b ∈ fs.flatten := by
  match fs, h with
  | [], h => simp at h
  | x :: fs', h =>
    rw [List.set_cons_zero, List.flatten_cons] at h
    rcases List.mem_append.1 h with h | h
    · exact .inl h
    · exact .inr (by rw [List.flatten_cons]; exact List.mem_append_right _ h)
/-- the first row appended to and stored again -/
theorem Acc.put0 {B : Nat} {e : TypeId} {w8 V w9 : World} {gs c : Nat} {L : List OwnI} {fs : List (List Nat)} (h : Acc B e w8 (.slice (some ⟨gs, 0, none⟩) L.length c) L fs) (hF : Fresh B w8 fs.flatten) (hL : 0 < L.length) {u v9 : Value} {y : Int} {B9 : Nat}
    (hf0 : fs[0]? = some u.ownBlock.toList) (k8 : Only [] w8 V) (hA9 : AccI B9 2 w9 v9 ((L[0]).l ++ [y])) (hO9 : Only u.ownBlock.toList V w9) (hN : v9.ownBlock = u.ownBlock ∨ v9.ownBlock = some V.heap.size) (hc : (w9.cell? ⟨gs, 0, none⟩).isSome = true) :
    Rd (w9.setCell ⟨gs, 0, none⟩ v9) (.slice (some ⟨gs, 0, none⟩) L.length c) ((L.map OwnI.l).set 0 ((L[0]).l ++ [y])) ([gs] ++ (fs.set 0 v9.ownBlock.toList).flatten) ∧ ∀ b ∈ (fs.set 0 v9.ownBlock.toList).flatten, b ∈ fs.flatten ∨ V.heap.size ≤ b := by
  have hlm : (L.map OwnI.l).length = L.length := List.length_map _
  obtain ⟨⟨css, ho, hcl, hr⟩, hfl, hap⟩ := id (Acc.ofOwn h)
  have hgs : gs < w8.heap.size := (h.ownlt gs rfl).2
  obtain ⟨a, cap, hv, -, hI⟩ := own_seq (xs := L.map OwnI.l) (fps := fs) ho (by decide) hcl hfl hr
  rw [hlm] at hv
  injection hv with hv1 _ hv2
  subst hv1
  subst hv2
  have hown : (Value.slice (some ⟨gs, 0, none⟩) L.length c).ownBlock.toList = [gs] := rfl
  have hu0 : ∀ b ∈ u.ownBlock.toList, b ∈ fs.flatten := fun b hb => by
    obtain ⟨h0, e0⟩ := List.getElem?_eq_some_iff.1 hf0
    exact List.mem_flatten.2 ⟨_, List.getElem_mem h0, by rw [e0]; exact hb⟩
  have hgn : gs ∉ u.ownBlock.toList := fun hm => hap gs rfl (hu0 gs hm)
  have hsub : ∀ b ∈ (fs.set 0 v9.ownBlock.toList).flatten, b ∈ fs.flatten ∨ V.heap.size ≤ b := fun b hb => by
    rcases flatten_set0 hb with hb | hb
    · have hb2 : v9.ownBlock = some b := by simpa using hb
      rcases hN with e1 | e1
      · exact .inl (hu0 b (by rw [← e1]; simpa using hb))
      · rw [e1] at hb2; injection hb2 with hb2; exact .inr (by omega)
    · exact .inl hb
  have hv9g : v9.ownBlock ≠ some gs := fun e1 => by
    rcases hN with e2 | e2
    · exact hgn (by rw [← e2, e1]; simp)
    · rw [e2] at e1; injection e1 with e1; have := k8.size; omega
  have kst : Only [gs] w9 (w9.setCell ⟨gs, 0, none⟩ v9) := (Only.refl _ _).setCell (by simp) _
  have hrd : Rd (w9.setCell ⟨gs, 0, none⟩ v9) v9 ((L[0]).l ++ [y]) v9.ownBlock.toList := Rp.only hA9.rd kst (fun b hb hm => by
    simp at hm
    subst hm
    exact hv9g (by simpa using hb))
  have hgV : gs < V.heap.size := Nat.lt_of_lt_of_le hgs k8.size
  have hS := SeqA.putRow (V := w9.setCell ⟨gs, 0, none⟩ v9) hI 0 (u' := v9) (y := (L[0]).l ++ [y]) (f' := v9.ownBlock.toList) (fun b off ha => by
    injection ha with ha
    injection ha with ha1 ha2 _
    subst ha1
    subst ha2
    refine ⟨fun j hj hj0 => ?_, ?_⟩
    · have hne : (⟨gs, 0 + j, none⟩ : Addr) ≠ ⟨gs, 0, none⟩ := by intro e2; injection e2 with _ e2 _; omega
      rw [World.cell?_setCell_other _ _ _ _ hne.symm]
      rw [World.cell?_of_block (w := V) (hO9.block gs hgV hgn), World.cell?_of_block (w := w8) (k8.block gs hgs (by simp))]
    · exact World.cell?_setCell_same' _ _ _ hc) hrd (fun j hj hj0 b hb => by
      have hbf : b ∈ fs.flatten := List.mem_flatten.2 ⟨_, List.getElem_mem hj, hb⟩
      have hbg : b ≠ gs := fun e => hap gs rfl (by rw [← e]; exact hbf)
      have hbl := hF.lt b hbf
      have hbu : b ∉ u.ownBlock.toList := fun hm => by
        obtain ⟨h0, e0⟩ := List.getElem?_eq_some_iff.1 hf0
        have hnd := hF.nd
        have hfe : fs = fs[0] :: fs.tail := by
          match fs, h0 with
          | x :: fs', _ => rfl
        have hj2 : fs[j] ∈ fs.tail := by
          match fs, h0, j, hj, hj0 with
          | x :: fs', _, j + 1, hj, _ => exact List.getElem_mem (by simpa using hj)
        rw [hfe, List.flatten_cons] at hnd
        exact (List.nodup_append.1 hnd).2.2 b (by rw [e0]; exact hm) b (List.mem_flatten.2 ⟨_, hj2, hb⟩) rfl
      rw [kst.block b (by have := k8.size; have := hO9.size; omega) (by simpa using hbg), hO9.block b (Nat.lt_of_lt_of_le hbl k8.size) hbu, k8.block b hbl (by simp)]) (fun b hb => by
      rw [hown] at hb
      simp at hb
      subst hb
      exact Nat.lt_of_lt_of_le (Nat.lt_of_lt_of_le hgV hO9.size) kst.size)
  refine ⟨?_, hsub⟩
  have := hS.rd
  rw [List.length_set, hlm, hown] at this
  exact this
set_option maxHeartbeats 8000000 in
theorem drawTrackedSets_any (g : Nat) (fc : List Nat) (l : List UInt8) (cs : List Value) (x : Puzzle) (fp : List Nat) (w : World) (h : Src w g fc l) (hl : l.length ≤ 4096) (hx : Rp.rep w cs x fp) :
    Calls Tryz.prog 47 #[.pointer (some ⟨g, 0, none⟩), .agg cs.toArray] w fun e w' => ∃ v, ∃ L : List (List Int), ∃ f, e = .returned v ∧ Rd w' v L f ∧ (∀ b ∈ f, w.heap.size ≤ b) ∧ (∀ y ∈ L, y.length ≤ 2097152) ∧ Src w' g fc l ∧ Only [g] w w' := by
  obtain ⟨i0, hi, hz0, hz1, hz2⟩ := info_parts Tryz.info2
  obtain ⟨j0, hj, hj0, hj1, hj2⟩ := info_parts Tryz.info22
  have hg := h.lt
  have hfc : ∀ b ∈ fc, b < w.heap.size := by obtain ⟨_, _, _, _, _, _, _, h4, _⟩ := h; exact fun b hb => Rp.lt h4 b hb
  obtain ⟨v2, rfl, p0, p1, h2⟩ := hx
  obtain ⟨A2, C2, _, _, rfl, -, -⟩ := h2.open_
  have Hp0 := Lib.hid p0
  have hB0 := Blk.new w [.int .i64 x.points, .string x.names, .slice A2 x.moves.length C2] 42
  have kb : Only [] w (w.alloc (.cells #[.int .i64 x.points, .string x.names, .slice A2 x.moves.length C2] 42)) := (Only.refl _ _).alloc _
  have kb2 : Only [] w ((w.alloc (.cells #[.int .i64 x.points, .string x.names, .slice A2 x.moves.length C2] 42)).alloc (.cells #[] 24)) := kb.alloc _
  have hB1 := hB0.keep ((Only.refl _ _).alloc (.cells #[] 24))
  have hA0 := Acc.made (α := OwnI) (w.alloc (.cells #[.int .i64 x.points, .string x.names, .slice A2 x.moves.length C2] 42)) (w.heap.size + 1) 24 (g := w.heap.size + 1) (by simp) (Nat.le_refl _)
  have Hsz : Hid (((w.alloc (.cells #[.int .i64 x.points, .string x.names, .slice A2 x.moves.length C2] 42)).alloc (.cells #[] 24)).heap.size = w.heap.size + 2) := Lib.hid (by simp)
  clear p0
  go_enter Tryz.func47, Tryz.ntmps47
  go_wp2_with (first
    | (go_at_call 45; (with_reducible refine (srcBelow_any g fc l 2 _ (h.keep kb2) hl (by omega)).mono ?_); rintro e w1 ⟨k, rfl, k0, k2, D1, K1⟩; have hw1 : IntKind.i64.wrap (1 + k) = 1 + k := (by rw [IntKind.wrap_i64]; omega))
    | fail "no arm")
  have B1 := hB1.only K1 (by simp; omega)
  have A1 := hA0.only K1 (by simp) (fun q hq hm => by
    have e : w.heap.size + 1 = q := by simpa [Value.ownBlock] using hq
    simp at hm
    omega)
  have k1 : Only [g] w w1 := (kb2.weaken [g]).trans K1
  have hs1 : w.heap.size + 2 ≤ w1.heap.size := by have := K1.size; rw [Hsz.out] at this; exact this
  have hk2 : k ≤ 2 := by omega
  clear hB0 hB1 kb kb2 hA0 K1 k2
  go_loopw [5, 6] (fun o kv wr => ∃ (k : Int) (L : List OwnI) (fs : List (List Nat)), 0 ≤ k ∧ kv = .int .i64 k ∧ (L.length : Int) + k ≤ 3 ∧ 1 ≤ (L.length : Int) + k ∧ Acc (w.heap.size + 1) 24 wr o L fs ∧ Fresh (w.heap.size + 1) wr fs.flatten ∧ Hid (∀ y ∈ L, y.l.length ≤ 8) ∧ Blk wr w.heap.size [.int .i64 x.points, .string x.names, .slice A2 x.moves.length C2] ∧ Src wr g fc l ∧ Only [g] w wr ∧ w.heap.size + 2 ≤ wr.heap.size)
    (fun _ kv _ => (intOf kv).toNat)
  case atStart => exact ⟨1 + k, [], [], by omega, rfl, by simp; omega, by simp; omega, A1, Fresh.nil _ _, Lib.hid (by simp), B1, D1, k1, hs1⟩
  case round =>
    obtain ⟨W2, hnew⟩ : ∃ W, W = wr := ⟨_, rfl⟩
    subst hnew
    clear A1 B1 D1 k1 hs1 k0 hk2
    obtain ⟨k, L, fs, k0, rfl, hLk, hL1, hA, hF, hL8, B2, D2, kW, hs2⟩ := hrel
    obtain ⟨aL, cL, rfl⟩ := hA.form
    have hvd := Lib.hid (show ∀ q, (Value.slice aL L.length cL).ownBlock = some q → q ∉ [g] from fun q hq hm => by have := (hA.ownlt q hq).1; simp at hm; omega)
    have hfd := Lib.hid (show ∀ q ∈ fs.flatten, q ∉ [g] from fun q hq hm => by have := hF.ge q hq; simp at hm; omega)
    by_cases hgo : 0 < k
    · have hw : IntKind.i64.wrap (k - 1) = k - 1 := by rw [IntKind.wrap_i64]; omega
      have HA := Lib.hid hA
      have HF := Lib.hid hF
      have hlen : L.length + 1 ≤ 1073741824 := by omega
      have kal2 : Only [] W2 (W2.alloc (.cells #[] 2)) := (Only.refl _ _).alloc _
      have b0 := (B2.keep kal2)
      have d0 := D2.keep kal2
      have a0 := AccI.made W2 W2.heap.size 2 rfl (Nat.le_refl _)
      have kg2 : Only [g] W2 (W2.alloc (.cells #[] 2)) := kal2.weaken _
      clear hA hF B2 D2
      go_wp2
      go_loopw [7, 8] (fun o xv wr => ∃ (i : Nat) (p : List Int), i ≤ 7 ∧ xv = .int .i64 i ∧ p.length ≤ i ∧ AccI W2.heap.size 2 wr o p ∧ Blk wr w.heap.size [.int .i64 x.points, .string x.names, .slice A2 x.moves.length C2] ∧ Src wr g fc l ∧ Only [g] W2 wr)
        (fun _ xv _ => 8 - (intOf xv).toNat)
      case atStart => exact ⟨0, [], by omega, rfl, by simp, a0, b0, d0, kg2⟩
      case round =>
        obtain ⟨W4, hnew⟩ : ∃ W, W = wr := ⟨_, rfl⟩
        subst hnew
        clear a0 b0 d0 kg2 kal2
        obtain ⟨i, p, hi7, rfl, hpi, hAp, B4, D4, K4⟩ := hrel
        obtain ⟨ap, cp, rfl⟩ := hAp.form
        have x0 := B4.cell 0 rfl
        have hpd := Lib.hid (show ∀ q, (Value.slice ap p.length cp).ownBlock = some q → q ∉ [g] from fun q hq hm => by have := hAp.ownlt q hq; simp at hm; omega)
        have hwi : IntKind.i64.wrap ((i : Int) + 1) = (i : Int) + 1 := by rw [IntKind.wrap_i64]; omega
        have hlenp : p.length + 1 ≤ 1073741824 := by omega
        by_cases hlt : (i : Int) < min x.points 7
        · have hi6 : i ≤ 6 := by omega
          have HAp := Lib.hid hAp
          have hiI := Lib.hid (show I64 (i : Int) by unfold I64; omega)
          clear hAp
          go_wp2_with (first
            | (go_at_call 20; (with_reducible refine (oneIn_any g fc l 2 W4 D4 hl (by omega)).mono ?_); rintro e w5 ⟨b5, rfl, D5, K5⟩; have A5 := HAp.out.only K5 hpd.out; have hs5 : W2.heap.size ≤ w5.heap.size := (K4.trans K5).size; have B5 := B4.only K5 (by simp; omega))
            | (at_builtin; refine wpList_pushI rfl _ _ 24 rfl W2.heap.size 2 i0 _ Tryz.underlying24 hi hz0 hz1 hz2 rfl w5 _ p rfl A5 ((Only.refl _ _).alloc _) hs5 w5.heap.size 1 _ rfl (lit1 w5 _ _ rfl) hiI.out hlenp ?_; intro v9 w9 hA9 hO9 hP9 hN9; replace hO9 : Only (Value.slice ap p.length cp).ownBlock.toList _ w9 := hO9)
            | fail "no arm")
          all_goals go_roundw
          all_goals first
            | exact ⟨i + 1, _, by omega, by go_num, by rw [List.length_append, List.length_singleton]; omega, hA9, (B5.keep ((Only.refl _ _).alloc _)).only hO9 (fun hm => by have := (HAp.out.ownlt _ (by simpa using hm)).1; omega), (D5.keep ((Only.refl _ _).alloc _)).only hO9 (fun hm => by have := (HAp.out.ownlt _ (by simpa using hm)).1; omega) (fun b hb hm => by have h1 := hfc b hb; have := (HAp.out.ownlt _ (by simpa using hm)).1; omega), ((K4.trans K5).alloc _).then_ hO9 (fun b hb hl => by have := (HAp.out.ownlt b (by simpa using hb)).1; omega)⟩
            | exact ⟨i + 1, p, by omega, by go_num, by omega, A5, B5, D5, K4.trans K5⟩
            | (simp [intOf]; omega)
        · have hA4 := HA.out.only K4 hfd.out hvd.out
          have hF4 := HF.out.only K4 hfd.out
          have hs4 : w.heap.size + 1 ≤ W4.heap.size := by have := K4.size; omega
          have hAp0 : Rp.rep W4 [.slice ap p.length cp] (OwnI.mk p) (Value.slice ap p.length cp).ownBlock.toList := ⟨_, rfl, hAp.low2 (Nat.zero_le _), rfl⟩
          have hFp := hAp.fresh
          have HAp := Lib.hid hAp
          clear hAp
          go_wp2_with (first
            | (at_builtin; refine wpList_push2 (α := OwnI) rfl _ _ 30 rfl (w.heap.size + 1) 24 j0 _ 24 Tryz.underlying30 hj hj0 hj1 hj2 rfl (by decide) (by decide) W4 (.slice aL L.length cL) L fs rfl hA4 ((Only.refl _ _).alloc _) hs4 W4.heap.size 1 [.slice ap p.length cp] (OwnI.mk p) _ rfl (lit_src W4 [.slice ap p.length cp] _ rfl) (by intro u hu; simp at hu; subst hu; rfl) (Rp.keep hAp0 ((Only.refl _ _).alloc _)) ?hap hlen ?_; (case hap => (intro b hb he; have h1 := hFp.ge b hb; have h2 := (HA.out.ownlt b he).2; omega)); intro v9 w9 hA9 hO9 hN9)
            | fail "no arm")
          have kal4 : Only [] W4 (W4.alloc (.cells #[.slice ap p.length cp] 24)) := (Only.refl _ _).alloc _
          have hF9 : Fresh (w.heap.size + 1) w9 (fs ++ [(Value.slice ap p.length cp).ownBlock.toList]).flatten := by
            have F1 := (hF4.keep kal4).only hO9 (fun q hq hm => hA4.apart q (by simpa using hm) hq)
            have F2 := (hFp.keep kal4).only hO9 (fun q hq hm => by have h1 := hFp.ge q hq; have h2 := (HA.out.ownlt q (by simpa using hm)).2; omega)
            have := F1.append F2 (by omega) HF.out.lt
            simpa using this
          have hoge : ∀ b ∈ (Value.slice aL L.length cL).ownBlock.toList, w.heap.size + 1 ≤ b := fun b hb => (HA.out.ownlt b (by simpa using hb)).1
          go_roundw
          case rel => exact ⟨k - 1, L ++ [OwnI.mk p], _, by omega, rfl, by rw [List.length_append, List.length_singleton]; omega, by rw [List.length_append, List.length_singleton]; omega, hA9, hF9, Lib.hid (fun y hy => by
            rcases List.mem_append.1 hy with hy | hy
            · exact hL8.out y hy
            · rw [List.mem_singleton.1 hy]; show p.length ≤ 8; omega), (B4.keep kal4).only hO9 (fun hm => by have := hoge _ hm; omega), (D4.keep kal4).only hO9 (fun hm => by have := hoge _ hm; omega) (fun b hb hm => by have h1 := hfc b hb; have := hoge b hm; omega), ((kW.trans K4).alloc _).then_ hO9 (fun b hb hl => by have := hoge b hb; omega), by have h1 := K4.size; have h2 := hO9.size; simp at h2; omega⟩
          case measure => simp [intOf]; omega
    · have hk0 : k = 0 := by omega
      subst hk0
      have hL1' : 1 ≤ L.length := by omega
      have hL3 : L.length ≤ 3 := by omega
      have HA := Lib.hid hA
      have HF := Lib.hid hF
      clear hA hF
      go_upto_region 12 with fail
      go_cut [36] (fun s36 wx => ∃ b : Bool, s36 = .bool b ∧ Src wx g fc l ∧ Only [g] W2 wx)
      case first =>
        go_wp2_with ((go_at_call 20; (with_reducible refine (oneIn_any g fc l 15 W2 D2 hl (by omega)).mono ?_); rintro e w6 ⟨b, rfl, D6, K6⟩))
        go_meet
        exact ⟨_, rfl, D6, K6⟩
      case rest =>
        obtain ⟨W6, hnew⟩ : ∃ W, W = wc := ⟨_, rfl⟩
        subst hnew
        obtain ⟨b6, rfl, D6, K6⟩ := hcut
        have B6 := B2.only K6 (by simp; omega)
        have k6 := kW.trans K6
        have hA6 := HA.out.only K6 hfd.out hvd.out
        have hF6 := HF.out.only K6 hfd.out
        have hs6 : w.heap.size + 2 ≤ W6.heap.size := Nat.le_trans hs2 K6.size
        have hge6 : ∀ b ∈ (Value.slice aL L.length cL).ownBlock.toList ++ fs.flatten, w.heap.size ≤ b := fun b hb => by
          rcases List.mem_append.1 hb with hb | hb
          · have := (HA.out.ownlt b (by simpa using hb)).1; omega
          · have := HF.out.ge b hb; omega
        have h8 : ∀ y ∈ L.map OwnI.l, y.length ≤ 2097152 := fun y hy => by
          obtain ⟨z, hz, rfl⟩ := List.mem_map.1 hy
          have := hL8.out z hz; omega
        have H8 := Lib.hid h8
        have Hge6 := Lib.hid hge6
        clear h8 hge6 B2 D2 kW
        refine (show ∀ a w, Code.wp Tryz.prog _ _ a w → _ from by assumption) _ _ ?_
        go_cut [5] (fun s5 wx => ∃ (L : List (List Int)) (f : List Nat), Rd wx s5 L f ∧ (∀ b ∈ f, w.heap.size ≤ b) ∧ (∀ y ∈ L, y.length ≤ 2097152) ∧ Src wx g fc l ∧ Only [g] w wx)
        case first =>
          have hR6 := (Acc.ofOwn hA6).rd (by decide)
          have hRl : (L.map OwnI.l).length = L.length := List.length_map _
          cases b6
          · go_wp2
            go_meet
            exact ⟨_, _, hR6, Hge6.out, H8.out, D6, k6⟩
          · go_upto_region 14 with ((go_at_call 45; (with_reducible refine (srcBelow_any g fc l 3 W6 D6 hl (by omega)).mono ?_); rintro e w7 ⟨r, rfl, r0, r1, D7, K7⟩))
            have B7 := B6.only K7 (by simp; omega)
            have k7 := k6.trans K7
            have hA7 := hA6.only K7 hfd.out hvd.out
            have hF7 := hF6.only K7 hfd.out
            have hs7 : w.heap.size + 2 ≤ w7.heap.size := Nat.le_trans hs6 K7.size
            clear hA6 hF6 hR6 B6 D6 k6 hs6
            by_cases e0 : r = 0
            · subst e0
              go_wp2
              go_meet
              exact ⟨[], _, ((Acc.made (α := List Int) w7 w.heap.size 24 rfl (by omega)).rd (by decide)), fun b hb => by
                have : b = w7.heap.size := by simpa [Value.ownBlock] using hb
                omega, by simp, D7.keep ((Only.refl _ _).alloc _), k7.alloc _⟩
            · by_cases e1 : r = 1
              · subst e1
                obtain ⟨gs, cc, u, ev, hcl, hc0, hfz, hA0, hf0, hgsB⟩ := hA7.row0 (by omega)
                injection ev with ev1 ev2 ev3
                subst ev1
                subst ev3
                clear ev2
                obtain ⟨q0, hq0⟩ : ∃ q0, q0 = (L[0]'hL1').l := ⟨_, rfl⟩
                have hq8 : q0.length ≤ 8 := by rw [hq0]; exact hL8.out _ (List.getElem_mem _)
                rw [← hq0] at hA0
                obtain ⟨au, cu, rfl⟩ := hA0.form
                have Hq0 := Lib.hid hq0
                have hgl : gs < w7.heap.size := (hA7.ownlt gs rfl).2
                have hgg : gs ≠ g := by omega
                have hL0I : (0 : Int) < (L.length : Int) := by omega
                have hL0n : 0 < L.length := hL1'
                have hu0 : ∀ b ∈ (Value.slice au q0.length cu).ownBlock.toList, b ∈ fs.flatten := fun b hb => by
                  obtain ⟨h0, e0⟩ := List.getElem?_eq_some_iff.1 hf0
                  exact List.mem_flatten.2 ⟨_, List.getElem_mem h0, by rw [e0]; exact hb⟩
                have Hu0 := Lib.hid hu0
                have hsep : gs ∉ (Value.slice au q0.length cu).ownBlock.toList := fun hm => hA7.apart gs rfl (hu0 gs hm)
                have Hsep := Lib.hid hsep
                have hgu : ∀ b ∈ (Value.slice au q0.length cu).ownBlock.toList, w.heap.size + 1 ≤ b := fun b hb => hF7.ge b (hu0 b hb)
                have Hgu := Lib.hid hgu
                have hlen0 : q0.length + 1 ≤ 1073741824 := by omega
                have x0 := B7.cell 0 rfl
                have HA7 := Lib.hid hA7
                have HF7 := Lib.hid hF7
                clear hq0 hu0 hsep hgu hA7 hF7
                go_wp2
                go_region_law (first
                  | (go_simp; go_at_call 64; (with_reducible refine (numberUpTo_any g fc l x.points _ (D7.keep (by with_reducible repeat (first | exact Only.refl _ _ | assumption | refine Only.drewN ?_ _ | refine Only.drew ?_ | refine Only.alloc ?_ _ | refine Only.trans ?_ (by assumption)))) hl Hp0.out).mono ?_); rintro en w8 ⟨y, rfl, hy, D8, K8⟩; have K78 : Only [g] w7 w8 := Only.trans (by with_reducible repeat (first | exact Only.refl _ _ | assumption | refine Only.drewN ?_ _ | refine Only.drew ?_ | refine Only.alloc ?_ _ | refine Only.trans ?_ (by assumption))) K8; have c08 := K78.cell (p := ⟨gs, 0, none⟩) (by simpa using hgg) hc0; have z08 := frozen_keep hfz K78 hgl (by simpa using hgg); have B8 := B7.only K78 (by simp; omega); have x08 := B8.cell 0 rfl; have kal8 : Only [] w8 (w8.alloc (.cells #[.int .i64 y] 2)) := (Only.refl _ _).alloc _; have c08a := kal8.cell (p := ⟨gs, 0, none⟩) (by simp) c08; have A08 := hA0.only K78 (fun q hq hm => by have := Hgu.out q (by simp [hq]); simp at hm; omega); have Hy := Lib.hid hy; clear hy; have hA8 := HA7.out.only K78 hfd.out hvd.out; have hF8 := HF7.out.only K78 hfd.out)
                  | (refine step_pushI rfl (.tmp 47) (.tmp 52) 24 rfl 0 2 i0 _ Tryz.underlying24 hi hz0 hz1 hz2 rfl w8 (.slice au q0.length cu) q0 rfl A08 (by with_reducible repeat (first | exact Only.refl _ _ | assumption | refine Only.drewN ?_ _ | refine Only.drew ?_ | refine Only.alloc ?_ _ | refine Only.trans ?_ (by assumption))) (Nat.zero_le _) _ 1 y rfl (lit1 _ _ _ rfl) Hy.out hlen0 ?_; intro v9 w9 hA9 hO9 hN9; obtain ⟨a9, c9, rfl⟩ := hA9.form; rw [List.length_append, List.length_singleton] at hA9 hN9; have c09 := hO9.cell (p := ⟨gs, 0, none⟩) Hsep.out (kal8.cell (by simp) c08); have z09 := frozen_keep (frozen_keep z08 kal8 (Nat.lt_of_lt_of_le hgl K78.size) (by simp)) hO9 (Nat.lt_of_lt_of_le (Nat.lt_of_lt_of_le hgl K78.size) kal8.size) Hsep.out; have HA9 := Lib.hid hA9; clear hA9)
                  | fail "no arm")
                all_goals
                  go_wp2
                  have hA9' : AccI 0 2 w9 (.slice a9 (q0.length + 1) c9) ((L[0]'hL0n).l ++ [y]) := by rw [← Hq0.out]; exact HA9.out
                  obtain ⟨hR, hsub⟩ := Acc.put0 hA8 hF8 hL0n (u := .slice au q0.length cu) hf0 kal8 hA9' hO9 hN9 (by rw [c09]; rfl)
                  have hs8 : w.heap.size ≤ w8.heap.size := Nat.le_trans (by omega : w.heap.size ≤ w7.heap.size) K78.size
                  have kst : Only [gs] w9 (w9.setCell ⟨gs, 0, none⟩ (.slice a9 (q0.length + 1) c9)) := (Only.refl _ _).setCell (by simp) _
                  have hgg' : g ≠ gs := Ne.symm hgg
                  go_meet
                  refine ⟨_, _, hR, fun b hb => ?_, fun z hz => ?_, ((D8.keep kal8).only hO9 (fun hm => by have := Hgu.out _ hm; omega) (fun b hb hm => by have h1 := hfc b hb; have := Hgu.out b hm; omega)).only kst (by simpa using hgg') (fun b hb hm => by have h1 := hfc b hb; simp at hm; omega), (((k7.trans K78).alloc _).then_ hO9 (fun b hb hl => by have := Hgu.out b hb; omega)).then_ kst (fun b hb hl => by simp at hb; omega)⟩
                  · rcases List.mem_append.1 hb with hb | hb
                    · have : b = gs := by simpa using hb
                      omega
                    · rcases hsub b hb with hb | hb
                      · have := HF7.out.ge b hb; omega
                      · have := kal8.size; omega
                  · rcases List.mem_or_eq_of_mem_set hz with hz | rfl
                    · exact H8.out z hz
                    · rw [← Hq0.out, List.length_append, List.length_singleton]; omega
              · have e2 : r = 2 := by omega
                subst e2
                have hAq := Acc.ofOwn hA7
                have hml : (L.map OwnI.l).length ≤ 3 := by rw [List.length_map]; omega
                obtain ⟨M, hM⟩ : ∃ M, M = L.map OwnI.l := ⟨_, rfl⟩
                have h8M : ∀ y ∈ M, y.length ≤ 2097152 := by rw [hM]; exact H8.out
                have hMl : L.length = M.length := by rw [hM, List.length_map]
                rw [← hM] at hAq hml
                rw [hMl] at hAq ⊢
                have H8M := Lib.hid h8M
                have gF7 : ∀ b ∈ fs.flatten, w.heap.size + 1 ≤ b := hF7.ge
                have HgF := Lib.hid gF7
                clear hM hMl h8M gF7
                go_wp2
                go_loopw [5] (fun o wr => ∃ (M : List (List Int)) (fs : List (List Nat)), Acc (w.heap.size + 1) 24 wr o M fs ∧ Hid (∀ y ∈ M, y.length ≤ 2097152) ∧ Hid (∀ b ∈ fs.flatten, w.heap.size + 1 ≤ b) ∧ M.length ≤ 5 ∧ Src wr g fc l ∧ Only [g] w wr ∧ w.heap.size + 2 ≤ wr.heap.size)
                  (fun o _ => 10 - lenV o)
                case atStart => exact ⟨M, fs, hAq, H8M, HgF, by omega, D7, k7, hs7⟩
                case round =>
                  obtain ⟨W8, hnew⟩ : ∃ W, W = wr := ⟨_, rfl⟩
                  subst hnew
                  clear hAq H8M HgF hml D7 k7 hs7
                  obtain ⟨M, fs, hAq, H8M, HgF, hml, D7, k7, hs7⟩ := hrel
                  obtain ⟨aM, cM, rfl⟩ := hAq.form
                  have hM1 : M.length + 1 ≤ 1073741824 := by omega
                  have HAq := Lib.hid hAq
                  clear hAq
                  go_wp2_with (first
                    | (go_at_call 45; (with_reducible refine (srcBelow_any g fc l 2 W8 D7 hl (by omega)).mono ?_); rintro e w8 ⟨y, rfl, y0, y1, D8, K78⟩; have hw4' : IntKind.i64.wrap (4 + y) = 4 + y := (by rw [IntKind.wrap_i64]; omega); have hA8 := HAq.out.only K78 (fun q hq hm => by have := HgF.out q hq; simp at hm; omega) (fun q hq hm => by have := (HAq.out.ownlt q hq).1; simp at hm; omega); have hs8 : w.heap.size + 1 ≤ w8.heap.size := Nat.le_trans (by omega : w.heap.size + 1 ≤ W8.heap.size) K78.size)
                    | (at_builtin; refine wpList_push2 (α := List Int) rfl _ _ 30 rfl (w.heap.size + 1) 24 j0 _ 24 Tryz.underlying30 hj hj0 hj1 hj2 rfl (by decide) (by decide) w8 (.slice aM M.length cM) M fs rfl hA8 (by with_reducible repeat (first | exact Only.refl _ _ | assumption | refine Only.drewN ?_ _ | refine Only.drew ?_ | refine Only.alloc ?_ _ | refine Only.trans ?_ (by assumption))) hs8 _ 1 [.slice (some ⟨w8.heap.size, 0, none⟩) 1 1] [0] [w8.heap.size] rfl (lit_src _ [.slice (some ⟨w8.heap.size, 0, none⟩) 1 1] _ (by simp)) (by intro u hu; simp at hu; subst hu; rfl) (Rp.keep (AccI.one (n := 0) (by unfold I64; omega) w8 w8.heap.size 2 rfl (Nat.le_refl _)).rd (by with_reducible repeat (first | exact Only.refl _ _ | assumption | refine Only.drewN ?_ _ | refine Only.drew ?_ | refine Only.alloc ?_ _ | refine Only.trans ?_ (by assumption)))) ?hap hM1 ?_; (case hap => (intro b hb he; have h2 := (hA8.ownlt b he).2; simp at hb; omega)); intro v9 w9 hA9 hO9 hN9; replace hO9 : Only (Value.slice aM M.length cM).ownBlock.toList _ w9 := hO9; have D9 := (D8.keep (by with_reducible repeat (first | exact Only.refl _ _ | assumption | refine Only.drewN ?_ _ | refine Only.drew ?_ | refine Only.alloc ?_ _ | refine Only.trans ?_ (by assumption)))).only hO9 (fun hm => by have := (HAq.out.ownlt _ (by simpa using hm)).1; omega) (fun b hb hm => by have h1 := hfc b hb; have := (HAq.out.ownlt b (by simpa using hm)).1; omega); have k9 : Only [g] w w9 := Only.then_ (show Only [g] w _ from Only.trans (k7.trans K78) (by with_reducible repeat (first | exact Only.refl _ _ | assumption | refine Only.drewN ?_ _ | refine Only.drew ?_ | refine Only.alloc ?_ _ | refine Only.trans ?_ (by assumption)))) hO9 (fun b hb hl => by have := (HAq.out.ownlt b (by simpa using hb)).1; omega); have hs9 : w.heap.size + 2 ≤ w9.heap.size := (by have h1 := K78.size; have h2 := hO9.size; simp at h2; omega))
                    | fail "no arm")
                  all_goals first
                    | (go_meet; exact ⟨M, _, hA8.rd (by decide), fun b hb => by
                        rcases List.mem_append.1 hb with hb | hb
                        · have := (HAq.out.ownlt b (by simpa using hb)).1; omega
                        · have := HgF.out b hb; omega, H8M.out, D8, k7.trans K78⟩)
                    | (go_roundw
                       case rel => exact ⟨M ++ [[0]], _, hA9, Lib.hid (fun z hz => by
                          rcases List.mem_append.1 hz with hz | hz
                          · exact H8M.out z hz
                          · rw [List.mem_singleton.1 hz]; show 1 ≤ 2097152; omega), Lib.hid (fun b hb => by
                          rw [List.flatten_append] at hb
                          rcases List.mem_append.1 hb with hb | hb
                          · exact HgF.out b hb
                          · have : b = w8.heap.size := by simpa using hb
                            omega), by rw [List.length_append, List.length_singleton]; omega, D9, k9, hs9⟩
                       case measure =>
                         obtain ⟨a9, c9, rfl⟩ := hA9.form
                         rw [List.length_append, List.length_singleton]
                         show 10 - (M.length + 1) < 10 - M.length
                         omega)
        case rest =>
          obtain ⟨W9, hnew⟩ : ∃ W, W = wc := ⟨_, rfl⟩
          subst hnew
          obtain ⟨L', f', q1, q2, q3, q4, q5⟩ := hcut
          go_wp2
          go_ret
          exact ⟨_, rfl, L', ⟨f', q1, q2, q3, q4, q5⟩⟩
end Go.Proofs.YtlbcjkjoapcppaaGreat

namespace Go.Proofs.YtlbcjkjoapcppaaGreat
open Go.RowKit Go.Shelf Go.Sort Go.Proofs Go.Lib
set_option maxRecDepth 10000



end Go.Proofs.YtlbcjkjoapcppaaGreat

namespace Go.Proofs.YtlbcjkjoapcppaaGreat
open Go.RowKit
set_option maxRecDepth 10000
end Go.Proofs.YtlbcjkjoapcppaaGreat

namespace Go.Proofs.YtlbcjkjoapcppaaGreat
open Go.RowKit
set_option maxRecDepth 10000
end Go.Proofs.YtlbcjkjoapcppaaGreat

namespace Go.Proofs.YtlbcjkjoapcppaaGreat
open Go.RowKit
set_option maxRecDepth 10000


end Go.Proofs.YtlbcjkjoapcppaaGreat

namespace PM
end PM
namespace Go.Proofs.YtlbcjkjoapcppaaGreat
open Go.RowKit
set_option maxRecDepth 10000
end Go.Proofs.YtlbcjkjoapcppaaGreat

namespace Go.Proofs.YtlbcjkjoapcppaaGreat
open Go.RowKit
set_option maxRecDepth 10000


end Go.Proofs.YtlbcjkjoapcppaaGreat

namespace Go.Proofs.YtlbcjkjoapcppaaGreat
open Go.RowKit
set_option maxRecDepth 10000
end Go.Proofs.YtlbcjkjoapcppaaGreat

namespace Go.Proofs.YtlbcjkjoapcppaaGreat
open Go.RowKit
set_option maxRecDepth 10000
end Go.Proofs.YtlbcjkjoapcppaaGreat

namespace Go.Proofs.YtlbcjkjoapcppaaGreat
open Go.RowKit
set_option maxRecDepth 10000
end Go.Proofs.YtlbcjkjoapcppaaGreat

namespace Go.Proofs.YtlbcjkjoapcppaaGreat
open Go.RowKit
set_option maxRecDepth 10000
end Go.Proofs.YtlbcjkjoapcppaaGreat

namespace Go.Proofs.YtlbcjkjoapcppaaGreat
open Go.RowKit
set_option maxRecDepth 10000
end Go.Proofs.YtlbcjkjoapcppaaGreat

namespace Go.Proofs.YtlbcjkjoapcppaaGreat
open Go.RowKit
set_option maxRecDepth 10000

set_option maxHeartbeats 4000000 in
theorem drawMember_any (g : Nat) (fc : List Nat) (l : List UInt8) (n : Int) (vg : Value) (gs : List (List Int)) (fp : List Nat) (w : World) (h : Src w g fc l) (hl : l.length ≤ 4096) (hn : I64 n) (hg : Rd w vg gs fp) (hfp : ∀ b ∈ fp, b ≠ g) :
    Calls Tryz.prog 69 #[.pointer (some ⟨g, 0, none⟩), .int .i64 n, vg] w fun e w' => ∃ v, ∃ p : List Int, ∃ f, e = .returned v ∧ Rd w' v p f ∧ Fresh w.heap.size w' f ∧ p.length ≤ 60 ∧ Src w' g fc l ∧ Only [g] w w' := by
  have hgl := h.lt
  have hnb := hn
  unfold I64 at hnb
  have Hnf := Lib.hid (show ∀ b ∈ fp, b ∉ [g] from fun b hb hm => hfp b hb (by simpa using hm))
  clear hn
  rcases hgs : gensB n gs
  · obtain ⟨k, hk⟩ : ∃ k : Nat, min (max n 1) 7 = (k : Int) := ⟨(min (max n 1) 7).toNat, by omega⟩
    have hk1 : 1 ≤ k := by omega
    have hk7 : k ≤ 7 := by omega
    have Hk := Lib.hid hk
    have Hgs := Lib.hid hgs
    have HcD := Lib.hid (fun (W : World) (D : Src W g fc l) => drawAny_any g fc l k W D hl ⟨hk1, by omega⟩)
    clear hgs
    go_enter Tryz.func69, Tryz.ntmps69
    go_wp2_with (first
      | (go_at_call 77; (with_reducible refine (specIsGens_rd n vg gs fp w hg).mono ?_); rintro e w1 ⟨he, t1⟩; rw [Hgs.out] at he; subst he; have t1 := t1.only [])
      | (go_at_call 68; (with_reducible refine (HcD.out w1 (h.keep t1)).mono ?_); rintro e w2 ⟨v2, p2, f2, rfl, r2, F2, l2, D2, K2⟩)
      | fail "no arm")
    go_ret
    exact ⟨v2, p2, f2, rfl, r2, F2.mono t1.size, by omega, D2, (t1.weaken [g]).trans K2⟩
  · obtain ⟨⟨n1, n20⟩, hgl, hpn⟩ := gensB_iff.1 hgs
    obtain ⟨m, rfl⟩ := Int.eq_ofNat_of_zero_le (show 0 ≤ n by omega)
    have hpn' : ∀ g ∈ gs, PM.PN m g := by simpa using hpn
    obtain ⟨A, C, ob, fps, rfl, hfe, hS⟩ := id hg.open_
    have hb := hS.bound
    have Hgs := Lib.hid hgs
    have Hpn := Lib.hid hpn'
    have Hfe := Lib.hid hfe
    clear hgs hpn hpn' hfe
    go_enter Tryz.func69, Tryz.ntmps69
    go_wp2_with (first
      | (go_at_call 77; (with_reducible refine (specIsGens_rd (m : Int) (.slice A gs.length C) gs fp w hg).mono ?_); rintro e w1 ⟨he, t1⟩; rw [Hgs.out] at he; subst he; have t1 := t1.only [])
      | (go_at_call 60; (with_reducible refine (specIdentity_any m w1 (by omega)).mono ?_); rintro e w2 ⟨v2, f2, rfl, r2, F2, t2⟩)
      | (go_at_call 45; (with_reducible refine (srcBelow_any g fc l 8 w2 ((h.keep t1).keep t2) hl (by omega)).mono ?_); rintro e w3 ⟨k, rfl, k0, k8, D3, K3⟩)
      | fail "no arm")
    have k2 : Only [] w w2 := t1.trans t2
    have K3' : Only [g] w w3 := (k2.weaken [g]).trans K3
    have hF2 : Fresh w.heap.size w2 f2 := F2.mono t1.size
    have hd2 : ∀ b ∈ f2, b ∉ [g] := fun b hb hm => by have := hF2.ge b hb; simp at hm; omega
    have r3 := Rp.only r2 K3 hd2
    have F3 := hF2.only K3 hd2
    have hPm := PM.PN.id m
    have k8' : k ≤ 8 := by omega
    clear t1 t2 k2 K3 hF2 hd2 r2 F2
    go_loopw [7, 8] (fun o x wr => ∃ (k : Int) (p : List Int) (f : List Nat), 0 ≤ k ∧ k ≤ 8 ∧ x = .int .i64 k ∧ Rd wr o p f ∧ PM.PN m p ∧ Fresh w.heap.size wr f ∧ Src wr g fc l ∧ Only [g] w wr)
      (fun _ x _ => (intOf x).toNat)
    case atStart => exact ⟨k, _, f2, k0, k8', rfl, r3, hPm, F3, D3, K3'⟩
    case round =>
      obtain ⟨W2, hnew⟩ : ∃ W, W = wr := ⟨_, rfl⟩
      subst hnew
      clear r3 F3 D3 K3' hPm k8' k0 k8
      obtain ⟨k, p, f, k0, k8, rfl, hr, hp, hF, hD, hO⟩ := hrel
      have Hp := Lib.hid hp
      have hdf : ∀ b ∈ f, b ∉ [g] := fun b hb hm => by have := hF.ge b hb; simp at hm; omega
      have Hdf := Lib.hid hdf
      have hpl : p.length ≤ 60 := by rw [hp.1]; omega
      clear hp hdf
      by_cases hgo : 0 < k ∧ 0 < gs.length
      · obtain ⟨h1, h2⟩ := hgo
        have h2I : (0 : Int) < (gs.length : Int) := by omega
        have hw : IntKind.i64.wrap (k - 1) = k - 1 := by rw [IntKind.wrap_i64]; omega
        go_wp2_with (first
          | (go_at_call 45; (with_reducible refine (srcBelow_any g fc l (gs.length : Int) W2 hD hl (by omega)).mono ?_); rintro e w4 ⟨r, rfl, r0, r1, D4, K4⟩; obtain ⟨q, rfl⟩ := Int.eq_ofNat_of_zero_le r0; have hql : q < gs.length := (by omega); have hqI : (q : Int) < (gs.length : Int) := (by omega); obtain ⟨b, off, u, rfl, hob, hc0, hu0⟩ := hS.atRow q hql; have K4' := hO.trans K4; have hnb : b ∉ [g] := Hnf.out b (by rw [Hfe.out, hob]; simp); have cc := K4'.cell hnb hc0; have hu4 := Rp.only hu0 K4' (fun b hb => Hnf.out b (by rw [Hfe.out]; exact List.mem_append_right _ (List.mem_flatten.2 ⟨_, List.getElem_mem _, hb⟩))); have hpm := Hpn.out gs[q] (List.getElem_mem hql); have hr4 := Rp.only hr K4 Hdf.out; have F4 := hF.only K4 Hdf.out)
          | (go_at_call 78; (with_reducible refine (specCompose_rd m _ u p gs[q] _ _ w4 hr4 hu4 Hp.out hpm (by omega)).mono ?_); rintro e w5 ⟨v5, f5, rfl, r5, F5, t5⟩)
          | fail "no arm")
        go_roundw
        case rel => exact ⟨k - 1, _, f5, by omega, by omega, rfl, r5, Hp.out.comp hpm, F5.mono (by have := K4'.size; omega), D4.keep t5, K4'.keepThen t5⟩
        case measure => simp [intOf]; omega
      · have hend : ¬ (0 < k) ∨ ¬ ((0 : Int) < (gs.length : Int)) := by
          by_cases h1 : 0 < k
          · exact Or.inr (by omega)
          · exact Or.inl h1
        clear hgo
        rcases hend with h1 | h1
        · go_wp2_with (first
            | (go_at_call 20; (with_reducible refine (oneIn_any g fc l 3 W2 hD hl (by omega)).mono ?_); rintro e w4 ⟨b4, rfl, D4, K4⟩)
            | (go_at_call 68; (with_reducible refine (drawAny_any g fc l m w4 D4 hl ⟨by omega, by omega⟩).mono ?_); rintro e w5 ⟨v5, p5, f5, rfl, r5, F5, l5, D5, K5⟩)
            | fail "no arm")
          · go_ret
            exact ⟨v5, p5, f5, rfl, r5, F5.mono (by have := (hO.trans K4).size; omega), by omega, D5, (hO.trans K4).trans K5⟩
          · go_ret
            exact ⟨u7, p, f, rfl, Rp.only hr K4 Hdf.out, hF.only K4 Hdf.out, hpl, D4, hO.trans K4⟩
        · by_cases hk : 0 < k
          · go_wp2_with (first
              | (go_at_call 20; (with_reducible refine (oneIn_any g fc l 3 W2 hD hl (by omega)).mono ?_); rintro e w4 ⟨b4, rfl, D4, K4⟩)
              | (go_at_call 68; (with_reducible refine (drawAny_any g fc l m w4 D4 hl ⟨by omega, by omega⟩).mono ?_); rintro e w5 ⟨v5, p5, f5, rfl, r5, F5, l5, D5, K5⟩)
              | fail "no arm")
            · go_ret
              exact ⟨v5, p5, f5, rfl, r5, F5.mono (by have := (hO.trans K4).size; omega), by omega, D5, (hO.trans K4).trans K5⟩
            · go_ret
              exact ⟨u7, p, f, rfl, Rp.only hr K4 Hdf.out, hF.only K4 Hdf.out, hpl, D4, hO.trans K4⟩
          · go_wp2_with (first
              | (go_at_call 20; (with_reducible refine (oneIn_any g fc l 3 W2 hD hl (by omega)).mono ?_); rintro e w4 ⟨b4, rfl, D4, K4⟩)
              | (go_at_call 68; (with_reducible refine (drawAny_any g fc l m w4 D4 hl ⟨by omega, by omega⟩).mono ?_); rintro e w5 ⟨v5, p5, f5, rfl, r5, F5, l5, D5, K5⟩)
              | fail "no arm")
            · go_ret
              exact ⟨v5, p5, f5, rfl, r5, F5.mono (by have := (hO.trans K4).size; omega), by omega, D5, (hO.trans K4).trans K5⟩
            · go_ret
              exact ⟨u7, p, f, rfl, Rp.only hr K4 Hdf.out, hF.only K4 Hdf.out, hpl, D4, hO.trans K4⟩
end Go.Proofs.YtlbcjkjoapcppaaGreat
