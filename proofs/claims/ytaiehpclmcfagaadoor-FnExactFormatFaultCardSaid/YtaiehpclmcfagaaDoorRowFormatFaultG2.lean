/- FormatFault: the reference's and the program's; the law on it (law 2). (Printed by mkfmtf.py.) From the row's own reading of an argument to 'rep'. From the row's own reading of an argument that is a struct, or a slice of structs, to 'rep'. (Printed by gen_conv.py.) -/
import Derived.Test.YtaiehpclmcfagaaDoorRowFormatFaultG1
import Derived.Deep.RegionHeld3
import Derived.Deep.DeepCutAuto
import Derived.ProofKit
import Derived.OpenShut
import Derived.Deep.Slices
namespace Go.Proofs.YtaiehpclmcfagaaDoor
open Go.RowKit
set_option maxRecDepth 10000

structure TableFault where
  kind : Int
  entry : Int
  letter : Int
instance : Rp TableFault where
  size := 3
  rep _ cs x fp := cs = [Value.int .i64 x.kind, Value.int .i64 x.entry, Value.int .i64 x.letter] ∧ I64 x.kind ∧ I64 x.entry ∧ I64 x.letter ∧ fp = []
  len h := by rw [h.1]; rfl
  frame h _ := h
  lt h := by rw [h.2.2.2.2]; simp
def ftN : List ByteArray := [(⟨#[115, 116, 97, 114, 116]⟩ : ByteArray), (⟨#[100, 117, 112, 108, 105, 99, 97, 116, 101]⟩ : ByteArray), (⟨#[122, 101, 114, 111]⟩ : ByteArray), (⟨#[109, 105, 115, 115, 105, 110, 103]⟩ : ByteArray), (⟨#[106, 117, 109, 112]⟩ : ByteArray), (⟨#[110, 111, 32, 100, 101, 115, 99, 101, 110, 116]⟩ : ByteArray)]
def ftS (f : TableFault) : ByteArray := (ftN.getD (f.kind.toNat - 1) ⟨#[]⟩ ++ (⟨#[32, 97, 116, 32, 101, 110, 116, 114, 121, 32]⟩ : ByteArray)) ++ bA (Lib.itoa f.entry)
def fmtF (f : TableFault) : ByteArray :=
  if inR f.kind 1 6 = true ∧ 0 ≤ f.entry then (if f.letter = 0 then ftS f else (ftS f ++ (⟨#[32, 98, 121, 32, 108, 101, 116, 116, 101, 114, 32]⟩ : ByteArray)) ++ bA (Lib.itoa f.letter)) else ⟨#[]⟩
theorem itoa_sizeF (n : Int) (hn : I64 n) : (bA (Lib.itoa n)).size ≤ 21 := by
  unfold I64 at hn
  rw [bA_size]
  exact Lib.itoa_length_le n (by omega) (by omega)
theorem ftN_size (j : Nat) : (ftN.getD j ⟨#[]⟩).size ≤ 10 := by
  rcases j with _ | _ | _ | _ | _ | _ | j
  · decide
  · decide
  · decide
  · decide
  · decide
  · decide
  · show (⟨#[]⟩ : ByteArray).size ≤ 10
    decide
set_option maxHeartbeats 1000000 in
theorem toTableFault_any (cs : List Value) (x : TableFault) (fp : List Nat) (w : World) (h : Rp.rep w cs x fp) :
    Calls Tryd.prog 6 #[.agg cs.toArray] w fun e w' => ∃ cs' fp', e = .returned (.agg cs'.toArray) ∧ Rp.rep w' cs' x fp' ∧ Fresh w.heap.size w' fp' ∧ Only [] w w' := by
  obtain ⟨rfl, p0, p1, p2, -⟩ := h
  go_enter Tryd.func6, Tryd.ntmps6
  go_wp2
  refine bodyPost_ret (v := .agg #[.int .i64 x.kind, .int .i64 x.entry, .int .i64 x.letter]) (by simp [results, Tryd.results6, go_sem]) rfl ⟨[.int .i64 x.kind, .int .i64 x.entry, .int .i64 x.letter], [], rfl, ⟨rfl, p0, p1, p2, rfl⟩, Fresh.nil _ _, (by with_reducible repeat (first | exact Only.refl _ _ | assumption | refine Only.drewN ?_ _ | refine Only.drew ?_ | refine Only.alloc ?_ _ | refine Only.setCell ?_ (by intro hh; exfalso; simp at hh; try omega) _ | refine Only.trans ?_ (by assumption)))⟩
/-- the table of the texts -/
def FtT (w : World) : Prop := ∀ j : Nat, j < 6 → w.cell? ⟨0, j + 1, none⟩ = some (.string (ftN.getD j ⟨#[]⟩))
theorem FtT.keep {w w' : World} (h : FtT w) (k : Only [] w w') : FtT w' := fun j hj => k.cell (by simp) (h j hj)
set_option maxHeartbeats 2000000 in
theorem specFault_no (cs : List Value) (f : TableFault) (fp : List Nat) (w : World) (h : Rp.rep w cs f fp) (hno : ¬ (inR f.kind 1 6 = true ∧ 0 ≤ f.entry)) :
    Calls Tryd.prog 5 #[.agg cs.toArray] w fun e w' => e = .returned (.string (fmtF f)) ∧ Only [] w w' := by
  obtain ⟨rfl, p0, -, -, -⟩ := h
  have Hf : Hid (fmtF f = ⟨#[]⟩) := Lib.hid (by unfold fmtF; rw [if_neg hno])
  have R0 := Blk.new w [.int .i64 f.kind, .int .i64 f.entry, .int .i64 f.letter] 25
  have c0 := R0.cell 0 rfl
  have c1 := R0.cell 1 rfl
  rcases hq : inR f.kind 1 6
  · have Hq := Lib.hid hq
    clear hq hno p0
    go_enter Tryd.func5, Tryd.ntmps5
    go_wp2_with (first
      | (go_at_call 11; (with_reducible refine (inRange_any f.kind 1 6 _).mono ?_); rintro e w1 ⟨he, hw1⟩; rw [Hq.out] at he; subst he; rw [hw1]; clear hw1)
      | fail "no arm")
    go_ret
    exact ⟨by rw [Hf.out]; rfl, (by with_reducible repeat (first | exact Only.refl _ _ | assumption | refine Only.drewN ?_ _ | refine Only.drew ?_ | refine Only.alloc ?_ _ | refine Only.setCell ?_ (by intro hh; exfalso; simp at hh; try omega) _ | refine Only.trans ?_ (by assumption)))⟩
  · have he0 : f.entry < 0 := by
      rcases Int.lt_or_le f.entry 0 with h1 | h1
      · exact h1
      · exact absurd ⟨hq, h1⟩ hno
    have Hq := Lib.hid hq
    clear hq hno p0
    go_enter Tryd.func5, Tryd.ntmps5
    go_wp2_with (first
      | (go_at_call 11; (with_reducible refine (inRange_any f.kind 1 6 _).mono ?_); rintro e w1 ⟨he, hw1⟩; rw [Hq.out] at he; subst he; rw [hw1]; clear hw1)
      | fail "no arm")
    go_ret
    exact ⟨by rw [Hf.out]; rfl, (by with_reducible repeat (first | exact Only.refl _ _ | assumption | refine Only.drewN ?_ _ | refine Only.drew ?_ | refine Only.alloc ?_ _ | refine Only.setCell ?_ (by intro hh; exfalso; simp at hh; try omega) _ | refine Only.trans ?_ (by assumption)))⟩
set_option maxHeartbeats 4000000 in
theorem specFault_yes (cs : List Value) (f : TableFault) (fp : List Nat) (w : World) (h : Rp.rep w cs f fp) (hq : inR f.kind 1 6 = true) (he0 : 0 ≤ f.entry) :
    Calls Tryd.prog 5 #[.agg cs.toArray] w fun e w' => e = .returned (.string (fmtF f)) ∧ Only [] w w' := by
  obtain ⟨rfl, p0, p1, p2, -⟩ := h
  have hk := inR_iff.1 hq
  have hE := itoa_sizeF f.entry p1
  have hL := itoa_sizeF f.letter p2
  obtain ⟨j, hj⟩ : ∃ j : Nat, j = f.kind.toNat - 1 := ⟨_, rfl⟩
  have hj6 : j < 6 := by omega
  have hkj : f.kind = (j : Int) + 1 := by omega
  have hN := ftN_size j
  have HcE : Hid (∀ W, Only [] w W → Calls Tryd.prog 12 #[.int .i64 f.entry] W fun e w' => e = .returned (.string (bA (Lib.itoa f.entry))) ∧ Only [] W w') := Lib.hid fun W hW => formatInt_any f.entry p1 W
  have HcL : Hid (∀ W, Only [] w W → Calls Tryd.prog 12 #[.int .i64 f.letter] W fun e w' => e = .returned (.string (bA (Lib.itoa f.letter))) ∧ Only [] W w') := Lib.hid fun W hW => formatInt_any f.letter p2 W
  have Hr : Hid (fmtF f = if f.letter = 0 then ftS f else (ftS f ++ (⟨#[32, 98, 121, 32, 108, 101, 116, 116, 101, 114, 32]⟩ : ByteArray)) ++ bA (Lib.itoa f.letter)) := Lib.hid (by unfold fmtF; rw [if_pos ⟨hq, he0⟩])
  have Hs : Hid (ftS f = (ftN.getD j ⟨#[]⟩ ++ (⟨#[32, 97, 116, 32, 101, 110, 116, 114, 121, 32]⟩ : ByteArray)) ++ bA (Lib.itoa f.entry)) := Lib.hid (by unfold ftS; rw [hj])
  obtain ⟨E, hEd⟩ : ∃ S, S = bA (Lib.itoa f.entry) := ⟨_, rfl⟩
  obtain ⟨S, hSd⟩ : ∃ S, S = bA (Lib.itoa f.letter) := ⟨_, rfl⟩
  obtain ⟨nm, hnm⟩ : ∃ nm, nm = ftN.getD j ⟨#[]⟩ := ⟨_, rfl⟩
  rw [← hEd] at hE HcE Hs
  rw [← hSd] at hL HcL Hr
  rw [← hnm] at hN Hs
  have Hq := Lib.hid hq
  have R0 := Blk.new w [.int .i64 f.kind, .int .i64 f.entry, .int .i64 f.letter] 25
  have k0 : Only [] w (w.alloc (.cells #[.int .i64 f.kind, .int .i64 f.entry, .int .i64 f.letter] 25)) := (Only.refl _ _).alloc _
  have N0 : Blk ((w.alloc (.cells #[.int .i64 f.kind, .int .i64 f.entry, .int .i64 f.letter] 25)).alloc (.cells #[.string (⟨#[115, 116, 97, 114, 116]⟩ : ByteArray), .string (⟨#[100, 117, 112, 108, 105, 99, 97, 116, 101]⟩ : ByteArray), .string (⟨#[122, 101, 114, 111]⟩ : ByteArray), .string (⟨#[109, 105, 115, 115, 105, 110, 103]⟩ : ByteArray), .string (⟨#[106, 117, 109, 112]⟩ : ByteArray), .string (⟨#[110, 111, 32, 100, 101, 115, 99, 101, 110, 116]⟩ : ByteArray)] 9)) (w.heap.size + 1) [.string (⟨#[115, 116, 97, 114, 116]⟩ : ByteArray), .string (⟨#[100, 117, 112, 108, 105, 99, 97, 116, 101]⟩ : ByteArray), .string (⟨#[122, 101, 114, 111]⟩ : ByteArray), .string (⟨#[109, 105, 115, 115, 105, 110, 103]⟩ : ByteArray), .string (⟨#[106, 117, 109, 112]⟩ : ByteArray), .string (⟨#[110, 111, 32, 100, 101, 115, 99, 101, 110, 116]⟩ : ByteArray)] := Blk.new_at (by simp)
  have z0 : (⟨#[32, 97, 116, 32, 101, 110, 116, 114, 121, 32]⟩ : ByteArray).size = 10 := rfl
  have y0 : (⟨#[32, 98, 121, 32, 108, 101, 116, 116, 101, 114, 32]⟩ : ByteArray).size = 11 := rfl
  have z1 : ¬ 9223372036854775807 < nm.size + (⟨#[32, 97, 116, 32, 101, 110, 116, 114, 121, 32]⟩ : ByteArray).size := by rw [z0]; omega
  have z2 : ¬ 9223372036854775807 < (nm ++ (⟨#[32, 97, 116, 32, 101, 110, 116, 114, 121, 32]⟩ : ByteArray)).size + E.size := by rw [ByteArray.size_append, z0]; omega
  have hT : ((nm ++ (⟨#[32, 97, 116, 32, 101, 110, 116, 114, 121, 32]⟩ : ByteArray)) ++ E).size ≤ 41 := by rw [ByteArray.size_append, ByteArray.size_append, z0]; omega
  have z3 : ¬ 9223372036854775807 < nm.size + (⟨#[32, 97, 116, 32, 101, 110, 116, 114, 121, 32]⟩ : ByteArray).size + E.size := by rw [z0]; omega
  have z1' : ¬ 9223372036854775807 < nm.size + 10 := by omega
  have z3' : ¬ 9223372036854775807 < nm.size + 10 + E.size := by omega
  have z5 : nm.size + (⟨#[32, 97, 116, 32, 101, 110, 116, 114, 121, 32]⟩ : ByteArray).size ≤ 9223372036854775807 := by rw [z0]; omega
  have z5' : nm.size + 10 ≤ 9223372036854775807 := by omega
  have z6 : (nm ++ (⟨#[32, 97, 116, 32, 101, 110, 116, 114, 121, 32]⟩ : ByteArray)).size + E.size ≤ 9223372036854775807 := by rw [ByteArray.size_append, z0]; omega
  have z6' : nm.size + 10 + E.size ≤ 9223372036854775807 := by omega

  have hw1 : IntKind.i64.wrap (f.kind - 1) = (j : Int) := by rw [IntKind.wrap_i64]; omega
  have hj0 : (0 : Int) ≤ (j : Int) := by omega
  have hj6I : (j : Int) < 6 := by omega
  have hgl : ([.string (⟨#[115, 116, 97, 114, 116]⟩ : ByteArray), .string (⟨#[100, 117, 112, 108, 105, 99, 97, 116, 101]⟩ : ByteArray), .string (⟨#[122, 101, 114, 111]⟩ : ByteArray), .string (⟨#[109, 105, 115, 115, 105, 110, 103]⟩ : ByteArray), .string (⟨#[106, 117, 109, 112]⟩ : ByteArray), .string (⟨#[110, 111, 32, 100, 101, 115, 99, 101, 110, 116]⟩ : ByteArray)] : List Value)[j]? = some (.string nm) := by
    rw [hnm]
    rcases j with _ | _ | _ | _ | _ | _ | j
    · rfl
    · rfl
    · rfl
    · rfl
    · rfl
    · rfl
    · omega
  obtain ⟨W2, hW2⟩ : ∃ W2, W2 = (w.alloc (.cells #[.int .i64 f.kind, .int .i64 f.entry, .int .i64 f.letter] 25)).alloc (.cells #[.string (⟨#[115, 116, 97, 114, 116]⟩ : ByteArray), .string (⟨#[100, 117, 112, 108, 105, 99, 97, 116, 101]⟩ : ByteArray), .string (⟨#[122, 101, 114, 111]⟩ : ByteArray), .string (⟨#[109, 105, 115, 115, 105, 110, 103]⟩ : ByteArray), .string (⟨#[106, 117, 109, 112]⟩ : ByteArray), .string (⟨#[110, 111, 32, 100, 101, 115, 99, 101, 110, 116]⟩ : ByteArray)] 9) := ⟨_, rfl⟩
  have k2 : Only [] w W2 := by rw [hW2]; exact k0.alloc _
  have R2 : Blk W2 w.heap.size [.int .i64 f.kind, .int .i64 f.entry, .int .i64 f.letter] := by rw [hW2]; exact R0.keep ((Only.refl _ _).alloc _)
  rw [← hW2] at N0
  have c0 := R2.cell 0 rfl
  have c1 := R2.cell 1 rfl
  have cn := N0.cell j hgl
  have c0e := R0.cell 0 rfl
  have c1e := R0.cell 1 rfl
  clear hgl hq hk hj hkj hEd hSd hnm p0 p1 p2
  subst hW2

  by_cases hl : f.letter = 0
  · have Hr2 := Hr.out
    rw [if_pos hl, Hs.out] at Hr2
    have Hr3 := Lib.hid Hr2
    have hlb : (f.letter != 0) = false := by simp [hl]
    clear hl Hr2
    go_enter Tryd.func5, Tryd.ntmps5
    go_upto_region 4 with (first
      | (go_at_call 11; (with_reducible refine (inRange_any f.kind 1 6 _).mono ?_); rintro e w1 ⟨he, hw1⟩; rw [Hq.out] at he; subst he; rw [hw1]; clear hw1)
      | fail "no arm")
    go_region_held3 (fun w' => Only [] ((w.alloc (.cells #[.int .i64 f.kind, .int .i64 f.entry, .int .i64 f.letter] 25)).alloc (.cells #[.string (⟨#[115, 116, 97, 114, 116]⟩ : ByteArray), .string (⟨#[100, 117, 112, 108, 105, 99, 97, 116, 101]⟩ : ByteArray), .string (⟨#[122, 101, 114, 111]⟩ : ByteArray), .string (⟨#[109, 105, 115, 115, 105, 110, 103]⟩ : ByteArray), .string (⟨#[106, 117, 109, 112]⟩ : ByteArray), .string (⟨#[110, 111, 32, 100, 101, 115, 99, 101, 110, 116]⟩ : ByteArray)] 9)) w' ∧ w'.cell? ⟨w.heap.size, 0, none⟩ = some (.int .i64 f.kind) ∧ w'.cell? ⟨w.heap.size, 1, none⟩ = some (.int .i64 f.entry) ∧ w'.cell? ⟨w.heap.size + 1, j, none⟩ = some (.string nm)) ((refine and_of ?_ (fun h__ => ⟨h__.cell (by simp) c0, h__.cell (by simp) c1, h__.cell (by simp) cn⟩); first | with_reducible exact (Only.refl _ _).drew | with_reducible exact Only.trans (And.left (by assumption)) (by assumption) | assumption)) (first
      | (go_at_call 12; (with_reducible refine (HcE.out _ (k2.trans (And.left (by assumption)))).mono ?_); rintro e w9 ⟨rfl, t9⟩)
      | fail "no arm")
    have kR : Only [] ((w.alloc (.cells #[.int .i64 f.kind, .int .i64 f.entry, .int .i64 f.letter] 25)).alloc (.cells #[.string (⟨#[115, 116, 97, 114, 116]⟩ : ByteArray), .string (⟨#[100, 117, 112, 108, 105, 99, 97, 116, 101]⟩ : ByteArray), .string (⟨#[122, 101, 114, 111]⟩ : ByteArray), .string (⟨#[109, 105, 115, 115, 105, 110, 103]⟩ : ByteArray), .string (⟨#[106, 117, 109, 112]⟩ : ByteArray), .string (⟨#[110, 111, 32, 100, 101, 115, 99, 101, 110, 116]⟩ : ByteArray)] 9)) w9 := ((Only.refl _ _).drew).trans t9
    have R9 := R2.keep kR
    have c29 := R9.cell 2 rfl
    go_wp2
    go_ret
    exact ⟨by rw [Hr3.out]; rfl, k2.trans kR⟩
  · have Hr2 := Hr.out
    rw [if_neg hl, Hs.out] at Hr2
    have Hr3 := Lib.hid Hr2
    have hlb : (f.letter != 0) = true := by simp [hl]
    clear hl Hr2
    go_enter Tryd.func5, Tryd.ntmps5
    go_upto_region 4 with (first
      | (go_at_call 11; (with_reducible refine (inRange_any f.kind 1 6 _).mono ?_); rintro e w1 ⟨he, hw1⟩; rw [Hq.out] at he; subst he; rw [hw1]; clear hw1)
      | fail "no arm")
    go_region_held3 (fun w' => Only [] ((w.alloc (.cells #[.int .i64 f.kind, .int .i64 f.entry, .int .i64 f.letter] 25)).alloc (.cells #[.string (⟨#[115, 116, 97, 114, 116]⟩ : ByteArray), .string (⟨#[100, 117, 112, 108, 105, 99, 97, 116, 101]⟩ : ByteArray), .string (⟨#[122, 101, 114, 111]⟩ : ByteArray), .string (⟨#[109, 105, 115, 115, 105, 110, 103]⟩ : ByteArray), .string (⟨#[106, 117, 109, 112]⟩ : ByteArray), .string (⟨#[110, 111, 32, 100, 101, 115, 99, 101, 110, 116]⟩ : ByteArray)] 9)) w' ∧ w'.cell? ⟨w.heap.size, 0, none⟩ = some (.int .i64 f.kind) ∧ w'.cell? ⟨w.heap.size, 1, none⟩ = some (.int .i64 f.entry) ∧ w'.cell? ⟨w.heap.size + 1, j, none⟩ = some (.string nm)) ((refine and_of ?_ (fun h__ => ⟨h__.cell (by simp) c0, h__.cell (by simp) c1, h__.cell (by simp) cn⟩); first | with_reducible exact (Only.refl _ _).drew | with_reducible exact Only.trans (And.left (by assumption)) (by assumption) | assumption)) (first
      | (go_at_call 12; (with_reducible refine (HcE.out _ (k2.trans (And.left (by assumption)))).mono ?_); rintro e w9 ⟨rfl, t9⟩)
      | fail "no arm")
    have kR : Only [] ((w.alloc (.cells #[.int .i64 f.kind, .int .i64 f.entry, .int .i64 f.letter] 25)).alloc (.cells #[.string (⟨#[115, 116, 97, 114, 116]⟩ : ByteArray), .string (⟨#[100, 117, 112, 108, 105, 99, 97, 116, 101]⟩ : ByteArray), .string (⟨#[122, 101, 114, 111]⟩ : ByteArray), .string (⟨#[109, 105, 115, 115, 105, 110, 103]⟩ : ByteArray), .string (⟨#[106, 117, 109, 112]⟩ : ByteArray), .string (⟨#[110, 111, 32, 100, 101, 115, 99, 101, 110, 116]⟩ : ByteArray)] 9)) w9 := ((Only.refl _ _).drew).trans t9
    have R9 := R2.keep kR
    have c29 := R9.cell 2 rfl
    go_wp2_with (first
      | (go_at_call 12; (with_reducible refine (HcL.out w9 (k2.trans kR)).mono ?_); rintro e wA ⟨rfl, tA⟩)
      | fail "no arm")
    go_ret
    exact ⟨by rw [Hr3.out]; rfl, (k2.trans kR).trans tA⟩
set_option maxHeartbeats 2000000 in
theorem implFault_no (cs : List Value) (f : TableFault) (fp : List Nat) (w : World) (h : Rp.rep w cs f fp) (hno : ¬ (inR f.kind 1 6 = true ∧ 0 ≤ f.entry)) :
    Calls Tryd.prog 7 #[.agg cs.toArray] w fun e w' => e = .returned (.string (fmtF f)) ∧ Only [] w w' := by
  obtain ⟨rfl, p0, -, -, -⟩ := h
  have Hf : Hid (fmtF f = ⟨#[]⟩) := Lib.hid (by unfold fmtF; rw [if_neg hno])
  have R0 := Blk.new w [.int .i64 f.kind, .int .i64 f.entry, .int .i64 f.letter] 25
  have c0 := R0.cell 0 rfl
  have c1 := R0.cell 1 rfl
  rcases hq : inR f.kind 1 6
  · have Hq := Lib.hid hq
    clear hq hno p0
    go_enter Tryd.func7, Tryd.ntmps7
    go_wp2_with (first
      | (go_at_call 13; (with_reducible refine (within_any f.kind 1 6 _).mono ?_); rintro e w1 ⟨he, hw1⟩; rw [Hq.out] at he; subst he; rw [hw1]; clear hw1)
      | fail "no arm")
    go_ret
    exact ⟨by rw [Hf.out]; rfl, (by with_reducible repeat (first | exact Only.refl _ _ | assumption | refine Only.drewN ?_ _ | refine Only.drew ?_ | refine Only.alloc ?_ _ | refine Only.setCell ?_ (by intro hh; exfalso; simp at hh; try omega) _ | refine Only.trans ?_ (by assumption)))⟩
  · have he0 : f.entry < 0 := by
      rcases Int.lt_or_le f.entry 0 with h1 | h1
      · exact h1
      · exact absurd ⟨hq, h1⟩ hno
    have Hq := Lib.hid hq
    clear hq hno p0
    go_enter Tryd.func7, Tryd.ntmps7
    go_wp2_with (first
      | (go_at_call 13; (with_reducible refine (within_any f.kind 1 6 _).mono ?_); rintro e w1 ⟨he, hw1⟩; rw [Hq.out] at he; subst he; rw [hw1]; clear hw1)
      | fail "no arm")
    go_ret
    exact ⟨by rw [Hf.out]; rfl, (by with_reducible repeat (first | exact Only.refl _ _ | assumption | refine Only.drewN ?_ _ | refine Only.drew ?_ | refine Only.alloc ?_ _ | refine Only.setCell ?_ (by intro hh; exfalso; simp at hh; try omega) _ | refine Only.trans ?_ (by assumption)))⟩
set_option maxHeartbeats 4000000 in
theorem implFault_yes (cs : List Value) (f : TableFault) (fp : List Nat) (w : World) (h : Rp.rep w cs f fp) (hq : inR f.kind 1 6 = true) (he0 : 0 ≤ f.entry) (ht : Pow10 w) (hf : FtT w) :
    Calls Tryd.prog 7 #[.agg cs.toArray] w fun e w' => e = .returned (.string (fmtF f)) ∧ Only [] w w' := by
  obtain ⟨rfl, p0, p1, p2, -⟩ := h
  have hk := inR_iff.1 hq
  have hE := itoa_sizeF f.entry p1
  have hL := itoa_sizeF f.letter p2
  obtain ⟨j, hj⟩ : ∃ j : Nat, j = f.kind.toNat - 1 := ⟨_, rfl⟩
  have hj6 : j < 6 := by omega
  have hkj : f.kind = (j : Int) + 1 := by omega
  have hN := ftN_size j
  have HcE : Hid (∀ W, Only [] w W → Calls Tryd.prog 14 #[.int .i64 f.entry] W fun e w' => e = .returned (.string (bA (Lib.itoa f.entry))) ∧ Only [] W w') := Lib.hid fun W hW => decimal_any f.entry p1 W (ht.keep hW)
  have HcL : Hid (∀ W, Only [] w W → Calls Tryd.prog 14 #[.int .i64 f.letter] W fun e w' => e = .returned (.string (bA (Lib.itoa f.letter))) ∧ Only [] W w') := Lib.hid fun W hW => decimal_any f.letter p2 W (ht.keep hW)
  have Hr : Hid (fmtF f = if f.letter = 0 then ftS f else (ftS f ++ (⟨#[32, 98, 121, 32, 108, 101, 116, 116, 101, 114, 32]⟩ : ByteArray)) ++ bA (Lib.itoa f.letter)) := Lib.hid (by unfold fmtF; rw [if_pos ⟨hq, he0⟩])
  have Hs : Hid (ftS f = (ftN.getD j ⟨#[]⟩ ++ (⟨#[32, 97, 116, 32, 101, 110, 116, 114, 121, 32]⟩ : ByteArray)) ++ bA (Lib.itoa f.entry)) := Lib.hid (by unfold ftS; rw [hj])
  obtain ⟨E, hEd⟩ : ∃ S, S = bA (Lib.itoa f.entry) := ⟨_, rfl⟩
  obtain ⟨S, hSd⟩ : ∃ S, S = bA (Lib.itoa f.letter) := ⟨_, rfl⟩
  obtain ⟨nm, hnm⟩ : ∃ nm, nm = ftN.getD j ⟨#[]⟩ := ⟨_, rfl⟩
  rw [← hEd] at hE HcE Hs
  rw [← hSd] at hL HcL Hr
  rw [← hnm] at hN Hs
  have Hq := Lib.hid hq
  have R0 := Blk.new w [.int .i64 f.kind, .int .i64 f.entry, .int .i64 f.letter] 25
  have z0 : (⟨#[32, 97, 116, 32, 101, 110, 116, 114, 121, 32]⟩ : ByteArray).size = 10 := rfl
  have y0 : (⟨#[32, 98, 121, 32, 108, 101, 116, 116, 101, 114, 32]⟩ : ByteArray).size = 11 := rfl
  have z1 : ¬ 9223372036854775807 < nm.size + (⟨#[32, 97, 116, 32, 101, 110, 116, 114, 121, 32]⟩ : ByteArray).size := by rw [z0]; omega
  have z2 : ¬ 9223372036854775807 < (nm ++ (⟨#[32, 97, 116, 32, 101, 110, 116, 114, 121, 32]⟩ : ByteArray)).size + E.size := by rw [ByteArray.size_append, z0]; omega
  have hT : ((nm ++ (⟨#[32, 97, 116, 32, 101, 110, 116, 114, 121, 32]⟩ : ByteArray)) ++ E).size ≤ 41 := by rw [ByteArray.size_append, ByteArray.size_append, z0]; omega
  have z3 : ¬ 9223372036854775807 < nm.size + (⟨#[32, 97, 116, 32, 101, 110, 116, 114, 121, 32]⟩ : ByteArray).size + E.size := by rw [z0]; omega
  have z1' : ¬ 9223372036854775807 < nm.size + 10 := by omega
  have z3' : ¬ 9223372036854775807 < nm.size + 10 + E.size := by omega
  have z5 : nm.size + (⟨#[32, 97, 116, 32, 101, 110, 116, 114, 121, 32]⟩ : ByteArray).size ≤ 9223372036854775807 := by rw [z0]; omega
  have z5' : nm.size + 10 ≤ 9223372036854775807 := by omega
  have z6 : (nm ++ (⟨#[32, 97, 116, 32, 101, 110, 116, 114, 121, 32]⟩ : ByteArray)).size + E.size ≤ 9223372036854775807 := by rw [ByteArray.size_append, z0]; omega
  have z6' : nm.size + 10 + E.size ≤ 9223372036854775807 := by omega

  have hj0 : (0 : Int) ≤ ((j : Int) + 1) := by omega
  have hj6I : ((j : Int) + 1) < 7 := by omega
  obtain ⟨W2, hW2⟩ : ∃ W2, W2 = w.alloc (.cells #[.int .i64 f.kind, .int .i64 f.entry, .int .i64 f.letter] 25) := ⟨_, rfl⟩
  have k2 : Only [] w W2 := by rw [hW2]; exact (Only.refl _ _).alloc _
  rw [hkj] at R0 hW2 ⊢
  have R2 : Blk W2 w.heap.size [.int .i64 ((j : Int) + 1), .int .i64 f.entry, .int .i64 f.letter] := by rw [hW2]; exact R0
  have c0 := R2.cell 0 rfl
  have c1 := R2.cell 1 rfl
  have cn := k2.cell (by simp) (hf j hj6)
  rw [← hnm] at cn
  rw [hkj] at Hq
  have c0e := R0.cell 0 rfl
  have c1e := R0.cell 1 rfl
  have hnat : ((j : Int) + 1).toNat = j + 1 := by omega
  clear hq hk hj hEd hSd hnm p0 p1 p2 ht hf
  subst hW2

  by_cases hl : f.letter = 0
  · have Hr2 := Hr.out
    rw [if_pos hl, Hs.out] at Hr2
    have Hr3 := Lib.hid Hr2
    have hlb : (f.letter != 0) = false := by simp [hl]
    clear hl Hr2
    go_enter Tryd.func7, Tryd.ntmps7
    go_upto_region 3 with (first
      | (go_at_call 13; (with_reducible refine (within_any ((j : Int) + 1) 1 6 _).mono ?_); rintro e w1 ⟨he, hw1⟩; rw [Hq.out] at he; subst he; rw [hw1]; clear hw1)
      | fail "no arm")
    go_region_held3 (fun w' => Only [] (w.alloc (.cells #[.int .i64 ((j : Int) + 1), .int .i64 f.entry, .int .i64 f.letter] 25)) w' ∧ w'.cell? ⟨w.heap.size, 0, none⟩ = some (.int .i64 ((j : Int) + 1)) ∧ w'.cell? ⟨w.heap.size, 1, none⟩ = some (.int .i64 f.entry) ∧ w'.cell? ⟨0, j + 1, none⟩ = some (.string nm)) ((refine and_of ?_ (fun h__ => ⟨h__.cell (by simp) c0, h__.cell (by simp) c1, h__.cell (by simp) cn⟩); first | with_reducible exact (Only.refl _ _).drew | with_reducible exact Only.trans (And.left (by assumption)) (by assumption) | assumption)) (first
      | (go_at_call 14; (with_reducible refine (HcE.out _ (k2.trans (And.left (by assumption)))).mono ?_); rintro e w9 ⟨rfl, t9⟩)
      | fail "no arm")
    have kR : Only [] (w.alloc (.cells #[.int .i64 ((j : Int) + 1), .int .i64 f.entry, .int .i64 f.letter] 25)) w9 := ((Only.refl _ _).drew).trans t9
    have R9 := R2.keep kR
    have c29 := R9.cell 2 rfl
    go_wp2
    go_ret
    exact ⟨by rw [Hr3.out]; rfl, k2.trans kR⟩
  · have Hr2 := Hr.out
    rw [if_neg hl, Hs.out] at Hr2
    have Hr3 := Lib.hid Hr2
    have hlb : (f.letter != 0) = true := by simp [hl]
    clear hl Hr2
    go_enter Tryd.func7, Tryd.ntmps7
    go_upto_region 3 with (first
      | (go_at_call 13; (with_reducible refine (within_any ((j : Int) + 1) 1 6 _).mono ?_); rintro e w1 ⟨he, hw1⟩; rw [Hq.out] at he; subst he; rw [hw1]; clear hw1)
      | fail "no arm")
    go_region_held3 (fun w' => Only [] (w.alloc (.cells #[.int .i64 ((j : Int) + 1), .int .i64 f.entry, .int .i64 f.letter] 25)) w' ∧ w'.cell? ⟨w.heap.size, 0, none⟩ = some (.int .i64 ((j : Int) + 1)) ∧ w'.cell? ⟨w.heap.size, 1, none⟩ = some (.int .i64 f.entry) ∧ w'.cell? ⟨0, j + 1, none⟩ = some (.string nm)) ((refine and_of ?_ (fun h__ => ⟨h__.cell (by simp) c0, h__.cell (by simp) c1, h__.cell (by simp) cn⟩); first | with_reducible exact (Only.refl _ _).drew | with_reducible exact Only.trans (And.left (by assumption)) (by assumption) | assumption)) (first
      | (go_at_call 14; (with_reducible refine (HcE.out _ (k2.trans (And.left (by assumption)))).mono ?_); rintro e w9 ⟨rfl, t9⟩)
      | fail "no arm")
    have kR : Only [] (w.alloc (.cells #[.int .i64 ((j : Int) + 1), .int .i64 f.entry, .int .i64 f.letter] 25)) w9 := ((Only.refl _ _).drew).trans t9
    have R9 := R2.keep kR
    have c29 := R9.cell 2 rfl
    go_wp2_with (first
      | (go_at_call 14; (with_reducible refine (HcL.out w9 (k2.trans kR)).mono ?_); rintro e wA ⟨rfl, tA⟩)
      | fail "no arm")
    go_ret
    exact ⟨by rw [Hr3.out]; simp [ByteArray.append_assoc], (k2.trans kR).trans tA⟩
theorem specFault_any (cs : List Value) (f : TableFault) (fp : List Nat) (w : World) (h : Rp.rep w cs f fp) :
    Calls Tryd.prog 5 #[.agg cs.toArray] w fun e w' => e = .returned (.string (fmtF f)) ∧ Only [] w w' := by
  by_cases hc : inR f.kind 1 6 = true ∧ 0 ≤ f.entry
  · exact specFault_yes cs f fp w h hc.1 hc.2
  · exact specFault_no cs f fp w h hc
theorem implFault_any (cs : List Value) (f : TableFault) (fp : List Nat) (w : World) (h : Rp.rep w cs f fp) (ht : Pow10 w) (hf : FtT w) :
    Calls Tryd.prog 7 #[.agg cs.toArray] w fun e w' => e = .returned (.string (fmtF f)) ∧ Only [] w w' := by
  by_cases hc : inR f.kind 1 6 = true ∧ 0 ≤ f.entry
  · exact implFault_yes cs f fp w h hc.1 hc.2 ht hf
  · exact implFault_no cs f fp w h hc
set_option maxHeartbeats 1000000 in
theorem FnExactFormatFault_any (w : World) (caF : List Value) (aF : TableFault) (faF : List Nat) (raF : Rp.rep w caF aF faF) (ht : Pow10 w) (hf : FtT w) :
    Calls Tryd.prog 3 #[.agg caF.toArray] w fun e w' => e = .returned (.bool true) ∧ Only [] w w' := by
  obtain ⟨rfl, p0, p1, p2, -⟩ := id raF
  have R0 := Blk.new w [.int .i64 aF.kind, .int .i64 aF.entry, .int .i64 aF.letter] 23
  have c0 := R0.cell 0 rfl
  have c1 := R0.cell 1 rfl
  have c2 := R0.cell 2 rfl
  have k0 : Only [] w (w.alloc (.cells #[.int .i64 aF.kind, .int .i64 aF.entry, .int .i64 aF.letter] 23)) := (Only.refl _ _).alloc _
  have HT : Hid (Pow10 w) := Lib.hid ht
  have HF : Hid (FtT w) := Lib.hid hf
  have HR := Lib.hid raF
  have hbb : ((fmtF aF).toList != (fmtF aF).toList) = false := by simp
  clear ht hf raF
  go_enter Tryd.func3, Tryd.ntmps3
  go_wp2_with (first
    | (go_at_call 6; (with_reducible refine (toTableFault_any _ aF faF _ (Rp.keep HR.out k0)).mono ?_); rintro e w1 ⟨cs1, f1, rfl, r1, -, t1⟩; have R1 := R0.keep t1; have c0' := R1.cell 0 rfl; have c1' := R1.cell 1 rfl; have c2' := R1.cell 2 rfl; have k1 := k0.trans t1)
    | (go_at_call 5; (with_reducible refine (specFault_any cs1 aF f1 w1 r1).mono ?_); rintro e w2 ⟨rfl, t2⟩; have R2 := R1.keep t2; have d0 := R2.cell 0 rfl; have d1 := R2.cell 1 rfl; have d2 := R2.cell 2 rfl; have k2 := k1.trans t2)
    | (go_at_call 6; (with_reducible refine (toTableFault_any _ aF faF _ (Rp.keep HR.out k2)).mono ?_); rintro e w3 ⟨cs3, f3, rfl, r3, -, t3⟩; have k3 := k2.trans t3)
    | (go_at_call 7; (with_reducible refine (implFault_any cs3 aF f3 w3 r3 (HT.out.keep k3) (HF.out.keep k3)).mono ?_); rintro e w4 ⟨rfl, t4⟩; have k4 := k3.trans t4)
    | fail "no arm")
  go_ret
  exact ⟨rfl, k4⟩
end Go.Proofs.YtaiehpclmcfagaaDoor

namespace Go.Proofs.YtaiehpclmcfagaaDoor
open Go.RowKit Go.ChangeShapes Go.WideShapes Go.ChangeAt Go.Deep
set_option maxRecDepth 10000
section
variable {H : Type} {enc : TypeId × Value → H} {P : Program} {W : World} {sp : Nat → Bool} {hd : Bool}
end
section
variable {H : Type} {enc : TypeId × Value → H} {W : World} {sp : Nat → Bool} {hd : Bool}
end

section
variable {H : Type} {enc : TypeId × Value → H} {W : World} {sp : Nat → Bool} {hd : Bool}
end
end Go.Proofs.YtaiehpclmcfagaaDoor


namespace Go.Proofs.YtaiehpclmcfagaaDoor
open Go.RowKit Go.ChangeShapes Go.WideShapes Go.ChangeAt Go.Deep
set_option maxRecDepth 10000

instance : Inhabited TableFault := ⟨⟨0, 0, 0⟩⟩
section
variable {H : Type} {enc : TypeId × Value → H} {W : World} {sp : Nat → Bool} {hd : Bool}
theorem conv_TableFault (fuel : Nat) (cs : List Value) (x : DataW H × List MemPlace) (h : DataW.trod enc Tryd.prog W 0 sp hd fuel 23 cs = some x) :
    ∃ (d : TableFault) (fp : List Nat), Rp.rep W cs d fp := by
  obtain ⟨xs, n, -, rfl, hl, hlen, hg⟩ := DataW.trod_struct Tryd.underlying23 h
  have hl' : cs.length = 3 := hl.trans (by kernel_rfl)
  have hx : xs.length = 3 := hlen
  match cs, hl' with
  | [a0, a1, a2], _ =>
    have g0 := (hg 0 _ rfl).trans (List.getElem?_eq_getElem (by omega : 0 < xs.length))
    have z0 : Tryd.prog.cellsOf 2 = 1 := by kernel_rfl
    obtain ⟨n0, q0, -, w0⟩ := DataW.trod_int Tryd.underlying2 g0
    have q0' : [a0] = [Value.int .i64 n0] := by have q : List.take (Tryd.prog.cellsOf 2) (List.drop 0 [a0, a1, a2]) = _ := q0; rw [z0] at q; exact q
    have b0 : I64 n0 := id (α := (-9223372036854775808 : Int) ≤ n0 ∧ n0 ≤ 9223372036854775807) (by simpa [Lit.wf, IntKind.min, IntKind.max, IntKind.signed, IntKind.bits] using w0)
    injection q0' with q0'; subst q0'
    have g1 := (hg 1 _ rfl).trans (List.getElem?_eq_getElem (by omega : 1 < xs.length))
    have z1 : Tryd.prog.cellsOf 2 = 1 := by kernel_rfl
    obtain ⟨n1, q1, -, w1⟩ := DataW.trod_int Tryd.underlying2 g1
    have q1' : [a1] = [Value.int .i64 n1] := by have q : List.take (Tryd.prog.cellsOf 2) (List.drop 1 [Value.int .i64 n0, a1, a2]) = _ := q1; rw [z1] at q; exact q
    have b1 : I64 n1 := id (α := (-9223372036854775808 : Int) ≤ n1 ∧ n1 ≤ 9223372036854775807) (by simpa [Lit.wf, IntKind.min, IntKind.max, IntKind.signed, IntKind.bits] using w1)
    injection q1' with q1'; subst q1'
    have g2 := (hg 2 _ rfl).trans (List.getElem?_eq_getElem (by omega : 2 < xs.length))
    have z2 : Tryd.prog.cellsOf 2 = 1 := by kernel_rfl
    obtain ⟨n2, q2, -, w2⟩ := DataW.trod_int Tryd.underlying2 g2
    have q2' : [a2] = [Value.int .i64 n2] := by have q : List.take (Tryd.prog.cellsOf 2) (List.drop 2 [Value.int .i64 n0, Value.int .i64 n1, a2]) = _ := q2; rw [z2] at q; exact q
    have b2 : I64 n2 := id (α := (-9223372036854775808 : Int) ≤ n2 ∧ n2 ≤ 9223372036854775807) (by simpa [Lit.wf, IntKind.min, IntKind.max, IntKind.signed, IntKind.bits] using w2)
    injection q2' with q2'; subst q2'
    exact ⟨⟨n0, n1, n2⟩, _, rfl, b0, b1, b2, rfl⟩
end
end Go.Proofs.YtaiehpclmcfagaaDoor
