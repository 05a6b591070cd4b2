/- From the row's own reading of an argument that is a struct, or a slice of structs, to 'rep'. (Printed by gen_conv.py.) -/
import Derived.Test.YtmilmbgnkpkmnaaConv
import Derived.Test.YtmilmbgnkpkmnaaLawTable
import Derived.Test.YtmilmbgnkpkmnaaLawPuzzle
namespace Go.Proofs.Ytmilmbgnkpkmnaa
open Go.RowKit Go.ChangeShapes Go.WideShapes Go.ChangeAt Go.Deep
set_option maxRecDepth 10000

instance : Inhabited Puzzle := ⟨⟨0, ByteArray.empty, []⟩⟩
section
variable {H : Type} {enc : TypeId × Value → H} {W : World} {sp : Nat → Bool} {hd : Bool}
theorem conv_Puzzle (fuel : Nat) (cs : List Value) (x : DataW H × List MemPlace) (h : DataW.trod enc Try.prog W 0 sp hd fuel 24 cs = some x) :
    ∃ (d : Puzzle) (fp : List Nat), Rp.rep W cs d fp := by
  obtain ⟨xs, n, -, rfl, hl, hlen, hg⟩ := DataW.trod_struct Try.underlying24 h
  have hl' : cs.length = 3 := hl.trans (by kernel_rfl)
  have hx : xs.length = 3 := hlen
  match cs, hl' with
  | [a0, a1, a2], _ =>
    have g0 := (hg 0 _ rfl).trans (List.getElem?_eq_getElem (by omega : 0 < xs.length))
    have z0 : Try.prog.cellsOf 2 = 1 := by kernel_rfl
    obtain ⟨n0, q0, -, w0⟩ := DataW.trod_int Try.underlying2 g0
    have q0' : [a0] = [Value.int .i64 n0] := by have q : List.take (Try.prog.cellsOf 2) (List.drop 0 [a0, a1, a2]) = _ := q0; rw [z0] at q; exact q
    have b0 : I64 n0 := id (α := (-9223372036854775808 : Int) ≤ n0 ∧ n0 ≤ 9223372036854775807) (by simpa [Lit.wf, IntKind.min, IntKind.max, IntKind.signed, IntKind.bits] using w0)
    injection q0' with q0'; subst q0'
    have g1 := (hg 1 _ rfl).trans (List.getElem?_eq_getElem (by omega : 1 < xs.length))
    have z1 : Try.prog.cellsOf 9 = 1 := by kernel_rfl
    obtain ⟨n1, q1, -, w1⟩ := DataW.trod_string Try.underlying9 g1
    have q1' : [a1] = [Value.string n1] := by have q : List.take (Try.prog.cellsOf 9) (List.drop 1 [Value.int .i64 n0, a1, a2]) = _ := q1; rw [z1] at q; exact q
    injection q1' with q1'; subst q1'
    have g2 := (hg 2 _ rfl).trans (List.getElem?_eq_getElem (by omega : 2 < xs.length))
    have z2 : Try.prog.cellsOf 22 = 1 := by kernel_rfl
    obtain ⟨d2, f2, r2⟩ := conv_rows _ _ _ g2
    have r2' : Rp.rep W [a2] d2 f2 := by have q : Rp.rep W (List.take (Try.prog.cellsOf 22) (List.drop 2 [Value.int .i64 n0, Value.string n1, a2])) _ _ := r2; rw [z2] at q; exact q
    exact ⟨⟨n0, n1, d2⟩, _, a2, rfl, b0, w1, r2'⟩
end
instance : Inhabited Table := ⟨⟨[], [], []⟩⟩
section
variable {H : Type} {enc : TypeId × Value → H} {W : World} {sp : Nat → Bool} {hd : Bool}
theorem conv_Table (fuel : Nat) (cs : List Value) (x : DataW H × List MemPlace) (h : DataW.trod enc Try.prog W 0 sp hd fuel 39 cs = some x) :
    ∃ (d : Table) (fp : List Nat), Rp.rep W cs d fp := by
  obtain ⟨xs, n, -, rfl, hl, hlen, hg⟩ := DataW.trod_struct Try.underlying39 h
  have hl' : cs.length = 3 := hl.trans (by kernel_rfl)
  have hx : xs.length = 3 := hlen
  match cs, hl' with
  | [a0, a1, a2], _ =>
    have g0 := (hg 0 _ rfl).trans (List.getElem?_eq_getElem (by omega : 0 < xs.length))
    have z0 : Try.prog.cellsOf 27 = 1 := by kernel_rfl
    obtain ⟨d0, f0, r0⟩ := conv_ints _ _ _ g0
    have r0' : Rp.rep W [a0] d0 f0 := by have q : Rp.rep W (List.take (Try.prog.cellsOf 27) (List.drop 0 [a0, a1, a2])) _ _ := r0; rw [z0] at q; exact q
    have g1 := (hg 1 _ rfl).trans (List.getElem?_eq_getElem (by omega : 1 < xs.length))
    have z1 : Try.prog.cellsOf 22 = 1 := by kernel_rfl
    obtain ⟨d1, f1, r1⟩ := conv_rows _ _ _ g1
    have r1' : Rp.rep W [a1] d1 f1 := by have q : Rp.rep W (List.take (Try.prog.cellsOf 22) (List.drop 1 [a0, a1, a2])) _ _ := r1; rw [z1] at q; exact q
    have g2 := (hg 2 _ rfl).trans (List.getElem?_eq_getElem (by omega : 2 < xs.length))
    have z2 : Try.prog.cellsOf 27 = 1 := by kernel_rfl
    obtain ⟨d2, f2, r2⟩ := conv_ints _ _ _ g2
    have r2' : Rp.rep W [a2] d2 f2 := by have q : Rp.rep W (List.take (Try.prog.cellsOf 27) (List.drop 2 [a0, a1, a2])) _ _ := r2; rw [z2] at q; exact q
    exact ⟨⟨d0, d1, d2⟩, _, a0, a1, a2, f0, f1, f2, rfl, rfl, r0', r1', r2'⟩
end
end Go.Proofs.Ytmilmbgnkpkmnaa
