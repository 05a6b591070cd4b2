/- From the row's own reading of an argument that is a struct, or a slice of structs, to 'rep'. (Printed by gen_conv.py.) -/
import Derived.Test.YtpfmkjcngknecaaConv
import Derived.Test.YtpfmkjcngknecaaLawSession
namespace Go.Proofs.Ytpfmkjcngknecaa
open Go.RowKit Go.ChangeShapes Go.WideShapes Go.ChangeAt Go.Deep
set_option maxRecDepth 10000

instance : Inhabited Puzzle := ⟨⟨0, ByteArray.empty, []⟩⟩
section
variable {H : Type} {enc : TypeId × Value → H} {W : World} {sp : Nat → Bool} {hd : Bool}
theorem conv_Puzzle (fuel : Nat) (cs : List Value) (x : DataW H × List MemPlace) (h : DataW.trod enc Try.prog W 0 sp hd fuel 24 cs = some x) :
    ∃ (d : Puzzle) (fp : List Nat), Rp.rep W cs d fp := by
  obtain ⟨xs, n, -, rfl, hl, hlen, hg⟩ := DataW.trod_struct Try.underlying24 h
  have hl' : cs.length = 3 := hl.trans (by kernel_rfl)
  have hx : xs.length = 3 := hlen
  match cs, hl' with
  | [a0, a1, a2], _ =>
    have g0 := (hg 0 _ rfl).trans (List.getElem?_eq_getElem (by omega : 0 < xs.length))
    have z0 : Try.prog.cellsOf 2 = 1 := by kernel_rfl
    obtain ⟨n0, q0, -, w0⟩ := DataW.trod_int Try.underlying2 g0
    have q0' : [a0] = [Value.int .i64 n0] := by have q : List.take (Try.prog.cellsOf 2) (List.drop 0 [a0, a1, a2]) = _ := q0; rw [z0] at q; exact q
    have b0 : I64 n0 := id (α := (-9223372036854775808 : Int) ≤ n0 ∧ n0 ≤ 9223372036854775807) (by simpa [Lit.wf, IntKind.min, IntKind.max, IntKind.signed, IntKind.bits] using w0)
    injection q0' with q0'; subst q0'
    have g1 := (hg 1 _ rfl).trans (List.getElem?_eq_getElem (by omega : 1 < xs.length))
    have z1 : Try.prog.cellsOf 9 = 1 := by kernel_rfl
    obtain ⟨n1, q1, -, w1⟩ := DataW.trod_string Try.underlying9 g1
    have q1' : [a1] = [Value.string n1] := by have q : List.take (Try.prog.cellsOf 9) (List.drop 1 [Value.int .i64 n0, a1, a2]) = _ := q1; rw [z1] at q; exact q
    injection q1' with q1'; subst q1'
    have g2 := (hg 2 _ rfl).trans (List.getElem?_eq_getElem (by omega : 2 < xs.length))
    have z2 : Try.prog.cellsOf 22 = 1 := by kernel_rfl
    obtain ⟨d2, f2, r2⟩ := conv_rows _ _ _ g2
    have r2' : Rp.rep W [a2] d2 f2 := by have q : Rp.rep W (List.take (Try.prog.cellsOf 22) (List.drop 2 [Value.int .i64 n0, Value.string n1, a2])) _ _ := r2; rw [z2] at q; exact q
    exact ⟨⟨n0, n1, d2⟩, _, a2, rfl, b0, w1, r2'⟩
end
instance : Inhabited Session := ⟨⟨default, [], [], []⟩⟩
section
variable {H : Type} {enc : TypeId × Value → H} {W : World} {sp : Nat → Bool} {hd : Bool}
theorem conv_Session (fuel : Nat) (cs : List Value) (x : DataW H × List MemPlace) (h : DataW.trod enc Try.prog W 0 sp hd fuel 27 cs = some x) :
    ∃ (d : Session) (fp : List Nat), Rp.rep W cs d fp := by
  obtain ⟨xs, n, -, rfl, hl, hlen, hg⟩ := DataW.trod_struct Try.underlying27 h
  have hl' : cs.length = 6 := hl.trans (by kernel_rfl)
  have hx : xs.length = 4 := hlen
  match cs, hl' with
  | [a0, a1, a2, a3, a4, a5], _ =>
    have g0 := (hg 0 _ rfl).trans (List.getElem?_eq_getElem (by omega : 0 < xs.length))
    have z0 : Try.prog.cellsOf 24 = 3 := by kernel_rfl
    obtain ⟨d0, f0, r0⟩ := conv_Puzzle _ _ _ g0
    have r0' : Rp.rep W [a0, a1, a2] d0 f0 := by have q : Rp.rep W (List.take (Try.prog.cellsOf 24) (List.drop 0 [a0, a1, a2, a3, a4, a5])) _ _ := r0; rw [z0] at q; exact q
    have g1 := (hg 1 _ rfl).trans (List.getElem?_eq_getElem (by omega : 1 < xs.length))
    have z1 : Try.prog.cellsOf 25 = 1 := by kernel_rfl
    obtain ⟨d1, f1, r1⟩ := conv_ints _ _ _ g1
    have r1' : Rp.rep W [a3] d1 f1 := by have q : Rp.rep W (List.take (Try.prog.cellsOf 25) (List.drop 3 [a0, a1, a2, a3, a4, a5])) _ _ := r1; rw [z1] at q; exact q
    have g2 := (hg 2 _ rfl).trans (List.getElem?_eq_getElem (by omega : 2 < xs.length))
    have z2 : Try.prog.cellsOf 22 = 1 := by kernel_rfl
    obtain ⟨d2, f2, r2⟩ := conv_rows _ _ _ g2
    have r2' : Rp.rep W [a4] d2 f2 := by have q : Rp.rep W (List.take (Try.prog.cellsOf 22) (List.drop 4 [a0, a1, a2, a3, a4, a5])) _ _ := r2; rw [z2] at q; exact q
    have g3 := (hg 3 _ rfl).trans (List.getElem?_eq_getElem (by omega : 3 < xs.length))
    have z3 : Try.prog.cellsOf 22 = 1 := by kernel_rfl
    obtain ⟨d3, f3, r3⟩ := conv_rows _ _ _ g3
    have r3' : Rp.rep W [a5] d3 f3 := by have q : Rp.rep W (List.take (Try.prog.cellsOf 22) (List.drop 5 [a0, a1, a2, a3, a4, a5])) _ _ := r3; rw [z3] at q; exact q
    exact ⟨⟨d0, d1, d2, d3⟩, _, [a0, a1, a2], a3, a4, a5, f0, f1, f2, f3, rfl, rfl, r0', r1', r2', r3'⟩
end
end Go.Proofs.Ytpfmkjcngknecaa
