/- The certificate of a solution: the reference's and the program's. The certificates of a lower bound and of optimality: the reference's and the program's. The reference's tables: where a letter leads, the first letter of a descent. Certificates that are accepted: plain laws (laws 56, 57, 58). What the built tables hold, counted. BoundCertified: the reference's and the program's (law 40). (Printed by mkbnd.py.) What the engine's solvers return, in plain words (laws 41, 46, 51, 52, 56, 57, 58). The words of a method by the program (laws 41, 51, 57, 58). The certificate of a method's words, by the program (laws 41, 51, 57, 58). (Printed by mkmthcert.py.) -/
import Derived.Test.YtclhblofchfglaaGreatRowMethodCertifiedG3
import Derived.Test.YtclhblofchfglaaGreatRowMethodCertifiedG13
import Derived.Test.YtclhblofchfglaaGreatRowMethodCertifiedG7
import Derived.Test.YtclhblofchfglaaGreatRowMethodCertifiedG9
import Derived.Test.YtclhblofchfglaaGreatRowMethodCertifiedG12
import Derived.Test.YtclhblofchfglaaGreatRowMethodCertifiedG10
import Derived.Test.YtclhblofchfglaaGreatRowMethodCertifiedG18
namespace Go.Proofs.YtclhblofchfglaaGreat
open Go.RowKit
set_option maxRecDepth 10000

def solCert (l : List Int) : Certificate := if validW 8 l then ⟨1, [], [l], []⟩ else ⟨0, [], [], []⟩
def noCert : Certificate := ⟨0, [], [], []⟩
theorem noCert_rep (w : World) : Rp.rep w [.int .i64 0, .slice none 0 0, .slice none 0 0, .slice none 0 0] noCert [] :=
  ⟨_, _, _, [], [], [], rfl, rfl, ⟨by simp [noCert], by simp [noCert]⟩, nil_rd w, nil_rd w, nil_rd w⟩
set_option maxHeartbeats 400000 in
theorem specSolCert_rd (v : Value) (l : List Int) (fp : List Nat) (w : World) (h : Rd w v l fp) :
    Calls Tryz.prog 33 #[v] w fun e w' => ∃ cs fp', e = .returned (.agg cs.toArray) ∧ Rp.rep w' cs (solCert l) fp' ∧ Fresh w.heap.size w' fp' ∧ Only [] w w' := by
  rcases hq : validW 8 l
  · have hp : solCert l = noCert := by unfold solCert; rw [if_neg (by simp [hq])]; rfl
    have Hp := Lib.hid hp
    clear hp
    go_enter Tryz.func33, Tryz.ntmps33
    go_wp2_with ((go_at_call 62; (with_reducible refine (specIsWord_rd v l _ _ (Rp.keep h (by with_reducible repeat (first | exact Only.refl _ _ | assumption | refine Only.drewN ?_ _ | refine Only.drew ?_ | refine Only.alloc ?_ _ | refine Only.setCell ?_ (by intro hh; exfalso; simp at hh; try omega) _ | refine Only.trans ?_ (by assumption))))).mono ?_); rintro e w1 ⟨rfl, n1, rfl⟩))
    refine bodyPost_ret (v := .agg #[.int .i64 0, .slice none 0 0, .slice none 0 0, .slice none 0 0]) (by simp [results, Tryz.results33, go_sem]) rfl ⟨[.int .i64 0, .slice none 0 0, .slice none 0 0, .slice none 0 0], [], rfl, ?_, Fresh.nil _ _, (by with_reducible repeat (first | exact Only.refl _ _ | assumption | refine Only.drewN ?_ _ | refine Only.drew ?_ | refine Only.alloc ?_ _ | refine Only.setCell ?_ (by intro hh; exfalso; simp at hh; try omega) _ | refine Only.trans ?_ (by assumption)))⟩
    rw [Hp.out]; exact noCert_rep _
  · have hp : solCert l = ⟨1, [], [l], []⟩ := by unfold solCert; rw [if_pos hq]
    have Hp := Lib.hid hp
    have hlen := validW_len hq
    clear hp
    go_enter Tryz.func33, Tryz.ntmps33
    go_wp2_with (first
      | (go_at_call 62; (with_reducible refine (specIsWord_rd v l _ _ (Rp.keep h (by with_reducible repeat (first | exact Only.refl _ _ | assumption | refine Only.drewN ?_ _ | refine Only.drew ?_ | refine Only.alloc ?_ _ | refine Only.setCell ?_ (by intro hh; exfalso; simp at hh; try omega) _ | refine Only.trans ?_ (by assumption))))).mono ?_); rintro e w1 ⟨rfl, n1, rfl⟩)
      | (go_at_call 63; (with_reducible refine (copyInts_rd v l _ _ (Rp.keep h (by with_reducible repeat (first | exact Only.refl _ _ | assumption | refine Only.drewN ?_ _ | refine Only.drew ?_ | refine Only.alloc ?_ _ | refine Only.setCell ?_ (by intro hh; exfalso; simp at hh; try omega) _ | refine Only.trans ?_ (by assumption)))) (by omega)).mono ?_); rintro e w2 ⟨v2, fp2, rfl, r2, F2, t2⟩; obtain ⟨A2, C2, _, _, rfl, -⟩ := r2.open_; have y2 := t2.cells_eq w.heap.size (by simp) (by simp); have z2 := t2.frozen_eq w.heap.size (by simp) (by simp); have s2 : w.heap.size < w2.heap.size := (by have := t2.size; simp at this; omega)))
    have T2 := t2.size
    simp at T2
    have hR := Rp.only (fp' := [w.heap.size]) (w' := (((w2.setCell ⟨w.heap.size, 0, none⟩ (.int .i64 1)).setCell ⟨w.heap.size, 1, none⟩ (.slice none 0 0)).setCell ⟨w.heap.size, 2, none⟩ (.slice (some ⟨w2.heap.size, 0, none⟩) 1 1)).setCell ⟨w.heap.size, 3, none⟩ (.slice none 0 0)) r2 (by with_reducible repeat (first | exact Only.refl _ _ | assumption | refine Only.drewN ?_ _ | refine Only.drew ?_ | refine Only.alloc ?_ _ | refine Only.setCell ?_ (by intro _; simp) _ | refine Only.trans ?_ (Only.weaken (by assumption) _))) (fun b hb hm => by have := F2.ge b hb; simp at hm this; omega)
    have hF := F2.only (fp' := [w.heap.size]) (w' := (((w2.setCell ⟨w.heap.size, 0, none⟩ (.int .i64 1)).setCell ⟨w.heap.size, 1, none⟩ (.slice none 0 0)).setCell ⟨w.heap.size, 2, none⟩ (.slice (some ⟨w2.heap.size, 0, none⟩) 1 1)).setCell ⟨w.heap.size, 3, none⟩ (.slice none 0 0)) (by with_reducible repeat (first | exact Only.refl _ _ | assumption | refine Only.drewN ?_ _ | refine Only.drew ?_ | refine Only.alloc ?_ _ | refine Only.setCell ?_ (by intro _; simp) _ | refine Only.trans ?_ (Only.weaken (by assumption) _))) (fun b hb hm => by have := F2.ge b hb; simp at hm this; omega)
    obtain ⟨o1, o2⟩ := one_rd hR 25 w.heap.size (hF.mono (by simp)) (g := w2.heap.size) (by simp [World.setCell]) (by omega)
    refine bodyPost_ret (v := .agg #[.int .i64 1, .slice none 0 0, .slice (some ⟨w2.heap.size, 0, none⟩) 1 1, .slice none 0 0]) (by simp [results, Tryz.results33, go_sem, y2, s2]) rfl ⟨[.int .i64 1, .slice none 0 0, .slice (some ⟨w2.heap.size, 0, none⟩) 1 1, .slice none 0 0], _, rfl, ?_, o2, (by with_reducible repeat (first | exact Only.refl _ _ | assumption | refine Only.drewN ?_ _ | refine Only.drew ?_ | refine Only.alloc ?_ _ | refine Only.setCell ?_ (by intro hh; exfalso; simp at hh; try omega) _ | refine Only.trans ?_ (by assumption)))⟩
    rw [Hp.out]
    exact ⟨_, _, _, [], _, [], rfl, (by simp), ⟨by simp, by simp⟩, nil_rd _, o1, nil_rd _⟩
set_option maxHeartbeats 400000 in
theorem implSolCert_rd (v : Value) (l : List Int) (fp : List Nat) (w : World) (h : Rd w v l fp) :
    Calls Tryz.prog 57 #[v] w fun e w' => ∃ cs fp', e = .returned (.agg cs.toArray) ∧ Rp.rep w' cs (solCert l) fp' ∧ Fresh w.heap.size w' fp' ∧ Only [] w w' := by
  rcases hq : validW 8 l
  · have hp : solCert l = noCert := by unfold solCert; rw [if_neg (by simp [hq])]; rfl
    have Hp := Lib.hid hp
    clear hp
    go_enter Tryz.func57, Tryz.ntmps57
    go_wp2_with ((go_at_call 103; (with_reducible refine (implIsWord_rd v l _ _ (Rp.keep h (by with_reducible repeat (first | exact Only.refl _ _ | assumption | refine Only.drewN ?_ _ | refine Only.drew ?_ | refine Only.alloc ?_ _ | refine Only.setCell ?_ (by intro hh; exfalso; simp at hh; try omega) _ | refine Only.trans ?_ (by assumption))))).mono ?_); rintro e w1 ⟨rfl, t1⟩; have y1 := t1.cells_eq w.heap.size (by simp) (by simp); have z1 := t1.frozen_eq w.heap.size (by simp) (by simp); have s1 : w.heap.size < w1.heap.size := (by have := t1.size; simp at this; omega)))
    refine bodyPost_ret (v := .agg #[.int .i64 0, .slice none 0 0, .slice none 0 0, .slice none 0 0]) (by simp [results, Tryz.results57, go_sem, y1]) rfl ⟨[.int .i64 0, .slice none 0 0, .slice none 0 0, .slice none 0 0], [], rfl, ?_, Fresh.nil _ _, (by with_reducible repeat (first | exact Only.refl _ _ | assumption | refine Only.drewN ?_ _ | refine Only.drew ?_ | refine Only.alloc ?_ _ | refine Only.setCell ?_ (by intro hh; exfalso; simp at hh; try omega) _ | refine Only.trans ?_ (by assumption)))⟩
    rw [Hp.out]; exact noCert_rep _
  · have hp : solCert l = ⟨1, [], [l], []⟩ := by unfold solCert; rw [if_pos hq]
    have Hp := Lib.hid hp
    have hlen := validW_len hq
    clear hp
    go_enter Tryz.func57, Tryz.ntmps57
    go_wp2_with (first
      | (go_at_call 103; (with_reducible refine (implIsWord_rd v l _ _ (Rp.keep h (by with_reducible repeat (first | exact Only.refl _ _ | assumption | refine Only.drewN ?_ _ | refine Only.drew ?_ | refine Only.alloc ?_ _ | refine Only.setCell ?_ (by intro hh; exfalso; simp at hh; try omega) _ | refine Only.trans ?_ (by assumption))))).mono ?_); rintro e w1 ⟨rfl, t1⟩; have y1 := t1.cells_eq w.heap.size (by simp) (by simp); have z1 := t1.frozen_eq w.heap.size (by simp) (by simp); have s1 : w.heap.size < w1.heap.size := (by have := t1.size; simp at this; omega))
      | (go_at_call 105; (with_reducible refine (Clone_rd v l _ _ (Rp.keep h (by with_reducible repeat (first | exact Only.refl _ _ | assumption | refine Only.drewN ?_ _ | refine Only.drew ?_ | refine Only.alloc ?_ _ | refine Only.setCell ?_ (by intro hh; exfalso; simp at hh; try omega) _ | refine Only.trans ?_ (by assumption)))) (by omega)).mono ?_); rintro e w2 ⟨v2, fp2, rfl, r2, F2, t2⟩; obtain ⟨A2, C2, _, _, rfl, -⟩ := r2.open_; have y2 := t2.cells_eq w.heap.size s1 (by simp); have z2 := t2.frozen_eq w.heap.size s1 (by simp); have s2 : w.heap.size < w2.heap.size := (by have := t2.size; omega)))
    have T2 := t2.size
    have hR := Rp.only (fp' := [w.heap.size]) (w' := (((w2.setCell ⟨w.heap.size, 0, none⟩ (.int .i64 1)).setCell ⟨w.heap.size, 1, none⟩ (.slice none 0 0)).setCell ⟨w.heap.size, 2, none⟩ (.slice (some ⟨w2.heap.size, 0, none⟩) 1 1)).setCell ⟨w.heap.size, 3, none⟩ (.slice none 0 0)) r2 (by with_reducible repeat (first | exact Only.refl _ _ | assumption | refine Only.drewN ?_ _ | refine Only.drew ?_ | refine Only.alloc ?_ _ | refine Only.setCell ?_ (by intro _; simp) _ | refine Only.trans ?_ (Only.weaken (by assumption) _))) (fun b hb hm => by have := F2.ge b hb; simp at hm; omega)
    have hF := F2.only (fp' := [w.heap.size]) (w' := (((w2.setCell ⟨w.heap.size, 0, none⟩ (.int .i64 1)).setCell ⟨w.heap.size, 1, none⟩ (.slice none 0 0)).setCell ⟨w.heap.size, 2, none⟩ (.slice (some ⟨w2.heap.size, 0, none⟩) 1 1)).setCell ⟨w.heap.size, 3, none⟩ (.slice none 0 0)) (by with_reducible repeat (first | exact Only.refl _ _ | assumption | refine Only.drewN ?_ _ | refine Only.drew ?_ | refine Only.alloc ?_ _ | refine Only.setCell ?_ (by intro _; simp) _ | refine Only.trans ?_ (Only.weaken (by assumption) _))) (fun b hb hm => by have := F2.ge b hb; simp at hm; omega)
    obtain ⟨o1, o2⟩ := one_rd hR 25 w.heap.size (hF.mono (by omega)) (g := w2.heap.size) (by simp [World.setCell]) (by omega)
    refine bodyPost_ret (v := .agg #[.int .i64 1, .slice none 0 0, .slice (some ⟨w2.heap.size, 0, none⟩) 1 1, .slice none 0 0]) (by simp [results, Tryz.results57, go_sem, y1, y2, s2]) rfl ⟨[.int .i64 1, .slice none 0 0, .slice (some ⟨w2.heap.size, 0, none⟩) 1 1, .slice none 0 0], _, rfl, ?_, o2, (by with_reducible repeat (first | exact Only.refl _ _ | assumption | refine Only.drewN ?_ _ | refine Only.drew ?_ | refine Only.alloc ?_ _ | refine Only.setCell ?_ (by intro hh; exfalso; simp at hh; try omega) _ | refine Only.trans ?_ (by assumption)))⟩
    rw [Hp.out]
    exact ⟨_, _, _, [], _, [], rfl, (by simp), ⟨by simp, by simp⟩, nil_rd _, o1, nil_rd _⟩
end Go.Proofs.YtclhblofchfglaaGreat

namespace Go.Proofs.YtclhblofchfglaaGreat
open Go.RowKit
set_option maxRecDepth 10000
end Go.Proofs.YtclhblofchfglaaGreat

namespace Go.Proofs.YtclhblofchfglaaGreat
open Go.RowKit
set_option maxRecDepth 10000

theorem patB_rng {n : Int} {k : Nat} {l : List Int} (h : patB n k l = true) : ∀ y ∈ l, 0 ≤ y ∧ y < n := (patB_iff.1 h).2.1
theorem foldl_take_succ {α β : Type} (f : β → α → β) (b : β) (l : List α) (j : Nat) (h : j < l.length) : (l.take (j + 1)).foldl f b = f ((l.take j).foldl f b) l[j] := by
  rw [take_succ_get l j h, List.foldl_append]; rfl
theorem foldl_pat {x : Puzzle} {k : Nat} (hv : validPz x = true) : ∀ (wl : List Int) (l : List Int), patB x.points k l = true → (∀ a ∈ wl, a ∈ ltrs x.moves.length) → patB x.points k (wl.foldl (nxt x) l) = true
  | [], l, h, _ => h
  | a :: wl, l, h, hw => foldl_pat hv wl _ (nxt_pat hv h (hw a (by simp))) fun b hb => hw b (by simp [hb])
set_option maxHeartbeats 2000000 in
theorem applyLetters_any (cs : List Value) (x : Puzzle) (fp : List Nat) (v u : Value) (l wl : List Int) (f2 f3 : List Nat) (k : Nat) (w : World) (h : Rp.rep w cs x fp) (h2 : Rd w v l f2) (h3 : Rd w u wl f3)
    (hv : validPz x = true) (hl : ∀ a ∈ wl, a ∈ ltrs x.moves.length) (hx : patB x.points k l = true) (hk : k ≤ 1000) (hwl : wl.length ≤ 1000000) :
    Calls Tryz.prog 76 #[.agg cs.toArray, v, u] w fun e w' => ∃ v fp', e = .returned v ∧ Rd w' v (wl.foldl (nxt x) l) fp' ∧ Fresh w.heap.size w' fp' ∧ Only [] w w' := by
  have h0 := h
  obtain ⟨v2, rfl, p0, p1, hm⟩ := h
  obtain ⟨A3, C3, rfl, I3⟩ := h3.ints
  have hlk := (patB_iff.1 hx).1
  have Hlk := Lib.hid hlk; clear hlk
  have hB := Blk.new_at (w := w) (cs := [.int .i64 x.points, .string x.names, v2]) (t := 33) rfl
  go_enter Tryz.func76, Tryz.ntmps76
  go_wp2_with ((go_at_call 63; (with_reducible refine (copyInts_rd v l _ _ (Rp.keep h2 (by with_reducible repeat (first | exact Only.refl _ _ | assumption | refine Only.drewN ?_ _ | refine Only.drew ?_ | refine Only.alloc ?_ _ | refine Only.setCell ?_ (by intro hh; exfalso; simp at hh; try omega) _ | refine Only.trans ?_ (by assumption)))) (by have := Hlk.out; omega)).mono ?_); rintro e w1 ⟨u1, f1, rfl, r1, F1, t1⟩))
  have hB1 := hB.keep t1
  have hKw : Only [] w w1 := (by with_reducible repeat (first | exact Only.refl _ _ | assumption | refine Only.drewN ?_ _ | refine Only.drew ?_ | refine Only.alloc ?_ _ | refine Only.setCell ?_ (by intro hh; exfalso; simp at hh; try omega) _ | refine Only.trans ?_ (by assumption)))
  have F1' := F1.mono (B' := w.heap.size) (by simp)
  clear hB F1
  go_loopw [7, 8] (fun o i wr => ∃ (j : Nat) (fo : List Nat), j ≤ wl.length ∧ i = .int .i64 j ∧ Rd wr o ((wl.take j).foldl (nxt x) l) fo ∧ Fresh w.heap.size wr fo ∧ Only [] w1 wr)
    (fun _ i _ => wl.length - (intOf i).toNat)
  case atStart => exact ⟨0, _, Nat.zero_le _, rfl, r1, F1', Only.refl _ _⟩
  case round =>
    obtain ⟨j, fo, hj, rfl, hr, hF, hK⟩ := hrel
    have y0 := (hB1.keep hK).cell 0 rfl
    have y1 := (hB1.keep hK).cell 1 rfl
    have y2 := (hB1.keep hK).cell 2 rfl
    have hKz : Only [] w wr := hKw.trans hK
    by_cases hlt : j < wl.length
    · obtain ⟨b, off, rfl, -, hc0⟩ := I3.at_ j hlt
      have hc := hKz.cell (by simp) hc0
      have hp := foldl_pat (k := k) hv (wl.take j) l hx (fun a ha => hl a (List.mem_of_mem_take ha))
      have hla := hl wl[j] (List.getElem_mem _)
      have Hlen := Lib.hid (patB_iff.1 hp).1
      have hs := foldl_take_succ (nxt x) l wl j hlt
      have Hs := Lib.hid hs
      generalize hcur : (wl.take j).foldl (nxt x) l = cur at *
      have Hcur := Lib.hid hcur
      clear hcur hs hc0
      go_wp2
      go_region_held3 (fun w' => Only [] wr w' ∧ w'.cell? ⟨w.heap.size, 0, none⟩ = some (.int .i64 x.points) ∧ w'.cell? ⟨w.heap.size, 1, none⟩ = some (.string x.names) ∧ w'.cell? ⟨w.heap.size, 2, none⟩ = some (v2) ∧ w'.cell? ⟨b, off + j, none⟩ = some (.int .i64 wl[j])) (((refine and_of ?_ (fun h__ => ⟨h__.cell (by simp) y0, h__.cell (by simp) y1, h__.cell (by simp) y2, h__.cell (by simp) hc⟩)); first | exact (Only.refl _ _).drew | exact ((Only.refl _ _).drewN _).drew | exact Only.trans (And.left (by assumption)) (by assumption) | exact Only.alloc (And.left (by assumption)) _ | assumption)) (first | (go_at_call 128; (with_reducible refine (applyLetter_any [.int .i64 x.points, .string x.names, v2] x _ _ cur _ wl[j] _ (Rp.keep h0 (hKz.trans (And.left (by assumption)))) (Rp.keep hr (And.left (by assumption))) hv hla (patB_rng hp) (by have := Hlen.out; omega)).mono ?_); rintro e w4 ⟨u4, f4, rfl, r4, F4, t4⟩; have F4' := F4.mono (hKz.trans (And.left (by assumption))).size) | fail "no arm")
      go_wp2
      go_roundw
      case rel => exact ⟨j + 1, _, by omega, by go_num, by rw [Hs.out]; exact r4, F4', (by with_reducible repeat (first | exact Only.refl _ _ | assumption | refine Only.drewN ?_ _ | refine Only.drew ?_ | refine Only.alloc ?_ _ | refine Only.setCell ?_ (by intro hh; exfalso; simp at hh; try omega) _ | refine Only.trans ?_ (by assumption)))⟩
      case measure => simp [intOf]; omega
    · have hjl : j = wl.length := by omega
      rw [hjl, List.take_length] at hr
      have HR := Lib.hid hr
      clear hjl hr
      go_wp2
      go_ret
      exact ⟨_, _, rfl, HR.out, hF, (by with_reducible repeat (first | exact Only.refl _ _ | assumption | refine Only.drewN ?_ _ | refine Only.drew ?_ | refine Only.alloc ?_ _ | refine Only.setCell ?_ (by intro hh; exfalso; simp at hh; try omega) _ | refine Only.trans ?_ (by assumption)))⟩




end Go.Proofs.YtclhblofchfglaaGreat

namespace Go.Proofs.YtclhblofchfglaaGreat
open Go.RowKit
set_option maxRecDepth 10000
section
variable {x : Puzzle} {s w : List Int} {ts : List Table}
end
end Go.Proofs.YtclhblofchfglaaGreat

namespace Go.Proofs.YtclhblofchfglaaGreat
open Go.RowKit
set_option maxRecDepth 10000
end Go.Proofs.YtclhblofchfglaaGreat

namespace Go.Proofs.YtclhblofchfglaaGreat
open Go.RowKit
set_option maxRecDepth 10000
end Go.Proofs.YtclhblofchfglaaGreat

namespace Go.Proofs.YtclhblofchfglaaGreat
open Go.RowKit
set_option maxRecDepth 10000

/-- the certificate of a word that was found -/
def wCert (o : Option (List Int)) : Certificate := match o with
  | some w => solCert w
  | none => noCert
theorem wCert_cnt (o : Option (List Int)) : Mk.cnt (wCert o) ≤ 200 := by
  cases o with
  | none => simp [wCert, noCert, Mk.cnt, cntL]
  | some w =>
    unfold wCert solCert
    simp only
    split
    · rename_i h
      have := validW_len h
      simp [Mk.cnt, cntL, cntL_ints]; omega
    · simp [Mk.cnt, cntL]
end Go.Proofs.YtclhblofchfglaaGreat

namespace Go.Proofs.YtclhblofchfglaaGreat
open Go.RowKit
set_option maxRecDepth 10000

theorem mthX_none {x : Puzzle} {goals : List (List Int)} {s : List Int} (h : expl x = none) : mthX x goals s = none := by unfold mthX; rw [h]
theorem mthX_no {x : Puzzle} {goals : List (List Int)} {s : List Int} (h : (reachB x s && methB x goals) = false) : mthX x goals s = none := by
  unfold mthX
  cases expl x with
  | none => rfl
  | some t => simp only; rw [if_neg (by rw [h]; simp)]
theorem mthX_yes {x : Puzzle} {t : Table} {goals : List (List Int)} {s : List Int} (he : expl x = some t) (h1 : reachB x s = true) (h2 : methB x goals = true) : mthX x goals s = mthW x t goals s := by
  unfold mthX
  rw [he]
  simp only
  rw [if_pos (by rw [h1, h2]; rfl)]
/-- the words of the first j goals are ws, and lead to the entry i -/
def StW (x : Puzzle) (t : Table) (goals : List (List Int)) (s : List Int) (j i : Nat) (ws : List (List Int)) : Prop := mthW x t goals s = (mthW x t (goals.drop j) (t.patterns.getD i [])).map (ws ++ ·)
theorem StW.start {x : Puzzle} {t : Table} {goals : List (List Int)} {s : List Int} {i : Nat} (h : t.patterns.getD i [] = s) : StW x t goals s 0 i [] := by
  unfold StW
  rw [h, List.drop_zero]
  cases mthW x t goals s <;> rfl
theorem StW.far {x : Puzzle} {t : Table} {goals : List (List Int)} {s : List Int} {j i : Nat} {ws : List (List Int)} (h : StW x t goals s j i ws) (hj : j < goals.length) (hN : 200 < mN x t goals[j] (t.patterns.getD i [])) : mthW x t goals s = none := by
  unfold StW at h
  rw [h, List.drop_eq_getElem_cons hj]
  unfold mthW
  rw [if_pos hN]; rfl
theorem StW.next {x : Puzzle} {t : Table} {goals : List (List Int)} {s : List Int} {j i i' : Nat} {ws : List (List Int)} (h : StW x t goals s j i ws) (hj : j < goals.length) (hN : mN x t goals[j] (t.patterns.getD i []) ≤ 200) (hi : t.patterns.getD i' [] = wEnd x (t.patterns.getD i []) (mW1 x t goals[j] (t.patterns.getD i []))) : StW x t goals s (j + 1) i' (ws ++ [mW1 x t goals[j] (t.patterns.getD i [])]) := by
  unfold StW at h ⊢
  rw [h, List.drop_eq_getElem_cons hj]
  conv => lhs; unfold mthW
  rw [if_neg (by omega), hi]
  cases mthW x t (List.drop (j + 1) goals) _ with
  | none => rfl
  | some r => simp
theorem StW.end_ {x : Puzzle} {t : Table} {goals : List (List Int)} {s : List Int} {i : Nat} {ws : List (List Int)} (h : StW x t goals s goals.length i ws) : mthW x t goals s = some ws := by
  unfold StW at h
  rw [h, List.drop_length]
  simp [mthW]
set_option maxHeartbeats 4000000 in
theorem implSolveByMethod_any (cs : List Value) (x : Puzzle) (fp : List Nat) (v : Value) (goals : List (List Int)) (fg : List Nat) (u : Value) (s : List Int) (fs0 : List Nat) (w : World) (h : Rp.rep w cs x fp) (hg : Rd w v goals fg) (hs : Rd w u s fs0) :
    Calls Tryz.prog 34 #[.agg cs.toArray, v, u] w fun e w' => ∃ z fz, e = .returned (.tuple #[z, .bool (mthX x goals s).isSome]) ∧ Rd w' z ((mthX x goals s).getD []) fz ∧ Fresh w.heap.size w' fz ∧ Only [] w w' := by
  have h0 := h
  obtain ⟨v2, rfl, p0, p1, h2⟩ := h
  clear p0 p1 h2
  rcases he : expl x with _ | t
  · have Hn := Lib.hid (mthX_none (goals := goals) (s := s) he)
    have He := Lib.hid he
    clear he
    go_enter Tryz.func34, Tryz.ntmps34
    go_wp2_with (first
      | (go_at_call 64; (with_reducible refine (exploreState_none [.int .i64 x.points, .string x.names, v2] x _ u _ (Rp.keep h0 (by with_reducible repeat (first | exact Only.refl _ _ | assumption | refine Only.drewN ?_ _ | refine Only.drew ?_ | refine Only.alloc ?_ _ | refine Only.setCell ?_ (by intro hh; exfalso; simp at hh; try omega) _ | refine Only.trans ?_ (by assumption)))) He.out).mono ?_); rintro e w1 ⟨rfl, t1⟩)
      | fail "no arm")
    exact bodyPost_ret (v := .tuple #[.slice none 0 0, .bool false]) (by simp [results, Tryz.results34, go_sem]) rfl ⟨.slice none 0 0, [], by rw [Hn.out]; rfl, by rw [Hn.out]; exact nil_rd _, Fresh.nil _ _, (by with_reducible repeat (first | exact Only.refl _ _ | assumption | refine Only.drewN ?_ _ | refine Only.drew ?_ | refine Only.alloc ?_ _ | refine Only.setCell ?_ (by intro hh; exfalso; simp at hh; try omega) _ | refine Only.trans ?_ (by assumption)))⟩
  rcases hr : reachB x s
  · have Hn := Lib.hid (mthX_no (x := x) (goals := goals) (s := s) (by rw [hr]; rfl))
    have hm : s ∉ t.patterns := fun hm => by rw [(expl_reach he).1 hm] at hr; cases hr
    have He := Lib.hid he
    have Hm := Lib.hid hm
    clear he hr hm
    go_enter Tryz.func34, Tryz.ntmps34
    go_wp2_with (first
      | (go_at_call 64; (with_reducible refine (exploreState_no [.int .i64 x.points, .string x.names, v2] x t _ u s _ _ (Rp.keep h0 (by with_reducible repeat (first | exact Only.refl _ _ | assumption | refine Only.drewN ?_ _ | refine Only.drew ?_ | refine Only.alloc ?_ _ | refine Only.setCell ?_ (by intro hh; exfalso; simp at hh; try omega) _ | refine Only.trans ?_ (by assumption)))) (Rp.keep hs (by with_reducible repeat (first | exact Only.refl _ _ | assumption | refine Only.drewN ?_ _ | refine Only.drew ?_ | refine Only.alloc ?_ _ | refine Only.setCell ?_ (by intro hh; exfalso; simp at hh; try omega) _ | refine Only.trans ?_ (by assumption)))) He.out Hm.out).mono ?_); rintro e w1 ⟨z, rfl, t1⟩)
      | fail "no arm")
    exact bodyPost_ret (v := .tuple #[.slice none 0 0, .bool false]) (by simp [results, Tryz.results34, go_sem]) rfl ⟨.slice none 0 0, [], by rw [Hn.out]; rfl, by rw [Hn.out]; exact nil_rd _, Fresh.nil _ _, (by with_reducible repeat (first | exact Only.refl _ _ | assumption | refine Only.drewN ?_ _ | refine Only.drew ?_ | refine Only.alloc ?_ _ | refine Only.setCell ?_ (by intro hh; exfalso; simp at hh; try omega) _ | refine Only.trans ?_ (by assumption)))⟩
  obtain ⟨i0, hi0, hp0⟩ := List.getElem_of_mem ((expl_reach he).2 hr)
  have e1 : t.patterns.getD i0 [] = s := by rw [getD_get hi0, hp0]
  have He := Lib.hid he
  have E1 := Lib.hid e1
  have X0 : Blk (w.alloc (.cells #[.int .i64 x.points, .string x.names, v2] 33)) w.heap.size [.int .i64 x.points, .string x.names, v2] := Blk.new w [.int .i64 x.points, .string x.names, v2] 33
  rcases hm : methB x goals
  · have Hn := Lib.hid (mthX_no (x := x) (goals := goals) (s := s) (by rw [hm]; simp))
    have Hm := Lib.hid hm
    clear he hr hm hp0 e1
    go_enter Tryz.func34, Tryz.ntmps34
    go_wp2_with (first
      | (go_at_call 64; (with_reducible refine (exploreState_yes [.int .i64 x.points, .string x.names, v2] x t _ u s _ i0 _ (Rp.keep h0 (by with_reducible repeat (first | exact Only.refl _ _ | assumption | refine Only.drewN ?_ _ | refine Only.drew ?_ | refine Only.alloc ?_ _ | refine Only.setCell ?_ (by intro hh; exfalso; simp at hh; try omega) _ | refine Only.trans ?_ (by assumption)))) (Rp.keep hs (by with_reducible repeat (first | exact Only.refl _ _ | assumption | refine Only.drewN ?_ _ | refine Only.drew ?_ | refine Only.alloc ?_ _ | refine Only.setCell ?_ (by intro hh; exfalso; simp at hh; try omega) _ | refine Only.trans ?_ (by assumption)))) He.out hi0 E1.out).mono ?_); rintro e w1 ⟨z, rfl, hX, t1⟩; have X1 := X0.keep t1; have x0 := X1.cell 0 rfl; have x1 := X1.cell 1 rfl; have x2 := X1.cell 2 rfl)
      | (go_at_call 65; (with_reducible refine (implIsMethod_any [.int .i64 x.points, .string x.names, v2] x _ _ goals _ _ (Rp.keep h0 (by with_reducible repeat (first | exact Only.refl _ _ | assumption | refine Only.drewN ?_ _ | refine Only.drew ?_ | refine Only.alloc ?_ _ | refine Only.setCell ?_ (by intro hh; exfalso; simp at hh; try omega) _ | refine Only.trans ?_ (by assumption)))) (Rp.keep hg (by with_reducible repeat (first | exact Only.refl _ _ | assumption | refine Only.drewN ?_ _ | refine Only.drew ?_ | refine Only.alloc ?_ _ | refine Only.setCell ?_ (by intro hh; exfalso; simp at hh; try omega) _ | refine Only.trans ?_ (by assumption))))).mono ?_); rintro e w2 ⟨he, t2⟩; rw [Hm.out] at he; subst he)
      | fail "no arm")
    exact bodyPost_ret (v := .tuple #[.slice none 0 0, .bool false]) (by simp [results, Tryz.results34, go_sem]) rfl ⟨.slice none 0 0, [], by rw [Hn.out]; rfl, by rw [Hn.out]; exact nil_rd _, Fresh.nil _ _, (by with_reducible repeat (first | exact Only.refl _ _ | assumption | refine Only.drewN ?_ _ | refine Only.drew ?_ | refine Only.alloc ?_ _ | refine Only.setCell ?_ (by intro hh; exfalso; simp at hh; try omega) _ | refine Only.trans ?_ (by assumption)))⟩
  have Hn := Lib.hid (mthX_yes he hr hm)
  have Hm := Lib.hid hm
  obtain ⟨-, m2, m3, -, -⟩ := methB_parts hm
  have hg0 := hg
  obtain ⟨a, cap, ob, fps, rfl, -, S⟩ := hg.open_
  have hb := S.bound
  obtain ⟨iI, hiI, hzI0, hzI1, hzI2⟩ := info_parts Tryz.info22
  have M3 := Lib.hid m3
  clear hr hm hp0 e1 m3
  go_enter Tryz.func34, Tryz.ntmps34
  go_upto_region 6 with (first
    | (go_at_call 64; (with_reducible refine (exploreState_yes [.int .i64 x.points, .string x.names, v2] x t _ u s _ i0 _ (Rp.keep h0 (by with_reducible repeat (first | exact Only.refl _ _ | assumption | refine Only.drewN ?_ _ | refine Only.drew ?_ | refine Only.alloc ?_ _ | refine Only.setCell ?_ (by intro hh; exfalso; simp at hh; try omega) _ | refine Only.trans ?_ (by assumption)))) (Rp.keep hs (by with_reducible repeat (first | exact Only.refl _ _ | assumption | refine Only.drewN ?_ _ | refine Only.drew ?_ | refine Only.alloc ?_ _ | refine Only.setCell ?_ (by intro hh; exfalso; simp at hh; try omega) _ | refine Only.trans ?_ (by assumption)))) He.out hi0 E1.out).mono ?_); rintro e w1 ⟨z, rfl, hX, t1⟩; have X1 := X0.keep t1; have x0 := X1.cell 0 rfl; have x1 := X1.cell 1 rfl; have x2 := X1.cell 2 rfl)
    | (go_at_call 65; (with_reducible refine (implIsMethod_any [.int .i64 x.points, .string x.names, v2] x _ _ goals _ _ (Rp.keep h0 (by with_reducible repeat (first | exact Only.refl _ _ | assumption | refine Only.drewN ?_ _ | refine Only.drew ?_ | refine Only.alloc ?_ _ | refine Only.setCell ?_ (by intro hh; exfalso; simp at hh; try omega) _ | refine Only.trans ?_ (by assumption)))) (Rp.keep hg0 (by with_reducible repeat (first | exact Only.refl _ _ | assumption | refine Only.drewN ?_ _ | refine Only.drew ?_ | refine Only.alloc ?_ _ | refine Only.setCell ?_ (by intro hh; exfalso; simp at hh; try omega) _ | refine Only.trans ?_ (by assumption))))).mono ?_); rintro e w2 ⟨he, t2⟩; rw [Hm.out] at he; subst he)
    | fail "no arm")
  have K2 : Only [] w w2 := (by with_reducible repeat (first | exact Only.refl _ _ | assumption | refine Only.drewN ?_ _ | refine Only.drew ?_ | refine Only.alloc ?_ _ | refine Only.setCell ?_ (by intro hh; exfalso; simp at hh; try omega) _ | refine Only.trans ?_ (by assumption)))
  have HX := Lib.hid (hX.keep t2)
  clear x0 x1 x2 X1 t1 t2 hX X0 he
  go_loopw [9, 11, 34] (fun iv o c wr => ∃ (j i : Nat) (ws : List (List Int)) (fs : List (List Nat)), j ≤ goals.length ∧ c = .int .i64 j ∧ iv = .int .i64 i ∧ i < t.patterns.length ∧ StW x t goals s j i ws ∧ ws.length = j ∧ Acc w2.heap.size 25 wr o ws fs ∧ Fresh w2.heap.size wr fs.flatten ∧ Only [] w2 wr)
    (fun _ _ c _ => goals.length - (intOf c).toNat)
  case atStart => exact ⟨0, i0, [], [], Nat.zero_le _, rfl, rfl, hi0, StW.start E1.out, rfl, Acc.nil _ _ _, Fresh.nil _ _, Only.refl _ _⟩
  case round =>
    obtain ⟨W3, hnew⟩ : ∃ W, W = wr := ⟨_, rfl⟩
    subst hnew
    obtain ⟨j, i, ws, fs, hj, rfl, rfl, hil, hst, hwl, hA, hF, hK⟩ := hrel
    have kW := K2.trans hK
    have Hst := Lib.hid hst
    have HA := Lib.hid hA
    have Hwl := Lib.hid hwl
    by_cases hlt : j < goals.length
    · obtain ⟨b, off, ug, rfl, -, hc, hu⟩ := S.atRow j hlt
      have hcw := kW.cell (by simp) hc
      have ht := M3.out goals[j] (List.getElem_mem hlt)
      obtain ⟨sf1, -, -⟩ := stage_facts He.out ht hil
      have hug : Rd W3 ug goals[j] _ := Rp.keep hu kW
      obtain ⟨ag, cg, rfl, Ig⟩ := hug.ints
      have hXw := HX.out.keep hK
      have hfn := StW.far hst hlt
      have hnx := fun i' => StW.next (i' := i') hst hlt
      obtain ⟨goal, hgl⟩ : ∃ goal, goal = goals[j] := ⟨_, rfl⟩
      rw [← hgl] at hcw ht sf1 Ig hfn hnx
      have hsrc := goal_src He.out ht
      have hlD : (mD x t (gS goal)).length = t.patterns.length := (mD_F (expl_built He.out).1).dl
      have Hgd : ∀ W, Only [] W3 W → Calls Tryz.prog 67 #[z, .slice ag goal.length cg] W fun e w' => ∃ u, e = .returned u ∧ AccI W.heap.size 2 w' u (mD x t (gS goal)) ∧ Only [] W w' := fun W hW => goalDistances_any x t z _ goal _ W (hXw.keep hW) He.out (Ig.keep hW).rd ht
      have Hgd' := Lib.hid Hgd
      by_cases hfar : 200 < mN x t goal (t.patterns.getD i [])
      · have Hfin := Lib.hid (Hn.out.trans (hfn hfar))
        have Hd : ∀ W u3 B, Only [] W3 W → AccI B 2 W u3 (mD x t (gS goal)) → Calls Tryz.prog 66 #[z, u3, .int .i64 i] W fun e w' => e = .returned (.tuple #[.slice none 0 0, .int .i64 0, .bool false]) ∧ Only [] W w' := fun W u3 B hW hA3 => descend_far z u3 _ _ i W hA3.rd (by omega) (by rw [sf1]; omega)
        have Hd' := Lib.hid Hd
        obtain ⟨D, hD⟩ : ∃ D, D = mD x t (gS goal) := ⟨_, rfl⟩
        rw [← hD] at Hd' Hgd'
        clear hst hA hwl hc hu hug Ig hXw hsrc hlD hfar Hd Hgd sf1 hD ht hfn hnx hgl
        go_wp2_with (first
          | (go_at_call 67; (with_reducible refine (Hgd'.out _ (by with_reducible repeat (first | exact Only.refl _ _ | assumption | refine Only.drewN ?_ _ | refine Only.drew ?_ | refine Only.alloc ?_ _ | refine Only.setCell ?_ (by intro hh; exfalso; simp at hh; try omega) _ | refine Only.trans ?_ (by assumption)))).mono ?_); rintro e w5 ⟨u5, rfl, A5, t5⟩)
          | (go_at_call 66; (with_reducible refine (Hd'.out _ _ _ (by with_reducible repeat (first | exact Only.refl _ _ | assumption | refine Only.drewN ?_ _ | refine Only.drew ?_ | refine Only.alloc ?_ _ | refine Only.setCell ?_ (by intro hh; exfalso; simp at hh; try omega) _ | refine Only.trans ?_ (by assumption))) A5).mono ?_); rintro e w6 ⟨rfl, t6⟩)
          | fail "no arm")
        exact bodyPost_ret (v := .tuple #[.slice none 0 0, .bool false]) (by simp [results, Tryz.results34, go_sem]) rfl ⟨.slice none 0 0, [], by rw [Hfin.out]; rfl, by rw [Hfin.out]; exact nil_rd _, Fresh.nil _ _, kW.trans (by with_reducible repeat (first | exact Only.refl _ _ | assumption | refine Only.drewN ?_ _ | refine Only.drew ?_ | refine Only.alloc ?_ _ | refine Only.setCell ?_ (by intro hh; exfalso; simp at hh; try omega) _ | refine Only.trans ?_ (by assumption)))⟩
      · have hnx' := fun i' => hnx i' (by omega)
        have hwd : mW1 x t goal (t.patterns.getD i []) = oW x (tD x t (gS goal)) (mN x t goal (t.patterns.getD i [])) (t.patterns.getD i []) := rfl
        have hwdl : (mW1 x t goal (t.patterns.getD i [])).length ≤ 200 := by rw [mW1_len]; omega
        obtain ⟨wd, hwe⟩ : ∃ wd, wd = mW1 x t goal (t.patterns.getD i []) := ⟨_, rfl⟩
        rw [← hwe] at hwd hwdl hnx'
        have Hd : ∀ W u3 B, Only [] W3 W → AccI B 2 W u3 (mD x t (gS goal)) → Calls Tryz.prog 66 #[z, u3, .int .i64 i] W fun e w' => ∃ (u : Value) (j' : Nat), e = .returned (.tuple #[u, .int .i64 j', .bool true]) ∧ AccI W.heap.size 2 w' u wd ∧ j' < t.patterns.length ∧ t.patterns.getD j' [] = wEnd x (t.patterns.getD i []) wd ∧ Only [] W w' := fun W u3 B hW hA3 => (descend_yes x t z u3 (gS goal) _ i _ W (hXw.keep hW) He.out hsrc hA3.rd hil sf1 (by omega)).mono (fun e w' hh => by
          obtain ⟨u, j', h1, h2, h3, h4, -, h6⟩ := hh
          rw [← hwd] at h2 h4
          exact ⟨u, j', h1, h2, h3, h4, h6⟩)
        have Hd' := Lib.hid Hd
        have Hnx := Lib.hid hnx'
        obtain ⟨D, hD⟩ : ∃ D, D = mD x t (gS goal) := ⟨_, rfl⟩
        rw [← hD] at Hd' Hgd'
        have hszK : w2.heap.size ≤ W3.heap.size := hK.size
        have hlw : ws.length + 1 ≤ 1073741824 := by omega
        clear hst hA hwl hc hu hug Ig hXw hsrc hlD hfar Hd Hgd sf1 hD ht hfn hnx hgl hnx' hwd hwe
        go_wp2_with (first
          | (go_at_call 67; (with_reducible refine (Hgd'.out _ (by with_reducible repeat (first | exact Only.refl _ _ | assumption | refine Only.drewN ?_ _ | refine Only.drew ?_ | refine Only.alloc ?_ _ | refine Only.setCell ?_ (by intro hh; exfalso; simp at hh; try omega) _ | refine Only.trans ?_ (by assumption)))).mono ?_); rintro e w5 ⟨u5, rfl, A5, t5⟩)
          | (go_at_call 66; (with_reducible refine (Hd'.out _ _ _ (by with_reducible repeat (first | exact Only.refl _ _ | assumption | refine Only.drewN ?_ _ | refine Only.drew ?_ | refine Only.alloc ?_ _ | refine Only.setCell ?_ (by intro hh; exfalso; simp at hh; try omega) _ | refine Only.trans ?_ (by assumption))) A5).mono ?_); rintro e w6 ⟨u6, i6, rfl, A6, hi6, hp6, t6⟩; obtain ⟨a6, c6, rfl⟩ := A6.form; have k6 : Only [] W3 w6 := (by with_reducible repeat (first | exact Only.refl _ _ | assumption | refine Only.drewN ?_ _ | refine Only.drew ?_ | refine Only.alloc ?_ _ | refine Only.setCell ?_ (by intro hh; exfalso; simp at hh; try omega) _ | refine Only.trans ?_ (by assumption))); have hsz5 := t5.size)
          | (at_builtin; refine wpList_pushF rfl _ _ 22 rfl w2.heap.size 25 iI _ 24 Tryz.underlying22 hiI hzI0 hzI1 hzI2 rfl (by decide) (by decide) W3 _ ws fs rfl HA.out hF (k6.alloc _) hszK w6.heap.size 1 [.slice a6 wd.length c6] wd _ rfl (lit_src w6 [.slice a6 wd.length c6] _ rfl) (by intro u hu; simp at hu; subst hu; rfl) (Rp.keep A6.rd ((Only.refl _ _).alloc _)) ((A6.fresh.mono hsz5).keep ((Only.refl _ _).alloc _)) hlw w2 ((hK.trans k6).alloc _) (Nat.le_refl _) ?_; intro v7 w7 hA7 hF7 hK7 hO7)
          | fail "no arm")
        go_roundw
        case rel => exact ⟨j + 1, i6, ws ++ [wd], _, by omega, by go_num, rfl, hi6, Hnx.out i6 hp6, by rw [List.length_append, Hwl.out]; rfl, hA7, hF7, hK7⟩
        case measure => simp [intOf]; omega
    · have hje : j = goals.length := by omega
      have hst' := hst
      rw [hje] at hst'
      have Hfin := Lib.hid (Hn.out.trans hst'.end_)
      have hjI : ¬ (j : Int) < (goals.length : Int) := by omega
      clear hst hst' hA hwl hje
      go_wp2
      exact bodyPost_ret (v := .tuple #[u11, .bool true]) (by simp [results, Tryz.results34, go_sem]) rfl ⟨u11, by rw [Hfin.out]; rfl, u11.ownBlock.toList ++ fs.flatten, by rw [Hfin.out]; exact HA.out.rd (by decide), (HA.out.fresh hF).mono K2.size, kW⟩
/-- the word that is short enough -/
def shortW (w : List Int) : Option (List Int) := if w.length ≤ 200 then some w else none
theorem shortW_yes {w : List Int} (h : w.length ≤ 200) : shortW w = some w := if_pos h
theorem shortW_no {w : List Int} (h : ¬ w.length ≤ 200) : shortW w = none := if_neg h
set_option maxHeartbeats 4000000 in
theorem solutionOf_any (v : Value) (ws : List (List Int)) (fw : List Nat) (w : World) (h : Rd w v ws fw) (hsum : ws.flatten.length ≤ 1000000) :
    Calls Tryz.prog 35 #[v] w fun e w' => ∃ cs' fp', e = .returned (.tuple #[.agg (List.toArray cs'), .bool (shortW ws.flatten).isSome]) ∧ Rp.rep w' cs' (wCert (shortW ws.flatten)) fp' ∧ Fresh w.heap.size w' fp' ∧ Only [] w w' := by
  have Y0 : Blk (w.alloc (.cells #[.int .i64 0, .slice none 0 0, .slice none 0 0, .slice none 0 0] 30)) w.heap.size [.int .i64 0, .slice none 0 0, .slice none 0 0, .slice none 0 0] := Blk.new w [.int .i64 0, .slice none 0 0, .slice none 0 0, .slice none 0 0] 30
  obtain ⟨fl, hfl⟩ : ∃ fl, fl = ws.flatten := ⟨_, rfl⟩
  have Hc := Lib.hid (fun (W : World) (hW : Only [] w W) => Concat_rows v ws fw W (Rp.keep h hW) hsum)
  rw [← hfl] at Hc hsum ⊢
  clear hfl
  by_cases hl : fl.length ≤ 200
  · have Hs := Lib.hid (shortW_yes hl)
    have hl2 : ¬ ((200 : Int) < (fl.length : Int)) := by omega
    clear hl
    go_enter Tryz.func35, Tryz.ntmps35
    go_wp2_with (first
      | (go_at_call 68; (with_reducible refine (Hc.out _ (by with_reducible repeat (first | exact Only.refl _ _ | assumption | refine Only.drewN ?_ _ | refine Only.drew ?_ | refine Only.alloc ?_ _ | refine Only.setCell ?_ (by intro hh; exfalso; simp at hh; try omega) _ | refine Only.trans ?_ (by assumption)))).mono ?_); rintro e w1 ⟨u1, rfl, A1, t1⟩; obtain ⟨a1, c1, rfl⟩ := A1.form; have Y1 := Y0.keep t1)
      | (go_at_call 57; (with_reducible refine (implSolCert_rd _ fl _ _ A1.rd).mono ?_); rintro e w4 ⟨cs4, f4, rfl, r4, F4, t4⟩; have rr := id r4; obtain ⟨v1, v2, v3, e1, e2, e3, rfl, -, i1, s1, s2, s3⟩ := r4; simp only [List.cons_append, List.nil_append] at rr; obtain ⟨b1, k1, _, _, rfl, -, -⟩ := s1.open_; obtain ⟨b2, k2, _, _, rfl, -, -⟩ := s2.open_; obtain ⟨b3, k3, _, _, rfl, -, -⟩ := s3.open_; have Y9 := Y1.keep t4; have g0 := Y9.cell 0 rfl; have g1 := Y9.cell 1 rfl; have g2 := Y9.cell 2 rfl; have g3 := Y9.cell 3 rfl; have p0 := Y9.frozen 0; have p1 := Y9.frozen 1; have p2 := Y9.frozen 2; have p3 := Y9.frozen 3)
      | fail "no arm")
    have K4 : Only [] w w4 := (by with_reducible repeat (first | exact Only.refl _ _ | assumption | refine Only.drewN ?_ _ | refine Only.drew ?_ | refine Only.alloc ?_ _ | refine Only.setCell ?_ (by intro hh; exfalso; simp at hh; try omega) _ | refine Only.trans ?_ (by assumption)))
    have hz1 := t1.size
    simp at hz1
    have hFg : ∀ g ∈ f4, g ∉ [w.heap.size] := fun g hg hm => by have := F4.ge g hg; simp at hm; omega
    have Yf := (((Y9.set 0 (.int .i64 (solCert fl).kind)).set 1 (.slice b1 (solCert fl).numbers.length k1)).set 2 (.slice b2 (solCert fl).words.length k2)).set 3 (.slice b3 (solCert fl).tables.length k3)
    have kf : Only [w.heap.size] w4 ((((w4.setCell ⟨w.heap.size, 0, none⟩ (.int .i64 (solCert fl).kind)).setCell ⟨w.heap.size, 1, none⟩ (.slice b1 (solCert fl).numbers.length k1)).setCell ⟨w.heap.size, 2, none⟩ (.slice b2 (solCert fl).words.length k2)).setCell ⟨w.heap.size, 3, none⟩ (.slice b3 (solCert fl).tables.length k3)) := ((((Only.refl _ _).setCell (by simp) _).setCell (by simp) _).setCell (by simp) _).setCell (by simp) _
    obtain ⟨wf, hwf⟩ : ∃ wf, wf = ((((w4.setCell ⟨w.heap.size, 0, none⟩ (.int .i64 (solCert fl).kind)).setCell ⟨w.heap.size, 1, none⟩ (.slice b1 (solCert fl).numbers.length k1)).setCell ⟨w.heap.size, 2, none⟩ (.slice b2 (solCert fl).words.length k2)).setCell ⟨w.heap.size, 3, none⟩ (.slice b3 (solCert fl).tables.length k3)) := ⟨_, rfl⟩
    rw [← hwf] at Yf kf ⊢
    simp only [List.set] at Yf
    clear hwf g0 g1 g2 g3 p0 p1 p2 p3
    have z0 := Yf.cell 0 rfl
    have z1 := Yf.cell 1 rfl
    have z2 := Yf.cell 2 rfl
    have z3 := Yf.cell 3 rfl
    refine bodyPost_ret (v := .tuple #[.agg #[.int .i64 (solCert fl).kind, .slice b1 (solCert fl).numbers.length k1, .slice b2 (solCert fl).words.length k2, .slice b3 (solCert fl).tables.length k3], .bool true]) (by simp [results, Tryz.results35, go_sem, z0, z1, z2, z3]) rfl ⟨[.int .i64 (solCert fl).kind, .slice b1 (solCert fl).numbers.length k1, .slice b2 (solCert fl).words.length k2, .slice b3 (solCert fl).tables.length k3], f4, by rw [Hs.out]; rfl, by rw [Hs.out]; exact Rp.only rr kf hFg, (F4.mono (by omega)).only kf hFg, K4.then_ kf (by simp)⟩
  · have Hs := Lib.hid (shortW_no hl)
    have hl2 : (200 : Int) < (fl.length : Int) := by omega
    clear hl
    go_enter Tryz.func35, Tryz.ntmps35
    go_wp2_with (first
      | (go_at_call 68; (with_reducible refine (Hc.out _ (by with_reducible repeat (first | exact Only.refl _ _ | assumption | refine Only.drewN ?_ _ | refine Only.drew ?_ | refine Only.alloc ?_ _ | refine Only.setCell ?_ (by intro hh; exfalso; simp at hh; try omega) _ | refine Only.trans ?_ (by assumption)))).mono ?_); rintro e w1 ⟨u1, rfl, A1, t1⟩; obtain ⟨a1, c1, rfl⟩ := A1.form; have Y9 := Y0.keep t1; have g0 := Y9.cell 0 rfl; have g1 := Y9.cell 1 rfl; have g2 := Y9.cell 2 rfl; have g3 := Y9.cell 3 rfl; have p0 := Y9.frozen 0; have p1 := Y9.frozen 1; have p2 := Y9.frozen 2; have p3 := Y9.frozen 3)
      | fail "no arm")
    have K2 : Only [] w w1 := (by with_reducible repeat (first | exact Only.refl _ _ | assumption | refine Only.drewN ?_ _ | refine Only.drew ?_ | refine Only.alloc ?_ _ | refine Only.setCell ?_ (by intro hh; exfalso; simp at hh; try omega) _ | refine Only.trans ?_ (by assumption)))
    have Yf := (((Y9.set 0 (.int .i64 0)).set 1 (.slice none 0 0)).set 2 (.slice none 0 0)).set 3 (.slice none 0 0)
    have kf : Only [w.heap.size] w1 ((((w1.setCell ⟨w.heap.size, 0, none⟩ (.int .i64 0)).setCell ⟨w.heap.size, 1, none⟩ (.slice none 0 0)).setCell ⟨w.heap.size, 2, none⟩ (.slice none 0 0)).setCell ⟨w.heap.size, 3, none⟩ (.slice none 0 0)) := ((((Only.refl _ _).setCell (by simp) _).setCell (by simp) _).setCell (by simp) _).setCell (by simp) _
    obtain ⟨wf, hwf⟩ : ∃ wf, wf = ((((w1.setCell ⟨w.heap.size, 0, none⟩ (.int .i64 0)).setCell ⟨w.heap.size, 1, none⟩ (.slice none 0 0)).setCell ⟨w.heap.size, 2, none⟩ (.slice none 0 0)).setCell ⟨w.heap.size, 3, none⟩ (.slice none 0 0)) := ⟨_, rfl⟩
    rw [← hwf] at Yf kf ⊢
    simp only [List.set] at Yf
    clear hwf g0 g1 g2 g3 p0 p1 p2 p3
    have z0 := Yf.cell 0 rfl
    have z1 := Yf.cell 1 rfl
    have z2 := Yf.cell 2 rfl
    have z3 := Yf.cell 3 rfl
    refine bodyPost_ret (v := .tuple #[.agg #[.int .i64 0, .slice none 0 0, .slice none 0 0, .slice none 0 0], .bool false]) (by simp [results, Tryz.results35, go_sem, z0, z1, z2, z3]) rfl ⟨[.int .i64 0, .slice none 0 0, .slice none 0 0, .slice none 0 0], [], by rw [Hs.out]; rfl, by rw [Hs.out]; exact noCert_rep _, Fresh.nil _ _, K2.then_ kf (by simp)⟩
end Go.Proofs.YtclhblofchfglaaGreat

namespace Go.Proofs.YtclhblofchfglaaGreat
open Go.RowKit
set_option maxRecDepth 10000

theorem flat_le {k : Nat} : ∀ {ws : List (List Int)}, (∀ w ∈ ws, w.length ≤ k) → ws.flatten.length ≤ k * ws.length
  | [], _ => by simp
  | w :: ws, h => by
    have h1 := h w (by simp)
    have h2 := flat_le (ws := ws) fun q hq => h q (by simp [hq])
    rw [List.flatten_cons, List.length_append, List.length_cons, Nat.mul_succ]
    omega
theorem mthS_len (x : Puzzle) (t : Table) : ∀ (gs : List (List Int)) (s : List Int), (mthS x t gs s).length = gs.length
  | [], _ => rfl
  | g :: gs, s => by unfold mthS; rw [List.length_cons, mthS_len x t gs, List.length_cons]
theorem mthX_sum {x : Puzzle} {goals : List (List Int)} {s : List Int} {ws : List (List Int)} (h : mthX x goals s = some ws) : ws.flatten.length ≤ 1000 := by
  obtain ⟨t, -, -, hm, rfl, hl⟩ := mthX_parts h
  have h1 := flat_le hl
  rw [mthS_len] at h1
  have := (methB_parts hm).2.1
  omega
theorem mthC_none {x : Puzzle} {goals : List (List Int)} {s : List Int} (h : mthX x goals s = none) : mthC x goals s = none := by unfold mthC; rw [h]; rfl
theorem mthC_some {x : Puzzle} {goals : List (List Int)} {s : List Int} {ws : List (List Int)} (h : mthX x goals s = some ws) : mthC x goals s = shortW ws.flatten := by unfold mthC; rw [h]; rfl
set_option maxHeartbeats 4000000 in
theorem implMethodCert_any (cs : List Value) (x : Puzzle) (fp : List Nat) (v : Value) (goals : List (List Int)) (fg : List Nat) (u : Value) (s : List Int) (fs0 : List Nat) (w : World) (h : Rp.rep w cs x fp) (hg : Rd w v goals fg) (hs : Rd w u s fs0) :
    Calls Tryz.prog 13 #[.agg cs.toArray, v, u] w fun e w' => ∃ cs' fp', e = .returned (.tuple #[.agg (List.toArray cs'), .bool (mthC x goals s).isSome]) ∧ Rp.rep w' cs' (wCert (mthC x goals s)) fp' ∧ Fresh w.heap.size w' fp' ∧ Only [] w w' := by
  have h0 := h
  obtain ⟨v2, rfl, p0, p1, h2⟩ := h
  clear p0 p1 h2
  have Y0 : Blk ((w.alloc (.cells #[.int .i64 x.points, .string x.names, v2] 33)).alloc (.cells #[.int .i64 0, .slice none 0 0, .slice none 0 0, .slice none 0 0] 30)) (w.heap.size + 1) [.int .i64 0, .slice none 0 0, .slice none 0 0, .slice none 0 0] := Blk.new_at (by simp)
  have X0 : Blk ((w.alloc (.cells #[.int .i64 x.points, .string x.names, v2] 33)).alloc (.cells #[.int .i64 0, .slice none 0 0, .slice none 0 0, .slice none 0 0] 30)) w.heap.size [.int .i64 x.points, .string x.names, v2] := (Blk.new w [.int .i64 x.points, .string x.names, v2] 33).keep ((Only.refl _ _).alloc _)
  have x0 := X0.cell 0 rfl
  have x1 := X0.cell 1 rfl
  have x2 := X0.cell 2 rfl
  rcases hm : mthX x goals s with _ | ws
  · have Hn := Lib.hid (mthC_none hm)
    have Hm := Lib.hid hm
    clear hm
    go_enter Tryz.func13, Tryz.ntmps13
    go_wp2_with (first
      | (go_at_call 34; (with_reducible refine (implSolveByMethod_any [.int .i64 x.points, .string x.names, v2] x _ _ goals _ _ s _ _ (Rp.keep h0 (by with_reducible repeat (first | exact Only.refl _ _ | assumption | refine Only.drewN ?_ _ | refine Only.drew ?_ | refine Only.alloc ?_ _ | refine Only.setCell ?_ (by intro hh; exfalso; simp at hh; try omega) _ | refine Only.trans ?_ (by assumption)))) (Rp.keep hg (by with_reducible repeat (first | exact Only.refl _ _ | assumption | refine Only.drewN ?_ _ | refine Only.drew ?_ | refine Only.alloc ?_ _ | refine Only.setCell ?_ (by intro hh; exfalso; simp at hh; try omega) _ | refine Only.trans ?_ (by assumption)))) (Rp.keep hs (by with_reducible repeat (first | exact Only.refl _ _ | assumption | refine Only.drewN ?_ _ | refine Only.drew ?_ | refine Only.alloc ?_ _ | refine Only.setCell ?_ (by intro hh; exfalso; simp at hh; try omega) _ | refine Only.trans ?_ (by assumption))))).mono ?_); rintro e w1 ⟨z, fz, he, -, -, t1⟩; rw [Hm.out] at he; subst he; have Y9 := Y0.keep t1; have g0 := Y9.cell 0 rfl; have g1 := Y9.cell 1 rfl; have g2 := Y9.cell 2 rfl; have g3 := Y9.cell 3 rfl; have p0 := Y9.frozen 0; have p1 := Y9.frozen 1; have p2 := Y9.frozen 2; have p3 := Y9.frozen 3)
      | fail "no arm")
    have K2 : Only [] w w1 := (by with_reducible repeat (first | exact Only.refl _ _ | assumption | refine Only.drewN ?_ _ | refine Only.drew ?_ | refine Only.alloc ?_ _ | refine Only.setCell ?_ (by intro hh; exfalso; simp at hh; try omega) _ | refine Only.trans ?_ (by assumption)))
    have Yf := (((Y9.set 0 (.int .i64 0)).set 1 (.slice none 0 0)).set 2 (.slice none 0 0)).set 3 (.slice none 0 0)
    have kf : Only [w.heap.size + 1] w1 ((((w1.setCell ⟨w.heap.size + 1, 0, none⟩ (.int .i64 0)).setCell ⟨w.heap.size + 1, 1, none⟩ (.slice none 0 0)).setCell ⟨w.heap.size + 1, 2, none⟩ (.slice none 0 0)).setCell ⟨w.heap.size + 1, 3, none⟩ (.slice none 0 0)) := ((((Only.refl _ _).setCell (by simp) _).setCell (by simp) _).setCell (by simp) _).setCell (by simp) _
    obtain ⟨wf, hwf⟩ : ∃ wf, wf = ((((w1.setCell ⟨w.heap.size + 1, 0, none⟩ (.int .i64 0)).setCell ⟨w.heap.size + 1, 1, none⟩ (.slice none 0 0)).setCell ⟨w.heap.size + 1, 2, none⟩ (.slice none 0 0)).setCell ⟨w.heap.size + 1, 3, none⟩ (.slice none 0 0)) := ⟨_, rfl⟩
    rw [← hwf] at Yf kf ⊢
    simp only [List.set] at Yf
    clear hwf g0 g1 g2 g3 p0 p1 p2 p3
    have z0 := Yf.cell 0 rfl
    have z1 := Yf.cell 1 rfl
    have z2 := Yf.cell 2 rfl
    have z3 := Yf.cell 3 rfl
    refine bodyPost_ret (v := .tuple #[.agg #[.int .i64 0, .slice none 0 0, .slice none 0 0, .slice none 0 0], .bool false]) (by simp [results, Tryz.results13, go_sem, z0, z1, z2, z3]) rfl ⟨[.int .i64 0, .slice none 0 0, .slice none 0 0, .slice none 0 0], [], by rw [Hn.out]; rfl, by rw [Hn.out]; exact noCert_rep _, Fresh.nil _ _, K2.then_ kf (by simp)⟩
  · have Hn := Lib.hid (mthC_some hm)
    have Hl := Lib.hid (mthX_sum hm)
    have Hm := Lib.hid hm
    clear hm
    obtain ⟨o, ho⟩ : ∃ o, o = shortW ws.flatten := ⟨_, rfl⟩
    rw [← ho] at Hn
    have Ho := Lib.hid ho
    clear ho
    go_enter Tryz.func13, Tryz.ntmps13
    go_wp2_with (first
      | (go_at_call 34; (with_reducible refine (implSolveByMethod_any [.int .i64 x.points, .string x.names, v2] x _ _ goals _ _ s _ _ (Rp.keep h0 (by with_reducible repeat (first | exact Only.refl _ _ | assumption | refine Only.drewN ?_ _ | refine Only.drew ?_ | refine Only.alloc ?_ _ | refine Only.setCell ?_ (by intro hh; exfalso; simp at hh; try omega) _ | refine Only.trans ?_ (by assumption)))) (Rp.keep hg (by with_reducible repeat (first | exact Only.refl _ _ | assumption | refine Only.drewN ?_ _ | refine Only.drew ?_ | refine Only.alloc ?_ _ | refine Only.setCell ?_ (by intro hh; exfalso; simp at hh; try omega) _ | refine Only.trans ?_ (by assumption)))) (Rp.keep hs (by with_reducible repeat (first | exact Only.refl _ _ | assumption | refine Only.drewN ?_ _ | refine Only.drew ?_ | refine Only.alloc ?_ _ | refine Only.setCell ?_ (by intro hh; exfalso; simp at hh; try omega) _ | refine Only.trans ?_ (by assumption))))).mono ?_); rintro e w1 ⟨z, fz, he, rz, Fz, t1⟩; rw [Hm.out] at he rz; subst he; simp only [Option.getD] at rz; have Y1 := Y0.keep t1)
      | (go_at_call 35; (with_reducible refine (solutionOf_any z ws fz _ rz (by have := Hl.out; omega)).mono ?_); rintro e w4 ⟨cs4, f4, he, r4, F4, t4⟩; rw [← Ho.out] at he r4; subst he; have rr := id r4; obtain ⟨v1, v2, v3, e1, e2, e3, rfl, -, i1, s1, s2, s3⟩ := r4; simp only [List.cons_append, List.nil_append] at rr; obtain ⟨b1, k1, _, _, rfl, -, -⟩ := s1.open_; obtain ⟨b2, k2, _, _, rfl, -, -⟩ := s2.open_; obtain ⟨b3, k3, _, _, rfl, -, -⟩ := s3.open_; have Y9 := Y1.keep t4; have g0 := Y9.cell 0 rfl; have g1 := Y9.cell 1 rfl; have g2 := Y9.cell 2 rfl; have g3 := Y9.cell 3 rfl; have p0 := Y9.frozen 0; have p1 := Y9.frozen 1; have p2 := Y9.frozen 2; have p3 := Y9.frozen 3)
      | fail "no arm")
    have K4 : Only [] w w4 := (by with_reducible repeat (first | exact Only.refl _ _ | assumption | refine Only.drewN ?_ _ | refine Only.drew ?_ | refine Only.alloc ?_ _ | refine Only.setCell ?_ (by intro hh; exfalso; simp at hh; try omega) _ | refine Only.trans ?_ (by assumption)))
    have hz1 := t1.size
    simp at hz1
    have hFg : ∀ g ∈ f4, g ∉ [w.heap.size + 1] := fun g hg hm => by have := F4.ge g hg; simp at hm; omega
    have Yf := (((Y9.set 0 (.int .i64 (wCert o).kind)).set 1 (.slice b1 (wCert o).numbers.length k1)).set 2 (.slice b2 (wCert o).words.length k2)).set 3 (.slice b3 (wCert o).tables.length k3)
    have kf : Only [w.heap.size + 1] w4 ((((w4.setCell ⟨w.heap.size + 1, 0, none⟩ (.int .i64 (wCert o).kind)).setCell ⟨w.heap.size + 1, 1, none⟩ (.slice b1 (wCert o).numbers.length k1)).setCell ⟨w.heap.size + 1, 2, none⟩ (.slice b2 (wCert o).words.length k2)).setCell ⟨w.heap.size + 1, 3, none⟩ (.slice b3 (wCert o).tables.length k3)) := ((((Only.refl _ _).setCell (by simp) _).setCell (by simp) _).setCell (by simp) _).setCell (by simp) _
    obtain ⟨wf, hwf⟩ : ∃ wf, wf = ((((w4.setCell ⟨w.heap.size + 1, 0, none⟩ (.int .i64 (wCert o).kind)).setCell ⟨w.heap.size + 1, 1, none⟩ (.slice b1 (wCert o).numbers.length k1)).setCell ⟨w.heap.size + 1, 2, none⟩ (.slice b2 (wCert o).words.length k2)).setCell ⟨w.heap.size + 1, 3, none⟩ (.slice b3 (wCert o).tables.length k3)) := ⟨_, rfl⟩
    rw [← hwf] at Yf kf ⊢
    simp only [List.set] at Yf
    clear hwf g0 g1 g2 g3 p0 p1 p2 p3
    have z0 := Yf.cell 0 rfl
    have z1 := Yf.cell 1 rfl
    have z2 := Yf.cell 2 rfl
    have z3 := Yf.cell 3 rfl
    refine bodyPost_ret (v := .tuple #[.agg #[.int .i64 (wCert o).kind, .slice b1 (wCert o).numbers.length k1, .slice b2 (wCert o).words.length k2, .slice b3 (wCert o).tables.length k3], .bool o.isSome]) (by simp [results, Tryz.results13, go_sem, z0, z1, z2, z3]) rfl ⟨[.int .i64 (wCert o).kind, .slice b1 (wCert o).numbers.length k1, .slice b2 (wCert o).words.length k2, .slice b3 (wCert o).tables.length k3], f4, by rw [Hn.out], by rw [Hn.out]; exact Rp.only rr kf hFg, (F4.mono (by omega)).only kf hFg, K4.then_ kf (by simp)⟩
end Go.Proofs.YtclhblofchfglaaGreat
