/- Counts of numbers in sessions. -/
import Derived.Test.YtpfmkjcngknecaaRedoKit
import Derived.Test.YtpfmkjcngknecaaExact
namespace Go.Proofs.Ytpfmkjcngknecaa
open Go.RowKit
set_option maxRecDepth 10000

theorem cnt_push (l : List (List Int)) (y : List Int) : Mk.cnt (pushW l y) ≤ Mk.cnt l + y.length := by
  have h : cntL (l ++ [y]) = cntL l + y.length := by rw [cntL_append]; simp [cntL, Mk.cnt, cntL_ints]
  unfold pushW
  split
  · show cntL ((l ++ [y]).drop 1) ≤ _
    rw [← List.take_append_drop 1 (l ++ [y]), cntL_append] at h
    have : Mk.cnt l = cntL l := rfl
    omega
  · show cntL (l ++ [y]) ≤ _
    rw [h]; exact Nat.le_refl _
theorem cnt_appW {x : Puzzle} {s l : List Int} (h : stateB x s = true) : Mk.cnt (appW x s l) ≤ 20 := by
  show cntL (appW x s l) ≤ 20
  rw [cntL_ints]
  unfold appW
  rw [PM.comp_len]
  have := (stateB_pn h)
  have h2 := this.2.2.2.1
  omega
theorem cnt_rest (l : List (List Int)) : Mk.cnt (restW l) ≤ Mk.cnt l := by
  show cntL (l.take _) ≤ cntL l
  exact cntL_take_le l _
end Go.Proofs.Ytpfmkjcngknecaa
