/- Contracts of Needs. -/
import Derived.Test.YtkcchceoljlnaaaDoorJLaw
import Derived.Test.YtkcchceoljlnaaaDoorJoinM
import Derived.Test.YtkcchceoljlnaaaDoorFlowsP
namespace Go.Proofs.YtkcchceoljlnaaaDoor
set_option linter.unusedSimpArgs false
set_option linter.unusedVariables false
open Go.RowKit
attribute [local go_sem ↓] Go.wp_at_zero Go.wp_at_succ

def needsR (os xs ys : List Int) : List Int := if flowB os xs ys then aboveTo xs ys 4 else []
theorem needsR_no {os xs ys : List Int} (h : flowB os xs ys = false) : needsR os xs ys = [] := by simp [needsR, h]
theorem needsR_yes {os xs ys : List Int} (h : flowB os xs ys = true) : needsR os xs ys = aboveTo xs ys 4 := by simp [needsR, h]
theorem needsR_len (os xs ys : List Int) : (needsR os xs ys).length ≤ 4 := by
  unfold needsR
  split
  · exact aboveTo_len _ _ _
  · simp
theorem flowB_labs {os xs ys : List Int} (h : flowB os xs ys = true) : labB xs = true ∧ labB ys = true := by
  simp only [flowB, Bool.and_eq_true] at h
  exact ⟨h.1.1.2, h.1.2⟩
def OutI (L : List Int) (w : World) (e : Ending) (w' : World) : Prop :=
  ∃ A' c', e = .returned (.slice A' L.length c') ∧ Own w' w.heap.size 3 A' (L.map (Value.int .i64)) ∧ Below w.heap.size w w'
end Go.Proofs.YtkcchceoljlnaaaDoor
