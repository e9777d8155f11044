/- Contracts of FlowsFor and Flows. -/
import Derived.Test.YtkcchceoljlnaaaDoorOwn
import Derived.Test.YtkcchceoljlnaaaDoorHas
import Derived.Test.YtkcchceoljlnaaaDoorAbove
namespace Go.Proofs.YtkcchceoljlnaaaDoor
set_option linter.unusedSimpArgs false
set_option linter.unusedVariables false
open Go.RowKit

def flowAt (os xs ys : List Int) (i : Nat) : Bool := decide (xs.getD i 0 ≤ ys.getD i 0) || hasB os (i : Int)
def flowB (os xs ys : List Int) : Bool := ownB os && labB xs && labB ys && (List.range 4).all (flowAt os xs ys)
theorem flowB_no1 {os xs ys : List Int} (h : ownB os = false) : flowB os xs ys = false := by simp [flowB, h]
theorem flowB_no2 {os xs ys : List Int} (h : labB xs = false) : flowB os xs ys = false := by simp [flowB, h]
theorem flowB_no3 {os xs ys : List Int} (h : labB ys = false) : flowB os xs ys = false := by simp [flowB, h]
theorem flowB_no {os xs ys : List Int} {k : Nat} (hk : k < 4) (h : flowAt os xs ys k = false) : flowB os xs ys = false := by
  have : (List.range 4).all (flowAt os xs ys) = false := by
    simp only [List.all_eq_false, List.mem_range]; exact ⟨k, hk, by simp [h]⟩
  simp [flowB, this]
theorem flowB_yes {os xs ys : List Int} (h1 : ownB os = true) (h2 : labB xs = true) (h3 : labB ys = true) (h : ∀ i, i < 4 → flowAt os xs ys i = true) : flowB os xs ys = true := by
  have : (List.range 4).all (flowAt os xs ys) = true := by
    simp only [List.all_eq_true, List.mem_range]; exact h
  simp [flowB, this, h1, h2, h3]
theorem labB_four {xs : List Int} (h : labB xs = true) : xs.length = 4 := by
  simp only [labB, Bool.and_eq_true, decide_eq_true_eq] at h; exact h.1

end Go.Proofs.YtkcchceoljlnaaaDoor
