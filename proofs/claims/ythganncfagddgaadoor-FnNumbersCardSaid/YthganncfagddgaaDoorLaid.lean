/- What the laid variables of a row give the walks: the table of Itoa, the two errors of strconv. -/
import Derived.Test.YthganncfagddgaaDoorReadDec
import Derived.MakeChecks
import Derived.LaidMore
import Derived.Stop.Joined
import Derived.Stop.LaidErr
namespace Go.Proofs.YthganncfagddgaaDoor
set_option linter.unusedSimpArgs false
set_option linter.unusedVariables false
open Go.Joins Go.ChangeShapes Go.WideShapes Go.ChangeAt Go.RowKit Go.Deep

theorem star_es : "*" ++ "errors.errorString" = "*errors.errorString" := by decide
theorem row_es (u : TypeId) (h : (Tryd.prog).typeName? 3 u = some "*errors.errorString") : u = 83 :=
  typeName_ptr_named (nm := "errors.errorString") (by rw [star_es]; kernel_rfl) (by kernel_rfl) (by decide) u (by rw [star_es]; exact h)
theorem rtab_of {W : World} (h : laidMetH Tryd.prog Rows.fnExactReadDecRow.laid W) : RTab W := by
  rw [MakeChecks.laidMetH_plain _ _ _ (by kernel_rfl)] at h
  have h2 := laidMet.tail (laidMet.tail h)
  have h3 := laidMet.tail h2
  have h4 := laidMet.tail h3
  have c85 : (Tryd.prog).cellsOf 85 = 1 := by kernel_rfl
  have c9 : (Tryd.prog).cellsOf 9 = 1 := by kernel_rfl
  obtain ⟨a0, s0, r0, -, -, -⟩ := laid_sentinel (g := 1) h3 (by kernel_rfl) (by kernel_rfl) Tryd.underlying39 row_es Tryd.underlying83 Tryd.underlying85 rfl rfl Tryd.underlying9 c85 c9
  obtain ⟨a1, s1, r1, -, -, -⟩ := laid_sentinel (g := 0) h4 (by kernel_rfl) (by kernel_rfl) Tryd.underlying39 row_es Tryd.underlying83 Tryd.underlying85 rfl rfl Tryd.underlying9 c85 c9
  exact ⟨Lib.tabIs_of_head (g := 3) (by kernel_rfl) (by kernel_rfl) Tryd.underlying77 Tryd.underlying65 (by kernel_rfl) (by kernel_rfl) h2, ⟨_, _, r1⟩, ⟨_, _, r0⟩⟩

end Go.Proofs.YthganncfagddgaaDoor
