/-
  DERIVED. GIVEN WITH THE SEED: THE CARDS: each row of YtkcchceoljlnaaaDoorRows.lean that lists a variable, with what it lists TIED to the program's text (the seventh form; the later family's looks); each row that meets fmt, with fmt's text TOLD by the authors' own Lean function (tested against real Go, not proved from fmt's source: count such statements apart). THE CARD IS WHAT COUNTS. Prove the row's statement (the work); the ties are given (YtkcchceoljlnaaaDoorTie.lean); close each card by the builder's one call (the guide's Derived/Test/ToyasCard.lean, 'card_holds'). Laid BY PROGRAM, IN A SANDBOX (cutbox-door.mjs). By AI agents, Wed Nov 11 2026. No macro, syntax, notation, axiom, sorry.
-/
import Derived.Test.YtkcchceoljlnaaaDoorRows
import GoSem.ClaimSeven
namespace Go.Proofs.YtkcchceoljlnaaaDoor
namespace Rows

/-- THE TIED CARD OF 'laws.FnExactShowLabel'. -/
def fnExactShowLabelCard : Claim7 := { stood := { row := fnExactShowLabelRow, standIns := [], harness := (true, "de6df9a1ab8dfb43431fbc3a5696e07654a9d8942fb9d5b5226215f917c754fd"), looks := false }, kinds := [], alts := [], laidByText := true, laidKinds := [.data, .data, .data], laidTests := true, laidLooks := .later }
def FnExactShowLabelCardSaid : Prop := Claim7.holds Tryd.pinned (.plain (OpenSpec.ofChange fnExactShowLabelSpec)) fnExactShowLabelCard

/-- THE TIED CARD OF 'laws.FnLabels'. -/
def fnLabelsCard : Claim7 := { stood := { row := fnLabelsRow, standIns := [], harness := (true, "de6df9a1ab8dfb43431fbc3a5696e07654a9d8942fb9d5b5226215f917c754fd"), looks := false }, kinds := [], alts := [], laidByText := true, laidKinds := [.data, .data, .data], laidTests := true, laidLooks := .later }
def FnLabelsCardSaid : Prop := Claim7.holds Tryd.pinned (.plain (OpenSpec.ofChange fnLabelsSpec)) fnLabelsCard

/-- THE SECOND FORM's CARD OF 'laws.FnExactShowLabel'. -/
def fnExactShowLabelUptoCard : Claim7 := { stood := { row := fnExactShowLabelUptoRow, standIns := [], harness := (true, "de6df9a1ab8dfb43431fbc3a5696e07654a9d8942fb9d5b5226215f917c754fd"), looks := false }, kinds := [], alts := [], laidByText := true, laidKinds := [.data, .data, .data], laidTests := true, laidLooks := .later }
def FnExactShowLabelUptoCardSaid : Prop := Claim7.holds Tryd.pinned (.plain (OpenSpec.upto fnExactShowLabelSpec)) fnExactShowLabelUptoCard

/-- THE SECOND FORM's CARD OF 'laws.FnLabels'. -/
def fnLabelsUptoCard : Claim7 := { stood := { row := fnLabelsUptoRow, standIns := [], harness := (true, "de6df9a1ab8dfb43431fbc3a5696e07654a9d8942fb9d5b5226215f917c754fd"), looks := false }, kinds := [], alts := [], laidByText := true, laidKinds := [.data, .data, .data], laidTests := true, laidLooks := .later }
def FnLabelsUptoCardSaid : Prop := Claim7.holds Tryd.pinned (.plain (OpenSpec.upto fnLabelsSpec)) fnLabelsUptoCard
end Rows
end Go.Proofs.YtkcchceoljlnaaaDoor
