/-
  No cell of these rows narrows 'for every input' (looked for: loops, veiled, ifaces, maps, wideKeys, modest, calm, conditions, laid).
  DERIVED. THE GIVEN ROWS OF THIS SEAT. 10 by the template 'for every input the law returns true; each argument reads behind the call as it read before'; 0 by the template 'total and deterministic' (their statements: YthjchlefafbfoaaTotals.lean).
  GIVEN WITH THE SEED: the statements are not yours to turn. If you find one false, say at which input.
  Laid BY PROGRAM, IN A SANDBOX (cutbox-rows.mjs): the forced cells as the released guide's own fill.sh prints them over the translation 157a79f1ae7e677c… (all of the seat's roots in one cut). By AI agents, Wed Nov 11 2026. No macro, syntax, notation, axiom, sorry.
-/
import Derived.Test.YthjchlefafbfoaaChecked
import GoSem.Claim
import GoSem.ClaimJoined
import GoSem.ClaimMapViews
import Derived.JoinedTies
import Derived.KernelRfl
namespace Go.Proofs.Ythjchlefafbfoaa
/- THE CELL 'sum', in the pinned program and in every row, IS THE sha256 OF THE DUMP (.gsa) THAT YthjchlefafbfoaaProg.lean LOADS. Nothing in Lean hashes anything: it is a label: what it is worth is what the hold of that sum in a sandbox is worth. -/
noncomputable def Try.pinned : Pinned := { name := "ythjchlefafbfoaa", sum := "157a79f1ae7e677c698ceafab700ab8fcf0db6232e1ca0791ddd88540c990ae2", checked := Try.checked }
namespace Rows
def none {H : Type} : Left H := { results := [], args := [] }

/-- 'laws.FnExactConstants': WHATEVER THE INPUT: true; the input reads as it did. -/
def fnExactConstantsSpec : ChangeSpec := { name := "fnExactConstants", fn := fun _ => fun
  | [] => { results := [.lit (.bool true)], args := [] }
  | _ => none }
def fnExactConstantsRow : OpenClaim := { program := "ythjchlefafbfoaa", sum := "157a79f1ae7e677c698ceafab700ab8fcf0db6232e1ca0791ddd88540c990ae2", func := "loop.example/g01287/laws.FnExactConstants", spec := "fnExactConstants", apart := false }
def FnExactConstantsSaid : Prop := fnExactConstantsRow.holds Try.pinned (OpenSpec.ofChange fnExactConstantsSpec)

/-- ITS FALSE NEIGHBOUR: 'it returns false'. Refute it at one input. -/
def fnExactConstantsWrong : ChangeSpec := { name := "fnExactConstants", fn := fun _ => fun
  | [] => { results := [.lit (.bool false)], args := [] }
  | _ => none }
def FnExactConstantsWrongFalsely : Prop := fnExactConstantsRow.holds Try.pinned (OpenSpec.ofChange fnExactConstantsWrong)

/-- 'laws.FnExactAmtOk': WHATEVER THE INPUT: true; the input reads as it did. -/
def fnExactAmtOkSpec : ChangeSpec := { name := "fnExactAmtOk", fn := fun _ => fun
  | [d] => { results := [.lit (.bool true)], args := [d] }
  | _ => none }
def fnExactAmtOkRow : OpenClaim := { program := "ythjchlefafbfoaa", sum := "157a79f1ae7e677c698ceafab700ab8fcf0db6232e1ca0791ddd88540c990ae2", func := "loop.example/g01287/laws.FnExactAmtOk", spec := "fnExactAmtOk", apart := false }
def FnExactAmtOkSaid : Prop := fnExactAmtOkRow.holds Try.pinned (OpenSpec.ofChange fnExactAmtOkSpec)

/-- ITS FALSE NEIGHBOUR: 'it returns false'. Refute it at one input. -/
def fnExactAmtOkWrong : ChangeSpec := { name := "fnExactAmtOk", fn := fun _ => fun
  | [d] => { results := [.lit (.bool false)], args := [d] }
  | _ => none }
def FnExactAmtOkWrongFalsely : Prop := fnExactAmtOkRow.holds Try.pinned (OpenSpec.ofChange fnExactAmtOkWrong)

/-- 'laws.FnExactAmtFits': WHATEVER THE INPUT: true; the input reads as it did. -/
def fnExactAmtFitsSpec : ChangeSpec := { name := "fnExactAmtFits", fn := fun _ => fun
  | [d1, d2] => { results := [.lit (.bool true)], args := [d1, d2] }
  | _ => none }
def fnExactAmtFitsRow : OpenClaim := { program := "ythjchlefafbfoaa", sum := "157a79f1ae7e677c698ceafab700ab8fcf0db6232e1ca0791ddd88540c990ae2", func := "loop.example/g01287/laws.FnExactAmtFits", spec := "fnExactAmtFits", apart := false }
def FnExactAmtFitsSaid : Prop := fnExactAmtFitsRow.holds Try.pinned (OpenSpec.ofChange fnExactAmtFitsSpec)

/-- ITS FALSE NEIGHBOUR: 'it returns false'. Refute it at one input. -/
def fnExactAmtFitsWrong : ChangeSpec := { name := "fnExactAmtFits", fn := fun _ => fun
  | [d1, d2] => { results := [.lit (.bool false)], args := [d1, d2] }
  | _ => none }
def FnExactAmtFitsWrongFalsely : Prop := fnExactAmtFitsRow.holds Try.pinned (OpenSpec.ofChange fnExactAmtFitsWrong)

/-- 'laws.FnExactAmtPart': WHATEVER THE INPUT: true; the input reads as it did. -/
def fnExactAmtPartSpec : ChangeSpec := { name := "fnExactAmtPart", fn := fun _ => fun
  | [d1, d2] => { results := [.lit (.bool true)], args := [d1, d2] }
  | _ => none }
def fnExactAmtPartRow : OpenClaim := { program := "ythjchlefafbfoaa", sum := "157a79f1ae7e677c698ceafab700ab8fcf0db6232e1ca0791ddd88540c990ae2", func := "loop.example/g01287/laws.FnExactAmtPart", spec := "fnExactAmtPart", apart := false }
def FnExactAmtPartSaid : Prop := fnExactAmtPartRow.holds Try.pinned (OpenSpec.ofChange fnExactAmtPartSpec)

/-- ITS FALSE NEIGHBOUR: 'it returns false'. Refute it at one input. -/
def fnExactAmtPartWrong : ChangeSpec := { name := "fnExactAmtPart", fn := fun _ => fun
  | [d1, d2] => { results := [.lit (.bool false)], args := [d1, d2] }
  | _ => none }
def FnExactAmtPartWrongFalsely : Prop := fnExactAmtPartRow.holds Try.pinned (OpenSpec.ofChange fnExactAmtPartWrong)

/-- 'laws.FnExactAmtOne': WHATEVER THE INPUT: true; the input reads as it did. -/
def fnExactAmtOneSpec : ChangeSpec := { name := "fnExactAmtOne", fn := fun _ => fun
  | [d1, d2] => { results := [.lit (.bool true)], args := [d1, d2] }
  | _ => none }
def fnExactAmtOneRow : OpenClaim := { program := "ythjchlefafbfoaa", sum := "157a79f1ae7e677c698ceafab700ab8fcf0db6232e1ca0791ddd88540c990ae2", func := "loop.example/g01287/laws.FnExactAmtOne", spec := "fnExactAmtOne", apart := false }
def FnExactAmtOneSaid : Prop := fnExactAmtOneRow.holds Try.pinned (OpenSpec.ofChange fnExactAmtOneSpec)

/-- ITS FALSE NEIGHBOUR: 'it returns false'. Refute it at one input. -/
def fnExactAmtOneWrong : ChangeSpec := { name := "fnExactAmtOne", fn := fun _ => fun
  | [d1, d2] => { results := [.lit (.bool false)], args := [d1, d2] }
  | _ => none }
def FnExactAmtOneWrongFalsely : Prop := fnExactAmtOneRow.holds Try.pinned (OpenSpec.ofChange fnExactAmtOneWrong)

/-- 'laws.FnExactAmtSub': WHATEVER THE INPUT: true; the input reads as it did. -/
def fnExactAmtSubSpec : ChangeSpec := { name := "fnExactAmtSub", fn := fun _ => fun
  | [d1, d2] => { results := [.lit (.bool true)], args := [d1, d2] }
  | _ => none }
def fnExactAmtSubRow : OpenClaim := { program := "ythjchlefafbfoaa", sum := "157a79f1ae7e677c698ceafab700ab8fcf0db6232e1ca0791ddd88540c990ae2", func := "loop.example/g01287/laws.FnExactAmtSub", spec := "fnExactAmtSub", apart := false }
def FnExactAmtSubSaid : Prop := fnExactAmtSubRow.holds Try.pinned (OpenSpec.ofChange fnExactAmtSubSpec)

/-- ITS FALSE NEIGHBOUR: 'it returns false'. Refute it at one input. -/
def fnExactAmtSubWrong : ChangeSpec := { name := "fnExactAmtSub", fn := fun _ => fun
  | [d1, d2] => { results := [.lit (.bool false)], args := [d1, d2] }
  | _ => none }
def FnExactAmtSubWrongFalsely : Prop := fnExactAmtSubRow.holds Try.pinned (OpenSpec.ofChange fnExactAmtSubWrong)

/-- 'laws.FnExactAmtAdd': WHATEVER THE INPUT: true; the input reads as it did. -/
def fnExactAmtAddSpec : ChangeSpec := { name := "fnExactAmtAdd", fn := fun _ => fun
  | [d1, d2] => { results := [.lit (.bool true)], args := [d1, d2] }
  | _ => none }
def fnExactAmtAddRow : OpenClaim := { program := "ythjchlefafbfoaa", sum := "157a79f1ae7e677c698ceafab700ab8fcf0db6232e1ca0791ddd88540c990ae2", func := "loop.example/g01287/laws.FnExactAmtAdd", spec := "fnExactAmtAdd", apart := false }
def FnExactAmtAddSaid : Prop := fnExactAmtAddRow.holds Try.pinned (OpenSpec.ofChange fnExactAmtAddSpec)

/-- ITS FALSE NEIGHBOUR: 'it returns false'. Refute it at one input. -/
def fnExactAmtAddWrong : ChangeSpec := { name := "fnExactAmtAdd", fn := fun _ => fun
  | [d1, d2] => { results := [.lit (.bool false)], args := [d1, d2] }
  | _ => none }
def FnExactAmtAddWrongFalsely : Prop := fnExactAmtAddRow.holds Try.pinned (OpenSpec.ofChange fnExactAmtAddWrong)

/-- 'laws.FnExactTapOk': WHATEVER THE INPUT: true; the input reads as it did. -/
def fnExactTapOkSpec : ChangeSpec := { name := "fnExactTapOk", fn := fun _ => fun
  | [d] => { results := [.lit (.bool true)], args := [d] }
  | _ => none }
def fnExactTapOkRow : OpenClaim := { program := "ythjchlefafbfoaa", sum := "157a79f1ae7e677c698ceafab700ab8fcf0db6232e1ca0791ddd88540c990ae2", func := "loop.example/g01287/laws.FnExactTapOk", spec := "fnExactTapOk", apart := false }
def FnExactTapOkSaid : Prop := fnExactTapOkRow.holds Try.pinned (OpenSpec.ofChange fnExactTapOkSpec)

/-- ITS FALSE NEIGHBOUR: 'it returns false'. Refute it at one input. -/
def fnExactTapOkWrong : ChangeSpec := { name := "fnExactTapOk", fn := fun _ => fun
  | [d] => { results := [.lit (.bool false)], args := [d] }
  | _ => none }
def FnExactTapOkWrongFalsely : Prop := fnExactTapOkRow.holds Try.pinned (OpenSpec.ofChange fnExactTapOkWrong)

/-- 'laws.FnExactTapFlow': WHATEVER THE INPUT: true; the input reads as it did. -/
def fnExactTapFlowSpec : ChangeSpec := { name := "fnExactTapFlow", fn := fun _ => fun
  | [d1, d2] => { results := [.lit (.bool true)], args := [d1, d2] }
  | _ => none }
def fnExactTapFlowRow : OpenClaim := { program := "ythjchlefafbfoaa", sum := "157a79f1ae7e677c698ceafab700ab8fcf0db6232e1ca0791ddd88540c990ae2", func := "loop.example/g01287/laws.FnExactTapFlow", spec := "fnExactTapFlow", apart := false }
def FnExactTapFlowSaid : Prop := fnExactTapFlowRow.holds Try.pinned (OpenSpec.ofChange fnExactTapFlowSpec)

/-- ITS FALSE NEIGHBOUR: 'it returns false'. Refute it at one input. -/
def fnExactTapFlowWrong : ChangeSpec := { name := "fnExactTapFlow", fn := fun _ => fun
  | [d1, d2] => { results := [.lit (.bool false)], args := [d1, d2] }
  | _ => none }
def FnExactTapFlowWrongFalsely : Prop := fnExactTapFlowRow.holds Try.pinned (OpenSpec.ofChange fnExactTapFlowWrong)

/-- 'laws.FnAmts': WHATEVER THE INPUT: true; the input reads as it did. -/
def fnAmtsSpec : ChangeSpec := { name := "fnAmts", fn := fun _ => fun
  | [d] => { results := [.lit (.bool true)], args := [d] }
  | _ => none }
def fnAmtsRow : OpenClaim := { program := "ythjchlefafbfoaa", sum := "157a79f1ae7e677c698ceafab700ab8fcf0db6232e1ca0791ddd88540c990ae2", func := "loop.example/g01287/laws.FnAmts", spec := "fnAmts", apart := false }
def FnAmtsSaid : Prop := fnAmtsRow.holds Try.pinned (OpenSpec.ofChange fnAmtsSpec)

/-- ITS FALSE NEIGHBOUR: 'it returns false'. Refute it at one input. -/
def fnAmtsWrong : ChangeSpec := { name := "fnAmts", fn := fun _ => fun
  | [d] => { results := [.lit (.bool false)], args := [d] }
  | _ => none }
def FnAmtsWrongFalsely : Prop := fnAmtsRow.holds Try.pinned (OpenSpec.ofChange fnAmtsWrong)

/- THE SECOND FORM. 'bulk': how many values and letters a reading holds, each counted each time it is reached (what is shared counts as often as it is met; a slice's spare places count too). A statement '..UptoSaid' is the law's where the arguments, and the package variables that the reading takes, are together of bulk at most 1048576: NARROWER than '..Said'. Prove '..Said' where nothing that the law and all that it calls make is longer than what came in: it says more and counts as full. Else prove '..UptoSaid'. A law counts once. -/
mutual
def uptoBulk {H : Type} : DataW H → Nat
  | .lit (.string bytes) => bytes.length + 1
  | .lit _ => 1
  | .nil => 1
  | .ptr d => uptoBulk d + 1
  | .slice elems spare => uptoBulkAll elems + uptoBulkAll spare + 1
  | .agg parts => uptoBulkAll parts + 1
  | .iface _ d => uptoBulk d + 1
  | .map entries => uptoBulkEntries entries + 1
  | .held _ => 1
def uptoBulkAll {H : Type} : List (DataW H) → Nat
  | [] => 0
  | d :: r => uptoBulk d + uptoBulkAll r
def uptoBulkEntries {H : Type} : List (Lit × DataW H) → Nat
  | [] => 0
  | x :: r => uptoBulkEntry x + uptoBulkEntries r
def uptoBulkEntry {H : Type} : Lit × DataW H → Nat
  | (.string bytes, d) => bytes.length + uptoBulk d + 1
  | (_, d) => uptoBulk d + 1
 end
def uptoSmall : (H : Type) → List (DataW H) → Bool := fun _ ds => decide (uptoBulkAll ds ≤ 1048576)
def OpenSpec.upto (s : _root_.Go.ChangeSpec) : _root_.Go.OpenSpec := { _root_.Go.OpenSpec.ofChange s with cond := some uptoSmall }

/-- 'laws.FnExactConstants', WHERE WHAT IT READS IS OF BULK AT MOST 1048576: true; the input reads as it did. -/
def fnExactConstantsUptoRow : OpenClaim := { program := "ythjchlefafbfoaa", sum := "157a79f1ae7e677c698ceafab700ab8fcf0db6232e1ca0791ddd88540c990ae2", func := "loop.example/g01287/laws.FnExactConstants", spec := "fnExactConstants", apart := false, narrowed := true }
def FnExactConstantsUptoSaid : Prop := fnExactConstantsUptoRow.holds Try.pinned (OpenSpec.upto fnExactConstantsSpec)

/-- 'laws.FnExactAmtOk', WHERE WHAT IT READS IS OF BULK AT MOST 1048576: true; the input reads as it did. -/
def fnExactAmtOkUptoRow : OpenClaim := { program := "ythjchlefafbfoaa", sum := "157a79f1ae7e677c698ceafab700ab8fcf0db6232e1ca0791ddd88540c990ae2", func := "loop.example/g01287/laws.FnExactAmtOk", spec := "fnExactAmtOk", apart := false, narrowed := true }
def FnExactAmtOkUptoSaid : Prop := fnExactAmtOkUptoRow.holds Try.pinned (OpenSpec.upto fnExactAmtOkSpec)

/-- 'laws.FnExactAmtFits', WHERE WHAT IT READS IS OF BULK AT MOST 1048576: true; the input reads as it did. -/
def fnExactAmtFitsUptoRow : OpenClaim := { program := "ythjchlefafbfoaa", sum := "157a79f1ae7e677c698ceafab700ab8fcf0db6232e1ca0791ddd88540c990ae2", func := "loop.example/g01287/laws.FnExactAmtFits", spec := "fnExactAmtFits", apart := false, narrowed := true }
def FnExactAmtFitsUptoSaid : Prop := fnExactAmtFitsUptoRow.holds Try.pinned (OpenSpec.upto fnExactAmtFitsSpec)

/-- 'laws.FnExactAmtPart', WHERE WHAT IT READS IS OF BULK AT MOST 1048576: true; the input reads as it did. -/
def fnExactAmtPartUptoRow : OpenClaim := { program := "ythjchlefafbfoaa", sum := "157a79f1ae7e677c698ceafab700ab8fcf0db6232e1ca0791ddd88540c990ae2", func := "loop.example/g01287/laws.FnExactAmtPart", spec := "fnExactAmtPart", apart := false, narrowed := true }
def FnExactAmtPartUptoSaid : Prop := fnExactAmtPartUptoRow.holds Try.pinned (OpenSpec.upto fnExactAmtPartSpec)

/-- 'laws.FnExactAmtOne', WHERE WHAT IT READS IS OF BULK AT MOST 1048576: true; the input reads as it did. -/
def fnExactAmtOneUptoRow : OpenClaim := { program := "ythjchlefafbfoaa", sum := "157a79f1ae7e677c698ceafab700ab8fcf0db6232e1ca0791ddd88540c990ae2", func := "loop.example/g01287/laws.FnExactAmtOne", spec := "fnExactAmtOne", apart := false, narrowed := true }
def FnExactAmtOneUptoSaid : Prop := fnExactAmtOneUptoRow.holds Try.pinned (OpenSpec.upto fnExactAmtOneSpec)

/-- 'laws.FnExactAmtSub', WHERE WHAT IT READS IS OF BULK AT MOST 1048576: true; the input reads as it did. -/
def fnExactAmtSubUptoRow : OpenClaim := { program := "ythjchlefafbfoaa", sum := "157a79f1ae7e677c698ceafab700ab8fcf0db6232e1ca0791ddd88540c990ae2", func := "loop.example/g01287/laws.FnExactAmtSub", spec := "fnExactAmtSub", apart := false, narrowed := true }
def FnExactAmtSubUptoSaid : Prop := fnExactAmtSubUptoRow.holds Try.pinned (OpenSpec.upto fnExactAmtSubSpec)

/-- 'laws.FnExactAmtAdd', WHERE WHAT IT READS IS OF BULK AT MOST 1048576: true; the input reads as it did. -/
def fnExactAmtAddUptoRow : OpenClaim := { program := "ythjchlefafbfoaa", sum := "157a79f1ae7e677c698ceafab700ab8fcf0db6232e1ca0791ddd88540c990ae2", func := "loop.example/g01287/laws.FnExactAmtAdd", spec := "fnExactAmtAdd", apart := false, narrowed := true }
def FnExactAmtAddUptoSaid : Prop := fnExactAmtAddUptoRow.holds Try.pinned (OpenSpec.upto fnExactAmtAddSpec)

/-- 'laws.FnExactTapOk', WHERE WHAT IT READS IS OF BULK AT MOST 1048576: true; the input reads as it did. -/
def fnExactTapOkUptoRow : OpenClaim := { program := "ythjchlefafbfoaa", sum := "157a79f1ae7e677c698ceafab700ab8fcf0db6232e1ca0791ddd88540c990ae2", func := "loop.example/g01287/laws.FnExactTapOk", spec := "fnExactTapOk", apart := false, narrowed := true }
def FnExactTapOkUptoSaid : Prop := fnExactTapOkUptoRow.holds Try.pinned (OpenSpec.upto fnExactTapOkSpec)

/-- 'laws.FnExactTapFlow', WHERE WHAT IT READS IS OF BULK AT MOST 1048576: true; the input reads as it did. -/
def fnExactTapFlowUptoRow : OpenClaim := { program := "ythjchlefafbfoaa", sum := "157a79f1ae7e677c698ceafab700ab8fcf0db6232e1ca0791ddd88540c990ae2", func := "loop.example/g01287/laws.FnExactTapFlow", spec := "fnExactTapFlow", apart := false, narrowed := true }
def FnExactTapFlowUptoSaid : Prop := fnExactTapFlowUptoRow.holds Try.pinned (OpenSpec.upto fnExactTapFlowSpec)

/-- 'laws.FnAmts', WHERE WHAT IT READS IS OF BULK AT MOST 1048576: true; the input reads as it did. -/
def fnAmtsUptoRow : OpenClaim := { program := "ythjchlefafbfoaa", sum := "157a79f1ae7e677c698ceafab700ab8fcf0db6232e1ca0791ddd88540c990ae2", func := "loop.example/g01287/laws.FnAmts", spec := "fnAmts", apart := false, narrowed := true }
def FnAmtsUptoSaid : Prop := fnAmtsUptoRow.holds Try.pinned (OpenSpec.upto fnAmtsSpec)

end Rows
end Go.Proofs.Ythjchlefafbfoaa
