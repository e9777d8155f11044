/-
  No cell of these rows narrows 'for every input' (looked for: loops, veiled, ifaces, maps, wideKeys, modest, calm, conditions, laid).
  DERIVED. THE GIVEN ROWS OF THIS SEAT. 11 by the template 'for every input the law returns true; each argument reads behind the call as it read before'; 0 by the template 'total and deterministic' (their statements: YtkcchceoljlnaaaTotals.lean).
  GIVEN WITH THE SEED: the statements are not yours to turn. If you find one false, say at which input.
  Laid BY PROGRAM, IN A SANDBOX (cutbox-rows.mjs): the forced cells as the released guide's own fill.sh prints them over the translation ef0c44f8ef13a918… (all of the seat's roots in one cut). By AI agents, Wed Nov 11 2026. No macro, syntax, notation, axiom, sorry.
-/
import Derived.Test.YtkcchceoljlnaaaChecked
import GoSem.Claim
import GoSem.ClaimJoined
import GoSem.ClaimMapViews
import Derived.JoinedTies
import Derived.KernelRfl
namespace Go.Proofs.Ytkcchceoljlnaaa
/- THE CELL 'sum', in the pinned program and in every row, IS THE sha256 OF THE DUMP (.gsa) THAT YtkcchceoljlnaaaProg.lean LOADS. Nothing in Lean hashes anything: it is a label: what it is worth is what the hold of that sum in a sandbox is worth. -/
noncomputable def Try.pinned : Pinned := { name := "ytkcchceoljlnaaa", sum := "ef0c44f8ef13a9186c14a787bf00a712e8820fc91d4c806a1025d447a75c5502", checked := Try.checked }
namespace Rows
def none {H : Type} : Left H := { results := [], args := [] }

/-- 'laws.FnExactOwnOk': WHATEVER THE INPUT: true; the input reads as it did. -/
def fnExactOwnOkSpec : ChangeSpec := { name := "fnExactOwnOk", fn := fun _ => fun
  | [d] => { results := [.lit (.bool true)], args := [d] }
  | _ => none }
def fnExactOwnOkRow : OpenClaim := { program := "ytkcchceoljlnaaa", sum := "ef0c44f8ef13a9186c14a787bf00a712e8820fc91d4c806a1025d447a75c5502", func := "loop.example/g01287/laws.FnExactOwnOk", spec := "fnExactOwnOk", apart := false }
def FnExactOwnOkSaid : Prop := fnExactOwnOkRow.holds Try.pinned (OpenSpec.ofChange fnExactOwnOkSpec)

/-- ITS FALSE NEIGHBOUR: 'it returns false'. Refute it at one input. -/
def fnExactOwnOkWrong : ChangeSpec := { name := "fnExactOwnOk", fn := fun _ => fun
  | [d] => { results := [.lit (.bool false)], args := [d] }
  | _ => none }
def FnExactOwnOkWrongFalsely : Prop := fnExactOwnOkRow.holds Try.pinned (OpenSpec.ofChange fnExactOwnOkWrong)

/-- 'laws.FnExactLabelOk': WHATEVER THE INPUT: true; the input reads as it did. -/
def fnExactLabelOkSpec : ChangeSpec := { name := "fnExactLabelOk", fn := fun _ => fun
  | [d] => { results := [.lit (.bool true)], args := [d] }
  | _ => none }
def fnExactLabelOkRow : OpenClaim := { program := "ytkcchceoljlnaaa", sum := "ef0c44f8ef13a9186c14a787bf00a712e8820fc91d4c806a1025d447a75c5502", func := "loop.example/g01287/laws.FnExactLabelOk", spec := "fnExactLabelOk", apart := false }
def FnExactLabelOkSaid : Prop := fnExactLabelOkRow.holds Try.pinned (OpenSpec.ofChange fnExactLabelOkSpec)

/-- ITS FALSE NEIGHBOUR: 'it returns false'. Refute it at one input. -/
def fnExactLabelOkWrong : ChangeSpec := { name := "fnExactLabelOk", fn := fun _ => fun
  | [d] => { results := [.lit (.bool false)], args := [d] }
  | _ => none }
def FnExactLabelOkWrongFalsely : Prop := fnExactLabelOkRow.holds Try.pinned (OpenSpec.ofChange fnExactLabelOkWrong)

/-- 'laws.FnExactSameLabel': WHATEVER THE INPUT: true; the input reads as it did. -/
def fnExactSameLabelSpec : ChangeSpec := { name := "fnExactSameLabel", fn := fun _ => fun
  | [d1, d2] => { results := [.lit (.bool true)], args := [d1, d2] }
  | _ => none }
def fnExactSameLabelRow : OpenClaim := { program := "ytkcchceoljlnaaa", sum := "ef0c44f8ef13a9186c14a787bf00a712e8820fc91d4c806a1025d447a75c5502", func := "loop.example/g01287/laws.FnExactSameLabel", spec := "fnExactSameLabel", apart := false }
def FnExactSameLabelSaid : Prop := fnExactSameLabelRow.holds Try.pinned (OpenSpec.ofChange fnExactSameLabelSpec)

/-- ITS FALSE NEIGHBOUR: 'it returns false'. Refute it at one input. -/
def fnExactSameLabelWrong : ChangeSpec := { name := "fnExactSameLabel", fn := fun _ => fun
  | [d1, d2] => { results := [.lit (.bool false)], args := [d1, d2] }
  | _ => none }
def FnExactSameLabelWrongFalsely : Prop := fnExactSameLabelRow.holds Try.pinned (OpenSpec.ofChange fnExactSameLabelWrong)

/-- 'laws.FnExactFlat': WHATEVER THE INPUT: true; the input reads as it did. -/
def fnExactFlatSpec : ChangeSpec := { name := "fnExactFlat", fn := fun _ => fun
  | [d] => { results := [.lit (.bool true)], args := [d] }
  | _ => none }
def fnExactFlatRow : OpenClaim := { program := "ytkcchceoljlnaaa", sum := "ef0c44f8ef13a9186c14a787bf00a712e8820fc91d4c806a1025d447a75c5502", func := "loop.example/g01287/laws.FnExactFlat", spec := "fnExactFlat", apart := false }
def FnExactFlatSaid : Prop := fnExactFlatRow.holds Try.pinned (OpenSpec.ofChange fnExactFlatSpec)

/-- ITS FALSE NEIGHBOUR: 'it returns false'. Refute it at one input. -/
def fnExactFlatWrong : ChangeSpec := { name := "fnExactFlat", fn := fun _ => fun
  | [d] => { results := [.lit (.bool false)], args := [d] }
  | _ => none }
def FnExactFlatWrongFalsely : Prop := fnExactFlatRow.holds Try.pinned (OpenSpec.ofChange fnExactFlatWrong)

/-- 'laws.FnExactReadLabel': WHATEVER THE INPUT: true; the input reads as it did. -/
def fnExactReadLabelSpec : ChangeSpec := { name := "fnExactReadLabel", fn := fun _ => fun
  | [d] => { results := [.lit (.bool true)], args := [d] }
  | _ => none }
def fnExactReadLabelRow : OpenClaim := { program := "ytkcchceoljlnaaa", sum := "ef0c44f8ef13a9186c14a787bf00a712e8820fc91d4c806a1025d447a75c5502", func := "loop.example/g01287/laws.FnExactReadLabel", spec := "fnExactReadLabel", apart := false }
def FnExactReadLabelSaid : Prop := fnExactReadLabelRow.holds Try.pinned (OpenSpec.ofChange fnExactReadLabelSpec)

/-- ITS FALSE NEIGHBOUR: 'it returns false'. Refute it at one input. -/
def fnExactReadLabelWrong : ChangeSpec := { name := "fnExactReadLabel", fn := fun _ => fun
  | [d] => { results := [.lit (.bool false)], args := [d] }
  | _ => none }
def FnExactReadLabelWrongFalsely : Prop := fnExactReadLabelRow.holds Try.pinned (OpenSpec.ofChange fnExactReadLabelWrong)

/-- 'laws.FnExactJoin': WHATEVER THE INPUT: true; the input reads as it did. -/
def fnExactJoinSpec : ChangeSpec := { name := "fnExactJoin", fn := fun _ => fun
  | [d1, d2] => { results := [.lit (.bool true)], args := [d1, d2] }
  | _ => none }
def fnExactJoinRow : OpenClaim := { program := "ytkcchceoljlnaaa", sum := "ef0c44f8ef13a9186c14a787bf00a712e8820fc91d4c806a1025d447a75c5502", func := "loop.example/g01287/laws.FnExactJoin", spec := "fnExactJoin", apart := false }
def FnExactJoinSaid : Prop := fnExactJoinRow.holds Try.pinned (OpenSpec.ofChange fnExactJoinSpec)

/-- ITS FALSE NEIGHBOUR: 'it returns false'. Refute it at one input. -/
def fnExactJoinWrong : ChangeSpec := { name := "fnExactJoin", fn := fun _ => fun
  | [d1, d2] => { results := [.lit (.bool false)], args := [d1, d2] }
  | _ => none }
def FnExactJoinWrongFalsely : Prop := fnExactJoinRow.holds Try.pinned (OpenSpec.ofChange fnExactJoinWrong)

/-- 'laws.FnExactMeet': WHATEVER THE INPUT: true; the input reads as it did. -/
def fnExactMeetSpec : ChangeSpec := { name := "fnExactMeet", fn := fun _ => fun
  | [d1, d2] => { results := [.lit (.bool true)], args := [d1, d2] }
  | _ => none }
def fnExactMeetRow : OpenClaim := { program := "ytkcchceoljlnaaa", sum := "ef0c44f8ef13a9186c14a787bf00a712e8820fc91d4c806a1025d447a75c5502", func := "loop.example/g01287/laws.FnExactMeet", spec := "fnExactMeet", apart := false }
def FnExactMeetSaid : Prop := fnExactMeetRow.holds Try.pinned (OpenSpec.ofChange fnExactMeetSpec)

/-- ITS FALSE NEIGHBOUR: 'it returns false'. Refute it at one input. -/
def fnExactMeetWrong : ChangeSpec := { name := "fnExactMeet", fn := fun _ => fun
  | [d1, d2] => { results := [.lit (.bool false)], args := [d1, d2] }
  | _ => none }
def FnExactMeetWrongFalsely : Prop := fnExactMeetRow.holds Try.pinned (OpenSpec.ofChange fnExactMeetWrong)

/-- 'laws.FnExactFlows': WHATEVER THE INPUT: true; the input reads as it did. -/
def fnExactFlowsSpec : ChangeSpec := { name := "fnExactFlows", fn := fun _ => fun
  | [d1, d2] => { results := [.lit (.bool true)], args := [d1, d2] }
  | _ => none }
def fnExactFlowsRow : OpenClaim := { program := "ytkcchceoljlnaaa", sum := "ef0c44f8ef13a9186c14a787bf00a712e8820fc91d4c806a1025d447a75c5502", func := "loop.example/g01287/laws.FnExactFlows", spec := "fnExactFlows", apart := false }
def FnExactFlowsSaid : Prop := fnExactFlowsRow.holds Try.pinned (OpenSpec.ofChange fnExactFlowsSpec)

/-- ITS FALSE NEIGHBOUR: 'it returns false'. Refute it at one input. -/
def fnExactFlowsWrong : ChangeSpec := { name := "fnExactFlows", fn := fun _ => fun
  | [d1, d2] => { results := [.lit (.bool false)], args := [d1, d2] }
  | _ => none }
def FnExactFlowsWrongFalsely : Prop := fnExactFlowsRow.holds Try.pinned (OpenSpec.ofChange fnExactFlowsWrong)

/-- 'laws.FnExactFlowsFor': WHATEVER THE INPUT: true; the input reads as it did. -/
def fnExactFlowsForSpec : ChangeSpec := { name := "fnExactFlowsFor", fn := fun _ => fun
  | [d1, d2, d3] => { results := [.lit (.bool true)], args := [d1, d2, d3] }
  | _ => none }
def fnExactFlowsForRow : OpenClaim := { program := "ytkcchceoljlnaaa", sum := "ef0c44f8ef13a9186c14a787bf00a712e8820fc91d4c806a1025d447a75c5502", func := "loop.example/g01287/laws.FnExactFlowsFor", spec := "fnExactFlowsFor", apart := false }
def FnExactFlowsForSaid : Prop := fnExactFlowsForRow.holds Try.pinned (OpenSpec.ofChange fnExactFlowsForSpec)

/-- ITS FALSE NEIGHBOUR: 'it returns false'. Refute it at one input. -/
def fnExactFlowsForWrong : ChangeSpec := { name := "fnExactFlowsFor", fn := fun _ => fun
  | [d1, d2, d3] => { results := [.lit (.bool false)], args := [d1, d2, d3] }
  | _ => none }
def FnExactFlowsForWrongFalsely : Prop := fnExactFlowsForRow.holds Try.pinned (OpenSpec.ofChange fnExactFlowsForWrong)

/-- 'laws.FnExactNeeds': WHATEVER THE INPUT: true; the input reads as it did. -/
def fnExactNeedsSpec : ChangeSpec := { name := "fnExactNeeds", fn := fun _ => fun
  | [d1, d2, d3] => { results := [.lit (.bool true)], args := [d1, d2, d3] }
  | _ => none }
def fnExactNeedsRow : OpenClaim := { program := "ytkcchceoljlnaaa", sum := "ef0c44f8ef13a9186c14a787bf00a712e8820fc91d4c806a1025d447a75c5502", func := "loop.example/g01287/laws.FnExactNeeds", spec := "fnExactNeeds", apart := false }
def FnExactNeedsSaid : Prop := fnExactNeedsRow.holds Try.pinned (OpenSpec.ofChange fnExactNeedsSpec)

/-- ITS FALSE NEIGHBOUR: 'it returns false'. Refute it at one input. -/
def fnExactNeedsWrong : ChangeSpec := { name := "fnExactNeeds", fn := fun _ => fun
  | [d1, d2, d3] => { results := [.lit (.bool false)], args := [d1, d2, d3] }
  | _ => none }
def FnExactNeedsWrongFalsely : Prop := fnExactNeedsRow.holds Try.pinned (OpenSpec.ofChange fnExactNeedsWrong)

/-- 'laws.FnOwns': WHATEVER THE INPUT: true; the input reads as it did. -/
def fnOwnsSpec : ChangeSpec := { name := "fnOwns", fn := fun _ => fun
  | [d] => { results := [.lit (.bool true)], args := [d] }
  | _ => none }
def fnOwnsRow : OpenClaim := { program := "ytkcchceoljlnaaa", sum := "ef0c44f8ef13a9186c14a787bf00a712e8820fc91d4c806a1025d447a75c5502", func := "loop.example/g01287/laws.FnOwns", spec := "fnOwns", apart := false }
def FnOwnsSaid : Prop := fnOwnsRow.holds Try.pinned (OpenSpec.ofChange fnOwnsSpec)

/-- ITS FALSE NEIGHBOUR: 'it returns false'. Refute it at one input. -/
def fnOwnsWrong : ChangeSpec := { name := "fnOwns", fn := fun _ => fun
  | [d] => { results := [.lit (.bool false)], args := [d] }
  | _ => none }
def FnOwnsWrongFalsely : Prop := fnOwnsRow.holds Try.pinned (OpenSpec.ofChange fnOwnsWrong)

/- THE SECOND FORM. 'bulk': how many values and letters a reading holds, each counted each time it is reached (what is shared counts as often as it is met; a slice's spare places count too). A statement '..UptoSaid' is the law's where the arguments, and the package variables that the reading takes, are together of bulk at most 1048576: NARROWER than '..Said'. Prove '..Said' where nothing that the law and all that it calls make is longer than what came in: it says more and counts as full. Else prove '..UptoSaid'. A law counts once. -/
mutual
def uptoBulk {H : Type} : DataW H → Nat
  | .lit (.string bytes) => bytes.length + 1
  | .lit _ => 1
  | .nil => 1
  | .ptr d => uptoBulk d + 1
  | .slice elems spare => uptoBulkAll elems + uptoBulkAll spare + 1
  | .agg parts => uptoBulkAll parts + 1
  | .iface _ d => uptoBulk d + 1
  | .map entries => uptoBulkEntries entries + 1
  | .held _ => 1
def uptoBulkAll {H : Type} : List (DataW H) → Nat
  | [] => 0
  | d :: r => uptoBulk d + uptoBulkAll r
def uptoBulkEntries {H : Type} : List (Lit × DataW H) → Nat
  | [] => 0
  | x :: r => uptoBulkEntry x + uptoBulkEntries r
def uptoBulkEntry {H : Type} : Lit × DataW H → Nat
  | (.string bytes, d) => bytes.length + uptoBulk d + 1
  | (_, d) => uptoBulk d + 1
 end
def uptoSmall : (H : Type) → List (DataW H) → Bool := fun _ ds => decide (uptoBulkAll ds ≤ 1048576)
def OpenSpec.upto (s : _root_.Go.ChangeSpec) : _root_.Go.OpenSpec := { _root_.Go.OpenSpec.ofChange s with cond := some uptoSmall }

/-- 'laws.FnExactOwnOk', WHERE WHAT IT READS IS OF BULK AT MOST 1048576: true; the input reads as it did. -/
def fnExactOwnOkUptoRow : OpenClaim := { program := "ytkcchceoljlnaaa", sum := "ef0c44f8ef13a9186c14a787bf00a712e8820fc91d4c806a1025d447a75c5502", func := "loop.example/g01287/laws.FnExactOwnOk", spec := "fnExactOwnOk", apart := false, narrowed := true }
def FnExactOwnOkUptoSaid : Prop := fnExactOwnOkUptoRow.holds Try.pinned (OpenSpec.upto fnExactOwnOkSpec)

/-- 'laws.FnExactLabelOk', WHERE WHAT IT READS IS OF BULK AT MOST 1048576: true; the input reads as it did. -/
def fnExactLabelOkUptoRow : OpenClaim := { program := "ytkcchceoljlnaaa", sum := "ef0c44f8ef13a9186c14a787bf00a712e8820fc91d4c806a1025d447a75c5502", func := "loop.example/g01287/laws.FnExactLabelOk", spec := "fnExactLabelOk", apart := false, narrowed := true }
def FnExactLabelOkUptoSaid : Prop := fnExactLabelOkUptoRow.holds Try.pinned (OpenSpec.upto fnExactLabelOkSpec)

/-- 'laws.FnExactSameLabel', WHERE WHAT IT READS IS OF BULK AT MOST 1048576: true; the input reads as it did. -/
def fnExactSameLabelUptoRow : OpenClaim := { program := "ytkcchceoljlnaaa", sum := "ef0c44f8ef13a9186c14a787bf00a712e8820fc91d4c806a1025d447a75c5502", func := "loop.example/g01287/laws.FnExactSameLabel", spec := "fnExactSameLabel", apart := false, narrowed := true }
def FnExactSameLabelUptoSaid : Prop := fnExactSameLabelUptoRow.holds Try.pinned (OpenSpec.upto fnExactSameLabelSpec)

/-- 'laws.FnExactFlat', WHERE WHAT IT READS IS OF BULK AT MOST 1048576: true; the input reads as it did. -/
def fnExactFlatUptoRow : OpenClaim := { program := "ytkcchceoljlnaaa", sum := "ef0c44f8ef13a9186c14a787bf00a712e8820fc91d4c806a1025d447a75c5502", func := "loop.example/g01287/laws.FnExactFlat", spec := "fnExactFlat", apart := false, narrowed := true }
def FnExactFlatUptoSaid : Prop := fnExactFlatUptoRow.holds Try.pinned (OpenSpec.upto fnExactFlatSpec)

/-- 'laws.FnExactReadLabel', WHERE WHAT IT READS IS OF BULK AT MOST 1048576: true; the input reads as it did. -/
def fnExactReadLabelUptoRow : OpenClaim := { program := "ytkcchceoljlnaaa", sum := "ef0c44f8ef13a9186c14a787bf00a712e8820fc91d4c806a1025d447a75c5502", func := "loop.example/g01287/laws.FnExactReadLabel", spec := "fnExactReadLabel", apart := false, narrowed := true }
def FnExactReadLabelUptoSaid : Prop := fnExactReadLabelUptoRow.holds Try.pinned (OpenSpec.upto fnExactReadLabelSpec)

/-- 'laws.FnExactJoin', WHERE WHAT IT READS IS OF BULK AT MOST 1048576: true; the input reads as it did. -/
def fnExactJoinUptoRow : OpenClaim := { program := "ytkcchceoljlnaaa", sum := "ef0c44f8ef13a9186c14a787bf00a712e8820fc91d4c806a1025d447a75c5502", func := "loop.example/g01287/laws.FnExactJoin", spec := "fnExactJoin", apart := false, narrowed := true }
def FnExactJoinUptoSaid : Prop := fnExactJoinUptoRow.holds Try.pinned (OpenSpec.upto fnExactJoinSpec)

/-- 'laws.FnExactMeet', WHERE WHAT IT READS IS OF BULK AT MOST 1048576: true; the input reads as it did. -/
def fnExactMeetUptoRow : OpenClaim := { program := "ytkcchceoljlnaaa", sum := "ef0c44f8ef13a9186c14a787bf00a712e8820fc91d4c806a1025d447a75c5502", func := "loop.example/g01287/laws.FnExactMeet", spec := "fnExactMeet", apart := false, narrowed := true }
def FnExactMeetUptoSaid : Prop := fnExactMeetUptoRow.holds Try.pinned (OpenSpec.upto fnExactMeetSpec)

/-- 'laws.FnExactFlows', WHERE WHAT IT READS IS OF BULK AT MOST 1048576: true; the input reads as it did. -/
def fnExactFlowsUptoRow : OpenClaim := { program := "ytkcchceoljlnaaa", sum := "ef0c44f8ef13a9186c14a787bf00a712e8820fc91d4c806a1025d447a75c5502", func := "loop.example/g01287/laws.FnExactFlows", spec := "fnExactFlows", apart := false, narrowed := true }
def FnExactFlowsUptoSaid : Prop := fnExactFlowsUptoRow.holds Try.pinned (OpenSpec.upto fnExactFlowsSpec)

/-- 'laws.FnExactFlowsFor', WHERE WHAT IT READS IS OF BULK AT MOST 1048576: true; the input reads as it did. -/
def fnExactFlowsForUptoRow : OpenClaim := { program := "ytkcchceoljlnaaa", sum := "ef0c44f8ef13a9186c14a787bf00a712e8820fc91d4c806a1025d447a75c5502", func := "loop.example/g01287/laws.FnExactFlowsFor", spec := "fnExactFlowsFor", apart := false, narrowed := true }
def FnExactFlowsForUptoSaid : Prop := fnExactFlowsForUptoRow.holds Try.pinned (OpenSpec.upto fnExactFlowsForSpec)

/-- 'laws.FnExactNeeds', WHERE WHAT IT READS IS OF BULK AT MOST 1048576: true; the input reads as it did. -/
def fnExactNeedsUptoRow : OpenClaim := { program := "ytkcchceoljlnaaa", sum := "ef0c44f8ef13a9186c14a787bf00a712e8820fc91d4c806a1025d447a75c5502", func := "loop.example/g01287/laws.FnExactNeeds", spec := "fnExactNeeds", apart := false, narrowed := true }
def FnExactNeedsUptoSaid : Prop := fnExactNeedsUptoRow.holds Try.pinned (OpenSpec.upto fnExactNeedsSpec)

/-- 'laws.FnOwns', WHERE WHAT IT READS IS OF BULK AT MOST 1048576: true; the input reads as it did. -/
def fnOwnsUptoRow : OpenClaim := { program := "ytkcchceoljlnaaa", sum := "ef0c44f8ef13a9186c14a787bf00a712e8820fc91d4c806a1025d447a75c5502", func := "loop.example/g01287/laws.FnOwns", spec := "fnOwns", apart := false, narrowed := true }
def FnOwnsUptoSaid : Prop := fnOwnsUptoRow.holds Try.pinned (OpenSpec.upto fnOwnsSpec)

end Rows
end Go.Proofs.Ytkcchceoljlnaaa
