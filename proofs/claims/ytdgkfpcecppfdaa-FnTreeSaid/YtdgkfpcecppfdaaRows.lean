/-
  No cell of these rows narrows 'for every input' (looked for: loops, veiled, ifaces, maps, wideKeys, modest, calm, conditions, laid).
  DERIVED. THE GIVEN ROWS OF THIS SEAT. 10 by the template 'for every input the law returns true; each argument reads behind the call as it read before'; 0 by the template 'total and deterministic' (their statements: YtdgkfpcecppfdaaTotals.lean).
  GIVEN WITH THE SEED: the statements are not yours to turn. If you find one false, say at which input.
  Laid BY PROGRAM, IN A SANDBOX (cutbox-rows.mjs): the forced cells as the released guide's own fill.sh prints them over the translation 2fc4ed00a7d035cd… (all of the seat's roots in one cut). By AI agents, Wed Nov 11 2026. No macro, syntax, notation, axiom, sorry.
-/
import Derived.Test.YtdgkfpcecppfdaaChecked
import GoSem.Claim
import GoSem.ClaimJoined
import GoSem.ClaimMapViews
import Derived.JoinedTies
import Derived.KernelRfl
namespace Go.Proofs.Ytdgkfpcecppfdaa
/- THE CELL 'sum', in the pinned program and in every row, IS THE sha256 OF THE DUMP (.gsa) THAT YtdgkfpcecppfdaaProg.lean LOADS. Nothing in Lean hashes anything: it is a label: what it is worth is what the hold of that sum in a sandbox is worth. -/
noncomputable def Try.pinned : Pinned := { name := "ytdgkfpcecppfdaa", sum := "2fc4ed00a7d035cdd61ee040b283fd980a4fd46cb201d5861db0a872c75004f7", checked := Try.checked }
namespace Rows
def none {H : Type} : Left H := { results := [], args := [] }

/-- 'laws.FnExactTreeNew': WHATEVER THE INPUT: true; the input reads as it did. -/
def fnExactTreeNewSpec : ChangeSpec := { name := "fnExactTreeNew", fn := fun _ => fun
  | [d] => { results := [.lit (.bool true)], args := [d] }
  | _ => none }
def fnExactTreeNewRow : OpenClaim := { program := "ytdgkfpcecppfdaa", sum := "2fc4ed00a7d035cdd61ee040b283fd980a4fd46cb201d5861db0a872c75004f7", func := "loop.example/g01287/laws.FnExactTreeNew", spec := "fnExactTreeNew", apart := false }
def FnExactTreeNewSaid : Prop := fnExactTreeNewRow.holds Try.pinned (OpenSpec.ofChange fnExactTreeNewSpec)

/-- ITS FALSE NEIGHBOUR: 'it returns false'. Refute it at one input. -/
def fnExactTreeNewWrong : ChangeSpec := { name := "fnExactTreeNew", fn := fun _ => fun
  | [d] => { results := [.lit (.bool false)], args := [d] }
  | _ => none }
def FnExactTreeNewWrongFalsely : Prop := fnExactTreeNewRow.holds Try.pinned (OpenSpec.ofChange fnExactTreeNewWrong)

/-- 'laws.FnExactTreeOk': WHATEVER THE INPUT: true; the input reads as it did. -/
def fnExactTreeOkSpec : ChangeSpec := { name := "fnExactTreeOk", fn := fun _ => fun
  | [d] => { results := [.lit (.bool true)], args := [d] }
  | _ => none }
def fnExactTreeOkRow : OpenClaim := { program := "ytdgkfpcecppfdaa", sum := "2fc4ed00a7d035cdd61ee040b283fd980a4fd46cb201d5861db0a872c75004f7", func := "loop.example/g01287/laws.FnExactTreeOk", spec := "fnExactTreeOk", apart := false }
def FnExactTreeOkSaid : Prop := fnExactTreeOkRow.holds Try.pinned (OpenSpec.ofChange fnExactTreeOkSpec)

/-- ITS FALSE NEIGHBOUR: 'it returns false'. Refute it at one input. -/
def fnExactTreeOkWrong : ChangeSpec := { name := "fnExactTreeOk", fn := fun _ => fun
  | [d] => { results := [.lit (.bool false)], args := [d] }
  | _ => none }
def FnExactTreeOkWrongFalsely : Prop := fnExactTreeOkRow.holds Try.pinned (OpenSpec.ofChange fnExactTreeOkWrong)

/-- 'laws.FnExactTreeSum': WHATEVER THE INPUT: true; the input reads as it did. -/
def fnExactTreeSumSpec : ChangeSpec := { name := "fnExactTreeSum", fn := fun _ => fun
  | [d] => { results := [.lit (.bool true)], args := [d] }
  | _ => none }
def fnExactTreeSumRow : OpenClaim := { program := "ytdgkfpcecppfdaa", sum := "2fc4ed00a7d035cdd61ee040b283fd980a4fd46cb201d5861db0a872c75004f7", func := "loop.example/g01287/laws.FnExactTreeSum", spec := "fnExactTreeSum", apart := false }
def FnExactTreeSumSaid : Prop := fnExactTreeSumRow.holds Try.pinned (OpenSpec.ofChange fnExactTreeSumSpec)

/-- ITS FALSE NEIGHBOUR: 'it returns false'. Refute it at one input. -/
def fnExactTreeSumWrong : ChangeSpec := { name := "fnExactTreeSum", fn := fun _ => fun
  | [d] => { results := [.lit (.bool false)], args := [d] }
  | _ => none }
def FnExactTreeSumWrongFalsely : Prop := fnExactTreeSumRow.holds Try.pinned (OpenSpec.ofChange fnExactTreeSumWrong)

/-- 'laws.FnExactTreeAbove': WHATEVER THE INPUT: true; the input reads as it did. -/
def fnExactTreeAboveSpec : ChangeSpec := { name := "fnExactTreeAbove", fn := fun _ => fun
  | [d1, d2] => { results := [.lit (.bool true)], args := [d1, d2] }
  | _ => none }
def fnExactTreeAboveRow : OpenClaim := { program := "ytdgkfpcecppfdaa", sum := "2fc4ed00a7d035cdd61ee040b283fd980a4fd46cb201d5861db0a872c75004f7", func := "loop.example/g01287/laws.FnExactTreeAbove", spec := "fnExactTreeAbove", apart := false }
def FnExactTreeAboveSaid : Prop := fnExactTreeAboveRow.holds Try.pinned (OpenSpec.ofChange fnExactTreeAboveSpec)

/-- ITS FALSE NEIGHBOUR: 'it returns false'. Refute it at one input. -/
def fnExactTreeAboveWrong : ChangeSpec := { name := "fnExactTreeAbove", fn := fun _ => fun
  | [d1, d2] => { results := [.lit (.bool false)], args := [d1, d2] }
  | _ => none }
def FnExactTreeAboveWrongFalsely : Prop := fnExactTreeAboveRow.holds Try.pinned (OpenSpec.ofChange fnExactTreeAboveWrong)

/-- 'laws.FnExactTreePay': WHATEVER THE INPUT: true; the input reads as it did. -/
def fnExactTreePaySpec : ChangeSpec := { name := "fnExactTreePay", fn := fun _ => fun
  | [d1, d2, d3] => { results := [.lit (.bool true)], args := [d1, d2, d3] }
  | _ => none }
def fnExactTreePayRow : OpenClaim := { program := "ytdgkfpcecppfdaa", sum := "2fc4ed00a7d035cdd61ee040b283fd980a4fd46cb201d5861db0a872c75004f7", func := "loop.example/g01287/laws.FnExactTreePay", spec := "fnExactTreePay", apart := false }
def FnExactTreePaySaid : Prop := fnExactTreePayRow.holds Try.pinned (OpenSpec.ofChange fnExactTreePaySpec)

/-- ITS FALSE NEIGHBOUR: 'it returns false'. Refute it at one input. -/
def fnExactTreePayWrong : ChangeSpec := { name := "fnExactTreePay", fn := fun _ => fun
  | [d1, d2, d3] => { results := [.lit (.bool false)], args := [d1, d2, d3] }
  | _ => none }
def FnExactTreePayWrongFalsely : Prop := fnExactTreePayRow.holds Try.pinned (OpenSpec.ofChange fnExactTreePayWrong)

/-- 'laws.FnExactTreeDrop': WHATEVER THE INPUT: true; the input reads as it did. -/
def fnExactTreeDropSpec : ChangeSpec := { name := "fnExactTreeDrop", fn := fun _ => fun
  | [d1, d2] => { results := [.lit (.bool true)], args := [d1, d2] }
  | _ => none }
def fnExactTreeDropRow : OpenClaim := { program := "ytdgkfpcecppfdaa", sum := "2fc4ed00a7d035cdd61ee040b283fd980a4fd46cb201d5861db0a872c75004f7", func := "loop.example/g01287/laws.FnExactTreeDrop", spec := "fnExactTreeDrop", apart := false }
def FnExactTreeDropSaid : Prop := fnExactTreeDropRow.holds Try.pinned (OpenSpec.ofChange fnExactTreeDropSpec)

/-- ITS FALSE NEIGHBOUR: 'it returns false'. Refute it at one input. -/
def fnExactTreeDropWrong : ChangeSpec := { name := "fnExactTreeDrop", fn := fun _ => fun
  | [d1, d2] => { results := [.lit (.bool false)], args := [d1, d2] }
  | _ => none }
def FnExactTreeDropWrongFalsely : Prop := fnExactTreeDropRow.holds Try.pinned (OpenSpec.ofChange fnExactTreeDropWrong)

/-- 'laws.FnExactTreeBack': WHATEVER THE INPUT: true; the input reads as it did. -/
def fnExactTreeBackSpec : ChangeSpec := { name := "fnExactTreeBack", fn := fun _ => fun
  | [d1, d2, d3] => { results := [.lit (.bool true)], args := [d1, d2, d3] }
  | _ => none }
def fnExactTreeBackRow : OpenClaim := { program := "ytdgkfpcecppfdaa", sum := "2fc4ed00a7d035cdd61ee040b283fd980a4fd46cb201d5861db0a872c75004f7", func := "loop.example/g01287/laws.FnExactTreeBack", spec := "fnExactTreeBack", apart := false }
def FnExactTreeBackSaid : Prop := fnExactTreeBackRow.holds Try.pinned (OpenSpec.ofChange fnExactTreeBackSpec)

/-- ITS FALSE NEIGHBOUR: 'it returns false'. Refute it at one input. -/
def fnExactTreeBackWrong : ChangeSpec := { name := "fnExactTreeBack", fn := fun _ => fun
  | [d1, d2, d3] => { results := [.lit (.bool false)], args := [d1, d2, d3] }
  | _ => none }
def FnExactTreeBackWrongFalsely : Prop := fnExactTreeBackRow.holds Try.pinned (OpenSpec.ofChange fnExactTreeBackWrong)

/-- 'laws.FnExactTreeSplit': WHATEVER THE INPUT: true; the input reads as it did. -/
def fnExactTreeSplitSpec : ChangeSpec := { name := "fnExactTreeSplit", fn := fun _ => fun
  | [d1, d2, d3] => { results := [.lit (.bool true)], args := [d1, d2, d3] }
  | _ => none }
def fnExactTreeSplitRow : OpenClaim := { program := "ytdgkfpcecppfdaa", sum := "2fc4ed00a7d035cdd61ee040b283fd980a4fd46cb201d5861db0a872c75004f7", func := "loop.example/g01287/laws.FnExactTreeSplit", spec := "fnExactTreeSplit", apart := false }
def FnExactTreeSplitSaid : Prop := fnExactTreeSplitRow.holds Try.pinned (OpenSpec.ofChange fnExactTreeSplitSpec)

/-- ITS FALSE NEIGHBOUR: 'it returns false'. Refute it at one input. -/
def fnExactTreeSplitWrong : ChangeSpec := { name := "fnExactTreeSplit", fn := fun _ => fun
  | [d1, d2, d3] => { results := [.lit (.bool false)], args := [d1, d2, d3] }
  | _ => none }
def FnExactTreeSplitWrongFalsely : Prop := fnExactTreeSplitRow.holds Try.pinned (OpenSpec.ofChange fnExactTreeSplitWrong)

/-- 'laws.FnExactTreeGive': WHATEVER THE INPUT: true; the input reads as it did. -/
def fnExactTreeGiveSpec : ChangeSpec := { name := "fnExactTreeGive", fn := fun _ => fun
  | [d1, d2, d3, d4] => { results := [.lit (.bool true)], args := [d1, d2, d3, d4] }
  | _ => none }
def fnExactTreeGiveRow : OpenClaim := { program := "ytdgkfpcecppfdaa", sum := "2fc4ed00a7d035cdd61ee040b283fd980a4fd46cb201d5861db0a872c75004f7", func := "loop.example/g01287/laws.FnExactTreeGive", spec := "fnExactTreeGive", apart := false }
def FnExactTreeGiveSaid : Prop := fnExactTreeGiveRow.holds Try.pinned (OpenSpec.ofChange fnExactTreeGiveSpec)

/-- ITS FALSE NEIGHBOUR: 'it returns false'. Refute it at one input. -/
def fnExactTreeGiveWrong : ChangeSpec := { name := "fnExactTreeGive", fn := fun _ => fun
  | [d1, d2, d3, d4] => { results := [.lit (.bool false)], args := [d1, d2, d3, d4] }
  | _ => none }
def FnExactTreeGiveWrongFalsely : Prop := fnExactTreeGiveRow.holds Try.pinned (OpenSpec.ofChange fnExactTreeGiveWrong)

/-- 'laws.FnTree': WHATEVER THE INPUT: true; the input reads as it did. -/
def fnTreeSpec : ChangeSpec := { name := "fnTree", fn := fun _ => fun
  | [d] => { results := [.lit (.bool true)], args := [d] }
  | _ => none }
def fnTreeRow : OpenClaim := { program := "ytdgkfpcecppfdaa", sum := "2fc4ed00a7d035cdd61ee040b283fd980a4fd46cb201d5861db0a872c75004f7", func := "loop.example/g01287/laws.FnTree", spec := "fnTree", apart := false }
def FnTreeSaid : Prop := fnTreeRow.holds Try.pinned (OpenSpec.ofChange fnTreeSpec)

/-- ITS FALSE NEIGHBOUR: 'it returns false'. Refute it at one input. -/
def fnTreeWrong : ChangeSpec := { name := "fnTree", fn := fun _ => fun
  | [d] => { results := [.lit (.bool false)], args := [d] }
  | _ => none }
def FnTreeWrongFalsely : Prop := fnTreeRow.holds Try.pinned (OpenSpec.ofChange fnTreeWrong)

/- THE SECOND FORM. 'bulk': how many values and letters a reading holds, each counted each time it is reached (what is shared counts as often as it is met; a slice's spare places count too). A statement '..UptoSaid' is the law's where the arguments, and the package variables that the reading takes, are together of bulk at most 1048576: NARROWER than '..Said'. Prove '..Said' where nothing that the law and all that it calls make is longer than what came in: it says more and counts as full. Else prove '..UptoSaid'. A law counts once. -/
mutual
def uptoBulk {H : Type} : DataW H → Nat
  | .lit (.string bytes) => bytes.length + 1
  | .lit _ => 1
  | .nil => 1
  | .ptr d => uptoBulk d + 1
  | .slice elems spare => uptoBulkAll elems + uptoBulkAll spare + 1
  | .agg parts => uptoBulkAll parts + 1
  | .iface _ d => uptoBulk d + 1
  | .map entries => uptoBulkEntries entries + 1
  | .held _ => 1
def uptoBulkAll {H : Type} : List (DataW H) → Nat
  | [] => 0
  | d :: r => uptoBulk d + uptoBulkAll r
def uptoBulkEntries {H : Type} : List (Lit × DataW H) → Nat
  | [] => 0
  | x :: r => uptoBulkEntry x + uptoBulkEntries r
def uptoBulkEntry {H : Type} : Lit × DataW H → Nat
  | (.string bytes, d) => bytes.length + uptoBulk d + 1
  | (_, d) => uptoBulk d + 1
 end
def uptoSmall : (H : Type) → List (DataW H) → Bool := fun _ ds => decide (uptoBulkAll ds ≤ 1048576)
def OpenSpec.upto (s : _root_.Go.ChangeSpec) : _root_.Go.OpenSpec := { _root_.Go.OpenSpec.ofChange s with cond := some uptoSmall }

/-- 'laws.FnExactTreeNew', WHERE WHAT IT READS IS OF BULK AT MOST 1048576: true; the input reads as it did. -/
def fnExactTreeNewUptoRow : OpenClaim := { program := "ytdgkfpcecppfdaa", sum := "2fc4ed00a7d035cdd61ee040b283fd980a4fd46cb201d5861db0a872c75004f7", func := "loop.example/g01287/laws.FnExactTreeNew", spec := "fnExactTreeNew", apart := false, narrowed := true }
def FnExactTreeNewUptoSaid : Prop := fnExactTreeNewUptoRow.holds Try.pinned (OpenSpec.upto fnExactTreeNewSpec)

/-- 'laws.FnExactTreeOk', WHERE WHAT IT READS IS OF BULK AT MOST 1048576: true; the input reads as it did. -/
def fnExactTreeOkUptoRow : OpenClaim := { program := "ytdgkfpcecppfdaa", sum := "2fc4ed00a7d035cdd61ee040b283fd980a4fd46cb201d5861db0a872c75004f7", func := "loop.example/g01287/laws.FnExactTreeOk", spec := "fnExactTreeOk", apart := false, narrowed := true }
def FnExactTreeOkUptoSaid : Prop := fnExactTreeOkUptoRow.holds Try.pinned (OpenSpec.upto fnExactTreeOkSpec)

/-- 'laws.FnExactTreeSum', WHERE WHAT IT READS IS OF BULK AT MOST 1048576: true; the input reads as it did. -/
def fnExactTreeSumUptoRow : OpenClaim := { program := "ytdgkfpcecppfdaa", sum := "2fc4ed00a7d035cdd61ee040b283fd980a4fd46cb201d5861db0a872c75004f7", func := "loop.example/g01287/laws.FnExactTreeSum", spec := "fnExactTreeSum", apart := false, narrowed := true }
def FnExactTreeSumUptoSaid : Prop := fnExactTreeSumUptoRow.holds Try.pinned (OpenSpec.upto fnExactTreeSumSpec)

/-- 'laws.FnExactTreeAbove', WHERE WHAT IT READS IS OF BULK AT MOST 1048576: true; the input reads as it did. -/
def fnExactTreeAboveUptoRow : OpenClaim := { program := "ytdgkfpcecppfdaa", sum := "2fc4ed00a7d035cdd61ee040b283fd980a4fd46cb201d5861db0a872c75004f7", func := "loop.example/g01287/laws.FnExactTreeAbove", spec := "fnExactTreeAbove", apart := false, narrowed := true }
def FnExactTreeAboveUptoSaid : Prop := fnExactTreeAboveUptoRow.holds Try.pinned (OpenSpec.upto fnExactTreeAboveSpec)

/-- 'laws.FnExactTreePay', WHERE WHAT IT READS IS OF BULK AT MOST 1048576: true; the input reads as it did. -/
def fnExactTreePayUptoRow : OpenClaim := { program := "ytdgkfpcecppfdaa", sum := "2fc4ed00a7d035cdd61ee040b283fd980a4fd46cb201d5861db0a872c75004f7", func := "loop.example/g01287/laws.FnExactTreePay", spec := "fnExactTreePay", apart := false, narrowed := true }
def FnExactTreePayUptoSaid : Prop := fnExactTreePayUptoRow.holds Try.pinned (OpenSpec.upto fnExactTreePaySpec)

/-- 'laws.FnExactTreeDrop', WHERE WHAT IT READS IS OF BULK AT MOST 1048576: true; the input reads as it did. -/
def fnExactTreeDropUptoRow : OpenClaim := { program := "ytdgkfpcecppfdaa", sum := "2fc4ed00a7d035cdd61ee040b283fd980a4fd46cb201d5861db0a872c75004f7", func := "loop.example/g01287/laws.FnExactTreeDrop", spec := "fnExactTreeDrop", apart := false, narrowed := true }
def FnExactTreeDropUptoSaid : Prop := fnExactTreeDropUptoRow.holds Try.pinned (OpenSpec.upto fnExactTreeDropSpec)

/-- 'laws.FnExactTreeBack', WHERE WHAT IT READS IS OF BULK AT MOST 1048576: true; the input reads as it did. -/
def fnExactTreeBackUptoRow : OpenClaim := { program := "ytdgkfpcecppfdaa", sum := "2fc4ed00a7d035cdd61ee040b283fd980a4fd46cb201d5861db0a872c75004f7", func := "loop.example/g01287/laws.FnExactTreeBack", spec := "fnExactTreeBack", apart := false, narrowed := true }
def FnExactTreeBackUptoSaid : Prop := fnExactTreeBackUptoRow.holds Try.pinned (OpenSpec.upto fnExactTreeBackSpec)

/-- 'laws.FnExactTreeSplit', WHERE WHAT IT READS IS OF BULK AT MOST 1048576: true; the input reads as it did. -/
def fnExactTreeSplitUptoRow : OpenClaim := { program := "ytdgkfpcecppfdaa", sum := "2fc4ed00a7d035cdd61ee040b283fd980a4fd46cb201d5861db0a872c75004f7", func := "loop.example/g01287/laws.FnExactTreeSplit", spec := "fnExactTreeSplit", apart := false, narrowed := true }
def FnExactTreeSplitUptoSaid : Prop := fnExactTreeSplitUptoRow.holds Try.pinned (OpenSpec.upto fnExactTreeSplitSpec)

/-- 'laws.FnExactTreeGive', WHERE WHAT IT READS IS OF BULK AT MOST 1048576: true; the input reads as it did. -/
def fnExactTreeGiveUptoRow : OpenClaim := { program := "ytdgkfpcecppfdaa", sum := "2fc4ed00a7d035cdd61ee040b283fd980a4fd46cb201d5861db0a872c75004f7", func := "loop.example/g01287/laws.FnExactTreeGive", spec := "fnExactTreeGive", apart := false, narrowed := true }
def FnExactTreeGiveUptoSaid : Prop := fnExactTreeGiveUptoRow.holds Try.pinned (OpenSpec.upto fnExactTreeGiveSpec)

/-- 'laws.FnTree', WHERE WHAT IT READS IS OF BULK AT MOST 1048576: true; the input reads as it did. -/
def fnTreeUptoRow : OpenClaim := { program := "ytdgkfpcecppfdaa", sum := "2fc4ed00a7d035cdd61ee040b283fd980a4fd46cb201d5861db0a872c75004f7", func := "loop.example/g01287/laws.FnTree", spec := "fnTree", apart := false, narrowed := true }
def FnTreeUptoSaid : Prop := fnTreeUptoRow.holds Try.pinned (OpenSpec.upto fnTreeSpec)

end Rows
end Go.Proofs.Ytdgkfpcecppfdaa
