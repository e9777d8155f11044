/-
  No cell of these rows narrows 'for every input' (looked for: loops, veiled, ifaces, maps, wideKeys, modest, calm, conditions, laid).
  DERIVED. THE GIVEN ROWS OF THIS SEAT. 5 by the template 'for every input the law returns true; each argument reads behind the call as it read before'; 0 by the template 'total and deterministic' (their statements: YtjhkaipceepjiaaTotals.lean).
  GIVEN WITH THE SEED: the statements are not yours to turn. If you find one false, say at which input.
  Laid BY PROGRAM, IN A SANDBOX (cutbox-rows.mjs): the forced cells as the released guide's own fill.sh prints them over the translation 70a7b82d7631fb79… (all of the seat's roots in one cut). By AI agents, Wed Nov 11 2026. No macro, syntax, notation, axiom, sorry.
-/
import Derived.Test.YtjhkaipceepjiaaChecked
import GoSem.Claim
import GoSem.ClaimJoined
import GoSem.ClaimMapViews
import Derived.JoinedTies
import Derived.KernelRfl
namespace Go.Proofs.Ytjhkaipceepjiaa
/- THE CELL 'sum', in the pinned program and in every row, IS THE sha256 OF THE DUMP (.gsa) THAT YtjhkaipceepjiaaProg.lean LOADS. Nothing in Lean hashes anything: it is a label: what it is worth is what the hold of that sum in a sandbox is worth. -/
noncomputable def Try.pinned : Pinned := { name := "ytjhkaipceepjiaa", sum := "70a7b82d7631fb7968c03e7feb91b82a8b6061c44b5454ed3644f3807158ca68", checked := Try.checked }
namespace Rows
def none {H : Type} : Left H := { results := [], args := [] }

/-- 'laws.FnExactCatsOk': WHATEVER THE INPUT: true; the input reads as it did. -/
def fnExactCatsOkSpec : ChangeSpec := { name := "fnExactCatsOk", fn := fun _ => fun
  | [d] => { results := [.lit (.bool true)], args := [d] }
  | _ => none }
def fnExactCatsOkRow : OpenClaim := { program := "ytjhkaipceepjiaa", sum := "70a7b82d7631fb7968c03e7feb91b82a8b6061c44b5454ed3644f3807158ca68", func := "loop.example/g01287/laws.FnExactCatsOk", spec := "fnExactCatsOk", apart := false }
def FnExactCatsOkSaid : Prop := fnExactCatsOkRow.holds Try.pinned (OpenSpec.ofChange fnExactCatsOkSpec)

/-- ITS FALSE NEIGHBOUR: 'it returns false'. Refute it at one input. -/
def fnExactCatsOkWrong : ChangeSpec := { name := "fnExactCatsOk", fn := fun _ => fun
  | [d] => { results := [.lit (.bool false)], args := [d] }
  | _ => none }
def FnExactCatsOkWrongFalsely : Prop := fnExactCatsOkRow.holds Try.pinned (OpenSpec.ofChange fnExactCatsOkWrong)

/-- 'laws.FnExactCatOf': WHATEVER THE INPUT: true; the input reads as it did. -/
def fnExactCatOfSpec : ChangeSpec := { name := "fnExactCatOf", fn := fun _ => fun
  | [d1, d2] => { results := [.lit (.bool true)], args := [d1, d2] }
  | _ => none }
def fnExactCatOfRow : OpenClaim := { program := "ytjhkaipceepjiaa", sum := "70a7b82d7631fb7968c03e7feb91b82a8b6061c44b5454ed3644f3807158ca68", func := "loop.example/g01287/laws.FnExactCatOf", spec := "fnExactCatOf", apart := false }
def FnExactCatOfSaid : Prop := fnExactCatOfRow.holds Try.pinned (OpenSpec.ofChange fnExactCatOfSpec)

/-- ITS FALSE NEIGHBOUR: 'it returns false'. Refute it at one input. -/
def fnExactCatOfWrong : ChangeSpec := { name := "fnExactCatOf", fn := fun _ => fun
  | [d1, d2] => { results := [.lit (.bool false)], args := [d1, d2] }
  | _ => none }
def FnExactCatOfWrongFalsely : Prop := fnExactCatOfRow.holds Try.pinned (OpenSpec.ofChange fnExactCatOfWrong)

/-- 'laws.FnExactCatNew': WHATEVER THE INPUT: true; the input reads as it did. -/
def fnExactCatNewSpec : ChangeSpec := { name := "fnExactCatNew", fn := fun _ => fun
  | [d] => { results := [.lit (.bool true)], args := [d] }
  | _ => none }
def fnExactCatNewRow : OpenClaim := { program := "ytjhkaipceepjiaa", sum := "70a7b82d7631fb7968c03e7feb91b82a8b6061c44b5454ed3644f3807158ca68", func := "loop.example/g01287/laws.FnExactCatNew", spec := "fnExactCatNew", apart := false }
def FnExactCatNewSaid : Prop := fnExactCatNewRow.holds Try.pinned (OpenSpec.ofChange fnExactCatNewSpec)

/-- ITS FALSE NEIGHBOUR: 'it returns false'. Refute it at one input. -/
def fnExactCatNewWrong : ChangeSpec := { name := "fnExactCatNew", fn := fun _ => fun
  | [d] => { results := [.lit (.bool false)], args := [d] }
  | _ => none }
def FnExactCatNewWrongFalsely : Prop := fnExactCatNewRow.holds Try.pinned (OpenSpec.ofChange fnExactCatNewWrong)

/-- 'laws.FnExactCatDrop': WHATEVER THE INPUT: true; the input reads as it did. -/
def fnExactCatDropSpec : ChangeSpec := { name := "fnExactCatDrop", fn := fun _ => fun
  | [d1, d2] => { results := [.lit (.bool true)], args := [d1, d2] }
  | _ => none }
def fnExactCatDropRow : OpenClaim := { program := "ytjhkaipceepjiaa", sum := "70a7b82d7631fb7968c03e7feb91b82a8b6061c44b5454ed3644f3807158ca68", func := "loop.example/g01287/laws.FnExactCatDrop", spec := "fnExactCatDrop", apart := false }
def FnExactCatDropSaid : Prop := fnExactCatDropRow.holds Try.pinned (OpenSpec.ofChange fnExactCatDropSpec)

/-- ITS FALSE NEIGHBOUR: 'it returns false'. Refute it at one input. -/
def fnExactCatDropWrong : ChangeSpec := { name := "fnExactCatDrop", fn := fun _ => fun
  | [d1, d2] => { results := [.lit (.bool false)], args := [d1, d2] }
  | _ => none }
def FnExactCatDropWrongFalsely : Prop := fnExactCatDropRow.holds Try.pinned (OpenSpec.ofChange fnExactCatDropWrong)

/-- 'laws.FnCats': WHATEVER THE INPUT: true; the input reads as it did. -/
def fnCatsSpec : ChangeSpec := { name := "fnCats", fn := fun _ => fun
  | [d] => { results := [.lit (.bool true)], args := [d] }
  | _ => none }
def fnCatsRow : OpenClaim := { program := "ytjhkaipceepjiaa", sum := "70a7b82d7631fb7968c03e7feb91b82a8b6061c44b5454ed3644f3807158ca68", func := "loop.example/g01287/laws.FnCats", spec := "fnCats", apart := false }
def FnCatsSaid : Prop := fnCatsRow.holds Try.pinned (OpenSpec.ofChange fnCatsSpec)

/-- ITS FALSE NEIGHBOUR: 'it returns false'. Refute it at one input. -/
def fnCatsWrong : ChangeSpec := { name := "fnCats", fn := fun _ => fun
  | [d] => { results := [.lit (.bool false)], args := [d] }
  | _ => none }
def FnCatsWrongFalsely : Prop := fnCatsRow.holds Try.pinned (OpenSpec.ofChange fnCatsWrong)

/- THE SECOND FORM. 'bulk': how many values and letters a reading holds, each counted each time it is reached (what is shared counts as often as it is met; a slice's spare places count too). A statement '..UptoSaid' is the law's where the arguments, and the package variables that the reading takes, are together of bulk at most 1048576: NARROWER than '..Said'. Prove '..Said' where nothing that the law and all that it calls make is longer than what came in: it says more and counts as full. Else prove '..UptoSaid'. A law counts once. -/
mutual
def uptoBulk {H : Type} : DataW H → Nat
  | .lit (.string bytes) => bytes.length + 1
  | .lit _ => 1
  | .nil => 1
  | .ptr d => uptoBulk d + 1
  | .slice elems spare => uptoBulkAll elems + uptoBulkAll spare + 1
  | .agg parts => uptoBulkAll parts + 1
  | .iface _ d => uptoBulk d + 1
  | .map entries => uptoBulkEntries entries + 1
  | .held _ => 1
def uptoBulkAll {H : Type} : List (DataW H) → Nat
  | [] => 0
  | d :: r => uptoBulk d + uptoBulkAll r
def uptoBulkEntries {H : Type} : List (Lit × DataW H) → Nat
  | [] => 0
  | x :: r => uptoBulkEntry x + uptoBulkEntries r
def uptoBulkEntry {H : Type} : Lit × DataW H → Nat
  | (.string bytes, d) => bytes.length + uptoBulk d + 1
  | (_, d) => uptoBulk d + 1
 end
def uptoSmall : (H : Type) → List (DataW H) → Bool := fun _ ds => decide (uptoBulkAll ds ≤ 1048576)
def OpenSpec.upto (s : _root_.Go.ChangeSpec) : _root_.Go.OpenSpec := { _root_.Go.OpenSpec.ofChange s with cond := some uptoSmall }

/-- 'laws.FnExactCatsOk', WHERE WHAT IT READS IS OF BULK AT MOST 1048576: true; the input reads as it did. -/
def fnExactCatsOkUptoRow : OpenClaim := { program := "ytjhkaipceepjiaa", sum := "70a7b82d7631fb7968c03e7feb91b82a8b6061c44b5454ed3644f3807158ca68", func := "loop.example/g01287/laws.FnExactCatsOk", spec := "fnExactCatsOk", apart := false, narrowed := true }
def FnExactCatsOkUptoSaid : Prop := fnExactCatsOkUptoRow.holds Try.pinned (OpenSpec.upto fnExactCatsOkSpec)

/-- 'laws.FnExactCatOf', WHERE WHAT IT READS IS OF BULK AT MOST 1048576: true; the input reads as it did. -/
def fnExactCatOfUptoRow : OpenClaim := { program := "ytjhkaipceepjiaa", sum := "70a7b82d7631fb7968c03e7feb91b82a8b6061c44b5454ed3644f3807158ca68", func := "loop.example/g01287/laws.FnExactCatOf", spec := "fnExactCatOf", apart := false, narrowed := true }
def FnExactCatOfUptoSaid : Prop := fnExactCatOfUptoRow.holds Try.pinned (OpenSpec.upto fnExactCatOfSpec)

/-- 'laws.FnExactCatNew', WHERE WHAT IT READS IS OF BULK AT MOST 1048576: true; the input reads as it did. -/
def fnExactCatNewUptoRow : OpenClaim := { program := "ytjhkaipceepjiaa", sum := "70a7b82d7631fb7968c03e7feb91b82a8b6061c44b5454ed3644f3807158ca68", func := "loop.example/g01287/laws.FnExactCatNew", spec := "fnExactCatNew", apart := false, narrowed := true }
def FnExactCatNewUptoSaid : Prop := fnExactCatNewUptoRow.holds Try.pinned (OpenSpec.upto fnExactCatNewSpec)

/-- 'laws.FnExactCatDrop', WHERE WHAT IT READS IS OF BULK AT MOST 1048576: true; the input reads as it did. -/
def fnExactCatDropUptoRow : OpenClaim := { program := "ytjhkaipceepjiaa", sum := "70a7b82d7631fb7968c03e7feb91b82a8b6061c44b5454ed3644f3807158ca68", func := "loop.example/g01287/laws.FnExactCatDrop", spec := "fnExactCatDrop", apart := false, narrowed := true }
def FnExactCatDropUptoSaid : Prop := fnExactCatDropUptoRow.holds Try.pinned (OpenSpec.upto fnExactCatDropSpec)

/-- 'laws.FnCats', WHERE WHAT IT READS IS OF BULK AT MOST 1048576: true; the input reads as it did. -/
def fnCatsUptoRow : OpenClaim := { program := "ytjhkaipceepjiaa", sum := "70a7b82d7631fb7968c03e7feb91b82a8b6061c44b5454ed3644f3807158ca68", func := "loop.example/g01287/laws.FnCats", spec := "fnCats", apart := false, narrowed := true }
def FnCatsUptoSaid : Prop := fnCatsUptoRow.holds Try.pinned (OpenSpec.upto fnCatsSpec)

end Rows
end Go.Proofs.Ytjhkaipceepjiaa
