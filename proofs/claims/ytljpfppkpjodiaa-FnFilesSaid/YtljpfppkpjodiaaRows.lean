/-
  No cell of these rows narrows 'for every input' (looked for: loops, veiled, ifaces, maps, wideKeys, modest, calm, conditions, laid).
  DERIVED. THE GIVEN ROWS OF THIS SEAT. 9 by the template 'for every input the law returns true; each argument reads behind the call as it read before'; 0 by the template 'total and deterministic' (their statements: YtljpfppkpjodiaaTotals.lean).
  GIVEN WITH THE SEED: the statements are not yours to turn. If you find one false, say at which input.
  Laid BY PROGRAM, IN A SANDBOX (cutbox-rows.mjs): the forced cells as the released guide's own fill.sh prints them over the translation 6a48939d49ecbfbf… (all of the seat's roots in one cut). By AI agents, Wed Nov 11 2026. No macro, syntax, notation, axiom, sorry.
-/
import Derived.Test.YtljpfppkpjodiaaChecked
import GoSem.Claim
import GoSem.ClaimJoined
import GoSem.ClaimMapViews
import Derived.JoinedTies
import Derived.KernelRfl
namespace Go.Proofs.Ytljpfppkpjodiaa
/- THE CELL 'sum', in the pinned program and in every row, IS THE sha256 OF THE DUMP (.gsa) THAT YtljpfppkpjodiaaProg.lean LOADS. Nothing in Lean hashes anything: it is a label: what it is worth is what the hold of that sum in a sandbox is worth. -/
noncomputable def Try.pinned : Pinned := { name := "ytljpfppkpjodiaa", sum := "6a48939d49ecbfbf4d81173a23bbf0496fcd1e665be4f9d64404f803a4ee1364", checked := Try.checked }
namespace Rows
def none {H : Type} : Left H := { results := [], args := [] }

/-- 'laws.FnExactIndexFault': WHATEVER THE INPUT: true; the input reads as it did. -/
def fnExactIndexFaultSpec : ChangeSpec := { name := "fnExactIndexFault", fn := fun _ => fun
  | [d] => { results := [.lit (.bool true)], args := [d] }
  | _ => none }
def fnExactIndexFaultRow : OpenClaim := { program := "ytljpfppkpjodiaa", sum := "6a48939d49ecbfbf4d81173a23bbf0496fcd1e665be4f9d64404f803a4ee1364", func := "loop.example/g00414/laws.FnExactIndexFault", spec := "fnExactIndexFault", apart := false }
def FnExactIndexFaultSaid : Prop := fnExactIndexFaultRow.holds Try.pinned (OpenSpec.ofChange fnExactIndexFaultSpec)

/-- ITS FALSE NEIGHBOUR: 'it returns false'. Refute it at one input. -/
def fnExactIndexFaultWrong : ChangeSpec := { name := "fnExactIndexFault", fn := fun _ => fun
  | [d] => { results := [.lit (.bool false)], args := [d] }
  | _ => none }
def FnExactIndexFaultWrongFalsely : Prop := fnExactIndexFaultRow.holds Try.pinned (OpenSpec.ofChange fnExactIndexFaultWrong)

/-- 'laws.FnExactNewIndex': WHATEVER THE INPUT: true; the input reads as it did. -/
def fnExactNewIndexSpec : ChangeSpec := { name := "fnExactNewIndex", fn := fun _ => fun
  | [d] => { results := [.lit (.bool true)], args := [d] }
  | _ => none }
def fnExactNewIndexRow : OpenClaim := { program := "ytljpfppkpjodiaa", sum := "6a48939d49ecbfbf4d81173a23bbf0496fcd1e665be4f9d64404f803a4ee1364", func := "loop.example/g00414/laws.FnExactNewIndex", spec := "fnExactNewIndex", apart := false }
def FnExactNewIndexSaid : Prop := fnExactNewIndexRow.holds Try.pinned (OpenSpec.ofChange fnExactNewIndexSpec)

/-- ITS FALSE NEIGHBOUR: 'it returns false'. Refute it at one input. -/
def fnExactNewIndexWrong : ChangeSpec := { name := "fnExactNewIndex", fn := fun _ => fun
  | [d] => { results := [.lit (.bool false)], args := [d] }
  | _ => none }
def FnExactNewIndexWrongFalsely : Prop := fnExactNewIndexRow.holds Try.pinned (OpenSpec.ofChange fnExactNewIndexWrong)

/-- 'laws.FnExactCutIndex': WHATEVER THE INPUT: true; the input reads as it did. -/
def fnExactCutIndexSpec : ChangeSpec := { name := "fnExactCutIndex", fn := fun _ => fun
  | [d1, d2] => { results := [.lit (.bool true)], args := [d1, d2] }
  | _ => none }
def fnExactCutIndexRow : OpenClaim := { program := "ytljpfppkpjodiaa", sum := "6a48939d49ecbfbf4d81173a23bbf0496fcd1e665be4f9d64404f803a4ee1364", func := "loop.example/g00414/laws.FnExactCutIndex", spec := "fnExactCutIndex", apart := false }
def FnExactCutIndexSaid : Prop := fnExactCutIndexRow.holds Try.pinned (OpenSpec.ofChange fnExactCutIndexSpec)

/-- ITS FALSE NEIGHBOUR: 'it returns false'. Refute it at one input. -/
def fnExactCutIndexWrong : ChangeSpec := { name := "fnExactCutIndex", fn := fun _ => fun
  | [d1, d2] => { results := [.lit (.bool false)], args := [d1, d2] }
  | _ => none }
def FnExactCutIndexWrongFalsely : Prop := fnExactCutIndexRow.holds Try.pinned (OpenSpec.ofChange fnExactCutIndexWrong)

/-- 'laws.FnExactIndexTrue': WHATEVER THE INPUT: true; the input reads as it did. -/
def fnExactIndexTrueSpec : ChangeSpec := { name := "fnExactIndexTrue", fn := fun _ => fun
  | [d1, d2] => { results := [.lit (.bool true)], args := [d1, d2] }
  | _ => none }
def fnExactIndexTrueRow : OpenClaim := { program := "ytljpfppkpjodiaa", sum := "6a48939d49ecbfbf4d81173a23bbf0496fcd1e665be4f9d64404f803a4ee1364", func := "loop.example/g00414/laws.FnExactIndexTrue", spec := "fnExactIndexTrue", apart := false }
def FnExactIndexTrueSaid : Prop := fnExactIndexTrueRow.holds Try.pinned (OpenSpec.ofChange fnExactIndexTrueSpec)

/-- ITS FALSE NEIGHBOUR: 'it returns false'. Refute it at one input. -/
def fnExactIndexTrueWrong : ChangeSpec := { name := "fnExactIndexTrue", fn := fun _ => fun
  | [d1, d2] => { results := [.lit (.bool false)], args := [d1, d2] }
  | _ => none }
def FnExactIndexTrueWrongFalsely : Prop := fnExactIndexTrueRow.holds Try.pinned (OpenSpec.ofChange fnExactIndexTrueWrong)

/-- 'laws.FnExactExtendIndex': WHATEVER THE INPUT: true; the input reads as it did. -/
def fnExactExtendIndexSpec : ChangeSpec := { name := "fnExactExtendIndex", fn := fun _ => fun
  | [d1, d2] => { results := [.lit (.bool true)], args := [d1, d2] }
  | _ => none }
def fnExactExtendIndexRow : OpenClaim := { program := "ytljpfppkpjodiaa", sum := "6a48939d49ecbfbf4d81173a23bbf0496fcd1e665be4f9d64404f803a4ee1364", func := "loop.example/g00414/laws.FnExactExtendIndex", spec := "fnExactExtendIndex", apart := false }
def FnExactExtendIndexSaid : Prop := fnExactExtendIndexRow.holds Try.pinned (OpenSpec.ofChange fnExactExtendIndexSpec)

/-- ITS FALSE NEIGHBOUR: 'it returns false'. Refute it at one input. -/
def fnExactExtendIndexWrong : ChangeSpec := { name := "fnExactExtendIndex", fn := fun _ => fun
  | [d1, d2] => { results := [.lit (.bool false)], args := [d1, d2] }
  | _ => none }
def FnExactExtendIndexWrongFalsely : Prop := fnExactExtendIndexRow.holds Try.pinned (OpenSpec.ofChange fnExactExtendIndexWrong)

/-- 'laws.FnCuts': WHATEVER THE INPUT: true; the input reads as it did. -/
def fnCutsSpec : ChangeSpec := { name := "fnCuts", fn := fun _ => fun
  | [d] => { results := [.lit (.bool true)], args := [d] }
  | _ => none }
def fnCutsRow : OpenClaim := { program := "ytljpfppkpjodiaa", sum := "6a48939d49ecbfbf4d81173a23bbf0496fcd1e665be4f9d64404f803a4ee1364", func := "loop.example/g00414/laws.FnCuts", spec := "fnCuts", apart := false }
def FnCutsSaid : Prop := fnCutsRow.holds Try.pinned (OpenSpec.ofChange fnCutsSpec)

/-- ITS FALSE NEIGHBOUR: 'it returns false'. Refute it at one input. -/
def fnCutsWrong : ChangeSpec := { name := "fnCuts", fn := fun _ => fun
  | [d] => { results := [.lit (.bool false)], args := [d] }
  | _ => none }
def FnCutsWrongFalsely : Prop := fnCutsRow.holds Try.pinned (OpenSpec.ofChange fnCutsWrong)

/-- 'laws.FnChars': WHATEVER THE INPUT: true; the input reads as it did. -/
def fnCharsSpec : ChangeSpec := { name := "fnChars", fn := fun _ => fun
  | [d] => { results := [.lit (.bool true)], args := [d] }
  | _ => none }
def fnCharsRow : OpenClaim := { program := "ytljpfppkpjodiaa", sum := "6a48939d49ecbfbf4d81173a23bbf0496fcd1e665be4f9d64404f803a4ee1364", func := "loop.example/g00414/laws.FnChars", spec := "fnChars", apart := false }
def FnCharsSaid : Prop := fnCharsRow.holds Try.pinned (OpenSpec.ofChange fnCharsSpec)

/-- ITS FALSE NEIGHBOUR: 'it returns false'. Refute it at one input. -/
def fnCharsWrong : ChangeSpec := { name := "fnChars", fn := fun _ => fun
  | [d] => { results := [.lit (.bool false)], args := [d] }
  | _ => none }
def FnCharsWrongFalsely : Prop := fnCharsRow.holds Try.pinned (OpenSpec.ofChange fnCharsWrong)

/-- 'laws.FnLines': WHATEVER THE INPUT: true; the input reads as it did. -/
def fnLinesSpec : ChangeSpec := { name := "fnLines", fn := fun _ => fun
  | [d] => { results := [.lit (.bool true)], args := [d] }
  | _ => none }
def fnLinesRow : OpenClaim := { program := "ytljpfppkpjodiaa", sum := "6a48939d49ecbfbf4d81173a23bbf0496fcd1e665be4f9d64404f803a4ee1364", func := "loop.example/g00414/laws.FnLines", spec := "fnLines", apart := false }
def FnLinesSaid : Prop := fnLinesRow.holds Try.pinned (OpenSpec.ofChange fnLinesSpec)

/-- ITS FALSE NEIGHBOUR: 'it returns false'. Refute it at one input. -/
def fnLinesWrong : ChangeSpec := { name := "fnLines", fn := fun _ => fun
  | [d] => { results := [.lit (.bool false)], args := [d] }
  | _ => none }
def FnLinesWrongFalsely : Prop := fnLinesRow.holds Try.pinned (OpenSpec.ofChange fnLinesWrong)

/-- 'laws.FnFiles': WHATEVER THE INPUT: true; the input reads as it did. -/
def fnFilesSpec : ChangeSpec := { name := "fnFiles", fn := fun _ => fun
  | [d] => { results := [.lit (.bool true)], args := [d] }
  | _ => none }
def fnFilesRow : OpenClaim := { program := "ytljpfppkpjodiaa", sum := "6a48939d49ecbfbf4d81173a23bbf0496fcd1e665be4f9d64404f803a4ee1364", func := "loop.example/g00414/laws.FnFiles", spec := "fnFiles", apart := false }
def FnFilesSaid : Prop := fnFilesRow.holds Try.pinned (OpenSpec.ofChange fnFilesSpec)

/-- ITS FALSE NEIGHBOUR: 'it returns false'. Refute it at one input. -/
def fnFilesWrong : ChangeSpec := { name := "fnFiles", fn := fun _ => fun
  | [d] => { results := [.lit (.bool false)], args := [d] }
  | _ => none }
def FnFilesWrongFalsely : Prop := fnFilesRow.holds Try.pinned (OpenSpec.ofChange fnFilesWrong)

/- THE SECOND FORM. 'bulk': how many values and letters a reading holds, each counted each time it is reached (what is shared counts as often as it is met; a slice's spare places count too). A statement '..UptoSaid' is the law's where the arguments, and the package variables that the reading takes, are together of bulk at most 1048576: NARROWER than '..Said'. Prove '..Said' where nothing that the law and all that it calls make is longer than what came in: it says more and counts as full. Else prove '..UptoSaid'. A law counts once. -/
mutual
def uptoBulk {H : Type} : DataW H → Nat
  | .lit (.string bytes) => bytes.length + 1
  | .lit _ => 1
  | .nil => 1
  | .ptr d => uptoBulk d + 1
  | .slice elems spare => uptoBulkAll elems + uptoBulkAll spare + 1
  | .agg parts => uptoBulkAll parts + 1
  | .iface _ d => uptoBulk d + 1
  | .map entries => uptoBulkEntries entries + 1
  | .held _ => 1
def uptoBulkAll {H : Type} : List (DataW H) → Nat
  | [] => 0
  | d :: r => uptoBulk d + uptoBulkAll r
def uptoBulkEntries {H : Type} : List (Lit × DataW H) → Nat
  | [] => 0
  | x :: r => uptoBulkEntry x + uptoBulkEntries r
def uptoBulkEntry {H : Type} : Lit × DataW H → Nat
  | (.string bytes, d) => bytes.length + uptoBulk d + 1
  | (_, d) => uptoBulk d + 1
 end
def uptoSmall : (H : Type) → List (DataW H) → Bool := fun _ ds => decide (uptoBulkAll ds ≤ 1048576)
def OpenSpec.upto (s : _root_.Go.ChangeSpec) : _root_.Go.OpenSpec := { _root_.Go.OpenSpec.ofChange s with cond := some uptoSmall }

/-- 'laws.FnExactIndexFault', WHERE WHAT IT READS IS OF BULK AT MOST 1048576: true; the input reads as it did. -/
def fnExactIndexFaultUptoRow : OpenClaim := { program := "ytljpfppkpjodiaa", sum := "6a48939d49ecbfbf4d81173a23bbf0496fcd1e665be4f9d64404f803a4ee1364", func := "loop.example/g00414/laws.FnExactIndexFault", spec := "fnExactIndexFault", apart := false, narrowed := true }
def FnExactIndexFaultUptoSaid : Prop := fnExactIndexFaultUptoRow.holds Try.pinned (OpenSpec.upto fnExactIndexFaultSpec)

/-- 'laws.FnExactNewIndex', WHERE WHAT IT READS IS OF BULK AT MOST 1048576: true; the input reads as it did. -/
def fnExactNewIndexUptoRow : OpenClaim := { program := "ytljpfppkpjodiaa", sum := "6a48939d49ecbfbf4d81173a23bbf0496fcd1e665be4f9d64404f803a4ee1364", func := "loop.example/g00414/laws.FnExactNewIndex", spec := "fnExactNewIndex", apart := false, narrowed := true }
def FnExactNewIndexUptoSaid : Prop := fnExactNewIndexUptoRow.holds Try.pinned (OpenSpec.upto fnExactNewIndexSpec)

/-- 'laws.FnExactCutIndex', WHERE WHAT IT READS IS OF BULK AT MOST 1048576: true; the input reads as it did. -/
def fnExactCutIndexUptoRow : OpenClaim := { program := "ytljpfppkpjodiaa", sum := "6a48939d49ecbfbf4d81173a23bbf0496fcd1e665be4f9d64404f803a4ee1364", func := "loop.example/g00414/laws.FnExactCutIndex", spec := "fnExactCutIndex", apart := false, narrowed := true }
def FnExactCutIndexUptoSaid : Prop := fnExactCutIndexUptoRow.holds Try.pinned (OpenSpec.upto fnExactCutIndexSpec)

/-- 'laws.FnExactIndexTrue', WHERE WHAT IT READS IS OF BULK AT MOST 1048576: true; the input reads as it did. -/
def fnExactIndexTrueUptoRow : OpenClaim := { program := "ytljpfppkpjodiaa", sum := "6a48939d49ecbfbf4d81173a23bbf0496fcd1e665be4f9d64404f803a4ee1364", func := "loop.example/g00414/laws.FnExactIndexTrue", spec := "fnExactIndexTrue", apart := false, narrowed := true }
def FnExactIndexTrueUptoSaid : Prop := fnExactIndexTrueUptoRow.holds Try.pinned (OpenSpec.upto fnExactIndexTrueSpec)

/-- 'laws.FnExactExtendIndex', WHERE WHAT IT READS IS OF BULK AT MOST 1048576: true; the input reads as it did. -/
def fnExactExtendIndexUptoRow : OpenClaim := { program := "ytljpfppkpjodiaa", sum := "6a48939d49ecbfbf4d81173a23bbf0496fcd1e665be4f9d64404f803a4ee1364", func := "loop.example/g00414/laws.FnExactExtendIndex", spec := "fnExactExtendIndex", apart := false, narrowed := true }
def FnExactExtendIndexUptoSaid : Prop := fnExactExtendIndexUptoRow.holds Try.pinned (OpenSpec.upto fnExactExtendIndexSpec)

/-- 'laws.FnCuts', WHERE WHAT IT READS IS OF BULK AT MOST 1048576: true; the input reads as it did. -/
def fnCutsUptoRow : OpenClaim := { program := "ytljpfppkpjodiaa", sum := "6a48939d49ecbfbf4d81173a23bbf0496fcd1e665be4f9d64404f803a4ee1364", func := "loop.example/g00414/laws.FnCuts", spec := "fnCuts", apart := false, narrowed := true }
def FnCutsUptoSaid : Prop := fnCutsUptoRow.holds Try.pinned (OpenSpec.upto fnCutsSpec)

/-- 'laws.FnChars', WHERE WHAT IT READS IS OF BULK AT MOST 1048576: true; the input reads as it did. -/
def fnCharsUptoRow : OpenClaim := { program := "ytljpfppkpjodiaa", sum := "6a48939d49ecbfbf4d81173a23bbf0496fcd1e665be4f9d64404f803a4ee1364", func := "loop.example/g00414/laws.FnChars", spec := "fnChars", apart := false, narrowed := true }
def FnCharsUptoSaid : Prop := fnCharsUptoRow.holds Try.pinned (OpenSpec.upto fnCharsSpec)

/-- 'laws.FnLines', WHERE WHAT IT READS IS OF BULK AT MOST 1048576: true; the input reads as it did. -/
def fnLinesUptoRow : OpenClaim := { program := "ytljpfppkpjodiaa", sum := "6a48939d49ecbfbf4d81173a23bbf0496fcd1e665be4f9d64404f803a4ee1364", func := "loop.example/g00414/laws.FnLines", spec := "fnLines", apart := false, narrowed := true }
def FnLinesUptoSaid : Prop := fnLinesUptoRow.holds Try.pinned (OpenSpec.upto fnLinesSpec)

/-- 'laws.FnFiles', WHERE WHAT IT READS IS OF BULK AT MOST 1048576: true; the input reads as it did. -/
def fnFilesUptoRow : OpenClaim := { program := "ytljpfppkpjodiaa", sum := "6a48939d49ecbfbf4d81173a23bbf0496fcd1e665be4f9d64404f803a4ee1364", func := "loop.example/g00414/laws.FnFiles", spec := "fnFiles", apart := false, narrowed := true }
def FnFilesUptoSaid : Prop := fnFilesUptoRow.holds Try.pinned (OpenSpec.upto fnFilesSpec)

end Rows
end Go.Proofs.Ytljpfppkpjodiaa
