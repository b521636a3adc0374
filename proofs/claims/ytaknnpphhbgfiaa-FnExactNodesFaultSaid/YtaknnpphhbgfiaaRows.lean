/-
  No cell of these rows narrows 'for every input' (looked for: loops, veiled, ifaces, maps, wideKeys, modest, calm, conditions, laid).
  DERIVED. THE GIVEN ROWS OF THIS SEAT. 6 by the template 'for every input the law returns true; each argument reads behind the call as it read before'; 0 by the template 'total and deterministic' (their statements: YtaknnpphhbgfiaaTotals.lean).
  GIVEN WITH THE SEED: the statements are not yours to turn. If you find one false, say at which input.
  Laid BY PROGRAM, IN A SANDBOX (cutbox-rows.mjs): the forced cells as the released guide's own fill.sh prints them over the translation 9c8866a90e03a1aa… (all of the seat's roots in one cut). By AI agents, Wed Nov 11 2026. No macro, syntax, notation, axiom, sorry.
-/
import Derived.Test.YtaknnpphhbgfiaaChecked
import GoSem.Claim
import GoSem.ClaimJoined
import GoSem.ClaimMapViews
import Derived.JoinedTies
import Derived.KernelRfl
namespace Go.Proofs.Ytaknnpphhbgfiaa
/- THE CELL 'sum', in the pinned program and in every row, IS THE sha256 OF THE DUMP (.gsa) THAT YtaknnpphhbgfiaaProg.lean LOADS. Nothing in Lean hashes anything: it is a label: what it is worth is what the hold of that sum in a sandbox is worth. -/
noncomputable def Try.pinned : Pinned := { name := "ytaknnpphhbgfiaa", sum := "9c8866a90e03a1aa58ef7460c712591d79d9dc379b74c84fd2a7b775e8b573f4", checked := Try.checked }
namespace Rows
def none {H : Type} : Left H := { results := [], args := [] }

/-- 'laws.FnExactSameNodes': WHATEVER THE INPUT: true; the input reads as it did. -/
def fnExactSameNodesSpec : ChangeSpec := { name := "fnExactSameNodes", fn := fun _ => fun
  | [d1, d2] => { results := [.lit (.bool true)], args := [d1, d2] }
  | _ => none }
def fnExactSameNodesRow : OpenClaim := { program := "ytaknnpphhbgfiaa", sum := "9c8866a90e03a1aa58ef7460c712591d79d9dc379b74c84fd2a7b775e8b573f4", func := "loop.example/g00414/laws.FnExactSameNodes", spec := "fnExactSameNodes", apart := false }
def FnExactSameNodesSaid : Prop := fnExactSameNodesRow.holds Try.pinned (OpenSpec.ofChange fnExactSameNodesSpec)

/-- ITS FALSE NEIGHBOUR: 'it returns false'. Refute it at one input. -/
def fnExactSameNodesWrong : ChangeSpec := { name := "fnExactSameNodes", fn := fun _ => fun
  | [d1, d2] => { results := [.lit (.bool false)], args := [d1, d2] }
  | _ => none }
def FnExactSameNodesWrongFalsely : Prop := fnExactSameNodesRow.holds Try.pinned (OpenSpec.ofChange fnExactSameNodesWrong)

/-- 'laws.FnExactNodesFault': WHATEVER THE INPUT: true; the input reads as it did. -/
def fnExactNodesFaultSpec : ChangeSpec := { name := "fnExactNodesFault", fn := fun _ => fun
  | [d] => { results := [.lit (.bool true)], args := [d] }
  | _ => none }
def fnExactNodesFaultRow : OpenClaim := { program := "ytaknnpphhbgfiaa", sum := "9c8866a90e03a1aa58ef7460c712591d79d9dc379b74c84fd2a7b775e8b573f4", func := "loop.example/g00414/laws.FnExactNodesFault", spec := "fnExactNodesFault", recurses := true, apart := false }
def FnExactNodesFaultSaid : Prop := fnExactNodesFaultRow.holds Try.pinned (OpenSpec.ofChange fnExactNodesFaultSpec)

/-- ITS FALSE NEIGHBOUR: 'it returns false'. Refute it at one input. -/
def fnExactNodesFaultWrong : ChangeSpec := { name := "fnExactNodesFault", fn := fun _ => fun
  | [d] => { results := [.lit (.bool false)], args := [d] }
  | _ => none }
def FnExactNodesFaultWrongFalsely : Prop := fnExactNodesFaultRow.holds Try.pinned (OpenSpec.ofChange fnExactNodesFaultWrong)

/-- 'laws.FnExactCanBeEmpty': WHATEVER THE INPUT: true; the input reads as it did. -/
def fnExactCanBeEmptySpec : ChangeSpec := { name := "fnExactCanBeEmpty", fn := fun _ => fun
  | [d] => { results := [.lit (.bool true)], args := [d] }
  | _ => none }
def fnExactCanBeEmptyRow : OpenClaim := { program := "ytaknnpphhbgfiaa", sum := "9c8866a90e03a1aa58ef7460c712591d79d9dc379b74c84fd2a7b775e8b573f4", func := "loop.example/g00414/laws.FnExactCanBeEmpty", spec := "fnExactCanBeEmpty", recurses := true, apart := false }
def FnExactCanBeEmptySaid : Prop := fnExactCanBeEmptyRow.holds Try.pinned (OpenSpec.ofChange fnExactCanBeEmptySpec)

/-- ITS FALSE NEIGHBOUR: 'it returns false'. Refute it at one input. -/
def fnExactCanBeEmptyWrong : ChangeSpec := { name := "fnExactCanBeEmpty", fn := fun _ => fun
  | [d] => { results := [.lit (.bool false)], args := [d] }
  | _ => none }
def FnExactCanBeEmptyWrongFalsely : Prop := fnExactCanBeEmptyRow.holds Try.pinned (OpenSpec.ofChange fnExactCanBeEmptyWrong)

/-- 'laws.FnExactPatternText': WHATEVER THE INPUT: true; the input reads as it did. -/
def fnExactPatternTextSpec : ChangeSpec := { name := "fnExactPatternText", fn := fun _ => fun
  | [d] => { results := [.lit (.bool true)], args := [d] }
  | _ => none }
def fnExactPatternTextRow : OpenClaim := { program := "ytaknnpphhbgfiaa", sum := "9c8866a90e03a1aa58ef7460c712591d79d9dc379b74c84fd2a7b775e8b573f4", func := "loop.example/g00414/laws.FnExactPatternText", spec := "fnExactPatternText", inPlace := ["internal/bytealg.IndexByteString"], recurses := true, apart := false }
def FnExactPatternTextSaid : Prop := fnExactPatternTextRow.holds Try.pinned (OpenSpec.ofChange fnExactPatternTextSpec)

/-- ITS FALSE NEIGHBOUR: 'it returns false'. Refute it at one input. -/
def fnExactPatternTextWrong : ChangeSpec := { name := "fnExactPatternText", fn := fun _ => fun
  | [d] => { results := [.lit (.bool false)], args := [d] }
  | _ => none }
def FnExactPatternTextWrongFalsely : Prop := fnExactPatternTextRow.holds Try.pinned (OpenSpec.ofChange fnExactPatternTextWrong)

/-- 'laws.FnExactParsePattern': WHATEVER THE INPUT: true; the input reads as it did. -/
def fnExactParsePatternSpec : ChangeSpec := { name := "fnExactParsePattern", fn := fun _ => fun
  | [d] => { results := [.lit (.bool true)], args := [d] }
  | _ => none }
def fnExactParsePatternRow : OpenClaim := { program := "ytaknnpphhbgfiaa", sum := "9c8866a90e03a1aa58ef7460c712591d79d9dc379b74c84fd2a7b775e8b573f4", func := "loop.example/g00414/laws.FnExactParsePattern", spec := "fnExactParsePattern", inPlace := ["internal/bytealg.IndexByteString"], recurses := true, apart := false }
def FnExactParsePatternSaid : Prop := fnExactParsePatternRow.holds Try.pinned (OpenSpec.ofChange fnExactParsePatternSpec)

/-- ITS FALSE NEIGHBOUR: 'it returns false'. Refute it at one input. -/
def fnExactParsePatternWrong : ChangeSpec := { name := "fnExactParsePattern", fn := fun _ => fun
  | [d] => { results := [.lit (.bool false)], args := [d] }
  | _ => none }
def FnExactParsePatternWrongFalsely : Prop := fnExactParsePatternRow.holds Try.pinned (OpenSpec.ofChange fnExactParsePatternWrong)

/-- 'laws.FnPatterns': WHATEVER THE INPUT: true; the input reads as it did. -/
def fnPatternsSpec : ChangeSpec := { name := "fnPatterns", fn := fun _ => fun
  | [d] => { results := [.lit (.bool true)], args := [d] }
  | _ => none }
def fnPatternsRow : OpenClaim := { program := "ytaknnpphhbgfiaa", sum := "9c8866a90e03a1aa58ef7460c712591d79d9dc379b74c84fd2a7b775e8b573f4", func := "loop.example/g00414/laws.FnPatterns", spec := "fnPatterns", inPlace := ["internal/bytealg.IndexByteString"], recurses := true, apart := false }
def FnPatternsSaid : Prop := fnPatternsRow.holds Try.pinned (OpenSpec.ofChange fnPatternsSpec)

/-- ITS FALSE NEIGHBOUR: 'it returns false'. Refute it at one input. -/
def fnPatternsWrong : ChangeSpec := { name := "fnPatterns", fn := fun _ => fun
  | [d] => { results := [.lit (.bool false)], args := [d] }
  | _ => none }
def FnPatternsWrongFalsely : Prop := fnPatternsRow.holds Try.pinned (OpenSpec.ofChange fnPatternsWrong)

/- THE SECOND FORM. 'bulk': how many values and letters a reading holds, each counted each time it is reached (what is shared counts as often as it is met; a slice's spare places count too). A statement '..UptoSaid' is the law's where the arguments, and the package variables that the reading takes, are together of bulk at most 1048576: NARROWER than '..Said'. Prove '..Said' where nothing that the law and all that it calls make is longer than what came in: it says more and counts as full. Else prove '..UptoSaid'. A law counts once. -/
mutual
def uptoBulk {H : Type} : DataW H → Nat
  | .lit (.string bytes) => bytes.length + 1
  | .lit _ => 1
  | .nil => 1
  | .ptr d => uptoBulk d + 1
  | .slice elems spare => uptoBulkAll elems + uptoBulkAll spare + 1
  | .agg parts => uptoBulkAll parts + 1
  | .iface _ d => uptoBulk d + 1
  | .map entries => uptoBulkEntries entries + 1
  | .held _ => 1
def uptoBulkAll {H : Type} : List (DataW H) → Nat
  | [] => 0
  | d :: r => uptoBulk d + uptoBulkAll r
def uptoBulkEntries {H : Type} : List (Lit × DataW H) → Nat
  | [] => 0
  | x :: r => uptoBulkEntry x + uptoBulkEntries r
def uptoBulkEntry {H : Type} : Lit × DataW H → Nat
  | (.string bytes, d) => bytes.length + uptoBulk d + 1
  | (_, d) => uptoBulk d + 1
 end
def uptoSmall : (H : Type) → List (DataW H) → Bool := fun _ ds => decide (uptoBulkAll ds ≤ 1048576)
def OpenSpec.upto (s : _root_.Go.ChangeSpec) : _root_.Go.OpenSpec := { _root_.Go.OpenSpec.ofChange s with cond := some uptoSmall }

/-- 'laws.FnExactSameNodes', WHERE WHAT IT READS IS OF BULK AT MOST 1048576: true; the input reads as it did. -/
def fnExactSameNodesUptoRow : OpenClaim := { program := "ytaknnpphhbgfiaa", sum := "9c8866a90e03a1aa58ef7460c712591d79d9dc379b74c84fd2a7b775e8b573f4", func := "loop.example/g00414/laws.FnExactSameNodes", spec := "fnExactSameNodes", apart := false, narrowed := true }
def FnExactSameNodesUptoSaid : Prop := fnExactSameNodesUptoRow.holds Try.pinned (OpenSpec.upto fnExactSameNodesSpec)

/-- 'laws.FnExactNodesFault', WHERE WHAT IT READS IS OF BULK AT MOST 1048576: true; the input reads as it did. -/
def fnExactNodesFaultUptoRow : OpenClaim := { program := "ytaknnpphhbgfiaa", sum := "9c8866a90e03a1aa58ef7460c712591d79d9dc379b74c84fd2a7b775e8b573f4", func := "loop.example/g00414/laws.FnExactNodesFault", spec := "fnExactNodesFault", recurses := true, apart := false, narrowed := true }
def FnExactNodesFaultUptoSaid : Prop := fnExactNodesFaultUptoRow.holds Try.pinned (OpenSpec.upto fnExactNodesFaultSpec)

/-- 'laws.FnExactCanBeEmpty', WHERE WHAT IT READS IS OF BULK AT MOST 1048576: true; the input reads as it did. -/
def fnExactCanBeEmptyUptoRow : OpenClaim := { program := "ytaknnpphhbgfiaa", sum := "9c8866a90e03a1aa58ef7460c712591d79d9dc379b74c84fd2a7b775e8b573f4", func := "loop.example/g00414/laws.FnExactCanBeEmpty", spec := "fnExactCanBeEmpty", recurses := true, apart := false, narrowed := true }
def FnExactCanBeEmptyUptoSaid : Prop := fnExactCanBeEmptyUptoRow.holds Try.pinned (OpenSpec.upto fnExactCanBeEmptySpec)

/-- 'laws.FnExactPatternText', WHERE WHAT IT READS IS OF BULK AT MOST 1048576: true; the input reads as it did. -/
def fnExactPatternTextUptoRow : OpenClaim := { program := "ytaknnpphhbgfiaa", sum := "9c8866a90e03a1aa58ef7460c712591d79d9dc379b74c84fd2a7b775e8b573f4", func := "loop.example/g00414/laws.FnExactPatternText", spec := "fnExactPatternText", inPlace := ["internal/bytealg.IndexByteString"], recurses := true, apart := false, narrowed := true }
def FnExactPatternTextUptoSaid : Prop := fnExactPatternTextUptoRow.holds Try.pinned (OpenSpec.upto fnExactPatternTextSpec)

/-- 'laws.FnExactParsePattern', WHERE WHAT IT READS IS OF BULK AT MOST 1048576: true; the input reads as it did. -/
def fnExactParsePatternUptoRow : OpenClaim := { program := "ytaknnpphhbgfiaa", sum := "9c8866a90e03a1aa58ef7460c712591d79d9dc379b74c84fd2a7b775e8b573f4", func := "loop.example/g00414/laws.FnExactParsePattern", spec := "fnExactParsePattern", inPlace := ["internal/bytealg.IndexByteString"], recurses := true, apart := false, narrowed := true }
def FnExactParsePatternUptoSaid : Prop := fnExactParsePatternUptoRow.holds Try.pinned (OpenSpec.upto fnExactParsePatternSpec)

/-- 'laws.FnPatterns', WHERE WHAT IT READS IS OF BULK AT MOST 1048576: true; the input reads as it did. -/
def fnPatternsUptoRow : OpenClaim := { program := "ytaknnpphhbgfiaa", sum := "9c8866a90e03a1aa58ef7460c712591d79d9dc379b74c84fd2a7b775e8b573f4", func := "loop.example/g00414/laws.FnPatterns", spec := "fnPatterns", inPlace := ["internal/bytealg.IndexByteString"], recurses := true, apart := false, narrowed := true }
def FnPatternsUptoSaid : Prop := fnPatternsUptoRow.holds Try.pinned (OpenSpec.upto fnPatternsSpec)

end Rows
end Go.Proofs.Ytaknnpphhbgfiaa
