/-
  No cell of these rows narrows 'for every input' (looked for: loops, veiled, ifaces, maps, wideKeys, modest, calm, conditions, laid).
  DERIVED. THE GIVEN ROWS OF THIS SEAT. 12 by the template 'for every input the law returns true; each argument reads behind the call as it read before'; 0 by the template 'total and deterministic' (their statements: YtfeoofbiimijcaaTotals.lean).
  GIVEN WITH THE SEED: the statements are not yours to turn. If you find one false, say at which input.
  Laid BY PROGRAM, IN A SANDBOX (cutbox-rows.mjs): the forced cells as the released guide's own fill.sh prints them over the translation 0d5dec8fa8d70d96… (all of the seat's roots in one cut). By AI agents, Wed Nov 11 2026. No macro, syntax, notation, axiom, sorry.
-/
import Derived.Test.YtfeoofbiimijcaaChecked
import GoSem.Claim
import GoSem.ClaimJoined
import GoSem.ClaimMapViews
import Derived.JoinedTies
import Derived.KernelRfl
namespace Go.Proofs.Ytfeoofbiimijcaa
/- THE CELL 'sum', in the pinned program and in every row, IS THE sha256 OF THE DUMP (.gsa) THAT YtfeoofbiimijcaaProg.lean LOADS. Nothing in Lean hashes anything: it is a label: what it is worth is what the hold of that sum in a sandbox is worth. -/
noncomputable def Try.pinned : Pinned := { name := "ytfeoofbiimijcaa", sum := "0d5dec8fa8d70d96c105b3c709aedeab35ce3d5733c1d1677002b52fa7677939", checked := Try.checked }
namespace Rows
def none {H : Type} : Left H := { results := [], args := [] }

/-- 'laws.FnExactConstants': WHATEVER THE INPUT: true; the input reads as it did. -/
def fnExactConstantsSpec : ChangeSpec := { name := "fnExactConstants", fn := fun _ => fun
  | [] => { results := [.lit (.bool true)], args := [] }
  | _ => none }
def fnExactConstantsRow : OpenClaim := { program := "ytfeoofbiimijcaa", sum := "0d5dec8fa8d70d96c105b3c709aedeab35ce3d5733c1d1677002b52fa7677939", func := "loop.example/g00414/laws.FnExactConstants", spec := "fnExactConstants", apart := false }
def FnExactConstantsSaid : Prop := fnExactConstantsRow.holds Try.pinned (OpenSpec.ofChange fnExactConstantsSpec)

/-- ITS FALSE NEIGHBOUR: 'it returns false'. Refute it at one input. -/
def fnExactConstantsWrong : ChangeSpec := { name := "fnExactConstants", fn := fun _ => fun
  | [] => { results := [.lit (.bool false)], args := [] }
  | _ => none }
def FnExactConstantsWrongFalsely : Prop := fnExactConstantsRow.holds Try.pinned (OpenSpec.ofChange fnExactConstantsWrong)

/-- 'laws.FnExactHasByte': WHATEVER THE INPUT: true; the input reads as it did. -/
def fnExactHasByteSpec : ChangeSpec := { name := "fnExactHasByte", fn := fun _ => fun
  | [d1, d2] => { results := [.lit (.bool true)], args := [d1, d2] }
  | _ => none }
def fnExactHasByteRow : OpenClaim := { program := "ytfeoofbiimijcaa", sum := "0d5dec8fa8d70d96c105b3c709aedeab35ce3d5733c1d1677002b52fa7677939", func := "loop.example/g00414/laws.FnExactHasByte", spec := "fnExactHasByte", inPlace := ["internal/bytealg.IndexByteString"], apart := false }
def FnExactHasByteSaid : Prop := fnExactHasByteRow.holds Try.pinned (OpenSpec.ofChange fnExactHasByteSpec)

/-- ITS FALSE NEIGHBOUR: 'it returns false'. Refute it at one input. -/
def fnExactHasByteWrong : ChangeSpec := { name := "fnExactHasByte", fn := fun _ => fun
  | [d1, d2] => { results := [.lit (.bool false)], args := [d1, d2] }
  | _ => none }
def FnExactHasByteWrongFalsely : Prop := fnExactHasByteRow.holds Try.pinned (OpenSpec.ofChange fnExactHasByteWrong)

/-- 'laws.FnExactFileFault': WHATEVER THE INPUT: true; the input reads as it did. -/
def fnExactFileFaultSpec : ChangeSpec := { name := "fnExactFileFault", fn := fun _ => fun
  | [d] => { results := [.lit (.bool true)], args := [d] }
  | _ => none }
def fnExactFileFaultRow : OpenClaim := { program := "ytfeoofbiimijcaa", sum := "0d5dec8fa8d70d96c105b3c709aedeab35ce3d5733c1d1677002b52fa7677939", func := "loop.example/g00414/laws.FnExactFileFault", spec := "fnExactFileFault", apart := false }
def FnExactFileFaultSaid : Prop := fnExactFileFaultRow.holds Try.pinned (OpenSpec.ofChange fnExactFileFaultSpec)

/-- ITS FALSE NEIGHBOUR: 'it returns false'. Refute it at one input. -/
def fnExactFileFaultWrong : ChangeSpec := { name := "fnExactFileFault", fn := fun _ => fun
  | [d] => { results := [.lit (.bool false)], args := [d] }
  | _ => none }
def FnExactFileFaultWrongFalsely : Prop := fnExactFileFaultRow.holds Try.pinned (OpenSpec.ofChange fnExactFileFaultWrong)

/-- 'laws.FnExactCellsFault': WHATEVER THE INPUT: true; the input reads as it did. -/
def fnExactCellsFaultSpec : ChangeSpec := { name := "fnExactCellsFault", fn := fun _ => fun
  | [d] => { results := [.lit (.bool true)], args := [d] }
  | _ => none }
def fnExactCellsFaultRow : OpenClaim := { program := "ytfeoofbiimijcaa", sum := "0d5dec8fa8d70d96c105b3c709aedeab35ce3d5733c1d1677002b52fa7677939", func := "loop.example/g00414/laws.FnExactCellsFault", spec := "fnExactCellsFault", apart := false }
def FnExactCellsFaultSaid : Prop := fnExactCellsFaultRow.holds Try.pinned (OpenSpec.ofChange fnExactCellsFaultSpec)

/-- ITS FALSE NEIGHBOUR: 'it returns false'. Refute it at one input. -/
def fnExactCellsFaultWrong : ChangeSpec := { name := "fnExactCellsFault", fn := fun _ => fun
  | [d] => { results := [.lit (.bool false)], args := [d] }
  | _ => none }
def FnExactCellsFaultWrongFalsely : Prop := fnExactCellsFaultRow.holds Try.pinned (OpenSpec.ofChange fnExactCellsFaultWrong)

/-- 'laws.FnExactEncodeChar': WHATEVER THE INPUT: true; the input reads as it did. -/
def fnExactEncodeCharSpec : ChangeSpec := { name := "fnExactEncodeChar", fn := fun _ => fun
  | [d] => { results := [.lit (.bool true)], args := [d] }
  | _ => none }
def fnExactEncodeCharRow : OpenClaim := { program := "ytfeoofbiimijcaa", sum := "0d5dec8fa8d70d96c105b3c709aedeab35ce3d5733c1d1677002b52fa7677939", func := "loop.example/g00414/laws.FnExactEncodeChar", spec := "fnExactEncodeChar", apart := false }
def FnExactEncodeCharSaid : Prop := fnExactEncodeCharRow.holds Try.pinned (OpenSpec.ofChange fnExactEncodeCharSpec)

/-- ITS FALSE NEIGHBOUR: 'it returns false'. Refute it at one input. -/
def fnExactEncodeCharWrong : ChangeSpec := { name := "fnExactEncodeChar", fn := fun _ => fun
  | [d] => { results := [.lit (.bool false)], args := [d] }
  | _ => none }
def FnExactEncodeCharWrongFalsely : Prop := fnExactEncodeCharRow.holds Try.pinned (OpenSpec.ofChange fnExactEncodeCharWrong)

/-- 'laws.FnExactDecodeAt': WHATEVER THE INPUT: true; the input reads as it did. -/
def fnExactDecodeAtSpec : ChangeSpec := { name := "fnExactDecodeAt", fn := fun _ => fun
  | [d1, d2] => { results := [.lit (.bool true)], args := [d1, d2] }
  | _ => none }
def fnExactDecodeAtRow : OpenClaim := { program := "ytfeoofbiimijcaa", sum := "0d5dec8fa8d70d96c105b3c709aedeab35ce3d5733c1d1677002b52fa7677939", func := "loop.example/g00414/laws.FnExactDecodeAt", spec := "fnExactDecodeAt", apart := false }
def FnExactDecodeAtSaid : Prop := fnExactDecodeAtRow.holds Try.pinned (OpenSpec.ofChange fnExactDecodeAtSpec)

/-- ITS FALSE NEIGHBOUR: 'it returns false'. Refute it at one input. -/
def fnExactDecodeAtWrong : ChangeSpec := { name := "fnExactDecodeAt", fn := fun _ => fun
  | [d1, d2] => { results := [.lit (.bool false)], args := [d1, d2] }
  | _ => none }
def FnExactDecodeAtWrongFalsely : Prop := fnExactDecodeAtRow.holds Try.pinned (OpenSpec.ofChange fnExactDecodeAtWrong)

/-- 'laws.FnExactCellsText': WHATEVER THE INPUT: true; the input reads as it did. -/
def fnExactCellsTextSpec : ChangeSpec := { name := "fnExactCellsText", fn := fun _ => fun
  | [d] => { results := [.lit (.bool true)], args := [d] }
  | _ => none }
def fnExactCellsTextRow : OpenClaim := { program := "ytfeoofbiimijcaa", sum := "0d5dec8fa8d70d96c105b3c709aedeab35ce3d5733c1d1677002b52fa7677939", func := "loop.example/g00414/laws.FnExactCellsText", spec := "fnExactCellsText", apart := false }
def FnExactCellsTextSaid : Prop := fnExactCellsTextRow.holds Try.pinned (OpenSpec.ofChange fnExactCellsTextSpec)

/-- ITS FALSE NEIGHBOUR: 'it returns false'. Refute it at one input. -/
def fnExactCellsTextWrong : ChangeSpec := { name := "fnExactCellsText", fn := fun _ => fun
  | [d] => { results := [.lit (.bool false)], args := [d] }
  | _ => none }
def FnExactCellsTextWrongFalsely : Prop := fnExactCellsTextRow.holds Try.pinned (OpenSpec.ofChange fnExactCellsTextWrong)

/-- 'laws.FnExactCutFile': WHATEVER THE INPUT: true; the input reads as it did. -/
def fnExactCutFileSpec : ChangeSpec := { name := "fnExactCutFile", fn := fun _ => fun
  | [d1, d2] => { results := [.lit (.bool true)], args := [d1, d2] }
  | _ => none }
def fnExactCutFileRow : OpenClaim := { program := "ytfeoofbiimijcaa", sum := "0d5dec8fa8d70d96c105b3c709aedeab35ce3d5733c1d1677002b52fa7677939", func := "loop.example/g00414/laws.FnExactCutFile", spec := "fnExactCutFile", apart := false }
def FnExactCutFileSaid : Prop := fnExactCutFileRow.holds Try.pinned (OpenSpec.ofChange fnExactCutFileSpec)

/-- ITS FALSE NEIGHBOUR: 'it returns false'. Refute it at one input. -/
def fnExactCutFileWrong : ChangeSpec := { name := "fnExactCutFile", fn := fun _ => fun
  | [d1, d2] => { results := [.lit (.bool false)], args := [d1, d2] }
  | _ => none }
def FnExactCutFileWrongFalsely : Prop := fnExactCutFileRow.holds Try.pinned (OpenSpec.ofChange fnExactCutFileWrong)

/-- 'laws.FnExactAppendFile': WHATEVER THE INPUT: true; the input reads as it did. -/
def fnExactAppendFileSpec : ChangeSpec := { name := "fnExactAppendFile", fn := fun _ => fun
  | [d1, d2] => { results := [.lit (.bool true)], args := [d1, d2] }
  | _ => none }
def fnExactAppendFileRow : OpenClaim := { program := "ytfeoofbiimijcaa", sum := "0d5dec8fa8d70d96c105b3c709aedeab35ce3d5733c1d1677002b52fa7677939", func := "loop.example/g00414/laws.FnExactAppendFile", spec := "fnExactAppendFile", apart := false }
def FnExactAppendFileSaid : Prop := fnExactAppendFileRow.holds Try.pinned (OpenSpec.ofChange fnExactAppendFileSpec)

/-- ITS FALSE NEIGHBOUR: 'it returns false'. Refute it at one input. -/
def fnExactAppendFileWrong : ChangeSpec := { name := "fnExactAppendFile", fn := fun _ => fun
  | [d1, d2] => { results := [.lit (.bool false)], args := [d1, d2] }
  | _ => none }
def FnExactAppendFileWrongFalsely : Prop := fnExactAppendFileRow.holds Try.pinned (OpenSpec.ofChange fnExactAppendFileWrong)

/-- 'laws.FnExactReadPart': WHATEVER THE INPUT: true; the input reads as it did. -/
def fnExactReadPartSpec : ChangeSpec := { name := "fnExactReadPart", fn := fun _ => fun
  | [d1, d2, d3, d4] => { results := [.lit (.bool true)], args := [d1, d2, d3, d4] }
  | _ => none }
def fnExactReadPartRow : OpenClaim := { program := "ytfeoofbiimijcaa", sum := "0d5dec8fa8d70d96c105b3c709aedeab35ce3d5733c1d1677002b52fa7677939", func := "loop.example/g00414/laws.FnExactReadPart", spec := "fnExactReadPart", apart := false }
def FnExactReadPartSaid : Prop := fnExactReadPartRow.holds Try.pinned (OpenSpec.ofChange fnExactReadPartSpec)

/-- ITS FALSE NEIGHBOUR: 'it returns false'. Refute it at one input. -/
def fnExactReadPartWrong : ChangeSpec := { name := "fnExactReadPart", fn := fun _ => fun
  | [d1, d2, d3, d4] => { results := [.lit (.bool false)], args := [d1, d2, d3, d4] }
  | _ => none }
def FnExactReadPartWrongFalsely : Prop := fnExactReadPartRow.holds Try.pinned (OpenSpec.ofChange fnExactReadPartWrong)

/-- 'laws.FnExactLineBytes': WHATEVER THE INPUT: true; the input reads as it did. -/
def fnExactLineBytesSpec : ChangeSpec := { name := "fnExactLineBytes", fn := fun _ => fun
  | [d1, d2] => { results := [.lit (.bool true)], args := [d1, d2] }
  | _ => none }
def fnExactLineBytesRow : OpenClaim := { program := "ytfeoofbiimijcaa", sum := "0d5dec8fa8d70d96c105b3c709aedeab35ce3d5733c1d1677002b52fa7677939", func := "loop.example/g00414/laws.FnExactLineBytes", spec := "fnExactLineBytes", apart := false }
def FnExactLineBytesSaid : Prop := fnExactLineBytesRow.holds Try.pinned (OpenSpec.ofChange fnExactLineBytesSpec)

/-- ITS FALSE NEIGHBOUR: 'it returns false'. Refute it at one input. -/
def fnExactLineBytesWrong : ChangeSpec := { name := "fnExactLineBytes", fn := fun _ => fun
  | [d1, d2] => { results := [.lit (.bool false)], args := [d1, d2] }
  | _ => none }
def FnExactLineBytesWrongFalsely : Prop := fnExactLineBytesRow.holds Try.pinned (OpenSpec.ofChange fnExactLineBytesWrong)

/-- 'laws.FnExactLinesIn': WHATEVER THE INPUT: true; the input reads as it did. -/
def fnExactLinesInSpec : ChangeSpec := { name := "fnExactLinesIn", fn := fun _ => fun
  | [d] => { results := [.lit (.bool true)], args := [d] }
  | _ => none }
def fnExactLinesInRow : OpenClaim := { program := "ytfeoofbiimijcaa", sum := "0d5dec8fa8d70d96c105b3c709aedeab35ce3d5733c1d1677002b52fa7677939", func := "loop.example/g00414/laws.FnExactLinesIn", spec := "fnExactLinesIn", apart := false }
def FnExactLinesInSaid : Prop := fnExactLinesInRow.holds Try.pinned (OpenSpec.ofChange fnExactLinesInSpec)

/-- ITS FALSE NEIGHBOUR: 'it returns false'. Refute it at one input. -/
def fnExactLinesInWrong : ChangeSpec := { name := "fnExactLinesIn", fn := fun _ => fun
  | [d] => { results := [.lit (.bool false)], args := [d] }
  | _ => none }
def FnExactLinesInWrongFalsely : Prop := fnExactLinesInRow.holds Try.pinned (OpenSpec.ofChange fnExactLinesInWrong)

/- THE SECOND FORM. 'bulk': how many values and letters a reading holds, each counted each time it is reached (what is shared counts as often as it is met; a slice's spare places count too). A statement '..UptoSaid' is the law's where the arguments, and the package variables that the reading takes, are together of bulk at most 1048576: NARROWER than '..Said'. Prove '..Said' where nothing that the law and all that it calls make is longer than what came in: it says more and counts as full. Else prove '..UptoSaid'. A law counts once. -/
mutual
def uptoBulk {H : Type} : DataW H → Nat
  | .lit (.string bytes) => bytes.length + 1
  | .lit _ => 1
  | .nil => 1
  | .ptr d => uptoBulk d + 1
  | .slice elems spare => uptoBulkAll elems + uptoBulkAll spare + 1
  | .agg parts => uptoBulkAll parts + 1
  | .iface _ d => uptoBulk d + 1
  | .map entries => uptoBulkEntries entries + 1
  | .held _ => 1
def uptoBulkAll {H : Type} : List (DataW H) → Nat
  | [] => 0
  | d :: r => uptoBulk d + uptoBulkAll r
def uptoBulkEntries {H : Type} : List (Lit × DataW H) → Nat
  | [] => 0
  | x :: r => uptoBulkEntry x + uptoBulkEntries r
def uptoBulkEntry {H : Type} : Lit × DataW H → Nat
  | (.string bytes, d) => bytes.length + uptoBulk d + 1
  | (_, d) => uptoBulk d + 1
 end
def uptoSmall : (H : Type) → List (DataW H) → Bool := fun _ ds => decide (uptoBulkAll ds ≤ 1048576)
def OpenSpec.upto (s : _root_.Go.ChangeSpec) : _root_.Go.OpenSpec := { _root_.Go.OpenSpec.ofChange s with cond := some uptoSmall }

/-- 'laws.FnExactConstants', WHERE WHAT IT READS IS OF BULK AT MOST 1048576: true; the input reads as it did. -/
def fnExactConstantsUptoRow : OpenClaim := { program := "ytfeoofbiimijcaa", sum := "0d5dec8fa8d70d96c105b3c709aedeab35ce3d5733c1d1677002b52fa7677939", func := "loop.example/g00414/laws.FnExactConstants", spec := "fnExactConstants", apart := false, narrowed := true }
def FnExactConstantsUptoSaid : Prop := fnExactConstantsUptoRow.holds Try.pinned (OpenSpec.upto fnExactConstantsSpec)

/-- 'laws.FnExactHasByte', WHERE WHAT IT READS IS OF BULK AT MOST 1048576: true; the input reads as it did. -/
def fnExactHasByteUptoRow : OpenClaim := { program := "ytfeoofbiimijcaa", sum := "0d5dec8fa8d70d96c105b3c709aedeab35ce3d5733c1d1677002b52fa7677939", func := "loop.example/g00414/laws.FnExactHasByte", spec := "fnExactHasByte", inPlace := ["internal/bytealg.IndexByteString"], apart := false, narrowed := true }
def FnExactHasByteUptoSaid : Prop := fnExactHasByteUptoRow.holds Try.pinned (OpenSpec.upto fnExactHasByteSpec)

/-- 'laws.FnExactFileFault', WHERE WHAT IT READS IS OF BULK AT MOST 1048576: true; the input reads as it did. -/
def fnExactFileFaultUptoRow : OpenClaim := { program := "ytfeoofbiimijcaa", sum := "0d5dec8fa8d70d96c105b3c709aedeab35ce3d5733c1d1677002b52fa7677939", func := "loop.example/g00414/laws.FnExactFileFault", spec := "fnExactFileFault", apart := false, narrowed := true }
def FnExactFileFaultUptoSaid : Prop := fnExactFileFaultUptoRow.holds Try.pinned (OpenSpec.upto fnExactFileFaultSpec)

/-- 'laws.FnExactCellsFault', WHERE WHAT IT READS IS OF BULK AT MOST 1048576: true; the input reads as it did. -/
def fnExactCellsFaultUptoRow : OpenClaim := { program := "ytfeoofbiimijcaa", sum := "0d5dec8fa8d70d96c105b3c709aedeab35ce3d5733c1d1677002b52fa7677939", func := "loop.example/g00414/laws.FnExactCellsFault", spec := "fnExactCellsFault", apart := false, narrowed := true }
def FnExactCellsFaultUptoSaid : Prop := fnExactCellsFaultUptoRow.holds Try.pinned (OpenSpec.upto fnExactCellsFaultSpec)

/-- 'laws.FnExactEncodeChar', WHERE WHAT IT READS IS OF BULK AT MOST 1048576: true; the input reads as it did. -/
def fnExactEncodeCharUptoRow : OpenClaim := { program := "ytfeoofbiimijcaa", sum := "0d5dec8fa8d70d96c105b3c709aedeab35ce3d5733c1d1677002b52fa7677939", func := "loop.example/g00414/laws.FnExactEncodeChar", spec := "fnExactEncodeChar", apart := false, narrowed := true }
def FnExactEncodeCharUptoSaid : Prop := fnExactEncodeCharUptoRow.holds Try.pinned (OpenSpec.upto fnExactEncodeCharSpec)

/-- 'laws.FnExactDecodeAt', WHERE WHAT IT READS IS OF BULK AT MOST 1048576: true; the input reads as it did. -/
def fnExactDecodeAtUptoRow : OpenClaim := { program := "ytfeoofbiimijcaa", sum := "0d5dec8fa8d70d96c105b3c709aedeab35ce3d5733c1d1677002b52fa7677939", func := "loop.example/g00414/laws.FnExactDecodeAt", spec := "fnExactDecodeAt", apart := false, narrowed := true }
def FnExactDecodeAtUptoSaid : Prop := fnExactDecodeAtUptoRow.holds Try.pinned (OpenSpec.upto fnExactDecodeAtSpec)

/-- 'laws.FnExactCellsText', WHERE WHAT IT READS IS OF BULK AT MOST 1048576: true; the input reads as it did. -/
def fnExactCellsTextUptoRow : OpenClaim := { program := "ytfeoofbiimijcaa", sum := "0d5dec8fa8d70d96c105b3c709aedeab35ce3d5733c1d1677002b52fa7677939", func := "loop.example/g00414/laws.FnExactCellsText", spec := "fnExactCellsText", apart := false, narrowed := true }
def FnExactCellsTextUptoSaid : Prop := fnExactCellsTextUptoRow.holds Try.pinned (OpenSpec.upto fnExactCellsTextSpec)

/-- 'laws.FnExactCutFile', WHERE WHAT IT READS IS OF BULK AT MOST 1048576: true; the input reads as it did. -/
def fnExactCutFileUptoRow : OpenClaim := { program := "ytfeoofbiimijcaa", sum := "0d5dec8fa8d70d96c105b3c709aedeab35ce3d5733c1d1677002b52fa7677939", func := "loop.example/g00414/laws.FnExactCutFile", spec := "fnExactCutFile", apart := false, narrowed := true }
def FnExactCutFileUptoSaid : Prop := fnExactCutFileUptoRow.holds Try.pinned (OpenSpec.upto fnExactCutFileSpec)

/-- 'laws.FnExactAppendFile', WHERE WHAT IT READS IS OF BULK AT MOST 1048576: true; the input reads as it did. -/
def fnExactAppendFileUptoRow : OpenClaim := { program := "ytfeoofbiimijcaa", sum := "0d5dec8fa8d70d96c105b3c709aedeab35ce3d5733c1d1677002b52fa7677939", func := "loop.example/g00414/laws.FnExactAppendFile", spec := "fnExactAppendFile", apart := false, narrowed := true }
def FnExactAppendFileUptoSaid : Prop := fnExactAppendFileUptoRow.holds Try.pinned (OpenSpec.upto fnExactAppendFileSpec)

/-- 'laws.FnExactReadPart', WHERE WHAT IT READS IS OF BULK AT MOST 1048576: true; the input reads as it did. -/
def fnExactReadPartUptoRow : OpenClaim := { program := "ytfeoofbiimijcaa", sum := "0d5dec8fa8d70d96c105b3c709aedeab35ce3d5733c1d1677002b52fa7677939", func := "loop.example/g00414/laws.FnExactReadPart", spec := "fnExactReadPart", apart := false, narrowed := true }
def FnExactReadPartUptoSaid : Prop := fnExactReadPartUptoRow.holds Try.pinned (OpenSpec.upto fnExactReadPartSpec)

/-- 'laws.FnExactLineBytes', WHERE WHAT IT READS IS OF BULK AT MOST 1048576: true; the input reads as it did. -/
def fnExactLineBytesUptoRow : OpenClaim := { program := "ytfeoofbiimijcaa", sum := "0d5dec8fa8d70d96c105b3c709aedeab35ce3d5733c1d1677002b52fa7677939", func := "loop.example/g00414/laws.FnExactLineBytes", spec := "fnExactLineBytes", apart := false, narrowed := true }
def FnExactLineBytesUptoSaid : Prop := fnExactLineBytesUptoRow.holds Try.pinned (OpenSpec.upto fnExactLineBytesSpec)

/-- 'laws.FnExactLinesIn', WHERE WHAT IT READS IS OF BULK AT MOST 1048576: true; the input reads as it did. -/
def fnExactLinesInUptoRow : OpenClaim := { program := "ytfeoofbiimijcaa", sum := "0d5dec8fa8d70d96c105b3c709aedeab35ce3d5733c1d1677002b52fa7677939", func := "loop.example/g00414/laws.FnExactLinesIn", spec := "fnExactLinesIn", apart := false, narrowed := true }
def FnExactLinesInUptoSaid : Prop := fnExactLinesInUptoRow.holds Try.pinned (OpenSpec.upto fnExactLinesInSpec)

end Rows
end Go.Proofs.Ytfeoofbiimijcaa
