/-
  No cell of these rows narrows 'for every input' (looked for: loops, veiled, ifaces, maps, wideKeys, modest, calm, conditions, laid).
  DERIVED. THE GIVEN ROWS OF THIS SEAT. 8 by the template 'for every input the law returns true; each argument reads behind the call as it read before'; 0 by the template 'total and deterministic' (their statements: YtkocconggohdgaaTotals.lean).
  GIVEN WITH THE SEED: the statements are not yours to turn. If you find one false, say at which input.
  Laid BY PROGRAM, IN A SANDBOX (cutbox-rows.mjs): the forced cells as the released guide's own fill.sh prints them over the translation 4f62c05ae5ceb9fa… (all of the seat's roots in one cut). By AI agents, Wed Nov 11 2026. No macro, syntax, notation, axiom, sorry.
-/
import Derived.Test.YtkocconggohdgaaChecked
import GoSem.Claim
import GoSem.ClaimJoined
import GoSem.ClaimMapViews
import Derived.JoinedTies
import Derived.KernelRfl
namespace Go.Proofs.Ytkocconggohdgaa
/- THE CELL 'sum', in the pinned program and in every row, IS THE sha256 OF THE DUMP (.gsa) THAT YtkocconggohdgaaProg.lean LOADS. Nothing in Lean hashes anything: it is a label: what it is worth is what the hold of that sum in a sandbox is worth. -/
noncomputable def Try.pinned : Pinned := { name := "ytkocconggohdgaa", sum := "4f62c05ae5ceb9fa4fa7c03e32651736ee97a3f4d0e03efc1a98a6c15d76e91d", checked := Try.checked }
namespace Rows
def none {H : Type} : Left H := { results := [], args := [] }

/-- 'laws.FnExactNewCache': WHATEVER THE INPUT: true; the input reads as it did. -/
def fnExactNewCacheSpec : ChangeSpec := { name := "fnExactNewCache", fn := fun _ => fun
  | [d1, d2] => { results := [.lit (.bool true)], args := [d1, d2] }
  | _ => none }
def fnExactNewCacheRow : OpenClaim := { program := "ytkocconggohdgaa", sum := "4f62c05ae5ceb9fa4fa7c03e32651736ee97a3f4d0e03efc1a98a6c15d76e91d", func := "loop.example/g00414/laws.FnExactNewCache", spec := "fnExactNewCache", unfollowed := true, recurses := true, apart := false }
def FnExactNewCacheSaid : Prop := fnExactNewCacheRow.holds Try.pinned (OpenSpec.ofChange fnExactNewCacheSpec)

/-- ITS FALSE NEIGHBOUR: 'it returns false'. Refute it at one input. -/
def fnExactNewCacheWrong : ChangeSpec := { name := "fnExactNewCache", fn := fun _ => fun
  | [d1, d2] => { results := [.lit (.bool false)], args := [d1, d2] }
  | _ => none }
def FnExactNewCacheWrongFalsely : Prop := fnExactNewCacheRow.holds Try.pinned (OpenSpec.ofChange fnExactNewCacheWrong)

/-- 'laws.FnExactCacheFault': WHATEVER THE INPUT: true; the input reads as it did. -/
def fnExactCacheFaultSpec : ChangeSpec := { name := "fnExactCacheFault", fn := fun _ => fun
  | [d] => { results := [.lit (.bool true)], args := [d] }
  | _ => none }
def fnExactCacheFaultRow : OpenClaim := { program := "ytkocconggohdgaa", sum := "4f62c05ae5ceb9fa4fa7c03e32651736ee97a3f4d0e03efc1a98a6c15d76e91d", func := "loop.example/g00414/laws.FnExactCacheFault", spec := "fnExactCacheFault", unfollowed := true, recurses := true, apart := false }
def FnExactCacheFaultSaid : Prop := fnExactCacheFaultRow.holds Try.pinned (OpenSpec.ofChange fnExactCacheFaultSpec)

/-- ITS FALSE NEIGHBOUR: 'it returns false'. Refute it at one input. -/
def fnExactCacheFaultWrong : ChangeSpec := { name := "fnExactCacheFault", fn := fun _ => fun
  | [d] => { results := [.lit (.bool false)], args := [d] }
  | _ => none }
def FnExactCacheFaultWrongFalsely : Prop := fnExactCacheFaultRow.holds Try.pinned (OpenSpec.ofChange fnExactCacheFaultWrong)

/-- 'laws.FnExactCacheTrue': WHATEVER THE INPUT: true; the input reads as it did. -/
def fnExactCacheTrueSpec : ChangeSpec := { name := "fnExactCacheTrue", fn := fun _ => fun
  | [d1, d2] => { results := [.lit (.bool true)], args := [d1, d2] }
  | _ => none }
def fnExactCacheTrueRow : OpenClaim := { program := "ytkocconggohdgaa", sum := "4f62c05ae5ceb9fa4fa7c03e32651736ee97a3f4d0e03efc1a98a6c15d76e91d", func := "loop.example/g00414/laws.FnExactCacheTrue", spec := "fnExactCacheTrue", unfollowed := true, recurses := true, apart := false }
def FnExactCacheTrueSaid : Prop := fnExactCacheTrueRow.holds Try.pinned (OpenSpec.ofChange fnExactCacheTrueSpec)

/-- ITS FALSE NEIGHBOUR: 'it returns false'. Refute it at one input. -/
def fnExactCacheTrueWrong : ChangeSpec := { name := "fnExactCacheTrue", fn := fun _ => fun
  | [d1, d2] => { results := [.lit (.bool false)], args := [d1, d2] }
  | _ => none }
def FnExactCacheTrueWrongFalsely : Prop := fnExactCacheTrueRow.holds Try.pinned (OpenSpec.ofChange fnExactCacheTrueWrong)

/-- 'laws.FnExactForgetFrom': WHATEVER THE INPUT: true; the input reads as it did. -/
def fnExactForgetFromSpec : ChangeSpec := { name := "fnExactForgetFrom", fn := fun _ => fun
  | [d1, d2] => { results := [.lit (.bool true)], args := [d1, d2] }
  | _ => none }
def fnExactForgetFromRow : OpenClaim := { program := "ytkocconggohdgaa", sum := "4f62c05ae5ceb9fa4fa7c03e32651736ee97a3f4d0e03efc1a98a6c15d76e91d", func := "loop.example/g00414/laws.FnExactForgetFrom", spec := "fnExactForgetFrom", unfollowed := true, recurses := true, apart := false }
def FnExactForgetFromSaid : Prop := fnExactForgetFromRow.holds Try.pinned (OpenSpec.ofChange fnExactForgetFromSpec)

/-- ITS FALSE NEIGHBOUR: 'it returns false'. Refute it at one input. -/
def fnExactForgetFromWrong : ChangeSpec := { name := "fnExactForgetFrom", fn := fun _ => fun
  | [d1, d2] => { results := [.lit (.bool false)], args := [d1, d2] }
  | _ => none }
def FnExactForgetFromWrongFalsely : Prop := fnExactForgetFromRow.holds Try.pinned (OpenSpec.ofChange fnExactForgetFromWrong)

/-- 'laws.FnExactFetchBlock': WHATEVER THE INPUT: true; the input reads as it did. -/
def fnExactFetchBlockSpec : ChangeSpec := { name := "fnExactFetchBlock", fn := fun _ => fun
  | [d1, d2, d3, d4] => { results := [.lit (.bool true)], args := [d1, d2, d3, d4] }
  | _ => none }
def fnExactFetchBlockRow : OpenClaim := { program := "ytkocconggohdgaa", sum := "4f62c05ae5ceb9fa4fa7c03e32651736ee97a3f4d0e03efc1a98a6c15d76e91d", func := "loop.example/g00414/laws.FnExactFetchBlock", spec := "fnExactFetchBlock", unfollowed := true, recurses := true, apart := false }
def FnExactFetchBlockSaid : Prop := fnExactFetchBlockRow.holds Try.pinned (OpenSpec.ofChange fnExactFetchBlockSpec)

/-- ITS FALSE NEIGHBOUR: 'it returns false'. Refute it at one input. -/
def fnExactFetchBlockWrong : ChangeSpec := { name := "fnExactFetchBlock", fn := fun _ => fun
  | [d1, d2, d3, d4] => { results := [.lit (.bool false)], args := [d1, d2, d3, d4] }
  | _ => none }
def FnExactFetchBlockWrongFalsely : Prop := fnExactFetchBlockRow.holds Try.pinned (OpenSpec.ofChange fnExactFetchBlockWrong)

/-- 'laws.FnExactReadRange': WHATEVER THE INPUT: true; the input reads as it did. -/
def fnExactReadRangeSpec : ChangeSpec := { name := "fnExactReadRange", fn := fun _ => fun
  | [d1, d2, d3, d4, d5] => { results := [.lit (.bool true)], args := [d1, d2, d3, d4, d5] }
  | _ => none }
def fnExactReadRangeRow : OpenClaim := { program := "ytkocconggohdgaa", sum := "4f62c05ae5ceb9fa4fa7c03e32651736ee97a3f4d0e03efc1a98a6c15d76e91d", func := "loop.example/g00414/laws.FnExactReadRange", spec := "fnExactReadRange", unfollowed := true, recurses := true, apart := false }
def FnExactReadRangeSaid : Prop := fnExactReadRangeRow.holds Try.pinned (OpenSpec.ofChange fnExactReadRangeSpec)

/-- ITS FALSE NEIGHBOUR: 'it returns false'. Refute it at one input. -/
def fnExactReadRangeWrong : ChangeSpec := { name := "fnExactReadRange", fn := fun _ => fun
  | [d1, d2, d3, d4, d5] => { results := [.lit (.bool false)], args := [d1, d2, d3, d4, d5] }
  | _ => none }
def FnExactReadRangeWrongFalsely : Prop := fnExactReadRangeRow.holds Try.pinned (OpenSpec.ofChange fnExactReadRangeWrong)

/-- 'laws.FnBlocks': WHATEVER THE INPUT: true; the input reads as it did. -/
def fnBlocksSpec : ChangeSpec := { name := "fnBlocks", fn := fun _ => fun
  | [d] => { results := [.lit (.bool true)], args := [d] }
  | _ => none }
def fnBlocksRow : OpenClaim := { program := "ytkocconggohdgaa", sum := "4f62c05ae5ceb9fa4fa7c03e32651736ee97a3f4d0e03efc1a98a6c15d76e91d", func := "loop.example/g00414/laws.FnBlocks", spec := "fnBlocks", unfollowed := true, recurses := true, apart := false }
def FnBlocksSaid : Prop := fnBlocksRow.holds Try.pinned (OpenSpec.ofChange fnBlocksSpec)

/-- ITS FALSE NEIGHBOUR: 'it returns false'. Refute it at one input. -/
def fnBlocksWrong : ChangeSpec := { name := "fnBlocks", fn := fun _ => fun
  | [d] => { results := [.lit (.bool false)], args := [d] }
  | _ => none }
def FnBlocksWrongFalsely : Prop := fnBlocksRow.holds Try.pinned (OpenSpec.ofChange fnBlocksWrong)

/-- 'laws.FnRanges': WHATEVER THE INPUT: true; the input reads as it did. -/
def fnRangesSpec : ChangeSpec := { name := "fnRanges", fn := fun _ => fun
  | [d] => { results := [.lit (.bool true)], args := [d] }
  | _ => none }
def fnRangesRow : OpenClaim := { program := "ytkocconggohdgaa", sum := "4f62c05ae5ceb9fa4fa7c03e32651736ee97a3f4d0e03efc1a98a6c15d76e91d", func := "loop.example/g00414/laws.FnRanges", spec := "fnRanges", unfollowed := true, recurses := true, apart := false }
def FnRangesSaid : Prop := fnRangesRow.holds Try.pinned (OpenSpec.ofChange fnRangesSpec)

/-- ITS FALSE NEIGHBOUR: 'it returns false'. Refute it at one input. -/
def fnRangesWrong : ChangeSpec := { name := "fnRanges", fn := fun _ => fun
  | [d] => { results := [.lit (.bool false)], args := [d] }
  | _ => none }
def FnRangesWrongFalsely : Prop := fnRangesRow.holds Try.pinned (OpenSpec.ofChange fnRangesWrong)

/- THE SECOND FORM. 'bulk': how many values and letters a reading holds, each counted each time it is reached (what is shared counts as often as it is met; a slice's spare places count too). A statement '..UptoSaid' is the law's where the arguments, and the package variables that the reading takes, are together of bulk at most 1048576: NARROWER than '..Said'. Prove '..Said' where nothing that the law and all that it calls make is longer than what came in: it says more and counts as full. Else prove '..UptoSaid'. A law counts once. -/
mutual
def uptoBulk {H : Type} : DataW H → Nat
  | .lit (.string bytes) => bytes.length + 1
  | .lit _ => 1
  | .nil => 1
  | .ptr d => uptoBulk d + 1
  | .slice elems spare => uptoBulkAll elems + uptoBulkAll spare + 1
  | .agg parts => uptoBulkAll parts + 1
  | .iface _ d => uptoBulk d + 1
  | .map entries => uptoBulkEntries entries + 1
  | .held _ => 1
def uptoBulkAll {H : Type} : List (DataW H) → Nat
  | [] => 0
  | d :: r => uptoBulk d + uptoBulkAll r
def uptoBulkEntries {H : Type} : List (Lit × DataW H) → Nat
  | [] => 0
  | x :: r => uptoBulkEntry x + uptoBulkEntries r
def uptoBulkEntry {H : Type} : Lit × DataW H → Nat
  | (.string bytes, d) => bytes.length + uptoBulk d + 1
  | (_, d) => uptoBulk d + 1
 end
def uptoSmall : (H : Type) → List (DataW H) → Bool := fun _ ds => decide (uptoBulkAll ds ≤ 1048576)
def OpenSpec.upto (s : _root_.Go.ChangeSpec) : _root_.Go.OpenSpec := { _root_.Go.OpenSpec.ofChange s with cond := some uptoSmall }

/-- 'laws.FnExactNewCache', WHERE WHAT IT READS IS OF BULK AT MOST 1048576: true; the input reads as it did. -/
def fnExactNewCacheUptoRow : OpenClaim := { program := "ytkocconggohdgaa", sum := "4f62c05ae5ceb9fa4fa7c03e32651736ee97a3f4d0e03efc1a98a6c15d76e91d", func := "loop.example/g00414/laws.FnExactNewCache", spec := "fnExactNewCache", unfollowed := true, recurses := true, apart := false, narrowed := true }
def FnExactNewCacheUptoSaid : Prop := fnExactNewCacheUptoRow.holds Try.pinned (OpenSpec.upto fnExactNewCacheSpec)

/-- 'laws.FnExactCacheFault', WHERE WHAT IT READS IS OF BULK AT MOST 1048576: true; the input reads as it did. -/
def fnExactCacheFaultUptoRow : OpenClaim := { program := "ytkocconggohdgaa", sum := "4f62c05ae5ceb9fa4fa7c03e32651736ee97a3f4d0e03efc1a98a6c15d76e91d", func := "loop.example/g00414/laws.FnExactCacheFault", spec := "fnExactCacheFault", unfollowed := true, recurses := true, apart := false, narrowed := true }
def FnExactCacheFaultUptoSaid : Prop := fnExactCacheFaultUptoRow.holds Try.pinned (OpenSpec.upto fnExactCacheFaultSpec)

/-- 'laws.FnExactCacheTrue', WHERE WHAT IT READS IS OF BULK AT MOST 1048576: true; the input reads as it did. -/
def fnExactCacheTrueUptoRow : OpenClaim := { program := "ytkocconggohdgaa", sum := "4f62c05ae5ceb9fa4fa7c03e32651736ee97a3f4d0e03efc1a98a6c15d76e91d", func := "loop.example/g00414/laws.FnExactCacheTrue", spec := "fnExactCacheTrue", unfollowed := true, recurses := true, apart := false, narrowed := true }
def FnExactCacheTrueUptoSaid : Prop := fnExactCacheTrueUptoRow.holds Try.pinned (OpenSpec.upto fnExactCacheTrueSpec)

/-- 'laws.FnExactForgetFrom', WHERE WHAT IT READS IS OF BULK AT MOST 1048576: true; the input reads as it did. -/
def fnExactForgetFromUptoRow : OpenClaim := { program := "ytkocconggohdgaa", sum := "4f62c05ae5ceb9fa4fa7c03e32651736ee97a3f4d0e03efc1a98a6c15d76e91d", func := "loop.example/g00414/laws.FnExactForgetFrom", spec := "fnExactForgetFrom", unfollowed := true, recurses := true, apart := false, narrowed := true }
def FnExactForgetFromUptoSaid : Prop := fnExactForgetFromUptoRow.holds Try.pinned (OpenSpec.upto fnExactForgetFromSpec)

/-- 'laws.FnExactFetchBlock', WHERE WHAT IT READS IS OF BULK AT MOST 1048576: true; the input reads as it did. -/
def fnExactFetchBlockUptoRow : OpenClaim := { program := "ytkocconggohdgaa", sum := "4f62c05ae5ceb9fa4fa7c03e32651736ee97a3f4d0e03efc1a98a6c15d76e91d", func := "loop.example/g00414/laws.FnExactFetchBlock", spec := "fnExactFetchBlock", unfollowed := true, recurses := true, apart := false, narrowed := true }
def FnExactFetchBlockUptoSaid : Prop := fnExactFetchBlockUptoRow.holds Try.pinned (OpenSpec.upto fnExactFetchBlockSpec)

/-- 'laws.FnExactReadRange', WHERE WHAT IT READS IS OF BULK AT MOST 1048576: true; the input reads as it did. -/
def fnExactReadRangeUptoRow : OpenClaim := { program := "ytkocconggohdgaa", sum := "4f62c05ae5ceb9fa4fa7c03e32651736ee97a3f4d0e03efc1a98a6c15d76e91d", func := "loop.example/g00414/laws.FnExactReadRange", spec := "fnExactReadRange", unfollowed := true, recurses := true, apart := false, narrowed := true }
def FnExactReadRangeUptoSaid : Prop := fnExactReadRangeUptoRow.holds Try.pinned (OpenSpec.upto fnExactReadRangeSpec)

/-- 'laws.FnBlocks', WHERE WHAT IT READS IS OF BULK AT MOST 1048576: true; the input reads as it did. -/
def fnBlocksUptoRow : OpenClaim := { program := "ytkocconggohdgaa", sum := "4f62c05ae5ceb9fa4fa7c03e32651736ee97a3f4d0e03efc1a98a6c15d76e91d", func := "loop.example/g00414/laws.FnBlocks", spec := "fnBlocks", unfollowed := true, recurses := true, apart := false, narrowed := true }
def FnBlocksUptoSaid : Prop := fnBlocksUptoRow.holds Try.pinned (OpenSpec.upto fnBlocksSpec)

/-- 'laws.FnRanges', WHERE WHAT IT READS IS OF BULK AT MOST 1048576: true; the input reads as it did. -/
def fnRangesUptoRow : OpenClaim := { program := "ytkocconggohdgaa", sum := "4f62c05ae5ceb9fa4fa7c03e32651736ee97a3f4d0e03efc1a98a6c15d76e91d", func := "loop.example/g00414/laws.FnRanges", spec := "fnRanges", unfollowed := true, recurses := true, apart := false, narrowed := true }
def FnRangesUptoSaid : Prop := fnRangesUptoRow.holds Try.pinned (OpenSpec.upto fnRangesSpec)

end Rows
end Go.Proofs.Ytkocconggohdgaa
