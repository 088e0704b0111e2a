/-
  No cell of these rows narrows 'for every input' (looked for: loops, veiled, ifaces, maps, wideKeys, modest, calm, conditions, laid).
  DERIVED. THE GIVEN ROWS OF THIS SEAT. 4 by the template 'for every input the law returns true; each argument reads behind the call as it read before'; 0 by the template 'total and deterministic' (their statements: YtakgfhdaimeafaaGreatTotals.lean).
  GIVEN WITH THE SEED: the statements are not yours to turn. If you find one false, say at which input.
  Laid BY PROGRAM, IN A SANDBOX (cutbox-rows.mjs): the forced cells as the released guide's own fill.sh prints them over the translation 1d4224b17f127ad2… (all of the seat's roots in one cut). By AI agents, Wed Nov 11 2026. No macro, syntax, notation, axiom, sorry.
-/
import Derived.Test.YtakgfhdaimeafaaGreatChecked
import GoSem.Claim
import GoSem.ClaimJoined
import GoSem.ClaimMapViews
import Derived.JoinedTies
import Derived.KernelRfl
namespace Go.Proofs.YtakgfhdaimeafaaGreat
/- THE CELL 'sum', in the pinned program and in every row, IS THE sha256 OF THE DUMP (.gsa) THAT YtakgfhdaimeafaaGreatProg.lean LOADS. Nothing in Lean hashes anything: it is a label: what it is worth is what the hold of that sum in a sandbox is worth. -/
noncomputable def Tryz.pinned : Pinned := { name := "ytakgfhdaimeafaagreat", sum := "1d4224b17f127ad2a8fa7e223abe3ee771b4ac117132aa8bc90e31628811f4cd", checked := Tryz.checked }
namespace Rows
def none {H : Type} : Left H := { results := [], args := [] }

/-- 'proteuslaw12.HeapChains': WHATEVER THE INPUT: true; the input reads as it did. -/
def heapChainsSpec : ChangeSpec := { name := "heapChains", fn := fun _ => fun
  | [d1, d2] => { results := [.lit (.bool true)], args := [d1, d2] }
  | _ => none }
def heapChainsRow : OpenClaim := { program := "ytakgfhdaimeafaagreat", sum := "1d4224b17f127ad2a8fa7e223abe3ee771b4ac117132aa8bc90e31628811f4cd", func := "proteus/proteuslaw12.HeapChains", spec := "heapChains", inPlace := ["internal/abi.NoEscape"], unfollowed := true, recurses := true, apart := false }
def HeapChainsSaid : Prop := heapChainsRow.holds Tryz.pinned (OpenSpec.ofChange heapChainsSpec)

/-- ITS FALSE NEIGHBOUR: 'it returns false'. Refute it at one input. -/
def heapChainsWrong : ChangeSpec := { name := "heapChains", fn := fun _ => fun
  | [d1, d2] => { results := [.lit (.bool false)], args := [d1, d2] }
  | _ => none }
def HeapChainsWrongFalsely : Prop := heapChainsRow.holds Tryz.pinned (OpenSpec.ofChange heapChainsWrong)

/-- 'proteuslaw12.HeapSets': WHATEVER THE INPUT: true; the input reads as it did. -/
def heapSetsSpec : ChangeSpec := { name := "heapSets", fn := fun _ => fun
  | [d1, d2, d3] => { results := [.lit (.bool true)], args := [d1, d2, d3] }
  | _ => none }
def heapSetsRow : OpenClaim := { program := "ytakgfhdaimeafaagreat", sum := "1d4224b17f127ad2a8fa7e223abe3ee771b4ac117132aa8bc90e31628811f4cd", func := "proteus/proteuslaw12.HeapSets", spec := "heapSets", inPlace := ["internal/abi.NoEscape"], unfollowed := true, recurses := true, apart := false }
def HeapSetsSaid : Prop := heapSetsRow.holds Tryz.pinned (OpenSpec.ofChange heapSetsSpec)

/-- ITS FALSE NEIGHBOUR: 'it returns false'. Refute it at one input. -/
def heapSetsWrong : ChangeSpec := { name := "heapSets", fn := fun _ => fun
  | [d1, d2, d3] => { results := [.lit (.bool false)], args := [d1, d2, d3] }
  | _ => none }
def HeapSetsWrongFalsely : Prop := heapSetsRow.holds Tryz.pinned (OpenSpec.ofChange heapSetsWrong)

/-- 'proteuslaw12.HeapShapes': WHATEVER THE INPUT: true; the input reads as it did. -/
def heapShapesSpec : ChangeSpec := { name := "heapShapes", fn := fun _ => fun
  | [d] => { results := [.lit (.bool true)], args := [d] }
  | _ => none }
def heapShapesRow : OpenClaim := { program := "ytakgfhdaimeafaagreat", sum := "1d4224b17f127ad2a8fa7e223abe3ee771b4ac117132aa8bc90e31628811f4cd", func := "proteus/proteuslaw12.HeapShapes", spec := "heapShapes", inPlace := ["internal/abi.NoEscape"], unfollowed := true, recurses := true, apart := false }
def HeapShapesSaid : Prop := heapShapesRow.holds Tryz.pinned (OpenSpec.ofChange heapShapesSpec)

/-- ITS FALSE NEIGHBOUR: 'it returns false'. Refute it at one input. -/
def heapShapesWrong : ChangeSpec := { name := "heapShapes", fn := fun _ => fun
  | [d] => { results := [.lit (.bool false)], args := [d] }
  | _ => none }
def HeapShapesWrongFalsely : Prop := heapShapesRow.holds Tryz.pinned (OpenSpec.ofChange heapShapesWrong)

/-- 'proteuslaw12.HeapPlays': WHATEVER THE INPUT: true; the input reads as it did. -/
def heapPlaysSpec : ChangeSpec := { name := "heapPlays", fn := fun _ => fun
  | [d1, d2, d3] => { results := [.lit (.bool true)], args := [d1, d2, d3] }
  | _ => none }
def heapPlaysRow : OpenClaim := { program := "ytakgfhdaimeafaagreat", sum := "1d4224b17f127ad2a8fa7e223abe3ee771b4ac117132aa8bc90e31628811f4cd", func := "proteus/proteuslaw12.HeapPlays", spec := "heapPlays", inPlace := ["internal/abi.NoEscape"], unfollowed := true, recurses := true, apart := false }
def HeapPlaysSaid : Prop := heapPlaysRow.holds Tryz.pinned (OpenSpec.ofChange heapPlaysSpec)

/-- ITS FALSE NEIGHBOUR: 'it returns false'. Refute it at one input. -/
def heapPlaysWrong : ChangeSpec := { name := "heapPlays", fn := fun _ => fun
  | [d1, d2, d3] => { results := [.lit (.bool false)], args := [d1, d2, d3] }
  | _ => none }
def HeapPlaysWrongFalsely : Prop := heapPlaysRow.holds Tryz.pinned (OpenSpec.ofChange heapPlaysWrong)

/- THE SECOND FORM. 'bulk': how many values and letters a reading holds, each counted each time it is reached (what is shared counts as often as it is met; a slice's spare places count too). A statement '..UptoSaid' is the law's where the arguments, and the package variables that the reading takes, are together of bulk at most 1048576: NARROWER than '..Said'. Prove '..Said' where nothing that the law and all that it calls make is longer than what came in: it says more and counts as full. Else prove '..UptoSaid'. A law counts once. -/
mutual
def uptoBulk {H : Type} : DataW H → Nat
  | .lit (.string bytes) => bytes.length + 1
  | .lit _ => 1
  | .nil => 1
  | .ptr d => uptoBulk d + 1
  | .slice elems spare => uptoBulkAll elems + uptoBulkAll spare + 1
  | .agg parts => uptoBulkAll parts + 1
  | .iface _ d => uptoBulk d + 1
  | .map entries => uptoBulkEntries entries + 1
  | .held _ => 1
def uptoBulkAll {H : Type} : List (DataW H) → Nat
  | [] => 0
  | d :: r => uptoBulk d + uptoBulkAll r
def uptoBulkEntries {H : Type} : List (Lit × DataW H) → Nat
  | [] => 0
  | x :: r => uptoBulkEntry x + uptoBulkEntries r
def uptoBulkEntry {H : Type} : Lit × DataW H → Nat
  | (.string bytes, d) => bytes.length + uptoBulk d + 1
  | (_, d) => uptoBulk d + 1
 end
def uptoSmall : (H : Type) → List (DataW H) → Bool := fun _ ds => decide (uptoBulkAll ds ≤ 1048576)
def OpenSpec.upto (s : _root_.Go.ChangeSpec) : _root_.Go.OpenSpec := { _root_.Go.OpenSpec.ofChange s with cond := some uptoSmall }

/-- 'proteuslaw12.HeapChains', WHERE WHAT IT READS IS OF BULK AT MOST 1048576: true; the input reads as it did. -/
def heapChainsUptoRow : OpenClaim := { program := "ytakgfhdaimeafaagreat", sum := "1d4224b17f127ad2a8fa7e223abe3ee771b4ac117132aa8bc90e31628811f4cd", func := "proteus/proteuslaw12.HeapChains", spec := "heapChains", inPlace := ["internal/abi.NoEscape"], unfollowed := true, recurses := true, apart := false, narrowed := true }
def HeapChainsUptoSaid : Prop := heapChainsUptoRow.holds Tryz.pinned (OpenSpec.upto heapChainsSpec)

/-- 'proteuslaw12.HeapSets', WHERE WHAT IT READS IS OF BULK AT MOST 1048576: true; the input reads as it did. -/
def heapSetsUptoRow : OpenClaim := { program := "ytakgfhdaimeafaagreat", sum := "1d4224b17f127ad2a8fa7e223abe3ee771b4ac117132aa8bc90e31628811f4cd", func := "proteus/proteuslaw12.HeapSets", spec := "heapSets", inPlace := ["internal/abi.NoEscape"], unfollowed := true, recurses := true, apart := false, narrowed := true }
def HeapSetsUptoSaid : Prop := heapSetsUptoRow.holds Tryz.pinned (OpenSpec.upto heapSetsSpec)

/-- 'proteuslaw12.HeapShapes', WHERE WHAT IT READS IS OF BULK AT MOST 1048576: true; the input reads as it did. -/
def heapShapesUptoRow : OpenClaim := { program := "ytakgfhdaimeafaagreat", sum := "1d4224b17f127ad2a8fa7e223abe3ee771b4ac117132aa8bc90e31628811f4cd", func := "proteus/proteuslaw12.HeapShapes", spec := "heapShapes", inPlace := ["internal/abi.NoEscape"], unfollowed := true, recurses := true, apart := false, narrowed := true }
def HeapShapesUptoSaid : Prop := heapShapesUptoRow.holds Tryz.pinned (OpenSpec.upto heapShapesSpec)

/-- 'proteuslaw12.HeapPlays', WHERE WHAT IT READS IS OF BULK AT MOST 1048576: true; the input reads as it did. -/
def heapPlaysUptoRow : OpenClaim := { program := "ytakgfhdaimeafaagreat", sum := "1d4224b17f127ad2a8fa7e223abe3ee771b4ac117132aa8bc90e31628811f4cd", func := "proteus/proteuslaw12.HeapPlays", spec := "heapPlays", inPlace := ["internal/abi.NoEscape"], unfollowed := true, recurses := true, apart := false, narrowed := true }
def HeapPlaysUptoSaid : Prop := heapPlaysUptoRow.holds Tryz.pinned (OpenSpec.upto heapPlaysSpec)

end Rows
end Go.Proofs.YtakgfhdaimeafaaGreat
