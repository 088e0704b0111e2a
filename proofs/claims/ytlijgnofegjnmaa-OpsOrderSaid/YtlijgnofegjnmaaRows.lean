/-
  No cell of these rows narrows 'for every input' (looked for: loops, veiled, ifaces, maps, wideKeys, modest, calm, conditions, laid).
  DERIVED. THE GIVEN ROWS OF THIS SEAT. 7 by the template 'for every input the law returns true; each argument reads behind the call as it read before'; 0 by the template 'total and deterministic' (their statements: YtlijgnofegjnmaaTotals.lean).
  GIVEN WITH THE SEED: the statements are not yours to turn. If you find one false, say at which input.
  Laid BY PROGRAM, IN A SANDBOX (cutbox-rows.mjs): the forced cells as the released guide's own fill.sh prints them over the translation a60f7b00ac820390… (all of the seat's roots in one cut). By AI agents, Wed Nov 11 2026. No macro, syntax, notation, axiom, sorry.
-/
import Derived.Test.YtlijgnofegjnmaaChecked
import GoSem.Claim
import GoSem.ClaimJoined
import GoSem.ClaimMapViews
import Derived.JoinedTies
import Derived.KernelRfl
namespace Go.Proofs.Ytlijgnofegjnmaa
/- THE CELL 'sum', in the pinned program and in every row, IS THE sha256 OF THE DUMP (.gsa) THAT YtlijgnofegjnmaaProg.lean LOADS. Nothing in Lean hashes anything: it is a label: what it is worth is what the hold of that sum in a sandbox is worth. -/
noncomputable def Try.pinned : Pinned := { name := "ytlijgnofegjnmaa", sum := "a60f7b00ac820390b7b59ed6df12b8b4d131b43b590c9032631343958c5d9289", checked := Try.checked }
namespace Rows
def none {H : Type} : Left H := { results := [], args := [] }

/-- 'proteuslaw04.OpsBin': WHATEVER THE INPUT: true; the input reads as it did. -/
def opsBinSpec : ChangeSpec := { name := "opsBin", fn := fun _ => fun
  | [d1, d2, d3] => { results := [.lit (.bool true)], args := [d1, d2, d3] }
  | _ => none }
def opsBinRow : OpenClaim := { program := "ytlijgnofegjnmaa", sum := "a60f7b00ac820390b7b59ed6df12b8b4d131b43b590c9032631343958c5d9289", func := "proteus/proteuslaw04.OpsBin", spec := "opsBin", inPlace := ["internal/bytealg.abigen_runtime_cmpstring"], apart := false }
def OpsBinSaid : Prop := opsBinRow.holds Try.pinned (OpenSpec.ofChange opsBinSpec)

/-- ITS FALSE NEIGHBOUR: 'it returns false'. Refute it at one input. -/
def opsBinWrong : ChangeSpec := { name := "opsBin", fn := fun _ => fun
  | [d1, d2, d3] => { results := [.lit (.bool false)], args := [d1, d2, d3] }
  | _ => none }
def OpsBinWrongFalsely : Prop := opsBinRow.holds Try.pinned (OpenSpec.ofChange opsBinWrong)

/-- 'proteuslaw04.OpsOrder': WHATEVER THE INPUT: true; the input reads as it did. -/
def opsOrderSpec : ChangeSpec := { name := "opsOrder", fn := fun _ => fun
  | [d1, d2] => { results := [.lit (.bool true)], args := [d1, d2] }
  | _ => none }
def opsOrderRow : OpenClaim := { program := "ytlijgnofegjnmaa", sum := "a60f7b00ac820390b7b59ed6df12b8b4d131b43b590c9032631343958c5d9289", func := "proteus/proteuslaw04.OpsOrder", spec := "opsOrder", inPlace := ["internal/bytealg.abigen_runtime_cmpstring"], apart := false }
def OpsOrderSaid : Prop := opsOrderRow.holds Try.pinned (OpenSpec.ofChange opsOrderSpec)

/-- ITS FALSE NEIGHBOUR: 'it returns false'. Refute it at one input. -/
def opsOrderWrong : ChangeSpec := { name := "opsOrder", fn := fun _ => fun
  | [d1, d2] => { results := [.lit (.bool false)], args := [d1, d2] }
  | _ => none }
def OpsOrderWrongFalsely : Prop := opsOrderRow.holds Try.pinned (OpenSpec.ofChange opsOrderWrong)

/-- 'proteuslaw03.ValueShows': WHATEVER THE INPUT: true; the input reads as it did. -/
def valueShowsSpec : ChangeSpec := { name := "valueShows", fn := fun _ => fun
  | [d] => { results := [.lit (.bool true)], args := [d] }
  | _ => none }
def valueShowsRow : OpenClaim := { program := "ytlijgnofegjnmaa", sum := "a60f7b00ac820390b7b59ed6df12b8b4d131b43b590c9032631343958c5d9289", func := "proteus/proteuslaw03.ValueShows", spec := "valueShows", inPlace := ["internal/abi.NoEscape"], apart := false }
def ValueShowsSaid : Prop := valueShowsRow.holds Try.pinned (OpenSpec.ofChange valueShowsSpec)

/-- ITS FALSE NEIGHBOUR: 'it returns false'. Refute it at one input. -/
def valueShowsWrong : ChangeSpec := { name := "valueShows", fn := fun _ => fun
  | [d] => { results := [.lit (.bool false)], args := [d] }
  | _ => none }
def ValueShowsWrongFalsely : Prop := valueShowsRow.holds Try.pinned (OpenSpec.ofChange valueShowsWrong)

/-- 'proteuslaw03.ValueApart': WHATEVER THE INPUT: true; the input reads as it did. -/
def valueApartSpec : ChangeSpec := { name := "valueApart", fn := fun _ => fun
  | [d1, d2] => { results := [.lit (.bool true)], args := [d1, d2] }
  | _ => none }
def valueApartRow : OpenClaim := { program := "ytlijgnofegjnmaa", sum := "a60f7b00ac820390b7b59ed6df12b8b4d131b43b590c9032631343958c5d9289", func := "proteus/proteuslaw03.ValueApart", spec := "valueApart", inPlace := ["internal/abi.NoEscape"], apart := false }
def ValueApartSaid : Prop := valueApartRow.holds Try.pinned (OpenSpec.ofChange valueApartSpec)

/-- ITS FALSE NEIGHBOUR: 'it returns false'. Refute it at one input. -/
def valueApartWrong : ChangeSpec := { name := "valueApart", fn := fun _ => fun
  | [d1, d2] => { results := [.lit (.bool false)], args := [d1, d2] }
  | _ => none }
def ValueApartWrongFalsely : Prop := valueApartRow.holds Try.pinned (OpenSpec.ofChange valueApartWrong)

/-- 'proteuslaw04.OpsSigns': WHATEVER THE INPUT: true; the input reads as it did. -/
def opsSignsSpec : ChangeSpec := { name := "opsSigns", fn := fun _ => fun
  | [d1, d2, d3] => { results := [.lit (.bool true)], args := [d1, d2, d3] }
  | _ => none }
def opsSignsRow : OpenClaim := { program := "ytlijgnofegjnmaa", sum := "a60f7b00ac820390b7b59ed6df12b8b4d131b43b590c9032631343958c5d9289", func := "proteus/proteuslaw04.OpsSigns", spec := "opsSigns", inPlace := ["internal/bytealg.abigen_runtime_cmpstring"], apart := false }
def OpsSignsSaid : Prop := opsSignsRow.holds Try.pinned (OpenSpec.ofChange opsSignsSpec)

/-- ITS FALSE NEIGHBOUR: 'it returns false'. Refute it at one input. -/
def opsSignsWrong : ChangeSpec := { name := "opsSigns", fn := fun _ => fun
  | [d1, d2, d3] => { results := [.lit (.bool false)], args := [d1, d2, d3] }
  | _ => none }
def OpsSignsWrongFalsely : Prop := opsSignsRow.holds Try.pinned (OpenSpec.ofChange opsSignsWrong)

/-- 'proteuslaw04.OpsUn': WHATEVER THE INPUT: true; the input reads as it did. -/
def opsUnSpec : ChangeSpec := { name := "opsUn", fn := fun _ => fun
  | [d1, d2, d3] => { results := [.lit (.bool true)], args := [d1, d2, d3] }
  | _ => none }
def opsUnRow : OpenClaim := { program := "ytlijgnofegjnmaa", sum := "a60f7b00ac820390b7b59ed6df12b8b4d131b43b590c9032631343958c5d9289", func := "proteus/proteuslaw04.OpsUn", spec := "opsUn", inPlace := ["internal/bytealg.abigen_runtime_cmpstring"], apart := false }
def OpsUnSaid : Prop := opsUnRow.holds Try.pinned (OpenSpec.ofChange opsUnSpec)

/-- ITS FALSE NEIGHBOUR: 'it returns false'. Refute it at one input. -/
def opsUnWrong : ChangeSpec := { name := "opsUn", fn := fun _ => fun
  | [d1, d2, d3] => { results := [.lit (.bool false)], args := [d1, d2, d3] }
  | _ => none }
def OpsUnWrongFalsely : Prop := opsUnRow.holds Try.pinned (OpenSpec.ofChange opsUnWrong)

/-- 'proteuslaw04.OpsRight': WHATEVER THE INPUT: true; the input reads as it did. -/
def opsRightSpec : ChangeSpec := { name := "opsRight", fn := fun _ => fun
  | [d1, d2, d3] => { results := [.lit (.bool true)], args := [d1, d2, d3] }
  | _ => none }
def opsRightRow : OpenClaim := { program := "ytlijgnofegjnmaa", sum := "a60f7b00ac820390b7b59ed6df12b8b4d131b43b590c9032631343958c5d9289", func := "proteus/proteuslaw04.OpsRight", spec := "opsRight", inPlace := ["internal/bytealg.abigen_runtime_cmpstring"], apart := false }
def OpsRightSaid : Prop := opsRightRow.holds Try.pinned (OpenSpec.ofChange opsRightSpec)

/-- ITS FALSE NEIGHBOUR: 'it returns false'. Refute it at one input. -/
def opsRightWrong : ChangeSpec := { name := "opsRight", fn := fun _ => fun
  | [d1, d2, d3] => { results := [.lit (.bool false)], args := [d1, d2, d3] }
  | _ => none }
def OpsRightWrongFalsely : Prop := opsRightRow.holds Try.pinned (OpenSpec.ofChange opsRightWrong)

/- THE SECOND FORM. 'bulk': how many values and letters a reading holds, each counted each time it is reached (what is shared counts as often as it is met; a slice's spare places count too). A statement '..UptoSaid' is the law's where the arguments, and the package variables that the reading takes, are together of bulk at most 1048576: NARROWER than '..Said'. Prove '..Said' where nothing that the law and all that it calls make is longer than what came in: it says more and counts as full. Else prove '..UptoSaid'. A law counts once. -/
mutual
def uptoBulk {H : Type} : DataW H → Nat
  | .lit (.string bytes) => bytes.length + 1
  | .lit _ => 1
  | .nil => 1
  | .ptr d => uptoBulk d + 1
  | .slice elems spare => uptoBulkAll elems + uptoBulkAll spare + 1
  | .agg parts => uptoBulkAll parts + 1
  | .iface _ d => uptoBulk d + 1
  | .map entries => uptoBulkEntries entries + 1
  | .held _ => 1
def uptoBulkAll {H : Type} : List (DataW H) → Nat
  | [] => 0
  | d :: r => uptoBulk d + uptoBulkAll r
def uptoBulkEntries {H : Type} : List (Lit × DataW H) → Nat
  | [] => 0
  | x :: r => uptoBulkEntry x + uptoBulkEntries r
def uptoBulkEntry {H : Type} : Lit × DataW H → Nat
  | (.string bytes, d) => bytes.length + uptoBulk d + 1
  | (_, d) => uptoBulk d + 1
 end
def uptoSmall : (H : Type) → List (DataW H) → Bool := fun _ ds => decide (uptoBulkAll ds ≤ 1048576)
def OpenSpec.upto (s : _root_.Go.ChangeSpec) : _root_.Go.OpenSpec := { _root_.Go.OpenSpec.ofChange s with cond := some uptoSmall }

/-- 'proteuslaw04.OpsBin', WHERE WHAT IT READS IS OF BULK AT MOST 1048576: true; the input reads as it did. -/
def opsBinUptoRow : OpenClaim := { program := "ytlijgnofegjnmaa", sum := "a60f7b00ac820390b7b59ed6df12b8b4d131b43b590c9032631343958c5d9289", func := "proteus/proteuslaw04.OpsBin", spec := "opsBin", inPlace := ["internal/bytealg.abigen_runtime_cmpstring"], apart := false, narrowed := true }
def OpsBinUptoSaid : Prop := opsBinUptoRow.holds Try.pinned (OpenSpec.upto opsBinSpec)

/-- 'proteuslaw04.OpsOrder', WHERE WHAT IT READS IS OF BULK AT MOST 1048576: true; the input reads as it did. -/
def opsOrderUptoRow : OpenClaim := { program := "ytlijgnofegjnmaa", sum := "a60f7b00ac820390b7b59ed6df12b8b4d131b43b590c9032631343958c5d9289", func := "proteus/proteuslaw04.OpsOrder", spec := "opsOrder", inPlace := ["internal/bytealg.abigen_runtime_cmpstring"], apart := false, narrowed := true }
def OpsOrderUptoSaid : Prop := opsOrderUptoRow.holds Try.pinned (OpenSpec.upto opsOrderSpec)

/-- 'proteuslaw03.ValueShows', WHERE WHAT IT READS IS OF BULK AT MOST 1048576: true; the input reads as it did. -/
def valueShowsUptoRow : OpenClaim := { program := "ytlijgnofegjnmaa", sum := "a60f7b00ac820390b7b59ed6df12b8b4d131b43b590c9032631343958c5d9289", func := "proteus/proteuslaw03.ValueShows", spec := "valueShows", inPlace := ["internal/abi.NoEscape"], apart := false, narrowed := true }
def ValueShowsUptoSaid : Prop := valueShowsUptoRow.holds Try.pinned (OpenSpec.upto valueShowsSpec)

/-- 'proteuslaw03.ValueApart', WHERE WHAT IT READS IS OF BULK AT MOST 1048576: true; the input reads as it did. -/
def valueApartUptoRow : OpenClaim := { program := "ytlijgnofegjnmaa", sum := "a60f7b00ac820390b7b59ed6df12b8b4d131b43b590c9032631343958c5d9289", func := "proteus/proteuslaw03.ValueApart", spec := "valueApart", inPlace := ["internal/abi.NoEscape"], apart := false, narrowed := true }
def ValueApartUptoSaid : Prop := valueApartUptoRow.holds Try.pinned (OpenSpec.upto valueApartSpec)

/-- 'proteuslaw04.OpsSigns', WHERE WHAT IT READS IS OF BULK AT MOST 1048576: true; the input reads as it did. -/
def opsSignsUptoRow : OpenClaim := { program := "ytlijgnofegjnmaa", sum := "a60f7b00ac820390b7b59ed6df12b8b4d131b43b590c9032631343958c5d9289", func := "proteus/proteuslaw04.OpsSigns", spec := "opsSigns", inPlace := ["internal/bytealg.abigen_runtime_cmpstring"], apart := false, narrowed := true }
def OpsSignsUptoSaid : Prop := opsSignsUptoRow.holds Try.pinned (OpenSpec.upto opsSignsSpec)

/-- 'proteuslaw04.OpsUn', WHERE WHAT IT READS IS OF BULK AT MOST 1048576: true; the input reads as it did. -/
def opsUnUptoRow : OpenClaim := { program := "ytlijgnofegjnmaa", sum := "a60f7b00ac820390b7b59ed6df12b8b4d131b43b590c9032631343958c5d9289", func := "proteus/proteuslaw04.OpsUn", spec := "opsUn", inPlace := ["internal/bytealg.abigen_runtime_cmpstring"], apart := false, narrowed := true }
def OpsUnUptoSaid : Prop := opsUnUptoRow.holds Try.pinned (OpenSpec.upto opsUnSpec)

/-- 'proteuslaw04.OpsRight', WHERE WHAT IT READS IS OF BULK AT MOST 1048576: true; the input reads as it did. -/
def opsRightUptoRow : OpenClaim := { program := "ytlijgnofegjnmaa", sum := "a60f7b00ac820390b7b59ed6df12b8b4d131b43b590c9032631343958c5d9289", func := "proteus/proteuslaw04.OpsRight", spec := "opsRight", inPlace := ["internal/bytealg.abigen_runtime_cmpstring"], apart := false, narrowed := true }
def OpsRightUptoSaid : Prop := opsRightUptoRow.holds Try.pinned (OpenSpec.upto opsRightSpec)

end Rows
end Go.Proofs.Ytlijgnofegjnmaa
