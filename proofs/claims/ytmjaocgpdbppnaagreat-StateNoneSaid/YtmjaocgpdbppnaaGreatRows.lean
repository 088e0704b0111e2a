/-
  No cell of these rows narrows 'for every input' (looked for: loops, veiled, ifaces, maps, wideKeys, modest, calm, conditions, laid).
  DERIVED. THE GIVEN ROWS OF THIS SEAT. 4 by the template 'for every input the law returns true; each argument reads behind the call as it read before'; 0 by the template 'total and deterministic' (their statements: YtmjaocgpdbppnaaGreatTotals.lean).
  GIVEN WITH THE SEED: the statements are not yours to turn. If you find one false, say at which input.
  Laid BY PROGRAM, IN A SANDBOX (cutbox-rows.mjs): the forced cells as the released guide's own fill.sh prints them over the translation f689b9cedf1e200e… (all of the seat's roots in one cut). By AI agents, Wed Nov 11 2026. No macro, syntax, notation, axiom, sorry.
-/
import Derived.Test.YtmjaocgpdbppnaaGreatChecked
import GoSem.Claim
import GoSem.ClaimJoined
import GoSem.ClaimMapViews
import Derived.JoinedTies
import Derived.KernelRfl
namespace Go.Proofs.YtmjaocgpdbppnaaGreat
/- THE CELL 'sum', in the pinned program and in every row, IS THE sha256 OF THE DUMP (.gsa) THAT YtmjaocgpdbppnaaGreatProg.lean LOADS. Nothing in Lean hashes anything: it is a label: what it is worth is what the hold of that sum in a sandbox is worth. -/
noncomputable def Tryz.pinned : Pinned := { name := "ytmjaocgpdbppnaagreat", sum := "f689b9cedf1e200ee6f0bb5a08ef2cef07e0ca29c5f050083524d934728f7a20", checked := Tryz.checked }
namespace Rows
def none {H : Type} : Left H := { results := [], args := [] }

/-- 'proteuslaw13.WalkCuts': WHATEVER THE INPUT: true; the input reads as it did. -/
def walkCutsSpec : ChangeSpec := { name := "walkCuts", fn := fun _ => fun
  | [d1, d2] => { results := [.lit (.bool true)], args := [d1, d2] }
  | _ => none }
def walkCutsRow : OpenClaim := { program := "ytmjaocgpdbppnaagreat", sum := "f689b9cedf1e200ee6f0bb5a08ef2cef07e0ca29c5f050083524d934728f7a20", func := "proteus/proteuslaw13.WalkCuts", spec := "walkCuts", inPlace := ["internal/bytealg.abigen_runtime_cmpstring"], unfollowed := true, recurses := true, apart := false }
def WalkCutsSaid : Prop := walkCutsRow.holds Tryz.pinned (OpenSpec.ofChange walkCutsSpec)

/-- ITS FALSE NEIGHBOUR: 'it returns false'. Refute it at one input. -/
def walkCutsWrong : ChangeSpec := { name := "walkCuts", fn := fun _ => fun
  | [d1, d2] => { results := [.lit (.bool false)], args := [d1, d2] }
  | _ => none }
def WalkCutsWrongFalsely : Prop := walkCutsRow.holds Tryz.pinned (OpenSpec.ofChange walkCutsWrong)

/-- 'proteuslaw18.StateNone': WHATEVER THE INPUT: true; the input reads as it did. -/
def stateNoneSpec : ChangeSpec := { name := "stateNone", fn := fun _ => fun
  | [d] => { results := [.lit (.bool true)], args := [d] }
  | _ => none }
def stateNoneRow : OpenClaim := { program := "ytmjaocgpdbppnaagreat", sum := "f689b9cedf1e200ee6f0bb5a08ef2cef07e0ca29c5f050083524d934728f7a20", func := "proteus/proteuslaw18.StateNone", spec := "stateNone", inPlace := ["sync/atomic.LoadInt64", "sync/atomic.StoreInt64", "sync/atomic.AddInt64", "internal/abi.NoEscape"], unfollowed := true, recurses := true, apart := false }
def StateNoneSaid : Prop := stateNoneRow.holds Tryz.pinned (OpenSpec.ofChange stateNoneSpec)

/-- ITS FALSE NEIGHBOUR: 'it returns false'. Refute it at one input. -/
def stateNoneWrong : ChangeSpec := { name := "stateNone", fn := fun _ => fun
  | [d] => { results := [.lit (.bool false)], args := [d] }
  | _ => none }
def StateNoneWrongFalsely : Prop := stateNoneRow.holds Tryz.pinned (OpenSpec.ofChange stateNoneWrong)

/-- 'proteuslaw19.BaseNone': WHATEVER THE INPUT: true; the input reads as it did. -/
def baseNoneSpec : ChangeSpec := { name := "baseNone", fn := fun _ => fun
  | [d] => { results := [.lit (.bool true)], args := [d] }
  | _ => none }
def baseNoneRow : OpenClaim := { program := "ytmjaocgpdbppnaagreat", sum := "f689b9cedf1e200ee6f0bb5a08ef2cef07e0ca29c5f050083524d934728f7a20", func := "proteus/proteuslaw19.BaseNone", spec := "baseNone", inPlace := ["sync/atomic.LoadInt64", "sync/atomic.StoreInt64", "sync/atomic.AddInt64", "internal/bytealg.abigen_runtime_cmpstring", "internal/abi.NoEscape"], unfollowed := true, recurses := true, apart := false }
def BaseNoneSaid : Prop := baseNoneRow.holds Tryz.pinned (OpenSpec.ofChange baseNoneSpec)

/-- ITS FALSE NEIGHBOUR: 'it returns false'. Refute it at one input. -/
def baseNoneWrong : ChangeSpec := { name := "baseNone", fn := fun _ => fun
  | [d] => { results := [.lit (.bool false)], args := [d] }
  | _ => none }
def BaseNoneWrongFalsely : Prop := baseNoneRow.holds Tryz.pinned (OpenSpec.ofChange baseNoneWrong)

/-- 'proteuslaw23.ExecNone': WHATEVER THE INPUT: true; the input reads as it did. -/
def execNoneSpec : ChangeSpec := { name := "execNone", fn := fun _ => fun
  | [d] => { results := [.lit (.bool true)], args := [d] }
  | _ => none }
def execNoneRow : OpenClaim := { program := "ytmjaocgpdbppnaagreat", sum := "f689b9cedf1e200ee6f0bb5a08ef2cef07e0ca29c5f050083524d934728f7a20", func := "proteus/proteuslaw23.ExecNone", spec := "execNone", inPlace := ["sync/atomic.LoadInt64", "sync/atomic.StoreInt64", "sync/atomic.AddInt64", "internal/bytealg.abigen_runtime_cmpstring"], unfollowed := true, recurses := true, apart := false }
def ExecNoneSaid : Prop := execNoneRow.holds Tryz.pinned (OpenSpec.ofChange execNoneSpec)

/-- ITS FALSE NEIGHBOUR: 'it returns false'. Refute it at one input. -/
def execNoneWrong : ChangeSpec := { name := "execNone", fn := fun _ => fun
  | [d] => { results := [.lit (.bool false)], args := [d] }
  | _ => none }
def ExecNoneWrongFalsely : Prop := execNoneRow.holds Tryz.pinned (OpenSpec.ofChange execNoneWrong)

/- THE SECOND FORM. 'bulk': how many values and letters a reading holds, each counted each time it is reached (what is shared counts as often as it is met; a slice's spare places count too). A statement '..UptoSaid' is the law's where the arguments, and the package variables that the reading takes, are together of bulk at most 1048576: NARROWER than '..Said'. Prove '..Said' where nothing that the law and all that it calls make is longer than what came in: it says more and counts as full. Else prove '..UptoSaid'. A law counts once. -/
mutual
def uptoBulk {H : Type} : DataW H → Nat
  | .lit (.string bytes) => bytes.length + 1
  | .lit _ => 1
  | .nil => 1
  | .ptr d => uptoBulk d + 1
  | .slice elems spare => uptoBulkAll elems + uptoBulkAll spare + 1
  | .agg parts => uptoBulkAll parts + 1
  | .iface _ d => uptoBulk d + 1
  | .map entries => uptoBulkEntries entries + 1
  | .held _ => 1
def uptoBulkAll {H : Type} : List (DataW H) → Nat
  | [] => 0
  | d :: r => uptoBulk d + uptoBulkAll r
def uptoBulkEntries {H : Type} : List (Lit × DataW H) → Nat
  | [] => 0
  | x :: r => uptoBulkEntry x + uptoBulkEntries r
def uptoBulkEntry {H : Type} : Lit × DataW H → Nat
  | (.string bytes, d) => bytes.length + uptoBulk d + 1
  | (_, d) => uptoBulk d + 1
 end
def uptoSmall : (H : Type) → List (DataW H) → Bool := fun _ ds => decide (uptoBulkAll ds ≤ 1048576)
def OpenSpec.upto (s : _root_.Go.ChangeSpec) : _root_.Go.OpenSpec := { _root_.Go.OpenSpec.ofChange s with cond := some uptoSmall }

/-- 'proteuslaw13.WalkCuts', WHERE WHAT IT READS IS OF BULK AT MOST 1048576: true; the input reads as it did. -/
def walkCutsUptoRow : OpenClaim := { program := "ytmjaocgpdbppnaagreat", sum := "f689b9cedf1e200ee6f0bb5a08ef2cef07e0ca29c5f050083524d934728f7a20", func := "proteus/proteuslaw13.WalkCuts", spec := "walkCuts", inPlace := ["internal/bytealg.abigen_runtime_cmpstring"], unfollowed := true, recurses := true, apart := false, narrowed := true }
def WalkCutsUptoSaid : Prop := walkCutsUptoRow.holds Tryz.pinned (OpenSpec.upto walkCutsSpec)

/-- 'proteuslaw18.StateNone', WHERE WHAT IT READS IS OF BULK AT MOST 1048576: true; the input reads as it did. -/
def stateNoneUptoRow : OpenClaim := { program := "ytmjaocgpdbppnaagreat", sum := "f689b9cedf1e200ee6f0bb5a08ef2cef07e0ca29c5f050083524d934728f7a20", func := "proteus/proteuslaw18.StateNone", spec := "stateNone", inPlace := ["sync/atomic.LoadInt64", "sync/atomic.StoreInt64", "sync/atomic.AddInt64", "internal/abi.NoEscape"], unfollowed := true, recurses := true, apart := false, narrowed := true }
def StateNoneUptoSaid : Prop := stateNoneUptoRow.holds Tryz.pinned (OpenSpec.upto stateNoneSpec)

/-- 'proteuslaw19.BaseNone', WHERE WHAT IT READS IS OF BULK AT MOST 1048576: true; the input reads as it did. -/
def baseNoneUptoRow : OpenClaim := { program := "ytmjaocgpdbppnaagreat", sum := "f689b9cedf1e200ee6f0bb5a08ef2cef07e0ca29c5f050083524d934728f7a20", func := "proteus/proteuslaw19.BaseNone", spec := "baseNone", inPlace := ["sync/atomic.LoadInt64", "sync/atomic.StoreInt64", "sync/atomic.AddInt64", "internal/bytealg.abigen_runtime_cmpstring", "internal/abi.NoEscape"], unfollowed := true, recurses := true, apart := false, narrowed := true }
def BaseNoneUptoSaid : Prop := baseNoneUptoRow.holds Tryz.pinned (OpenSpec.upto baseNoneSpec)

/-- 'proteuslaw23.ExecNone', WHERE WHAT IT READS IS OF BULK AT MOST 1048576: true; the input reads as it did. -/
def execNoneUptoRow : OpenClaim := { program := "ytmjaocgpdbppnaagreat", sum := "f689b9cedf1e200ee6f0bb5a08ef2cef07e0ca29c5f050083524d934728f7a20", func := "proteus/proteuslaw23.ExecNone", spec := "execNone", inPlace := ["sync/atomic.LoadInt64", "sync/atomic.StoreInt64", "sync/atomic.AddInt64", "internal/bytealg.abigen_runtime_cmpstring"], unfollowed := true, recurses := true, apart := false, narrowed := true }
def ExecNoneUptoSaid : Prop := execNoneUptoRow.holds Tryz.pinned (OpenSpec.upto execNoneSpec)

end Rows
end Go.Proofs.YtmjaocgpdbppnaaGreat
