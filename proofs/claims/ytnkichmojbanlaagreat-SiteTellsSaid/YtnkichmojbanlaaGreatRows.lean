/-
  No cell of these rows narrows 'for every input' (looked for: loops, veiled, ifaces, maps, wideKeys, modest, calm, conditions, laid).
  DERIVED. THE GIVEN ROWS OF THIS SEAT. 3 by the template 'for every input the law returns true; each argument reads behind the call as it read before'; 0 by the template 'total and deterministic' (their statements: YtnkichmojbanlaaGreatTotals.lean).
  GIVEN WITH THE SEED: the statements are not yours to turn. If you find one false, say at which input.
  Laid BY PROGRAM, IN A SANDBOX (cutbox-rows.mjs): the forced cells as the released guide's own fill.sh prints them over the translation f23a873061dd7af0… (all of the seat's roots in one cut). By AI agents, Wed Nov 11 2026. No macro, syntax, notation, axiom, sorry.
-/
import Derived.Test.YtnkichmojbanlaaGreatChecked
import GoSem.Claim
import GoSem.ClaimJoined
import GoSem.ClaimMapViews
import Derived.JoinedTies
import Derived.KernelRfl
namespace Go.Proofs.YtnkichmojbanlaaGreat
/- THE CELL 'sum', in the pinned program and in every row, IS THE sha256 OF THE DUMP (.gsa) THAT YtnkichmojbanlaaGreatProg.lean LOADS. Nothing in Lean hashes anything: it is a label: what it is worth is what the hold of that sum in a sandbox is worth. -/
noncomputable def Tryz.pinned : Pinned := { name := "ytnkichmojbanlaagreat", sum := "f23a873061dd7af0593a27d4dcad1794e9919f6029e0e7dc81619322451574b0", checked := Tryz.checked }
namespace Rows
def none {H : Type} : Left H := { results := [], args := [] }

/-- 'proteuslaw17.SiteTells': WHATEVER THE INPUT: true; the input reads as it did. -/
def siteTellsSpec : ChangeSpec := { name := "siteTells", fn := fun _ => fun
  | [d] => { results := [.lit (.bool true)], args := [d] }
  | _ => none }
def siteTellsRow : OpenClaim := { program := "ytnkichmojbanlaagreat", sum := "f23a873061dd7af0593a27d4dcad1794e9919f6029e0e7dc81619322451574b0", func := "proteus/proteuslaw17.SiteTells", spec := "siteTells", unfollowed := true, recurses := true, apart := false }
def SiteTellsSaid : Prop := siteTellsRow.holds Tryz.pinned (OpenSpec.ofChange siteTellsSpec)

/-- ITS FALSE NEIGHBOUR: 'it returns false'. Refute it at one input. -/
def siteTellsWrong : ChangeSpec := { name := "siteTells", fn := fun _ => fun
  | [d] => { results := [.lit (.bool false)], args := [d] }
  | _ => none }
def SiteTellsWrongFalsely : Prop := siteTellsRow.holds Tryz.pinned (OpenSpec.ofChange siteTellsWrong)

/-- 'proteuslaw17.SiteHides': WHATEVER THE INPUT: true; the input reads as it did. -/
def siteHidesSpec : ChangeSpec := { name := "siteHides", fn := fun _ => fun
  | [d1, d2, d3] => { results := [.lit (.bool true)], args := [d1, d2, d3] }
  | _ => none }
def siteHidesRow : OpenClaim := { program := "ytnkichmojbanlaagreat", sum := "f23a873061dd7af0593a27d4dcad1794e9919f6029e0e7dc81619322451574b0", func := "proteus/proteuslaw17.SiteHides", spec := "siteHides", inPlace := ["internal/abi.NoEscape"], unfollowed := true, recurses := true, apart := false }
def SiteHidesSaid : Prop := siteHidesRow.holds Tryz.pinned (OpenSpec.ofChange siteHidesSpec)

/-- ITS FALSE NEIGHBOUR: 'it returns false'. Refute it at one input. -/
def siteHidesWrong : ChangeSpec := { name := "siteHides", fn := fun _ => fun
  | [d1, d2, d3] => { results := [.lit (.bool false)], args := [d1, d2, d3] }
  | _ => none }
def SiteHidesWrongFalsely : Prop := siteHidesRow.holds Tryz.pinned (OpenSpec.ofChange siteHidesWrong)

/-- 'proteuslaw17.SitePlays': WHATEVER THE INPUT: true; the input reads as it did. -/
def sitePlaysSpec : ChangeSpec := { name := "sitePlays", fn := fun _ => fun
  | [d1, d2] => { results := [.lit (.bool true)], args := [d1, d2] }
  | _ => none }
def sitePlaysRow : OpenClaim := { program := "ytnkichmojbanlaagreat", sum := "f23a873061dd7af0593a27d4dcad1794e9919f6029e0e7dc81619322451574b0", func := "proteus/proteuslaw17.SitePlays", spec := "sitePlays", inPlace := ["internal/abi.NoEscape"], unfollowed := true, recurses := true, apart := false }
def SitePlaysSaid : Prop := sitePlaysRow.holds Tryz.pinned (OpenSpec.ofChange sitePlaysSpec)

/-- ITS FALSE NEIGHBOUR: 'it returns false'. Refute it at one input. -/
def sitePlaysWrong : ChangeSpec := { name := "sitePlays", fn := fun _ => fun
  | [d1, d2] => { results := [.lit (.bool false)], args := [d1, d2] }
  | _ => none }
def SitePlaysWrongFalsely : Prop := sitePlaysRow.holds Tryz.pinned (OpenSpec.ofChange sitePlaysWrong)

/- THE SECOND FORM. 'bulk': how many values and letters a reading holds, each counted each time it is reached (what is shared counts as often as it is met; a slice's spare places count too). A statement '..UptoSaid' is the law's where the arguments, and the package variables that the reading takes, are together of bulk at most 1048576: NARROWER than '..Said'. Prove '..Said' where nothing that the law and all that it calls make is longer than what came in: it says more and counts as full. Else prove '..UptoSaid'. A law counts once. -/
mutual
def uptoBulk {H : Type} : DataW H → Nat
  | .lit (.string bytes) => bytes.length + 1
  | .lit _ => 1
  | .nil => 1
  | .ptr d => uptoBulk d + 1
  | .slice elems spare => uptoBulkAll elems + uptoBulkAll spare + 1
  | .agg parts => uptoBulkAll parts + 1
  | .iface _ d => uptoBulk d + 1
  | .map entries => uptoBulkEntries entries + 1
  | .held _ => 1
def uptoBulkAll {H : Type} : List (DataW H) → Nat
  | [] => 0
  | d :: r => uptoBulk d + uptoBulkAll r
def uptoBulkEntries {H : Type} : List (Lit × DataW H) → Nat
  | [] => 0
  | x :: r => uptoBulkEntry x + uptoBulkEntries r
def uptoBulkEntry {H : Type} : Lit × DataW H → Nat
  | (.string bytes, d) => bytes.length + uptoBulk d + 1
  | (_, d) => uptoBulk d + 1
 end
def uptoSmall : (H : Type) → List (DataW H) → Bool := fun _ ds => decide (uptoBulkAll ds ≤ 1048576)
def OpenSpec.upto (s : _root_.Go.ChangeSpec) : _root_.Go.OpenSpec := { _root_.Go.OpenSpec.ofChange s with cond := some uptoSmall }

/-- 'proteuslaw17.SiteTells', WHERE WHAT IT READS IS OF BULK AT MOST 1048576: true; the input reads as it did. -/
def siteTellsUptoRow : OpenClaim := { program := "ytnkichmojbanlaagreat", sum := "f23a873061dd7af0593a27d4dcad1794e9919f6029e0e7dc81619322451574b0", func := "proteus/proteuslaw17.SiteTells", spec := "siteTells", unfollowed := true, recurses := true, apart := false, narrowed := true }
def SiteTellsUptoSaid : Prop := siteTellsUptoRow.holds Tryz.pinned (OpenSpec.upto siteTellsSpec)

/-- 'proteuslaw17.SiteHides', WHERE WHAT IT READS IS OF BULK AT MOST 1048576: true; the input reads as it did. -/
def siteHidesUptoRow : OpenClaim := { program := "ytnkichmojbanlaagreat", sum := "f23a873061dd7af0593a27d4dcad1794e9919f6029e0e7dc81619322451574b0", func := "proteus/proteuslaw17.SiteHides", spec := "siteHides", inPlace := ["internal/abi.NoEscape"], unfollowed := true, recurses := true, apart := false, narrowed := true }
def SiteHidesUptoSaid : Prop := siteHidesUptoRow.holds Tryz.pinned (OpenSpec.upto siteHidesSpec)

/-- 'proteuslaw17.SitePlays', WHERE WHAT IT READS IS OF BULK AT MOST 1048576: true; the input reads as it did. -/
def sitePlaysUptoRow : OpenClaim := { program := "ytnkichmojbanlaagreat", sum := "f23a873061dd7af0593a27d4dcad1794e9919f6029e0e7dc81619322451574b0", func := "proteus/proteuslaw17.SitePlays", spec := "sitePlays", inPlace := ["internal/abi.NoEscape"], unfollowed := true, recurses := true, apart := false, narrowed := true }
def SitePlaysUptoSaid : Prop := sitePlaysUptoRow.holds Tryz.pinned (OpenSpec.upto sitePlaysSpec)

end Rows
end Go.Proofs.YtnkichmojbanlaaGreat
