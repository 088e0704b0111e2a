/-
  No cell of these rows narrows 'for every input' (looked for: loops, veiled, ifaces, maps, wideKeys, modest, calm, conditions, laid).
  DERIVED. THE GIVEN ROWS OF THIS SEAT. 12 by the template 'for every input the law returns true; each argument reads behind the call as it read before'; 0 by the template 'total and deterministic' (their statements: YtiachndgldjbfaaTotals.lean).
  GIVEN WITH THE SEED: the statements are not yours to turn. If you find one false, say at which input.
  Laid BY PROGRAM, IN A SANDBOX (cutbox-rows.mjs): the forced cells as the released guide's own fill.sh prints them over the translation a9d80b3e94cc5b3b… (all of the seat's roots in one cut). By AI agents, Wed Nov 11 2026. No macro, syntax, notation, axiom, sorry.
-/
import Derived.Test.YtiachndgldjbfaaChecked
import GoSem.Claim
import GoSem.ClaimJoined
import GoSem.ClaimMapViews
import Derived.JoinedTies
import Derived.KernelRfl
namespace Go.Proofs.Ytiachndgldjbfaa
/- THE CELL 'sum', in the pinned program and in every row, IS THE sha256 OF THE DUMP (.gsa) THAT YtiachndgldjbfaaProg.lean LOADS. Nothing in Lean hashes anything: it is a label: what it is worth is what the hold of that sum in a sandbox is worth. -/
noncomputable def Try.pinned : Pinned := { name := "ytiachndgldjbfaa", sum := "a9d80b3e94cc5b3b5070c0177bd0aaa5ad4432914307902c8cd83c4090c32936", checked := Try.checked }
namespace Rows
def none {H : Type} : Left H := { results := [], args := [] }

/-- 'proteuslaw10.NamesPlay': WHATEVER THE INPUT: true; the input reads as it did. -/
def namesPlaySpec : ChangeSpec := { name := "namesPlay", fn := fun _ => fun
  | [d1, d2] => { results := [.lit (.bool true)], args := [d1, d2] }
  | _ => none }
def namesPlayRow : OpenClaim := { program := "ytiachndgldjbfaa", sum := "a9d80b3e94cc5b3b5070c0177bd0aaa5ad4432914307902c8cd83c4090c32936", func := "proteus/proteuslaw10.NamesPlay", spec := "namesPlay", apart := false }
def NamesPlaySaid : Prop := namesPlayRow.holds Try.pinned (OpenSpec.ofChange namesPlaySpec)

/-- ITS FALSE NEIGHBOUR: 'it returns false'. Refute it at one input. -/
def namesPlayWrong : ChangeSpec := { name := "namesPlay", fn := fun _ => fun
  | [d1, d2] => { results := [.lit (.bool false)], args := [d1, d2] }
  | _ => none }
def NamesPlayWrongFalsely : Prop := namesPlayRow.holds Try.pinned (OpenSpec.ofChange namesPlayWrong)

/-- 'proteuslaw10.NamesApart': WHATEVER THE INPUT: true; the input reads as it did. -/
def namesApartSpec : ChangeSpec := { name := "namesApart", fn := fun _ => fun
  | [d1, d2, d3] => { results := [.lit (.bool true)], args := [d1, d2, d3] }
  | _ => none }
def namesApartRow : OpenClaim := { program := "ytiachndgldjbfaa", sum := "a9d80b3e94cc5b3b5070c0177bd0aaa5ad4432914307902c8cd83c4090c32936", func := "proteus/proteuslaw10.NamesApart", spec := "namesApart", apart := false }
def NamesApartSaid : Prop := namesApartRow.holds Try.pinned (OpenSpec.ofChange namesApartSpec)

/-- ITS FALSE NEIGHBOUR: 'it returns false'. Refute it at one input. -/
def namesApartWrong : ChangeSpec := { name := "namesApart", fn := fun _ => fun
  | [d1, d2, d3] => { results := [.lit (.bool false)], args := [d1, d2, d3] }
  | _ => none }
def NamesApartWrongFalsely : Prop := namesApartRow.holds Try.pinned (OpenSpec.ofChange namesApartWrong)

/-- 'proteuslaw10.NamesStay': WHATEVER THE INPUT: true; the input reads as it did. -/
def namesStaySpec : ChangeSpec := { name := "namesStay", fn := fun _ => fun
  | [d1, d2] => { results := [.lit (.bool true)], args := [d1, d2] }
  | _ => none }
def namesStayRow : OpenClaim := { program := "ytiachndgldjbfaa", sum := "a9d80b3e94cc5b3b5070c0177bd0aaa5ad4432914307902c8cd83c4090c32936", func := "proteus/proteuslaw10.NamesStay", spec := "namesStay", apart := false }
def NamesStaySaid : Prop := namesStayRow.holds Try.pinned (OpenSpec.ofChange namesStaySpec)

/-- ITS FALSE NEIGHBOUR: 'it returns false'. Refute it at one input. -/
def namesStayWrong : ChangeSpec := { name := "namesStay", fn := fun _ => fun
  | [d1, d2] => { results := [.lit (.bool false)], args := [d1, d2] }
  | _ => none }
def NamesStayWrongFalsely : Prop := namesStayRow.holds Try.pinned (OpenSpec.ofChange namesStayWrong)

/-- 'proteuslaw10.NamesNone': WHATEVER THE INPUT: true; the input reads as it did. -/
def namesNoneSpec : ChangeSpec := { name := "namesNone", fn := fun _ => fun
  | [d1, d2] => { results := [.lit (.bool true)], args := [d1, d2] }
  | _ => none }
def namesNoneRow : OpenClaim := { program := "ytiachndgldjbfaa", sum := "a9d80b3e94cc5b3b5070c0177bd0aaa5ad4432914307902c8cd83c4090c32936", func := "proteus/proteuslaw10.NamesNone", spec := "namesNone", apart := false }
def NamesNoneSaid : Prop := namesNoneRow.holds Try.pinned (OpenSpec.ofChange namesNoneSpec)

/-- ITS FALSE NEIGHBOUR: 'it returns false'. Refute it at one input. -/
def namesNoneWrong : ChangeSpec := { name := "namesNone", fn := fun _ => fun
  | [d1, d2] => { results := [.lit (.bool false)], args := [d1, d2] }
  | _ => none }
def NamesNoneWrongFalsely : Prop := namesNoneRow.holds Try.pinned (OpenSpec.ofChange namesNoneWrong)

/-- 'proteuslaw01.NumTexts': WHATEVER THE INPUT: true; the input reads as it did. -/
def numTextsSpec : ChangeSpec := { name := "numTexts", fn := fun _ => fun
  | [d1, d2] => { results := [.lit (.bool true)], args := [d1, d2] }
  | _ => none }
def numTextsRow : OpenClaim := { program := "ytiachndgldjbfaa", sum := "a9d80b3e94cc5b3b5070c0177bd0aaa5ad4432914307902c8cd83c4090c32936", func := "proteus/proteuslaw01.NumTexts", spec := "numTexts", unfollowed := true, recurses := true, apart := false }
def NumTextsSaid : Prop := numTextsRow.holds Try.pinned (OpenSpec.ofChange numTextsSpec)

/-- ITS FALSE NEIGHBOUR: 'it returns false'. Refute it at one input. -/
def numTextsWrong : ChangeSpec := { name := "numTexts", fn := fun _ => fun
  | [d1, d2] => { results := [.lit (.bool false)], args := [d1, d2] }
  | _ => none }
def NumTextsWrongFalsely : Prop := numTextsRow.holds Try.pinned (OpenSpec.ofChange numTextsWrong)

/-- 'proteuslaw01.NumBack': WHATEVER THE INPUT: true; the input reads as it did. -/
def numBackSpec : ChangeSpec := { name := "numBack", fn := fun _ => fun
  | [d] => { results := [.lit (.bool true)], args := [d] }
  | _ => none }
def numBackRow : OpenClaim := { program := "ytiachndgldjbfaa", sum := "a9d80b3e94cc5b3b5070c0177bd0aaa5ad4432914307902c8cd83c4090c32936", func := "proteus/proteuslaw01.NumBack", spec := "numBack", unfollowed := true, recurses := true, apart := false }
def NumBackSaid : Prop := numBackRow.holds Try.pinned (OpenSpec.ofChange numBackSpec)

/-- ITS FALSE NEIGHBOUR: 'it returns false'. Refute it at one input. -/
def numBackWrong : ChangeSpec := { name := "numBack", fn := fun _ => fun
  | [d] => { results := [.lit (.bool false)], args := [d] }
  | _ => none }
def NumBackWrongFalsely : Prop := numBackRow.holds Try.pinned (OpenSpec.ofChange numBackWrong)

/-- 'proteuslaw01.NumMath': WHATEVER THE INPUT: true; the input reads as it did. -/
def numMathSpec : ChangeSpec := { name := "numMath", fn := fun _ => fun
  | [d1, d2] => { results := [.lit (.bool true)], args := [d1, d2] }
  | _ => none }
def numMathRow : OpenClaim := { program := "ytiachndgldjbfaa", sum := "a9d80b3e94cc5b3b5070c0177bd0aaa5ad4432914307902c8cd83c4090c32936", func := "proteus/proteuslaw01.NumMath", spec := "numMath", unfollowed := true, recurses := true, apart := false }
def NumMathSaid : Prop := numMathRow.holds Try.pinned (OpenSpec.ofChange numMathSpec)

/-- ITS FALSE NEIGHBOUR: 'it returns false'. Refute it at one input. -/
def numMathWrong : ChangeSpec := { name := "numMath", fn := fun _ => fun
  | [d1, d2] => { results := [.lit (.bool false)], args := [d1, d2] }
  | _ => none }
def NumMathWrongFalsely : Prop := numMathRow.holds Try.pinned (OpenSpec.ofChange numMathWrong)

/-- 'proteuslaw01.NumRing': WHATEVER THE INPUT: true; the input reads as it did. -/
def numRingSpec : ChangeSpec := { name := "numRing", fn := fun _ => fun
  | [d1, d2, d3] => { results := [.lit (.bool true)], args := [d1, d2, d3] }
  | _ => none }
def numRingRow : OpenClaim := { program := "ytiachndgldjbfaa", sum := "a9d80b3e94cc5b3b5070c0177bd0aaa5ad4432914307902c8cd83c4090c32936", func := "proteus/proteuslaw01.NumRing", spec := "numRing", unfollowed := true, recurses := true, apart := false }
def NumRingSaid : Prop := numRingRow.holds Try.pinned (OpenSpec.ofChange numRingSpec)

/-- ITS FALSE NEIGHBOUR: 'it returns false'. Refute it at one input. -/
def numRingWrong : ChangeSpec := { name := "numRing", fn := fun _ => fun
  | [d1, d2, d3] => { results := [.lit (.bool false)], args := [d1, d2, d3] }
  | _ => none }
def NumRingWrongFalsely : Prop := numRingRow.holds Try.pinned (OpenSpec.ofChange numRingWrong)

/-- 'proteuslaw03.ValueTrue': WHATEVER THE INPUT: true; the input reads as it did. -/
def valueTrueSpec : ChangeSpec := { name := "valueTrue", fn := fun _ => fun
  | [d] => { results := [.lit (.bool true)], args := [d] }
  | _ => none }
def valueTrueRow : OpenClaim := { program := "ytiachndgldjbfaa", sum := "a9d80b3e94cc5b3b5070c0177bd0aaa5ad4432914307902c8cd83c4090c32936", func := "proteus/proteuslaw03.ValueTrue", spec := "valueTrue", apart := false }
def ValueTrueSaid : Prop := valueTrueRow.holds Try.pinned (OpenSpec.ofChange valueTrueSpec)

/-- ITS FALSE NEIGHBOUR: 'it returns false'. Refute it at one input. -/
def valueTrueWrong : ChangeSpec := { name := "valueTrue", fn := fun _ => fun
  | [d] => { results := [.lit (.bool false)], args := [d] }
  | _ => none }
def ValueTrueWrongFalsely : Prop := valueTrueRow.holds Try.pinned (OpenSpec.ofChange valueTrueWrong)

/-- 'proteuslaw01.NumDivides': WHATEVER THE INPUT: true; the input reads as it did. -/
def numDividesSpec : ChangeSpec := { name := "numDivides", fn := fun _ => fun
  | [d1, d2] => { results := [.lit (.bool true)], args := [d1, d2] }
  | _ => none }
def numDividesRow : OpenClaim := { program := "ytiachndgldjbfaa", sum := "a9d80b3e94cc5b3b5070c0177bd0aaa5ad4432914307902c8cd83c4090c32936", func := "proteus/proteuslaw01.NumDivides", spec := "numDivides", unfollowed := true, recurses := true, apart := false }
def NumDividesSaid : Prop := numDividesRow.holds Try.pinned (OpenSpec.ofChange numDividesSpec)

/-- ITS FALSE NEIGHBOUR: 'it returns false'. Refute it at one input. -/
def numDividesWrong : ChangeSpec := { name := "numDivides", fn := fun _ => fun
  | [d1, d2] => { results := [.lit (.bool false)], args := [d1, d2] }
  | _ => none }
def NumDividesWrongFalsely : Prop := numDividesRow.holds Try.pinned (OpenSpec.ofChange numDividesWrong)

/-- 'proteuslaw01.NumWraps': WHATEVER THE INPUT: true; the input reads as it did. -/
def numWrapsSpec : ChangeSpec := { name := "numWraps", fn := fun _ => fun
  | [d1, d2] => { results := [.lit (.bool true)], args := [d1, d2] }
  | _ => none }
def numWrapsRow : OpenClaim := { program := "ytiachndgldjbfaa", sum := "a9d80b3e94cc5b3b5070c0177bd0aaa5ad4432914307902c8cd83c4090c32936", func := "proteus/proteuslaw01.NumWraps", spec := "numWraps", unfollowed := true, recurses := true, apart := false }
def NumWrapsSaid : Prop := numWrapsRow.holds Try.pinned (OpenSpec.ofChange numWrapsSpec)

/-- ITS FALSE NEIGHBOUR: 'it returns false'. Refute it at one input. -/
def numWrapsWrong : ChangeSpec := { name := "numWraps", fn := fun _ => fun
  | [d1, d2] => { results := [.lit (.bool false)], args := [d1, d2] }
  | _ => none }
def NumWrapsWrongFalsely : Prop := numWrapsRow.holds Try.pinned (OpenSpec.ofChange numWrapsWrong)

/-- 'proteuslaw03.ValueTells': WHATEVER THE INPUT: true; the input reads as it did. -/
def valueTellsSpec : ChangeSpec := { name := "valueTells", fn := fun _ => fun
  | [d1, d2] => { results := [.lit (.bool true)], args := [d1, d2] }
  | _ => none }
def valueTellsRow : OpenClaim := { program := "ytiachndgldjbfaa", sum := "a9d80b3e94cc5b3b5070c0177bd0aaa5ad4432914307902c8cd83c4090c32936", func := "proteus/proteuslaw03.ValueTells", spec := "valueTells", apart := false }
def ValueTellsSaid : Prop := valueTellsRow.holds Try.pinned (OpenSpec.ofChange valueTellsSpec)

/-- ITS FALSE NEIGHBOUR: 'it returns false'. Refute it at one input. -/
def valueTellsWrong : ChangeSpec := { name := "valueTells", fn := fun _ => fun
  | [d1, d2] => { results := [.lit (.bool false)], args := [d1, d2] }
  | _ => none }
def ValueTellsWrongFalsely : Prop := valueTellsRow.holds Try.pinned (OpenSpec.ofChange valueTellsWrong)

/- THE SECOND FORM. 'bulk': how many values and letters a reading holds, each counted each time it is reached (what is shared counts as often as it is met; a slice's spare places count too). A statement '..UptoSaid' is the law's where the arguments, and the package variables that the reading takes, are together of bulk at most 1048576: NARROWER than '..Said'. Prove '..Said' where nothing that the law and all that it calls make is longer than what came in: it says more and counts as full. Else prove '..UptoSaid'. A law counts once. -/
mutual
def uptoBulk {H : Type} : DataW H → Nat
  | .lit (.string bytes) => bytes.length + 1
  | .lit _ => 1
  | .nil => 1
  | .ptr d => uptoBulk d + 1
  | .slice elems spare => uptoBulkAll elems + uptoBulkAll spare + 1
  | .agg parts => uptoBulkAll parts + 1
  | .iface _ d => uptoBulk d + 1
  | .map entries => uptoBulkEntries entries + 1
  | .held _ => 1
def uptoBulkAll {H : Type} : List (DataW H) → Nat
  | [] => 0
  | d :: r => uptoBulk d + uptoBulkAll r
def uptoBulkEntries {H : Type} : List (Lit × DataW H) → Nat
  | [] => 0
  | x :: r => uptoBulkEntry x + uptoBulkEntries r
def uptoBulkEntry {H : Type} : Lit × DataW H → Nat
  | (.string bytes, d) => bytes.length + uptoBulk d + 1
  | (_, d) => uptoBulk d + 1
 end
def uptoSmall : (H : Type) → List (DataW H) → Bool := fun _ ds => decide (uptoBulkAll ds ≤ 1048576)
def OpenSpec.upto (s : _root_.Go.ChangeSpec) : _root_.Go.OpenSpec := { _root_.Go.OpenSpec.ofChange s with cond := some uptoSmall }

/-- 'proteuslaw10.NamesPlay', WHERE WHAT IT READS IS OF BULK AT MOST 1048576: true; the input reads as it did. -/
def namesPlayUptoRow : OpenClaim := { program := "ytiachndgldjbfaa", sum := "a9d80b3e94cc5b3b5070c0177bd0aaa5ad4432914307902c8cd83c4090c32936", func := "proteus/proteuslaw10.NamesPlay", spec := "namesPlay", apart := false, narrowed := true }
def NamesPlayUptoSaid : Prop := namesPlayUptoRow.holds Try.pinned (OpenSpec.upto namesPlaySpec)

/-- 'proteuslaw10.NamesApart', WHERE WHAT IT READS IS OF BULK AT MOST 1048576: true; the input reads as it did. -/
def namesApartUptoRow : OpenClaim := { program := "ytiachndgldjbfaa", sum := "a9d80b3e94cc5b3b5070c0177bd0aaa5ad4432914307902c8cd83c4090c32936", func := "proteus/proteuslaw10.NamesApart", spec := "namesApart", apart := false, narrowed := true }
def NamesApartUptoSaid : Prop := namesApartUptoRow.holds Try.pinned (OpenSpec.upto namesApartSpec)

/-- 'proteuslaw10.NamesStay', WHERE WHAT IT READS IS OF BULK AT MOST 1048576: true; the input reads as it did. -/
def namesStayUptoRow : OpenClaim := { program := "ytiachndgldjbfaa", sum := "a9d80b3e94cc5b3b5070c0177bd0aaa5ad4432914307902c8cd83c4090c32936", func := "proteus/proteuslaw10.NamesStay", spec := "namesStay", apart := false, narrowed := true }
def NamesStayUptoSaid : Prop := namesStayUptoRow.holds Try.pinned (OpenSpec.upto namesStaySpec)

/-- 'proteuslaw10.NamesNone', WHERE WHAT IT READS IS OF BULK AT MOST 1048576: true; the input reads as it did. -/
def namesNoneUptoRow : OpenClaim := { program := "ytiachndgldjbfaa", sum := "a9d80b3e94cc5b3b5070c0177bd0aaa5ad4432914307902c8cd83c4090c32936", func := "proteus/proteuslaw10.NamesNone", spec := "namesNone", apart := false, narrowed := true }
def NamesNoneUptoSaid : Prop := namesNoneUptoRow.holds Try.pinned (OpenSpec.upto namesNoneSpec)

/-- 'proteuslaw01.NumTexts', WHERE WHAT IT READS IS OF BULK AT MOST 1048576: true; the input reads as it did. -/
def numTextsUptoRow : OpenClaim := { program := "ytiachndgldjbfaa", sum := "a9d80b3e94cc5b3b5070c0177bd0aaa5ad4432914307902c8cd83c4090c32936", func := "proteus/proteuslaw01.NumTexts", spec := "numTexts", unfollowed := true, recurses := true, apart := false, narrowed := true }
def NumTextsUptoSaid : Prop := numTextsUptoRow.holds Try.pinned (OpenSpec.upto numTextsSpec)

/-- 'proteuslaw01.NumBack', WHERE WHAT IT READS IS OF BULK AT MOST 1048576: true; the input reads as it did. -/
def numBackUptoRow : OpenClaim := { program := "ytiachndgldjbfaa", sum := "a9d80b3e94cc5b3b5070c0177bd0aaa5ad4432914307902c8cd83c4090c32936", func := "proteus/proteuslaw01.NumBack", spec := "numBack", unfollowed := true, recurses := true, apart := false, narrowed := true }
def NumBackUptoSaid : Prop := numBackUptoRow.holds Try.pinned (OpenSpec.upto numBackSpec)

/-- 'proteuslaw01.NumMath', WHERE WHAT IT READS IS OF BULK AT MOST 1048576: true; the input reads as it did. -/
def numMathUptoRow : OpenClaim := { program := "ytiachndgldjbfaa", sum := "a9d80b3e94cc5b3b5070c0177bd0aaa5ad4432914307902c8cd83c4090c32936", func := "proteus/proteuslaw01.NumMath", spec := "numMath", unfollowed := true, recurses := true, apart := false, narrowed := true }
def NumMathUptoSaid : Prop := numMathUptoRow.holds Try.pinned (OpenSpec.upto numMathSpec)

/-- 'proteuslaw01.NumRing', WHERE WHAT IT READS IS OF BULK AT MOST 1048576: true; the input reads as it did. -/
def numRingUptoRow : OpenClaim := { program := "ytiachndgldjbfaa", sum := "a9d80b3e94cc5b3b5070c0177bd0aaa5ad4432914307902c8cd83c4090c32936", func := "proteus/proteuslaw01.NumRing", spec := "numRing", unfollowed := true, recurses := true, apart := false, narrowed := true }
def NumRingUptoSaid : Prop := numRingUptoRow.holds Try.pinned (OpenSpec.upto numRingSpec)

/-- 'proteuslaw03.ValueTrue', WHERE WHAT IT READS IS OF BULK AT MOST 1048576: true; the input reads as it did. -/
def valueTrueUptoRow : OpenClaim := { program := "ytiachndgldjbfaa", sum := "a9d80b3e94cc5b3b5070c0177bd0aaa5ad4432914307902c8cd83c4090c32936", func := "proteus/proteuslaw03.ValueTrue", spec := "valueTrue", apart := false, narrowed := true }
def ValueTrueUptoSaid : Prop := valueTrueUptoRow.holds Try.pinned (OpenSpec.upto valueTrueSpec)

/-- 'proteuslaw01.NumDivides', WHERE WHAT IT READS IS OF BULK AT MOST 1048576: true; the input reads as it did. -/
def numDividesUptoRow : OpenClaim := { program := "ytiachndgldjbfaa", sum := "a9d80b3e94cc5b3b5070c0177bd0aaa5ad4432914307902c8cd83c4090c32936", func := "proteus/proteuslaw01.NumDivides", spec := "numDivides", unfollowed := true, recurses := true, apart := false, narrowed := true }
def NumDividesUptoSaid : Prop := numDividesUptoRow.holds Try.pinned (OpenSpec.upto numDividesSpec)

/-- 'proteuslaw01.NumWraps', WHERE WHAT IT READS IS OF BULK AT MOST 1048576: true; the input reads as it did. -/
def numWrapsUptoRow : OpenClaim := { program := "ytiachndgldjbfaa", sum := "a9d80b3e94cc5b3b5070c0177bd0aaa5ad4432914307902c8cd83c4090c32936", func := "proteus/proteuslaw01.NumWraps", spec := "numWraps", unfollowed := true, recurses := true, apart := false, narrowed := true }
def NumWrapsUptoSaid : Prop := numWrapsUptoRow.holds Try.pinned (OpenSpec.upto numWrapsSpec)

/-- 'proteuslaw03.ValueTells', WHERE WHAT IT READS IS OF BULK AT MOST 1048576: true; the input reads as it did. -/
def valueTellsUptoRow : OpenClaim := { program := "ytiachndgldjbfaa", sum := "a9d80b3e94cc5b3b5070c0177bd0aaa5ad4432914307902c8cd83c4090c32936", func := "proteus/proteuslaw03.ValueTells", spec := "valueTells", apart := false, narrowed := true }
def ValueTellsUptoSaid : Prop := valueTellsUptoRow.holds Try.pinned (OpenSpec.upto valueTellsSpec)

end Rows
end Go.Proofs.Ytiachndgldjbfaa
