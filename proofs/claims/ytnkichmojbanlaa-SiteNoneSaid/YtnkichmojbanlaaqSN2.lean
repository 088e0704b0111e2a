/- Sites that are not there: the law's walk over its arguments. A lemma file: no statement of its own. -/
import Derived.Test.YtnkichmojbanlaaqSN1
set_option linter.unusedSimpArgs false
set_option linter.unusedVariables false
set_option linter.unusedSectionVars false
namespace Go.Proofs.Try
open Go.Cs
open Go.RowKit (Below)
set_option maxRecDepth 100000
theorem siteNone_walk {f g : Int} {A us : List A17D} {cp : Nat} {oi : Option BI} {ad : Nat → Option Addr} {v : Value} {w : World} (hr : ∀ ρ, QIn ρ w oi (us.flatMap act17C)) (hv : ∀ (ρ : Ren) j, ρ j = oi → VRel ρ (.slice (ad j) A.length cp) v) (hok : ∀ a ∈ A, Act17Ok a) (ht : A = [] ∨ (ad = fun j => some ⟨j, 0, none⟩) ∧ ∀ k, k < A.length → us[k]? = A[k]?) (hl : A.length ≤ 9223372036854775807) (_ : -9223372036854775808 ≤ f ∧ f ≤ 9223372036854775807) (_ : -9223372036854775808 ≤ g ∧ g ≤ 9223372036854775807) :
    Calls Try.prog 3 #[v, .int .i64 f, .int .i64 g] w fun e w' => e = .returned (.bool true) ∧ Below w.heap.size w w' := by
  refine calls_q (L := [(39, us.flatMap act17C)]) (B := [oi]) (args := #[.slice (ad 0) A.length cp, .int .i64 f, .int .i64 g]) rfl ?_ ⟨rfl, ?_⟩ (siteNone_spec ?_ hok hl fun _ => rfl)
  · intro j oi' r h1 h2
    match j, h1, h2 with
    | 0, h1, h2 => cases h1; cases h2; exact hr _
  · intro i hi
    match i, hi with
    | 0, _ => exact hv _ 0 rfl
    | 1, _ => exact .int _ _
    | 2, _ => exact .int _ _
  · rcases ht with ht | ⟨rfl, ht⟩
    · exact .inl ht
    · exact .inr ⟨0, us, rfl, Nat.zero_lt_one, rfl, ht⟩
end Go.Proofs.Try
