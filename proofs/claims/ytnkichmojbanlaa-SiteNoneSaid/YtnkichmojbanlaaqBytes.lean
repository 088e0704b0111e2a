/- Rows of bytes. A lemma file: no statement of its own. -/
import Derived.Test.YtnkichmojbanlaaqFwF
import Derived.Test.YtnkichmojbanlaaqFacts
import Derived.Test.YtnkichmojbanlaaqTypes
set_option linter.unusedSimpArgs false
set_option linter.unusedVariables false
set_option linter.unusedSectionVars false
namespace Go.Proofs.Try
open Go.Cs
open Go.RowKit (Below)
section
variable {M : Type} [Mem M] {w0 : World} {s : St M} {R : Value → St M → Prop}
theorem infoU8 : ∃ ie, Try.prog.info? 5 = some ie ∧ ie.size = 1 ∧ ie.bytes = 1 := by
  obtain ⟨ie, h⟩ := Option.isSome_iff_exists.1 is5
  have h1 := ce5
  have h2 : Try.prog.bytesOf 5 = 1 := by kernel_rfl
  rw [cellsOf_info h] at h1
  simp only [Program.bytesOf, h] at h2
  exact ⟨ie, h, h1, h2⟩
theorem zeroU8 : czero Try.prog 5 = some (.int .u8 0) := by kernel_rfl
theorem app_bytes {s : St M} {sl v : Value} {l new : List UInt8} {t2 e2 : TypeId} (ht2 : Try.prog.underlying t2 = some (.slice e2) ∨ Try.prog.underlying t2 = some .string) (hne : new ≠ []) (hlen : l.length + new.length ≤ 140737488355328)
    (hsl : SlC 5 1 s sl (l.map toV) l.length) (hv : cmore 1 v s = some (new.length, new.map toV)) :
    ∃ s', capp Try.prog #[110, t2] #[sl, v] s = some (.slice (some ⟨s.next, 0, none⟩) (l ++ new).length UNK, s') ∧ s'.next = s.next + 1 ∧ s'.at' s.next = some (.cells ((l ++ new).map toV) 5 true) ∧
      (∀ b, b ≠ s.next → (∀ q n c, sl = .slice (some q) n c → b ≠ q.block) → s'.at' b = s.at' b) := by
  obtain ⟨ie, hie, h1, h2⟩ := infoU8
  have hok : (new.map toV).all okCell = true := by simp [toV, okCell]
  have hn0 : new.length ≠ 0 := by simpa using hne
  have hcapp : capp Try.prog #[110, t2] #[sl, v] s = capp3 Try.prog 5 ie sl s (cmore ie.size v s) := by
    rcases ht2 with ht2 | ht2
    · exact app_eq underlying110 ht2 hie
    · exact app_eq_str underlying110 ht2 hie
  have := app_row (n := l.length) (k := new.length) hie zeroU8 (by rw [h1]; rfl) (by omega) hcapp hn0 (by rw [h2]; omega) hok (by rw [h1]; exact hv) (by rw [h1]; exact hsl)
  simpa only [List.length_append, List.map_append] using this
theorem rowB (v : Int) : crow Try.prog 110 1 #[(0, .int .u8 v)] = some (.cells [.int .u8 v] 5 true) := by kernel_rfl
end
end Go.Proofs.Try
