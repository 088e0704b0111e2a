/- Rows of a length that is not known, made. A lemma file: no statement of its own. -/
import Derived.Test.YtjjbmmgafclcaaaGreatqFacts
import Derived.Test.YtjjbmmgafclcaaaGreatqTypes
import Derived.Test.YtjjbmmgafclcaaaGreatqFwF
set_option linter.unusedSimpArgs false
set_option linter.unusedVariables false
set_option linter.unusedSectionVars false
namespace Go.Cs
section
variable {M : Type} [Mem M] {P : Program} {w0 : World} {s : St M} {ev : Operand → Value} {d : Option Tmp} {ty t : TypeId} {pos : String} {af : Array Edge} {g : Option (Nat × Bool)} {x y : Operand} {K : Value → St M → Prop} {F : Value → St M → Option Value → Prop}
def cmks (P : Program) (t : TypeId) (l c : Value) : Option (Blk × (Nat → Value)) := match P.underlying t, l, c with
    | some (.slice e), .int _ l, .int _ c => match P.info? e with
      | some ie => if 0 ≤ l ∧ l ≤ c ∧ c ≤ 4294967296 ∧ c * ie.bytes ≤ 281474976710656 then
          match zerosOf P e (c.toNat * ie.size) with
          | some z => some (.cells z e true, fun b => .slice (some ⟨b, 0, none⟩) l.toNat c.toNat)
          | none => none
        else none
      | none => none
    | _, _, _ => none
theorem o_mks : wop P w0 ⟨d, .makeSlice t x y, ty, pos, af, g⟩ ev s K = wmk (cmks P t (ev x) (ev y)) s K := rfl
theorem f_mks : wfop P ⟨d, .makeSlice t x y, ty, pos, af, g⟩ ev s F = wmk (cmks P t (ev x) (ev y)) s fun v s => F v s none := rfl
theorem zeros_one {e : TypeId} {z : Value} (hz : czero P e = some z) (h1 : z.cells = #[z]) (n : Nat) : zerosOf P e n = some (List.replicate n z) := by
  unfold zerosOf
  split
  · rename_i h; subst h; rfl
  · rw [hz]
    simp only [h1]
    rw [if_neg (by simp)]
    unfold czeros
    rw [h1]
    congr 1
    rw [Array.toList_map, Array.toList_range]
    apply List.ext_getElem?
    intro i
    rw [List.getElem?_map, List.getElem?_replicate]
    by_cases hi : i < n
    · rw [if_pos hi, List.getElem?_range hi]
      simp [Nat.mod_one]
    · rw [if_neg hi, List.getElem?_eq_none (by simpa using Nat.le_of_not_lt hi)]
      rfl
end
end Go.Cs
