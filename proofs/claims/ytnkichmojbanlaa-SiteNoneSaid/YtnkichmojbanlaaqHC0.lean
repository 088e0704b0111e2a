/- Chains are short. A lemma file: no statement of its own. -/
import Derived.Test.YtnkichmojbanlaaqHPN
set_option linter.unusedSimpArgs false
set_option linter.unusedVariables false
set_option linter.unusedSectionVars false
namespace Go.Proofs.Try
open Go.Cs
set_option maxRecDepth 100000
theorem countP_lt {α : Type} {p q : α → Bool} : ∀ {l : List α}, (∀ x ∈ l, p x = true → q x = true) → (∃ x ∈ l, q x = true ∧ p x = false) → l.countP p < l.countP q := by
  intro l
  have hle : ∀ l : List α, (∀ x ∈ l, p x = true → q x = true) → l.countP p ≤ l.countP q := fun l h => List.countP_mono_left h
  induction l with
  | nil => intro _ ⟨x, hx, _⟩; cases hx
  | cons y l ih =>
    intro h ⟨x, hx, h1, h2⟩
    have hl := hle l fun x hx => h x (List.mem_cons_of_mem _ hx)
    rw [List.countP_cons, List.countP_cons]
    rcases List.mem_cons.1 hx with rfl | hx
    · rw [h1, h2]; simp; omega
    · have := ih (fun x hx => h x (List.mem_cons_of_mem _ hx)) ⟨x, hx, h1, h2⟩
      have hy := h y List.mem_cons_self
      cases hp : p y with
      | true => rw [hy hp]; simp; omega
      | false => simp; split <;> omega
theorem deep_few {H : Hp} (h : HOk H) : ∃ d : Nat → Nat, Deep H d ∧ ∀ i, i < H.obs.length → d (i + 1) < H.obs.length := by
  obtain ⟨d, hd⟩ := h.up
  have key : ∀ (i : Nat) (p : Nat → Bool), i < H.obs.length → p i = false → (List.range H.obs.length).countP p < H.obs.length := by
    intro i p hi hp
    have := countP_lt (p := p) (q := fun _ => true) (l := List.range H.obs.length) (fun _ _ _ => rfl) ⟨i, by simpa using hi, rfl, hp⟩
    simpa using this
  refine ⟨fun x => (List.range H.obs.length).countP fun j => decide (d (j + 1) < d x), fun i o ho => ?_, fun i hi => key i _ hi (by simp)⟩
  rcases hd i o ho with h1 | ⟨h1, h2⟩
  · exact .inl h1
  · by_cases h0 : o.proto = 0
    · exact .inl h0
    · refine .inr ⟨h1, countP_lt (fun j _ hj => ?_) ⟨o.proto - 1, by simp; omega, ?_, ?_⟩⟩
      · simp only [decide_eq_true_eq] at hj ⊢; omega
      · simp only [decide_eq_true_eq]; rw [show o.proto - 1 + 1 = o.proto by omega]; exact h2
      · simp only [decide_eq_false_iff_not]; rw [show o.proto - 1 + 1 = o.proto by omega]; omega
end Go.Proofs.Try
