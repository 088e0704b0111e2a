/- More operations, step by step: parts of tuples, words turned round. A lemma file: no statement of its own. -/
import Derived.Test.YtlijgnofegjnmaaCs22
set_option linter.unusedSimpArgs false
set_option linter.unusedVariables false
set_option linter.unusedSectionVars false
namespace Go.Cs
section
variable {M : Type} [Mem M] {P : Program} {w0 : World}
variable {d : Option Tmp} {ty : TypeId} {pos : String} {af : Array Edge} {g : Option (Nat × Bool)} {ev : Operand → Value} {s : St M} {K : Value → St M → Prop} {F : Value → St M → Option Value → Prop} {x y : Operand} {t t2 : TypeId}

/-- A part of a tuple. -/
def wext (v : Value) (i : Nat) (K : Value → Prop) : Prop := must (match v with
  | .tuple vs => if vs.size = 1 then none else vs[i]?
  | _ => none) K
theorem wext_congr {v v' : Value} {i : Nat} {K : Value → Prop} {jp : Prop} (h : v = v') (hj : (True ∧ True) = jp) : wext v i K = wext v' i K := by rw [h]
attribute [congr] wext_congr
theorem o_extract {i : Nat} : wop P w0 ⟨d, .extract x i, ty, pos, af, g⟩ ev s K = wext (ev x) i fun v => K v s := rfl
theorem f_extract {i : Nat} : wfop P ⟨d, .extract x i, ty, pos, af, g⟩ ev s F = wext (ev x) i fun v => F v s none := rfl
theorem e2_0 {a b : Value} {K : Value → Prop} : wext (.tuple #[a, b]) 0 K = wval a K := by simp [wext, wval, must]
theorem e2_1 {a b : Value} {K : Value → Prop} : wext (.tuple #[a, b]) 1 K = wval b K := by simp [wext, wval, must]
theorem e3_0 {a b c : Value} {K : Value → Prop} : wext (.tuple #[a, b, c]) 0 K = wval a K := by simp [wext, wval, must]
theorem e3_1 {a b c : Value} {K : Value → Prop} : wext (.tuple #[a, b, c]) 1 K = wval b K := by simp [wext, wval, must]
theorem e3_2 {a b c : Value} {K : Value → Prop} : wext (.tuple #[a, b, c]) 2 K = wval c K := by simp [wext, wval, must]

/-- A word turned round. -/
def wnot (P : Program) (t : TypeId) (v : Value) (K : Value → Prop) : Prop := must (if plain 1 v = true then pure6 P (Op.unary .not v) else none) K
theorem wnot_congr {v v' : Value} {K : Value → Prop} {jp : Prop} (h : v = v') (hj : (True ∧ True) = jp) : wnot P t v K = wnot P t v' K := by rw [h]
attribute [congr] wnot_congr
theorem o_not : wop P w0 ⟨d, .unOp .not t x, ty, pos, af, g⟩ ev s K = wnot P t (ev x) fun v => K v s := rfl
theorem f_not : wfop P ⟨d, .unOp .not t x, ty, pos, af, g⟩ ev s F = wnot P t (ev x) fun v => F v s none := rfl
theorem n_bool {b : Bool} {K : Value → Prop} : wnot P t (.bool b) K = wval (.bool !b) K := by
  unfold wnot wval must
  simp only [plain, if_true, pure6, Op.unary, pureRun_pure]
  simp
end
end Go.Cs
