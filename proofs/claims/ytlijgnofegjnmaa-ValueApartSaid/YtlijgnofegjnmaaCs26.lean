/- Structs alike or not, reckoned. A lemma file: no statement of its own. -/
import Derived.Test.YtlijgnofegjnmaaCs25
import Derived.Laws.StructEq
set_option linter.unusedSimpArgs false
set_option linter.unusedVariables false
set_option linter.unusedSectionVars false
namespace Go.Cs
section
variable {P : Program} {d : Nat} {xs ys : Array Value} {f : Field} {fs : List Field} {a b : Value} {r s : Bool} {t : TypeId}

theorem pureRun_program : pureRun P program = some P := rfl
theorem pureRun_ite {α : Type} {c : Prop} [Decidable c] {x y : Sem α} : pureRun P (if c then x else y) = if c then pureRun P x else pureRun P y := by split <;> rfl

theorem pr_eqStruct {fs : Array Field} (ht : P.underlying t = some (.struct fs)) (hp : P.stoodInHeld t = false) : pureRun P (Op.equalIn (d + 1) t (.agg xs) (.agg ys)) = pureRun P (Op.eqFields d xs ys fs.toList) := by
  simp only [Op.equalIn, pureRun_bind, pureRun_underlying ht, Option.bind_some, pureRun_program, hp, Bool.false_eq_true, if_false]
  rw [← Array.forIn_toList]
  generalize fs.toList = fs
  clear ht
  induction fs with
  | nil => simp only [List.forIn_nil, pureRun_pure, Op.eqFields, Option.bind_some]
  | cons f fs ih =>
    simp only [List.forIn_cons, Op.eqFields, pureRun_bind, pureRun_ite]
    split
    · cases pureRun P (part f.type xs f.offset) with
      | none => rfl
      | some a =>
        simp only [Option.bind_some]
        cases pureRun P (part f.type ys f.offset) with
        | none => rfl
        | some b =>
          simp only [Option.bind_some]
          cases pureRun P (Op.equalIn d f.type a b) with
          | none => rfl
          | some r =>
            cases r with
            | true => simpa [pureRun_pure] using ih
            | false => simp [pureRun_pure]
    · simpa [pureRun_pure] using ih

theorem pr_eqNil : pureRun P (Op.eqFields d xs ys []) = some true := rfl
theorem pr_eqCons (hn : (f.name == "_") = false) (ha : pureRun P (part f.type xs f.offset) = some a) (hb : pureRun P (part f.type ys f.offset) = some b) (he : pureRun P (Op.equalIn d f.type a b) = some r) (hr : pureRun P (Op.eqFields d xs ys fs) = some s) :
    pureRun P (Op.eqFields d xs ys (f :: fs)) = some (r && s) := by
  have hn' : f.name ≠ "_" := by simpa using hn
  rw [Op.eqFields]
  simp only [if_pos hn', pureRun_bind, ha, hb, he, Option.bind_some, pureRun_ite, hr]
  cases r <;> rfl
theorem pr_eqInt {k0 k : IntKind} {a b : Int} (h : P.underlying t = some (.int k0)) : pureRun P (Op.equalIn (d + 1) t (.int k a) (.int k b)) = some (a == b) := by
  simp only [Op.equalIn, pureRun_bind, pureRun_underlying h, Option.bind_some, if_true, pureRun_pure]
theorem pr_eqString {a b : ByteArray} (h : P.underlying t = some .string) : pureRun P (Op.equalIn (d + 1) t (.string a) (.string b)) = some (decide (a = b)) := by
  simp only [Op.equalIn, pureRun_bind, pureRun_underlying h, Option.bind_some, pureRun_pure]
  rw [← decide_ba]
  simp only [beq_toListBytes]
theorem pr_eqBool {a b : Bool} (h : P.underlying t = some .bool) : pureRun P (Op.equalIn (d + 1) t (.bool a) (.bool b)) = some (a == b) := by
  simp only [Op.equalIn, pureRun_bind, pureRun_underlying h, Option.bind_some, pureRun_pure]
end
end Go.Cs
