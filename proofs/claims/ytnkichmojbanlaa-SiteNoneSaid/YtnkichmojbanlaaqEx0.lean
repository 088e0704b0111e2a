/- Steps that the framework's list has not. A lemma file: no statement of its own. -/
import Derived.Test.YtnkichmojbanlaaqFwF
set_option linter.unusedSimpArgs false
set_option linter.unusedVariables false
set_option linter.unusedSectionVars false
namespace Go.Cs
section
variable {M : Type} [Mem M] {P : Program} {w0 : World} {s : St M} {ev : Operand → Value} {d : Option Tmp} {ty t xt : TypeId} {pos : String} {af : Array Edge} {g : Option (Nat × Bool)} {x : Operand} {K : Value → St M → Prop} {F : Value → St M → Option Value → Prop}
theorem o_assert {ok : Bool} : wop P w0 ⟨d, .typeAssert x xt t ok, ty, pos, af, g⟩ ev s K = must (cassert P (ev x) t ok) fun v => K v s := rfl
theorem f_assert {ok : Bool} : wfop P ⟨d, .typeAssert x xt t ok, ty, pos, af, g⟩ ev s F = must (cassert P (ev x) t ok) fun v => F v s none := rfl
def cmkI (P : Program) (t : TypeId) (v : Value) : Option Value := match P.underlying t with
    | some (.interface _) => none
    | some _ => some (.iface t v)
    | none => none
theorem o_mkIface : wop P w0 ⟨d, .makeInterface t x, ty, pos, af, g⟩ ev s K = must (cmkI P t (ev x)) fun v => K v s := rfl
theorem f_mkIface : wfop P ⟨d, .makeInterface t x, ty, pos, af, g⟩ ev s F = must (cmkI P t (ev x)) fun v => F v s none := rfl
theorem mkI_p {t e : TypeId} {v : Value} (h : P.underlying t = some (.pointer e)) : cmkI P t v = some (.iface t v) := by unfold cmkI; rw [h]
theorem mkI_s {t : TypeId} {fs : Array Field} {v : Value} (h : P.underlying t = some (.struct fs)) : cmkI P t v = some (.iface t v) := by unfold cmkI; rw [h]
theorem o_min {args : Array Operand} {ats : Array TypeId} : wop P w0 ⟨d, .call ⟨.builtin .min, args, ats⟩, ty, pos, af, g⟩ ev s K = must (cbuiltin P .min ats ty (args.map ev)) fun v => K v s := rfl
theorem o_max {args : Array Operand} {ats : Array TypeId} : wop P w0 ⟨d, .call ⟨.builtin .max, args, ats⟩, ty, pos, af, g⟩ ev s K = must (cbuiltin P .max ats ty (args.map ev)) fun v => K v s := rfl
theorem bi_min {ats : Array TypeId} {ty : TypeId} {k k2 : IntKind} {a b : Int} : cbuiltin P .min ats ty #[.int k a, .int k2 b] = some (.int k (if b < a then b else a)) := rfl
theorem bi_max {ats : Array TypeId} {ty : TypeId} {k k2 : IntKind} {a b : Int} : cbuiltin P .max ats ty #[.int k a, .int k2 b] = some (.int k (if b > a then b else a)) := rfl
end
end Go.Cs
