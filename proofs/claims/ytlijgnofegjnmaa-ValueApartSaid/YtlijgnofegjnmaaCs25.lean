/- Lengths, bytes of strings, pointers that must not be nil, step by step. A lemma file: no statement of its own. -/
import Derived.Test.YtlijgnofegjnmaaCs24
set_option linter.unusedSimpArgs false
set_option linter.unusedVariables false
set_option linter.unusedSectionVars false
namespace Go.Cs
section
variable {M : Type} [Mem M] {P : Program} {w0 : World}
variable {d : Option Tmp} {ty : TypeId} {pos : String} {af : Array Edge} {g : Option (Nat × Bool)} {ev : Operand → Value} {s : St M} {K : Value → St M → Prop} {F : Value → St M → Option Value → Prop} {x y : Operand} {t t2 : TypeId}

def clen (td : Option TypeDesc) (v : Option Value) : Option Value := match td, v with
    | some (.slice _), some (.slice _ n _) => some (.int .i64 n)
    | some .string, some (.string s) => some (.int .i64 s.size)
    | some (.array n _), some _ => some (.int .i64 n)
    | some (.map _ _), some (.map none) => some (.int .i64 0)
    | _, _ => none
def clenM (s : St M) (td : Option TypeDesc) (v : Option Value) : Option Value := match td, v with
      | some (.map _ _), some (.map (some r)) => match s.at' r with
        | some (.map es _) => some (.int .i64 es.length)
        | _ => none
      | _, _ => none
theorem o_len {args : Array Operand} {ats : Array TypeId} : wop P w0 ⟨d, .call ⟨.builtin .len, args, ats⟩, ty, pos, af, g⟩ ev s K =
    wpr (clen (ats[0]?.bind P.underlying) ((args.map ev)[0]?)) (clenM s (ats[0]?.bind P.underlying) ((args[0]?).map ev)) fun v => K v s := rfl
theorem f_len {args : Array Operand} {ats : Array TypeId} : wfop P ⟨d, .call ⟨.builtin .len, args, ats⟩, ty, pos, af, g⟩ ev s F =
    (must (clen (ats[0]?.bind P.underlying) ((args.map ev)[0]?)) (fun v => F v s none) ∨ must (clenM s (ats[0]?.bind P.underlying) ((args[0]?).map ev)) fun v => F v s (some v)) := rfl
theorem len_slice {e : TypeId} {a : Option Addr} {n c : Nat} : clen (some (.slice e)) (some (.slice a n c)) = some (.int .i64 n) := rfl
theorem len_string {b : ByteArray} : clen (some .string) (some (.string b)) = some (.int .i64 b.size) := rfl
theorem lenM_slice {e : TypeId} {v : Option Value} : clenM s (some (.slice e)) v = none := rfl
theorem lenM_string {v : Option Value} : clenM s (some .string) v = none := rfl

def cnil (v : Value) : Option Value := match v with
    | .pointer (some a) => some (.pointer (some a))
    | .iface t v => some (.iface t v)
    | .func (.func f) a b => some (.func (.func f) a b)
    | _ => none
theorem o_nilCheck : wop P w0 ⟨d, .nilCheck x, ty, pos, af, g⟩ ev s K = must (cnil (ev x)) fun v => K v s := rfl
theorem f_nilCheck : wfop P ⟨d, .nilCheck x, ty, pos, af, g⟩ ev s F = must (cnil (ev x)) fun v => F v s none := rfl
theorem nil_p {a : Addr} : cnil (.pointer (some a)) = some (.pointer (some a)) := rfl

def cidx (P : Program) (td : Option TypeDesc) (v ix : Value) : Option Value := match td, v, ix with
    | some .string, .string s, .int _ i => if 0 ≤ i then (s[i.toNat]?).map fun b => .int .u8 b.toNat else none
    | some (.array n e), .agg cs, .int _ i => match P.info? e with
      | some ie => if 0 ≤ i ∧ i < n then cpart P e cs (i.toNat * ie.size) else none
      | none => none
    | _, _, _ => none
theorem o_index : wop P w0 ⟨d, .index t x y, ty, pos, af, g⟩ ev s K = must (cidx P (P.underlying t) (ev x) (ev y)) fun v => K v s := rfl
theorem f_index : wfop P ⟨d, .index t x y, ty, pos, af, g⟩ ev s F = must (cidx P (P.underlying t) (ev x) (ev y)) fun v => F v s none := rfl
theorem ix_str {b : ByteArray} {k : IntKind} {i : Int} : cidx P (some .string) (.string b) (.int k i) = if 0 ≤ i then (b[i.toNat]?).map fun b => .int .u8 b.toNat else none := rfl
end
end Go.Cs
