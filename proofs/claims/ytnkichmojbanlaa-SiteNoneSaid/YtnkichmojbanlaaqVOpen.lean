/- An api.Value as an argument, opened and shut. A lemma file: no statement of its own. -/
import Derived.Test.YtnkichmojbanlaaqVal1
import Derived.ChangeMaps5
import Derived.ChangeSame
set_option linter.unusedSimpArgs false
set_option linter.unusedVariables false
set_option linter.unusedSectionVars false
set_option maxRecDepth 100000
namespace Go.Proofs.Try
open Go.Cs Go.ChangeShapes Go.WideShapes Go.ChangeAt Go.RowKit Go.ChangeMaps
section
variable {H : Type} {enc : TypeId × Value → H} {w : World} {base : Nat} {sp : Nat → Bool} {held : Bool}
theorem open_value_c {m : Nat} {c0 c1 c2 : Value} {y : DataW H × List MemPlace} (h : DataW.trod enc Try.prog w base sp held m 37 [c0, c1, c2] = some y) :
    ∃ (k n : Int) (x : ByteArray), c0 = .int .i64 k ∧ c1 = .int .i64 n ∧ c2 = .string x ∧ y = (.agg [.lit (.int .i64 k), .lit (.int .i64 n), .lit (.string x.data.toList)], []) ∧ (Lit.int .i64 k).wf = true ∧ (Lit.int .i64 n).wf = true ∧ x.size ≤ maxLen := by
  obtain ⟨d, ps⟩ := y
  obtain ⟨xs, m, _, hx, hl, hlen, hp⟩ := DataW.trod_struct underlying37 h
  have h0 : DataW.trod enc Try.prog w base sp held m 3 (List.take (Try.prog.cellsOf 3) (List.drop 0 [c0, c1, c2])) = xs[0]? := hp 0 _ rfl
  have h1 : DataW.trod enc Try.prog w base sp held m 3 (List.take (Try.prog.cellsOf 3) (List.drop 1 [c0, c1, c2])) = xs[1]? := hp 1 _ rfl
  have h2 : DataW.trod enc Try.prog w base sp held m 9 (List.take (Try.prog.cellsOf 9) (List.drop 2 [c0, c1, c2])) = xs[2]? := hp 2 _ rfl
  have hlen : xs.length = 3 := hlen
  rw [ce3] at h0 h1
  rw [ce9] at h2
  match xs, hlen with
  | [y0, y1, y2], _ =>
    simp only [List.drop_zero, List.drop_succ_cons, List.take_succ_cons, List.take_zero, List.getElem?_cons_zero, List.getElem?_cons_succ] at h0 h1 h2
    obtain ⟨k, e0, rfl, w0⟩ := DataW.trod_int underlying3 h0
    obtain ⟨n, e1, rfl, w1⟩ := DataW.trod_int underlying3 h1
    obtain ⟨x, e2, rfl, w2⟩ := DataW.trod_string underlying9 h2
    simp only [List.cons.injEq, and_true] at e0 e1 e2
    subst e0 e1 e2
    simp only [List.map_cons, List.map_nil, List.flatMap_cons, List.flatMap_nil, List.append_nil, Prod.mk.injEq] at hx
    exact ⟨k, n, x, rfl, rfl, rfl, by rw [hx.1, hx.2], w0, w1, w2⟩
end
end Go.Proofs.Try
