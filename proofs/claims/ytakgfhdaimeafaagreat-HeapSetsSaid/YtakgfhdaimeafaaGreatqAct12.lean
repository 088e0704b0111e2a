/- An argument that is a proteuslaw12.Act, opened and shut. A lemma file: no statement of its own. -/
import Derived.Test.YtakgfhdaimeafaaGreatqVOpen
set_option linter.unusedSimpArgs false
set_option linter.unusedVariables false
set_option linter.unusedSectionVars false
set_option maxRecDepth 100000
namespace Go.Proofs.Tryz
open Go.Cs Go.ChangeShapes Go.WideShapes Go.ChangeAt Go.RowKit Go.ChangeMaps
theorem cells32 : Tryz.prog.cellsOf 32 = 7 := ce32
section
variable {H : Type} {enc : TypeId × Value → H} {w : World} {base : Nat} {sp : Nat → Bool} {held : Bool}
theorem open_Act12 {W : World} {r : Reach} {b0 : Nat} {v : Value} {d : DataW H} {ps : List MemPlace} (hval : Value.okWide Tryz.prog W r b0 32 v) (hd : DataW.Trod enc Tryz.prog w base sp held 32 v d ps) :
    ∃ (a0 : Int) (a1 : Int) (a2 : Int) (a3 : ByteArray) (k4 n4 : Int) (x4 : ByteArray), v = .agg #[.int .i64 a0, .int .i64 a1, .int .i64 a2, .string a3, .int .i64 k4, .int .i64 n4, .string x4] ∧ d = .agg [.lit (.int .i64 a0), .lit (.int .i64 a1), .lit (.int .i64 a2), .lit (.string a3.data.toList), .agg [.lit (.int .i64 k4), .lit (.int .i64 n4), .lit (.string x4.data.toList)]] ∧ ps = [] ∧ (Lit.int .i64 a0).wf = true ∧ (Lit.int .i64 a1).wf = true ∧ (Lit.int .i64 a2).wf = true ∧ a3.size ≤ maxLen ∧ (Lit.int .i64 k4).wf = true ∧ (Lit.int .i64 n4).wf = true ∧ x4.size ≤ maxLen := by
  obtain ⟨cs, rfl, hcs⟩ := okWide_struct underlying32 hval
  rw [cells32] at hcs
  obtain ⟨fuel, hf⟩ := hd
  obtain ⟨xs, m, _, hx, hl, hlen, hp⟩ := DataW.trod_struct underlying32 hf
  have h0 : DataW.trod enc Tryz.prog w base sp held m 3 (List.take (Tryz.prog.cellsOf 3) (List.drop 0 cs.toList)) = xs[0]? := hp 0 _ rfl
  rw [ce3] at h0
  have h1 : DataW.trod enc Tryz.prog w base sp held m 3 (List.take (Tryz.prog.cellsOf 3) (List.drop 1 cs.toList)) = xs[1]? := hp 1 _ rfl
  rw [ce3] at h1
  have h2 : DataW.trod enc Tryz.prog w base sp held m 3 (List.take (Tryz.prog.cellsOf 3) (List.drop 2 cs.toList)) = xs[2]? := hp 2 _ rfl
  rw [ce3] at h2
  have h3 : DataW.trod enc Tryz.prog w base sp held m 9 (List.take (Tryz.prog.cellsOf 9) (List.drop 3 cs.toList)) = xs[3]? := hp 3 _ rfl
  rw [ce9] at h3
  have h4 : DataW.trod enc Tryz.prog w base sp held m 30 (List.take (Tryz.prog.cellsOf 30) (List.drop 4 cs.toList)) = xs[4]? := hp 4 _ rfl
  rw [ce30] at h4
  have hlen : xs.length = 5 := hlen
  obtain ⟨l⟩ := cs
  match l, hcs, xs, hlen with
  | [c0, c1, c2, c3, c4, c5, c6], _, [y0, y1, y2, y3, y4], _ =>
    simp only [List.drop_zero, List.drop_succ_cons, List.take_succ_cons, List.take_zero, List.getElem?_cons_zero, List.getElem?_cons_succ] at h0 h1 h2 h3 h4
    obtain ⟨a0, e0, rfl, w0⟩ := DataW.trod_int underlying3 h0
    simp only [List.cons.injEq, and_true] at e0
    subst e0
    obtain ⟨a1, e1, rfl, w1⟩ := DataW.trod_int underlying3 h1
    simp only [List.cons.injEq, and_true] at e1
    subst e1
    obtain ⟨a2, e2, rfl, w2⟩ := DataW.trod_int underlying3 h2
    simp only [List.cons.injEq, and_true] at e2
    subst e2
    obtain ⟨a3, e3, rfl, w3⟩ := DataW.trod_string underlying9 h3
    simp only [List.cons.injEq, and_true] at e3
    subst e3
    obtain ⟨k4, n4, x4, rfl, rfl, rfl, rfl, w4k, w4n, w4x⟩ := open_value_c h4
    simp only [List.map_cons, List.map_nil, List.flatMap_cons, List.flatMap_nil, List.append_nil, Prod.mk.injEq] at hx
    exact ⟨a0, a1, a2, a3, k4, n4, x4, rfl, hx.1, hx.2, w0, w1, w2, w3, w4k, w4n, w4x⟩
theorem shut_Act12 {a0 a1 a2 k4 n4 : Int} {a3 x4 : ByteArray} (w0 : (Lit.int .i64 a0).wf = true) (w1 : (Lit.int .i64 a1).wf = true) (w2 : (Lit.int .i64 a2).wf = true) (w3 : a3.size ≤ maxLen) (w4k : (Lit.int .i64 k4).wf = true) (w4n : (Lit.int .i64 n4).wf = true) (w4x : x4.size ≤ maxLen) :
    DataW.Trod enc Tryz.prog w base sp held 32 (.agg #[.int .i64 a0, .int .i64 a1, .int .i64 a2, .string a3, .int .i64 k4, .int .i64 n4, .string x4]) (.agg [.lit (.int .i64 a0), .lit (.int .i64 a1), .lit (.int .i64 a2), .lit (.string a3.data.toList), .agg [.lit (.int .i64 k4), .lit (.int .i64 n4), .lit (.string x4.data.toList)]]) [] := by
  refine ⟨3, ?_⟩
  have := trod_struct_mk (enc := enc) (P := Tryz.prog) (w := w) (base := base) (spare := sp) (held := held) (n := 2) (cs := [.int .i64 a0, .int .i64 a1, .int .i64 a2, .string a3, .int .i64 k4, .int .i64 n4, .string x4])
    (xs := [(.lit (.int .i64 a0), []), (.lit (.int .i64 a1), []), (.lit (.int .i64 a2), []), (.lit (.string a3.data.toList), []), (.agg [.lit (.int .i64 k4), .lit (.int .i64 n4), .lit (.string x4.data.toList)], [])]) underlying32 (by rw [cells32]; rfl) (by
      simp only [ce3, ce9, ce30, List.mapM_cons, List.mapM_nil, List.drop_zero, List.drop_succ_cons, List.take_succ_cons, List.take_zero, trod_int_mk 1 underlying3 w0, trod_int_mk 1 underlying3 w1, trod_int_mk 1 underlying3 w2, shut_value_c w4k w4n w4x]
      simp [DataW.trod, underlying9, w0, w1, w2, w3, w4k, w4n, w4x])
  show DataW.trod enc Tryz.prog w base sp held 3 32 [.int .i64 a0, .int .i64 a1, .int .i64 a2, .string a3, .int .i64 k4, .int .i64 n4, .string x4] = _
  simpa using this
end
end Go.Proofs.Tryz
