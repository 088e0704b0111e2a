/- An api.Value as an argument, opened and shut. A lemma file: no statement of its own. -/
import Derived.Test.YtjjbmmgafclcaaaGreatqVal1
import Derived.ChangeMaps5
import Derived.ChangeSame
set_option linter.unusedSimpArgs false
set_option linter.unusedVariables false
set_option linter.unusedSectionVars false
set_option maxRecDepth 100000
namespace Go.Proofs.Tryz
open Go.Cs Go.ChangeShapes Go.WideShapes Go.ChangeAt Go.RowKit Go.ChangeMaps
theorem cells27 : Tryz.prog.cellsOf 27 = 3 := ce27
section
variable {H : Type} {enc : TypeId × Value → H} {w : World} {base : Nat} {sp : Nat → Bool} {held : Bool}
theorem open_value {W : World} {r : Reach} {b0 : Nat} {v : Value} {d : DataW H} {ps : List MemPlace} (hval : Value.okWide Tryz.prog W r b0 27 v) (hd : DataW.Trod enc Tryz.prog w base sp held 27 v d ps) :
    ∃ (k n : Int) (x : ByteArray), v = vA k n x ∧ d = .agg [.lit (.int .i64 k), .lit (.int .i64 n), .lit (.string x.data.toList)] ∧ ps = [] ∧ (Lit.int .i64 k).wf = true ∧ (Lit.int .i64 n).wf = true ∧ x.size ≤ maxLen := by
  obtain ⟨cs, rfl, hcs⟩ := okWide_struct underlying27 hval
  rw [cells27] at hcs
  obtain ⟨fuel, hf⟩ := hd
  obtain ⟨xs, m, _, hx, hl, hlen, hp⟩ := DataW.trod_struct underlying27 hf
  have h0 : DataW.trod enc Tryz.prog w base sp held m 3 (List.take (Tryz.prog.cellsOf 3) (List.drop 0 cs.toList)) = xs[0]? := hp 0 _ rfl
  have h1 : DataW.trod enc Tryz.prog w base sp held m 3 (List.take (Tryz.prog.cellsOf 3) (List.drop 1 cs.toList)) = xs[1]? := hp 1 _ rfl
  have h2 : DataW.trod enc Tryz.prog w base sp held m 9 (List.take (Tryz.prog.cellsOf 9) (List.drop 2 cs.toList)) = xs[2]? := hp 2 _ rfl
  have hlen : xs.length = 3 := hlen
  rw [ce3] at h0 h1
  rw [ce9] at h2
  obtain ⟨l⟩ := cs
  match l, hcs, xs, hlen with
  | [c0, c1, c2], _, [y0, y1, y2], _ =>
    simp only [List.drop_zero, List.drop_succ_cons, List.take_succ_cons, List.take_zero, List.getElem?_cons_zero, List.getElem?_cons_succ] at h0 h1 h2
    obtain ⟨k, e0, rfl, w0⟩ := DataW.trod_int underlying3 h0
    obtain ⟨n, e1, rfl, w1⟩ := DataW.trod_int underlying3 h1
    obtain ⟨x, e2, rfl, w2⟩ := DataW.trod_string underlying9 h2
    simp only [List.cons.injEq, and_true] at e0 e1 e2
    subst e0 e1 e2
    simp only [List.map_cons, List.map_nil, List.flatMap_cons, List.flatMap_nil, List.append_nil, Prod.mk.injEq] at hx
    exact ⟨k, n, x, rfl, hx.1, hx.2, w0, w1, w2⟩
theorem shut_value {k n : Int} {x : ByteArray} (w0 : (Lit.int .i64 k).wf = true) (w1 : (Lit.int .i64 n).wf = true) (w2 : x.size ≤ maxLen) :
    DataW.Trod enc Tryz.prog w base sp held 27 (vA k n x) (.agg [.lit (.int .i64 k), .lit (.int .i64 n), .lit (.string x.data.toList)]) [] := by
  refine ⟨2, ?_⟩
  have := trod_struct_mk (enc := enc) (P := Tryz.prog) (w := w) (base := base) (spare := sp) (held := held) (n := 1) (cs := [.int .i64 k, .int .i64 n, .string x])
    (xs := [(.lit (.int .i64 k), []), (.lit (.int .i64 n), []), (.lit (.string x.data.toList), [])]) underlying27 (by rw [cells27]; rfl) (by
      simp only [ce3, ce9, List.mapM_cons, List.mapM_nil, List.drop_zero, List.drop_succ_cons, List.take_succ_cons, List.take_zero, trod_int_mk 0 underlying3 w0, trod_int_mk 0 underlying3 w1]
      simp [DataW.trod, underlying9, w2])
  show DataW.trod enc Tryz.prog w base sp held 2 27 [.int .i64 k, .int .i64 n, .string x] = _
  simpa using this
theorem open_value_c {m : Nat} {c0 c1 c2 : Value} {y : DataW H × List MemPlace} (h : DataW.trod enc Tryz.prog w base sp held m 27 [c0, c1, c2] = some y) :
    ∃ (k n : Int) (x : ByteArray), c0 = .int .i64 k ∧ c1 = .int .i64 n ∧ c2 = .string x ∧ y = (.agg [.lit (.int .i64 k), .lit (.int .i64 n), .lit (.string x.data.toList)], []) ∧ (Lit.int .i64 k).wf = true ∧ (Lit.int .i64 n).wf = true ∧ x.size ≤ maxLen := by
  obtain ⟨d, ps⟩ := y
  obtain ⟨xs, m, _, hx, hl, hlen, hp⟩ := DataW.trod_struct underlying27 h
  have h0 : DataW.trod enc Tryz.prog w base sp held m 3 (List.take (Tryz.prog.cellsOf 3) (List.drop 0 [c0, c1, c2])) = xs[0]? := hp 0 _ rfl
  have h1 : DataW.trod enc Tryz.prog w base sp held m 3 (List.take (Tryz.prog.cellsOf 3) (List.drop 1 [c0, c1, c2])) = xs[1]? := hp 1 _ rfl
  have h2 : DataW.trod enc Tryz.prog w base sp held m 9 (List.take (Tryz.prog.cellsOf 9) (List.drop 2 [c0, c1, c2])) = xs[2]? := hp 2 _ rfl
  have hlen : xs.length = 3 := hlen
  rw [ce3] at h0 h1
  rw [ce9] at h2
  match xs, hlen with
  | [y0, y1, y2], _ =>
    simp only [List.drop_zero, List.drop_succ_cons, List.take_succ_cons, List.take_zero, List.getElem?_cons_zero, List.getElem?_cons_succ] at h0 h1 h2
    obtain ⟨k, e0, rfl, w0⟩ := DataW.trod_int underlying3 h0
    obtain ⟨n, e1, rfl, w1⟩ := DataW.trod_int underlying3 h1
    obtain ⟨x, e2, rfl, w2⟩ := DataW.trod_string underlying9 h2
    simp only [List.cons.injEq, and_true] at e0 e1 e2
    subst e0 e1 e2
    simp only [List.map_cons, List.map_nil, List.flatMap_cons, List.flatMap_nil, List.append_nil, Prod.mk.injEq] at hx
    exact ⟨k, n, x, rfl, rfl, rfl, by rw [hx.1, hx.2], w0, w1, w2⟩
end
end Go.Proofs.Tryz
