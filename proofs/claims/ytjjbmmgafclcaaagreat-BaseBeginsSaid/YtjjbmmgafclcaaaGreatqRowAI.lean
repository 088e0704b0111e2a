/- Rows of api.Instr as arguments. Written by gen_row.py. A lemma file: no statement of its own. -/
import Derived.Test.YtjjbmmgafclcaaaGreatqRowsC
import Derived.Test.YtjjbmmgafclcaaaGreatqVOpen
import Derived.Test.YtjjbmmgafclcaaaGreatqRowI
set_option linter.unusedSimpArgs false
set_option linter.unusedVariables false
set_option linter.unusedSectionVars false
set_option maxRecDepth 100000
namespace Go.Proofs.Tryz
open Go.Cs Go.ChangeShapes Go.WideShapes Go.ChangeAt Go.RowKit Go.ChangeMaps
structure AID where
  a0 : Int
  a1 : Int
  a2 : Int
def actIC (x : AID) : List Value := [.int .i64 x.a0, .int .i64 x.a1, .int .i64 x.a2]
def ActIOk (x : AID) : Prop := I64 x.a0 ∧ I64 x.a1 ∧ I64 x.a2
theorem el_AID {H : Type} {enc : TypeId × Value → H} {W : World} (n : Nat) (l : List Value) (y : DataW H × List MemPlace) (hf : DataW.trod enc Tryz.prog W 0 (fun _ => true) true n 41 l = some y) : ∃ a, l = actIC a ∧ ActIOk a := by
  obtain ⟨xs, m, _, hx, hl, hlen, hp⟩ := DataW.trod_struct underlying41 hf
  rw [ce41] at hl
  have h0 : DataW.trod enc Tryz.prog W 0 (fun _ => true) true m 3 (List.take (Tryz.prog.cellsOf 3) (List.drop 0 l)) = xs[0]? := hp 0 _ rfl
  rw [ce3] at h0
  have h1 : DataW.trod enc Tryz.prog W 0 (fun _ => true) true m 3 (List.take (Tryz.prog.cellsOf 3) (List.drop 1 l)) = xs[1]? := hp 1 _ rfl
  rw [ce3] at h1
  have h2 : DataW.trod enc Tryz.prog W 0 (fun _ => true) true m 3 (List.take (Tryz.prog.cellsOf 3) (List.drop 2 l)) = xs[2]? := hp 2 _ rfl
  rw [ce3] at h2
  have hlen : xs.length = 3 := hlen
  match l, hl, xs, hlen with
  | [c0, c1, c2], _, [y0, y1, y2], _ =>
    simp only [List.drop_zero, List.drop_succ_cons, List.take_succ_cons, List.take_zero, List.getElem?_cons_zero, List.getElem?_cons_succ] at h0 h1 h2
    obtain ⟨a0, e0, rfl, w0⟩ := DataW.trod_int underlying3 h0
    simp only [List.cons.injEq, and_true] at e0
    subst e0
    obtain ⟨a1, e1, rfl, w1⟩ := DataW.trod_int underlying3 h1
    simp only [List.cons.injEq, and_true] at e1
    subst e1
    obtain ⟨a2, e2, rfl, w2⟩ := DataW.trod_int underlying3 h2
    simp only [List.cons.injEq, and_true] at e2
    subst e2
    exact ⟨⟨a0, a1, a2⟩, rfl, Go.Cs.fits_i64 w0, Go.Cs.fits_i64 w1, Go.Cs.fits_i64 w2⟩
theorem actsI_cut : ∀ (l : List AID) (k : Nat) (x : AID), l[k]? = some x → k * 3 + 3 ≤ (l.flatMap actIC).length ∧ List.take 3 (List.drop (k * 3) (l.flatMap actIC)) = actIC x := by
  intro l
  induction l with
  | nil => intro k x h; simp at h
  | cons y l ih =>
    intro k x h
    rw [List.flatMap_cons]
    cases k with
    | zero =>
      simp at h; subst h
      exact ⟨by rw [List.length_append]; show 0 * 3 + 3 ≤ 3 + _; omega, rfl⟩
    | succ k =>
      obtain ⟨h1, h2⟩ := ih k x (by simpa using h)
      refine ⟨by rw [List.length_append]; show _ ≤ 3 + _; omega, ?_⟩
      rw [show (k + 1) * 3 = 3 + k * 3 by omega, ← List.drop_drop]
      exact h2
end Go.Proofs.Tryz
