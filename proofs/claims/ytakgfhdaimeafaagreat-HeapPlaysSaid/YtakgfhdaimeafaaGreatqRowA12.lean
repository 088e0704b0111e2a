/- Rows of proteuslaw12.Act as arguments. A lemma file: no statement of its own. -/
import Derived.Test.YtakgfhdaimeafaaGreatqRowsC
import Derived.Test.YtakgfhdaimeafaaGreatqVOpen
import Derived.Test.YtakgfhdaimeafaaGreatqHDM
set_option linter.unusedSimpArgs false
set_option linter.unusedVariables false
set_option linter.unusedSectionVars false
set_option maxRecDepth 100000
namespace Go.Proofs.Tryz
open Go.Cs Go.ChangeShapes Go.WideShapes Go.ChangeAt Go.RowKit Go.ChangeMaps
structure ActD where
  d : Int
  a : Int
  b : Int
  name : ByteArray
  v : V3
def actC (x : ActD) : List Value := [.int .i64 x.d, .int .i64 x.a, .int .i64 x.b, .string x.name, .int .i64 x.v.1, .int .i64 x.v.2.1, .string x.v.2.2]
def I64 (n : Int) : Prop := -9223372036854775808 ≤ n ∧ n ≤ 9223372036854775807
def ActOk (x : ActD) : Prop := I64 x.d ∧ I64 x.a ∧ I64 x.b ∧ I64 x.v.1 ∧ I64 x.v.2.1
theorem el_Act12 {H : Type} {enc : TypeId × Value → H} {W : World} (n : Nat) (l : List Value) (y : DataW H × List MemPlace) (hf : DataW.trod enc Tryz.prog W 0 (fun _ => true) true n 32 l = some y) : ∃ a, l = actC a ∧ ActOk a := by
  obtain ⟨xs, m, _, hx, hl, hlen, hp⟩ := DataW.trod_struct underlying32 hf
  rw [ce32] at hl
  have h0 : DataW.trod enc Tryz.prog W 0 (fun _ => true) true m 3 (List.take (Tryz.prog.cellsOf 3) (List.drop 0 l)) = xs[0]? := hp 0 _ rfl
  rw [ce3] at h0
  have h1 : DataW.trod enc Tryz.prog W 0 (fun _ => true) true m 3 (List.take (Tryz.prog.cellsOf 3) (List.drop 1 l)) = xs[1]? := hp 1 _ rfl
  rw [ce3] at h1
  have h2 : DataW.trod enc Tryz.prog W 0 (fun _ => true) true m 3 (List.take (Tryz.prog.cellsOf 3) (List.drop 2 l)) = xs[2]? := hp 2 _ rfl
  rw [ce3] at h2
  have h3 : DataW.trod enc Tryz.prog W 0 (fun _ => true) true m 9 (List.take (Tryz.prog.cellsOf 9) (List.drop 3 l)) = xs[3]? := hp 3 _ rfl
  rw [ce9] at h3
  have h4 : DataW.trod enc Tryz.prog W 0 (fun _ => true) true m 30 (List.take (Tryz.prog.cellsOf 30) (List.drop 4 l)) = xs[4]? := hp 4 _ rfl
  rw [ce30] at h4
  have hlen : xs.length = 5 := hlen
  match l, hl, xs, hlen with
  | [c0, c1, c2, c3, c4, c5, c6], _, [y0, y1, y2, y3, y4], _ =>
    simp only [List.drop_zero, List.drop_succ_cons, List.take_succ_cons, List.take_zero, List.getElem?_cons_zero, List.getElem?_cons_succ] at h0 h1 h2 h3 h4
    obtain ⟨a0, e0, rfl, w0⟩ := DataW.trod_int underlying3 h0
    simp only [List.cons.injEq, and_true] at e0
    subst e0
    obtain ⟨a1, e1, rfl, w1⟩ := DataW.trod_int underlying3 h1
    simp only [List.cons.injEq, and_true] at e1
    subst e1
    obtain ⟨a2, e2, rfl, w2⟩ := DataW.trod_int underlying3 h2
    simp only [List.cons.injEq, and_true] at e2
    subst e2
    obtain ⟨a3, e3, rfl, w3⟩ := DataW.trod_string underlying9 h3
    simp only [List.cons.injEq, and_true] at e3
    subst e3
    obtain ⟨k4, n4, x4, rfl, rfl, rfl, rfl, w4k, w4n, w4x⟩ := open_value_c h4
    exact ⟨⟨a0, a1, a2, a3, k4, n4, x4⟩, rfl, Go.Cs.fits_i64 w0, Go.Cs.fits_i64 w1, Go.Cs.fits_i64 w2, Go.Cs.fits_i64 w4k, Go.Cs.fits_i64 w4n⟩
theorem open_acts {H : Type} {enc : TypeId × Value → H} {W : World} {r : Reach} {b0 : Nat} {v : Value} {d : DataW H} {ps : List MemPlace} (hval : Value.okWide Tryz.prog W r b0 22 v) (hd : DataW.Trod enc Tryz.prog W 0 (fun _ => true) true 22 v d ps) :
    ∃ (A us : List ActD) (cp : Nat) (oi : Option BI) (ad : Nat → Option Addr), (∀ ρ, QIn ρ W oi (us.flatMap actC)) ∧ (∀ (ρ : Ren) j, ρ j = oi → VRel ρ (.slice (ad j) A.length cp) v) ∧ (∀ a ∈ A, ActOk a) ∧ (A = [] ∨ (ad = fun j => some ⟨j, 0, none⟩) ∧ ∀ k, k < A.length → us[k]? = A[k]?) ∧ A.length ≤ 9223372036854775807 :=
  open_rows (c := 7) actC ActOk underlying22 ce32 (fun _ => rfl) (fun a x hx => by
    simp only [actC, List.mem_cons, List.not_mem_nil, or_false] at hx
    rcases hx with rfl | rfl | rfl | rfl | rfl | rfl | rfl <;> rfl) (by omega) el_Act12 hval hd
theorem acts_cut : ∀ (l : List ActD) (k : Nat) (x : ActD), l[k]? = some x → k * 7 + 7 ≤ (l.flatMap actC).length ∧ List.take 7 (List.drop (k * 7) (l.flatMap actC)) = actC x := by
  intro l
  induction l with
  | nil => intro k x h; simp at h
  | cons y l ih =>
    intro k x h
    rw [List.flatMap_cons]
    cases k with
    | zero =>
      simp at h; subst h
      exact ⟨by rw [List.length_append]; show 0 * 7 + 7 ≤ 7 + _; omega, rfl⟩
    | succ k =>
      obtain ⟨h1, h2⟩ := ih k x (by simpa using h)
      refine ⟨by rw [List.length_append]; show _ ≤ 7 + _; omega, ?_⟩
      rw [show (k + 1) * 7 = 7 + k * 7 by omega, ← List.drop_drop]
      exact h2
end Go.Proofs.Tryz
