/- Rows of proteuslaw17.Act as arguments. Written by gen_row.py. A lemma file: no statement of its own. -/
import Derived.Test.YtnkichmojbanlaaqRowsC
import Derived.Test.YtnkichmojbanlaaqVOpen
import Derived.Test.YtnkichmojbanlaaqHDM
import Derived.Test.YtnkichmojbanlaaqRowI
set_option linter.unusedSimpArgs false
set_option linter.unusedVariables false
set_option linter.unusedSectionVars false
set_option maxRecDepth 100000
namespace Go.Proofs.Try
open Go.Cs Go.ChangeShapes Go.WideShapes Go.ChangeAt Go.RowKit Go.ChangeMaps
structure A17D where
  a0 : Int
  a1 : Int
  a2 : Int
  a3 : Int
  a4 : Int
  a5 : ByteArray
  a6 : V3
def act17C (x : A17D) : List Value := [.int .i64 x.a0, .int .i64 x.a1, .int .i64 x.a2, .int .i64 x.a3, .int .i64 x.a4, .string x.a5, .int .i64 x.a6.1, .int .i64 x.a6.2.1, .string x.a6.2.2]
def Act17Ok (x : A17D) : Prop := I64 x.a0 ∧ I64 x.a1 ∧ I64 x.a2 ∧ I64 x.a3 ∧ I64 x.a4 ∧ I64 x.a6.1 ∧ I64 x.a6.2.1
theorem el_A17D {H : Type} {enc : TypeId × Value → H} {W : World} (n : Nat) (l : List Value) (y : DataW H × List MemPlace) (hf : DataW.trod enc Try.prog W 0 (fun _ => true) true n 39 l = some y) : ∃ a, l = act17C a ∧ Act17Ok a := by
  obtain ⟨xs, m, _, hx, hl, hlen, hp⟩ := DataW.trod_struct underlying39 hf
  rw [ce39] at hl
  have h0 : DataW.trod enc Try.prog W 0 (fun _ => true) true m 3 (List.take (Try.prog.cellsOf 3) (List.drop 0 l)) = xs[0]? := hp 0 _ rfl
  rw [ce3] at h0
  have h1 : DataW.trod enc Try.prog W 0 (fun _ => true) true m 3 (List.take (Try.prog.cellsOf 3) (List.drop 1 l)) = xs[1]? := hp 1 _ rfl
  rw [ce3] at h1
  have h2 : DataW.trod enc Try.prog W 0 (fun _ => true) true m 3 (List.take (Try.prog.cellsOf 3) (List.drop 2 l)) = xs[2]? := hp 2 _ rfl
  rw [ce3] at h2
  have h3 : DataW.trod enc Try.prog W 0 (fun _ => true) true m 3 (List.take (Try.prog.cellsOf 3) (List.drop 3 l)) = xs[3]? := hp 3 _ rfl
  rw [ce3] at h3
  have h4 : DataW.trod enc Try.prog W 0 (fun _ => true) true m 3 (List.take (Try.prog.cellsOf 3) (List.drop 4 l)) = xs[4]? := hp 4 _ rfl
  rw [ce3] at h4
  have h5 : DataW.trod enc Try.prog W 0 (fun _ => true) true m 9 (List.take (Try.prog.cellsOf 9) (List.drop 5 l)) = xs[5]? := hp 5 _ rfl
  rw [ce9] at h5
  have h6 : DataW.trod enc Try.prog W 0 (fun _ => true) true m 37 (List.take (Try.prog.cellsOf 37) (List.drop 6 l)) = xs[6]? := hp 6 _ rfl
  rw [ce37] at h6
  have hlen : xs.length = 7 := hlen
  match l, hl, xs, hlen with
  | [c0, c1, c2, c3, c4, c5, c6, c7, c8], _, [y0, y1, y2, y3, y4, y5, y6], _ =>
    simp only [List.drop_zero, List.drop_succ_cons, List.take_succ_cons, List.take_zero, List.getElem?_cons_zero, List.getElem?_cons_succ] at h0 h1 h2 h3 h4 h5 h6
    obtain ⟨a0, e0, rfl, w0⟩ := DataW.trod_int underlying3 h0
    simp only [List.cons.injEq, and_true] at e0
    subst e0
    obtain ⟨a1, e1, rfl, w1⟩ := DataW.trod_int underlying3 h1
    simp only [List.cons.injEq, and_true] at e1
    subst e1
    obtain ⟨a2, e2, rfl, w2⟩ := DataW.trod_int underlying3 h2
    simp only [List.cons.injEq, and_true] at e2
    subst e2
    obtain ⟨a3, e3, rfl, w3⟩ := DataW.trod_int underlying3 h3
    simp only [List.cons.injEq, and_true] at e3
    subst e3
    obtain ⟨a4, e4, rfl, w4⟩ := DataW.trod_int underlying3 h4
    simp only [List.cons.injEq, and_true] at e4
    subst e4
    obtain ⟨a5, e5, rfl, w5⟩ := DataW.trod_string underlying9 h5
    simp only [List.cons.injEq, and_true] at e5
    subst e5
    obtain ⟨k6, n6, x6, rfl, rfl, rfl, rfl, w6k, w6n, w6x⟩ := open_value_c h6
    exact ⟨⟨a0, a1, a2, a3, a4, a5, (k6, n6, x6)⟩, rfl, Go.Cs.fits_i64 w0, Go.Cs.fits_i64 w1, Go.Cs.fits_i64 w2, Go.Cs.fits_i64 w3, Go.Cs.fits_i64 w4, Go.Cs.fits_i64 w6k, Go.Cs.fits_i64 w6n⟩
theorem open_acts17 {H : Type} {enc : TypeId × Value → H} {W : World} {r : Reach} {b0 : Nat} {v : Value} {d : DataW H} {ps : List MemPlace} (hval : Value.okWide Try.prog W r b0 22 v) (hd : DataW.Trod enc Try.prog W 0 (fun _ => true) true 22 v d ps) :
    ∃ (A us : List A17D) (cp : Nat) (oi : Option BI) (ad : Nat → Option Addr), (∀ ρ, QIn ρ W oi (us.flatMap act17C)) ∧ (∀ (ρ : Ren) j, ρ j = oi → VRel ρ (.slice (ad j) A.length cp) v) ∧ (∀ a ∈ A, Act17Ok a) ∧ (A = [] ∨ (ad = fun j => some ⟨j, 0, none⟩) ∧ ∀ k, k < A.length → us[k]? = A[k]?) ∧ A.length ≤ 9223372036854775807 :=
  open_rows (c := 9) act17C Act17Ok underlying22 ce39 (fun _ => rfl) (fun a x hx => by
    simp only [act17C, List.mem_cons, List.not_mem_nil, or_false] at hx
    rcases hx with rfl | rfl | rfl | rfl | rfl | rfl | rfl | rfl | rfl <;> rfl) (by omega) el_A17D hval hd
theorem acts17_cut : ∀ (l : List A17D) (k : Nat) (x : A17D), l[k]? = some x → k * 9 + 9 ≤ (l.flatMap act17C).length ∧ List.take 9 (List.drop (k * 9) (l.flatMap act17C)) = act17C x := by
  intro l
  induction l with
  | nil => intro k x h; simp at h
  | cons y l ih =>
    intro k x h
    rw [List.flatMap_cons]
    cases k with
    | zero =>
      simp at h; subst h
      exact ⟨by rw [List.length_append]; show 0 * 9 + 9 ≤ 9 + _; omega, rfl⟩
    | succ k =>
      obtain ⟨h1, h2⟩ := ih k x (by simpa using h)
      refine ⟨by rw [List.length_append]; show _ ≤ 9 + _; omega, ?_⟩
      rw [show (k + 1) * 9 = 9 + k * 9 by omega, ← List.drop_drop]
      exact h2
end Go.Proofs.Try
