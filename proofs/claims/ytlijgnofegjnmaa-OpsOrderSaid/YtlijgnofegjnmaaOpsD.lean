/- What signs make of two values: all kinds; what comes of them as parts. A lemma file: no statement of its own. -/
import Derived.Test.YtlijgnofegjnmaaFwF
import Derived.Test.YtlijgnofegjnmaaOpsE
import Derived.Test.YtlijgnofegjnmaaOpsK1
import Derived.Test.YtlijgnofegjnmaaOpsK2
import Derived.Test.YtlijgnofegjnmaaOpsK3
import Derived.Test.YtlijgnofegjnmaaOpsK4
import Derived.Test.YtlijgnofegjnmaaOpsK5
import Derived.Test.YtlijgnofegjnmaaOpsR1
import Derived.Test.YtlijgnofegjnmaaOpsR2
import Derived.Test.YtlijgnofegjnmaaOpsR3
import Derived.Test.YtlijgnofegjnmaaOpsR4
import Derived.Test.YtlijgnofegjnmaaOpsR5
import Derived.Test.YtlijgnofegjnmaaW04
set_option linter.unusedSimpArgs false
set_option linter.unusedVariables false
set_option linter.unusedSectionVars false
namespace Go.Proofs.Try
open Go.Cs
open Go.RowKit (Below)
set_option maxRecDepth 100000
attribute [local irreducible] CCalls WLoop WScope

section
variable {M : Type} [Mem M] {w0 : World} {s : St M} {R : Value → St M → Prop}

theorem bin_spec {op k n k' n' : Int} {x x' : ByteArray} {most : Int} (hn : I64 n) (hm : -1 ≤ most ∧ most ≤ 9223372036854775807) (hx : x.size ≤ 1000000) (hx' : x'.size ≤ 1000000) (h : ∀ s', s.le s' → R (binV op k n x k' n' x' most) s') :
    CCalls Try.prog w0 12 #[.int .i64 op, vA k n x, vA k' n' x', .int .i64 most] s R := by
  by_cases h2 : k = 2
  · subst h2
    by_cases h3 : k' = 2
    · subst h3; exact bin_K1 (k := 0) (k' := 0) hn hm hx hx' h
    · exact bin_K2 (k := 0) hn hm hx hx' h3 h
  · by_cases h4 : k = 3
    · subst h4
      by_cases h3 : k' = 3
      · subst h3; exact bin_K3 (k := 0) (k' := 0) hn hm hx hx' h
      · exact bin_K4 (k := 0) hn hm hx hx' h3 h
    · exact bin_K5 hn hm hx hx' h2 h4 h
theorem rbin_spec {op k n k' n' : Int} {x x' : ByteArray} {most : Int} (hn : I64 n) (hx : x.size ≤ 1000000) (hx' : x'.size ≤ 1000000) (h : ∀ s', s.le s' → R (binV op k n x k' n' x' most) s') :
    CCalls Try.prog w0 13 #[.int .i64 op, vA k n x, vA k' n' x', .int .i64 most] s R := by
  by_cases h2 : k = 2
  · subst h2
    by_cases h3 : k' = 2
    · subst h3; exact rbin_R1 (k := 0) (k' := 0) hn hx hx' h
    · exact rbin_R2 (k := 0) hn hx hx' h3 h
  · by_cases h4 : k = 3
    · subst h4
      by_cases h3 : k' = 3
      · subst h3; exact rbin_R3 (k := 0) (k' := 0) hn hx hx' h
      · exact rbin_R4 (k := 0) hn hx hx' h3 h
    · exact rbin_R5 hn hx hx' h2 h4 h

/-- A value and an error. -/
def tupV (v : Value) : Prop := ∃ (a b : Int) (x : ByteArray) (e : Int), v = .tuple #[vA a b x, .int .i64 e]
theorem whole_tup (n e e' : Int) : tupV (.tuple #[wholeV n e, .int .i64 e']) := by
  unfold wholeV; split
  · exact ⟨_, _, _, _, rfl⟩
  · exact ⟨_, _, _, _, rfl⟩
theorem binV_tup (op k n : Int) (x : ByteArray) (k' n' : Int) (x' : ByteArray) (most : Int) : tupV (binV op k n x k' n' x' most) := by
  unfold binV joinV
  repeat' split
  all_goals first
    | exact ⟨_, _, _, _, rfl⟩
    | exact whole_tup _ _ _
theorem unV_tup (op k n : Int) : tupV (unV op k n) := by
  unfold unV
  repeat' split
  all_goals exact ⟨_, _, _, _, rfl⟩
theorem lenV_tup (k : Int) (x : ByteArray) : tupV (lenV k x) := by
  unfold lenV
  split
  all_goals exact ⟨_, _, _, _, rfl⟩
theorem textV_tup (k n : Int) (x : ByteArray) (most : Int) : tupV (textV k n x most) := by
  unfold textV
  split
  all_goals exact ⟨_, _, _, _, rfl⟩

/-! Rows of values that are handed to short -/
theorem row1 (a b : Int) (x : ByteArray) : crow Try.prog 44 1 #[(0, .agg #[.int .i64 a, .int .i64 b, .string x])] = some (.cells [.int .i64 a, .int .i64 b, .string x] 23 true) := by kernel_rfl
theorem row2 (a b : Int) (x : ByteArray) (a' b' : Int) (x' : ByteArray) : crow Try.prog 44 2 #[(0, .agg #[.int .i64 a, .int .i64 b, .string x]), (1, .agg #[.int .i64 a', .int .i64 b', .string x'])] =
    some (.cells [.int .i64 a, .int .i64 b, .string x, .int .i64 a', .int .i64 b', .string x'] 23 true) := by kernel_rfl

/-- The strings of values in a row are short. -/
def shortB (l : List ByteArray) : Bool := l.all fun x => decide ((x.size : Int) ≤ 1000)
set_option maxHeartbeats 4000000 in
theorem short_spec {b c : Nat} {l : List ByteArray} {cs : List Value} (hc : s.at' b = some (.cells cs 23 true)) (hn : cs.length = l.length * 3) (hl : l.length ≤ 1000000) (hx : ∀ i x, l[i]? = some x → cs[i * 3 + 2]? = some (.string x)) (h : R (.bool (shortB l)) s) :
    CCalls Try.prog w0 10 #[.slice (some ⟨b, 0, none⟩) l.length c] s R := by
  refine wfun2 hmix ok10 (l := [.slice (some ⟨b, 0, none⟩) l.length c]) func10 rfl ntmps10 results10 (by simp) ?_
  simp -implicitDefEqProofs only [↓Zd, (Zp), if_true, if_false, ne_eq, implies_true, forall_const, Nat.reduceEqDiff, reduceIte, reduceCtorEq, Int.reduceEq, Int.reduceNeg, Int.reduceLE, Int.reduceLT, Nat.reduceAdd, Nat.reduceLeDiff, Int.reduceToNat, Nat.reduceMul, Nat.reduceBEq, okPart, Value.cells, cut, okCell, cld2, underlying3, underlying4, underlying9, underlying23, vA, is23, ag23, ce23, fa23x0, fa23x1, fa23x2, ag3, ce3, ag9, ce9, underlying3, underlying4, underlying9, underlying5, underlying26, underlying0, be4, bn4, bv0, bv1, bv2, bv3, ze23, sz23, sz3, underlying27, underlying29, underlying51, underlying56, underlying44]
  refine wloop_fix hmix [4, 5, 6, 7, 10, 11, 12, 13, 14, 15, 16, 2, 8, 9, 3] (fun k env s' => ∃ i : Nat, k = l.length - i ∧ i ≤ l.length ∧ env 3 = .int .i64 i ∧ s' = s ∧ shortB (l.drop i) = shortB l) (l.length - 0) ?_ ?_
  · exact ⟨0, rfl, by omega, rfl, rfl, rfl⟩
  · rintro k env s' hF ⟨i, rfl, hi, e3, rfl, hs⟩
    have e0 : env 0 = .slice (some ⟨b, 0, none⟩) l.length c := by rw [hF 0 rfl]; rfl
    by_cases hlt : i < l.length
    · have hlt' : (i : Int) < (l.length : Int) := by omega
      have h0 : (0 : Int) ≤ (i : Int) := by omega
      have hd := List.drop_eq_getElem_cons hlt
      have hx1 := hx i l[i] (by simp [hlt])
      have w7 : IntKind.i64.wrap ((i : Int) + 1) = ((i + 1 : Nat) : Int) := by rw [wrap_i64 (by omega)]; omega
      by_cases hb : (1000 : Int) < (l[i].size : Int)
      · simp -implicitDefEqProofs only [↓Zd, (Zp), if_true, if_false, ne_eq, implies_true, forall_const, Nat.reduceEqDiff, reduceIte, reduceCtorEq, Int.reduceEq, Int.reduceNeg, Int.reduceLE, Int.reduceLT, Nat.reduceAdd, Nat.reduceLeDiff, Int.reduceToNat, Nat.reduceMul, Nat.reduceBEq, okPart, Value.cells, cut, okCell, cld2, underlying3, underlying4, underlying9, underlying23, vA, is23, ag23, ce23, fa23x0, fa23x1, fa23x2, ag3, ce3, ag9, ce9, underlying3, underlying4, underlying9, underlying5, underlying26, underlying0, be4, bn4, bv0, bv1, bv2, bv3, ze23, sz23, sz3, underlying27, underlying29, underlying51, underlying56, underlying44, e0, e3, hlt', h0, hc, hx1, hb, w7]
        have hde : decide ((l[i].size : Int) ≤ 1000) = false := decide_eq_false (by omega)
        have : shortB l = false := by
          rw [← hs, hd]
          show (decide _ && _) = false
          rw [hde]; rfl
        rw [this] at h
        exact h
      · simp -implicitDefEqProofs only [↓Zd, (Zp), if_true, if_false, ne_eq, implies_true, forall_const, Nat.reduceEqDiff, reduceIte, reduceCtorEq, Int.reduceEq, Int.reduceNeg, Int.reduceLE, Int.reduceLT, Nat.reduceAdd, Nat.reduceLeDiff, Int.reduceToNat, Nat.reduceMul, Nat.reduceBEq, okPart, Value.cells, cut, okCell, cld2, underlying3, underlying4, underlying9, underlying23, vA, is23, ag23, ce23, fa23x0, fa23x1, fa23x2, ag3, ce3, ag9, ce9, underlying3, underlying4, underlying9, underlying5, underlying26, underlying0, be4, bn4, bv0, bv1, bv2, bv3, ze23, sz23, sz3, underlying27, underlying29, underlying51, underlying56, underlying44, e0, e3, hlt', h0, hc, hx1, hb, w7]
        refine ⟨?_, l.length - (i + 1), by omega, i + 1, rfl, by omega, rfl, ?_⟩
        · repeat (first | exact hF | refine Fix.upd (by decide) ?_)
        · have hde : decide ((l[i].size : Int) ≤ 1000) = true := decide_eq_true (by omega)
          rw [← hs, hd]
          show _ = (decide _ && _)
          rw [hde]; rfl
    · have hlt' : ¬ (i : Int) < (l.length : Int) := by omega
      simp -implicitDefEqProofs only [↓Zd, (Zp), if_true, if_false, ne_eq, implies_true, forall_const, Nat.reduceEqDiff, reduceIte, reduceCtorEq, Int.reduceEq, Int.reduceNeg, Int.reduceLE, Int.reduceLT, Nat.reduceAdd, Nat.reduceLeDiff, Int.reduceToNat, Nat.reduceMul, Nat.reduceBEq, okPart, Value.cells, cut, okCell, cld2, underlying3, underlying4, underlying9, underlying23, vA, is23, ag23, ce23, fa23x0, fa23x1, fa23x2, ag3, ce3, ag9, ce9, underlying3, underlying4, underlying9, underlying5, underlying26, underlying0, be4, bn4, bv0, bv1, bv2, bv3, ze23, sz23, sz3, underlying27, underlying29, underlying51, underlying56, underlying44, e0, e3, hlt']
      have : shortB l = true := by rw [← hs, List.drop_eq_nil_of_le (by omega)]; rfl
      rw [this] at h
      exact h
end
end Go.Proofs.Try
