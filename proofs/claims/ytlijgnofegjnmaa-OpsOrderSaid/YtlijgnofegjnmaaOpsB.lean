/- Strings in their order: plain laws; and the walks of what compares. A lemma file: no statement of its own. -/
import Derived.Test.YtlijgnofegjnmaaFwF
import Derived.Test.YtlijgnofegjnmaaOpsA
set_option linter.unusedSimpArgs false
set_option linter.unusedVariables false
set_option linter.unusedSectionVars false
namespace Go.Proofs.Try
open Go.Cs
open Go.RowKit (Below)
set_option maxRecDepth 100000
attribute [local irreducible] CCalls WLoop WScope

/-- Does one list of bytes stand ahead of another one? -/
def ltB : List UInt8 → List UInt8 → Bool
  | [], [] => false
  | [], _ :: _ => true
  | _ :: _, [] => false
  | a :: l, b :: m => if a = b then ltB l m else decide (a.toNat < b.toNat)

theorem ltB_irrefl : ∀ l, ltB l l = false := by
  intro l; induction l with
  | nil => rfl
  | cons a l ih => simp [ltB, ih]
theorem ltB_tri : ∀ l m : List UInt8, (ltB l m = true ∧ ltB m l = false ∧ l ≠ m) ∨ (ltB l m = false ∧ ltB m l = true ∧ l ≠ m) ∨ (ltB l m = false ∧ ltB m l = false ∧ l = m) := by
  intro l
  induction l with
  | nil => intro m; cases m <;> simp [ltB]
  | cons a l ih =>
    intro m
    cases m with
    | nil => simp [ltB]
    | cons b m =>
      by_cases e : a = b
      · subst e
        have := ih m
        simpa [ltB] using this
      · have e' : ¬ b = a := fun h => e h.symm
        have hn : a.toNat ≠ b.toNat := fun h => e (UInt8.toNat_inj.1 h)
        simp only [ltB, e, e', if_false, decide_eq_true_eq, decide_eq_false_iff_not, ne_eq, List.cons.injEq, false_and, not_false_eq_true, and_true, and_false, or_false]
        omega

def cmpL (l m : List UInt8) : Int := if ltB l m = true then -1 else if ltB m l = true then 1 else 0

theorem get_bang {x : ByteArray} {i : Nat} (h : i < x.size) : x[i]! = x.data.toList[i]'(by simpa using h) := by
  rw [getElem!_pos x i h]
  rfl

theorem cmp_from (x y : ByteArray) : ∀ (d i : Nat), i + d = min x.size y.size →
    (match (List.range' i d).find? (fun i => x[i]! != y[i]!) with
      | some i => if x[i]! < y[i]! then (-1 : Int) else 1
      | none => if x.size < y.size then -1 else if x.size > y.size then 1 else 0) = cmpL (x.data.toList.drop i) (y.data.toList.drop i) := by
  intro d
  induction d with
  | zero =>
    intro i h
    simp only [List.range'_zero, List.find?_nil]
    by_cases h1 : x.size < y.size
    · have e1 : x.data.toList.drop i = [] := List.drop_eq_nil_of_le (by simp; omega)
      have e2 : ∃ c l, y.data.toList.drop i = c :: l := ⟨_, _, List.drop_eq_getElem_cons (by simp; omega)⟩
      obtain ⟨c, l, e2⟩ := e2
      rw [e1, e2, if_pos h1]
      rfl
    · by_cases h2 : x.size > y.size
      · have e1 : y.data.toList.drop i = [] := List.drop_eq_nil_of_le (by simp; omega)
        have e2 : ∃ c l, x.data.toList.drop i = c :: l := ⟨_, _, List.drop_eq_getElem_cons (by simp; omega)⟩
        obtain ⟨c, l, e2⟩ := e2
        rw [e1, e2, if_neg h1, if_pos h2]
        rfl
      · have e1 : x.data.toList.drop i = [] := List.drop_eq_nil_of_le (by simp; omega)
        have e2 : y.data.toList.drop i = [] := List.drop_eq_nil_of_le (by simp; omega)
        rw [e1, e2, if_neg h1, if_neg h2]
        rfl
  | succ d ih =>
    intro i h
    have hx : i < x.size := by omega
    have hy : i < y.size := by omega
    have ex := List.drop_eq_getElem_cons (l := x.data.toList) (i := i) (by simpa using hx)
    have ey := List.drop_eq_getElem_cons (l := y.data.toList) (i := i) (by simpa using hy)
    rw [List.range'_succ, List.find?_cons, ex, ey]
    have gx := get_bang hx
    have gy := get_bang hy
    generalize x.data.toList[i]'(by simpa using hx) = a at *
    generalize y.data.toList[i]'(by simpa using hy) = b at *
    by_cases e : a = b
    · have : (x[i]! != y[i]!) = false := by rw [gx, gy, e]; simp
      rw [this]
      have := ih (i + 1) (by omega)
      simp only at this ⊢
      rw [this]
      simp [cmpL, ltB, e]
    · have : (x[i]! != y[i]!) = true := by rw [gx, gy]; simpa using e
      rw [this]
      have e' : ¬ b = a := fun h => e h.symm
      simp only [cmpL, ltB, e, e', if_false, gx, gy, decide_eq_true_eq]
      have hn : a.toNat ≠ b.toNat := fun h => e (UInt8.toNat_inj.1 h)
      by_cases h1 : a < b
      · rw [if_pos h1, if_pos (UInt8.lt_iff_toNat_lt.1 h1)]
      · have : ¬ a.toNat < b.toNat := fun h => h1 (UInt8.lt_iff_toNat_lt.2 h)
        rw [if_neg h1, if_neg this, if_pos (by omega)]

theorem cmp_eq (x y : ByteArray) : Extern.BytealgCompare.cmp x y = cmpL x.data.toList y.data.toList := by
  have := cmp_from x y (min x.size y.size) 0 (by omega)
  simp only [List.drop_zero] at this
  rw [← this]
  unfold Extern.BytealgCompare.cmp
  rw [List.range_eq_range']
  cases List.find? (fun i => x[i]! != y[i]!) (List.range' 0 (min x.size y.size)) <;> rfl

theorem extCmp (a b : ByteArray) : cextern Try.prog 70 #[.string a, .string b] = some (.int .i64 (Extern.BytealgCompare.cmp a b)) := by kernel_rfl

section
variable {M : Type} [Mem M] {w0 : World} {s : St M} {R : Value → St M → Prop}

theorem cmpString_spec {x y : ByteArray} (h : R (.int .i64 (cmpL x.data.toList y.data.toList)) s) : CCalls Try.prog w0 68 #[.string x, .string y] s R := by
  refine wfun2 hmix ok68 (l := [.string x, .string y]) func68 rfl ntmps68 results68 (by simp) ?_
  simp -implicitDefEqProofs only [↓Zd, (Zp), if_true, if_false, ne_eq, implies_true, forall_const, Nat.reduceEqDiff, reduceIte, reduceCtorEq, Int.reduceEq, Int.reduceNeg, Int.reduceLE, Int.reduceLT, Nat.reduceAdd, Nat.reduceLeDiff, Int.reduceToNat, Nat.reduceMul, Nat.reduceBEq, okPart, Value.cells, cut, okCell, cld2, underlying3, underlying4, underlying9, underlying5, underlying26, underlying0, be4, bn4, no70, extCmp, cmp_eq]
  exact h
theorem compare_spec {x y : ByteArray} (h : R (.int .i64 (cmpL x.data.toList y.data.toList)) s) : CCalls Try.prog w0 59 #[.string x, .string y] s R := by
  refine wfun2 hmix ok59 (l := [.string x, .string y]) func59 rfl ntmps59 results59 (by simp) ?_
  simp -implicitDefEqProofs only [↓Zd, (Zp), if_true, if_false, ne_eq, implies_true, forall_const, Nat.reduceEqDiff, reduceIte, reduceCtorEq, Int.reduceEq, Int.reduceNeg, Int.reduceLE, Int.reduceLT, Nat.reduceAdd, Nat.reduceLeDiff, Int.reduceToNat, Nat.reduceMul, Nat.reduceBEq, okPart, Value.cells, cut, okCell, cld2, underlying3, underlying4, underlying9, underlying5, underlying26, underlying0, be4, bn4, co68]
  refine cmpString_spec ?_
  simp -implicitDefEqProofs only [↓Zd, (Zp), if_true, if_false, ne_eq, implies_true, forall_const, Nat.reduceEqDiff, reduceIte, reduceCtorEq, Int.reduceEq, Int.reduceNeg, Int.reduceLE, Int.reduceLT, Nat.reduceAdd, Nat.reduceLeDiff, Int.reduceToNat, Nat.reduceMul, Nat.reduceBEq, okPart, Value.cells, cut, okCell, cld2, underlying3, underlying4, underlying9, underlying5, underlying26, underlying0, be4, bn4]
  exact h

def orderN (k n : Int) (x : ByteArray) (n' : Int) (x' : ByteArray) : Int := if k = 3 then cmpL x.data.toList x'.data.toList else if n < n' then -1 else if n' < n then 1 else 0
set_option maxHeartbeats 2000000 in
theorem order_spec {k n k' n' : Int} {x x' : ByteArray} (h : ∀ s', s.le s' → R (.int .i64 (orderN k n x n' x')) s') : CCalls Try.prog w0 35 #[vA k n x, vA k' n' x'] s R := by
  refine wfun2 hmix ok35 (l := [vA k n x, vA k' n' x']) func35 rfl ntmps35 results35 (by simp) ?_
  unfold orderN at h
  by_cases hk : k = 3
  · simp only [hk, if_true] at h
    simp -implicitDefEqProofs only [↓Zd, (Zp), if_true, if_false, ne_eq, implies_true, forall_const, Nat.reduceEqDiff, reduceIte, reduceCtorEq, Int.reduceEq, Int.reduceNeg, Int.reduceLE, Int.reduceLT, Nat.reduceAdd, Nat.reduceLeDiff, Int.reduceToNat, Nat.reduceMul, Nat.reduceBEq, okPart, Value.cells, cut, okCell, cld2, underlying3, underlying4, underlying9, underlying23, vA, is23, ag23, ce23, fa23x0, fa23x1, fa23x2, ag3, ce3, ag9, ce9, underlying3, underlying4, underlying9, underlying5, underlying26, underlying0, be4, bn4, hk, co59]
    refine compare_spec ?_
    simp -implicitDefEqProofs only [↓Zd, (Zp), if_true, if_false, ne_eq, implies_true, forall_const, Nat.reduceEqDiff, reduceIte, reduceCtorEq, Int.reduceEq, Int.reduceNeg, Int.reduceLE, Int.reduceLT, Nat.reduceAdd, Nat.reduceLeDiff, Int.reduceToNat, Nat.reduceMul, Nat.reduceBEq, okPart, Value.cells, cut, okCell, cld2, underlying3, underlying4, underlying9, underlying23, vA, is23, ag23, ce23, fa23x0, fa23x1, fa23x2, ag3, ce3, ag9, ce9, underlying3, underlying4, underlying9, underlying5, underlying26, underlying0, be4, bn4]
    exact h _ (by repeat (first | exact St.le_refl _ | assumption | refine St.le_new ?_ | refine St.le_put ?_ (by first | omega | (simp only [St.next_new, St.next_put, St.next_kill]; omega)) | refine St.le_trans ?_ (by assumption)))
  · simp only [hk, if_false] at h
    by_cases h1 : n < n'
    · simp only [h1, if_true] at h
      simp -implicitDefEqProofs only [↓Zd, (Zp), if_true, if_false, ne_eq, implies_true, forall_const, Nat.reduceEqDiff, reduceIte, reduceCtorEq, Int.reduceEq, Int.reduceNeg, Int.reduceLE, Int.reduceLT, Nat.reduceAdd, Nat.reduceLeDiff, Int.reduceToNat, Nat.reduceMul, Nat.reduceBEq, okPart, Value.cells, cut, okCell, cld2, underlying3, underlying4, underlying9, underlying23, vA, is23, ag23, ce23, fa23x0, fa23x1, fa23x2, ag3, ce3, ag9, ce9, underlying3, underlying4, underlying9, underlying5, underlying26, underlying0, be4, bn4, hk, h1]
      exact h _ (by repeat (first | exact St.le_refl _ | assumption | refine St.le_new ?_ | refine St.le_put ?_ (by first | omega | (simp only [St.next_new, St.next_put, St.next_kill]; omega)) | refine St.le_trans ?_ (by assumption)))
    · by_cases h2 : n' < n
      · simp only [h1, h2, if_true, if_false] at h
        simp -implicitDefEqProofs only [↓Zd, (Zp), if_true, if_false, ne_eq, implies_true, forall_const, Nat.reduceEqDiff, reduceIte, reduceCtorEq, Int.reduceEq, Int.reduceNeg, Int.reduceLE, Int.reduceLT, Nat.reduceAdd, Nat.reduceLeDiff, Int.reduceToNat, Nat.reduceMul, Nat.reduceBEq, okPart, Value.cells, cut, okCell, cld2, underlying3, underlying4, underlying9, underlying23, vA, is23, ag23, ce23, fa23x0, fa23x1, fa23x2, ag3, ce3, ag9, ce9, underlying3, underlying4, underlying9, underlying5, underlying26, underlying0, be4, bn4, hk, h1, h2]
        exact h _ (by repeat (first | exact St.le_refl _ | assumption | refine St.le_new ?_ | refine St.le_put ?_ (by first | omega | (simp only [St.next_new, St.next_put, St.next_kill]; omega)) | refine St.le_trans ?_ (by assumption)))
      · simp only [h1, h2, if_false] at h
        simp -implicitDefEqProofs only [↓Zd, (Zp), if_true, if_false, ne_eq, implies_true, forall_const, Nat.reduceEqDiff, reduceIte, reduceCtorEq, Int.reduceEq, Int.reduceNeg, Int.reduceLE, Int.reduceLT, Nat.reduceAdd, Nat.reduceLeDiff, Int.reduceToNat, Nat.reduceMul, Nat.reduceBEq, okPart, Value.cells, cut, okCell, cld2, underlying3, underlying4, underlying9, underlying23, vA, is23, ag23, ce23, fa23x0, fa23x1, fa23x2, ag3, ce3, ag9, ce9, underlying3, underlying4, underlying9, underlying5, underlying26, underlying0, be4, bn4, hk, h1, h2]
        exact h _ (by repeat (first | exact St.le_refl _ | assumption | refine St.le_new ?_ | refine St.le_put ?_ (by first | omega | (simp only [St.next_new, St.next_put, St.next_kill]; omega)) | refine St.le_trans ?_ (by assumption)))

def lessB (k n : Int) (x : ByteArray) (n' : Int) (x' : ByteArray) : Bool := if k = 2 then decide (n < n') else ltB x.data.toList x'.data.toList
def lessI (x y : ByteArray) (k : Nat) (env : Env) (s s' : St M) : Prop := ∃ i : Nat, k = x.size - i ∧ i ≤ x.size ∧ i ≤ y.size ∧ env 5 = .int .i64 i ∧ s' = s ∧ ltB (x.data.toList.drop i) (y.data.toList.drop i) = ltB x.data.toList y.data.toList

set_option maxHeartbeats 4000000 in
theorem less_spec {k n k' n' : Int} {x x' : ByteArray} (hx : x.size ≤ 1000000) (hx' : x'.size ≤ 1000000) (h : ∀ s', s.le s' → R (.bool (lessB k n x n' x')) s') : CCalls Try.prog w0 44 #[vA k n x, vA k' n' x'] s R := by
  refine wfun2 hmix ok44 (l := [vA k n x, vA k' n' x']) func44 rfl ntmps44 results44 (by simp) ?_
  unfold lessB at h
  by_cases hk : k = 2
  · simp only [hk, if_true] at h
    simp -implicitDefEqProofs only [↓Zd, (Zp), if_true, if_false, ne_eq, implies_true, forall_const, Nat.reduceEqDiff, reduceIte, reduceCtorEq, Int.reduceEq, Int.reduceNeg, Int.reduceLE, Int.reduceLT, Nat.reduceAdd, Nat.reduceLeDiff, Int.reduceToNat, Nat.reduceMul, Nat.reduceBEq, okPart, Value.cells, cut, okCell, cld2, underlying3, underlying4, underlying9, underlying23, vA, is23, ag23, ce23, fa23x0, fa23x1, fa23x2, ag3, ce3, ag9, ce9, underlying3, underlying4, underlying9, underlying5, underlying26, underlying0, be4, bn4, hk]
    exact h _ (by repeat (first | exact St.le_refl _ | assumption | refine St.le_new ?_ | refine St.le_put ?_ (by first | omega | (simp only [St.next_new, St.next_put, St.next_kill]; omega)) | refine St.le_trans ?_ (by assumption)))
  · simp only [hk, if_false] at h
    simp -implicitDefEqProofs only [↓Zd, (Zp), if_true, if_false, ne_eq, implies_true, forall_const, Nat.reduceEqDiff, reduceIte, reduceCtorEq, Int.reduceEq, Int.reduceNeg, Int.reduceLE, Int.reduceLT, Nat.reduceAdd, Nat.reduceLeDiff, Int.reduceToNat, Nat.reduceMul, Nat.reduceBEq, okPart, Value.cells, cut, okCell, cld2, underlying3, underlying4, underlying9, underlying23, vA, is23, ag23, ce23, fa23x0, fa23x1, fa23x2, ag3, ce3, ag9, ce9, underlying3, underlying4, underlying9, underlying5, underlying26, underlying0, be4, bn4, hk]
    obtain ⟨s1, hs1⟩ : ∃ s1, (s.new (.cells [.int .i64 k, .int .i64 n, .string x] 23 true)).new (.cells [.int .i64 k', .int .i64 n', .string x'] 23 true) = s1 := ⟨_, rfl⟩
    have hle : s.le s1 := by rw [← hs1]; exact (by repeat (first | exact St.le_refl _ | assumption | refine St.le_new ?_ | refine St.le_put ?_ (by first | omega | (simp only [St.next_new, St.next_put, St.next_kill]; omega)) | refine St.le_trans ?_ (by assumption)))
    have a1 : s1.at' s.next = some (.cells [.int .i64 k, .int .i64 n, .string x] 23 true) := by rw [← hs1]; simp
    have a2 : s1.at' (s.next + 1) = some (.cells [.int .i64 k', .int .i64 n', .string x'] 23 true) := by rw [← hs1]; simp
    rw [hs1]
    refine wloop_fix hmix [14, 15, 16, 17, 18, 19, 20, 21, 22, 23, 24, 25, 28, 29, 30, 31, 32, 33, 34, 35, 36, 37, 38, 39, 40, 41, 42, 43, 44, 45, 4, 26, 27, 5] (fun k e s' => lessI x x' k e s1 s') (x.size - 0) ?_ ?_
    · exact ⟨0, rfl, by omega, by omega, rfl, rfl, rfl⟩
    · rintro m env s' hF ⟨i, rfl, hi, hi', e5, rfl, hlt⟩
      have e2 : env 2 = .pointer (some ⟨s.next, 0, none⟩) := by rw [hF 2 rfl]; rfl
      have e3 : env 3 = .pointer (some ⟨s.next + 1, 0, none⟩) := by rw [hF 3 rfl]; rfl
      have h0 : (0 : Int) ≤ (i : Int) := by omega
      have w7 : IntKind.i64.wrap ((i : Int) + 1) = ((i + 1 : Nat) : Int) := by rw [wrap_i64 (by omega)]; omega
      by_cases c1 : i < x.size
      · have c1' : (i : Int) < (x.size : Int) := by omega
        by_cases c2 : i < x'.size
        · have c2' : (i : Int) < (x'.size : Int) := by omega
          obtain ⟨a, ha, da⟩ := byte_drop c1
          obtain ⟨b, hb, db⟩ := byte_drop c2
          rw [da, db] at hlt
          by_cases e : a = b
          · subst e
            simp -implicitDefEqProofs only [↓Zd, (Zp), if_true, if_false, ne_eq, implies_true, forall_const, Nat.reduceEqDiff, reduceIte, reduceCtorEq, Int.reduceEq, Int.reduceNeg, Int.reduceLE, Int.reduceLT, Nat.reduceAdd, Nat.reduceLeDiff, Int.reduceToNat, Nat.reduceMul, Nat.reduceBEq, okPart, Value.cells, cut, okCell, cld2, underlying3, underlying4, underlying9, underlying23, vA, is23, ag23, ce23, fa23x0, fa23x1, fa23x2, ag3, ce3, ag9, ce9, underlying3, underlying4, underlying9, underlying5, underlying26, underlying0, be4, bn4, e2, e3, e5, a1, a2, h0, c1', c2', ha, hb, w7, ord44]
            refine ⟨?_, x.size - (i + 1), by omega, i + 1, rfl, by omega, by omega, rfl, rfl, ?_⟩
            · repeat (first | exact hF | refine Fix.upd (by decide) ?_)
            · rw [← hlt, ltB, if_pos rfl]
          · have en : ¬ (a.toNat : Int) = (b.toNat : Int) := fun h => e (UInt8.toNat_inj.1 (by omega))
            simp -implicitDefEqProofs only [↓Zd, (Zp), if_true, if_false, ne_eq, implies_true, forall_const, Nat.reduceEqDiff, reduceIte, reduceCtorEq, Int.reduceEq, Int.reduceNeg, Int.reduceLE, Int.reduceLT, Nat.reduceAdd, Nat.reduceLeDiff, Int.reduceToNat, Nat.reduceMul, Nat.reduceBEq, okPart, Value.cells, cut, okCell, cld2, underlying3, underlying4, underlying9, underlying23, vA, is23, ag23, ce23, fa23x0, fa23x1, fa23x2, ag3, ce3, ag9, ce9, underlying3, underlying4, underlying9, underlying5, underlying26, underlying0, be4, bn4, e2, e3, e5, a1, a2, h0, c1', c2', ha, hb, en, w7, ord44]
            have hres : ltB x.data.toList x'.data.toList = decide ((a.toNat : Int) < (b.toNat : Int)) := by
              rw [← hlt, ltB, if_neg e]
              congr 1
              rw [eq_iff_iff]; omega
            rw [hres] at h
            exact h _ hle
        · have c2' : ¬ (i : Int) < (x'.size : Int) := by omega
          have hn : x'.data.toList.drop i = [] := List.drop_eq_nil_of_le (by simp; omega)
          obtain ⟨a, ha, da⟩ := byte_drop c1
          rw [hn, da, ltB] at hlt
          have c3 : ¬ (x.size : Int) < (x'.size : Int) := by omega
          simp -implicitDefEqProofs only [↓Zd, (Zp), if_true, if_false, ne_eq, implies_true, forall_const, Nat.reduceEqDiff, reduceIte, reduceCtorEq, Int.reduceEq, Int.reduceNeg, Int.reduceLE, Int.reduceLT, Nat.reduceAdd, Nat.reduceLeDiff, Int.reduceToNat, Nat.reduceMul, Nat.reduceBEq, okPart, Value.cells, cut, okCell, cld2, underlying3, underlying4, underlying9, underlying23, vA, is23, ag23, ce23, fa23x0, fa23x1, fa23x2, ag3, ce3, ag9, ce9, underlying3, underlying4, underlying9, underlying5, underlying26, underlying0, be4, bn4, e2, e3, e5, a1, a2, h0, c1', c2', c3, ord44]
          rw [← hlt] at h
          exact h _ hle
      · have c1' : ¬ (i : Int) < (x.size : Int) := by omega
        have hn : x.data.toList.drop i = [] := List.drop_eq_nil_of_le (by simp; omega)
        by_cases c2 : i < x'.size
        · obtain ⟨b, hb, db⟩ := byte_drop c2
          rw [hn, db, ltB] at hlt
          have c3 : (x.size : Int) < (x'.size : Int) := by omega
          simp -implicitDefEqProofs only [↓Zd, (Zp), if_true, if_false, ne_eq, implies_true, forall_const, Nat.reduceEqDiff, reduceIte, reduceCtorEq, Int.reduceEq, Int.reduceNeg, Int.reduceLE, Int.reduceLT, Nat.reduceAdd, Nat.reduceLeDiff, Int.reduceToNat, Nat.reduceMul, Nat.reduceBEq, okPart, Value.cells, cut, okCell, cld2, underlying3, underlying4, underlying9, underlying23, vA, is23, ag23, ce23, fa23x0, fa23x1, fa23x2, ag3, ce3, ag9, ce9, underlying3, underlying4, underlying9, underlying5, underlying26, underlying0, be4, bn4, e2, e3, e5, a1, a2, h0, c1', c3, ord44]
          rw [← hlt] at h
          exact h _ hle
        · have hn2 : x'.data.toList.drop i = [] := List.drop_eq_nil_of_le (by simp; omega)
          rw [hn, hn2, ltB] at hlt
          have c3 : ¬ (x.size : Int) < (x'.size : Int) := by omega
          simp -implicitDefEqProofs only [↓Zd, (Zp), if_true, if_false, ne_eq, implies_true, forall_const, Nat.reduceEqDiff, reduceIte, reduceCtorEq, Int.reduceEq, Int.reduceNeg, Int.reduceLE, Int.reduceLT, Nat.reduceAdd, Nat.reduceLeDiff, Int.reduceToNat, Nat.reduceMul, Nat.reduceBEq, okPart, Value.cells, cut, okCell, cld2, underlying3, underlying4, underlying9, underlying23, vA, is23, ag23, ce23, fa23x0, fa23x1, fa23x2, ag3, ce3, ag9, ce9, underlying3, underlying4, underlying9, underlying5, underlying26, underlying0, be4, bn4, e2, e3, e5, a1, a2, h0, c1', c3, ord44]
          rw [← hlt] at h
          exact h _ hle
end
end Go.Proofs.Try
