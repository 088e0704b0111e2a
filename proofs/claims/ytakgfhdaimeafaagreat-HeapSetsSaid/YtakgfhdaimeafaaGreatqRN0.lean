/- The document's heap without objects: the walks of what is done to it. A lemma file: no statement of its own. -/
import Derived.Test.YtakgfhdaimeafaaGreatqFwF
import Derived.Test.YtakgfhdaimeafaaGreatqHPN
set_option linter.unusedSimpArgs false
set_option linter.unusedVariables false
set_option linter.unusedSectionVars false
namespace Go.Proofs.Tryz
open Go.Cs
open Go.RowKit (Below)
set_option maxRecDepth 100000
attribute [local irreducible] CCalls WLoop WScope CRound WRange
set_option linter.defProp false in
def REx := (And.intro (And.intro (And.intro (And.intro (And.intro (And.intro @underlying78 (And.intro @sz78 @is78)) (And.intro @ce78 (And.intro @ag78 @ze78))) (And.intro (And.intro @fa78x0 (And.intro @fa78x1 @fa78x2)) (And.intro @fa78x3 (And.intro @fa78x4 @underlying34)))) (And.intro (And.intro (And.intro @sz34 (And.intro @is34 @ce34)) (And.intro @ag34 (And.intro @ze34 @nt34))) (And.intro (And.intro @nn34 (And.intro @nf34 @ng34)) (And.intro (And.intro @underlying74 @sz74) (And.intro @is74 @ce74))))) (And.intro (And.intro (And.intro (And.intro @ag74 (And.intro @ze74 @underlying107)) (And.intro @sz107 (And.intro @is107 @ce107))) (And.intro (And.intro @ag107 (And.intro @ze107 @nt107)) (And.intro (And.intro @nn107 @nf107) (And.intro @ng107 @underlying106)))) (And.intro (And.intro (And.intro @sz106 (And.intro @is106 @ce106)) (And.intro @ag106 (And.intro @ze106 @fa106x0))) (And.intro (And.intro @fa106x1 (And.intro @fa106x2 @fa106x3)) (And.intro (And.intro @underlying137 @sz137) (And.intro @is137 @ce137)))))) (And.intro (And.intro (And.intro (And.intro (And.intro @ag137 (And.intro @ze137 @fa137x0)) (And.intro @fa137x1 (And.intro @underlying72 @sz72))) (And.intro (And.intro @is72 (And.intro @ce72 @ag72)) (And.intro (And.intro @ze72 @nt72) (And.intro @nn72 @nf72)))) (And.intro (And.intro (And.intro @ng72 (And.intro @underlying135 @sz135)) (And.intro @is135 (And.intro @ce135 @ag135))) (And.intro (And.intro @ze135 (And.intro @underlying159 @sz159)) (And.intro (And.intro @is159 @ce159) (And.intro @ag159 @ze159))))) (And.intro (And.intro (And.intro (And.intro @fa159x0 (And.intro @fa159x1 @underlying76)) (And.intro @sz76 (And.intro @is76 @ce76))) (And.intro (And.intro @ag76 (And.intro @ze76 @fa76x0)) (And.intro (And.intro @underlying42 @sz42) (And.intro @is42 @ce42)))) (And.intro (And.intro (And.intro @ag42 (And.intro @ze42 @underlying130)) (And.intro @sz130 (And.intro @is130 @ce130))) (And.intro (And.intro @ag130 (And.intro @ze130 @underlying66)) (And.intro (And.intro @sz66 @is66) (And.intro @ce66 @ag66)))))))
section
variable {M : Type} [Mem M] {w0 : World} {s : St M} {R : Value → St M → Prop} {r f : Nat}
structure RZ (s : St M) (r f : Nat) : Prop where
  heap : s.at' r = some (.cells [.slice none 0 0, .int .i64 0, .int .i64 0, .pointer (some ⟨f, 0, none⟩), .slice none 0 0] 78 true)
  forest : s.at' f = some (.cells [.slice none 0 0, .int .i64 0] 137 true)
  rn : r < s.next
  fn : f < s.next
theorem RZ.same {s' : St M} (h : RZ s r f) (hn : s.next ≤ s'.next) (h1 : s'.at' r = s.at' r) (h2 : s'.at' f = s.at' f) : RZ s' r f :=
  ⟨h1.trans h.heap, h2.trans h.forest, by have := h.rn; omega, by have := h.fn; omega⟩
theorem RZ.le {s' : St M} (h : RZ s r f) (hs : s.le s') : RZ s' r f := h.same hs.1 (hs.2 _ h.rn) (hs.2 _ h.fn)
theorem rzHas {o : Int} (h : RZ s r f) (hR : R (.bool false) s) : CCalls Tryz.prog w0 59 #[.pointer (some ⟨r, 0, none⟩), .int .i64 o] s R := by
  refine wfun2 hmix ok59 (l := [.pointer (some ⟨r, 0, none⟩), .int .i64 o]) func59 rfl ntmps59 results59 (by simp) ?_
  have h1 := h.heap
  by_cases h0 : 1 ≤ o
  · have h2 : ¬ o ≤ 0 := by omega
    simp -implicitDefEqProofs only [↓Zd, (Zp), if_true, if_false, ne_eq, implies_true, forall_const, Nat.reduceEqDiff, reduceIte, reduceCtorEq, Int.reduceEq, Int.reduceNeg, Int.reduceLE, Int.reduceLT, Nat.reduceAdd, Nat.reduceLeDiff, Int.reduceToNat, Nat.reduceMul, Nat.reduceBEq, okPart, Value.cells, cut, okCell, cld2, (HEx), (REx), vA, h1, h0, h2]
    exact hR
  · simp -implicitDefEqProofs only [↓Zd, (Zp), if_true, if_false, ne_eq, implies_true, forall_const, Nat.reduceEqDiff, reduceIte, reduceCtorEq, Int.reduceEq, Int.reduceNeg, Int.reduceLE, Int.reduceLT, Nat.reduceAdd, Nat.reduceLeDiff, Int.reduceToNat, Nat.reduceMul, Nat.reduceBEq, okPart, Value.cells, cut, okCell, cld2, (HEx), (REx), vA, h1, h0]
    exact hR
theorem rzMake (h : RZ s r f) (hR : R (.tuple #[.int .i64 0, .int .i64 40]) s) : CCalls Tryz.prog w0 30 #[.pointer (some ⟨r, 0, none⟩)] s R := by
  refine wfun2 hmix ok30 (l := [.pointer (some ⟨r, 0, none⟩)]) func30 rfl ntmps30 results30 (by simp) ?_
  have h1 := h.heap
  simp -implicitDefEqProofs only [↓Zd, (Zp), if_true, if_false, ne_eq, implies_true, forall_const, Nat.reduceEqDiff, reduceIte, reduceCtorEq, Int.reduceEq, Int.reduceNeg, Int.reduceLE, Int.reduceLT, Nat.reduceAdd, Nat.reduceLeDiff, Int.reduceToNat, Nat.reduceMul, Nat.reduceBEq, okPart, Value.cells, cut, okCell, cld2, (HEx), (REx), vA, h1, ord30]
  exact hR
theorem rzSet {o k n : Int} {x y : ByteArray} (h : RZ s r f) (hR : ∀ s', s.le s' → R (.int .i64 4) s') : CCalls Tryz.prog w0 31 #[.pointer (some ⟨r, 0, none⟩), .int .i64 o, .string x, .agg #[.int .i64 k, .int .i64 n, .string y]] s R := by
  refine wfun2 hmix ok31 (l := [.pointer (some ⟨r, 0, none⟩), .int .i64 o, .string x, .agg #[.int .i64 k, .int .i64 n, .string y]]) func31 rfl ntmps31 results31 (by simp) ?_
  simp -implicitDefEqProofs only [↓Zd, (Zp), if_true, if_false, ne_eq, implies_true, forall_const, Nat.reduceEqDiff, reduceIte, reduceCtorEq, Int.reduceEq, Int.reduceNeg, Int.reduceLE, Int.reduceLT, Nat.reduceAdd, Nat.reduceLeDiff, Int.reduceToNat, Nat.reduceMul, Nat.reduceBEq, okPart, Value.cells, cut, okCell, cld2, (HEx), (REx), vA, co59]
  refine rzHas (h.le (St.le_new (St.le_refl _))) ?_
  simp -implicitDefEqProofs only [↓Zd, (Zp), if_true, if_false, ne_eq, implies_true, forall_const, Nat.reduceEqDiff, reduceIte, reduceCtorEq, Int.reduceEq, Int.reduceNeg, Int.reduceLE, Int.reduceLT, Nat.reduceAdd, Nat.reduceLeDiff, Int.reduceToNat, Nat.reduceMul, Nat.reduceBEq, okPart, Value.cells, cut, okCell, cld2, (HEx), (REx), vA]
  exact hR _ (by repeat (first | exact St.le_refl _ | assumption | refine St.le_new ?_ | refine St.le_put ?_ (by first | omega | (simp only [St.next_new, St.next_put, St.next_kill]; omega)) | refine St.le_trans ?_ (by assumption)))
theorem rzOwn {o : Int} {x : ByteArray} (h : RZ s r f) (hR : ∀ s', s.le s' → R (.tuple #[.agg #[.int .i64 0, .int .i64 0, .string ⟨#[]⟩], .bool false]) s') : CCalls Tryz.prog w0 56 #[.pointer (some ⟨r, 0, none⟩), .int .i64 o, .string x] s R := by
  refine wfun2 hmix ok56 (l := [.pointer (some ⟨r, 0, none⟩), .int .i64 o, .string x]) func56 rfl ntmps56 results56 (by simp) ?_
  simp -implicitDefEqProofs only [↓Zd, (Zp), if_true, if_false, ne_eq, implies_true, forall_const, Nat.reduceEqDiff, reduceIte, reduceCtorEq, Int.reduceEq, Int.reduceNeg, Int.reduceLE, Int.reduceLT, Nat.reduceAdd, Nat.reduceLeDiff, Int.reduceToNat, Nat.reduceMul, Nat.reduceBEq, okPart, Value.cells, cut, okCell, cld2, (HEx), (REx), vA, co59]
  refine rzHas (h.le (St.le_new (St.le_refl _))) ?_
  simp -implicitDefEqProofs only [↓Zd, (Zp), if_true, if_false, ne_eq, implies_true, forall_const, Nat.reduceEqDiff, reduceIte, reduceCtorEq, Int.reduceEq, Int.reduceNeg, Int.reduceLE, Int.reduceLT, Nat.reduceAdd, Nat.reduceLeDiff, Int.reduceToNat, Nat.reduceMul, Nat.reduceBEq, okPart, Value.cells, cut, okCell, cld2, (HEx), (REx), vA]
  exact hR _ (by repeat (first | exact St.le_refl _ | assumption | refine St.le_new ?_ | refine St.le_put ?_ (by first | omega | (simp only [St.next_new, St.next_put, St.next_kill]; omega)) | refine St.le_trans ?_ (by assumption)))
theorem rzDelete {o : Int} {x : ByteArray} (h : RZ s r f) (hR : ∀ s', s.le s' → R (.bool false) s') : CCalls Tryz.prog w0 32 #[.pointer (some ⟨r, 0, none⟩), .int .i64 o, .string x] s R := by
  refine wfun2 hmix ok32 (l := [.pointer (some ⟨r, 0, none⟩), .int .i64 o, .string x]) func32 rfl ntmps32 results32 (by simp) ?_
  simp -implicitDefEqProofs only [↓Zd, (Zp), if_true, if_false, ne_eq, implies_true, forall_const, Nat.reduceEqDiff, reduceIte, reduceCtorEq, Int.reduceEq, Int.reduceNeg, Int.reduceLE, Int.reduceLT, Nat.reduceAdd, Nat.reduceLeDiff, Int.reduceToNat, Nat.reduceMul, Nat.reduceBEq, okPart, Value.cells, cut, okCell, cld2, (HEx), (REx), vA, co56]
  refine rzOwn h fun s1 hs1 => ?_
  simp -implicitDefEqProofs only [↓Zd, (Zp), if_true, if_false, ne_eq, implies_true, forall_const, Nat.reduceEqDiff, reduceIte, reduceCtorEq, Int.reduceEq, Int.reduceNeg, Int.reduceLE, Int.reduceLT, Nat.reduceAdd, Nat.reduceLeDiff, Int.reduceToNat, Nat.reduceMul, Nat.reduceBEq, okPart, Value.cells, cut, okCell, cld2, (HEx), (REx), vA]
  exact hR _ (St.le_put (St.le_new hs1) hs1.1)
theorem rzProto {o q : Int} (h : RZ s r f) (hR : R (.int .i64 4) s) : CCalls Tryz.prog w0 33 #[.pointer (some ⟨r, 0, none⟩), .int .i64 o, .int .i64 q] s R := by
  refine wfun2 hmix ok33 (l := [.pointer (some ⟨r, 0, none⟩), .int .i64 o, .int .i64 q]) func33 rfl ntmps33 results33 (by simp) ?_
  simp -implicitDefEqProofs only [↓Zd, (Zp), if_true, if_false, ne_eq, implies_true, forall_const, Nat.reduceEqDiff, reduceIte, reduceCtorEq, Int.reduceEq, Int.reduceNeg, Int.reduceLE, Int.reduceLT, Nat.reduceAdd, Nat.reduceLeDiff, Int.reduceToNat, Nat.reduceMul, Nat.reduceBEq, okPart, Value.cells, cut, okCell, cld2, (HEx), (REx), vA, co59]
  refine rzHas h ?_
  simp -implicitDefEqProofs only [↓Zd, (Zp), if_true, if_false, ne_eq, implies_true, forall_const, Nat.reduceEqDiff, reduceIte, reduceCtorEq, Int.reduceEq, Int.reduceNeg, Int.reduceLE, Int.reduceLT, Nat.reduceAdd, Nat.reduceLeDiff, Int.reduceToNat, Nat.reduceMul, Nat.reduceBEq, okPart, Value.cells, cut, okCell, cld2, (HEx), (REx), vA]
  exact hR
theorem rzSlot {o k : Int} (h : RZ s r f) (hR : ∀ s', s.le s' → R (.tuple #[.agg #[.int .i64 0, .int .i64 0, .string ⟨#[]⟩], .bool false]) s') : CCalls Tryz.prog w0 63 #[.pointer (some ⟨r, 0, none⟩), .int .i64 o, .int .i64 k] s R := by
  refine wfun2 hmix ok63 (l := [.pointer (some ⟨r, 0, none⟩), .int .i64 o, .int .i64 k]) func63 rfl ntmps63 results63 (by simp) ?_
  simp -implicitDefEqProofs only [↓Zd, (Zp), if_true, if_false, ne_eq, implies_true, forall_const, Nat.reduceEqDiff, reduceIte, reduceCtorEq, Int.reduceEq, Int.reduceNeg, Int.reduceLE, Int.reduceLT, Nat.reduceAdd, Nat.reduceLeDiff, Int.reduceToNat, Nat.reduceMul, Nat.reduceBEq, okPart, Value.cells, cut, okCell, cld2, (HEx), (REx), vA, co59]
  refine rzHas (h.le (St.le_new (St.le_refl _))) ?_
  simp -implicitDefEqProofs only [↓Zd, (Zp), if_true, if_false, ne_eq, implies_true, forall_const, Nat.reduceEqDiff, reduceIte, reduceCtorEq, Int.reduceEq, Int.reduceNeg, Int.reduceLE, Int.reduceLT, Nat.reduceAdd, Nat.reduceLeDiff, Int.reduceToNat, Nat.reduceMul, Nat.reduceBEq, okPart, Value.cells, cut, okCell, cld2, (HEx), (REx), vA]
  exact hR _ (by repeat (first | exact St.le_refl _ | assumption | refine St.le_new ?_ | refine St.le_put ?_ (by first | omega | (simp only [St.next_new, St.next_put, St.next_kill]; omega)) | refine St.le_trans ?_ (by assumption)))
theorem rzPut {o q k n : Int} {y : ByteArray} (h : RZ s r f) (hR : ∀ s', s.le s' → R (.bool false) s') : CCalls Tryz.prog w0 35 #[.pointer (some ⟨r, 0, none⟩), .int .i64 o, .int .i64 q, .agg #[.int .i64 k, .int .i64 n, .string y]] s R := by
  refine wfun2 hmix ok35 (l := [.pointer (some ⟨r, 0, none⟩), .int .i64 o, .int .i64 q, .agg #[.int .i64 k, .int .i64 n, .string y]]) func35 rfl ntmps35 results35 (by simp) ?_
  have l1 : s.le (s.new (.cells [.int .i64 k, .int .i64 n, .string y] 30 true)) := St.le_new (St.le_refl _)
  simp -implicitDefEqProofs only [↓Zd, (Zp), if_true, if_false, ne_eq, implies_true, forall_const, Nat.reduceEqDiff, reduceIte, reduceCtorEq, Int.reduceEq, Int.reduceNeg, Int.reduceLE, Int.reduceLT, Nat.reduceAdd, Nat.reduceLeDiff, Int.reduceToNat, Nat.reduceMul, Nat.reduceBEq, okPart, Value.cells, cut, okCell, cld2, (HEx), (REx), vA, co63]
  refine rzSlot (h.le l1) fun s1 hs1 => ?_
  simp -implicitDefEqProofs only [↓Zd, (Zp), if_true, if_false, ne_eq, implies_true, forall_const, Nat.reduceEqDiff, reduceIte, reduceCtorEq, Int.reduceEq, Int.reduceNeg, Int.reduceLE, Int.reduceLT, Nat.reduceAdd, Nat.reduceLeDiff, Int.reduceToNat, Nat.reduceMul, Nat.reduceBEq, okPart, Value.cells, cut, okCell, cld2, (HEx), (REx), vA]
  exact hR _ (St.le_put (St.le_new (St.le_trans l1 hs1)) (by have := hs1.1; simp only [St.next_new] at this; omega))
theorem rzGrow {o q k n : Int} {y : ByteArray} (h : RZ s r f) (hR : ∀ s', s.le s' → R (.int .i64 4) s') : CCalls Tryz.prog w0 37 #[.pointer (some ⟨r, 0, none⟩), .int .i64 o, .int .i64 q, .agg #[.int .i64 k, .int .i64 n, .string y]] s R := by
  refine wfun2 hmix ok37 (l := [.pointer (some ⟨r, 0, none⟩), .int .i64 o, .int .i64 q, .agg #[.int .i64 k, .int .i64 n, .string y]]) func37 rfl ntmps37 results37 (by simp) ?_
  simp -implicitDefEqProofs only [↓Zd, (Zp), if_true, if_false, ne_eq, implies_true, forall_const, Nat.reduceEqDiff, reduceIte, reduceCtorEq, Int.reduceEq, Int.reduceNeg, Int.reduceLE, Int.reduceLT, Nat.reduceAdd, Nat.reduceLeDiff, Int.reduceToNat, Nat.reduceMul, Nat.reduceBEq, okPart, Value.cells, cut, okCell, cld2, (HEx), (REx), vA, co59]
  refine rzHas (h.le (St.le_new (St.le_refl _))) ?_
  simp -implicitDefEqProofs only [↓Zd, (Zp), if_true, if_false, ne_eq, implies_true, forall_const, Nat.reduceEqDiff, reduceIte, reduceCtorEq, Int.reduceEq, Int.reduceNeg, Int.reduceLE, Int.reduceLT, Nat.reduceAdd, Nat.reduceLeDiff, Int.reduceToNat, Nat.reduceMul, Nat.reduceBEq, okPart, Value.cells, cut, okCell, cld2, (HEx), (REx), vA]
  exact hR _ (by repeat (first | exact St.le_refl _ | assumption | refine St.le_new ?_ | refine St.le_put ?_ (by first | omega | (simp only [St.next_new, St.next_put, St.next_kill]; omega)) | refine St.le_trans ?_ (by assumption)))
theorem rzFHas {o : Int} (h : RZ s r f) (hR : R (.bool false) s) : CCalls Tryz.prog w0 86 #[.pointer (some ⟨f, 0, none⟩), .int .i64 o] s R := by
  refine wfun2 hmix ok86 (l := [.pointer (some ⟨f, 0, none⟩), .int .i64 o]) func86 rfl ntmps86 results86 (by simp) ?_
  have h1 := h.forest
  by_cases h0 : 1 ≤ o
  · have h2 : ¬ o ≤ 0 := by omega
    simp -implicitDefEqProofs only [↓Zd, (Zp), if_true, if_false, ne_eq, implies_true, forall_const, Nat.reduceEqDiff, reduceIte, reduceCtorEq, Int.reduceEq, Int.reduceNeg, Int.reduceLE, Int.reduceLT, Nat.reduceAdd, Nat.reduceLeDiff, Int.reduceToNat, Nat.reduceMul, Nat.reduceBEq, okPart, Value.cells, cut, okCell, cld2, (HEx), (REx), vA, h1, h0, h2]
    exact hR
  · simp -implicitDefEqProofs only [↓Zd, (Zp), if_true, if_false, ne_eq, implies_true, forall_const, Nat.reduceEqDiff, reduceIte, reduceCtorEq, Int.reduceEq, Int.reduceNeg, Int.reduceLE, Int.reduceLT, Nat.reduceAdd, Nat.reduceLeDiff, Int.reduceToNat, Nat.reduceMul, Nat.reduceBEq, okPart, Value.cells, cut, okCell, cld2, (HEx), (REx), vA, h1, h0]
    exact hR
theorem rzNext {o : Int} {x : ByteArray} (h : RZ s r f) (hR : R (.int .i64 0) s) : CCalls Tryz.prog w0 39 #[.pointer (some ⟨r, 0, none⟩), .int .i64 o, .string x] s R := by
  refine wfun2 hmix ok39 (l := [.pointer (some ⟨r, 0, none⟩), .int .i64 o, .string x]) func39 rfl ntmps39 results39 (by simp) ?_
  have h1 := h.heap
  simp -implicitDefEqProofs only [↓Zd, (Zp), if_true, if_false, ne_eq, implies_true, forall_const, Nat.reduceEqDiff, reduceIte, reduceCtorEq, Int.reduceEq, Int.reduceNeg, Int.reduceLE, Int.reduceLT, Nat.reduceAdd, Nat.reduceLeDiff, Int.reduceToNat, Nat.reduceMul, Nat.reduceBEq, okPart, Value.cells, cut, okCell, cld2, (HEx), (REx), vA, h1, ord39, co86]
  refine rzFHas h ?_
  simp -implicitDefEqProofs only [↓Zd, (Zp), if_true, if_false, ne_eq, implies_true, forall_const, Nat.reduceEqDiff, reduceIte, reduceCtorEq, Int.reduceEq, Int.reduceNeg, Int.reduceLE, Int.reduceLT, Nat.reduceAdd, Nat.reduceLeDiff, Int.reduceToNat, Nat.reduceMul, Nat.reduceBEq, okPart, Value.cells, cut, okCell, cld2, (HEx), (REx), vA, ord39]
  exact hR
theorem rzGet {o : Int} {x : ByteArray} (h : RZ s r f) (hR : ∀ s', s.le s' → R (.agg #[.int .i64 0, .int .i64 0, .string ⟨#[]⟩]) s') : CCalls Tryz.prog w0 40 #[.pointer (some ⟨r, 0, none⟩), .int .i64 o, .string x] s R := by
  refine wfun2 hmix ok40 (l := [.pointer (some ⟨r, 0, none⟩), .int .i64 o, .string x]) func40 rfl ntmps40 results40 (by simp) ?_
  have h1 := h.heap
  have hrn := h.rn
  have hne : ¬ r = s.next := by omega
  simp -implicitDefEqProofs only [↓Zd, (Zp), if_true, if_false, ne_eq, implies_true, forall_const, Nat.reduceEqDiff, reduceIte, reduceCtorEq, Int.reduceEq, Int.reduceNeg, Int.reduceLE, Int.reduceLT, Nat.reduceAdd, Nat.reduceLeDiff, Int.reduceToNat, Nat.reduceMul, Nat.reduceBEq, okPart, Value.cells, cut, okCell, cld2, (HEx), (REx), vA]
  refine wloop_fix hmix [1, 7, 8, 9, 10, 11, 12, 13, 14, 15, 16, 17, 18, 19, 20, 21, 22, 23, 24, 25, 26, 27, 28, 29, 30, 31, 32, 33, 34, 35, 36, 37, 38, 39, 40, 41, 42, 43] (fun fuel env s1 => s1 = s.new (.cells [.int .i64 0, .int .i64 0, .string ⟨#[]⟩] 30 true) ∧ env 1 = .int .i64 o ∧ env 7 = .int .i64 0) 0 ⟨rfl, rfl, rfl⟩ ?_
  rintro fuel env s1 hFx ⟨rfl, e1, e7⟩
  have e0 : env 0 = .pointer (some ⟨r, 0, none⟩) := by rw [hFx 0 rfl]; rfl
  have e6 : env 6 = .pointer (some ⟨s.next, 0, none⟩) := by rw [hFx 6 rfl]; rfl
  simp -implicitDefEqProofs only [↓Zd, (Zp), if_true, if_false, ne_eq, implies_true, forall_const, Nat.reduceEqDiff, reduceIte, reduceCtorEq, Int.reduceEq, Int.reduceNeg, Int.reduceLE, Int.reduceLT, Nat.reduceAdd, Nat.reduceLeDiff, Int.reduceToNat, Nat.reduceMul, Nat.reduceBEq, okPart, Value.cells, cut, okCell, cld2, (HEx), (REx), vA, e0, e1, e6, e7, h1, hne, co59]
  refine rzHas (h.le (St.le_new (St.le_refl _))) ?_
  simp -implicitDefEqProofs only [↓Zd, (Zp), if_true, if_false, ne_eq, implies_true, forall_const, Nat.reduceEqDiff, reduceIte, reduceCtorEq, Int.reduceEq, Int.reduceNeg, Int.reduceLE, Int.reduceLT, Nat.reduceAdd, Nat.reduceLeDiff, Int.reduceToNat, Nat.reduceMul, Nat.reduceBEq, okPart, Value.cells, cut, okCell, cld2, (HEx), (REx), vA, e0, e1, e6, e7]
  exact hR _ (by repeat (first | exact St.le_refl _ | assumption | refine St.le_new ?_ | refine St.le_put ?_ (by first | omega | (simp only [St.next_new, St.next_put, St.next_kill]; omega)) | refine St.le_trans ?_ (by assumption)))
theorem rzNew {a b c d n : Int} (ha : a = 0) (hc : c = 0) (hn : n = 0) (hR : ∀ s' r f, RZ s' r f → s.le s' → s.next ≤ r → s.next ≤ f → R (.pointer (some ⟨r, 0, none⟩)) s') : CCalls Tryz.prog w0 11 #[.agg #[.int .i64 a, .int .i64 b, .int .i64 c, .int .i64 d], .int .i64 n] s R := by
  subst ha hc hn
  refine wfun2 hmix ok11 (l := [.agg #[.int .i64 0, .int .i64 b, .int .i64 0, .int .i64 d], .int .i64 0]) func11 rfl ntmps11 results11 (by simp) ?_
  have hcut : ∀ {m : Int} {s : St M} {R : Value → St M → Prop}, 0 ≤ m → R (.int .i64 0) s → CCalls Tryz.prog w0 41 #[.int .i64 0, .int .i64 m] s R := by
    intro m s R hm hR
    refine wfun2 hmix ok41 (l := [.int .i64 0, .int .i64 m]) func41 rfl ntmps41 results41 (by simp) ?_
    have h2 : ¬ m < 0 := by omega
    simp -implicitDefEqProofs only [↓Zd, (Zp), if_true, if_false, ne_eq, implies_true, forall_const, Nat.reduceEqDiff, reduceIte, reduceCtorEq, Int.reduceEq, Int.reduceNeg, Int.reduceLE, Int.reduceLT, Nat.reduceAdd, Nat.reduceLeDiff, Int.reduceToNat, Nat.reduceMul, Nat.reduceBEq, okPart, Value.cells, cut, okCell, cld2, (HEx), (REx), vA, h2]
    exact hR
  have hbF : cbuild Tryz.prog 137 #[(1, .int .i64 0)] = some (.agg #[.slice none 0 0, .int .i64 0]) := by kernel_rfl
  have hbH : ∀ f : Nat, cbuild Tryz.prog 78 #[(1, .int .i64 0), (2, .int .i64 0), (3, .pointer (some ⟨f, 0, none⟩))] = some (.agg #[.slice none 0 0, .int .i64 0, .int .i64 0, .pointer (some ⟨f, 0, none⟩), .slice none 0 0]) := fun f => by kernel_rfl
  have hfnew : ∀ {s : St M} {R : Value → St M → Prop}, R (.pointer (some ⟨s.next, 0, none⟩)) (s.new (.cells [.slice none 0 0, .int .i64 0] 137 true)) → CCalls Tryz.prog w0 42 #[.int .i64 0] s R := by
    intro s R hR
    refine wfun2 hmix ok42 (l := [.int .i64 0]) func42 rfl ntmps42 results42 (by simp) ?_
    simp -implicitDefEqProofs only [↓Zd, (Zp), if_true, if_false, ne_eq, implies_true, forall_const, Nat.reduceEqDiff, reduceIte, reduceCtorEq, Int.reduceEq, Int.reduceNeg, Int.reduceLE, Int.reduceLT, Nat.reduceAdd, Nat.reduceLeDiff, Int.reduceToNat, Nat.reduceMul, Nat.reduceBEq, okPart, Value.cells, cut, okCell, cld2, (HEx), (REx), vA, hbF]
    exact hR
  simp -implicitDefEqProofs only [↓Zd, (Zp), if_true, if_false, ne_eq, implies_true, forall_const, Nat.reduceEqDiff, reduceIte, reduceCtorEq, Int.reduceEq, Int.reduceNeg, Int.reduceLE, Int.reduceLT, Nat.reduceAdd, Nat.reduceLeDiff, Int.reduceToNat, Nat.reduceMul, Nat.reduceBEq, okPart, Value.cells, cut, okCell, cld2, (HEx), (REx), vA, underlying27, sz27, is27, ce27, ag27, ze27, fa27x0, fa27x1, fa27x2, fa27x3, ord11, co41]
  refine hcut (by omega) ?_
  simp -implicitDefEqProofs only [↓Zd, (Zp), if_true, if_false, ne_eq, implies_true, forall_const, Nat.reduceEqDiff, reduceIte, reduceCtorEq, Int.reduceEq, Int.reduceNeg, Int.reduceLE, Int.reduceLT, Nat.reduceAdd, Nat.reduceLeDiff, Int.reduceToNat, Nat.reduceMul, Nat.reduceBEq, okPart, Value.cells, cut, okCell, cld2, (HEx), (REx), vA, underlying27, sz27, is27, ce27, ag27, ze27, fa27x0, fa27x1, fa27x2, fa27x3, ord11, co41]
  refine hcut (by omega) ?_
  simp -implicitDefEqProofs only [↓Zd, (Zp), if_true, if_false, ne_eq, implies_true, forall_const, Nat.reduceEqDiff, reduceIte, reduceCtorEq, Int.reduceEq, Int.reduceNeg, Int.reduceLE, Int.reduceLT, Nat.reduceAdd, Nat.reduceLeDiff, Int.reduceToNat, Nat.reduceMul, Nat.reduceBEq, okPart, Value.cells, cut, okCell, cld2, (HEx), (REx), vA, underlying27, sz27, is27, ce27, ag27, ze27, fa27x0, fa27x1, fa27x2, fa27x3, ord11, co42]
  refine hfnew ?_
  simp -implicitDefEqProofs only [↓Zd, (Zp), if_true, if_false, ne_eq, implies_true, forall_const, Nat.reduceEqDiff, reduceIte, reduceCtorEq, Int.reduceEq, Int.reduceNeg, Int.reduceLE, Int.reduceLT, Nat.reduceAdd, Nat.reduceLeDiff, Int.reduceToNat, Nat.reduceMul, Nat.reduceBEq, okPart, Value.cells, cut, okCell, cld2, (HEx), (REx), vA, underlying27, sz27, is27, ce27, ag27, ze27, fa27x0, fa27x1, fa27x2, fa27x3, ord11, hbH]
  refine hR _ _ (s.next + 1) ⟨by rw [St.at_new, if_pos (by simp only [St.next_new])], by rw [St.at_new, if_neg (by simp only [St.next_new]; omega), St.at_new, if_pos (by simp only [St.next_new])], by simp only [St.next_new]; omega, by simp only [St.next_new]; omega⟩ (by repeat (first | exact St.le_refl _ | assumption | refine St.le_new ?_ | refine St.le_put ?_ (by first | omega | (simp only [St.next_new, St.next_put, St.next_kill]; omega)) | refine St.le_trans ?_ (by assumption))) (by omega) (by omega)
end
end Go.Proofs.Tryz
