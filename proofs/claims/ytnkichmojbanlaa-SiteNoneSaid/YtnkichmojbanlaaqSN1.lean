/- Sites that are not there: the walk of the law on them. A lemma file: no statement of its own. -/
import Derived.Test.YtnkichmojbanlaaqFwF
import Derived.Test.YtnkichmojbanlaaqSN0
set_option linter.unusedSimpArgs false
set_option linter.unusedVariables false
set_option linter.unusedSectionVars false
namespace Go.Proofs.Try
open Go.Cs
open Go.RowKit (Below)
set_option maxRecDepth 100000
attribute [local irreducible] CCalls WLoop WScope CRound WRange
theorem bTabZ : cbuild Try.prog 26 #[] = some (.agg #[.slice none 0 0, .int .i64 0, .int .i64 0]) := by kernel_rfl
theorem rowT2 (a : Addr) : crow Try.prog 27 2 #[(0, .pointer none), (1, .pointer (some a))] = some (.cells [.pointer none, .pointer (some a)] 23 true) := by kernel_rfl
section
variable {M : Type} [Mem M] {w0 : World} {s : St M} {R : Value → St M → Prop}
theorem TwoAt.mono' {n0 : Nat} {s0 s : St M} {p1 p2 : Nat} {H G : Hp} {N N' : Nat} {O1 O2 : Nat → Prop} (h : TwoAt n0 s0 s p1 p2 H G N O1 O2) (hN : N ≤ N') : TwoAt n0 s0 s p1 p2 H G N' O1 O2 := ⟨h.one.mono hN, h.two.mono hN, h.apart, h.lo, h.old, h.sim, h.sz⟩
set_option maxHeartbeats 16000000 in
theorem siteNone_spec {f g : Int} {A : List A17D} {ad : Option Addr} {cp : Nat} (hA : QRow 39 act17C s ad A) (hok : ∀ a ∈ A, Act17Ok a) (hAl : A.length ≤ 9223372036854775807)
    (hR : ∀ s', R (.bool true) s') : CCalls Try.prog w0 3 #[.slice ad A.length cp, .int .i64 f, .int .i64 g] s R := by
  refine wfun2 hmix ok3 (l := [.slice ad A.length cp, .int .i64 f, .int .i64 g]) func3 rfl ntmps3 results3 (by simp) ?_
  have hbL : cbuild Try.prog 31 #[(0, .int .i64 9), (2, .int .i64 9)] = some (.agg #[.int .i64 9, .int .i64 0, .int .i64 9, .int .i64 0]) := by kernel_rfl
  have lA : s.le ((s.new (.cells [.slice none 0 0, .int .i64 0, .int .i64 0] 26 true)).new (.cells [.pointer none, .pointer (some ⟨s.next, 0, none⟩)] 23 true)) := St.le_new (St.le_new (St.le_refl _))
  have cz : ((s.new (.cells [.slice none 0 0, .int .i64 0, .int .i64 0] 26 true)).new (.cells [.pointer none, .pointer (some ⟨s.next, 0, none⟩)] 23 true)).at' s.next = some (.cells [.slice none 0 0, .int .i64 0, .int .i64 0] 26 true) := by rw [St.at_new, if_neg (by simp only [St.next_new]; omega), St.at_new, if_pos rfl]
  have ca : ((s.new (.cells [.slice none 0 0, .int .i64 0, .int .i64 0] 26 true)).new (.cells [.pointer none, .pointer (some ⟨s.next, 0, none⟩)] 23 true)).at' (s.next + 1) = some (.cells [.pointer none, .pointer (some ⟨s.next, 0, none⟩)] 23 true) := by rw [St.at_new, if_pos (by simp only [St.next_new])]
  have nA : ((s.new (.cells [.slice none 0 0, .int .i64 0, .int .i64 0] 26 true)).new (.cells [.pointer none, .pointer (some ⟨s.next, 0, none⟩)] 23 true)).next = s.next + 2 := rfl
  simp -implicitDefEqProofs only [↓Zd, (Zp), if_true, if_false, ne_eq, implies_true, forall_const, Nat.reduceEqDiff, reduceIte, reduceCtorEq, Int.reduceEq, Int.reduceNeg, Int.reduceLE, Int.reduceLT, Nat.reduceAdd, Nat.reduceLeDiff, Int.reduceToNat, Nat.reduceMul, Nat.reduceBEq, okPart, Value.cells, cut, okCell, cld2, (HEx), (STx), vA, (A7x), underlying27, sz27, is27, ce27, ag27, ze27, bTabZ, rowT2]
  generalize (s.new (.cells [.slice none 0 0, .int .i64 0, .int .i64 0] 26 true)).new (.cells [.pointer none, .pointer (some ⟨s.next, 0, none⟩)] 23 true) = sA at lA cz ca nA ⊢
  refine wloop_inv hmix (fun fuel env s' => env 0 = .slice ad A.length cp ∧ env 1 = .int .i64 f ∧ env 2 = .int .i64 g ∧ env 8 = .slice (some ⟨s.next + 1, 0, none⟩) 2 2 ∧ ∃ j : Nat, fuel = 2 - j ∧ j ≤ 2 ∧ env 9 = .int .i64 (j : Int) ∧ sA.le s') 2 ⟨rfl, rfl, rfl, rfl, 0, rfl, by omega, rfl, St.le_refl _⟩ ?_
  rintro fuel env s2 ⟨e0, e1, e2, e8, j, rfl, hj2, e9, l2⟩
  by_cases hjl : (j : Int) < ((2 : Nat) : Int)
  case neg =>
    simp -implicitDefEqProofs only [↓Zd, (Zp), if_true, if_false, ne_eq, implies_true, forall_const, Nat.reduceEqDiff, reduceIte, reduceCtorEq, Int.reduceEq, Int.reduceNeg, Int.reduceLE, Int.reduceLT, Nat.reduceAdd, Nat.reduceLeDiff, Int.reduceToNat, Nat.reduceMul, Nat.reduceBEq, okPart, Value.cells, cut, okCell, cld2, (HEx), (STx), vA, (A7x), underlying27, sz27, is27, ce27, ag27, ze27, e8, e9, hjl, co7]
    refine works17_spec ?_
    simp -implicitDefEqProofs only [↓Zd, (Zp), if_true, if_false, ne_eq, implies_true, forall_const, Nat.reduceEqDiff, reduceIte, reduceCtorEq, Int.reduceEq, Int.reduceNeg, Int.reduceLE, Int.reduceLT, Nat.reduceAdd, Nat.reduceLeDiff, Int.reduceToNat, Nat.reduceMul, Nat.reduceBEq, okPart, Value.cells, cut, okCell, cld2, (HEx), (STx), vA]
    exact hR _
  have n2 := l2.1
  have ca2 := (l2.2 (s.next + 1) (by omega)).trans ca
  have cz2 := (l2.2 s.next (by omega)).trans cz
  obtain ⟨tv, hg, hD⟩ : ∃ tv, ([.pointer none, .pointer (some ⟨s.next, 0, none⟩)] : List Value)[j]? = some tv ∧ DeadT s2 tv := by
    match j, hjl with
    | 0, _ => exact ⟨_, rfl, .inl rfl⟩
    | 1, _ => exact ⟨_, rfl, .inr ⟨_, rfl, by omega, cz2⟩⟩
    | j + 2, h => omega
  have hjj : (0 : Int) ≤ (j : Int) ∧ (j : Int) < ((2 : Nat) : Int) := by omega
  have wj : IntKind.i64.wrap ((j : Int) + 1) = ((j + 1 : Nat) : Int) := by rw [wrap_i64 (by omega)]; omega
  have hf : ∃ a, tv = .pointer a := by rcases hD with rfl | ⟨z, rfl, _⟩ <;> exact ⟨_, rfl⟩
  obtain ⟨ta, rfl⟩ := hf
  simp -implicitDefEqProofs only [↓Zd, (Zp), if_true, if_false, ne_eq, implies_true, forall_const, Nat.reduceEqDiff, reduceIte, reduceCtorEq, Int.reduceEq, Int.reduceNeg, Int.reduceLE, Int.reduceLT, Nat.reduceAdd, Nat.reduceLeDiff, Int.reduceToNat, Nat.reduceMul, Nat.reduceBEq, okPart, Value.cells, cut, okCell, cld2, (HEx), (STx), vA, (A7x), underlying27, sz27, is27, ce27, ag27, ze27, e0, e1, e2, e8, e9, hjl, hjj, ca2, hg, hbL, Nat.mul_one, Nat.zero_add, co4]
  refine hnew_spec fun s3 p1 hH1 hs3 => ?_
  have hn3 := hs3.1
  simp -implicitDefEqProofs only [↓Zd, (Zp), if_true, if_false, ne_eq, implies_true, forall_const, Nat.reduceEqDiff, reduceIte, reduceCtorEq, Int.reduceEq, Int.reduceNeg, Int.reduceLE, Int.reduceLT, Nat.reduceAdd, Nat.reduceLeDiff, Int.reduceToNat, Nat.reduceMul, Nat.reduceBEq, okPart, Value.cells, cut, okCell, cld2, (HEx), (STx), vA, (A7x), hbL, co4]
  refine hnew_spec fun s4 p2 hH2 hs4 => ?_
  have hn4 := hs4.1
  have hT0 : TwoAt s2.next s2 s4 p1 p2 (newH 9 9 30) (newH 9 9 30) 32 (fun b => s2.next ≤ b ∧ b < s3.next) (fun b => s3.next ≤ b ∧ b < s4.next) := by
    refine ⟨(hH1.mono (Nat.zero_le _)).le hs4, (hH2.mono (Nat.zero_le _)).low (by omega), fun b h1 h2 => by omega, by omega, fun c hc => ?_, .new _ _ _ _, .new _ _ _ _⟩
    rw [hs4.2 c (by omega), hs3.2 c hc]
  simp -implicitDefEqProofs only [↓Zd, (Zp), if_true, if_false, ne_eq, implies_true, forall_const, Nat.reduceEqDiff, reduceIte, reduceCtorEq, Int.reduceEq, Int.reduceNeg, Int.reduceLE, Int.reduceLT, Nat.reduceAdd, Nat.reduceLeDiff, Int.reduceToNat, Nat.reduceMul, Nat.reduceBEq, okPart, Value.cells, cut, okCell, cld2, (HEx), (STx), vA, (A7x), co5]
  refine hmake_spec hT0.one hT0.lo fun s5 P1 hP1 hU1 => ?_
  have hn5 := hU1.next
  have hmv : ∀ H : Hp, ∃ a b, makeV H = .tuple #[.int .i64 a, .int .i64 b] := fun H => by unfold makeV; split <;> exact ⟨_, _, rfl⟩
  obtain ⟨ma, mb, hmv1⟩ := hmv (newH 9 9 30)
  obtain ⟨g2, d2⟩ := hT0.two.other hU1 hT0.apart
  rw [hmv1]
  simp -implicitDefEqProofs only [↓Zd, (Zp), if_true, if_false, ne_eq, implies_true, forall_const, Nat.reduceEqDiff, reduceIte, reduceCtorEq, Int.reduceEq, Int.reduceNeg, Int.reduceLE, Int.reduceLT, Nat.reduceAdd, Nat.reduceLeDiff, Int.reduceToNat, Nat.reduceMul, Nat.reduceBEq, okPart, Value.cells, cut, okCell, cld2, (HEx), (STx), vA, (A7x), underlying33, sz33, is33, ce33, ag33, co5]
  refine hmake_spec g2 (by have := hT0.lo; omega) fun s6 P2 hP2 hU2 => ?_
  have hT6 := hT0.step hP1 hU1 hP2 hU2 hT0.sim.make hT0.sz.make
  rw [hmv1]
  simp -implicitDefEqProofs only [↓Zd, (Zp), if_true, if_false, ne_eq, implies_true, forall_const, Nat.reduceEqDiff, reduceIte, reduceCtorEq, Int.reduceEq, Int.reduceNeg, Int.reduceLE, Int.reduceLT, Nat.reduceAdd, Nat.reduceLeDiff, Int.reduceToNat, Nat.reduceMul, Nat.reduceBEq, okPart, Value.cells, cut, okCell, cld2, (HEx), (STx), vA, (A7x), underlying33, sz33, is33, ce33, ag33]
  refine wloop_inv hmix (fun fuel env s' => env 0 = .slice ad A.length cp ∧ env 1 = .int .i64 f ∧ env 2 = .int .i64 g ∧ env 8 = .slice (some ⟨s.next + 1, 0, none⟩) 2 2 ∧ env 9 = .int .i64 (j : Int) ∧ env 10 = .pointer ta ∧ env 11 = .pointer (some ⟨p1, 0, none⟩) ∧ env 12 = .pointer (some ⟨p2, 0, none⟩) ∧
    ∃ (i : Nat) (H G : Hp) (O1 O2 : Nat → Prop), fuel = 31 - i ∧ i ≤ 30 ∧ env 13 = .int .i64 (i : Int) ∧ TwoAt s2.next s2 s' p1 p2 H G (32 + 6 * i) O1 O2) 31 ?_ ?_
  · refine ⟨?_, ?_, ?_, ?_, ?_, ?_, ?_, ?_, 0, _, _, _, _, rfl, by omega, rfl, hT6⟩ <;> first | rfl | (simp [upd_apply, e0, e1, e2, e8, e9])
  rintro fuel env3 s7 ⟨f0, f1, f2, f8, f9, f10, f11, f12, i, H, G, O1, O2, rfl, hi, f13, hT⟩
  have hTn := hT.lo
  have hD7 : DeadT s7 (.pointer ta) := hD.same hTn fun c hc _ => hT.old c hc
  by_cases hstop : (i : Int) < (A.length : Int) ∧ (i : Int) < 30
  case neg =>
    have key : ∀ (P : Prop), ((i : Int) < (A.length : Int) → ¬ (i : Int) < 30 → P) → (¬ (i : Int) < (A.length : Int) → P) → P := fun P h1 h2 => by
      by_cases h : (i : Int) < (A.length : Int)
      · exact h1 h fun h3 => hstop ⟨h, h3⟩
      · exact h2 h
    refine key _ (fun k1 k2 => ?_) (fun k1 => ?_)
    · simp -implicitDefEqProofs only [↓Zd, (Zp), if_true, if_false, ne_eq, implies_true, forall_const, Nat.reduceEqDiff, reduceIte, reduceCtorEq, Int.reduceEq, Int.reduceNeg, Int.reduceLE, Int.reduceLT, Nat.reduceAdd, Nat.reduceLeDiff, Int.reduceToNat, Nat.reduceMul, Nat.reduceBEq, okPart, Value.cells, cut, okCell, cld2, (HEx), (STx), vA, (A7x), f0, f1, f2, f10, f13, k1, k2, co14]
      refine xstate_spec hD7 ?_
      simp -implicitDefEqProofs only [↓Zd, (Zp), if_true, if_false, ne_eq, implies_true, forall_const, Nat.reduceEqDiff, reduceIte, reduceCtorEq, Int.reduceEq, Int.reduceNeg, Int.reduceLE, Int.reduceLT, Nat.reduceAdd, Nat.reduceLeDiff, Int.reduceToNat, Nat.reduceMul, Nat.reduceBEq, okPart, Value.cells, cut, okCell, cld2, (HEx), (STx), vA, (A7x), f10, f1, f2, co15]
      refine xname_spec hD7 ?_
      simp -implicitDefEqProofs only [↓Zd, (Zp), if_true, if_false, ne_eq, implies_true, forall_const, Nat.reduceEqDiff, reduceIte, reduceCtorEq, Int.reduceEq, Int.reduceNeg, Int.reduceLE, Int.reduceLT, Nat.reduceAdd, Nat.reduceLeDiff, Int.reduceToNat, Nat.reduceMul, Nat.reduceBEq, okPart, Value.cells, cut, okCell, cld2, (HEx), (STx), vA, (A7x), f10, co16]
      refine xcounts_spec hD7 ?_
      simp -implicitDefEqProofs only [↓Zd, (Zp), if_true, if_false, ne_eq, implies_true, forall_const, Nat.reduceEqDiff, reduceIte, reduceCtorEq, Int.reduceEq, Int.reduceNeg, Int.reduceLE, Int.reduceLT, Nat.reduceAdd, Nat.reduceLeDiff, Int.reduceToNat, Nat.reduceMul, Nat.reduceBEq, okPart, Value.cells, cut, okCell, cld2, (HEx), (STx), vA, (A7x), f11, f12, co17]
      refine hdump_spec hT.one (by omega) hT.sz fun s8 hs8 => ?_
      simp -implicitDefEqProofs only [↓Zd, (Zp), if_true, if_false, ne_eq, implies_true, forall_const, Nat.reduceEqDiff, reduceIte, reduceCtorEq, Int.reduceEq, Int.reduceNeg, Int.reduceLE, Int.reduceLT, Nat.reduceAdd, Nat.reduceLeDiff, Int.reduceToNat, Nat.reduceMul, Nat.reduceBEq, okPart, Value.cells, cut, okCell, cld2, (HEx), (STx), vA, (A7x), f11, f12, co17]
      refine hdump_spec (hT.le hs8).two (by omega) (sim_sz hT.sim hT.sz) fun s9 hs9 => ?_
      rw [hT.sim.dump]
      simp -implicitDefEqProofs only [↓Zd, (Zp), if_true, if_false, ne_eq, implies_true, forall_const, Nat.reduceEqDiff, reduceIte, reduceCtorEq, Int.reduceEq, Int.reduceNeg, Int.reduceLE, Int.reduceLT, Nat.reduceAdd, Nat.reduceLeDiff, Int.reduceToNat, Nat.reduceMul, Nat.reduceBEq, okPart, Value.cells, cut, okCell, cld2, (HEx), (STx), vA, (A7x), f0, f1, f2, f8, f9, wj, decide_true]
      exact ⟨2 - (j + 1), by omega, j + 1, rfl, by omega, rfl, St.le_trans l2 ⟨by have := hs8.1; have := hs9.1; omega, fun c hc => by rw [hs9.2 c (by have := hs8.1; omega), hs8.2 c (by omega)]; exact hT.old c (by omega)⟩⟩
    · simp -implicitDefEqProofs only [↓Zd, (Zp), if_true, if_false, ne_eq, implies_true, forall_const, Nat.reduceEqDiff, reduceIte, reduceCtorEq, Int.reduceEq, Int.reduceNeg, Int.reduceLE, Int.reduceLT, Nat.reduceAdd, Nat.reduceLeDiff, Int.reduceToNat, Nat.reduceMul, Nat.reduceBEq, okPart, Value.cells, cut, okCell, cld2, (HEx), (STx), vA, (A7x), f0, f1, f2, f10, f13, k1, co14]
      refine xstate_spec hD7 ?_
      simp -implicitDefEqProofs only [↓Zd, (Zp), if_true, if_false, ne_eq, implies_true, forall_const, Nat.reduceEqDiff, reduceIte, reduceCtorEq, Int.reduceEq, Int.reduceNeg, Int.reduceLE, Int.reduceLT, Nat.reduceAdd, Nat.reduceLeDiff, Int.reduceToNat, Nat.reduceMul, Nat.reduceBEq, okPart, Value.cells, cut, okCell, cld2, (HEx), (STx), vA, (A7x), f10, f1, f2, co15]
      refine xname_spec hD7 ?_
      simp -implicitDefEqProofs only [↓Zd, (Zp), if_true, if_false, ne_eq, implies_true, forall_const, Nat.reduceEqDiff, reduceIte, reduceCtorEq, Int.reduceEq, Int.reduceNeg, Int.reduceLE, Int.reduceLT, Nat.reduceAdd, Nat.reduceLeDiff, Int.reduceToNat, Nat.reduceMul, Nat.reduceBEq, okPart, Value.cells, cut, okCell, cld2, (HEx), (STx), vA, (A7x), f10, co16]
      refine xcounts_spec hD7 ?_
      simp -implicitDefEqProofs only [↓Zd, (Zp), if_true, if_false, ne_eq, implies_true, forall_const, Nat.reduceEqDiff, reduceIte, reduceCtorEq, Int.reduceEq, Int.reduceNeg, Int.reduceLE, Int.reduceLT, Nat.reduceAdd, Nat.reduceLeDiff, Int.reduceToNat, Nat.reduceMul, Nat.reduceBEq, okPart, Value.cells, cut, okCell, cld2, (HEx), (STx), vA, (A7x), f11, f12, co17]
      refine hdump_spec hT.one (by omega) hT.sz fun s8 hs8 => ?_
      simp -implicitDefEqProofs only [↓Zd, (Zp), if_true, if_false, ne_eq, implies_true, forall_const, Nat.reduceEqDiff, reduceIte, reduceCtorEq, Int.reduceEq, Int.reduceNeg, Int.reduceLE, Int.reduceLT, Nat.reduceAdd, Nat.reduceLeDiff, Int.reduceToNat, Nat.reduceMul, Nat.reduceBEq, okPart, Value.cells, cut, okCell, cld2, (HEx), (STx), vA, (A7x), f11, f12, co17]
      refine hdump_spec (hT.le hs8).two (by omega) (sim_sz hT.sim hT.sz) fun s9 hs9 => ?_
      rw [hT.sim.dump]
      simp -implicitDefEqProofs only [↓Zd, (Zp), if_true, if_false, ne_eq, implies_true, forall_const, Nat.reduceEqDiff, reduceIte, reduceCtorEq, Int.reduceEq, Int.reduceNeg, Int.reduceLE, Int.reduceLT, Nat.reduceAdd, Nat.reduceLeDiff, Int.reduceToNat, Nat.reduceMul, Nat.reduceBEq, okPart, Value.cells, cut, okCell, cld2, (HEx), (STx), vA, (A7x), f0, f1, f2, f8, f9, wj, decide_true]
      exact ⟨2 - (j + 1), by omega, j + 1, rfl, by omega, rfl, St.le_trans l2 ⟨by have := hs8.1; have := hs9.1; omega, fun c hc => by rw [hs9.2 c (by have := hs8.1; omega), hs8.2 c (by omega)]; exact hT.old c (by omega)⟩⟩
  obtain ⟨k1, k2⟩ := hstop
  have hkA : i < A.length := by omega
  have hx : A[i]? = some A[i] := by simp [hkA]
  have hxok := hok _ (List.mem_of_getElem? hx)
  generalize A[i] = x at hx hxok
  rcases hA with rfl | ⟨jj, us, rfl, hjq, hjb, hus⟩
  · simp at hkA
  have hux : us[i]? = some x := by rw [hus i hkA]; exact hx
  obtain ⟨c1, c2⟩ := acts17_cut us i x hux
  have hjb7 : s7.at' jj = some (.cells (us.flatMap act17C) 39 false) := by rw [hT.old jj (by have := lA.1; omega), l2.2 jj (by have := lA.1; omega), lA.2 jj hjq]; exact hjb
  have hkk : (0 : Int) ≤ (i : Int) ∧ (i : Int) < (A.length : Int) := by omega
  have w1 : IntKind.i64.wrap ((i : Int) + 1) = ((i + 1 : Nat) : Int) := by rw [wrap_i64 (by omega)]; omega
  obtain ⟨x0, x1, x2, x3, x4, x5, v1, v2, v3⟩ := x
  have c2 : List.take 9 (List.drop (i * 9) (us.flatMap act17C)) = [.int .i64 x0, .int .i64 x1, .int .i64 x2, .int .i64 x3, .int .i64 x4, .string x5, .int .i64 v1, .int .i64 v2, .string v3] := c2
  have cell : ∀ m v, m < 9 → ([.int .i64 x0, .int .i64 x1, .int .i64 x2, .int .i64 x3, .int .i64 x4, .string x5, .int .i64 v1, .int .i64 v2, .string v3] : List Value)[m]? = some v → (us.flatMap act17C)[i * 9 + m]? = some v := fun m v hm hv => by
    rw [← c2, List.getElem?_take, if_pos hm, List.getElem?_drop] at hv
    exact hv
  have d1 := cell 1 _ (by omega) rfl
  have d2' := cell 2 _ (by omega) rfl
  have d5 := cell 5 _ (by omega) rfl
  have d6 : List.take 3 (List.drop (i * 9 + 6) (us.flatMap act17C)) = [.int .i64 v1, .int .i64 v2, .string v3] := by
    have : List.take 3 (List.drop 6 (List.take 9 (List.drop (i * 9) (us.flatMap act17C)))) = [.int .i64 v1, .int .i64 v2, .string v3] := by rw [c2]; rfl
    rw [List.drop_take, List.take_take, List.drop_drop] at this
    simpa using this
  have d6l : i * 9 + 6 + 3 ≤ (us.flatMap act17C).length := by omega
  obtain ⟨q0, q1, q2, q3, q4, q5, q6⟩ := hxok
  simp only [I64] at q0 q1 q2 q3 q4 q5 q6
  simp -implicitDefEqProofs only [↓Zd, (Zp), if_true, if_false, ne_eq, implies_true, forall_const, Nat.reduceEqDiff, reduceIte, reduceCtorEq, Int.reduceEq, Int.reduceNeg, Int.reduceLE, Int.reduceLT, Nat.reduceAdd, Nat.reduceLeDiff, Int.reduceToNat, Nat.reduceMul, Nat.reduceBEq, okPart, Value.cells, cut, okCell, cld2, (HEx), (STx), vA, (A7x), f0, f1, f2, f10, f13, k1, k2, hkk, hjb7, c1, c2, co6]
  refine long17_spec ?_
  have l8 : s7.le (s7.new (.cells [.int .i64 x0, .int .i64 x1, .int .i64 x2, .int .i64 x3, .int .i64 x4, .string x5, .int .i64 v1, .int .i64 v2, .string v3] 39 true)) := St.le_new (St.le_refl _)
  generalize s7.new (.cells [.int .i64 x0, .int .i64 x1, .int .i64 x2, .int .i64 x3, .int .i64 x4, .string x5, .int .i64 v1, .int .i64 v2, .string v3] 39 true) = s8 at l8 ⊢
  by_cases hl : (decide ((300 : Int) < x5.size) || decide ((300 : Int) < v3.size)) = true
  · rw [hl]
    simp -implicitDefEqProofs only [↓Zd, (Zp), if_true, if_false, ne_eq, implies_true, forall_const, Nat.reduceEqDiff, reduceIte, reduceCtorEq, Int.reduceEq, Int.reduceNeg, Int.reduceLE, Int.reduceLT, Nat.reduceAdd, Nat.reduceLeDiff, Int.reduceToNat, Nat.reduceMul, Nat.reduceBEq, okPart, Value.cells, cut, okCell, cld2, (HEx), (STx), vA, (A7x), co7]
    refine works17_spec ?_
    simp -implicitDefEqProofs only [↓Zd, (Zp), if_true, if_false, ne_eq, implies_true, forall_const, Nat.reduceEqDiff, reduceIte, reduceCtorEq, Int.reduceEq, Int.reduceNeg, Int.reduceLE, Int.reduceLT, Nat.reduceAdd, Nat.reduceLeDiff, Int.reduceToNat, Nat.reduceMul, Nat.reduceBEq, okPart, Value.cells, cut, okCell, cld2, (HEx), (STx), vA]
    exact hR _
  rw [Bool.eq_false_iff.2 hl]
  have hl2 : x5.size ≤ 300 ∧ v3.size ≤ 300 := by
    simp only [Bool.or_eq_true, decide_eq_true_eq, not_or] at hl
    omega
  have hpsz : PSz 1000000 (x5, (v1, v2, v3)) := ⟨by show x5.size ≤ _; omega, by show v3.size ≤ _; omega, q6⟩
  have hT8 := hT.le l8
  have hn8 := l8.1
  have hD8 : DeadT s8 (.pointer ta) := hD.same (by omega) fun c hc _ => hT8.old c hc
  have hjold : ∀ {s9 : St M}, (∀ c, c < s2.next → s9.at' c = s2.at' c) → s9.at' jj = some (.cells (us.flatMap act17C) 39 false) := fun h => by rw [h jj (by have := lA.1; omega), l2.2 jj (by have := lA.1; omega), lA.2 jj hjq]; exact hjb
  have hjb8 := hjold hT8.old
  simp -implicitDefEqProofs only [↓Zd, (Zp), if_true, if_false, ne_eq, implies_true, forall_const, Nat.reduceEqDiff, reduceIte, reduceCtorEq, Int.reduceEq, Int.reduceNeg, Int.reduceLE, Int.reduceLT, Nat.reduceAdd, Nat.reduceLeDiff, Int.reduceToNat, Nat.reduceMul, Nat.reduceBEq, okPart, Value.cells, cut, okCell, cld2, (HEx), (STx), vA, (A7x), f0, f1, f2, f10, f11, f12, f13, k1, k2, hkk, hjb8, d1, co8]
  refine xflush_spec hD8 ?_
  simp -implicitDefEqProofs only [↓Zd, (Zp), if_true, if_false, ne_eq, implies_true, forall_const, Nat.reduceEqDiff, reduceIte, reduceCtorEq, Int.reduceEq, Int.reduceNeg, Int.reduceLE, Int.reduceLT, Nat.reduceAdd, Nat.reduceLeDiff, Int.reduceToNat, Nat.reduceMul, Nat.reduceBEq, okPart, Value.cells, cut, okCell, cld2, (HEx), (STx), vA, (A7x), f0, f1, f2, f10, f11, f12, f13, k1, k2, hkk, hjb8, d1, co9]
  refine xmega_spec hD8 ?_
  simp -implicitDefEqProofs only [↓Zd, (Zp), if_true, if_false, ne_eq, implies_true, forall_const, Nat.reduceEqDiff, reduceIte, reduceCtorEq, Int.reduceEq, Int.reduceNeg, Int.reduceLE, Int.reduceLT, Nat.reduceAdd, Nat.reduceLeDiff, Int.reduceToNat, Nat.reduceMul, Nat.reduceBEq, okPart, Value.cells, cut, okCell, cld2, (HEx), (STx), vA, (A7x), f0, f1, f2, f10, f11, f12, f13, k1, k2, hkk, hjb8, d1, d2', d5, d6, d6l, ord3, co10]
  refine xset_spec (vk := v1) (vn := v2) (vy := v3) hD8 hT8.one hT8.lo (by omega) (by omega) (by omega) fun s9 P1 hP1 hU1 => ?_
  have hn9 := hU1.next
  obtain ⟨g9, dd9⟩ := hT8.two.other hU1 hT8.apart
  have old9 : ∀ c, c < s2.next → s9.at' c = s2.at' c := fun c hc => by rw [hU1.keep c (by omega) (fun hb => by have := (hT8.one.own c hb).1; omega)]; exact hT8.old c hc
  have hjb9 := hjold old9
  simp -implicitDefEqProofs only [↓Zd, (Zp), if_true, if_false, ne_eq, implies_true, forall_const, Nat.reduceEqDiff, reduceIte, reduceCtorEq, Int.reduceEq, Int.reduceNeg, Int.reduceLE, Int.reduceLT, Nat.reduceAdd, Nat.reduceLeDiff, Int.reduceToNat, Nat.reduceMul, Nat.reduceBEq, okPart, Value.cells, cut, okCell, cld2, (HEx), (STx), vA, (A7x), f0, f1, f2, f10, f11, f12, f13, k1, k2, hkk, hjb9, d1, d2', d5, d6, d6l, ord3, co11]
  refine hset_spec (k := v1) (n := v2) (y := v3) g9 (by have := hT8.lo; omega) (by omega) (by omega) (by omega) fun s10 P2 hP2 hU2 => ?_
  have hT10 := hT8.step hP1 hU1 hP2 hU2 (hT.sim.set _ _ _) (hT.sz.set _ hpsz)
  have hn10 := hU2.next
  have hjb10 := hjold hT10.old
  have hD10 : DeadT s10 (.pointer ta) := hD.same (by omega) fun c hc _ => hT10.old c hc
  rw [← hT.sim.setE]
  simp -implicitDefEqProofs only [↓Zd, (Zp), if_true, if_false, ne_eq, implies_true, forall_const, Nat.reduceEqDiff, reduceIte, reduceCtorEq, Int.reduceEq, Int.reduceNeg, Int.reduceLE, Int.reduceLT, Nat.reduceAdd, Nat.reduceLeDiff, Int.reduceToNat, Nat.reduceMul, Nat.reduceBEq, okPart, Value.cells, cut, okCell, cld2, (HEx), (STx), vA, (A7x), f0, f1, f2, f10, f11, f12, f13, k1, k2, hkk, hjb10, d1, d2', d5, d6, d6l, ord3, decide_true, co12]
  refine xget_spec hD10 hT10.one (by omega) fun s11 v hs11 hv => ?_
  have hT11 := hT10.le hs11
  have hn11 := hs11.1
  have hjb11 := hjold hT11.old
  obtain ⟨_, tg, pf, pn, sl0, bs, hin⟩ := id hT11.two
  obtain ⟨y1, y2, y3⟩ := v
  simp only [vOf, vA]
  simp -implicitDefEqProofs only [↓Zd, (Zp), if_true, if_false, ne_eq, implies_true, forall_const, Nat.reduceEqDiff, reduceIte, reduceCtorEq, Int.reduceEq, Int.reduceNeg, Int.reduceLE, Int.reduceLT, Nat.reduceAdd, Nat.reduceLeDiff, Int.reduceToNat, Nat.reduceMul, Nat.reduceBEq, okPart, Value.cells, cut, okCell, cld2, (HEx), (STx), vA, (A7x), f0, f1, f2, f10, f11, f12, f13, k1, k2, hkk, hjb11, d1, d2', d5, d6, d6l, ord3, decide_true, co13]
  refine hget_spec hin (by omega) fun s12 w hs12 hw => ?_
  have := (hT10.sim.get hv).one hw
  subst this
  have hT12 := hT11.le hs12
  have hjb12 := hjold hT12.old
  simp only [vOf, vA]
  simp -implicitDefEqProofs only [↓Zd, (Zp), if_true, if_false, ne_eq, implies_true, forall_const, Nat.reduceEqDiff, reduceIte, reduceCtorEq, Int.reduceEq, Int.reduceNeg, Int.reduceLE, Int.reduceLT, Nat.reduceAdd, Nat.reduceLeDiff, Int.reduceToNat, Nat.reduceMul, Nat.reduceBEq, okPart, Value.cells, cut, okCell, cld2, (HEx), (STx), vA, (A7x), f0, f1, f2, f8, f9, f10, f11, f12, f13, k1, k2, hkk, hjb12, d1, d2', d5, d6, d6l, ord3, VneSelf, w1, decide_true]
  exact ⟨31 - (i + 1), by omega, i + 1, _, _, _, _, rfl, by omega, rfl, hT12.mono' (by omega)⟩
end
end Go.Proofs.Try
