/- The walk of the law that both tables of names answer alike. A lemma file: no statement of its own. -/
import Derived.Test.YtiachndgldjbfaaFwF
import Derived.Test.YtiachndgldjbfaaNamesD
set_option linter.unusedSimpArgs false
set_option linter.unusedVariables false
set_option linter.unusedSectionVars false
namespace Go.Proofs.Try
open Go.Cs
open Go.RowKit (Below)
set_option maxRecDepth 100000
attribute [local irreducible] CCalls WLoop WScope

theorem newR : cbuild Try.prog 29 #[] = some (.agg #[.slice none 0 0]) := by kernel_rfl
theorem txt_tup (T : List ByteArray) (i : Int) : ∃ y b, txtV T i = .tuple #[.string y, .bool b] := by
  unfold txtV; split <;> exact ⟨_, _, rfl⟩

section
variable {M : Type} [Mem M] {w0 : World} {s : St M} {R : Value → St M → Prop}

theorem RTab.row {lo : Nat} {s : St M} {p : Nat} {T : List ByteArray} {O : Nat → Prop} (h : RTab lo s p T O) : ∃ a c, s.at' p = some (.cells [.slice a T.length c] 29 true) := by
  obtain ⟨_, _, sl, h3, h7, _⟩ := h
  rcases h7 with ⟨h1, _, rfl⟩ | ⟨b, c, rfl, _⟩
  · exact ⟨none, 0, by rw [h1]; exact h3⟩
  · exact ⟨_, _, h3⟩

/-- Both tables, apart. -/
def Both (lo : Nat) (s : St M) (p q : Nat) (T : List ByteArray) : Prop := ∃ O O', TabAt lo s p T O ∧ RTab lo s q T O' ∧ ∀ b, O b → ¬ O' b

set_option maxHeartbeats 16000000 in
theorem namesPlay_spec {ao bo : Option Addr} {l m : List ByteArray} {c d : Nat} (hl : RowV s ao l) (hm : RowV s bo m) (h : ∀ s', R (.bool true) s') : CCalls Try.prog w0 3 #[.slice ao l.length c, .slice bo m.length d] s R := by
  refine wfun2 hmix ok3 (l := [.slice ao l.length c, .slice bo m.length d]) func3 rfl ntmps3 results3 (by simp) ?_
  simp -implicitDefEqProofs only [↓Zd, (Zp), if_true, if_false, ne_eq, implies_true, forall_const, Nat.reduceEqDiff, reduceIte, reduceCtorEq, Int.reduceEq, Int.reduceNeg, Int.reduceLE, Int.reduceLT, Nat.reduceAdd, Nat.reduceLeDiff, Int.reduceToNat, Nat.reduceMul, Nat.reduceBEq, okPart, Value.cells, cut, okCell, cld2, underlying3, underlying4, underlying9, underlying5, underlying44, underlying0, be4, bn4, ord3, co15]
  refine long_spec hl ?_ fun hlen => ?_
  · simp -implicitDefEqProofs only [↓Zd, (Zp), if_true, if_false, ne_eq, implies_true, forall_const, Nat.reduceEqDiff, reduceIte, reduceCtorEq, Int.reduceEq, Int.reduceNeg, Int.reduceLE, Int.reduceLT, Nat.reduceAdd, Nat.reduceLeDiff, Int.reduceToNat, Nat.reduceMul, Nat.reduceBEq, okPart, Value.cells, cut, okCell, cld2, underlying3, underlying4, underlying9, underlying5, underlying44, underlying0, be4, bn4, co16]
    refine works10_spec ?_
    simp -implicitDefEqProofs only [↓Zd, (Zp), if_true, if_false, ne_eq, implies_true, forall_const, Nat.reduceEqDiff, reduceIte, reduceCtorEq, Int.reduceEq, Int.reduceNeg, Int.reduceLE, Int.reduceLT, Nat.reduceAdd, Nat.reduceLeDiff, Int.reduceToNat, Nat.reduceMul, Nat.reduceBEq, okPart, Value.cells, cut, okCell, cld2, underlying3, underlying4, underlying9, underlying5, underlying44, underlying0, be4, bn4]
    exact h _
  simp -implicitDefEqProofs only [↓Zd, (Zp), if_true, if_false, ne_eq, implies_true, forall_const, Nat.reduceEqDiff, reduceIte, reduceCtorEq, Int.reduceEq, Int.reduceNeg, Int.reduceLE, Int.reduceLT, Nat.reduceAdd, Nat.reduceLeDiff, Int.reduceToNat, Nat.reduceMul, Nat.reduceBEq, okPart, Value.cells, cut, okCell, cld2, underlying3, underlying4, underlying9, underlying5, underlying44, underlying0, be4, bn4, co15]
  refine long_spec hm ?_ fun hlen2 => ?_
  · simp -implicitDefEqProofs only [↓Zd, (Zp), if_true, if_false, ne_eq, implies_true, forall_const, Nat.reduceEqDiff, reduceIte, reduceCtorEq, Int.reduceEq, Int.reduceNeg, Int.reduceLE, Int.reduceLT, Nat.reduceAdd, Nat.reduceLeDiff, Int.reduceToNat, Nat.reduceMul, Nat.reduceBEq, okPart, Value.cells, cut, okCell, cld2, underlying3, underlying4, underlying9, underlying5, underlying44, underlying0, be4, bn4, co16]
    refine works10_spec ?_
    simp -implicitDefEqProofs only [↓Zd, (Zp), if_true, if_false, ne_eq, implies_true, forall_const, Nat.reduceEqDiff, reduceIte, reduceCtorEq, Int.reduceEq, Int.reduceNeg, Int.reduceLE, Int.reduceLT, Nat.reduceAdd, Nat.reduceLeDiff, Int.reduceToNat, Nat.reduceMul, Nat.reduceBEq, okPart, Value.cells, cut, okCell, cld2, underlying3, underlying4, underlying9, underlying5, underlying44, underlying0, be4, bn4]
    exact h _
  simp -implicitDefEqProofs only [↓Zd, (Zp), if_true, if_false, ne_eq, implies_true, forall_const, Nat.reduceEqDiff, reduceIte, reduceCtorEq, Int.reduceEq, Int.reduceNeg, Int.reduceLE, Int.reduceLT, Nat.reduceAdd, Nat.reduceLeDiff, Int.reduceToNat, Nat.reduceMul, Nat.reduceBEq, okPart, Value.cells, cut, okCell, cld2, underlying3, underlying4, underlying9, underlying5, underlying44, underlying0, be4, bn4, co17]
  refine new_spec (lo := s.next) (Nat.le_refl _) fun s1 p O hT hs1 hO => ?_
  simp -implicitDefEqProofs only [↓Zd, (Zp), if_true, if_false, ne_eq, implies_true, forall_const, Nat.reduceEqDiff, reduceIte, reduceCtorEq, Int.reduceEq, Int.reduceNeg, Int.reduceLE, Int.reduceLT, Nat.reduceAdd, Nat.reduceLeDiff, Int.reduceToNat, Nat.reduceMul, Nat.reduceBEq, okPart, Value.cells, cut, okCell, cld2, underlying3, underlying4, underlying9, underlying5, underlying44, underlying0, be4, bn4, underlying25, underlying27, underlying29, newR, is29]
  refine wloop_fix hmix [28, 29, 30, 31, 34, 35, 36, 37, 38, 39, 40, 41, 42, 43, 44, 45, 46, 47, 48, 49, 50, 51, 52, 53, 54, 55, 56, 4, 32, 33, 7] (fun k env s' => ∃ i : Nat, k = 101 - i ∧ i ≤ l.length ∧ env 7 = .int .i64 i ∧ s.le s' ∧ Both s.next s' p s1.next (ofAll [] (l.take i))) 101 ?_ ?_
  · refine ⟨0, rfl, by omega, rfl, St.le_new hs1, O, fun b => b = s1.next, hT.same (by simp) (fun b hb => ?_), ⟨?_, rfl, .slice none 0 0, ?_, .inl ⟨rfl, rfl, rfl⟩, fun q n c e => by cases e⟩, ?_⟩
    · have := (hT.own b hb).2
      rw [St.at_new, if_neg (by omega)]
    · rintro b rfl
      exact ⟨hs1.1, by simp⟩
    · simp
    · rintro b hb rfl
      have := (hT.own _ hb).2
      omega
  · rintro k env s2 hF ⟨i, rfl, hi, e7, hs2, O2, O2', hT2, hR2, hd2⟩
    have e0 : env 0 = .slice ao l.length c := by rw [hF 0 rfl]; rfl
    have e1 : env 1 = .slice bo m.length d := by rw [hF 1 rfl]; rfl
    have e5 : env 5 = .pointer (some ⟨p, 0, none⟩) := by rw [hF 5 rfl]; rfl
    have e6 : env 6 = .pointer (some ⟨s1.next, 0, none⟩) := by rw [hF 6 rfl]; rfl
    have hlT : (ofAll [] (l.take i)).length ≤ i := by have := ofAll_len [] (l.take i); simp at this; omega
    by_cases hlt : i < l.length
    · have hlt' : (i : Int) < (l.length : Int) := by omega
      have h0 : (0 : Int) ≤ (i : Int) := by omega
      have w7 : IntKind.i64.wrap ((i : Int) + 1) = ((i + 1 : Nat) : Int) := by rw [wrap_i64 (by omega)]; omega
      obtain ⟨j, ss, rfl, h9, hx⟩ := (hl.le hs2).get hlt
      simp -implicitDefEqProofs only [↓Zd, (Zp), if_true, if_false, ne_eq, implies_true, forall_const, Nat.reduceEqDiff, reduceIte, reduceCtorEq, Int.reduceEq, Int.reduceNeg, Int.reduceLE, Int.reduceLT, Nat.reduceAdd, Nat.reduceLeDiff, Int.reduceToNat, Nat.reduceMul, Nat.reduceBEq, okPart, Value.cells, cut, okCell, cld2, underlying3, underlying4, underlying9, underlying5, underlying44, underlying0, be4, bn4, underlying22, e0, e5, e6, e7, hlt', h9, ag22, ag9, sz9, h0, hx, Nat.mul_one, Nat.zero_add, ord3, co18]
      obtain ⟨j1, hj1, ej1⟩ := ofT_idx (ofAll [] (l.take i)) l[i]
      refine of_spec hT2 hs2.1 (by omega) fun s3 O3 hT3 hn3 hk3 hO3 => ?_
      rw [ej1]
      have hs3 : s.le s3 := ⟨Nat.le_trans hs2.1 hn3, fun b hb => by rw [hk3 b (Nat.lt_of_lt_of_le hb hs2.1) (fun ho => by have := (hT2.own b ho).1; omega), hs2.2 b hb]⟩
      have hR3 : RTab s.next s3 s1.next (ofAll [] (l.take i)) O2' := hR2.same hn3 (fun b hb => hk3 b (hR2.own b hb).2 (fun ho => hd2 b ho hb))
      have hd3 : ∀ b, O3 b → ¬ O2' b := fun b hb hb' => by
        rcases hO3 b hb with ho | ho
        · exact hd2 b ho hb'
        · have := (hR2.own b hb').2; omega
      obtain ⟨j', ss', ejj, h9', hx'⟩ := (hl.le hs3).get hlt
      cases ejj
      simp -implicitDefEqProofs only [↓Zd, (Zp), if_true, if_false, ne_eq, implies_true, forall_const, Nat.reduceEqDiff, reduceIte, reduceCtorEq, Int.reduceEq, Int.reduceNeg, Int.reduceLE, Int.reduceLT, Nat.reduceAdd, Nat.reduceLeDiff, Int.reduceToNat, Nat.reduceMul, Nat.reduceBEq, okPart, Value.cells, cut, okCell, cld2, underlying3, underlying4, underlying9, underlying5, underlying44, underlying0, be4, bn4, underlying22, e0, e5, e6, e7, hlt', h9', ag22, ag9, sz9, h0, hx', Nat.mul_one, Nat.zero_add, co19]
      refine rof_spec hR3 hs3.1 (by omega) fun s4 O4 hR4 hn4 hk4 hO4 => ?_
      rw [ej1]
      have hs4 : s.le s4 := ⟨Nat.le_trans hs3.1 hn4, fun b hb => by rw [hk4 b (Nat.lt_of_lt_of_le hb hs3.1) (fun ho => by have := (hR3.own b ho).1; omega), hs3.2 b hb]⟩
      have hT4 : TabAt s.next s4 p (ofT (ofAll [] (l.take i)) l[i]) O3 := hT3.same hn4 (fun b hb => hk4 b (hT3.own b hb).2 (fun ho => hd3 b hb ho))
      have hd4 : ∀ b, O3 b → ¬ O4 b := fun b hb hb' => by
        rcases hO4 b hb' with ho | ho
        · exact hd3 b hb ho
        · have := (hT3.own b hb).2; omega
      obtain ⟨ra, rc, hrow⟩ := hR4.row
      simp -implicitDefEqProofs only [↓Zd, (Zp), if_true, if_false, ne_eq, implies_true, forall_const, Nat.reduceEqDiff, reduceIte, reduceCtorEq, Int.reduceEq, Int.reduceNeg, Int.reduceLE, Int.reduceLT, Nat.reduceAdd, Nat.reduceLeDiff, Int.reduceToNat, Nat.reduceMul, Nat.reduceBEq, okPart, Value.cells, cut, okCell, cld2, underlying3, underlying4, underlying9, underlying5, underlying44, underlying0, be4, bn4, underlying22, e5, e6, e7, hrow, fa29x0, ag22, sz22, co20]
      refine len_spec hT4 ?_
      simp -implicitDefEqProofs only [↓Zd, (Zp), if_true, if_false, ne_eq, implies_true, forall_const, Nat.reduceEqDiff, reduceIte, reduceCtorEq, Int.reduceEq, Int.reduceNeg, Int.reduceLE, Int.reduceLT, Nat.reduceAdd, Nat.reduceLeDiff, Int.reduceToNat, Nat.reduceMul, Nat.reduceBEq, okPart, Value.cells, cut, okCell, cld2, underlying3, underlying4, underlying9, underlying5, underlying44, underlying0, be4, bn4, underlying22, e5, e6, e7, w7, hrow, fa29x0, ag22, sz22]
      refine ⟨?_, 101 - (i + 1), by omega, i + 1, rfl, by omega, rfl, hs4, O3, O4, ?_, ?_, hd4⟩
      · repeat (first | exact hF | refine Fix.upd (by decide) ?_)
      · rw [ofAll_take hlt]; exact hT4
      · rw [ofAll_take hlt]; exact hR4
    · have hlt' : ¬ (i : Int) < (l.length : Int) := by omega
      have hlT' : (ofAll [] (l.take i)).length ≤ 1099511627776 := by omega
      generalize ofAll [] (l.take i) = T at *
      simp -implicitDefEqProofs only [↓Zd, (Zp), if_true, if_false, ne_eq, implies_true, forall_const, Nat.reduceEqDiff, reduceIte, reduceCtorEq, Int.reduceEq, Int.reduceNeg, Int.reduceLE, Int.reduceLT, Nat.reduceAdd, Nat.reduceLeDiff, Int.reduceToNat, Nat.reduceMul, Nat.reduceBEq, okPart, Value.cells, cut, okCell, cld2, underlying3, underlying4, underlying9, underlying5, underlying44, underlying0, be4, bn4, underlying22, e0, e1, e5, e6, e7, hlt']
      refine wloop_fix hmix [57, 58, 59, 60, 63, 64, 65, 66, 67, 68, 69, 70, 71, 72, 73, 74, 75, 76, 77, 78, 79, 80, 81, 82, 83, 84, 85, 86, 87, 88, 9, 10, 11, 12, 4, 61, 62, 8] (fun k env s' => ∃ i : Nat, k = 101 - i ∧ i ≤ m.length ∧ env 8 = .int .i64 i ∧ s' = s2) 101 ?_ ?_
      · exact ⟨0, rfl, by omega, rfl, rfl⟩
      · rintro k env2 s3 hF2 ⟨i2, rfl, hi2, e8, rfl⟩
        have f0 : env2 0 = .slice ao l.length c := by rw [hF2 0 rfl]; exact e0
        have f1 : env2 1 = .slice bo m.length d := by rw [hF2 1 rfl]; exact e1
        have f5 : env2 5 = .pointer (some ⟨p, 0, none⟩) := by rw [hF2 5 rfl]; exact e5
        have f6 : env2 6 = .pointer (some ⟨s1.next, 0, none⟩) := by rw [hF2 6 rfl]; exact e6
        by_cases hlt2 : i2 < m.length
        · have hlt2' : (i2 : Int) < (m.length : Int) := by omega
          have h0 : (0 : Int) ≤ (i2 : Int) := by omega
          have w7 : IntKind.i64.wrap ((i2 : Int) + 1) = ((i2 + 1 : Nat) : Int) := by rw [wrap_i64 (by omega)]; omega
          obtain ⟨j, ss, rfl, h9, hx⟩ := (hm.le hs2).get hlt2
          simp -implicitDefEqProofs only [↓Zd, (Zp), if_true, if_false, ne_eq, implies_true, forall_const, Nat.reduceEqDiff, reduceIte, reduceCtorEq, Int.reduceEq, Int.reduceNeg, Int.reduceLE, Int.reduceLT, Nat.reduceAdd, Nat.reduceLeDiff, Int.reduceToNat, Nat.reduceMul, Nat.reduceBEq, okPart, Value.cells, cut, okCell, cld2, underlying3, underlying4, underlying9, underlying5, underlying44, underlying0, be4, bn4, underlying22, f0, f1, f5, f6, e8, hlt2', h9, ag22, ag9, sz9, h0, hx, Nat.mul_one, Nat.zero_add, co21]
          refine find_spec hT2 ?_
          cases hid : idxOf T m[i2] with
          | none =>
            simp -implicitDefEqProofs only [↓Zd, (Zp), if_true, if_false, ne_eq, implies_true, forall_const, Nat.reduceEqDiff, reduceIte, reduceCtorEq, Int.reduceEq, Int.reduceNeg, Int.reduceLE, Int.reduceLT, Nat.reduceAdd, Nat.reduceLeDiff, Int.reduceToNat, Nat.reduceMul, Nat.reduceBEq, okPart, Value.cells, cut, okCell, cld2, underlying3, underlying4, underlying9, underlying5, underlying44, underlying0, be4, bn4, underlying22, underlying32, f0, f1, f5, f6, e8, hlt2', h9, ag22, ag9, sz9, h0, hx, Nat.mul_one, Nat.zero_add, co22]
            refine rfind_spec hlT' hR2 ?_
            rw [hid]
            simp -implicitDefEqProofs only [↓Zd, (Zp), if_true, if_false, ne_eq, implies_true, forall_const, Nat.reduceEqDiff, reduceIte, reduceCtorEq, Int.reduceEq, Int.reduceNeg, Int.reduceLE, Int.reduceLT, Nat.reduceAdd, Nat.reduceLeDiff, Int.reduceToNat, Nat.reduceMul, Nat.reduceBEq, okPart, Value.cells, cut, okCell, cld2, underlying3, underlying4, underlying9, underlying5, underlying44, underlying0, be4, bn4, underlying32, e8, w7, ord3]
            refine ⟨?_, 101 - (i2 + 1), by omega, i2 + 1, rfl, by omega, rfl⟩
            repeat (first | exact hF2 | refine Fix.upd (by decide) ?_)
          | some j2 =>
            simp -implicitDefEqProofs only [↓Zd, (Zp), if_true, if_false, ne_eq, implies_true, forall_const, Nat.reduceEqDiff, reduceIte, reduceCtorEq, Int.reduceEq, Int.reduceNeg, Int.reduceLE, Int.reduceLT, Nat.reduceAdd, Nat.reduceLeDiff, Int.reduceToNat, Nat.reduceMul, Nat.reduceBEq, okPart, Value.cells, cut, okCell, cld2, underlying3, underlying4, underlying9, underlying5, underlying44, underlying0, be4, bn4, underlying22, underlying32, f0, f1, f5, f6, e8, hlt2', h9, ag22, ag9, sz9, h0, hx, Nat.mul_one, Nat.zero_add, co22]
            refine rfind_spec hlT' hR2 ?_
            rw [hid]
            simp -implicitDefEqProofs only [↓Zd, (Zp), if_true, if_false, ne_eq, implies_true, forall_const, Nat.reduceEqDiff, reduceIte, reduceCtorEq, Int.reduceEq, Int.reduceNeg, Int.reduceLE, Int.reduceLT, Nat.reduceAdd, Nat.reduceLeDiff, Int.reduceToNat, Nat.reduceMul, Nat.reduceBEq, okPart, Value.cells, cut, okCell, cld2, underlying3, underlying4, underlying9, underlying5, underlying44, underlying0, be4, bn4, underlying32, e8, w7, ord3]
            refine ⟨?_, 101 - (i2 + 1), by omega, i2 + 1, rfl, by omega, rfl⟩
            repeat (first | exact hF2 | refine Fix.upd (by decide) ?_)
        · have hlt2' : ¬ (i2 : Int) < (m.length : Int) := by omega
          have w0 : IntKind.i64.wrap ((l.length : Int) + 2) = (l.length : Int) + 2 := wrap_i64 (by omega)
          simp -implicitDefEqProofs only [↓Zd, (Zp), if_true, if_false, ne_eq, implies_true, forall_const, Nat.reduceEqDiff, reduceIte, reduceCtorEq, Int.reduceEq, Int.reduceNeg, Int.reduceLE, Int.reduceLT, Nat.reduceAdd, Nat.reduceLeDiff, Int.reduceToNat, Nat.reduceMul, Nat.reduceBEq, okPart, Value.cells, cut, okCell, cld2, underlying3, underlying4, underlying9, underlying5, underlying44, underlying0, be4, bn4, underlying22, f0, f1, f5, f6, e8, hlt2']
          refine wloop_fix hmix [89, 90, 91, 92, 93, 96, 97, 98, 99, 100, 101, 102, 103, 104, 105, 106, 107, 108, 109, 110, 111, 112, 113, 114, 115, 14, 15, 16, 17, 4, 94, 95, 13] (fun k env s' => ∃ i : Int, k = (200 - i).toNat ∧ -1 ≤ i ∧ i ≤ 150 ∧ env 13 = .int .i64 i ∧ s' = s3) 201 ?_ ?_
          · exact ⟨-1, rfl, by omega, by omega, rfl, rfl⟩
          · rintro k env3 s4 hF3 ⟨i3, rfl, hi3, hi3', e13, rfl⟩
            have g0 : env3 0 = .slice ao l.length c := by rw [hF3 0 rfl]; exact f0
            have g5 : env3 5 = .pointer (some ⟨p, 0, none⟩) := by rw [hF3 5 rfl]; exact f5
            have g6 : env3 6 = .pointer (some ⟨s1.next, 0, none⟩) := by rw [hF3 6 rfl]; exact f6
            by_cases hlt3 : i3 < (l.length : Int) + 2
            · have w7 : IntKind.i64.wrap (i3 + 1) = i3 + 1 := wrap_i64 (by omega)
              obtain ⟨y, b, et⟩ := txt_tup T i3
              simp -implicitDefEqProofs only [↓Zd, (Zp), if_true, if_false, ne_eq, implies_true, forall_const, Nat.reduceEqDiff, reduceIte, reduceCtorEq, Int.reduceEq, Int.reduceNeg, Int.reduceLE, Int.reduceLT, Nat.reduceAdd, Nat.reduceLeDiff, Int.reduceToNat, Nat.reduceMul, Nat.reduceBEq, okPart, Value.cells, cut, okCell, cld2, underlying3, underlying4, underlying9, underlying5, underlying44, underlying0, be4, bn4, underlying22, g0, g5, g6, e13, w0, hlt3, co23]
              refine text_spec (by omega) hT2 ?_
              rw [et]
              simp -implicitDefEqProofs only [↓Zd, (Zp), if_true, if_false, ne_eq, implies_true, forall_const, Nat.reduceEqDiff, reduceIte, reduceCtorEq, Int.reduceEq, Int.reduceNeg, Int.reduceLE, Int.reduceLT, Nat.reduceAdd, Nat.reduceLeDiff, Int.reduceToNat, Nat.reduceMul, Nat.reduceBEq, okPart, Value.cells, cut, okCell, cld2, underlying3, underlying4, underlying9, underlying5, underlying44, underlying0, be4, bn4, underlying34, g0, g5, g6, e13, co24]
              refine rtext_spec (by omega) hR2 ?_
              rw [et]
              simp -implicitDefEqProofs only [↓Zd, (Zp), if_true, if_false, ne_eq, implies_true, forall_const, Nat.reduceEqDiff, reduceIte, reduceCtorEq, Int.reduceEq, Int.reduceNeg, Int.reduceLE, Int.reduceLT, Nat.reduceAdd, Nat.reduceLeDiff, Int.reduceToNat, Nat.reduceMul, Nat.reduceBEq, okPart, Value.cells, cut, okCell, cld2, underlying3, underlying4, underlying9, underlying5, underlying44, underlying0, be4, bn4, underlying34, e13, w7, beq_self_eq_true, ord3]
              refine ⟨?_, (200 - (i3 + 1)).toNat, by omega, i3 + 1, rfl, by omega, by omega, rfl⟩
              repeat (first | exact hF3 | refine Fix.upd (by decide) ?_)
            · simp -implicitDefEqProofs only [↓Zd, (Zp), if_true, if_false, ne_eq, implies_true, forall_const, Nat.reduceEqDiff, reduceIte, reduceCtorEq, Int.reduceEq, Int.reduceNeg, Int.reduceLE, Int.reduceLT, Nat.reduceAdd, Nat.reduceLeDiff, Int.reduceToNat, Nat.reduceMul, Nat.reduceBEq, okPart, Value.cells, cut, okCell, cld2, underlying3, underlying4, underlying9, underlying5, underlying44, underlying0, be4, bn4, underlying22, g0, g5, g6, e13, w0, hlt3, co16]
              refine works10_spec ?_
              simp -implicitDefEqProofs only [↓Zd, (Zp), if_true, if_false, ne_eq, implies_true, forall_const, Nat.reduceEqDiff, reduceIte, reduceCtorEq, Int.reduceEq, Int.reduceNeg, Int.reduceLE, Int.reduceLT, Nat.reduceAdd, Nat.reduceLeDiff, Int.reduceToNat, Nat.reduceMul, Nat.reduceBEq, okPart, Value.cells, cut, okCell, cld2, underlying3, underlying4, underlying9, underlying5, underlying44, underlying0, be4, bn4]
              exact h _
end

theorem namesPlay_walk {T ss : List ByteArray} {c : Nat} {oi : Option BI} {a : Nat → Option Addr} {v : Value} {T' ss' : List ByteArray} {c' : Nat} {oi' : Option BI} {a' : Nat → Option Addr} {v' : Value} {w : World}
    (hr : RowIn w oi ss) (hv : ∀ (ρ : Ren) j, ρ j = oi → VRel ρ (.slice (a j) T.length c) v) (ht : T = [] ∨ (a = fun j => some ⟨j, 0, none⟩) ∧ ∀ k, k < T.length → ss[k]? = T[k]?)
    (hr' : RowIn w oi' ss') (hv' : ∀ (ρ : Ren) j, ρ j = oi' → VRel ρ (.slice (a' j) T'.length c') v') (ht' : T' = [] ∨ (a' = fun j => some ⟨j, 0, none⟩) ∧ ∀ k, k < T'.length → ss'[k]? = T'[k]?) :
    Calls Try.prog 3 #[v, v'] w fun e w' => e = .returned (.bool true) ∧ Below w.heap.size w w' := by
  refine calls_rows (L := [ss, ss']) (B := [oi, oi']) (args := #[.slice (a 0) T.length c, .slice (a' 1) T'.length c']) rfl ?_ ⟨rfl, ?_⟩ (namesPlay_spec ?_ ?_ fun _ => rfl)
  · intro j o2 ss2 h1 h2
    match j, h1, h2 with
    | 0, h1, h2 => cases h1; cases h2; exact hr
    | 1, h1, h2 => cases h1; cases h2; exact hr'
  · intro i hi
    match i, hi with
    | 0, _ => exact hv _ 0 rfl
    | 1, _ => exact hv' _ 1 rfl
  · rcases ht with ht | ⟨rfl, ht⟩
    · exact .inl ht
    · exact .inr ⟨0, ss, rfl, by show 0 < 2; omega, rfl, ht⟩
  · rcases ht' with ht | ⟨rfl, ht⟩
    · exact .inl ht
    · exact .inr ⟨1, ss', rfl, by show 1 < 2; omega, rfl, ht⟩
end Go.Proofs.Try
