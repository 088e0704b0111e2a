/- The walk of the law that a number's text stays. A lemma file: no statement of its own. -/
import Derived.Test.YtiachndgldjbfaaFwF
import Derived.Test.YtiachndgldjbfaaNamesD
set_option linter.unusedSimpArgs false
set_option linter.unusedVariables false
set_option linter.unusedSectionVars false
namespace Go.Proofs.Try
open Go.Cs
open Go.RowKit (Below)
set_option maxRecDepth 100000
attribute [local irreducible] CCalls WLoop WScope

theorem infoInt : ∃ ie, Try.prog.info? 3 = some ie ∧ ie.size = 1 ∧ ie.bytes = 8 := by
  obtain ⟨ie, h⟩ := Option.isSome_iff_exists.1 is3
  have h1 := ce3
  have h2 : Try.prog.bytesOf 3 = 8 := by kernel_rfl
  rw [cellsOf_info h] at h1
  simp only [Program.bytesOf, h] at h2
  exact ⟨ie, h, h1, h2⟩
theorem rowInt (x : Int) : crow Try.prog 38 1 #[(0, .int .i64 x)] = some (.cells [.int .i64 x] 3 true) := by kernel_rfl

section
variable {M : Type} [Mem M] {w0 : World} {s : St M} {R : Value → St M → Prop}

theorem app_int {s : St M} {sl : Value} {T : List Int} {x : Int} {n : Nat} (hT : T.length = n) (hlen : n ≤ 1099511627776) (hsl : SlC 3 1 s sl (T.map (.int .i64)) n) (hfr : ∀ q m c, sl = .slice (some q) m c → q.block < s.next) :
    ∃ s', capp Try.prog #[38, 38] #[sl, .slice (some ⟨s.next, 0, none⟩) 1 1] (s.new (.cells [.int .i64 x] 3 true)) = some (.slice (some ⟨s.next + 1, 0, none⟩) (n + 1) UNK, s') ∧ s'.next = s.next + 2 ∧
      s'.at' (s.next + 1) = some (.cells ((T ++ [x]).map (.int .i64)) 3 true) ∧ (∀ b, b < s.next → (∀ q m c, sl = .slice (some q) m c → b ≠ q.block) → s'.at' b = s.at' b) := by
  obtain ⟨ie, hie, h1, h2⟩ := infoInt
  have hcapp : capp Try.prog #[38, 38] #[sl, .slice (some ⟨s.next, 0, none⟩) 1 1] (s.new (.cells [.int .i64 x] 3 true)) = capp3 Try.prog 3 ie sl (s.new (.cells [.int .i64 x] 3 true)) (cmore ie.size (.slice (some ⟨s.next, 0, none⟩) 1 1) (s.new (.cells [.int .i64 x] 3 true))) :=
    app_eq underlying38 underlying38 hie
  have hv : cmore ie.size (.slice (some ⟨s.next, 0, none⟩) 1 1) (s.new (.cells [.int .i64 x] 3 true)) = some (1, [.int .i64 x]) := by
    simp only [more_at, St.at_new, if_true, more2, h1]; rfl
  obtain ⟨s', h3, h4, h5, h6⟩ := app_row (n := n) (k := 1) hie ze3 (by rw [h1]; rfl) (by omega) hcapp (by omega) (by rw [h2]; omega) rfl hv (by rw [h1]; exact hsl.same fun q m c e => by rw [St.at_new, if_neg (by have := hfr q m c e; omega)])
  refine ⟨s', by simpa using h3, by simp at h4; omega, by simpa using h5, fun b hb hq => ?_⟩
  rw [h6 b (by simp; omega) hq, St.at_new, if_neg (by omega)]

/-- The numbers that were told lie in a row apart from the table. -/
structure Ids (lo : Nat) (s : St M) (p : Nat) (sl : Value) (N : List Int) (l T : List ByteArray) (n : Nat) : Prop where
  le : n ≤ l.length
  len : N.length = n
  row : SlC 3 1 s sl (N.map (.int .i64)) n
  tab : ∃ O, TabAt lo s p T O ∧ ∀ q m c, sl = .slice (some q) m c → ¬ O q.block ∧ lo ≤ q.block ∧ q.block < s.next
  num : ∀ k (h : k < l.length), k < n → ∃ j, idxOf T l[k] = some j ∧ N[k]? = some (((j + 1 : Nat) : Int))

set_option maxHeartbeats 16000000 in
theorem namesStay_spec {ao bo : Option Addr} {l m : List ByteArray} {c d : Nat} (hl : RowV s ao l) (hm : RowV s bo m) (h : ∀ s', R (.bool true) s') : CCalls Try.prog w0 5 #[.slice ao l.length c, .slice bo m.length d] s R := by
  refine wfun2 hmix ok5 (l := [.slice ao l.length c, .slice bo m.length d]) func5 rfl ntmps5 results5 (by simp) ?_
  simp -implicitDefEqProofs only [↓Zd, (Zp), if_true, if_false, ne_eq, implies_true, forall_const, Nat.reduceEqDiff, reduceIte, reduceCtorEq, Int.reduceEq, Int.reduceNeg, Int.reduceLE, Int.reduceLT, Nat.reduceAdd, Nat.reduceLeDiff, Int.reduceToNat, Nat.reduceMul, Nat.reduceBEq, okPart, Value.cells, cut, okCell, cld2, underlying3, underlying4, underlying9, underlying5, underlying44, underlying0, be4, bn4, ord5, co15]
  refine long_spec hl ?_ fun hlen => ?_
  · simp -implicitDefEqProofs only [↓Zd, (Zp), if_true, if_false, ne_eq, implies_true, forall_const, Nat.reduceEqDiff, reduceIte, reduceCtorEq, Int.reduceEq, Int.reduceNeg, Int.reduceLE, Int.reduceLT, Nat.reduceAdd, Nat.reduceLeDiff, Int.reduceToNat, Nat.reduceMul, Nat.reduceBEq, okPart, Value.cells, cut, okCell, cld2, underlying3, underlying4, underlying9, underlying5, underlying44, underlying0, be4, bn4, co16]
    refine works10_spec ?_
    simp -implicitDefEqProofs only [↓Zd, (Zp), if_true, if_false, ne_eq, implies_true, forall_const, Nat.reduceEqDiff, reduceIte, reduceCtorEq, Int.reduceEq, Int.reduceNeg, Int.reduceLE, Int.reduceLT, Nat.reduceAdd, Nat.reduceLeDiff, Int.reduceToNat, Nat.reduceMul, Nat.reduceBEq, okPart, Value.cells, cut, okCell, cld2, underlying3, underlying4, underlying9, underlying5, underlying44, underlying0, be4, bn4]
    exact h _
  simp -implicitDefEqProofs only [↓Zd, (Zp), if_true, if_false, ne_eq, implies_true, forall_const, Nat.reduceEqDiff, reduceIte, reduceCtorEq, Int.reduceEq, Int.reduceNeg, Int.reduceLE, Int.reduceLT, Nat.reduceAdd, Nat.reduceLeDiff, Int.reduceToNat, Nat.reduceMul, Nat.reduceBEq, okPart, Value.cells, cut, okCell, cld2, underlying3, underlying4, underlying9, underlying5, underlying44, underlying0, be4, bn4, co15]
  refine long_spec hm ?_ fun hlen2 => ?_
  · simp -implicitDefEqProofs only [↓Zd, (Zp), if_true, if_false, ne_eq, implies_true, forall_const, Nat.reduceEqDiff, reduceIte, reduceCtorEq, Int.reduceEq, Int.reduceNeg, Int.reduceLE, Int.reduceLT, Nat.reduceAdd, Nat.reduceLeDiff, Int.reduceToNat, Nat.reduceMul, Nat.reduceBEq, okPart, Value.cells, cut, okCell, cld2, underlying3, underlying4, underlying9, underlying5, underlying44, underlying0, be4, bn4, co16]
    refine works10_spec ?_
    simp -implicitDefEqProofs only [↓Zd, (Zp), if_true, if_false, ne_eq, implies_true, forall_const, Nat.reduceEqDiff, reduceIte, reduceCtorEq, Int.reduceEq, Int.reduceNeg, Int.reduceLE, Int.reduceLT, Nat.reduceAdd, Nat.reduceLeDiff, Int.reduceToNat, Nat.reduceMul, Nat.reduceBEq, okPart, Value.cells, cut, okCell, cld2, underlying3, underlying4, underlying9, underlying5, underlying44, underlying0, be4, bn4]
    exact h _
  simp -implicitDefEqProofs only [↓Zd, (Zp), if_true, if_false, ne_eq, implies_true, forall_const, Nat.reduceEqDiff, reduceIte, reduceCtorEq, Int.reduceEq, Int.reduceNeg, Int.reduceLE, Int.reduceLT, Nat.reduceAdd, Nat.reduceLeDiff, Int.reduceToNat, Nat.reduceMul, Nat.reduceBEq, okPart, Value.cells, cut, okCell, cld2, underlying3, underlying4, underlying9, underlying5, underlying44, underlying0, be4, bn4, co17]
  refine new_spec (lo := s.next) (Nat.le_refl _) fun s1 p O hT hs1 hO => ?_
  simp -implicitDefEqProofs only [↓Zd, (Zp), if_true, if_false, ne_eq, implies_true, forall_const, Nat.reduceEqDiff, reduceIte, reduceCtorEq, Int.reduceEq, Int.reduceNeg, Int.reduceLE, Int.reduceLT, Nat.reduceAdd, Nat.reduceLeDiff, Int.reduceToNat, Nat.reduceMul, Nat.reduceBEq, okPart, Value.cells, cut, okCell, cld2, underlying3, underlying4, underlying9, underlying5, underlying44, underlying0, be4, bn4, underlying25]
  refine wloop_fix hmix [22, 23, 24, 25, 28, 29, 30, 31, 32, 33, 34, 35, 36, 6, 26, 27, 7] (fun k env s' => ∃ (i : Nat) (sl : Value) (N : List Int) (T : List ByteArray), k = 101 - i ∧ env 7 = .int .i64 i ∧ env 6 = sl ∧ s.le s' ∧ T.length ≤ i ∧ Ids s.next s' p sl N l T i) 101 ?_ ?_
  · refine ⟨0, .slice none 0 0, [], [], rfl, rfl, rfl, hs1, by simp, ⟨by omega, rfl, .inl ⟨rfl, rfl, rfl⟩, ⟨O, hT, fun q m c e => by cases e⟩, fun k hk hk' => by omega⟩⟩
  · rintro k env s2 hF ⟨i, sl, N, T, rfl, e7, e6, hs2, hTl, hI⟩
    have e0 : env 0 = .slice ao l.length c := by rw [hF 0 rfl]; rfl
    have e1 : env 1 = .slice bo m.length d := by rw [hF 1 rfl]; rfl
    have e5 : env 5 = .pointer (some ⟨p, 0, none⟩) := by rw [hF 5 rfl]; rfl
    obtain ⟨hi, hN, hrow, ⟨O2, hT2, hq2⟩, hnum⟩ := hI
    by_cases hlt : i < l.length
    · have hlt' : (i : Int) < (l.length : Int) := by omega
      have h0 : (0 : Int) ≤ (i : Int) := by omega
      have w7 : IntKind.i64.wrap ((i : Int) + 1) = ((i + 1 : Nat) : Int) := by rw [wrap_i64 (by omega)]; omega
      obtain ⟨j, ss, rfl, h9, hx⟩ := (hl.le hs2).get hlt
      simp -implicitDefEqProofs only [↓Zd, (Zp), if_true, if_false, ne_eq, implies_true, forall_const, Nat.reduceEqDiff, reduceIte, reduceCtorEq, Int.reduceEq, Int.reduceNeg, Int.reduceLE, Int.reduceLT, Nat.reduceAdd, Nat.reduceLeDiff, Int.reduceToNat, Nat.reduceMul, Nat.reduceBEq, okPart, Value.cells, cut, okCell, cld2, underlying3, underlying4, underlying9, underlying5, underlying44, underlying0, be4, bn4, underlying22, e0, e5, e6, e7, hlt', h9, ag22, ag9, sz9, h0, hx, Nat.mul_one, Nat.zero_add, co18]
      obtain ⟨j1, hj1, ej1⟩ := ofT_idx T l[i]
      refine of_spec hT2 hs2.1 (by omega) fun s3 O3 hT3 hn3 hk3 hO3 => ?_
      rw [ej1]
      have hs3 : s.le s3 := ⟨Nat.le_trans hs2.1 hn3, fun b hb => by rw [hk3 b (Nat.lt_of_lt_of_le hb hs2.1) (fun ho => by have := (hT2.own b ho).1; omega), hs2.2 b hb]⟩
      have hrow3 : SlC 3 1 s3 sl (N.map (.int .i64)) i := hrow.same fun q m c e => hk3 _ (hq2 q m c e).2.2 (hq2 q m c e).1
      obtain ⟨s4, happ, hn4, hat4, hk4⟩ := app_int (x := ((j1 + 1 : Nat) : Int)) hN (by omega) hrow3 (fun q m c e => by have := (hq2 q m c e).2.2; omega)
      have hsl3 : ∀ b, O3 b → ∀ q m c, sl = .slice (some q) m c → b ≠ q.block := by
        rintro b hb q m c e rfl
        rcases hO3 _ hb with ho | ho
        · exact (hq2 q m c e).1 ho
        · have := (hq2 q m c e).2.2; omega
      have hT4 : TabAt s.next s4 p (ofT T l[i]) O3 := hT3.same (by omega) (fun b hb => hk4 b (hT3.own b hb).2 (hsl3 b hb))
      have hs4 : s.le s4 := ⟨by have := hs3.1; omega, fun b hb => by rw [hk4 b (Nat.lt_of_lt_of_le hb hs3.1) (fun q m c e e2 => by have := (hq2 q m c e).2.1; omega), hs3.2 b hb]⟩
      simp -implicitDefEqProofs only [↓Zd, (Zp), if_true, if_false, ne_eq, implies_true, forall_const, Nat.reduceEqDiff, reduceIte, reduceCtorEq, Int.reduceEq, Int.reduceNeg, Int.reduceLE, Int.reduceLT, Nat.reduceAdd, Nat.reduceLeDiff, Int.reduceToNat, Nat.reduceMul, Nat.reduceBEq, okPart, Value.cells, cut, okCell, cld2, underlying3, underlying4, underlying9, underlying5, underlying44, underlying0, be4, bn4, underlying38, e0, e5, e6, e7, w7, rowInt, happ]
      refine ⟨?_, 101 - (i + 1), by omega, i + 1, .slice (some ⟨s3.next + 1, 0, none⟩) (i + 1) UNK, N ++ [((j1 + 1 : Nat) : Int)], ofT T l[i], rfl, rfl, rfl, hs4, by have := ofT_len T l[i]; omega, ⟨by omega, by simp [hN], ?_, ⟨O3, hT4, ?_⟩, ?_⟩⟩
      · repeat (first | exact hF | refine Fix.upd (by decide) ?_)
      · exact .inr ⟨s3.next + 1, UNK, rfl, .inl rfl, hat4, by simp [hN]⟩
      · rintro q m c ⟨⟩
        refine ⟨fun ho => ?_, ?_, ?_⟩
        · have hh : s3.next + 1 < s3.next := (hT3.own _ ho).2
          omega
        · have := hs3.1
          show s.next ≤ s3.next + 1
          omega
        · show s3.next + 1 < s4.next
          omega
      · intro k hk hk2
        by_cases hki : k < i
        · obtain ⟨jj, h1, h2⟩ := hnum k hk hki
          refine ⟨jj, ofT_keep h1, ?_⟩
          rw [List.getElem?_append_left (by omega)]; exact h2
        · obtain rfl : k = i := by omega
          refine ⟨j1, hj1, ?_⟩
          rw [List.getElem?_append_right (by omega)]; simp [hN]
    · have hlt' : ¬ (i : Int) < (l.length : Int) := by omega
      obtain rfl : i = l.length := by omega
      simp -implicitDefEqProofs only [↓Zd, (Zp), if_true, if_false, ne_eq, implies_true, forall_const, Nat.reduceEqDiff, reduceIte, reduceCtorEq, Int.reduceEq, Int.reduceNeg, Int.reduceLE, Int.reduceLT, Nat.reduceAdd, Nat.reduceLeDiff, Int.reduceToNat, Nat.reduceMul, Nat.reduceBEq, okPart, Value.cells, cut, okCell, cld2, underlying3, underlying4, underlying9, underlying5, underlying44, underlying0, be4, bn4, underlying22, e0, e1, e5, e6, e7, hlt']
      refine wloop_fix hmix [37, 38, 39, 40, 43, 44, 45, 46, 47, 48, 41, 42, 8] (fun k env s' => ∃ (i : Nat) (T : List ByteArray), k = 101 - i ∧ i ≤ m.length ∧ env 8 = .int .i64 i ∧ s.le s' ∧ T.length ≤ 101 + i ∧ Ids s.next s' p sl N l T l.length) 101 ?_ ?_
      · exact ⟨0, T, rfl, by omega, rfl, hs2, by omega, ⟨hi, hN, hrow, ⟨O2, hT2, hq2⟩, hnum⟩⟩
      · rintro k env2 s3 hF2 ⟨i2, T2, rfl, hi2, e8, hs3, hTl2, hI2⟩
        clear hT2 hq2 hnum hrow O2
        obtain ⟨_, _, hrow, ⟨O2, hT2, hq2⟩, hnum⟩ := hI2
        have f0 : env2 0 = .slice ao l.length c := by rw [hF2 0 rfl]; exact e0
        have f1 : env2 1 = .slice bo m.length d := by rw [hF2 1 rfl]; exact e1
        have f5 : env2 5 = .pointer (some ⟨p, 0, none⟩) := by rw [hF2 5 rfl]; exact e5
        have f6 : env2 6 = sl := by rw [hF2 6 rfl]; exact e6
        by_cases hlt2 : i2 < m.length
        · have hlt2' : (i2 : Int) < (m.length : Int) := by omega
          have h0 : (0 : Int) ≤ (i2 : Int) := by omega
          have w7 : IntKind.i64.wrap ((i2 : Int) + 1) = ((i2 + 1 : Nat) : Int) := by rw [wrap_i64 (by omega)]; omega
          obtain ⟨j, ss, rfl, h9, hx⟩ := (hm.le hs3).get hlt2
          simp -implicitDefEqProofs only [↓Zd, (Zp), if_true, if_false, ne_eq, implies_true, forall_const, Nat.reduceEqDiff, reduceIte, reduceCtorEq, Int.reduceEq, Int.reduceNeg, Int.reduceLE, Int.reduceLT, Nat.reduceAdd, Nat.reduceLeDiff, Int.reduceToNat, Nat.reduceMul, Nat.reduceBEq, okPart, Value.cells, cut, okCell, cld2, underlying3, underlying4, underlying9, underlying5, underlying44, underlying0, be4, bn4, underlying22, f0, f1, f5, f6, e8, hlt2', h9, ag22, ag9, sz9, h0, hx, Nat.mul_one, Nat.zero_add, co18]
          refine of_spec hT2 hs3.1 (by omega) fun s4 O3 hT3 hn3 hk3 hO3 => ?_
          have hs4 : s.le s4 := ⟨Nat.le_trans hs3.1 hn3, fun b hb => by rw [hk3 b (Nat.lt_of_lt_of_le hb hs3.1) (fun ho => by have := (hT2.own b ho).1; omega), hs3.2 b hb]⟩
          have hrow3 : SlC 3 1 s4 sl (N.map (.int .i64)) l.length := hrow.same fun q m c e => hk3 _ (hq2 q m c e).2.2 (hq2 q m c e).1
          simp -implicitDefEqProofs only [↓Zd, (Zp), if_true, if_false, ne_eq, implies_true, forall_const, Nat.reduceEqDiff, reduceIte, reduceCtorEq, Int.reduceEq, Int.reduceNeg, Int.reduceLE, Int.reduceLT, Nat.reduceAdd, Nat.reduceLeDiff, Int.reduceToNat, Nat.reduceMul, Nat.reduceBEq, okPart, Value.cells, cut, okCell, cld2, underlying3, underlying4, underlying9, underlying5, underlying44, underlying0, be4, bn4, e8, w7]
          refine ⟨?_, 101 - (i2 + 1), by omega, i2 + 1, ofT T2 m[i2], rfl, by omega, rfl, hs4, by have := ofT_len T2 m[i2]; omega, ⟨hi, hN, hrow3, ⟨O3, hT3, ?_⟩, ?_⟩⟩
          · repeat (first | exact hF2 | refine Fix.upd (by decide) ?_)
          · intro q m c e
            obtain ⟨q1, q2, q3⟩ := hq2 q m c e
            refine ⟨fun ho => ?_, q2, by omega⟩
            rcases hO3 _ ho with ho | ho
            · exact q1 ho
            · omega
          · intro k hk hk2
            obtain ⟨jj, h1, h2⟩ := hnum k hk hk2
            exact ⟨jj, ofT_keep h1, h2⟩
        · have hlt2' : ¬ (i2 : Int) < (m.length : Int) := by omega
          simp -implicitDefEqProofs only [↓Zd, (Zp), if_true, if_false, ne_eq, implies_true, forall_const, Nat.reduceEqDiff, reduceIte, reduceCtorEq, Int.reduceEq, Int.reduceNeg, Int.reduceLE, Int.reduceLT, Nat.reduceAdd, Nat.reduceLeDiff, Int.reduceToNat, Nat.reduceMul, Nat.reduceBEq, okPart, Value.cells, cut, okCell, cld2, underlying3, underlying4, underlying9, underlying5, underlying44, underlying0, be4, bn4, underlying22, f0, f1, f5, f6, e8, hlt2']
          refine wloop_fix hmix [49, 50, 51, 52, 56, 57, 58, 59, 60, 61, 55, 62, 63, 10, 11, 65, 66, 67, 68, 69, 70, 64, 71, 72, 12, 13, 73, 74, 75, 76, 77, 78, 79, 80, 81, 82, 83, 84, 85, 86, 87, 88, 89, 90, 91, 92, 93, 94, 4, 53, 54, 9] (fun k env s' => ∃ i : Nat, k = 101 - i ∧ i ≤ l.length ∧ env 9 = .int .i64 i ∧ s' = s3) 101 ?_ ?_
          · exact ⟨0, rfl, by omega, rfl, rfl⟩
          · rintro k env3 s4 hF3 ⟨i3, rfl, hi3, e9, rfl⟩
            have g0 : env3 0 = .slice ao l.length c := by rw [hF3 0 rfl]; exact f0
            have g5 : env3 5 = .pointer (some ⟨p, 0, none⟩) := by rw [hF3 5 rfl]; exact f5
            have g6 : env3 6 = sl := by rw [hF3 6 rfl]; exact f6
            by_cases hlt3 : i3 < l.length
            · have hlt3' : (i3 : Int) < (l.length : Int) := by omega
              have h0 : (0 : Int) ≤ (i3 : Int) := by omega
              have w7 : IntKind.i64.wrap ((i3 : Int) + 1) = ((i3 + 1 : Nat) : Int) := by rw [wrap_i64 (by omega)]; omega
              obtain ⟨j, ss, rfl, h9, hx⟩ := (hl.le hs3).get hlt3
              obtain ⟨jj, hjj, hnj⟩ := hnum i3 hlt3 hlt3
              have hjb := (idx_lt hjj).1
              rcases hrow with ⟨e2, _, rfl⟩ | ⟨b, cc, rfl, _, h8, _⟩
              · omega
              have hy : (N.map (Value.int .i64))[i3]? = some (.int .i64 ((jj + 1 : Nat) : Int)) := by rw [List.getElem?_map, hnj]; rfl
              simp -implicitDefEqProofs only [↓Zd, (Zp), if_true, if_false, ne_eq, implies_true, forall_const, Nat.reduceEqDiff, reduceIte, reduceCtorEq, Int.reduceEq, Int.reduceNeg, Int.reduceLE, Int.reduceLT, Nat.reduceAdd, Nat.reduceLeDiff, Int.reduceToNat, Nat.reduceMul, Nat.reduceBEq, okPart, Value.cells, cut, okCell, cld2, underlying3, underlying4, underlying9, underlying5, underlying44, underlying0, be4, bn4, underlying22, underlying38, g0, g5, g6, e9, hlt3', h8, ag38, ag3, sz3, h0, hy, Nat.mul_one, Nat.zero_add, co23]
              refine text_spec (by omega) hT2 ?_
              rw [txt_of hjj]
              simp -implicitDefEqProofs only [↓Zd, (Zp), if_true, if_false, ne_eq, implies_true, forall_const, Nat.reduceEqDiff, reduceIte, reduceCtorEq, Int.reduceEq, Int.reduceNeg, Int.reduceLE, Int.reduceLT, Nat.reduceAdd, Nat.reduceLeDiff, Int.reduceToNat, Nat.reduceMul, Nat.reduceBEq, okPart, Value.cells, cut, okCell, cld2, underlying3, underlying4, underlying9, underlying5, underlying44, underlying0, be4, bn4, underlying22, underlying34, g0, g5, g6, e9, hlt3', h9, ag22, ag9, sz9, h0, hx, Nat.mul_one, Nat.zero_add, co21]
              refine find_spec hT2 ?_
              rw [hjj]
              simp -implicitDefEqProofs only [↓Zd, (Zp), if_true, if_false, ne_eq, implies_true, forall_const, Nat.reduceEqDiff, reduceIte, reduceCtorEq, Int.reduceEq, Int.reduceNeg, Int.reduceLE, Int.reduceLT, Nat.reduceAdd, Nat.reduceLeDiff, Int.reduceToNat, Nat.reduceMul, Nat.reduceBEq, okPart, Value.cells, cut, okCell, cld2, underlying3, underlying4, underlying9, underlying5, underlying44, underlying0, be4, bn4, underlying22, underlying38, underlying32, g0, g5, g6, e9, w7, hlt3', h8, h9, ag22, ag9, sz9, ag38, ag3, sz3, h0, hx, hy, Nat.mul_one, Nat.zero_add, ord5]
              refine ⟨?_, 101 - (i3 + 1), by omega, i3 + 1, rfl, by omega, rfl⟩
              repeat (first | exact hF3 | refine Fix.upd (by decide) ?_)
            · have hlt3' : ¬ (i3 : Int) < (l.length : Int) := by omega
              simp -implicitDefEqProofs only [↓Zd, (Zp), if_true, if_false, ne_eq, implies_true, forall_const, Nat.reduceEqDiff, reduceIte, reduceCtorEq, Int.reduceEq, Int.reduceNeg, Int.reduceLE, Int.reduceLT, Nat.reduceAdd, Nat.reduceLeDiff, Int.reduceToNat, Nat.reduceMul, Nat.reduceBEq, okPart, Value.cells, cut, okCell, cld2, underlying3, underlying4, underlying9, underlying5, underlying44, underlying0, be4, bn4, underlying22, g0, g5, g6, e9, hlt3', co16]
              refine works10_spec ?_
              simp -implicitDefEqProofs only [↓Zd, (Zp), if_true, if_false, ne_eq, implies_true, forall_const, Nat.reduceEqDiff, reduceIte, reduceCtorEq, Int.reduceEq, Int.reduceNeg, Int.reduceLE, Int.reduceLT, Nat.reduceAdd, Nat.reduceLeDiff, Int.reduceToNat, Nat.reduceMul, Nat.reduceBEq, okPart, Value.cells, cut, okCell, cld2, underlying3, underlying4, underlying9, underlying5, underlying44, underlying0, be4, bn4]
              exact h _
end

theorem namesStay_walk {T ss : List ByteArray} {c : Nat} {oi : Option BI} {a : Nat → Option Addr} {v : Value} {T' ss' : List ByteArray} {c' : Nat} {oi' : Option BI} {a' : Nat → Option Addr} {v' : Value} {w : World}
    (hr : RowIn w oi ss) (hv : ∀ (ρ : Ren) j, ρ j = oi → VRel ρ (.slice (a j) T.length c) v) (ht : T = [] ∨ (a = fun j => some ⟨j, 0, none⟩) ∧ ∀ k, k < T.length → ss[k]? = T[k]?)
    (hr' : RowIn w oi' ss') (hv' : ∀ (ρ : Ren) j, ρ j = oi' → VRel ρ (.slice (a' j) T'.length c') v') (ht' : T' = [] ∨ (a' = fun j => some ⟨j, 0, none⟩) ∧ ∀ k, k < T'.length → ss'[k]? = T'[k]?) :
    Calls Try.prog 5 #[v, v'] w fun e w' => e = .returned (.bool true) ∧ Below w.heap.size w w' := by
  refine calls_rows (L := [ss, ss']) (B := [oi, oi']) (args := #[.slice (a 0) T.length c, .slice (a' 1) T'.length c']) rfl ?_ ⟨rfl, ?_⟩ (namesStay_spec ?_ ?_ fun _ => rfl)
  · intro j o2 ss2 h1 h2
    match j, h1, h2 with
    | 0, h1, h2 => cases h1; cases h2; exact hr
    | 1, h1, h2 => cases h1; cases h2; exact hr'
  · intro i hi
    match i, hi with
    | 0, _ => exact hv _ 0 rfl
    | 1, _ => exact hv' _ 1 rfl
  · rcases ht with ht | ⟨rfl, ht⟩
    · exact .inl ht
    · exact .inr ⟨0, ss, rfl, by show 0 < 2; omega, rfl, ht⟩
  · rcases ht' with ht | ⟨rfl, ht⟩
    · exact .inl ht
    · exact .inr ⟨1, ss', rfl, by show 1 < 2; omega, rfl, ht⟩
end Go.Proofs.Try
