/- The walk of the document's digits. A lemma file: no statement of its own. -/
import Derived.Test.YtakgfhdaimeafaaGreatqFwF
import Derived.Test.YtakgfhdaimeafaaGreatqDig1
set_option linter.unusedSimpArgs false
set_option linter.unusedVariables false
set_option linter.unusedSectionVars false
namespace Go.Proofs.Tryz
open Go.Cs
open Go.RowKit (Below)
set_option maxRecDepth 100000
attribute [local irreducible] CCalls WLoop WScope
section
variable {M : Type} [Mem M] {w0 : World} {s : St M} {R : Value → St M → Prop}
theorem rowU8 (v : Int) : crow Tryz.prog 112 1 #[(0, .int .u8 v)] = some (.cells [.int .u8 v] 5 true) := by kernel_rfl
set_option maxHeartbeats 2000000 in
theorem rdigits_spec {n : Nat} (hn : n ≤ 9223372036854775807) (h : ∀ s', s.le s' → R (.string ⟨(decL n).toArray⟩) s') : CCalls Tryz.prog w0 117 #[.int .i64 n] s R := by
  refine wfun2 hmix ok117 (l := [.int .i64 n]) func117 rfl ntmps117 results117 (by simp) ?_
  simp -implicitDefEqProofs only [↓Zd, (Zp)]
  refine wloop_fix hmix [5, 6, 7, 8, 9, 10, 11, 12, 13, 14, 15, 16, 17, 18, 19, 20, 21, 0, 2, 3, 4] (fun k env s' => ∃ (i m : Nat) (l : List UInt8), k = 20 - i ∧ i ≤ 19 ∧ env 4 = .int .i64 i ∧ env 0 = .int .i64 m ∧ env 3 = .string ⟨l.toArray⟩ ∧
      s.le s' ∧ l.length = i ∧ decL n = decL m ++ l ∧ (1 ≤ m ∨ i = 0) ∧ m < 10 ^ (19 - i) ∧ m ≤ 9223372036854775807) 20 ?_ ?_
  · exact ⟨0, n, [], rfl, by omega, rfl, rfl, rfl, St.le_refl s, rfl, by simp, by omega, by simp; omega, hn⟩
  · rintro k env s' hF ⟨i, m, l, rfl, hi, e4, e0, e3, hs, hl, hN, h1, hp, hm⟩
    have hi' : i < 19 := by
      rcases Nat.lt_or_ge i 19 with h' | h'
      · exact h'
      · rw [show 19 - i = 0 from by omega] at hp; omega
    have h20 : ((i : Nat) : Int) < 20 := by omega
    have w2 : (m : Int).tmod 10 = ((m % 10 : Nat) : Int) := by rw [Int.tmod_eq_emod_of_nonneg (by omega)]; omega
    have w4 : IntKind.i64.wrap (48 + ((m % 10 : Nat) : Int)) = ((48 + m % 10 : Nat) : Int) := by rw [wrap_i64 (by omega)]; omega
    have w3 : IntKind.u8.wrap ((48 + m % 10 : Nat) : Int) = ((48 + m % 10 : Nat) : Int) := wrap_u8 (by omega)
    have w5 : (m : Int).tdiv 10 = ((m / 10 : Nat) : Int) := by rw [Int.tdiv_eq_ediv_of_nonneg (by omega)]; omega
    have w6 : IntKind.i64.wrap ((m / 10 : Nat) : Int) = ((m / 10 : Nat) : Int) := wrap_i64 (by omega)
    have w7 : IntKind.i64.wrap ((i : Int) + 1) = ((i + 1 : Nat) : Int) := by rw [wrap_i64 (by omega)]; omega
    have hbs := cbs2_all (e := 5) (w := true) (vs := [.int .u8 ((48 + m % 10 : Nat) : Int)]) (n := 1) (l := [UInt8.ofNat (48 + m % 10)]) rfl (by rw [List.map_cons, toV_ofNat (by omega)]; rfl)
    have hba : (⟨[UInt8.ofNat (48 + m % 10)].toArray⟩ : ByteArray) ++ ⟨l.toArray⟩ = ⟨(UInt8.ofNat (48 + m % 10) :: l).toArray⟩ := ba_append [_] l
    have hsz : (⟨[UInt8.ofNat (48 + m % 10)].toArray⟩ : ByteArray).size + (⟨l.toArray⟩ : ByteArray).size ≤ 9223372036854775807 := by rw [ba_size, ba_size]; simp; omega
    simp -implicitDefEqProofs only [↓Zd, (Zp), if_true, if_false, ne_eq, Nat.reduceEqDiff, reduceCtorEq, Int.reduceEq, underlying3, underlying9, underlying5, e0, e3, e4, h20, w2, w3, w4, w5, w6, rowU8, hbs, hba, hsz, ↓o_bs underlying112 underlying9 underlying5]
    refine c2_split (fun hz => ?_) (fun hz => ?_)
    · have hz' : m < 10 := by simp at hz; omega
      simp -implicitDefEqProofs only [↓Zd, (Zp), if_true, if_false, Nat.reduceEqDiff, reduceCtorEq]
      rw [decL_lt hz'] at hN
      rw [Nat.mod_eq_of_lt hz', show UInt8.ofNat (48 + m) :: l = decL n by rw [hN]; rfl]
      exact h _ (St.le_new hs)
    · have hz' : 10 ≤ m := by simp at hz; omega
      simp -implicitDefEqProofs only [↓Zd, (Zp), if_true, if_false, Nat.reduceEqDiff, reduceCtorEq, w7, e4]
      refine ⟨?_, 20 - (i + 1), by omega, i + 1, m / 10, UInt8.ofNat (48 + m % 10) :: l, rfl, by omega, rfl, rfl, rfl, St.le_new hs, by simp [hl], ?_, ?_, ?_, by omega⟩
      · repeat (first | exact hF | refine Fix.upd (by decide) ?_)
      · rw [hN, decL_ge hz', List.append_assoc]; rfl
      · left; omega
      · rw [Nat.div_lt_iff_lt_mul (by omega), ← Nat.pow_succ, show (19 - (i + 1)).succ = 19 - i from by omega]
        exact hp
set_option maxHeartbeats 2000000 in
theorem rDigits_spec {n : Int} (hn : -9223372036854775808 ≤ n ∧ n ≤ 9223372036854775807) (h : ∀ s', s.le s' → R (.string (digS n)) s') : CCalls Tryz.prog w0 99 #[.int .i64 n] s R := by
  refine wfun2 hmix ok99 (l := [.int .i64 n]) func99 rfl ntmps99 results99 (by simp) ?_
  by_cases hneg : n < 0
  · have h0 : ¬ 0 ≤ n := by omega
    obtain ⟨m, hm⟩ : ∃ m : Nat, n = -(m : Int) := ⟨n.natAbs, by omega⟩
    have w1 : n.tmod 10 = -((m % 10 : Nat) : Int) := by rw [hm, Int.neg_tmod, Int.tmod_eq_emod_of_nonneg (by omega)]; omega
    have w2 : IntKind.i64.wrap (0 - -((m % 10 : Nat) : Int)) = ((m % 10 : Nat) : Int) := by rw [wrap_i64 (by omega)]; omega
    have w3 : n.tdiv 10 = -((m / 10 : Nat) : Int) := by rw [hm, Int.neg_tdiv, Int.tdiv_eq_ediv_of_nonneg (by omega)]; omega
    have w4 : IntKind.i64.wrap (-((m / 10 : Nat) : Int)) = -((m / 10 : Nat) : Int) := wrap_i64 (by omega)
    have w5 : IntKind.i64.wrap (0 - -((m / 10 : Nat) : Int)) = ((m / 10 : Nat) : Int) := by rw [wrap_i64 (by omega)]; omega
    have hN : n.natAbs = m := by omega
    have wz : IntKind.i64.wrap 0 = 0 := wrap_i64 (by omega)
    have hba : ∀ l : List UInt8, (⟨#[45]⟩ : ByteArray) ++ ⟨l.toArray⟩ = ⟨(45 :: l).toArray⟩ := fun l => ba_append [45] l
    have hl1 : (decL (m % 10)).length ≤ 1 := decL_len_pow 0 _ (by omega)
    have hl2 : (decL (m / 10)).length ≤ 20 := decL_len_pow 19 _ (by omega)
    by_cases hz : m < 10
    · have hz' : (-((m / 10 : Nat) : Int)) = 0 := by omega
      have hsz : (⟨#[45]⟩ : ByteArray).size + (⟨(decL (m % 10)).toArray⟩ : ByteArray).size ≤ 9223372036854775807 := by show 1 + (decL _).length ≤ _; omega
      simp -implicitDefEqProofs only [↓Zd, (Zp), if_true, if_false, ne_eq, Nat.reduceEqDiff, reduceCtorEq, Int.reduceEq, h0, w1, w2, w3, hz', wz, co117]
      refine rdigits_spec (by omega) fun s1 hs1 => ?_
      simp -implicitDefEqProofs only [↓Zd, (Zp), if_true, if_false, Nat.reduceEqDiff, underlying9, hsz, hba]
      have e : digS n = ⟨(45 :: decL (m % 10)).toArray⟩ := by simp [digS, digL, hneg, hN, Nat.mod_eq_of_lt hz]
      rw [← e]
      exact h _ hs1
    · have hz' : ¬ (-((m / 10 : Nat) : Int)) = 0 := by omega
      have hsz : (⟨#[45]⟩ : ByteArray).size + (⟨(decL (m / 10)).toArray⟩ : ByteArray).size ≤ 9223372036854775807 := by show 1 + (decL _).length ≤ _; omega
      have hsz2 : (⟨(45 :: decL (m / 10)).toArray⟩ : ByteArray).size + (⟨(decL (m % 10)).toArray⟩ : ByteArray).size ≤ 9223372036854775807 := by rw [ba_size, ba_size]; simp; omega
      simp -implicitDefEqProofs only [↓Zd, (Zp), if_true, if_false, ne_eq, Nat.reduceEqDiff, reduceCtorEq, Int.reduceEq, h0, w1, w2, w3, w4, w5, hz', co117]
      refine rdigits_spec (by omega) fun s1 hs1 => ?_
      simp -implicitDefEqProofs only [↓Zd, (Zp), if_true, if_false, Nat.reduceEqDiff, underlying9, hsz, hba, co117]
      refine rdigits_spec (by omega) fun s2 hs2 => ?_
      simp -implicitDefEqProofs only [↓Zd, (Zp), if_true, if_false, Nat.reduceEqDiff, underlying9, hsz2, ba_append]
      have e : digS n = ⟨(45 :: (decL (m / 10) ++ decL (m % 10))).toArray⟩ := by simp [digS, digL, hneg, hN, decL_ge (show 10 ≤ m by omega), decL_lt (show m % 10 < 10 by omega)]
      rw [← e]
      exact h _ (St.le_trans hs1 hs2)
  · have h0 : 0 ≤ n := by omega
    obtain ⟨m, rfl⟩ := Int.eq_ofNat_of_zero_le h0
    simp -implicitDefEqProofs only [↓Zd, (Zp), if_true, if_false, Nat.reduceEqDiff, reduceCtorEq, h0, co117]
    refine rdigits_spec (by omega) fun s1 hs1 => ?_
    simp -implicitDefEqProofs only [↓Zd, (Zp), if_true, if_false, Nat.reduceEqDiff, underlying9]
    have e : digS (m : Int) = ⟨(decL m).toArray⟩ := by simp [digS, digL, hneg]
    rw [← e]
    exact h _ hs1
end
end Go.Proofs.Tryz
