/- What setting a property changes: the walk of the law on it. A lemma file: no statement of its own. -/
import Derived.Test.YtakgfhdaimeafaaGreatqFwF
import Derived.Test.YtakgfhdaimeafaaGreatqHT0
set_option linter.unusedSimpArgs false
set_option linter.unusedVariables false
set_option linter.unusedSectionVars false
namespace Go.Proofs.Tryz
open Go.Cs
open Go.RowKit (Below)
set_option maxRecDepth 100000
attribute [local irreducible] CCalls WLoop WScope CRound WRange
section
variable {M : Type} [Mem M] {w0 : World} {s : St M} {R : Value → St M → Prop}
theorem wch_app_str {s : St M} {sl : Value} {T : List ByteArray} {x : ByteArray} {K : Value → St M → Prop} (hlen : T.length ≤ 1099511627776) (hsl : SlC 9 1 s sl (T.map .string) T.length) (hfr : ∀ q m c, sl = .slice (some q) m c → q.block < s.next)
    (h : ∀ s', s'.next = s.next + 2 → s'.at' (s.next + 1) = some (.cells ((T ++ [x]).map .string) 9 true) → (∀ b, b < s.next → (∀ q m c, sl = .slice (some q) m c → b ≠ q.block) → s'.at' b = s.at' b) → K (.slice (some ⟨s.next + 1, 0, none⟩) (T.length + 1) UNK) s') :
    wch (capp Tryz.prog #[42, 42] #[sl, .slice (some ⟨s.next, 0, none⟩) 1 1] (s.new (.cells [.string x] 9 true))) K := by
  obtain ⟨s', h1, h2, h3, h4⟩ := app_str (x := x) hlen hsl hfr
  exact ⟨_, _, h1, h s' h2 h3 h4⟩
set_option maxHeartbeats 16000000 in
theorem heapSets_spec {A : List ActD} {ad : Option Addr} {cp : Nat} {a o : ActD} (ha : ActOk a) (ho : ActOk o) (hA : QRow 32 actC s ad A) (hok : ∀ a ∈ A, ActOk a) (hAl : A.length ≤ 9223372036854775807)
    (hR : ∀ s', R (.bool true) s') : CCalls Tryz.prog w0 4 #[.slice ad A.length cp, .agg #[.int .i64 a.d, .int .i64 a.a, .int .i64 a.b, .string a.name, .int .i64 a.v.1, .int .i64 a.v.2.1, .string a.v.2.2], .agg #[.int .i64 o.d, .int .i64 o.a, .int .i64 o.b, .string o.name, .int .i64 o.v.1, .int .i64 o.v.2.1, .string o.v.2.2]] s R := by
  obtain ⟨a0, a1, a2, a3, b1, b2, b3⟩ := a
  obtain ⟨c0, c1', c2', c3, d1, d2, d3⟩ := o
  obtain ⟨p0, p1, p2, p3, p4⟩ := ha
  obtain ⟨r0, r1, r2, r3, r4⟩ := ho
  simp only [I64] at p0 p1 p2 p3 p4 r0 r1 r2 r3 r4
  refine wfun2 hmix ok4 (l := [.slice ad A.length cp, .agg #[.int .i64 a0, .int .i64 a1, .int .i64 a2, .string a3, .int .i64 b1, .int .i64 b2, .string b3], .agg #[.int .i64 c0, .int .i64 c1', .int .i64 c2', .string c3, .int .i64 d1, .int .i64 d2, .string d3]]) func4 rfl ntmps4 results4 (by simp) ?_
  have hbL : cbuild Tryz.prog 27 #[(0, .int .i64 20), (2, .int .i64 20)] = some (.agg #[.int .i64 20, .int .i64 0, .int .i64 20, .int .i64 0]) := by kernel_rfl
  simp -implicitDefEqProofs only [↓Zd, (Zp), if_true, if_false, ne_eq, implies_true, forall_const, Nat.reduceEqDiff, reduceIte, reduceCtorEq, Int.reduceEq, Int.reduceNeg, Int.reduceLE, Int.reduceLT, Nat.reduceAdd, Nat.reduceLeDiff, Int.reduceToNat, Nat.reduceMul, Nat.reduceBEq, okPart, Value.cells, cut, okCell, cld2, (HEx), (REx), vA, (ACx), co9]
  refine long12_spec ?_
  by_cases hl1 : (decide ((300 : Int) < a3.size) || decide ((300 : Int) < b3.size)) = true
  · rw [hl1]
    simp -implicitDefEqProofs only [↓Zd, (Zp), if_true, if_false, ne_eq, implies_true, forall_const, Nat.reduceEqDiff, reduceIte, reduceCtorEq, Int.reduceEq, Int.reduceNeg, Int.reduceLE, Int.reduceLT, Nat.reduceAdd, Nat.reduceLeDiff, Int.reduceToNat, Nat.reduceMul, Nat.reduceBEq, okPart, Value.cells, cut, okCell, cld2, (HEx), (REx), vA, (ACx), co7]
    refine works12_spec ?_
    simp -implicitDefEqProofs only [↓Zd, (Zp), if_true, if_false, ne_eq, implies_true, forall_const, Nat.reduceEqDiff, reduceIte, reduceCtorEq, Int.reduceEq, Int.reduceNeg, Int.reduceLE, Int.reduceLT, Nat.reduceAdd, Nat.reduceLeDiff, Int.reduceToNat, Nat.reduceMul, Nat.reduceBEq, okPart, Value.cells, cut, okCell, cld2, (HEx), (REx), vA]
    exact hR _
  rw [Bool.eq_false_iff.2 hl1]
  simp -implicitDefEqProofs only [↓Zd, (Zp), if_true, if_false, ne_eq, implies_true, forall_const, Nat.reduceEqDiff, reduceIte, reduceCtorEq, Int.reduceEq, Int.reduceNeg, Int.reduceLE, Int.reduceLT, Nat.reduceAdd, Nat.reduceLeDiff, Int.reduceToNat, Nat.reduceMul, Nat.reduceBEq, okPart, Value.cells, cut, okCell, cld2, (HEx), (REx), vA, (ACx), co9]
  refine long12_spec ?_
  by_cases hl2 : (decide ((300 : Int) < c3.size) || decide ((300 : Int) < d3.size)) = true
  · rw [hl2]
    simp -implicitDefEqProofs only [↓Zd, (Zp), if_true, if_false, ne_eq, implies_true, forall_const, Nat.reduceEqDiff, reduceIte, reduceCtorEq, Int.reduceEq, Int.reduceNeg, Int.reduceLE, Int.reduceLT, Nat.reduceAdd, Nat.reduceLeDiff, Int.reduceToNat, Nat.reduceMul, Nat.reduceBEq, okPart, Value.cells, cut, okCell, cld2, (HEx), (REx), vA, (ACx), co7]
    refine works12_spec ?_
    simp -implicitDefEqProofs only [↓Zd, (Zp), if_true, if_false, ne_eq, implies_true, forall_const, Nat.reduceEqDiff, reduceIte, reduceCtorEq, Int.reduceEq, Int.reduceNeg, Int.reduceLE, Int.reduceLT, Nat.reduceAdd, Nat.reduceLeDiff, Int.reduceToNat, Nat.reduceMul, Nat.reduceBEq, okPart, Value.cells, cut, okCell, cld2, (HEx), (REx), vA]
    exact hR _
  rw [Bool.eq_false_iff.2 hl2]
  have hsa : a3.size ≤ 300 ∧ b3.size ≤ 300 := by
    simp only [Bool.or_eq_true, decide_eq_true_eq, not_or] at hl1
    omega
  simp -implicitDefEqProofs only [↓Zd, (Zp), if_true, if_false, ne_eq, implies_true, forall_const, Nat.reduceEqDiff, reduceIte, reduceCtorEq, Int.reduceEq, Int.reduceNeg, Int.reduceLE, Int.reduceLT, Nat.reduceAdd, Nat.reduceLeDiff, Int.reduceToNat, Nat.reduceMul, Nat.reduceBEq, okPart, Value.cells, cut, okCell, cld2, (HEx), (REx), vA, (ACx), underlying27, sz27, is27, ce27, ag27, ze27, fa27x0, fa27x1, fa27x2, fa27x3, hbL, co8]
  refine hnew_spec fun s1 p hH1 hs1 => ?_
  have c4 : s1.at' s.next = some (.cells [.int .i64 a0, .int .i64 a1, .int .i64 a2, .string a3, .int .i64 b1, .int .i64 b2, .string b3] 32 true) := by
    rw [hs1.2 _ (by simp only [St.next_new]; omega), St.at_new, if_neg (by simp only [St.next_new]; omega), St.at_new, if_neg (by simp only [St.next_new]; omega), St.at_new, if_neg (by simp only [St.next_new]; omega), St.at_new, if_pos rfl]
  have c5 : s1.at' (s.next + 1) = some (.cells [.int .i64 c0, .int .i64 c1', .int .i64 c2', .string c3, .int .i64 d1, .int .i64 d2, .string d3] 32 true) := by
    rw [hs1.2 _ (by simp only [St.next_new]; omega), St.at_new, if_neg (by simp only [St.next_new]; omega), St.at_new, if_neg (by simp only [St.next_new]; omega), St.at_new, if_pos (by simp only [St.next_new])]
  have hn1 := hs1.1
  simp only [St.next_new] at hn1 hH1
  have hold1 : ∀ c, c < s.next → s1.at' c = s.at' c := fun c hc => by
    rw [hs1.2 _ (by simp only [St.next_new]; omega), St.at_new, if_neg (by simp only [St.next_new]; omega), St.at_new, if_neg (by simp only [St.next_new]; omega), St.at_new, if_neg (by simp only [St.next_new]; omega), St.at_new, if_neg (by omega)]
  clear hs1
  simp -implicitDefEqProofs only [↓Zd, (Zp), if_true, if_false, ne_eq, implies_true, forall_const, Nat.reduceEqDiff, reduceIte, reduceCtorEq, Int.reduceEq, Int.reduceNeg, Int.reduceLE, Int.reduceLT, Nat.reduceAdd, Nat.reduceLeDiff, Int.reduceToNat, Nat.reduceMul, Nat.reduceBEq, okPart, Value.cells, cut, okCell, cld2, (HEx), (REx), vA, (ACx)]
  refine wloop_fix hmix [8, 36, 37, 38, 39, 40, 41, 42, 43, 44, 45, 46, 47, 48, 49, 50, 51, 52, 53, 54, 55, 56, 57, 58, 59] (fun fuel env s3 => ∃ (k : Nat) (H : Hp) (O : Nat → Prop), fuel = 40 + 1 - k ∧ k ≤ 40 ∧ env 8 = .int .i64 (k : Int) ∧ HpAt (s.next + 4) s3 p H (32 + 3 * k) O ∧ HSz 1000000 H ∧ TSz 1000000 H ∧ s.next + 4 ≤ s3.next ∧ ∀ c, c < s.next + 4 → s3.at' c = s1.at' c) 41 ⟨0, _, _, rfl, by omega, rfl, hH1.mono (Nat.zero_le _), .new _ _ _ _, (fun x hx => by simp [newH] at hx), by omega, fun _ _ => rfl⟩ ?_
  rintro fuel env s3 hFx ⟨k, H, O, rfl, hk, e8, hH, hsz, htz, hlo3, hold2⟩
  have hold : ∀ c, c < s.next → s3.at' c = s.at' c := fun c hc => (hold2 c (by omega)).trans (hold1 c hc)
  have e0 : env 0 = .slice ad A.length cp := by rw [hFx 0 rfl]; rfl
  have e4 : env 4 = .pointer (some ⟨s.next, 0, none⟩) := by rw [hFx 4 rfl]; rfl
  have e5 : env 5 = .pointer (some ⟨s.next + 1, 0, none⟩) := by rw [hFx 5 rfl]; rfl
  have e7 : env 7 = .pointer (some ⟨p, 0, none⟩) := by rw [hFx 7 rfl]; rfl
  rcases (show ((k : Int) < (A.length : Int) ∧ (k : Int) < 40) ∨ ¬ (k : Int) < (A.length : Int) ∨ ((k : Int) < (A.length : Int) ∧ ¬ (k : Int) < 40) by omega) with ⟨k1, k2⟩ | k1 | ⟨k1, k2⟩
  case inl =>
    have hkA : k < A.length := by omega
    have hx : A[k]? = some A[k] := by simp [hkA]
    have hxok := hok _ (List.mem_of_getElem? hx)
    generalize A[k] = x at hx hxok
    rcases hA with rfl | ⟨j, us, rfl, hj, hjb, hus⟩
    · simp at hkA
    have hux : us[k]? = some x := by rw [hus k hkA]; exact hx
    obtain ⟨c1, c2⟩ := acts_cut us k x hux
    have hjb3 : s3.at' j = some (.cells (us.flatMap actC) 32 false) := by rw [hold j hj]; exact hjb
    have hkk : (0 : Int) ≤ (k : Int) ∧ (k : Int) < (A.length : Int) := by omega
    have w1 : IntKind.i64.wrap ((k : Int) + 1) = ((k + 1 : Nat) : Int) := by rw [wrap_i64 (by omega)]; omega
    obtain ⟨x0, x1, x2, x3, v1, v2, v3⟩ := x
    have c2 : List.take 7 (List.drop (k * 7) (us.flatMap actC)) = [.int .i64 x0, .int .i64 x1, .int .i64 x2, .string x3, .int .i64 v1, .int .i64 v2, .string v3] := c2
    simp -implicitDefEqProofs only [↓Zd, (Zp), if_true, if_false, ne_eq, implies_true, forall_const, Nat.reduceEqDiff, reduceIte, reduceCtorEq, Int.reduceEq, Int.reduceNeg, Int.reduceLE, Int.reduceLT, Nat.reduceAdd, Nat.reduceLeDiff, Int.reduceToNat, Nat.reduceMul, Nat.reduceBEq, okPart, Value.cells, cut, okCell, cld2, (HEx), (REx), vA, (ACx), underlying22, sz22, is22, ce22, ag22, ze22, underlying32, sz32, is32, ce32, ag32, ze32, fa32x0, fa32x1, fa32x2, fa32x3, fa32x4, e0, e7, e8, k1, k2, hkk, hjb3, c1, c2, co9]
    refine long12_spec ?_
    by_cases hl : (decide ((300 : Int) < x3.size) || decide ((300 : Int) < v3.size)) = true
    · rw [hl]
      simp -implicitDefEqProofs only [↓Zd, (Zp), if_true, if_false, ne_eq, implies_true, forall_const, Nat.reduceEqDiff, reduceIte, reduceCtorEq, Int.reduceEq, Int.reduceNeg, Int.reduceLE, Int.reduceLT, Nat.reduceAdd, Nat.reduceLeDiff, Int.reduceToNat, Nat.reduceMul, Nat.reduceBEq, okPart, Value.cells, cut, okCell, cld2, (HEx), (REx), vA, (ACx), co7]
      refine works12_spec ?_
      simp -implicitDefEqProofs only [↓Zd, (Zp), if_true, if_false, ne_eq, implies_true, forall_const, Nat.reduceEqDiff, reduceIte, reduceCtorEq, Int.reduceEq, Int.reduceNeg, Int.reduceLE, Int.reduceLT, Nat.reduceAdd, Nat.reduceLeDiff, Int.reduceToNat, Nat.reduceMul, Nat.reduceBEq, okPart, Value.cells, cut, okCell, cld2, (HEx), (REx), vA]
      exact hR _
    rw [Bool.eq_false_iff.2 hl]
    have hl2 : x3.size ≤ 300 ∧ v3.size ≤ 300 := by
      simp only [Bool.or_eq_true, decide_eq_true_eq, not_or] at hl
      omega
    have l4 : s3.le (s3.new (.cells [.int .i64 x0, .int .i64 x1, .int .i64 x2, .string x3, .int .i64 v1, .int .i64 v2, .string v3] 32 true)) := St.le_new (St.le_refl _)
    generalize s3.new (.cells [.int .i64 x0, .int .i64 x1, .int .i64 x2, .string x3, .int .i64 v1, .int .i64 v2, .string v3] 32 true) = s4 at l4 ⊢
    have hn4 := l4.1
    have hbL0 : cbuild Tryz.prog 27 #[] = some (.agg #[.int .i64 0, .int .i64 0, .int .i64 0, .int .i64 0]) := by kernel_rfl
    have hjb4 : s4.at' j = some (.cells (us.flatMap actC) 32 false) := by rw [l4.2 j (by omega)]; exact hjb3
    simp -implicitDefEqProofs only [↓Zd, (Zp), if_true, if_false, ne_eq, implies_true, forall_const, Nat.reduceEqDiff, reduceIte, reduceCtorEq, Int.reduceEq, Int.reduceNeg, Int.reduceLE, Int.reduceLT, Nat.reduceAdd, Nat.reduceLeDiff, Int.reduceToNat, Nat.reduceMul, Nat.reduceBEq, okPart, Value.cells, cut, okCell, cld2, (HEx), (REx), vA, (ACx), underlying22, sz22, is22, ce22, ag22, ze22, underlying32, sz32, is32, ce32, ag32, ze32, fa32x0, fa32x1, fa32x2, fa32x3, fa32x4, underlying27, sz27, is27, ce27, ag27, ze27, fa27x0, fa27x1, fa27x2, fa27x3, e0, e7, e8, hbL0, hkk, hjb4, c1, c2, ord4, co11]
    refine rzNew rfl rfl rfl fun s5 r f hz l5 hr5 hf5 => ?_
    have hn5 := l5.1
    have hjb5 : s5.at' j = some (.cells (us.flatMap actC) 32 false) := by rw [l5.2 j (by omega)]; exact hjb4
    simp -implicitDefEqProofs only [↓Zd, (Zp), if_true, if_false, ne_eq, implies_true, forall_const, Nat.reduceEqDiff, reduceIte, reduceCtorEq, Int.reduceEq, Int.reduceNeg, Int.reduceLE, Int.reduceLT, Nat.reduceAdd, Nat.reduceLeDiff, Int.reduceToNat, Nat.reduceMul, Nat.reduceBEq, okPart, Value.cells, cut, okCell, cld2, (HEx), (REx), vA, (ACx), underlying22, sz22, is22, ce22, ag22, ze22, underlying32, sz32, is32, ce32, ag32, ze32, fa32x0, fa32x1, fa32x2, fa32x3, fa32x4, underlying27, sz27, is27, ce27, ag27, ze27, fa27x0, fa27x1, fa27x2, fa27x3, e0, e7, e8, hkk, hjb5, c1, c2, ord4, co10]
    have h5 := (hH.le l4).le l5
    have hsz5 := done_sz (x := ⟨x0, x1, x2, x3, v1, v2, v3⟩) hsz htz (by show x3.size ≤ _; omega) (by show v3.size ≤ _; omega) hxok
    refine hdone0_spec (x := ⟨x0, x1, x2, x3, v1, v2, v3⟩) h5 (by omega) hz ⟨fun hc => by have := (hH.own _ hc).2; omega, fun hc => by have := (hH.own _ hc).2; omega⟩ hxok (by omega) (by omega) fun s6 P b hP hU => ?_
    have hn6 := hU.next
    simp -implicitDefEqProofs only [↓Zd, (Zp), if_true, if_false, ne_eq, implies_true, forall_const, Nat.reduceEqDiff, reduceIte, reduceCtorEq, Int.reduceEq, Int.reduceNeg, Int.reduceLE, Int.reduceLT, Nat.reduceAdd, Nat.reduceLeDiff, Int.reduceToNat, Nat.reduceMul, Nat.reduceBEq, okPart, Value.cells, cut, okCell, cld2, (HEx), (REx), vA, (ACx), e0, e7, e8, w1, ord4]
    refine ⟨by repeat (first | exact hFx | refine Fix.upd (by decide) ?_), 40 + 1 - (k + 1), by omega, k + 1, _, P, rfl, by omega, rfl, hP, hsz5.1, hsz5.2, by omega, fun c hc => ?_⟩
    rw [hU.keep c (by omega) (fun hc2 => by have := (hH.own c hc2).1; omega), l5.2 c (by omega), l4.2 c (by omega)]
    exact hold2 c hc
  case' inr.inl => simp -implicitDefEqProofs only [↓Zd, (Zp), if_true, if_false, ne_eq, implies_true, forall_const, Nat.reduceEqDiff, reduceIte, reduceCtorEq, Int.reduceEq, Int.reduceNeg, Int.reduceLE, Int.reduceLT, Nat.reduceAdd, Nat.reduceLeDiff, Int.reduceToNat, Nat.reduceMul, Nat.reduceBEq, okPart, Value.cells, cut, okCell, cld2, (HEx), (REx), vA, (ACx), underlying22, sz22, is22, ce22, ag22, ze22, e0, e4, e5, e7, e8, k1, (hold2 (s.next + 1) (by omega)).trans c5, co14]
  case' inr.inr => simp -implicitDefEqProofs only [↓Zd, (Zp), if_true, if_false, ne_eq, implies_true, forall_const, Nat.reduceEqDiff, reduceIte, reduceCtorEq, Int.reduceEq, Int.reduceNeg, Int.reduceLE, Int.reduceLT, Nat.reduceAdd, Nat.reduceLeDiff, Int.reduceToNat, Nat.reduceMul, Nat.reduceBEq, okPart, Value.cells, cut, okCell, cld2, (HEx), (REx), vA, (ACx), underlying22, sz22, is22, ce22, ag22, ze22, e0, e4, e5, e7, e8, k1, k2, (hold2 (s.next + 1) (by omega)).trans c5, co14]
  all_goals
    have c43 := (hold2 s.next (by omega)).trans c4
    have c53 := (hold2 (s.next + 1) (by omega)).trans c5
    obtain ⟨hpro, tg, pf, pn, sl, bs, hin⟩ := hH
    have hlim := hin.ok.lim
    have hno : ∀ c, c < s.next + 4 → ¬ O c := fun c hc h => by have := (hin.own c h).1; omega
    have hnO : ∀ c, s3.next ≤ c → ¬ O c := fun c hc h => by have := (hin.own c h).2; omega
    refine hown_spec (i := c1') hin r1 fun s4 hs4 => ?_
    have hv1 : ((obAt H c1').bind fun o => getP o.L c3) = ownV H c1' c3 := rfl
    rw [hv1, gotV_eq]
    generalize hvo : ownV H c1' c3 = vo
    have n4 := hs4.1
    have l5 : s3.le ((s4.new (.cells [.int .i64 0, .int .i64 0, .string ⟨#[]⟩] 30 true)).put s4.next (.cells [.int .i64 (vo.getD z3).1, .int .i64 (vo.getD z3).2.1, .string (vo.getD z3).2.2] 30 true)) := St.le_put (St.le_new hs4) n4
    have c9 : ((s4.new (.cells [.int .i64 0, .int .i64 0, .string ⟨#[]⟩] 30 true)).put s4.next (.cells [.int .i64 (vo.getD z3).1, .int .i64 (vo.getD z3).2.1, .string (vo.getD z3).2.2] 30 true)).at' s4.next = some (.cells [.int .i64 (vo.getD z3).1, .int .i64 (vo.getD z3).2.1, .string (vo.getD z3).2.2] 30 true) := by rw [St.at_put, if_pos rfl]
    have n5 : ((s4.new (.cells [.int .i64 0, .int .i64 0, .string ⟨#[]⟩] 30 true)).put s4.next (.cells [.int .i64 (vo.getD z3).1, .int .i64 (vo.getD z3).2.1, .string (vo.getD z3).2.2] 30 true)).next = s4.next + 1 := rfl
    simp -implicitDefEqProofs only [↓Zd, (Zp), if_true, if_false, ne_eq, implies_true, forall_const, Nat.reduceEqDiff, reduceIte, reduceCtorEq, Int.reduceEq, Int.reduceNeg, Int.reduceLE, Int.reduceLT, Nat.reduceAdd, Nat.reduceLeDiff, Int.reduceToNat, Nat.reduceMul, Nat.reduceBEq, okPart, Value.cells, cut, okCell, cld2, (HEx), (REx), vA, (ACx), underlying22, sz22, is22, ce22, ag22, ze22, e4, e5, e7, (l5.2 s.next (by omega)).trans c43, co14]
    generalize ((s4.new (.cells [.int .i64 0, .int .i64 0, .string ⟨#[]⟩] 30 true)).put s4.next (.cells [.int .i64 (vo.getD z3).1, .int .i64 (vo.getD z3).2.1, .string (vo.getD z3).2.2] 30 true)) = s5 at l5 c9 n5 ⊢
    refine hown_spec (i := a1) (hin.le l5) p1 fun s6 hs6 => ?_
    have hv2 : ((obAt H a1).bind fun o => getP o.L a3) = ownV H a1 a3 := rfl
    rw [hv2, gotV_eq]
    generalize hva : ownV H a1 a3 = va
    have n6 := hs6.1
    have l6 := St.le_trans l5 hs6
    have l7 : s6.le ((s6.new (.cells [.int .i64 0, .int .i64 0, .string ⟨#[]⟩] 30 true)).put s6.next (.cells [.int .i64 (va.getD z3).1, .int .i64 (va.getD z3).2.1, .string (va.getD z3).2.2] 30 true)) := St.le_put (St.le_new (St.le_refl _)) (Nat.le_refl _)
    simp -implicitDefEqProofs only [↓Zd, (Zp), if_true, if_false, ne_eq, implies_true, forall_const, Nat.reduceEqDiff, reduceIte, reduceCtorEq, Int.reduceEq, Int.reduceNeg, Int.reduceLE, Int.reduceLT, Nat.reduceAdd, Nat.reduceLeDiff, Int.reduceToNat, Nat.reduceMul, Nat.reduceBEq, okPart, Value.cells, cut, okCell, cld2, (HEx), (REx), vA, (ACx), underlying22, sz22, is22, ce22, ag22, ze22, e4, e5, e7, ((St.le_trans l6 l7).2 s.next (by omega)).trans c43, co16]
    generalize ((s6.new (.cells [.int .i64 0, .int .i64 0, .string ⟨#[]⟩] 30 true)).put s6.next (.cells [.int .i64 (va.getD z3).1, .int .i64 (va.getD z3).2.1, .string (va.getD z3).2.2] 30 true)) = s7 at l7 ⊢
    have l7' := St.le_trans l6 l7
    refine hcount_spec (i := a1) (hin.le l7') p1 fun s8 hs8 => ?_
    obtain ⟨n, hn⟩ : ∃ n : Nat, countV H a1 = (n : Int) := by
      unfold countV
      cases obAt H a1 with
      | none => exact ⟨0, rfl⟩
      | some o => exact ⟨o.L.length, rfl⟩
    have hnl : n ≤ 32 := by
      unfold countV at hn
      cases hoa : obAt H a1 with
      | none => rw [hoa] at hn; simp only at hn; omega
      | some o =>
        rw [hoa] at hn
        simp only at hn
        obtain ⟨j, rfl, hj, hoj⟩ := obAt_some hoa
        have := hin.ok.lens j o hoj
        omega
    have l8 := St.le_trans l7' hs8
    rw [hn]
    have n8 : s5.next ≤ s8.next := by have := hs6.1; have := l7.1; have := hs8.1; omega
    have c48 := (l8.2 s.next (by omega)).trans c43
    have c58 := (l8.2 (s.next + 1) (by omega)).trans c53
    have c98 : s8.at' s4.next = _ := ((St.le_trans hs6 (St.le_trans l7 hs8)).2 s4.next (by omega)).trans c9
    have hrs : ∀ y : ByteArray, crow Tryz.prog 42 1 #[(0, .string y)] = some (.cells [.string y] 9 true) := rowStr
    simp -implicitDefEqProofs only [↓Zd, (Zp), if_true, if_false, ne_eq, implies_true, forall_const, Nat.reduceEqDiff, reduceIte, reduceCtorEq, Int.reduceEq, Int.reduceNeg, Int.reduceLE, Int.reduceLT, Nat.reduceAdd, Nat.reduceLeDiff, Int.reduceToNat, Nat.reduceMul, Nat.reduceBEq, okPart, Value.cells, cut, okCell, cld2, (HEx), (REx), vA, (ACx), underlying22, sz22, is22, ce22, ag22, ze22, e4, e5, e7]
    refine wloop_inv hmix (fun fuel env s9 => ∃ (k : Nat) (sl2 : Value), fuel = n - k ∧ k ≤ n ∧ env 15 = .int .i64 (k : Int) ∧ env 14 = sl2 ∧ env 4 = .pointer (some ⟨s.next, 0, none⟩) ∧ env 5 = .pointer (some ⟨s.next + 1, 0, none⟩) ∧ env 7 = .pointer (some ⟨p, 0, none⟩) ∧ env 9 = .pointer (some ⟨s4.next, 0, none⟩) ∧ env 10 = .bool vo.isSome ∧ env 12 = .bool va.isSome ∧ env 13 = .int .i64 (n : Int) ∧ s8.le s9 ∧
      SlC 9 1 s9 sl2 (((List.range k).map (keyN H a1)).map .string) ((List.range k).map (keyN H a1)).length ∧ (∀ q m c, sl2 = .slice (some q) m c → s8.next ≤ q.block ∧ q.block < s9.next)) n ⟨0, .slice none 0 0, rfl, by omega, rfl, rfl, e4, e5, e7, rfl, rfl, rfl, rfl, St.le_refl _, .inl ⟨rfl, rfl, rfl⟩, fun q m c e => by cases e⟩ ?_
    rintro fuel env2 s9 ⟨k9, sl2, rfl, hk9, f15, f14, f4, f5, f7, f9, f10, f12, f13, hs9, hslc, hfr⟩
    have c49 := (hs9.2 s.next (by omega)).trans c48
    have c59 := (hs9.2 (s.next + 1) (by omega)).trans c58
    have c99 := (hs9.2 s4.next (by omega)).trans c98
    have l9 := St.le_trans l8 hs9
    have n9 := hs9.1
    by_cases hkn : (k9 : Int) < (n : Int)
    case pos =>
      have wk : IntKind.i64.wrap ((k9 : Int) + 1) = ((k9 + 1 : Nat) : Int) := by rw [wrap_i64 (by omega)]; omega
      simp -implicitDefEqProofs only [↓Zd, (Zp), if_true, if_false, ne_eq, implies_true, forall_const, Nat.reduceEqDiff, reduceIte, reduceCtorEq, Int.reduceEq, Int.reduceNeg, Int.reduceLE, Int.reduceLT, Nat.reduceAdd, Nat.reduceLeDiff, Int.reduceToNat, Nat.reduceMul, Nat.reduceBEq, okPart, Value.cells, cut, okCell, cld2, (HEx), (REx), vA, (ACx), f15, f14, f4, f5, f7, f9, f10, f12, f13, hkn, c49, co17]
      refine hkey_spec (i := a1) (k := (k9 : Int)) (hin.le l9) (by omega) p1 (by omega) fun s10 hs10 => ?_
      obtain ⟨ob, hob, hkV⟩ := keyN_get (H := H) (i := a1) (k := k9) (by rw [hn]; exact hkn)
      rw [hob]
      simp only [hkV]
      have n10 := hs10.1
      simp -implicitDefEqProofs only [↓Zd, (Zp), if_true, if_false, ne_eq, implies_true, forall_const, Nat.reduceEqDiff, reduceIte, reduceCtorEq, Int.reduceEq, Int.reduceNeg, Int.reduceLE, Int.reduceLT, Nat.reduceAdd, Nat.reduceLeDiff, Int.reduceToNat, Nat.reduceMul, Nat.reduceBEq, okPart, Value.cells, cut, okCell, cld2, (HEx), (REx), vA, (ACx), f15, f14, f4, f5, f7, f9, f10, f12, f13, hrs]
      refine wch_app_str (T := (List.range k9).map (keyN H a1)) (by simp; omega) (hslc.same fun q m c e => hs10.2 _ (hfr q m c e).2) (fun q m c e => by have := hfr q m c e; omega) fun s11 hn11 hb11 hk11 => ?_
      simp -implicitDefEqProofs only [↓Zd, (Zp), if_true, if_false, ne_eq, implies_true, forall_const, Nat.reduceEqDiff, reduceIte, reduceCtorEq, Int.reduceEq, Int.reduceNeg, Int.reduceLE, Int.reduceLT, Nat.reduceAdd, Nat.reduceLeDiff, Int.reduceToNat, Nat.reduceMul, Nat.reduceBEq, okPart, Value.cells, cut, okCell, cld2, (HEx), (REx), vA, (ACx), f15, f14, f4, f5, f7, f9, f10, f12, f13, wk]
      have e : (List.range (k9 + 1)).map (keyN H a1) = (List.range k9).map (keyN H a1) ++ [keyN H a1 k9] := by rw [List.range_succ]; simp
      refine ⟨n - (k9 + 1), by omega, k9 + 1, _, rfl, by omega, rfl, rfl, ⟨by omega, fun c hc => ?_⟩, ?_, fun q m c e => ?_⟩
      · rw [hk11 c (by omega) (fun q m k e e2 => by have := hfr q m k e; omega), hs10.2 c (by omega), hs9.2 c hc]
      · rw [e]
        refine .inr ⟨s10.next + 1, UNK, by simp, .inl rfl, hb11, by simp⟩
      · cases e
        exact ⟨by show s8.next ≤ s10.next + 1; omega, by show s10.next + 1 < _; omega⟩
    have hk9n : k9 = n := by omega
    subst hk9n
    simp -implicitDefEqProofs only [↓Zd, (Zp), if_true, if_false, ne_eq, implies_true, forall_const, Nat.reduceEqDiff, reduceIte, reduceCtorEq, Int.reduceEq, Int.reduceNeg, Int.reduceLE, Int.reduceLT, Nat.reduceAdd, Nat.reduceLeDiff, Int.reduceToNat, Nat.reduceMul, Nat.reduceBEq, okPart, Value.cells, cut, okCell, cld2, (HEx), (REx), vA, (ACx), f15, f14, f4, f5, f7, f9, f10, f12, f13, hkn, c49, co18]
    have hH9 : HpAt (s.next + 4) s9 p H (32 + 3 * k) O := ⟨hpro, tg, pf, pn, sl, bs, hin.le l9⟩
    refine hset_spec (k := b1) (n := b2) (y := b3) hH9 (by omega) (by omega) (by omega) p1 fun s11 P hP hU => ?_
    have hok9 := hin.ok
    generalize hGd : setH H a1 a3 (b1, b2, b3) = G at hP
    have n11 := hU.next
    have c411 := (hU.keep s.next (by omega) (hno _ (by omega))).trans c49
    have c511 := (hU.keep (s.next + 1) (by omega) (hno _ (by omega))).trans c59
    have c911 := (hU.keep s4.next (by omega) (hnO _ n4)).trans c99
    have hsl11 : SlC 9 1 s11 sl2 (((List.range k9).map (keyN H a1)).map .string) ((List.range k9).map (keyN H a1)).length := hslc.same fun q m c e => hU.keep _ (hfr q m c e).2 (hnO _ (by have := (hfr q m c e).1; omega))
    obtain ⟨hpG, tgG, pfG, pnG, slG2, bsG, hinG⟩ := hP
    have hlimG := hinG.ok.lim
    simp -implicitDefEqProofs only [↓Zd, (Zp), if_true, if_false, ne_eq, implies_true, forall_const, Nat.reduceEqDiff, reduceIte, reduceCtorEq, Int.reduceEq, Int.reduceNeg, Int.reduceLE, Int.reduceLT, Nat.reduceAdd, Nat.reduceLeDiff, Int.reduceToNat, Nat.reduceMul, Nat.reduceBEq, okPart, Value.cells, cut, okCell, cld2, (HEx), (REx), vA, (ACx), f14, f4, f5, f7, f9, f10, f12, f13, c511, co14]
    refine hown_spec (i := c1') hinG r1 fun s12 hs12 => ?_
    have hv3 : ((obAt G c1').bind fun o => getP o.L c3) = ownV G c1' c3 := rfl
    rw [hv3, gotV_eq]
    generalize hvw : ownV G c1' c3 = vw
    have n12 := hs12.1
    have l13 : s11.le ((s12.new (.cells [.int .i64 0, .int .i64 0, .string ⟨#[]⟩] 30 true)).put s12.next (.cells [.int .i64 (vw.getD z3).1, .int .i64 (vw.getD z3).2.1, .string (vw.getD z3).2.2] 30 true)) := St.le_put (St.le_new hs12) n12
    have c1913 : ((s12.new (.cells [.int .i64 0, .int .i64 0, .string ⟨#[]⟩] 30 true)).put s12.next (.cells [.int .i64 (vw.getD z3).1, .int .i64 (vw.getD z3).2.1, .string (vw.getD z3).2.2] 30 true)).at' s12.next = some (.cells [.int .i64 (vw.getD z3).1, .int .i64 (vw.getD z3).2.1, .string (vw.getD z3).2.2] 30 true) := by rw [St.at_put, if_pos rfl]
    have n13 : ((s12.new (.cells [.int .i64 0, .int .i64 0, .string ⟨#[]⟩] 30 true)).put s12.next (.cells [.int .i64 (vw.getD z3).1, .int .i64 (vw.getD z3).2.1, .string (vw.getD z3).2.2] 30 true)).next = s12.next + 1 := rfl
    have c413 := (l13.2 s.next (by omega)).trans c411
    have c513 := (l13.2 (s.next + 1) (by omega)).trans c511
    have c913 := (l13.2 s4.next (by omega)).trans c911
    have hsame : ¬ (a1 = c1' ∧ a3 = c3) → vw = vo := fun h => by rw [← hvw, ← hvo, ← hGd]; exact set_own h
    rcases (show (a1 = c1' ∧ a3 = c3) ∨ ¬ a1 = c1' ∨ (a1 = c1' ∧ ¬ a3 = c3) by by_cases g1 : a1 = c1' <;> by_cases g2 : a3 = c3 <;> simp [g1, g2]) with ⟨g1, g2⟩ | g1 | ⟨g1, g2⟩
    case' inl => simp -implicitDefEqProofs only [↓Zd, (Zp), if_true, if_false, ne_eq, implies_true, forall_const, Nat.reduceEqDiff, reduceIte, reduceCtorEq, Int.reduceEq, Int.reduceNeg, Int.reduceLE, Int.reduceLT, Nat.reduceAdd, Nat.reduceLeDiff, Int.reduceToNat, Nat.reduceMul, Nat.reduceBEq, okPart, Value.cells, cut, okCell, cld2, (HEx), (REx), vA, (ACx), f14, f4, f5, f7, f9, f10, f12, f13, c413, c513, c913, c1913, g1, g2, decide_true]
    case' inr.inl =>
      have := hsame (fun h => g1 h.1)
      subst this
      simp -implicitDefEqProofs only [↓Zd, (Zp), if_true, if_false, ne_eq, implies_true, forall_const, Nat.reduceEqDiff, reduceIte, reduceCtorEq, Int.reduceEq, Int.reduceNeg, Int.reduceLE, Int.reduceLT, Nat.reduceAdd, Nat.reduceLeDiff, Int.reduceToNat, Nat.reduceMul, Nat.reduceBEq, okPart, Value.cells, cut, okCell, cld2, (HEx), (REx), vA, (ACx), f14, f4, f5, f7, f9, f10, f12, f13, c413, c513, c913, c1913, g1, decide_false, VneSelf, decide_true, beq_self_eq_true, Bool.not_true]
    case' inr.inr =>
      have := hsame (fun h => g2 h.2)
      subst this
      simp -implicitDefEqProofs only [↓Zd, (Zp), if_true, if_false, ne_eq, implies_true, forall_const, Nat.reduceEqDiff, reduceIte, reduceCtorEq, Int.reduceEq, Int.reduceNeg, Int.reduceLE, Int.reduceLT, Nat.reduceAdd, Nat.reduceLeDiff, Int.reduceToNat, Nat.reduceMul, Nat.reduceBEq, okPart, Value.cells, cut, okCell, cld2, (HEx), (REx), vA, (ACx), f14, f4, f5, f7, f9, f10, f12, f13, c413, c513, c913, c1913, g1, g2, decide_true, decide_false, VneSelf, beq_self_eq_true, Bool.not_true]
    all_goals
      have hsl13 : SlC 9 1 ((s12.new (.cells [.int .i64 0, .int .i64 0, .string ⟨#[]⟩] 30 true)).put s12.next (.cells [.int .i64 (vw.getD z3).1, .int .i64 (vw.getD z3).2.1, .string (vw.getD z3).2.2] 30 true)) sl2 (((List.range k9).map (keyN H a1)).map .string) ((List.range k9).map (keyN H a1)).length := hsl11.same fun q m c e => l13.2 _ (by have := hfr q m c e; omega)
      have hfr13 : ∀ q m c, sl2 = .slice (some q) m c → q.block < ((s12.new (.cells [.int .i64 0, .int .i64 0, .string ⟨#[]⟩] 30 true)).put s12.next (.cells [.int .i64 (vw.getD z3).1, .int .i64 (vw.getD z3).2.1, .string (vw.getD z3).2.2] 30 true)).next := fun q m c e => by have := (hfr q m c e).2; rw [n13]; omega
      have hin13 := hinG.le l13
      clear l13 c1913 c911 c913
      generalize ((s12.new (.cells [.int .i64 0, .int .i64 0, .string ⟨#[]⟩] 30 true)).put s12.next (.cells [.int .i64 (vw.getD z3).1, .int .i64 (vw.getD z3).2.1, .string (vw.getD z3).2.2] 30 true)) = s13 at n13 c413 c513 hsl13 hfr13 hin13 ⊢
      have n133 : s.next + 4 ≤ s13.next := by omega
      refine wloop_inv hmix (fun fuel env s14 => ∃ (m : Nat), fuel = k9 - m ∧ m ≤ k9 ∧ env 22 = .int .i64 (m : Int) ∧ env 14 = sl2 ∧ env 4 = .pointer (some ⟨s.next, 0, none⟩) ∧ env 7 = .pointer (some ⟨p, 0, none⟩) ∧ env 12 = .bool va.isSome ∧ env 13 = .int .i64 (k9 : Int) ∧ env 18 = .int .i64 (setE H a1 a3) ∧ s13.le s14) k9 ⟨0, rfl, by omega, rfl, f14, f4, f7, f12, f13, by first | rfl | (rw [g1, g2]; rfl) | (rw [g1]; rfl), St.le_refl _⟩ ?_
      rintro fuel env3 s14 ⟨m, rfl, hm, g22, g14, g4, g7, g12, g13, g18, hs14⟩
      have c414 := (hs14.2 s.next (by omega)).trans c413
      have hin14 := hin13.le hs14
      by_cases hmn : (m : Int) < (k9 : Int)
      case pos =>
        have hkG := set_keys (v := (b1, b2, b3)) (x := a3) hok9 (i := a1) (k := m) (by rw [hn]; exact hmn)
        rw [hGd] at hkG
        have wk : IntKind.i64.wrap ((m : Int) + 1) = ((m + 1 : Nat) : Int) := by rw [wrap_i64 (by omega)]; omega
        simp -implicitDefEqProofs only [↓Zd, (Zp), if_true, if_false, ne_eq, implies_true, forall_const, Nat.reduceEqDiff, reduceIte, reduceCtorEq, Int.reduceEq, Int.reduceNeg, Int.reduceLE, Int.reduceLT, Nat.reduceAdd, Nat.reduceLeDiff, Int.reduceToNat, Nat.reduceMul, Nat.reduceBEq, okPart, Value.cells, cut, okCell, cld2, (HEx), (REx), vA, (ACx), g22, g14, g4, g7, g12, g13, g18, hmn, c414, co17]
        refine hkey_spec (i := a1) (k := (m : Int)) hin14 (by omega) p1 (by omega) fun s15 hs15 => ?_
        obtain ⟨ob, hob, hkV⟩ := keyN_get (H := G) (i := a1) (k := m) hkG.2
        rw [hob]
        simp only [hkV]
        rw [hkG.1]
        have hmlt : m < ((List.range k9).map (keyN H a1)).length := by simp; omega
        rcases hsl13 with ⟨e1, _⟩ | ⟨bb, cc, e1, e2, hbb, _⟩
        · omega
        subst e1
        have hbn := hfr13 _ _ _ rfl
        simp only at hbn
        have hbb15 := (hs15.2 bb (by have := hs14.1; omega)).trans ((hs14.2 bb hbn).trans hbb)
        have hkl : (0 : Int) ≤ (m : Int) ∧ (m : Int) < ((((List.range k9).map (keyN H a1)).length : Nat) : Int) := by omega
        have hgx : (((List.range k9).map (keyN H a1)).map Value.string)[m]? = some (.string (keyN H a1 m)) := by
          rw [List.getElem?_map, List.getElem?_map, List.getElem?_range (by omega)]; rfl
        simp -implicitDefEqProofs only [↓Zd, (Zp), if_true, if_false, ne_eq, implies_true, forall_const, Nat.reduceEqDiff, reduceIte, reduceCtorEq, Int.reduceEq, Int.reduceNeg, Int.reduceLE, Int.reduceLT, Nat.reduceAdd, Nat.reduceLeDiff, Int.reduceToNat, Nat.reduceMul, Nat.reduceBEq, okPart, Value.cells, cut, okCell, cld2, (HEx), (REx), vA, (ACx), underlying42, sz42, is42, ce42, ag42, ze42, g22, g14, g4, g7, g12, g13, g18, hkl, hbb15, hgx, Nat.mul_one, wk, decide_true]
        exact ⟨k9 - (m + 1), by omega, m + 1, rfl, by omega, rfl, St.le_trans hs14 hs15⟩
      simp -implicitDefEqProofs only [↓Zd, (Zp), if_true, if_false, ne_eq, implies_true, forall_const, Nat.reduceEqDiff, reduceIte, reduceCtorEq, Int.reduceEq, Int.reduceNeg, Int.reduceLE, Int.reduceLT, Nat.reduceAdd, Nat.reduceLeDiff, Int.reduceToNat, Nat.reduceMul, Nat.reduceBEq, okPart, Value.cells, cut, okCell, cld2, (HEx), (REx), vA, (ACx), g22, g14, g4, g7, g12, g13, g18, hmn, c414, co14]
      refine hown_spec (i := a1) hin14 p1 fun s15 hs15 => ?_
      have hv4 : ((obAt G a1).bind fun o => getP o.L a3) = ownV G a1 a3 := rfl
      rw [hv4, gotV_eq]
      have n15 := hs15.1
      have l16 : s14.le ((s15.new (.cells [.int .i64 0, .int .i64 0, .string ⟨#[]⟩] 30 true)).put s15.next (.cells [.int .i64 ((ownV G a1 a3).getD z3).1, .int .i64 ((ownV G a1 a3).getD z3).2.1, .string ((ownV G a1 a3).getD z3).2.2] 30 true)) := St.le_put (St.le_new hs15) n15
      have n414 := hs14.1
      have c415 := (hs15.2 s.next (by omega)).trans c414
      have ns15 : ¬ s.next = s15.next := by omega
      by_cases he : setE H a1 a3 = 0
      case neg =>
        have hGH : G = H := by rw [← hGd]; exact set_err he
        rw [hGH] at hin14 ⊢
        rw [hva]
        have l16 : s14.le ((s15.new (.cells [.int .i64 0, .int .i64 0, .string ⟨#[]⟩] 30 true)).put s15.next (.cells [.int .i64 (va.getD z3).1, .int .i64 (va.getD z3).2.1, .string (va.getD z3).2.2] 30 true)) := St.le_put (St.le_new hs15) n15
        simp -implicitDefEqProofs only [↓Zd, (Zp), if_true, if_false, ne_eq, implies_true, forall_const, Nat.reduceEqDiff, reduceIte, reduceCtorEq, Int.reduceEq, Int.reduceNeg, Int.reduceLE, Int.reduceLT, Nat.reduceAdd, Nat.reduceLeDiff, Int.reduceToNat, Nat.reduceMul, Nat.reduceBEq, okPart, Value.cells, cut, okCell, cld2, (HEx), (REx), vA, (ACx), g22, g14, g4, g7, g12, g13, g18, he, c415, ns15, decide_true, decide_false, beq_self_eq_true, Bool.not_false, co16]
        refine hcount_spec (i := a1) (hin14.le l16) p1 fun s17 hs17 => ?_
        rw [hn]
        simp -implicitDefEqProofs only [↓Zd, (Zp), if_true, if_false, ne_eq, implies_true, forall_const, Nat.reduceEqDiff, reduceIte, reduceCtorEq, Int.reduceEq, Int.reduceNeg, Int.reduceLE, Int.reduceLT, Nat.reduceAdd, Nat.reduceLeDiff, Int.reduceToNat, Nat.reduceMul, Nat.reduceBEq, okPart, Value.cells, cut, okCell, cld2, (HEx), (REx), vA, (ACx), g22, g14, g4, g7, g12, g13, g18, decide_true, co7]
        refine works12_spec ?_
        simp -implicitDefEqProofs only [↓Zd, (Zp), if_true, if_false, ne_eq, implies_true, forall_const, Nat.reduceEqDiff, reduceIte, reduceCtorEq, Int.reduceEq, Int.reduceNeg, Int.reduceLE, Int.reduceLT, Nat.reduceAdd, Nat.reduceLeDiff, Int.reduceToNat, Nat.reduceMul, Nat.reduceBEq, okPart, Value.cells, cut, okCell, cld2, (HEx), (REx), vA]
        exact hR _
      case pos =>
        have hgot : ownV G a1 a3 = some (b1, b2, b3) := by rw [← hGd]; exact set_got he
        have hcnt : countV G a1 = if va.isSome then (k9 : Int) else (k9 : Int) + 1 := by rw [← hGd, set_count hok9 he, hva, hn]
        rw [hgot] at l16 ⊢
        simp only [Option.getD_some, Option.isSome_some] at l16 ⊢
        have wn : IntKind.i64.wrap ((k9 : Int) + 1) = (k9 : Int) + 1 := by rw [wrap_i64 (by omega)]
        cases hvs : va.isSome with
        | true =>
          rw [hvs] at g12 hcnt
          simp only [if_true] at hcnt
          simp -implicitDefEqProofs only [↓Zd, (Zp), if_true, if_false, ne_eq, implies_true, forall_const, Nat.reduceEqDiff, reduceIte, reduceCtorEq, Int.reduceEq, Int.reduceNeg, Int.reduceLE, Int.reduceLT, Nat.reduceAdd, Nat.reduceLeDiff, Int.reduceToNat, Nat.reduceMul, Nat.reduceBEq, okPart, Value.cells, cut, okCell, cld2, (HEx), (REx), vA, (ACx), g22, g14, g4, g7, g12, g13, g18, he, c415, ns15, VeqSelf, decide_true, co16]
          refine hcount_spec (i := a1) (hin14.le l16) p1 fun s17 hs17 => ?_
          rw [hcnt]
          simp -implicitDefEqProofs only [↓Zd, (Zp), if_true, if_false, ne_eq, implies_true, forall_const, Nat.reduceEqDiff, reduceIte, reduceCtorEq, Int.reduceEq, Int.reduceNeg, Int.reduceLE, Int.reduceLT, Nat.reduceAdd, Nat.reduceLeDiff, Int.reduceToNat, Nat.reduceMul, Nat.reduceBEq, okPart, Value.cells, cut, okCell, cld2, (HEx), (REx), vA, (ACx), g22, g14, g4, g7, g12, g13, g18, decide_true, co7]
          refine works12_spec ?_
          simp -implicitDefEqProofs only [↓Zd, (Zp), if_true, if_false, ne_eq, implies_true, forall_const, Nat.reduceEqDiff, reduceIte, reduceCtorEq, Int.reduceEq, Int.reduceNeg, Int.reduceLE, Int.reduceLT, Nat.reduceAdd, Nat.reduceLeDiff, Int.reduceToNat, Nat.reduceMul, Nat.reduceBEq, okPart, Value.cells, cut, okCell, cld2, (HEx), (REx), vA]
          exact hR _
        | false =>
          rw [hvs] at g12 hcnt
          simp only [Bool.false_eq_true, if_false] at hcnt
          simp -implicitDefEqProofs only [↓Zd, (Zp), if_true, if_false, ne_eq, implies_true, forall_const, Nat.reduceEqDiff, reduceIte, reduceCtorEq, Int.reduceEq, Int.reduceNeg, Int.reduceLE, Int.reduceLT, Nat.reduceAdd, Nat.reduceLeDiff, Int.reduceToNat, Nat.reduceMul, Nat.reduceBEq, okPart, Value.cells, cut, okCell, cld2, (HEx), (REx), vA, (ACx), g22, g14, g4, g7, g12, g13, g18, he, c415, ns15, VeqSelf, decide_true, co16]
          refine hcount_spec (i := a1) (hin14.le l16) p1 fun s17 hs17 => ?_
          rw [hcnt]
          simp -implicitDefEqProofs only [↓Zd, (Zp), if_true, if_false, ne_eq, implies_true, forall_const, Nat.reduceEqDiff, reduceIte, reduceCtorEq, Int.reduceEq, Int.reduceNeg, Int.reduceLE, Int.reduceLT, Nat.reduceAdd, Nat.reduceLeDiff, Int.reduceToNat, Nat.reduceMul, Nat.reduceBEq, okPart, Value.cells, cut, okCell, cld2, (HEx), (REx), vA, (ACx), g22, g14, g4, g7, g12, g13, g18, wn, decide_true, co7]
          refine works12_spec ?_
          simp -implicitDefEqProofs only [↓Zd, (Zp), if_true, if_false, ne_eq, implies_true, forall_const, Nat.reduceEqDiff, reduceIte, reduceCtorEq, Int.reduceEq, Int.reduceNeg, Int.reduceLE, Int.reduceLT, Nat.reduceAdd, Nat.reduceLeDiff, Int.reduceToNat, Nat.reduceMul, Nat.reduceBEq, okPart, Value.cells, cut, okCell, cld2, (HEx), (REx), vA]
          exact hR _
end
theorem heapSets_walk {A us : List ActD} {cp : Nat} {oi : Option BI} {ad : Nat → Option Addr} {v : Value} {a0 a1 a2 : Int} {a3 : ByteArray} {k4 n4 : Int} {x4 : ByteArray} {c0 c1 c2 : Int} {c3 : ByteArray} {m4 q4 : Int} {y4 : ByteArray} {w : World} (hr : ∀ ρ, QIn ρ w oi (us.flatMap actC)) (hv : ∀ (ρ : Ren) j, ρ j = oi → VRel ρ (.slice (ad j) A.length cp) v) (hok : ∀ a ∈ A, ActOk a) (ht : A = [] ∨ (ad = fun j => some ⟨j, 0, none⟩) ∧ ∀ k, k < A.length → us[k]? = A[k]?) (hl : A.length ≤ 9223372036854775807)
    (h0 : (Lit.int .i64 a0).wf = true) (h1 : (Lit.int .i64 a1).wf = true) (h2 : (Lit.int .i64 a2).wf = true) (_ : a3.size ≤ maxLen) (h4 : (Lit.int .i64 k4).wf = true) (h5 : (Lit.int .i64 n4).wf = true) (_ : x4.size ≤ maxLen)
    (g0 : (Lit.int .i64 c0).wf = true) (g1 : (Lit.int .i64 c1).wf = true) (g2 : (Lit.int .i64 c2).wf = true) (_ : c3.size ≤ maxLen) (g4 : (Lit.int .i64 m4).wf = true) (g5 : (Lit.int .i64 q4).wf = true) (_ : y4.size ≤ maxLen) :
    Calls Tryz.prog 4 #[v, .agg #[.int .i64 a0, .int .i64 a1, .int .i64 a2, .string a3, .int .i64 k4, .int .i64 n4, .string x4], .agg #[.int .i64 c0, .int .i64 c1, .int .i64 c2, .string c3, .int .i64 m4, .int .i64 q4, .string y4]] w fun e w' => e = .returned (.bool true) ∧ Below w.heap.size w w' := by
  refine calls_q (L := [(32, us.flatMap actC)]) (B := [oi]) (args := #[.slice (ad 0) A.length cp, .agg #[.int .i64 a0, .int .i64 a1, .int .i64 a2, .string a3, .int .i64 k4, .int .i64 n4, .string x4], .agg #[.int .i64 c0, .int .i64 c1, .int .i64 c2, .string c3, .int .i64 m4, .int .i64 q4, .string y4]]) rfl ?_ ⟨rfl, ?_⟩
    (heapSets_spec (a := ⟨a0, a1, a2, a3, k4, n4, x4⟩) (o := ⟨c0, c1, c2, c3, m4, q4, y4⟩) ⟨fits_i64 h0, fits_i64 h1, fits_i64 h2, fits_i64 h4, fits_i64 h5⟩ ⟨fits_i64 g0, fits_i64 g1, fits_i64 g2, fits_i64 g4, fits_i64 g5⟩ ?_ hok hl fun _ => rfl)
  · intro j oi' r h1 h2
    match j, h1, h2 with
    | 0, h1, h2 => cases h1; cases h2; exact hr _
  · intro i hi
    match i, hi with
    | 0, _ => exact hv _ 0 rfl
    | 1, _ => exact VRel.of_plain 6 rfl
    | 2, _ => exact VRel.of_plain 6 rfl
  · rcases ht with ht | ⟨rfl, ht⟩
    · exact .inl ht
    · exact .inr ⟨0, us, rfl, Nat.zero_lt_one, rfl, ht⟩
end Go.Proofs.Tryz
