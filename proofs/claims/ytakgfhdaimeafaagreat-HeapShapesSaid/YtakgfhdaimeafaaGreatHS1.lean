/- Shapes of objects: the walk of the law on them. A lemma file: no statement of its own. -/
import Derived.Test.YtakgfhdaimeafaaGreatFwF
import Derived.Test.YtakgfhdaimeafaaGreatHC0
set_option linter.unusedSimpArgs false
set_option linter.unusedVariables false
set_option linter.unusedSectionVars false
namespace Go.Proofs.Tryz
open Go.Cs
open Go.RowKit (Below)
set_option maxRecDepth 100000
attribute [local irreducible] CCalls WLoop WScope CRound WRange

section
variable {M : Type} [Mem M] {w0 : World} {s : St M} {R : Value → St M → Prop}

set_option maxHeartbeats 16000000 in
theorem heapShapes_spec {A : List ActD} {ad : Option Addr} {cp : Nat} (hA : QRow 32 actC s ad A) (hok : ∀ a ∈ A, ActOk a) (hAl : A.length ≤ 9223372036854775807)
    (hR : ∀ s', R (.bool true) s') : CCalls Tryz.prog w0 5 #[.slice ad A.length cp] s R := by
  refine wfun2 hmix ok5 (l := [.slice ad A.length cp]) func5 rfl ntmps5 results5 (by simp) ?_
  have hbL : cbuild Tryz.prog 27 #[(0, .int .i64 20), (2, .int .i64 20)] = some (.agg #[.int .i64 20, .int .i64 0, .int .i64 20, .int .i64 0]) := by kernel_rfl
  simp -implicitDefEqProofs only [↓Zd, (Zp), if_true, if_false, ne_eq, implies_true, forall_const, Nat.reduceEqDiff, reduceIte, reduceCtorEq, Int.reduceEq, Int.reduceNeg, Int.reduceLE, Int.reduceLT, Nat.reduceAdd, Nat.reduceLeDiff, Int.reduceToNat, Nat.reduceMul, Nat.reduceBEq, okPart, Value.cells, cut, okCell, cld2, (HEx), (REx), vA, (ACx), underlying27, sz27, is27, ce27, ag27, ze27, fa27x0, fa27x1, fa27x2, fa27x3, hbL, co8]
  refine hnew_spec fun s1 p hH1 hs1 => ?_
  have hn1 := hs1.1
  simp -implicitDefEqProofs only [↓Zd, (Zp), if_true, if_false, ne_eq, implies_true, forall_const, Nat.reduceEqDiff, reduceIte, reduceCtorEq, Int.reduceEq, Int.reduceNeg, Int.reduceLE, Int.reduceLT, Nat.reduceAdd, Nat.reduceLeDiff, Int.reduceToNat, Nat.reduceMul, Nat.reduceBEq, okPart, Value.cells, cut, okCell, cld2, (HEx), (REx), vA, (ACx)]
  refine wloop_fix hmix [4, 21, 22, 23, 24, 25, 26, 27, 28, 29, 30, 31, 32, 33, 34, 35, 36, 37, 38, 39, 40, 41, 42, 43, 44] (fun fuel env s3 => ∃ (k : Nat) (H : Hp) (O : Nat → Prop), fuel = 60 + 1 - k ∧ k ≤ 60 ∧ env 4 = .int .i64 (k : Int) ∧ HpAt s.next s3 p H (32 + 3 * k) O ∧ HSz 1000000 H ∧ TSz 1000000 H ∧ s.next ≤ s3.next ∧ ∀ c, c < s.next → s3.at' c = s.at' c) 61 ⟨0, _, _, rfl, by omega, rfl, hH1.mono (Nat.zero_le _), .new _ _ _ _, (fun x hx => by simp [newH] at hx), hn1, hs1.2⟩ ?_
  rintro fuel env s3 hFx ⟨k, H, O, rfl, hk, e4, hH, hsz, htz, hlo3, hold⟩
  have e0 : env 0 = .slice ad A.length cp := by rw [hFx 0 rfl]; rfl
  have e3 : env 3 = .pointer (some ⟨p, 0, none⟩) := by rw [hFx 3 rfl]; rfl
  rcases (show ((k : Int) < (A.length : Int) ∧ (k : Int) < 60) ∨ ¬ (k : Int) < (A.length : Int) ∨ ((k : Int) < (A.length : Int) ∧ ¬ (k : Int) < 60) by omega) with ⟨k1, k2⟩ | k1 | ⟨k1, k2⟩
  case inl =>
    have hkA : k < A.length := by omega
    have hx : A[k]? = some A[k] := by simp [hkA]
    have hxok := hok _ (List.mem_of_getElem? hx)
    generalize A[k] = x at hx hxok
    rcases hA with rfl | ⟨j, us, rfl, hj, hjb, hus⟩
    · simp at hkA
    have hux : us[k]? = some x := by rw [hus k hkA]; exact hx
    obtain ⟨c1, c2⟩ := acts_cut us k x hux
    have hjb3 : s3.at' j = some (.cells (us.flatMap actC) 32 false) := by rw [hold j hj]; exact hjb
    have hkk : (0 : Int) ≤ (k : Int) ∧ (k : Int) < (A.length : Int) := by omega
    have w1 : IntKind.i64.wrap ((k : Int) + 1) = ((k + 1 : Nat) : Int) := by rw [wrap_i64 (by omega)]; omega
    obtain ⟨x0, x1, x2, x3, v1, v2, v3⟩ := x
    have c2 : List.take 7 (List.drop (k * 7) (us.flatMap actC)) = [.int .i64 x0, .int .i64 x1, .int .i64 x2, .string x3, .int .i64 v1, .int .i64 v2, .string v3] := c2
    simp -implicitDefEqProofs only [↓Zd, (Zp), if_true, if_false, ne_eq, implies_true, forall_const, Nat.reduceEqDiff, reduceIte, reduceCtorEq, Int.reduceEq, Int.reduceNeg, Int.reduceLE, Int.reduceLT, Nat.reduceAdd, Nat.reduceLeDiff, Int.reduceToNat, Nat.reduceMul, Nat.reduceBEq, okPart, Value.cells, cut, okCell, cld2, (HEx), (REx), vA, (ACx), underlying22, sz22, is22, ce22, ag22, ze22, underlying32, sz32, is32, ce32, ag32, ze32, fa32x0, fa32x1, fa32x2, fa32x3, fa32x4, e0, e3, e4, k1, k2, hkk, hjb3, c1, c2, co9]
    refine long12_spec ?_
    by_cases hl : (decide ((300 : Int) < x3.size) || decide ((300 : Int) < v3.size)) = true
    · rw [hl]
      simp -implicitDefEqProofs only [↓Zd, (Zp), if_true, if_false, ne_eq, implies_true, forall_const, Nat.reduceEqDiff, reduceIte, reduceCtorEq, Int.reduceEq, Int.reduceNeg, Int.reduceLE, Int.reduceLT, Nat.reduceAdd, Nat.reduceLeDiff, Int.reduceToNat, Nat.reduceMul, Nat.reduceBEq, okPart, Value.cells, cut, okCell, cld2, (HEx), (REx), vA, (ACx), co7]
      refine works12_spec ?_
      simp -implicitDefEqProofs only [↓Zd, (Zp), if_true, if_false, ne_eq, implies_true, forall_const, Nat.reduceEqDiff, reduceIte, reduceCtorEq, Int.reduceEq, Int.reduceNeg, Int.reduceLE, Int.reduceLT, Nat.reduceAdd, Nat.reduceLeDiff, Int.reduceToNat, Nat.reduceMul, Nat.reduceBEq, okPart, Value.cells, cut, okCell, cld2, (HEx), (REx), vA]
      exact hR _
    rw [Bool.eq_false_iff.2 hl]
    have hl2 : x3.size ≤ 300 ∧ v3.size ≤ 300 := by
      simp only [Bool.or_eq_true, decide_eq_true_eq, not_or] at hl
      omega
    have l4 : s3.le (s3.new (.cells [.int .i64 x0, .int .i64 x1, .int .i64 x2, .string x3, .int .i64 v1, .int .i64 v2, .string v3] 32 true)) := St.le_new (St.le_refl _)
    generalize s3.new (.cells [.int .i64 x0, .int .i64 x1, .int .i64 x2, .string x3, .int .i64 v1, .int .i64 v2, .string v3] 32 true) = s4 at l4 ⊢
    have hn4 := l4.1
    have hbL0 : cbuild Tryz.prog 27 #[] = some (.agg #[.int .i64 0, .int .i64 0, .int .i64 0, .int .i64 0]) := by kernel_rfl
    have hjb4 : s4.at' j = some (.cells (us.flatMap actC) 32 false) := by rw [l4.2 j (by omega)]; exact hjb3
    simp -implicitDefEqProofs only [↓Zd, (Zp), if_true, if_false, ne_eq, implies_true, forall_const, Nat.reduceEqDiff, reduceIte, reduceCtorEq, Int.reduceEq, Int.reduceNeg, Int.reduceLE, Int.reduceLT, Nat.reduceAdd, Nat.reduceLeDiff, Int.reduceToNat, Nat.reduceMul, Nat.reduceBEq, okPart, Value.cells, cut, okCell, cld2, (HEx), (REx), vA, (ACx), underlying22, sz22, is22, ce22, ag22, ze22, underlying32, sz32, is32, ce32, ag32, ze32, fa32x0, fa32x1, fa32x2, fa32x3, fa32x4, underlying27, sz27, is27, ce27, ag27, ze27, fa27x0, fa27x1, fa27x2, fa27x3, e0, e3, e4, hbL0, hkk, hjb4, c1, c2, ord5, co11]
    refine rzNew rfl rfl rfl fun s5 r f hz l5 hr5 hf5 => ?_
    have hn5 := l5.1
    have hjb5 : s5.at' j = some (.cells (us.flatMap actC) 32 false) := by rw [l5.2 j (by omega)]; exact hjb4
    simp -implicitDefEqProofs only [↓Zd, (Zp), if_true, if_false, ne_eq, implies_true, forall_const, Nat.reduceEqDiff, reduceIte, reduceCtorEq, Int.reduceEq, Int.reduceNeg, Int.reduceLE, Int.reduceLT, Nat.reduceAdd, Nat.reduceLeDiff, Int.reduceToNat, Nat.reduceMul, Nat.reduceBEq, okPart, Value.cells, cut, okCell, cld2, (HEx), (REx), vA, (ACx), underlying22, sz22, is22, ce22, ag22, ze22, underlying32, sz32, is32, ce32, ag32, ze32, fa32x0, fa32x1, fa32x2, fa32x3, fa32x4, underlying27, sz27, is27, ce27, ag27, ze27, fa27x0, fa27x1, fa27x2, fa27x3, e0, e3, e4, hkk, hjb5, c1, c2, ord5, co10]
    have h5 := (hH.le l4).le l5
    have hsz5 := done_sz (x := ⟨x0, x1, x2, x3, v1, v2, v3⟩) hsz htz (by show x3.size ≤ _; omega) (by show v3.size ≤ _; omega) hxok
    refine hdone0_spec (x := ⟨x0, x1, x2, x3, v1, v2, v3⟩) h5 (by omega) hz ⟨fun hc => by have := (hH.own _ hc).2; omega, fun hc => by have := (hH.own _ hc).2; omega⟩ hxok (by omega) (by omega) fun s6 P b hP hU => ?_
    have hn6 := hU.next
    simp -implicitDefEqProofs only [↓Zd, (Zp), if_true, if_false, ne_eq, implies_true, forall_const, Nat.reduceEqDiff, reduceIte, reduceCtorEq, Int.reduceEq, Int.reduceNeg, Int.reduceLE, Int.reduceLT, Nat.reduceAdd, Nat.reduceLeDiff, Int.reduceToNat, Nat.reduceMul, Nat.reduceBEq, okPart, Value.cells, cut, okCell, cld2, (HEx), (REx), vA, (ACx), e0, e3, e4, w1, ord5]
    refine ⟨by repeat (first | exact hFx | refine Fix.upd (by decide) ?_), 60 + 1 - (k + 1), by omega, k + 1, _, P, rfl, by omega, rfl, hP, hsz5.1, hsz5.2, by omega, fun c hc => ?_⟩
    rw [hU.keep c (by omega) (fun hc2 => by have := (hH.own c hc2).1; omega), l5.2 c (by omega), l4.2 c (by omega)]
    exact hold c hc
  case' inr.inl => simp -implicitDefEqProofs only [↓Zd, (Zp), if_true, if_false, ne_eq, implies_true, forall_const, Nat.reduceEqDiff, reduceIte, reduceCtorEq, Int.reduceEq, Int.reduceNeg, Int.reduceLE, Int.reduceLT, Nat.reduceAdd, Nat.reduceLeDiff, Int.reduceToNat, Nat.reduceMul, Nat.reduceBEq, okPart, Value.cells, cut, okCell, cld2, (HEx), (REx), vA, (ACx), underlying22, sz22, is22, ce22, ag22, ze22, e0, e4, k1]
  case' inr.inr => simp -implicitDefEqProofs only [↓Zd, (Zp), if_true, if_false, ne_eq, implies_true, forall_const, Nat.reduceEqDiff, reduceIte, reduceCtorEq, Int.reduceEq, Int.reduceNeg, Int.reduceLE, Int.reduceLT, Nat.reduceAdd, Nat.reduceLeDiff, Int.reduceToNat, Nat.reduceMul, Nat.reduceBEq, okPart, Value.cells, cut, okCell, cld2, (HEx), (REx), vA, (ACx), underlying22, sz22, is22, ce22, ag22, ze22, e0, e4, k1, k2]
  all_goals
    obtain ⟨hpro, tg, pf, pn, sl, bs, hin⟩ := hH
    have hlim := hin.ok.lim
    refine wloop_inv hmix (fun fuel env s4 => ∃ i : Nat, fuel = H.obs.length + 1 - i ∧ i ≤ H.obs.length ∧ env 5 = .int .i64 ((i + 1 : Nat) : Int) ∧ env 3 = .pointer (some ⟨p, 0, none⟩) ∧ s3.le s4) (H.obs.length + 1) ⟨0, rfl, by omega, rfl, e3, St.le_refl _⟩ ?_
    rintro fuel env2 s4 ⟨i, rfl, hi, e5, f3, hs4⟩
    simp -implicitDefEqProofs only [↓Zd, (Zp), if_true, if_false, ne_eq, implies_true, forall_const, Nat.reduceEqDiff, reduceIte, reduceCtorEq, Int.reduceEq, Int.reduceNeg, Int.reduceLE, Int.reduceLT, Nat.reduceAdd, Nat.reduceLeDiff, Int.reduceToNat, Nat.reduceMul, Nat.reduceBEq, okPart, Value.cells, cut, okCell, cld2, (HEx), (REx), vA, (ACx), f3, e5, co12]
    refine hlen_spec (hin.le hs4) ?_
    by_cases hil : i < H.obs.length
    case neg =>
      have hnle : ¬ ((i + 1 : Nat) : Int) ≤ (H.obs.length : Int) := by omega
      simp -implicitDefEqProofs only [↓Zd, (Zp), if_true, if_false, ne_eq, implies_true, forall_const, Nat.reduceEqDiff, reduceIte, reduceCtorEq, Int.reduceEq, Int.reduceNeg, Int.reduceLE, Int.reduceLT, Nat.reduceAdd, Nat.reduceLeDiff, Int.reduceToNat, Nat.reduceMul, Nat.reduceBEq, okPart, Value.cells, cut, okCell, cld2, (HEx), (REx), vA, (ACx), hnle, co7]
      refine works12_spec ?_
      simp -implicitDefEqProofs only [↓Zd, (Zp), if_true, if_false, ne_eq, implies_true, forall_const, Nat.reduceEqDiff, reduceIte, reduceCtorEq, Int.reduceEq, Int.reduceNeg, Int.reduceLE, Int.reduceLT, Nat.reduceAdd, Nat.reduceLeDiff, Int.reduceToNat, Nat.reduceMul, Nat.reduceBEq, okPart, Value.cells, cut, okCell, cld2, (HEx), (REx), vA]
      exact hR _
    have hile : ((i + 1 : Nat) : Int) ≤ (H.obs.length : Int) := by omega
    obtain ⟨o, ho⟩ : ∃ o, H.obs[i]? = some o := ⟨H.obs[i], by simp [hil]⟩
    have hat : obAt H ((i + 1 : Nat) : Int) = some o := by rw [obAt_get]; exact ho
    have hsv : shapeV H ((i + 1 : Nat) : Int) = (o.shape : Int) := by unfold shapeV; rw [hat]
    have hcv : countV H ((i + 1 : Nat) : Int) = (o.L.length : Int) := by unfold countV; rw [hat]
    have hpv : protoV H ((i + 1 : Nat) : Int) = (o.proto : Int) := by unfold protoV; rw [hat]
    have hml : o.L.length ≤ 32 := by have := hin.ok.lens i o ho; omega
    have wi : IntKind.i64.wrap (((i + 1 : Nat) : Int) + 1) = ((i + 1 + 1 : Nat) : Int) := by rw [wrap_i64 (by omega)]; omega
    simp -implicitDefEqProofs only [↓Zd, (Zp), if_true, if_false, ne_eq, implies_true, forall_const, Nat.reduceEqDiff, reduceIte, reduceCtorEq, Int.reduceEq, Int.reduceNeg, Int.reduceLE, Int.reduceLT, Nat.reduceAdd, Nat.reduceLeDiff, Int.reduceToNat, Nat.reduceMul, Nat.reduceBEq, okPart, Value.cells, cut, okCell, cld2, (HEx), (REx), vA, (ACx), f3, e5, hile, co19]
    refine hshape_spec (i := ((i + 1 : Nat) : Int)) (hin.le hs4) (by omega) ?_
    rw [hsv]
    by_cases hs0 : (o.shape : Int) = 0
    case pos =>
      simp -implicitDefEqProofs only [↓Zd, (Zp), if_true, if_false, ne_eq, implies_true, forall_const, Nat.reduceEqDiff, reduceIte, reduceCtorEq, Int.reduceEq, Int.reduceNeg, Int.reduceLE, Int.reduceLT, Nat.reduceAdd, Nat.reduceLeDiff, Int.reduceToNat, Nat.reduceMul, Nat.reduceBEq, okPart, Value.cells, cut, okCell, cld2, (HEx), (REx), vA, (ACx), f3, e5, hs0, wi]
      exact ⟨H.obs.length + 1 - (i + 1), by omega, i + 1, rfl, by omega, rfl, hs4⟩
    have hs1 : 0 < o.shape := by omega
    obtain ⟨lp, hlp⟩ := hpro i o ho hs1
    have hsb : o.shape ≤ 150 := by have := (List.getElem?_eq_some_iff.1 hlp).1; have := hin.fo.le; omega
    simp -implicitDefEqProofs only [↓Zd, (Zp), if_true, if_false, ne_eq, implies_true, forall_const, Nat.reduceEqDiff, reduceIte, reduceCtorEq, Int.reduceEq, Int.reduceNeg, Int.reduceLE, Int.reduceLT, Nat.reduceAdd, Nat.reduceLeDiff, Int.reduceToNat, Nat.reduceMul, Nat.reduceBEq, okPart, Value.cells, cut, okCell, cld2, (HEx), (REx), vA, (ACx), f3, e5, hs0]
    refine wloop_inv hmix (fun fuel env s5 => ∃ k : Nat, fuel = o.L.length - k ∧ k ≤ o.L.length ∧ env 6 = .int .i64 (k : Int) ∧ env 5 = .int .i64 ((i + 1 : Nat) : Int) ∧ env 3 = .pointer (some ⟨p, 0, none⟩) ∧ s3.le s5) o.L.length ⟨0, rfl, by omega, rfl, e5, f3, hs4⟩ ?_
    rintro fuel env3 s5 ⟨k5, rfl, hk5, g6, g5, g3, hs5⟩
    simp -implicitDefEqProofs only [↓Zd, (Zp), if_true, if_false, ne_eq, implies_true, forall_const, Nat.reduceEqDiff, reduceIte, reduceCtorEq, Int.reduceEq, Int.reduceNeg, Int.reduceLE, Int.reduceLT, Nat.reduceAdd, Nat.reduceLeDiff, Int.reduceToNat, Nat.reduceMul, Nat.reduceBEq, okPart, Value.cells, cut, okCell, cld2, (HEx), (REx), vA, (ACx), g3, g5, g6, co16]
    refine hcount_spec (i := ((i + 1 : Nat) : Int)) (hin.le hs5) (by omega) fun s6 hs6 => ?_
    rw [hcv]
    have hle6 := St.le_trans hs5 hs6
    by_cases hk5l : (k5 : Int) < (o.L.length : Int)
    case pos =>
      have hklt : k5 < o.L.length := by omega
      obtain ⟨y, v, hLk⟩ : ∃ y v, o.L[k5]? = some (y, v) := ⟨o.L[k5].1, o.L[k5].2, by simp [hklt]⟩
      obtain ⟨u1, u2, u3⟩ := v
      have hgp := getP_get (hin.ok.keys i o ho) hLk
      have hkV : keyV o.L (k5 : Int) = .tuple #[.string y, .bool true] := by
        unfold keyV
        rw [if_pos (by omega), Int.toNat_natCast, List.getD_eq_getElem?_getD, hLk]; rfl
      have hsG : slotG H ((i + 1 : Nat) : Int) (k5 : Int) = some (u1, u2, u3) := by
        unfold slotG
        rw [hat]
        simp only [if_neg (show ¬ o.shape = 0 by omega)]
        rw [if_pos (by omega), Int.toNat_natCast, hLk]; rfl
      have hsO : slotOf H (o.shape : Int) y = (k5 : Int) := by
        rcases slot_fits hin.ok ho hs1 y with ⟨_, h2⟩ | ⟨k', v', h1, h2, _⟩
        · rw [hgp] at h2; cases h2
        · have hn := hin.ok.keys i o ho
          have h3 : (o.L.map (·.1))[k']? = some y := by rw [List.getElem?_map, h2]; rfl
          have h4 : (o.L.map (·.1))[k5]? = some y := by rw [List.getElem?_map, hLk]; rfl
          obtain ⟨l1, m1⟩ := List.getElem?_eq_some_iff.1 h3
          obtain ⟨l2, m2⟩ := List.getElem?_eq_some_iff.1 h4
          have := (List.getElem_inj hn).1 (m1.trans m2.symm)
          rw [h1, this]
      have wk : IntKind.i64.wrap ((k5 : Int) + 1) = ((k5 + 1 : Nat) : Int) := by rw [wrap_i64 (by omega)]; omega
      simp -implicitDefEqProofs only [↓Zd, (Zp), if_true, if_false, ne_eq, implies_true, forall_const, Nat.reduceEqDiff, reduceIte, reduceCtorEq, Int.reduceEq, Int.reduceNeg, Int.reduceLE, Int.reduceLT, Nat.reduceAdd, Nat.reduceLeDiff, Int.reduceToNat, Nat.reduceMul, Nat.reduceBEq, okPart, Value.cells, cut, okCell, cld2, (HEx), (REx), vA, (ACx), g3, g5, g6, hk5l, co17]
      refine hkey_spec (i := ((i + 1 : Nat) : Int)) (k := (k5 : Int)) (hin.le hle6) (by omega) (by omega) (by omega) fun s7 hs7 => ?_
      rw [hat]
      simp only [hkV]
      have hle7 := St.le_trans hle6 hs7
      simp -implicitDefEqProofs only [↓Zd, (Zp), if_true, if_false, ne_eq, implies_true, forall_const, Nat.reduceEqDiff, reduceIte, reduceCtorEq, Int.reduceEq, Int.reduceNeg, Int.reduceLE, Int.reduceLT, Nat.reduceAdd, Nat.reduceLeDiff, Int.reduceToNat, Nat.reduceMul, Nat.reduceBEq, okPart, Value.cells, cut, okCell, cld2, (HEx), (REx), vA, (ACx), g3, g5, g6, co20]
      refine hslot_spec (i := ((i + 1 : Nat) : Int)) (k := (k5 : Int)) (hin.le hle7) (by omega) (by omega) fun s8 hs8 => ?_
      rw [hsG]
      simp only [gotV, vOf]
      have hle8 := St.le_trans hle7 hs8
      have hn8 := hle8.1
      have l9 : s3.le ((s8.new (.cells [.int .i64 0, .int .i64 0, .string ⟨#[]⟩] 30 true)).put s8.next (.cells [.int .i64 u1, .int .i64 u2, .string u3] 30 true)) := St.le_put (St.le_new hle8) (by omega)
      have c9 : ((s8.new (.cells [.int .i64 0, .int .i64 0, .string ⟨#[]⟩] 30 true)).put s8.next (.cells [.int .i64 u1, .int .i64 u2, .string u3] 30 true)).at' s8.next = some (.cells [.int .i64 u1, .int .i64 u2, .string u3] 30 true) := by rw [St.at_put, if_pos rfl]
      simp -implicitDefEqProofs only [↓Zd, (Zp), if_true, if_false, ne_eq, implies_true, forall_const, Nat.reduceEqDiff, reduceIte, reduceCtorEq, Int.reduceEq, Int.reduceNeg, Int.reduceLE, Int.reduceLT, Nat.reduceAdd, Nat.reduceLeDiff, Int.reduceToNat, Nat.reduceMul, Nat.reduceBEq, okPart, Value.cells, cut, okCell, cld2, (HEx), (REx), vA, (ACx), g3, g5, g6, co14]
      refine hown_spec (i := ((i + 1 : Nat) : Int)) (hin.le l9) (by omega) fun s10 hs10 => ?_
      rw [hat]
      simp only [Option.bind_some, hgp, gotV, vOf]
      have hle10 := St.le_trans l9 hs10
      have n10 := hs10.1
      simp only [St.next_put, St.next_new] at n10
      have c10 := (hs10.2 s8.next (by simp only [St.next_put, St.next_new]; omega)).trans c9
      have n98 : ¬ s8.next = s10.next := by omega
      have l11 : s3.le ((s10.new (.cells [.int .i64 0, .int .i64 0, .string ⟨#[]⟩] 30 true)).put s10.next (.cells [.int .i64 u1, .int .i64 u2, .string u3] 30 true)) := St.le_put (St.le_new hle10) (by omega)
      simp -implicitDefEqProofs only [↓Zd, (Zp), if_true, if_false, ne_eq, implies_true, forall_const, Nat.reduceEqDiff, reduceIte, reduceCtorEq, Int.reduceEq, Int.reduceNeg, Int.reduceLE, Int.reduceLT, Nat.reduceAdd, Nat.reduceLeDiff, Int.reduceToNat, Nat.reduceMul, Nat.reduceBEq, okPart, Value.cells, cut, okCell, cld2, (HEx), (REx), vA, (ACx), g3, g5, g6, c10, n98, VneSelf, co19]
      refine hshape_spec (i := ((i + 1 : Nat) : Int)) (hin.le l11) (by omega) ?_
      rw [hsv]
      simp -implicitDefEqProofs only [↓Zd, (Zp), if_true, if_false, ne_eq, implies_true, forall_const, Nat.reduceEqDiff, reduceIte, reduceCtorEq, Int.reduceEq, Int.reduceNeg, Int.reduceLE, Int.reduceLT, Nat.reduceAdd, Nat.reduceLeDiff, Int.reduceToNat, Nat.reduceMul, Nat.reduceBEq, okPart, Value.cells, cut, okCell, cld2, (HEx), (REx), vA, (ACx), g3, g5, g6, co21]
      refine hslotof_spec (i := (o.shape : Int)) (hin.le l11) (by omega) fun s12 hs12 => ?_
      rw [hsO]
      simp -implicitDefEqProofs only [↓Zd, (Zp), if_true, if_false, ne_eq, implies_true, forall_const, Nat.reduceEqDiff, reduceIte, reduceCtorEq, Int.reduceEq, Int.reduceNeg, Int.reduceLE, Int.reduceLT, Nat.reduceAdd, Nat.reduceLeDiff, Int.reduceToNat, Nat.reduceMul, Nat.reduceBEq, okPart, Value.cells, cut, okCell, cld2, (HEx), (REx), vA, (ACx), g3, g5, g6, wk, decide_true]
      exact ⟨o.L.length - (k5 + 1), by omega, k5 + 1, rfl, by omega, rfl, St.le_trans l11 hs12⟩
    simp -implicitDefEqProofs only [↓Zd, (Zp), if_true, if_false, ne_eq, implies_true, forall_const, Nat.reduceEqDiff, reduceIte, reduceCtorEq, Int.reduceEq, Int.reduceNeg, Int.reduceLE, Int.reduceLT, Nat.reduceAdd, Nat.reduceLeDiff, Int.reduceToNat, Nat.reduceMul, Nat.reduceBEq, okPart, Value.cells, cut, okCell, cld2, (HEx), (REx), vA, (ACx), g3, g5, g6, hk5l]
    refine wloop_inv hmix (fun fuel env s7 => ∃ j : Nat, fuel = i + 1 - j ∧ j ≤ i ∧ env 13 = .int .i64 ((j + 1 : Nat) : Int) ∧ env 5 = .int .i64 ((i + 1 : Nat) : Int) ∧ env 3 = .pointer (some ⟨p, 0, none⟩) ∧ s3.le s7) (i + 1) ⟨0, rfl, by omega, rfl, g5, g3, hle6⟩ ?_
    rintro fuel env4 s7 ⟨j, rfl, hj, h13, h5, h3, hs7⟩
    by_cases hji : ((j + 1 : Nat) : Int) < ((i + 1 : Nat) : Int)
    case neg =>
      simp -implicitDefEqProofs only [↓Zd, (Zp), if_true, if_false, ne_eq, implies_true, forall_const, Nat.reduceEqDiff, reduceIte, reduceCtorEq, Int.reduceEq, Int.reduceNeg, Int.reduceLE, Int.reduceLT, Nat.reduceAdd, Nat.reduceLeDiff, Int.reduceToNat, Nat.reduceMul, Nat.reduceBEq, okPart, Value.cells, cut, okCell, cld2, (HEx), (REx), vA, (ACx), h13, h5, h3, hji, wi]
      exact ⟨H.obs.length + 1 - (i + 1), by omega, i + 1, rfl, by omega, rfl, hs7⟩
    obtain ⟨q, hq⟩ : ∃ q, H.obs[j]? = some q := ⟨H.obs[j]'(by omega), List.getElem?_eq_getElem _⟩
    have hatq : obAt H ((j + 1 : Nat) : Int) = some q := by rw [obAt_get]; exact hq
    have hsq : shapeV H ((j + 1 : Nat) : Int) = (q.shape : Int) := by unfold shapeV; rw [hatq]
    have hcq : countV H ((j + 1 : Nat) : Int) = (q.L.length : Int) := by unfold countV; rw [hatq]
    have hpq : protoV H ((j + 1 : Nat) : Int) = (q.proto : Int) := by unfold protoV; rw [hatq]
    have wj : IntKind.i64.wrap (((j + 1 : Nat) : Int) + 1) = ((j + 1 + 1 : Nat) : Int) := by rw [wrap_i64 (by omega)]; omega
    simp -implicitDefEqProofs only [↓Zd, (Zp), if_true, if_false, ne_eq, implies_true, forall_const, Nat.reduceEqDiff, reduceIte, reduceCtorEq, Int.reduceEq, Int.reduceNeg, Int.reduceLE, Int.reduceLT, Nat.reduceAdd, Nat.reduceLeDiff, Int.reduceToNat, Nat.reduceMul, Nat.reduceBEq, okPart, Value.cells, cut, okCell, cld2, (HEx), (REx), vA, (ACx), h13, h5, h3, hji, co19]
    refine hshape_spec (i := ((i + 1 : Nat) : Int)) (hin.le hs7) (by omega) ?_
    rw [hsv]
    simp -implicitDefEqProofs only [↓Zd, (Zp), if_true, if_false, ne_eq, implies_true, forall_const, Nat.reduceEqDiff, reduceIte, reduceCtorEq, Int.reduceEq, Int.reduceNeg, Int.reduceLE, Int.reduceLT, Nat.reduceAdd, Nat.reduceLeDiff, Int.reduceToNat, Nat.reduceMul, Nat.reduceBEq, okPart, Value.cells, cut, okCell, cld2, (HEx), (REx), vA, (ACx), h13, h5, h3, hji, co19]
    refine hshape_spec (i := ((j + 1 : Nat) : Int)) (hin.le hs7) (by omega) ?_
    rw [hsq]
    by_cases hss : (o.shape : Int) = (q.shape : Int)
    case neg =>
      simp -implicitDefEqProofs only [↓Zd, (Zp), if_true, if_false, ne_eq, implies_true, forall_const, Nat.reduceEqDiff, reduceIte, reduceCtorEq, Int.reduceEq, Int.reduceNeg, Int.reduceLE, Int.reduceLT, Nat.reduceAdd, Nat.reduceLeDiff, Int.reduceToNat, Nat.reduceMul, Nat.reduceBEq, okPart, Value.cells, cut, okCell, cld2, (HEx), (REx), vA, (ACx), h13, h5, h3, hss, wj]
      exact ⟨i + 1 - (j + 1), by omega, j + 1, rfl, by omega, rfl, hs7⟩
    obtain ⟨lq, hlq⟩ := hpro j q hq (by omega)
    have hsqe : o.shape = q.shape := by omega
    rw [← hsqe, hlp] at hlq
    have hpe : o.proto = q.proto := congrArg Prod.fst (Option.some.inj hlq)
    have hke : o.L.map (·.1) = q.L.map (·.1) := by
      obtain ⟨q1, l1, a1, a2⟩ := hin.ok.fits i o ho hs1
      obtain ⟨q2, l2, b1, b2⟩ := hin.ok.fits j q hq (by omega)
      rw [← hsqe, a1] at b1
      cases b1
      rw [← a2, ← b2]
    have hle : o.L.length = q.L.length := by simpa using congrArg List.length hke
    simp -implicitDefEqProofs only [↓Zd, (Zp), if_true, if_false, ne_eq, implies_true, forall_const, Nat.reduceEqDiff, reduceIte, reduceCtorEq, Int.reduceEq, Int.reduceNeg, Int.reduceLE, Int.reduceLT, Nat.reduceAdd, Nat.reduceLeDiff, Int.reduceToNat, Nat.reduceMul, Nat.reduceBEq, okPart, Value.cells, cut, okCell, cld2, (HEx), (REx), vA, (ACx), h13, h5, h3, hss, decide_true, co16]
    refine hcount_spec (i := ((i + 1 : Nat) : Int)) (hin.le hs7) (by omega) fun s8 hs8 => ?_
    rw [hcv]
    have hle8 := St.le_trans hs7 hs8
    simp -implicitDefEqProofs only [↓Zd, (Zp), if_true, if_false, ne_eq, implies_true, forall_const, Nat.reduceEqDiff, reduceIte, reduceCtorEq, Int.reduceEq, Int.reduceNeg, Int.reduceLE, Int.reduceLT, Nat.reduceAdd, Nat.reduceLeDiff, Int.reduceToNat, Nat.reduceMul, Nat.reduceBEq, okPart, Value.cells, cut, okCell, cld2, (HEx), (REx), vA, (ACx), h13, h5, h3, co16]
    refine hcount_spec (i := ((j + 1 : Nat) : Int)) (hin.le hle8) (by omega) fun s9 hs9 => ?_
    rw [hcq, ← hle]
    have hle9 := St.le_trans hle8 hs9
    simp -implicitDefEqProofs only [↓Zd, (Zp), if_true, if_false, ne_eq, implies_true, forall_const, Nat.reduceEqDiff, reduceIte, reduceCtorEq, Int.reduceEq, Int.reduceNeg, Int.reduceLE, Int.reduceLT, Nat.reduceAdd, Nat.reduceLeDiff, Int.reduceToNat, Nat.reduceMul, Nat.reduceBEq, okPart, Value.cells, cut, okCell, cld2, (HEx), (REx), vA, (ACx), h13, h5, h3, decide_true, co13]
    refine hproto_spec (i := ((i + 1 : Nat) : Int)) (hin.le hle9) (by omega) ?_
    rw [hpv]
    simp -implicitDefEqProofs only [↓Zd, (Zp), if_true, if_false, ne_eq, implies_true, forall_const, Nat.reduceEqDiff, reduceIte, reduceCtorEq, Int.reduceEq, Int.reduceNeg, Int.reduceLE, Int.reduceLT, Nat.reduceAdd, Nat.reduceLeDiff, Int.reduceToNat, Nat.reduceMul, Nat.reduceBEq, okPart, Value.cells, cut, okCell, cld2, (HEx), (REx), vA, (ACx), h13, h5, h3, co13]
    refine hproto_spec (i := ((j + 1 : Nat) : Int)) (hin.le hle9) (by omega) ?_
    rw [hpq, ← hpe]
    simp -implicitDefEqProofs only [↓Zd, (Zp), if_true, if_false, ne_eq, implies_true, forall_const, Nat.reduceEqDiff, reduceIte, reduceCtorEq, Int.reduceEq, Int.reduceNeg, Int.reduceLE, Int.reduceLT, Nat.reduceAdd, Nat.reduceLeDiff, Int.reduceToNat, Nat.reduceMul, Nat.reduceBEq, okPart, Value.cells, cut, okCell, cld2, (HEx), (REx), vA, (ACx), h13, h5, h3, decide_true]
    refine wloop_inv hmix (fun fuel env sa => ∃ m : Nat, fuel = o.L.length - m ∧ m ≤ o.L.length ∧ env 14 = .int .i64 (m : Int) ∧ env 13 = .int .i64 ((j + 1 : Nat) : Int) ∧ env 5 = .int .i64 ((i + 1 : Nat) : Int) ∧ env 3 = .pointer (some ⟨p, 0, none⟩) ∧ s3.le sa) o.L.length ⟨0, rfl, by omega, rfl, h13, h5, h3, hle9⟩ ?_
    rintro fuel env5 sa ⟨m, rfl, hm, j14, j13, j5, j3, hsa⟩
    simp -implicitDefEqProofs only [↓Zd, (Zp), if_true, if_false, ne_eq, implies_true, forall_const, Nat.reduceEqDiff, reduceIte, reduceCtorEq, Int.reduceEq, Int.reduceNeg, Int.reduceLE, Int.reduceLT, Nat.reduceAdd, Nat.reduceLeDiff, Int.reduceToNat, Nat.reduceMul, Nat.reduceBEq, okPart, Value.cells, cut, okCell, cld2, (HEx), (REx), vA, (ACx), j14, j13, j5, j3, co16]
    refine hcount_spec (i := ((i + 1 : Nat) : Int)) (hin.le hsa) (by omega) fun sb hsb2 => ?_
    rw [hcv]
    have hleb := St.le_trans hsa hsb2
    by_cases hml2 : (m : Int) < (o.L.length : Int)
    case neg =>
      simp -implicitDefEqProofs only [↓Zd, (Zp), if_true, if_false, ne_eq, implies_true, forall_const, Nat.reduceEqDiff, reduceIte, reduceCtorEq, Int.reduceEq, Int.reduceNeg, Int.reduceLE, Int.reduceLT, Nat.reduceAdd, Nat.reduceLeDiff, Int.reduceToNat, Nat.reduceMul, Nat.reduceBEq, okPart, Value.cells, cut, okCell, cld2, (HEx), (REx), vA, (ACx), j14, j13, j5, j3, hml2, wj]
      exact ⟨i + 1 - (j + 1), by omega, j + 1, rfl, by omega, rfl, hleb⟩
    have hmlt : m < o.L.length := by omega
    obtain ⟨y, v, hLm⟩ : ∃ y v, o.L[m]? = some (y, v) := ⟨o.L[m].1, o.L[m].2, by simp [hmlt]⟩
    obtain ⟨z, hQm⟩ : ∃ z, q.L[m]? = some (y, z) := by
      have h1 : (q.L.map (·.1))[m]? = some y := by rw [← hke, List.getElem?_map, hLm]; rfl
      rw [List.getElem?_map] at h1
      obtain ⟨⟨a, b⟩, h2, h3⟩ := Option.map_eq_some_iff.1 h1
      simp only at h3
      subst h3
      exact ⟨b, h2⟩
    have hkV : keyV o.L (m : Int) = .tuple #[.string y, .bool true] := by
      unfold keyV
      rw [if_pos (by omega), Int.toNat_natCast, List.getD_eq_getElem?_getD, hLm]; rfl
    have hkQ : keyV q.L (m : Int) = .tuple #[.string y, .bool true] := by
      unfold keyV
      rw [if_pos (by omega), Int.toNat_natCast, List.getD_eq_getElem?_getD, hQm]; rfl
    have wm : IntKind.i64.wrap ((m : Int) + 1) = ((m + 1 : Nat) : Int) := by rw [wrap_i64 (by omega)]; omega
    simp -implicitDefEqProofs only [↓Zd, (Zp), if_true, if_false, ne_eq, implies_true, forall_const, Nat.reduceEqDiff, reduceIte, reduceCtorEq, Int.reduceEq, Int.reduceNeg, Int.reduceLE, Int.reduceLT, Nat.reduceAdd, Nat.reduceLeDiff, Int.reduceToNat, Nat.reduceMul, Nat.reduceBEq, okPart, Value.cells, cut, okCell, cld2, (HEx), (REx), vA, (ACx), j14, j13, j5, j3, hml2, co17]
    refine hkey_spec (i := ((i + 1 : Nat) : Int)) (k := (m : Int)) (hin.le hleb) (by omega) (by omega) (by omega) fun sc hsc => ?_
    rw [hat]
    simp only [hkV]
    have hlec := St.le_trans hleb hsc
    simp -implicitDefEqProofs only [↓Zd, (Zp), if_true, if_false, ne_eq, implies_true, forall_const, Nat.reduceEqDiff, reduceIte, reduceCtorEq, Int.reduceEq, Int.reduceNeg, Int.reduceLE, Int.reduceLT, Nat.reduceAdd, Nat.reduceLeDiff, Int.reduceToNat, Nat.reduceMul, Nat.reduceBEq, okPart, Value.cells, cut, okCell, cld2, (HEx), (REx), vA, (ACx), j14, j13, j5, j3, co17]
    refine hkey_spec (i := ((j + 1 : Nat) : Int)) (k := (m : Int)) (hin.le hlec) (by omega) (by omega) (by omega) fun sd hsd => ?_
    rw [hatq]
    simp only [hkQ]
    have hled := St.le_trans hlec hsd
    simp -implicitDefEqProofs only [↓Zd, (Zp), if_true, if_false, ne_eq, implies_true, forall_const, Nat.reduceEqDiff, reduceIte, reduceCtorEq, Int.reduceEq, Int.reduceNeg, Int.reduceLE, Int.reduceLT, Nat.reduceAdd, Nat.reduceLeDiff, Int.reduceToNat, Nat.reduceMul, Nat.reduceBEq, okPart, Value.cells, cut, okCell, cld2, (HEx), (REx), vA, (ACx), j14, j13, j5, j3, wm, decide_true]
    exact ⟨o.L.length - (m + 1), by omega, m + 1, rfl, by omega, rfl, hled⟩
end

theorem heapShapes_walk {A us : List ActD} {cp : Nat} {oi : Option BI} {ad : Nat → Option Addr} {v : Value} {w : World} (hr : ∀ ρ, QIn ρ w oi (us.flatMap actC)) (hv : ∀ (ρ : Ren) j, ρ j = oi → VRel ρ (.slice (ad j) A.length cp) v) (hok : ∀ a ∈ A, ActOk a) (ht : A = [] ∨ (ad = fun j => some ⟨j, 0, none⟩) ∧ ∀ k, k < A.length → us[k]? = A[k]?) (hl : A.length ≤ 9223372036854775807) :
    Calls Tryz.prog 5 #[v] w fun e w' => e = .returned (.bool true) ∧ Below w.heap.size w w' := by
  refine calls_q (L := [(32, us.flatMap actC)]) (B := [oi]) (args := #[.slice (ad 0) A.length cp]) rfl ?_ ⟨rfl, ?_⟩ (heapShapes_spec ?_ hok hl fun _ => rfl)
  · intro j oi' r h1 h2
    match j, h1, h2 with
    | 0, h1, h2 => cases h1; cases h2; exact hr _
  · intro i hi
    match i, hi with
    | 0, _ => exact hv _ 0 rfl
  · rcases ht with ht | ⟨rfl, ht⟩
    · exact .inl ht
    · exact .inr ⟨0, us, rfl, Nat.zero_lt_one, rfl, ht⟩
end Go.Proofs.Tryz
