/- Sites: the walks of what looks through entries. A lemma file: no statement of its own. -/
import Derived.Test.YtnkichmojbanlaaGreatqFwF
import Derived.Test.YtnkichmojbanlaaGreatqST3
set_option linter.unusedSimpArgs false
set_option linter.unusedVariables false
set_option linter.unusedSectionVars false
namespace Go.Proofs.Tryz
open Go.Cs
open Go.RowKit (Below)
set_option maxRecDepth 100000
attribute [local irreducible] CCalls WLoop WScope CRound WRange
section
variable {M : Type} [Mem M] {w0 : World} {s : St M} {R : Value → St M → Prop} {lo t N : Nat} {T : Tab} {O : Nat → Prop} {al : Value} {rb cp : Nat → Nat} {sl : Nat → Nat → Value}
theorem infoEnt : ∃ ie, Tryz.prog.info? 51 = some ie ∧ ie.size = 5 ∧ 0 < ie.bytes ∧ ie.bytes ≤ 100 := by
  obtain ⟨ie, h⟩ := Option.isSome_iff_exists.1 is51
  have h1 := ce51
  have h2 : decide (0 < Tryz.prog.bytesOf 51 ∧ Tryz.prog.bytesOf 51 ≤ 100) = true := by kernel_rfl
  rw [cellsOf_info h] at h1
  simp only [Program.bytesOf, h, decide_eq_true_eq] at h2
  exact ⟨ie, h, h1, h2.1, h2.2⟩
theorem clEnt {b : Nat} {cs junk : List Value} {n : Nat} {K : Value → St M → Prop} (hn : n ≠ 0) (hlen : n ≤ 1000000) (hok : cs.all okCell = true) (hb : s.at' b = some (.cells (cs ++ junk) 51 true)) (hbn : b < s.next) (hcs : cs.length = n * 5)
    (h : ∀ s', s'.next = s.next + 2 → s'.at' (s.next + 1) = some (.cells cs 51 true) → (∀ b, b < s.next → s'.at' b = s.at' b) → K (.slice (some ⟨s.next + 1, 0, none⟩) n UNK) s') :
    wch (capp Tryz.prog #[42, 42] #[.slice (some ⟨s.next, 0, none⟩) 0 0, .slice (some ⟨b, 0, none⟩) n UNK] (s.new (.cells [] 51 true))) K := by
  obtain ⟨ie, hie, h1, h2, h3⟩ := infoEnt
  have hcapp : capp Tryz.prog #[42, 42] #[.slice (some ⟨s.next, 0, none⟩) 0 0, .slice (some ⟨b, 0, none⟩) n UNK] (s.new (.cells [] 51 true)) = capp3 Tryz.prog 51 ie (.slice (some ⟨s.next, 0, none⟩) 0 0) (s.new (.cells [] 51 true)) (cmore ie.size (.slice (some ⟨b, 0, none⟩) n UNK) (s.new (.cells [] 51 true))) :=
    app_eq underlying42 underlying42 hie
  have hv : cmore ie.size (.slice (some ⟨b, 0, none⟩) n UNK) (s.new (.cells [] 51 true)) = some (n, cs) := by
    simp only [more_at, St.at_new, if_neg (show ¬ b = s.next by omega), hb, more2, h1]
    have : cut (cs ++ junk) 0 (n * 5) = some cs := by
      unfold cut
      rw [if_pos (by rw [List.length_append]; omega), List.drop_zero, ← hcs, List.take_left']
      rfl
    rw [this]; rfl
  obtain ⟨s', h3, h4, h5, h6⟩ := app_row (n := 0) (k := n) (old := []) hie ze51 (by rw [h1]; rfl) h2 hcapp hn (by
    have : (0 + n) * ie.bytes ≤ 1000000 * 100 := Nat.mul_le_mul (by omega) h3
    omega) hok hv (.inr ⟨s.next, 0, rfl, .inr ⟨rfl, by decide⟩, by rw [St.at_new, if_pos rfl], by simp⟩)
  refine ⟨_, s', h3, ?_⟩
  rw [Nat.zero_add]
  refine h s' (by simp at h4; omega) h5 fun c hc => ?_
  rw [h6 c (by simp; omega) (fun q m c' e => by cases e; simp; omega), St.at_new, if_neg (by omega)]
theorem infoDep : ∃ ie, Tryz.prog.info? 99 = some ie ∧ ie.size = 2 ∧ 0 < ie.bytes ∧ ie.bytes ≤ 100 := by
  obtain ⟨ie, h⟩ := Option.isSome_iff_exists.1 is99
  have h1 := ce99
  have h2 : decide (0 < Tryz.prog.bytesOf 99 ∧ Tryz.prog.bytesOf 99 ≤ 100) = true := by kernel_rfl
  rw [cellsOf_info h] at h1
  simp only [Program.bytesOf, h, decide_eq_true_eq] at h2
  exact ⟨ie, h, h1, h2.1, h2.2⟩
theorem appDep {sl : Value} {cs new : List Value} {k : Nat} (hnew : new.length = 2) (hok : new.all okCell = true) (hlen : k ≤ 1000000) (hsl : SlU 99 2 s sl cs k) (hfr : ∀ q m c, sl = .slice (some q) m c → q.block < s.next) :
    ∃ s', capp Tryz.prog #[49, 49] #[sl, .slice (some ⟨s.next, 0, none⟩) 1 1] (s.new (.cells new 99 true)) = some (.slice (some ⟨s.next + 1, 0, none⟩) (k + 1) UNK, s') ∧ s'.next = s.next + 2 ∧
      s'.at' (s.next + 1) = some (.cells (cs ++ new) 99 true) ∧ (∀ b, b < s.next → (∀ q n c, sl = .slice (some q) n c → b ≠ q.block) → s'.at' b = s.at' b) := by
  obtain ⟨ie, hie, h1, h2, h3⟩ := infoDep
  have hcapp : capp Tryz.prog #[49, 49] #[sl, .slice (some ⟨s.next, 0, none⟩) 1 1] (s.new (.cells new 99 true)) = capp3 Tryz.prog 99 ie sl (s.new (.cells new 99 true)) (cmore ie.size (.slice (some ⟨s.next, 0, none⟩) 1 1) (s.new (.cells new 99 true))) :=
    app_eq underlying49 underlying49 hie
  have hv : cmore ie.size (.slice (some ⟨s.next, 0, none⟩) 1 1) (s.new (.cells new 99 true)) = some (1, new) := by
    simp only [more_at, St.at_new, if_true, more2, h1]
    rw [cut_all (by omega)]; rfl
  obtain ⟨s', h3, h4, h5, h6⟩ := app_rowU (n := k) (k := 1) hie ze99 (by rw [h1]; rfl) h2 hcapp (by omega) (by
    have : (k + 1) * ie.bytes ≤ 1000001 * 100 := Nat.mul_le_mul (by omega) h3
    omega) hok hv (by rw [h1]; exact hsl.same fun q m c e => by rw [St.at_new, if_neg (by have := hfr q m c e; omega)])
  refine ⟨s', by simpa using h3, by simp at h4; omega, h5, fun b hb hq => ?_⟩
  rw [h6 b (by simp; omega) hq, St.at_new, if_neg (by omega)]
theorem wch_appDep {sl : Value} {cs new : List Value} {k : Nat} {K : Value → St M → Prop} (hnew : new.length = 2) (hok : new.all okCell = true) (hlen : k ≤ 1000000) (hsl : SlU 99 2 s sl cs k) (hfr : ∀ q m c, sl = .slice (some q) m c → q.block < s.next)
    (h : ∀ s', s'.next = s.next + 2 → s'.at' (s.next + 1) = some (.cells (cs ++ new) 99 true) → (∀ b, b < s.next → (∀ q n c, sl = .slice (some q) n c → b ≠ q.block) → s'.at' b = s.at' b) → K (.slice (some ⟨s.next + 1, 0, none⟩) (k + 1) UNK) s') :
    wch (capp Tryz.prog #[49, 49] #[sl, .slice (some ⟨s.next, 0, none⟩) 1 1] (s.new (.cells new 99 true))) K := by
  obtain ⟨s', h1, h2, h3, h4⟩ := appDep hnew hok hlen hsl hfr
  exact ⟨_, _, h1, h s' h2 h3 h4⟩
set_option maxHeartbeats 4000000 in
theorem ixe_spec {c : Nat → List Value} {n b : Nat} {junk : List Value} {fn : FuncId} {cap : Array Value} {q : Nat → Bool} (hcc : callOk Tryz.prog fn = true) (hc : ∀ i, (c i).length = 5) (hb : s.at' b = some (.cells (rows c n ++ junk) 51 true)) (hbn : b < s.next) (hN : n ≤ 1000001)
    (hcl : ∀ (s' : St M) (i : Nat) (R' : Value → St M → Prop), s.le s' → i < n → (∀ s2, s'.le s2 → R' (.bool (q i)) s2) → CCalls Tryz.prog w0 fn (#[.agg (c i).toArray] ++ cap) s' R')
    (h : ∀ s' (j : Nat), s.le s' → j < n → q j = true → (∀ k, k < j → q k = false) → R (.int .i64 (j : Int)) s') (h' : ∀ s', s.le s' → (∀ k : Nat, k < n → q k = false) → R (.int .i64 (-1)) s') :
    CCalls Tryz.prog w0 103 #[.slice (some ⟨b, 0, none⟩) n UNK, .func (.func fn) #[] cap] s R := by
  refine wfun2 hmix ok103 (l := [.slice (some ⟨b, 0, none⟩) n UNK, .func (.func fn) #[] cap]) func103 rfl ntmps103 results103 (by simp) ?_
  simp -implicitDefEqProofs only [↓Zd, (Zp), if_true, if_false, Nat.reduceEqDiff, reduceCtorEq, (STx)]
  refine wloop_fix hmix [9, 10, 5, 11, 12, 13, 14, 15, 16, 17, 4, 18, 8] (fun fuel env s' => ∃ m : Nat, fuel = n - m ∧ m ≤ n ∧ env 8 = .int .i64 (m : Int) ∧ (∀ k : Nat, k < m → q k = false) ∧ s.le s') (n - 0) ?_ ?_
  · exact ⟨0, rfl, by omega, rfl, fun k hk => by omega, St.le_refl _⟩
  · rintro fuel env s' hF ⟨m, rfl, hqP, e8, hno, hs⟩
    have hsn := hs.1
    have e0 : env 0 = .slice (some ⟨b, 0, none⟩) n UNK := by rw [hF 0 rfl]; rfl
    have e1 : env 1 = .func (.func fn) #[] cap := by rw [hF 1 rfl]; rfl
    have e7 : env 7 = .int .i64 (n : Int) := by rw [hF 7 rfl]; rfl
    by_cases hlt : m < n
    · have hlt' : (m : Int) < (n : Int) := by omega
      have hge : (0 : Int) ≤ (m : Int) := by omega
      have hb' : s'.at' b = some (.cells (rows c n ++ junk) 51 true) := by rw [hs.2 b hbn]; exact hb
      have w1 : IntKind.i64.wrap ((m : Int) + 1) = ((m + 1 : Nat) : Int) := by rw [wrap_i64 (by omega)]; omega
      obtain ⟨hle5, htk5⟩ := rows_cut hc junk hlt
      simp -implicitDefEqProofs only [↓Zd, (Zp), if_true, if_false, Nat.reduceEqDiff, reduceCtorEq, cut, cld2, (STx), e0, e1, e7, e8, hlt', hge, hb', hle5, htk5, calv hcc]
      refine hcl _ m _ (by first | exact hs | skip) hlt fun s2 hs2 => ?_
      have hs02 : s.le s2 := St.le_trans hs hs2
      cases hp : q m with
      | true =>
        simp -implicitDefEqProofs only [↓Zd, (Zp), if_true, if_false, Nat.reduceEqDiff, (HEx)]
        exact h _ m hs02 hlt hp hno
      | false =>
        simp -implicitDefEqProofs only [↓Zd, (Zp), if_true, if_false, Nat.reduceEqDiff, (HEx), w1, e8]
        refine ⟨?_, n - (m + 1), by omega, m + 1, rfl, by omega, rfl, fun k hk => ?_, hs02⟩
        · repeat (first | exact hF | refine Fix.upd (by decide) ?_)
        · by_cases e : k < m
          · exact hno k e
          · have : k = m := by omega
            subst this
            exact hp
    · have hlt' : ¬ (m : Int) < (n : Int) := by omega
      simp -implicitDefEqProofs only [↓Zd, (Zp), if_true, if_false, Nat.reduceEqDiff, Int.reduceNeg, e7, e8, hlt']
      exact h' _ hs fun k hk => hno k (by omega)
set_option maxHeartbeats 4000000 in
theorem ixe0_spec {fv : Value} (hR : R (.int .i64 (-1)) s) : CCalls Tryz.prog w0 103 #[.slice none 0 0, fv] s R := by
  refine wfun2 hmix ok103 (l := [.slice none 0 0, fv]) func103 rfl ntmps103 results103 (by simp) ?_
  simp -implicitDefEqProofs only [↓Zd, (Zp), if_true, if_false, Nat.reduceEqDiff, reduceCtorEq, (STx)]
  refine wloop_fix hmix [9, 10, 5, 11, 12, 13, 14, 15, 16, 17, 4, 18, 8] (fun fuel env s' => env 8 = .int .i64 0 ∧ s' = s) 0 ⟨rfl, rfl⟩ ?_
  rintro fuel env s' hF ⟨e8, rfl⟩
  have e7 : env 7 = .int .i64 0 := by rw [hF 7 rfl]; rfl
  simp -implicitDefEqProofs only [↓Zd, (Zp), if_true, if_false, Nat.reduceEqDiff, Int.reduceNeg, Int.reduceLT, e7, e8]
  exact hR
set_option maxHeartbeats 4000000 in
theorem ixd_spec {c : Nat → List Value} {n b : Nat} {junk : List Value} {fn : FuncId} {cap : Array Value} {q : Nat → Bool} (hcc : callOk Tryz.prog fn = true) (hc : ∀ i, (c i).length = 2) (hb : s.at' b = some (.cells (rows c n ++ junk) 99 true)) (hbn : b < s.next) (hN : n ≤ 1000001)
    (hcl : ∀ (s' : St M) (i : Nat) (R' : Value → St M → Prop), s.le s' → i < n → (∀ s2, s'.le s2 → R' (.bool (q i)) s2) → CCalls Tryz.prog w0 fn (#[.agg (c i).toArray] ++ cap) s' R')
    (h : ∀ s' (j : Nat), s.le s' → j < n → q j = true → (∀ k, k < j → q k = false) → R (.int .i64 (j : Int)) s') (h' : ∀ s', s.le s' → (∀ k : Nat, k < n → q k = false) → R (.int .i64 (-1)) s') :
    CCalls Tryz.prog w0 139 #[.slice (some ⟨b, 0, none⟩) n UNK, .func (.func fn) #[] cap] s R := by
  refine wfun2 hmix ok139 (l := [.slice (some ⟨b, 0, none⟩) n UNK, .func (.func fn) #[] cap]) func139 rfl ntmps139 results139 (by simp) ?_
  simp -implicitDefEqProofs only [↓Zd, (Zp), if_true, if_false, Nat.reduceEqDiff, reduceCtorEq, (STx)]
  refine wloop_fix hmix [9, 10, 5, 11, 12, 13, 14, 15, 16, 17, 4, 18, 8] (fun fuel env s' => ∃ m : Nat, fuel = n - m ∧ m ≤ n ∧ env 8 = .int .i64 (m : Int) ∧ (∀ k : Nat, k < m → q k = false) ∧ s.le s') (n - 0) ?_ ?_
  · exact ⟨0, rfl, by omega, rfl, fun k hk => by omega, St.le_refl _⟩
  · rintro fuel env s' hF ⟨m, rfl, hqP, e8, hno, hs⟩
    have hsn := hs.1
    have e0 : env 0 = .slice (some ⟨b, 0, none⟩) n UNK := by rw [hF 0 rfl]; rfl
    have e1 : env 1 = .func (.func fn) #[] cap := by rw [hF 1 rfl]; rfl
    have e7 : env 7 = .int .i64 (n : Int) := by rw [hF 7 rfl]; rfl
    by_cases hlt : m < n
    · have hlt' : (m : Int) < (n : Int) := by omega
      have hge : (0 : Int) ≤ (m : Int) := by omega
      have hb' : s'.at' b = some (.cells (rows c n ++ junk) 99 true) := by rw [hs.2 b hbn]; exact hb
      have w1 : IntKind.i64.wrap ((m : Int) + 1) = ((m + 1 : Nat) : Int) := by rw [wrap_i64 (by omega)]; omega
      obtain ⟨hle5, htk5⟩ := rows_cut hc junk hlt
      simp -implicitDefEqProofs only [↓Zd, (Zp), if_true, if_false, Nat.reduceEqDiff, reduceCtorEq, cut, cld2, (STx), e0, e1, e7, e8, hlt', hge, hb', hle5, htk5, calv hcc]
      refine hcl _ m _ (by first | exact hs | skip) hlt fun s2 hs2 => ?_
      have hs02 : s.le s2 := St.le_trans hs hs2
      cases hp : q m with
      | true =>
        simp -implicitDefEqProofs only [↓Zd, (Zp), if_true, if_false, Nat.reduceEqDiff, (HEx)]
        exact h _ m hs02 hlt hp hno
      | false =>
        simp -implicitDefEqProofs only [↓Zd, (Zp), if_true, if_false, Nat.reduceEqDiff, (HEx), w1, e8]
        refine ⟨?_, n - (m + 1), by omega, m + 1, rfl, by omega, rfl, fun k hk => ?_, hs02⟩
        · repeat (first | exact hF | refine Fix.upd (by decide) ?_)
        · by_cases e : k < m
          · exact hno k e
          · have : k = m := by omega
            subst this
            exact hp
    · have hlt' : ¬ (m : Int) < (n : Int) := by omega
      simp -implicitDefEqProofs only [↓Zd, (Zp), if_true, if_false, Nat.reduceEqDiff, Int.reduceNeg, e7, e8, hlt']
      exact h' _ hs fun k hk => hno k (by omega)
set_option maxHeartbeats 4000000 in
theorem ixd0_spec {fv : Value} (hR : R (.int .i64 (-1)) s) : CCalls Tryz.prog w0 139 #[.slice none 0 0, fv] s R := by
  refine wfun2 hmix ok139 (l := [.slice none 0 0, fv]) func139 rfl ntmps139 results139 (by simp) ?_
  simp -implicitDefEqProofs only [↓Zd, (Zp), if_true, if_false, Nat.reduceEqDiff, reduceCtorEq, (STx)]
  refine wloop_fix hmix [9, 10, 5, 11, 12, 13, 14, 15, 16, 17, 4, 18, 8] (fun fuel env s' => env 8 = .int .i64 0 ∧ s' = s) 0 ⟨rfl, rfl⟩ ?_
  rintro fuel env s' hF ⟨e8, rfl⟩
  have e7 : env 7 = .int .i64 0 := by rw [hF 7 rfl]; rfl
  simp -implicitDefEqProofs only [↓Zd, (Zp), if_true, if_false, Nat.reduceEqDiff, Int.reduceNeg, Int.reduceLT, e7, e8]
  exact hR
end
end Go.Proofs.Tryz
