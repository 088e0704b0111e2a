/- Sites do not show: the walk of the law on it. A lemma file: no statement of its own. -/
import Derived.Test.YtnkichmojbanlaaGreatqFwF
import Derived.Test.YtnkichmojbanlaaGreatqSH0
set_option linter.unusedSimpArgs false
set_option linter.unusedVariables false
set_option linter.unusedSectionVars false
namespace Go.Proofs.Tryz
open Go.Cs
open Go.RowKit (Below)
set_option maxRecDepth 100000
attribute [local irreducible] CCalls WLoop WScope CRound WRange
section
variable {M : Type} [Mem M] {w0 : World} {s : St M} {R : Value → St M → Prop}
set_option maxHeartbeats 16000000 in
theorem siteHides_spec {few many : Int} {A : List A17D} {ad : Option Addr} {cp : Nat} (hf : 0 ≤ few ∧ few ≤ 255) (hm : 0 ≤ many ∧ many ≤ 255) (hA : QRow 38 act17C s ad A) (hok : ∀ a ∈ A, Act17Ok a) (hAl : A.length ≤ 9223372036854775807)
    (hR : ∀ s', R (.bool true) s') : CCalls Tryz.prog w0 4 #[.int .u8 few, .int .u8 many, .slice ad A.length cp] s R := by
  refine wfun2 hmix ok4 (l := [.int .u8 few, .int .u8 many, .slice ad A.length cp]) func4 rfl ntmps4 results4 (by simp) ?_
  have hbL : cbuild Tryz.prog 26 #[(0, .int .i64 9), (2, .int .i64 14)] = some (.agg #[.int .i64 9, .int .i64 0, .int .i64 14, .int .i64 0]) := by kernel_rfl
  simp -implicitDefEqProofs only [↓Zd, (Zp), if_true, if_false, Nat.reduceEqDiff, reduceCtorEq, Nat.reduceAdd, Nat.reduceLeDiff, okPart, Value.cells, cut, okCell, cld2, (HEx), underlying26, sz26, ce26, ag26, ze26, hbL, wrap_u8i hf, co6]
  refine hnew_spec fun s1 p1 hH1 hs1 => ?_
  have hn1 := hs1.1
  simp only [St.next_new, St.next_put] at hn1
  have c7 : s1.at' s.next = some (.cells [.int .i64 9, .int .i64 0, .int .i64 14, .int .i64 0] 26 true) := by rw [hs1.2 _ (by simp only [St.next_put, St.next_new]; omega)]; first | rw [St.at_put, if_pos rfl] | rw [St.at_new, if_pos rfl]
  simp -implicitDefEqProofs only [↓Zd, (Zp), if_true, if_false, Nat.reduceEqDiff, Nat.reduceAdd, Nat.reduceLeDiff, cut, cld2, (HEx), underlying26, ce26, ag26, c7, wrap_u8i hm, co6]
  refine hnew_spec fun s2 p2 hH2 hs2 => ?_
  have hn2 := hs2.1
  simp -implicitDefEqProofs only [↓Zd, (Zp), if_true, if_false, Nat.reduceEqDiff, (HEx), co9]
  refine sites_spec ?_
  simp -implicitDefEqProofs only [↓Zd, (Zp), if_true, if_false, Nat.reduceEqDiff, Int.reduceNeg, underlying31, co8]
  refine snew3_spec (lb := s2.next) ?_ ?_ fun s3 t O3 hS3 hs3 => ?_
  · rw [St.at_new, if_pos rfl]
  · simp only [St.next_new]; omega
  have hn3 := hs3.1
  simp only [St.next_new] at hn3 hS3
  have hs23 : s2.le s3 := St.le_trans (St.le_new (St.le_refl _)) hs3
  have hT0 : HideAt s.next s s3 p1 p2 t (newH 9 14 few) (newH 9 14 many) (newT [3, 2, -1]) 32 0 (fun b => s.next + 1 ≤ b ∧ b < s1.next) (fun b => s1.next ≤ b ∧ b < s2.next) O3 := by
    refine ⟨⟨?_, ?_, fun b h1 h2 => by omega, by omega, fun c hc => ?_, .new _ _ _ _, .new _ _ _ _⟩, hS3.low (by omega), fun b h1 h2 => by have := (hS3.own b h2).1; omega, fun b h1 h2 => by have := (hS3.own b h2).1; omega, newT_ok _ _, by decide⟩
    · have := (((hH1.mono (Nat.zero_le 32)).low (lo' := s.next) (by simp only [St.next_new, St.next_put]; omega)).le hs2).le hs23
      simpa using this
    · exact (((hH2.mono (Nat.zero_le 32)).low (lo' := s.next) (by omega))).le hs23
    · rw [hs23.2 c (by omega), hs2.2 c (by omega), hs1.2 c (by simp only [St.next_put, St.next_new]; omega)]
      first | rw [St.at_put, if_neg (by omega), St.at_new, if_neg (by omega)] | rw [St.at_new, if_neg (by omega)]
  simp -implicitDefEqProofs only [↓Zd, (Zp), if_true, if_false, Nat.reduceEqDiff, (STx)]
  refine wloop_inv hmix (fun fuel env s3 => env 2 = .slice ad A.length cp ∧ env 8 = .pointer (some ⟨p1, 0, none⟩) ∧ env 9 = .pointer (some ⟨p2, 0, none⟩) ∧ env 10 = .pointer (some ⟨t, 0, none⟩) ∧ ∃ (k : Nat) (H G : Hp) (T : Tab) (O1 O2 O3 : Nat → Prop), fuel = 71 - k ∧ k ≤ 70 ∧ env 11 = .int .i64 (k : Int) ∧ HideAt s.next s s3 p1 p2 t H G T (32 + 3 * k) k O1 O2 O3) 71 ⟨rfl, rfl, rfl, rfl, 0, _, _, _, _, _, _, rfl, by omega, rfl, hT0⟩ ?_
  rintro fuel env s3 ⟨e2, e8, e9, e10, k, H, G, T, O1, O2, O3, rfl, hk, e11, hT⟩
  by_cases k1 : (k : Int) < (A.length : Int)
  case neg =>
    simp -implicitDefEqProofs only [↓Zd, (Zp), if_true, if_false, Nat.reduceEqDiff, (A7x), e2, e11, k1, co11]
    refine works17_spec ?_
    simp -implicitDefEqProofs only [↓Zd, (Zp), if_true, if_false, Nat.reduceEqDiff, (HEx)]
    exact hR _
  by_cases k2 : (k : Int) < 70
  case neg =>
    simp -implicitDefEqProofs only [↓Zd, (Zp), if_true, if_false, Nat.reduceEqDiff, (A7x), e2, e11, k1, k2, co11]
    refine works17_spec ?_
    simp -implicitDefEqProofs only [↓Zd, (Zp), if_true, if_false, Nat.reduceEqDiff, (HEx)]
    exact hR _
  have hkA : k < A.length := by omega
  have hx : A[k]? = some A[k] := by simp [hkA]
  have hxok := hok _ (List.mem_of_getElem? hx)
  generalize A[k] = x at hx hxok
  rcases hA with rfl | ⟨j, us, rfl, hj, hjb, hus⟩
  · simp at hkA
  have hux : us[k]? = some x := by rw [hus k hkA]; exact hx
  obtain ⟨c1, c2⟩ := acts17_cut us k x hux
  have hjb3 : s3.at' j = some (.cells (us.flatMap act17C) 38 false) := by rw [hT.two.old j hj]; exact hjb
  have hkk : (0 : Int) ≤ (k : Int) ∧ (k : Int) < (A.length : Int) := by omega
  have hz30 := ze38
  have hTn := hT.two.lo
  have hjn : ¬ j = s3.next := by omega
  have w1 : IntKind.i64.wrap ((k : Int) + 1) = ((k + 1 : Nat) : Int) := by rw [wrap_i64 (by omega)]; omega
  obtain ⟨x0, x1, x2, x3, x4, x5, v1, v2, v3⟩ := x
  have c2 : List.take 9 (List.drop (k * 9) (us.flatMap act17C)) = [.int .i64 x0, .int .i64 x1, .int .i64 x2, .int .i64 x3, .int .i64 x4, .string x5, .int .i64 v1, .int .i64 v2, .string v3] := c2
  simp -implicitDefEqProofs only [↓Zd, (Zp), if_true, if_false, Nat.reduceEqDiff, Nat.reduceAdd, Nat.reduceLeDiff, okPart, Value.cells, cut, okCell, cld2, (A7x), hz30, e2, e11, k1, k2, hkk, hjb3, c1, c2, co10]
  refine long17_spec ?_
  obtain ⟨q0, q1, q2, q3, q4, q5, q6⟩ := hxok
  simp only [I64] at q0 q1 q2 q3 q4 q5 q6
  have l5 : s3.le (((s3.new (.cells [.int .i64 0, .int .i64 0, .int .i64 0, .int .i64 0, .int .i64 0, .string ⟨#[]⟩, .int .i64 0, .int .i64 0, .string ⟨#[]⟩] 38 true)).put s3.next (.cells [.int .i64 x0, .int .i64 x1, .int .i64 x2, .int .i64 x3, .int .i64 x4, .string x5, .int .i64 v1, .int .i64 v2, .string v3] 38 true)).new (.cells [.int .i64 x0, .int .i64 x1, .int .i64 x2, .int .i64 x3, .int .i64 x4, .string x5, .int .i64 v1, .int .i64 v2, .string v3] 38 true)) := St.le_new (St.le_put (St.le_new (St.le_refl _)) (Nat.le_refl _))
  have c11 : (((s3.new (.cells [.int .i64 0, .int .i64 0, .int .i64 0, .int .i64 0, .int .i64 0, .string ⟨#[]⟩, .int .i64 0, .int .i64 0, .string ⟨#[]⟩] 38 true)).put s3.next (.cells [.int .i64 x0, .int .i64 x1, .int .i64 x2, .int .i64 x3, .int .i64 x4, .string x5, .int .i64 v1, .int .i64 v2, .string v3] 38 true)).new (.cells [.int .i64 x0, .int .i64 x1, .int .i64 x2, .int .i64 x3, .int .i64 x4, .string x5, .int .i64 v1, .int .i64 v2, .string v3] 38 true)).at' s3.next = some (.cells [.int .i64 x0, .int .i64 x1, .int .i64 x2, .int .i64 x3, .int .i64 x4, .string x5, .int .i64 v1, .int .i64 v2, .string v3] 38 true) := by
    rw [St.at_new, if_neg (by simp only [St.next_put, St.next_new]; omega), St.at_put, if_pos rfl]
  have n5 : (((s3.new (.cells [.int .i64 0, .int .i64 0, .int .i64 0, .int .i64 0, .int .i64 0, .string ⟨#[]⟩, .int .i64 0, .int .i64 0, .string ⟨#[]⟩] 38 true)).put s3.next (.cells [.int .i64 x0, .int .i64 x1, .int .i64 x2, .int .i64 x3, .int .i64 x4, .string x5, .int .i64 v1, .int .i64 v2, .string v3] 38 true)).new (.cells [.int .i64 x0, .int .i64 x1, .int .i64 x2, .int .i64 x3, .int .i64 x4, .string x5, .int .i64 v1, .int .i64 v2, .string v3] 38 true)).next = s3.next + 2 := rfl
  generalize (((s3.new (.cells [.int .i64 0, .int .i64 0, .int .i64 0, .int .i64 0, .int .i64 0, .string ⟨#[]⟩, .int .i64 0, .int .i64 0, .string ⟨#[]⟩] 38 true)).put s3.next (.cells [.int .i64 x0, .int .i64 x1, .int .i64 x2, .int .i64 x3, .int .i64 x4, .string x5, .int .i64 v1, .int .i64 v2, .string v3] 38 true)).new (.cells [.int .i64 x0, .int .i64 x1, .int .i64 x2, .int .i64 x3, .int .i64 x4, .string x5, .int .i64 v1, .int .i64 v2, .string v3] 38 true)) = s5 at l5 c11 n5 ⊢
  have hT5 := hT.le l5
  by_cases hl : (decide ((300 : Int) < x5.size) || decide ((300 : Int) < v3.size)) = true
  · rw [hl]
    simp -implicitDefEqProofs only [↓Zd, (Zp), if_true, if_false, Nat.reduceEqDiff, (HEx), co11]
    refine works17_spec ?_
    simp -implicitDefEqProofs only [↓Zd, (Zp), if_true, if_false, Nat.reduceEqDiff, (HEx)]
    exact hR _
  rw [Bool.eq_false_iff.2 hl]
  have hl2 : x5.size ≤ 300 ∧ v3.size ≤ 300 := by
    simp only [Bool.or_eq_true, decide_eq_true_eq, not_or] at hl
    omega
  have hpsz : PSz 1000000 (x5, (v1, v2, v3)) := ⟨by show x5.size ≤ _; omega, by show v3.size ≤ _; omega, q6⟩
  have hO1e : ∀ c, O1 c → c < s3.next := fun c hc => (hT.two.one.own c hc).2
  have hO2e : ∀ c, O2 c → c < s3.next := fun c hc => (hT.two.two.own c hc).2
  have hO3e : ∀ c, O3 c → c < s3.next := fun c hc => (hT.tab.own c hc).2
  by_cases d0 : x0 = 0
  · subst d0
    simp -implicitDefEqProofs only [↓Zd, (Zp), if_true, if_false, Nat.reduceEqDiff, cld2, (HEx), (A7x), c11, e8, co17]
    refine hmake_spec hT5.two.one hT5.two.lo fun s6 P1 hP1 hU1 => ?_
    have hn6 := hU1.next
    obtain ⟨g2, d2⟩ := hT5.two.two.other hU1 hT5.two.apart
    have hmv : ∃ a b, makeV H = .tuple #[.int .i64 a, .int .i64 b] := by unfold makeV; split <;> exact ⟨_, _, rfl⟩
    have hmg : makeV G = makeV H := hT.two.sim.makeV.symm
    obtain ⟨ma, mb, hmv⟩ := hmv
    rw [hmv]
    simp -implicitDefEqProofs only [↓Zd, (Zp), if_true, if_false, Nat.reduceEqDiff, (HEx), e9, co17]
    refine hmake_spec g2 (by have := hT5.two.lo; omega) fun s7 P2 hP2 hU2 => ?_
    rw [hmg, hmv]
    have hT7 := hT5.step hP1 hU1 hP2 hU2 hT.two.sim.make hT.two.sz.make (make_grows H)
    simp -implicitDefEqProofs only [↓Zd, (Zp), if_true, if_false, Nat.reduceEqDiff, (HEx), e8]
    have hT8 := (hT7).mono (N' := 32 + 3 * (k + 1)) (k' := k + 1) (by omega) (by omega)
    simp -implicitDefEqProofs only [↓Zd, (Zp), if_true, if_false, Nat.reduceEqDiff, co26]
    refine hdump_spec hT8.two.one (by omega) hT8.two.sz fun s8 hs8 => ?_
    simp -implicitDefEqProofs only [↓Zd, (Zp), if_true, if_false, Nat.reduceEqDiff, (HEx), e9, co26]
    refine hdump_spec (hT8.le hs8).two.two (by omega) (sim_sz hT8.two.sim hT8.two.sz) fun s9 hs9 => ?_
    rw [hT8.two.sim.dump]
    simp -implicitDefEqProofs only [↓Zd, (Zp), if_true, if_false, Nat.reduceEqDiff, (HEx), e2, e8, e9, e10, e11, w1]
    exact ⟨71 - (k + 1), by omega, k + 1, _, _, _, _, _, _, rfl, by omega, rfl, (hT8.le hs8).le hs9⟩
  by_cases d1 : x0 = 1
  · subst d1
    obtain ⟨r, hr⟩ := look_total hT.two.one.ok x5 x3
    simp -implicitDefEqProofs only [↓Zd, (Zp), if_true, if_false, Nat.reduceEqDiff, Int.reduceEq, cld2, (HEx), (A7x), c11, e8, e9, e10, ord4, co18]
    refine tget_spec hT5.two.one hT5.tab hT5.fs hT5.d13 hT5.ok (by have := hT5.two.lo; omega) (by omega) q3 hr fun s6 P3 v hP3 hU3 hv => ?_
    have hn6 := hU3.next
    have c116 := (hU3.keep s3.next (by omega) (fun hc => by have := hO3e _ hc; omega)).trans c11
    have hTn3 := getT_n H T x1 x2 x3 x5 r
    have hT6 := hT5.table hP3 hU3 (get_ok hT5.two.one.ok hT5.two.one.1 hT5.ok hr) hTn3.1
    obtain ⟨hp6, tg2, pf2, pn2, sl2, bs2, hi6⟩ := id hT6.two.two
    obtain ⟨w1', w2', w3'⟩ := v
    simp only [vOf, vA]
    simp -implicitDefEqProofs only [↓Zd, (Zp), if_true, if_false, Nat.reduceEqDiff, Nat.reduceBEq, cld2, (HEx), c116, co19]
    refine hget_spec hi6 q3 fun s7 w2 hs7 hw2 => ?_
    have := (hT.two.sim.get hv).one hw2
    subst this
    have hn7 := hs7.1
    have c117 := (hs7.2 s3.next (by omega)).trans c116
    have hT7 := hT6.le hs7
    simp only [vOf, vA]
    simp -implicitDefEqProofs only [↓Zd, (Zp), if_true, if_false, Nat.reduceEqDiff, (HEx), e8, VeqSelf]
    have hT8 := (hT7).mono (N' := 32 + 3 * (k + 1)) (k' := k + 1) (by omega) (by omega)
    simp -implicitDefEqProofs only [↓Zd, (Zp), if_true, if_false, Nat.reduceEqDiff, co26]
    refine hdump_spec hT8.two.one (by omega) hT8.two.sz fun s8 hs8 => ?_
    simp -implicitDefEqProofs only [↓Zd, (Zp), if_true, if_false, Nat.reduceEqDiff, (HEx), e9, co26]
    refine hdump_spec (hT8.le hs8).two.two (by omega) (sim_sz hT8.two.sim hT8.two.sz) fun s9 hs9 => ?_
    rw [hT8.two.sim.dump]
    simp -implicitDefEqProofs only [↓Zd, (Zp), if_true, if_false, Nat.reduceEqDiff, (HEx), e2, e8, e9, e10, e11, w1]
    exact ⟨71 - (k + 1), by omega, k + 1, _, _, _, _, _, _, rfl, by omega, rfl, (hT8.le hs8).le hs9⟩
  by_cases d2 : x0 = 2
  · subst d2
    simp -implicitDefEqProofs only [↓Zd, (Zp), if_true, if_false, Nat.reduceEqDiff, Int.reduceEq, Nat.reduceAdd, Nat.reduceLeDiff, cut, cld2, (HEx), (A7x), c11, e8, e9, e10, ord4, co20]
    refine tset_spec (vk := v1) (vn := v2) (vy := v3) hT5.two.one hT5.tab hT5.fs hT5.d13 hT5.ok (by have := hT5.two.lo; omega) (by omega) (by omega) (by omega) q3 fun s6 P1 P3 hP1 hP3 hdd hn6 hk6 ho1 ho3 => ?_
    have c116 := (hk6 s3.next (by omega) (fun hc => by have := hO1e _ hc; omega) (fun hc => by have := hO3e _ hc; omega)).trans c11
    have g2 : HpAt s.next s6 p2 G (32 + 3 * k) O2 := hT5.two.two.same hn6 fun c hc => hk6 c (by have := hO2e c hc; omega) (fun h1 => hT5.two.apart c h1 hc) (fun h3 => hT5.d23 c hc h3)
    simp -implicitDefEqProofs only [↓Zd, (Zp), if_true, if_false, Nat.reduceEqDiff, Nat.reduceAdd, Nat.reduceLeDiff, Nat.reduceBEq, cut, cld2, (HEx), c116, co21]
    refine hset_spec (k := v1) (n := v2) (y := v3) g2 (by have := hT5.two.lo; omega) (by omega) (by omega) q3 fun s7 P2 hP2 hU2 => ?_
    rw [← hT.two.sim.setE]
    have hTn3 := setT_n H T x1 x2 x3 x5 (v1, v2, v3)
    have hT7 := hT5.all hP1 hP3 hdd hn6 hk6 ho1 ho3 hP2 hU2 (hT.two.sim.set _ _ _) (hT.two.sz.set _ hpsz) (set_tab hT5.two.one.ok hT5.two.one.1 hT5.ok _ _ _ _ _) hTn3.1
    have c117 := (hU2.keep s3.next (by omega) (fun hc => by have := hO2e _ hc; omega)).trans c116
    simp -implicitDefEqProofs only [↓Zd, (Zp), if_true, if_false, Nat.reduceEqDiff, (HEx), e8]
    have hT8 := (hT7).mono (N' := 32 + 3 * (k + 1)) (k' := k + 1) (by omega) (by omega)
    simp -implicitDefEqProofs only [↓Zd, (Zp), if_true, if_false, Nat.reduceEqDiff, co26]
    refine hdump_spec hT8.two.one (by omega) hT8.two.sz fun s8 hs8 => ?_
    simp -implicitDefEqProofs only [↓Zd, (Zp), if_true, if_false, Nat.reduceEqDiff, (HEx), e9, co26]
    refine hdump_spec (hT8.le hs8).two.two (by omega) (sim_sz hT8.two.sim hT8.two.sz) fun s9 hs9 => ?_
    rw [hT8.two.sim.dump]
    simp -implicitDefEqProofs only [↓Zd, (Zp), if_true, if_false, Nat.reduceEqDiff, (HEx), e2, e8, e9, e10, e11, w1]
    exact ⟨71 - (k + 1), by omega, k + 1, _, _, _, _, _, _, rfl, by omega, rfl, (hT8.le hs8).le hs9⟩
  by_cases d3 : x0 = 3
  · subst d3
    simp -implicitDefEqProofs only [↓Zd, (Zp), if_true, if_false, Nat.reduceEqDiff, Int.reduceEq, Nat.reduceAdd, Nat.reduceLeDiff, cut, cld2, (HEx), (A7x), c11, e8, e9, ord4, co21]
    refine hset_spec (k := v1) (n := v2) (y := v3) hT5.two.one hT5.two.lo (by omega) (by omega) q3 fun s6 P1 hP1 hU1 => ?_
    have hn6 := hU1.next
    obtain ⟨g2, dd2⟩ := hT5.two.two.other hU1 hT5.two.apart
    have c116 := (hU1.keep s3.next (by omega) (fun hc => by have := hO1e _ hc; omega)).trans c11
    simp -implicitDefEqProofs only [↓Zd, (Zp), if_true, if_false, Nat.reduceEqDiff, Nat.reduceAdd, Nat.reduceLeDiff, Nat.reduceBEq, cut, cld2, (HEx), c116, co21]
    refine hset_spec (k := v1) (n := v2) (y := v3) g2 (by have := hT5.two.lo; omega) (by omega) (by omega) q3 fun s7 P2 hP2 hU2 => ?_
    rw [← hT.two.sim.setE]
    have hT7 := hT5.step hP1 hU1 hP2 hU2 (hT.two.sim.set _ _ _) (hT.two.sz.set _ hpsz) (set_grows _ _ _ _)
    have c117 := (hU2.keep s3.next (by omega) (fun hc => by have := hO2e _ hc; omega)).trans c116
    simp -implicitDefEqProofs only [↓Zd, (Zp), if_true, if_false, Nat.reduceEqDiff, (HEx), e8]
    have hT8 := (hT7).mono (N' := 32 + 3 * (k + 1)) (k' := k + 1) (by omega) (by omega)
    simp -implicitDefEqProofs only [↓Zd, (Zp), if_true, if_false, Nat.reduceEqDiff, co26]
    refine hdump_spec hT8.two.one (by omega) hT8.two.sz fun s8 hs8 => ?_
    simp -implicitDefEqProofs only [↓Zd, (Zp), if_true, if_false, Nat.reduceEqDiff, (HEx), e9, co26]
    refine hdump_spec (hT8.le hs8).two.two (by omega) (sim_sz hT8.two.sim hT8.two.sz) fun s9 hs9 => ?_
    rw [hT8.two.sim.dump]
    simp -implicitDefEqProofs only [↓Zd, (Zp), if_true, if_false, Nat.reduceEqDiff, (HEx), e2, e8, e9, e10, e11, w1]
    exact ⟨71 - (k + 1), by omega, k + 1, _, _, _, _, _, _, rfl, by omega, rfl, (hT8.le hs8).le hs9⟩
  by_cases d4 : x0 = 4
  · subst d4
    simp -implicitDefEqProofs only [↓Zd, (Zp), if_true, if_false, Nat.reduceEqDiff, Int.reduceEq, cld2, (HEx), (A7x), c11, e8, e9, ord4, co22]
    refine hdel_spec hT5.two.one hT5.two.lo (by omega) (by omega) q3 fun s6 P1 hP1 hU1 => ?_
    have hn6 := hU1.next
    obtain ⟨g2, dd2⟩ := hT5.two.two.other hU1 hT5.two.apart
    have c116 := (hU1.keep s3.next (by omega) (fun hc => by have := hO1e _ hc; omega)).trans c11
    simp -implicitDefEqProofs only [↓Zd, (Zp), if_true, if_false, Nat.reduceEqDiff, Nat.reduceBEq, cld2, (HEx), c116, co22]
    refine hdel_spec g2 (by have := hT5.two.lo; omega) (by omega) (by omega) q3 fun s7 P2 hP2 hU2 => ?_
    rw [← hT.two.sim.delB]
    have hT7 := hT5.step hP1 hU1 hP2 hU2 (hT.two.sim.del _ _) (hT.two.sz.del _ _) (del_grows _ _ _)
    have c117 := (hU2.keep s3.next (by omega) (fun hc => by have := hO2e _ hc; omega)).trans c116
    simp -implicitDefEqProofs only [↓Zd, (Zp), if_true, if_false, Nat.reduceEqDiff, (HEx), e8]
    have hT8 := (hT7).mono (N' := 32 + 3 * (k + 1)) (k' := k + 1) (by omega) (by omega)
    simp -implicitDefEqProofs only [↓Zd, (Zp), if_true, if_false, Nat.reduceEqDiff, co26]
    refine hdump_spec hT8.two.one (by omega) hT8.two.sz fun s8 hs8 => ?_
    simp -implicitDefEqProofs only [↓Zd, (Zp), if_true, if_false, Nat.reduceEqDiff, (HEx), e9, co26]
    refine hdump_spec (hT8.le hs8).two.two (by omega) (sim_sz hT8.two.sim hT8.two.sz) fun s9 hs9 => ?_
    rw [hT8.two.sim.dump]
    simp -implicitDefEqProofs only [↓Zd, (Zp), if_true, if_false, Nat.reduceEqDiff, (HEx), e2, e8, e9, e10, e11, w1]
    exact ⟨71 - (k + 1), by omega, k + 1, _, _, _, _, _, _, rfl, by omega, rfl, (hT8.le hs8).le hs9⟩
  by_cases d5 : x0 = 5
  · subst d5
    simp -implicitDefEqProofs only [↓Zd, (Zp), if_true, if_false, Nat.reduceEqDiff, Int.reduceEq, cld2, (HEx), (A7x), c11, e8, e9, ord4, co23]
    refine hsetproto_spec hT5.two.one hT5.two.lo (by omega) (by omega) q3 q4 fun s6 P1 hP1 hU1 => ?_
    have hn6 := hU1.next
    obtain ⟨g2, dd2⟩ := hT5.two.two.other hU1 hT5.two.apart
    have c116 := (hU1.keep s3.next (by omega) (fun hc => by have := hO1e _ hc; omega)).trans c11
    simp -implicitDefEqProofs only [↓Zd, (Zp), if_true, if_false, Nat.reduceEqDiff, Nat.reduceBEq, cld2, (HEx), c116, co23]
    refine hsetproto_spec g2 (by have := hT5.two.lo; omega) (by omega) (by omega) q3 q4 fun s7 P2 hP2 hU2 => ?_
    rw [← hT.two.sim.protoE]
    have hT7 := hT5.step hP1 hU1 hP2 hU2 (hT.two.sim.protoH _ _) (hT.two.sz.protoH _ _) (proto_grows _ _ _)
    have c117 := (hU2.keep s3.next (by omega) (fun hc => by have := hO2e _ hc; omega)).trans c116
    simp -implicitDefEqProofs only [↓Zd, (Zp), if_true, if_false, Nat.reduceEqDiff, (HEx), e8]
    have hT8 := (hT7).mono (N' := 32 + 3 * (k + 1)) (k' := k + 1) (by omega) (by omega)
    simp -implicitDefEqProofs only [↓Zd, (Zp), if_true, if_false, Nat.reduceEqDiff, co26]
    refine hdump_spec hT8.two.one (by omega) hT8.two.sz fun s8 hs8 => ?_
    simp -implicitDefEqProofs only [↓Zd, (Zp), if_true, if_false, Nat.reduceEqDiff, (HEx), e9, co26]
    refine hdump_spec (hT8.le hs8).two.two (by omega) (sim_sz hT8.two.sim hT8.two.sz) fun s9 hs9 => ?_
    rw [hT8.two.sim.dump]
    simp -implicitDefEqProofs only [↓Zd, (Zp), if_true, if_false, Nat.reduceEqDiff, (HEx), e2, e8, e9, e10, e11, w1]
    exact ⟨71 - (k + 1), by omega, k + 1, _, _, _, _, _, _, rfl, by omega, rfl, (hT8.le hs8).le hs9⟩
  by_cases d6 : x0 = 6
  · subst d6
    simp -implicitDefEqProofs only [↓Zd, (Zp), if_true, if_false, Nat.reduceEqDiff, Int.reduceEq, cld2, (HEx), (A7x), c11, e10, co24]
    refine sflush_spec hT5.tab hT5.fs fun s7 hP3 hU3 => ?_
    have hT7 := hT5.table hP3 hU3 (hT5.ok.flush x1 false) (by unfold flushT; split <;> rfl)
    simp -implicitDefEqProofs only [↓Zd, (Zp), if_true, if_false, Nat.reduceEqDiff, (HEx), e8]
    have hT8 := (hT7).mono (N' := 32 + 3 * (k + 1)) (k' := k + 1) (by omega) (by omega)
    simp -implicitDefEqProofs only [↓Zd, (Zp), if_true, if_false, Nat.reduceEqDiff, co26]
    refine hdump_spec hT8.two.one (by omega) hT8.two.sz fun s8 hs8 => ?_
    simp -implicitDefEqProofs only [↓Zd, (Zp), if_true, if_false, Nat.reduceEqDiff, (HEx), e9, co26]
    refine hdump_spec (hT8.le hs8).two.two (by omega) (sim_sz hT8.two.sim hT8.two.sz) fun s9 hs9 => ?_
    rw [hT8.two.sim.dump]
    simp -implicitDefEqProofs only [↓Zd, (Zp), if_true, if_false, Nat.reduceEqDiff, (HEx), e2, e8, e9, e10, e11, w1]
    exact ⟨71 - (k + 1), by omega, k + 1, _, _, _, _, _, _, rfl, by omega, rfl, (hT8.le hs8).le hs9⟩
  by_cases d7 : x0 = 7
  · subst d7
    simp -implicitDefEqProofs only [↓Zd, (Zp), if_true, if_false, Nat.reduceEqDiff, Int.reduceEq, cld2, (HEx), (A7x), c11, e10, co25]
    refine smega_spec hT5.tab hT5.fs fun s7 hP3 hU3 => ?_
    have hT7 := hT5.table hP3 hU3 (hT5.ok.flush x1 true) (by unfold flushT; split <;> rfl)
    simp -implicitDefEqProofs only [↓Zd, (Zp), if_true, if_false, Nat.reduceEqDiff, (HEx), e8]
    have hT8 := (hT7).mono (N' := 32 + 3 * (k + 1)) (k' := k + 1) (by omega) (by omega)
    simp -implicitDefEqProofs only [↓Zd, (Zp), if_true, if_false, Nat.reduceEqDiff, co26]
    refine hdump_spec hT8.two.one (by omega) hT8.two.sz fun s8 hs8 => ?_
    simp -implicitDefEqProofs only [↓Zd, (Zp), if_true, if_false, Nat.reduceEqDiff, (HEx), e9, co26]
    refine hdump_spec (hT8.le hs8).two.two (by omega) (sim_sz hT8.two.sim hT8.two.sz) fun s9 hs9 => ?_
    rw [hT8.two.sim.dump]
    simp -implicitDefEqProofs only [↓Zd, (Zp), if_true, if_false, Nat.reduceEqDiff, (HEx), e2, e8, e9, e10, e11, w1]
    exact ⟨71 - (k + 1), by omega, k + 1, _, _, _, _, _, _, rfl, by omega, rfl, (hT8.le hs8).le hs9⟩
  · simp -implicitDefEqProofs only [↓Zd, (Zp), if_true, if_false, Nat.reduceEqDiff, cld2, (HEx), (A7x), c11, d0, d1, d2, d3, d4, d5, d6, d7, e8]
    have hT8 := (hT5).mono (N' := 32 + 3 * (k + 1)) (k' := k + 1) (by omega) (by omega)
    simp -implicitDefEqProofs only [↓Zd, (Zp), if_true, if_false, Nat.reduceEqDiff, co26]
    refine hdump_spec hT8.two.one (by omega) hT8.two.sz fun s8 hs8 => ?_
    simp -implicitDefEqProofs only [↓Zd, (Zp), if_true, if_false, Nat.reduceEqDiff, (HEx), e9, co26]
    refine hdump_spec (hT8.le hs8).two.two (by omega) (sim_sz hT8.two.sim hT8.two.sz) fun s9 hs9 => ?_
    rw [hT8.two.sim.dump]
    simp -implicitDefEqProofs only [↓Zd, (Zp), if_true, if_false, Nat.reduceEqDiff, (HEx), e2, e8, e9, e10, e11, w1]
    exact ⟨71 - (k + 1), by omega, k + 1, _, _, _, _, _, _, rfl, by omega, rfl, (hT8.le hs8).le hs9⟩
end
end Go.Proofs.Tryz
