/- The form of a program's codes: how deep the stack is. A lemma file: no statement of its own. -/
import Derived.Test.YtjjbmmgafclcaaaGreatqFwF
import Derived.Test.YtjjbmmgafclcaaaGreatqBB2
import Derived.Test.YtjjbmmgafclcaaaGreatqMks
set_option linter.unusedSimpArgs false
set_option linter.unusedVariables false
set_option linter.unusedSectionVars false
namespace Go.Proofs.Tryz
open Go.Cs
open Go.RowKit (Below)
set_option maxRecDepth 100000
attribute [local irreducible] CCalls WLoop WScope CRound WRange
theorem mkInts (n : Nat) (hn : n ≤ 1000000) : cmks Tryz.prog 54 (.int .i64 (n : Int)) (.int .i64 (n : Int)) = some (.cells (List.replicate n (.int .i64 0)) 3 true, fun b => .slice (some ⟨b, 0, none⟩) n n) := by
  have hi : ∃ ie, Tryz.prog.info? 3 = some ie ∧ ie.size = 1 ∧ ie.bytes = 8 := by
    obtain ⟨ie, h1⟩ := Option.isSome_iff_exists.1 is3
    have h2 : (Tryz.prog.info? 3).map (·.size) = some 1 := by kernel_rfl
    have h3 : (Tryz.prog.info? 3).map (·.bytes) = some 8 := by kernel_rfl
    rw [h1] at h2 h3
    exact ⟨ie, h1, Option.some.inj h2, Option.some.inj h3⟩
  obtain ⟨ie, h1, h2, h3⟩ := hi
  unfold cmks
  simp only [underlying54, h1, h2, h3]
  rw [if_pos (by omega), Int.toNat_natCast, Nat.mul_one, zeros_one ze3 rfl]
section
variable {M : Type} [Mem M] {w0 : World} {s : St M} {R : Value → St M → Prop}
structure DAt (s s' : St M) (c : CodeV) (V : List Int) : Prop where
  le : s.le s'
  box : s'.at' s.next = some (.cells [.int .i64 c.p, .int .i64 c.l, .int .i64 c.s, .int .i64 c.d, .slice c.ad c.ins.length c.cp] 38 true)
  out : s'.at' (s.next + 1) = some (.cells (V.map (.int .i64)) 3 true)
  nx : s.next + 2 ≤ s'.next
  len : V.length = c.ins.length
  rng : ∀ v ∈ V, -1 ≤ v ∧ v ≤ 64
theorem DAt.more {s s' s2 : St M} {c : CodeV} {V : List Int} (h : DAt s s' c V) (hs : s'.le s2) : DAt s s2 c V :=
  ⟨St.le_trans h.le hs, (hs.2 _ (by have := h.nx; omega)).trans h.box, (hs.2 _ (by have := h.nx; omega)).trans h.out, by have := h.nx; have := hs.1; omega, h.len, h.rng⟩
theorem DAt.set {s s' : St M} {c : CodeV} {V : List Int} (h : DAt s s' c V) {i : Nat} {v : Int} (hv : -1 ≤ v ∧ v ≤ 64) : DAt s (s'.put (s.next + 1) (.cells ((V.map (Value.int .i64)).set i (.int .i64 v)) 3 true)) c (V.set i v) := by
  refine ⟨St.le_put h.le (by omega), ?_, ?_, by have := h.nx; simp only [St.next_put]; omega, by rw [List.length_set]; exact h.len, fun x hx => ?_⟩
  · rw [St.at_put, if_neg (by omega)]; exact h.box
  · rw [St.at_put, if_pos rfl, List.map_set]
  · rcases List.mem_or_eq_of_mem_set hx with hx | rfl
    · exact h.rng x hx
    · exact hv
set_option maxHeartbeats 16000000 in
theorem depths_spec {c : CodeV} (hc : CodeOk c) (hi : QRow 41 actIC s c.ad c.ins) (hn : c.ins.length ≤ 4000) (hn1 : 1 ≤ c.ins.length) (hd : c.d ≤ 64) (hg : ∀ x ∈ c.ins, 22 ≤ x.a0 → x.a0 ≤ 25 → 0 ≤ x.a1 ∧ x.a1 < (c.ins.length : Int))
    (hR : ∀ s' q n m b, s.le s' → R (.tuple #[.slice q n m, .bool b]) s') :
    CCalls Tryz.prog w0 14 #[.agg #[.int .i64 c.p, .int .i64 c.l, .int .i64 c.s, .int .i64 c.d, .slice c.ad c.ins.length c.cp]] s R := by
  refine wfun2 hmix ok14 (l := [.agg #[.int .i64 c.p, .int .i64 c.l, .int .i64 c.s, .int .i64 c.d, .slice c.ad c.ins.length c.cp]]) func14 rfl ntmps14 results14 (by simp) ?_
  rcases id hi with h0 | ⟨j, us, had, hj, hjb, hus⟩
  · rw [h0] at hn1; cases hn1
  have hD0 : DAt s ((s.new (.cells [.int .i64 c.p, .int .i64 c.l, .int .i64 c.s, .int .i64 c.d, .slice c.ad c.ins.length c.cp] 38 true)).new (.cells (List.replicate c.ins.length (.int .i64 0)) 3 true)) c (List.replicate c.ins.length 0) := by
    refine ⟨St.le_new (St.le_new (St.le_refl _)), ?_, ?_, by simp only [St.next_new]; omega, List.length_replicate, fun v hv => ?_⟩
    · rw [St.at_new, if_neg (by simp only [St.next_new]; omega), St.at_new, if_pos rfl]
    · rw [St.at_new, if_pos (by simp only [St.next_new]), List.map_replicate]
    · rw [(List.mem_replicate.1 hv).2]; omega
  simp -implicitDefEqProofs only [↓Zd, (Zp), if_true, if_false, ne_eq, implies_true, forall_const, Nat.reduceEqDiff, reduceIte, reduceCtorEq, Int.reduceEq, Int.reduceNeg, Int.reduceLE, Int.reduceLT, Nat.reduceAdd, Nat.reduceLeDiff, Int.reduceToNat, Nat.reduceMul, Nat.reduceBEq, okPart, Value.cells, cut, okCell, cld2, (BBx), vA, mkInts _ (show c.ins.length ≤ 1000000 by omega), ↓o_mks, ↓f_mks, Nat.add_zero, Nat.zero_add]
  refine wloop_inv hmix (fun fuel env s' => env 1 = .pointer (some ⟨s.next, 0, none⟩) ∧ env 4 = .slice (some ⟨s.next + 1, 0, none⟩) c.ins.length c.ins.length ∧ ∃ (V : List Int) (k : Nat), env 5 = .int .i64 (k : Int) ∧ k ≤ c.ins.length ∧ fuel = c.ins.length - k ∧ DAt s s' c V) (c.ins.length - 1) ⟨rfl, rfl, _, 1, rfl, hn1, rfl, hD0⟩ ?_
  clear hD0
  rintro fuel env s1 ⟨e1, e4, V, k, e5, hk, rfl, hD⟩
  have hbx := hD.box
  have hvl := hD.len
  by_cases hk1 : k < c.ins.length
  case pos =>
    have hk' : (k : Int) < (c.ins.length : Int) := by omega
    have hkk : (0 : Int) ≤ (k : Int) ∧ (k : Int) < (c.ins.length : Int) := by omega
    have wk : IntKind.i64.wrap ((k : Int) + 1) = ((k + 1 : Nat) : Int) := by rw [wrap_i64 (by omega)]; omega
    have ho := hD.out
    have hlv : k + 1 ≤ (V.map (Value.int .i64)).length := by rw [List.length_map]; omega
    have hne : ¬ s.next = s.next + 1 := by omega
    simp -implicitDefEqProofs only [↓Zd, (Zp), if_true, if_false, ne_eq, implies_true, forall_const, Nat.reduceEqDiff, reduceIte, reduceCtorEq, Int.reduceEq, Int.reduceNeg, Int.reduceLE, Int.reduceLT, Nat.reduceAdd, Nat.reduceLeDiff, Int.reduceToNat, Nat.reduceMul, Nat.reduceBEq, okPart, Value.cells, cut, okCell, cld2, (BBx), vA, e1, e4, e5, hbx, ho, hk', hkk, hlv, hne, wk, Nat.add_zero, Nat.zero_add, Nat.mul_one]
    exact ⟨c.ins.length - (k + 1), by omega, _, k + 1, rfl, by omega, rfl, hD.set (by omega)⟩
  have hk' : ¬ (k : Int) < (c.ins.length : Int) := by omega
  simp -implicitDefEqProofs only [↓Zd, (Zp), if_true, if_false, ne_eq, implies_true, forall_const, Nat.reduceEqDiff, reduceIte, reduceCtorEq, Int.reduceEq, Int.reduceNeg, Int.reduceLE, Int.reduceLT, Nat.reduceAdd, Nat.reduceLeDiff, Int.reduceToNat, Nat.reduceMul, Nat.reduceBEq, okPart, Value.cells, cut, okCell, cld2, (BBx), vA, e1, e4, e5, hbx, hk', Nat.add_zero, Nat.zero_add]
  refine wloop_inv hmix (fun fuel env s' => env 1 = .pointer (some ⟨s.next, 0, none⟩) ∧ env 4 = .slice (some ⟨s.next + 1, 0, none⟩) c.ins.length c.ins.length ∧ ∃ (V : List Int) (k : Nat) (g : Bool), env 6 = .bool g ∧ env 7 = .int .i64 (k : Int) ∧ k ≤ c.ins.length + 1 ∧ fuel = c.ins.length + 1 - k ∧ DAt s s' c V) (c.ins.length + 1) ⟨by simp only [upd_apply]; simpa using e1, by simp only [upd_apply]; simpa using e4, V, 0, true, rfl, rfl, by omega, rfl, hD⟩ ?_
  clear hbx hvl hD hk1 hk' hk e1 e4 e5
  rintro fuel env2 s2 ⟨e1, e4, V, k, g, e6, e7, hk, rfl, hD⟩
  have hbx := hD.box
  have hvl := hD.len
  by_cases hk1 : k ≤ c.ins.length
  case neg =>
    have hk' : ¬ (k : Int) ≤ (c.ins.length : Int) := by omega
    simp -implicitDefEqProofs only [↓Zd, (Zp), if_true, if_false, ne_eq, implies_true, forall_const, Nat.reduceEqDiff, reduceIte, reduceCtorEq, Int.reduceEq, Int.reduceNeg, Int.reduceLE, Int.reduceLT, Nat.reduceAdd, Nat.reduceLeDiff, Int.reduceToNat, Nat.reduceMul, Nat.reduceBEq, okPart, Value.cells, cut, okCell, cld2, (BBx), vA, e1, e4, e6, e7, hbx, hk', Nat.add_zero, Nat.zero_add]
    exact hR _ _ _ _ _ hD.le
  have hk' : (k : Int) ≤ (c.ins.length : Int) := by omega
  cases g with
  | false =>
    simp -implicitDefEqProofs only [↓Zd, (Zp), if_true, if_false, ne_eq, implies_true, forall_const, Nat.reduceEqDiff, reduceIte, reduceCtorEq, Int.reduceEq, Int.reduceNeg, Int.reduceLE, Int.reduceLT, Nat.reduceAdd, Nat.reduceLeDiff, Int.reduceToNat, Nat.reduceMul, Nat.reduceBEq, okPart, Value.cells, cut, okCell, cld2, (BBx), vA, e1, e4, e6, e7, hbx, hk', Nat.add_zero, Nat.zero_add]
    exact hR _ _ _ _ _ hD.le
  | true =>
  have wk : IntKind.i64.wrap ((k : Int) + 1) = ((k + 1 : Nat) : Int) := by rw [wrap_i64 (by omega)]; omega
  simp -implicitDefEqProofs only [↓Zd, (Zp), if_true, if_false, ne_eq, implies_true, forall_const, Nat.reduceEqDiff, reduceIte, reduceCtorEq, Int.reduceEq, Int.reduceNeg, Int.reduceLE, Int.reduceLT, Nat.reduceAdd, Nat.reduceLeDiff, Int.reduceToNat, Nat.reduceMul, Nat.reduceBEq, okPart, Value.cells, cut, okCell, cld2, (BBx), vA, e1, e4, e6, e7, hbx, hk', Nat.add_zero, Nat.zero_add]
  refine wloop_inv hmix (fun fuel env s' => env 1 = .pointer (some ⟨s.next, 0, none⟩) ∧ env 4 = .slice (some ⟨s.next + 1, 0, none⟩) c.ins.length c.ins.length ∧ env 7 = .int .i64 (k : Int) ∧ ∃ (V : List Int) (m : Nat) (g : Bool), env 6 = .bool g ∧ env 8 = .int .i64 (m : Int) ∧ m ≤ c.ins.length ∧ fuel = c.ins.length - m ∧ DAt s s' c V) (c.ins.length - 0) ⟨by simp only [upd_apply]; simpa using e1, by simp only [upd_apply]; simpa using e4, by simp only [upd_apply]; simpa using e7, V, 0, false, rfl, rfl, by omega, rfl, hD⟩ ?_
  clear hbx hvl hD e1 e4 e6 e7 V
  rintro fuel env3 s3 ⟨e1, e4, e7, V, m, g, e6, e8, hm, rfl, hD⟩
  have hbx := hD.box
  have hvl := hD.len
  by_cases hm1 : m < c.ins.length
  case neg =>
    have hm' : ¬ (m : Int) < (c.ins.length : Int) := by omega
    simp -implicitDefEqProofs only [↓Zd, (Zp), if_true, if_false, ne_eq, implies_true, forall_const, Nat.reduceEqDiff, reduceIte, reduceCtorEq, Int.reduceEq, Int.reduceNeg, Int.reduceLE, Int.reduceLT, Nat.reduceAdd, Nat.reduceLeDiff, Int.reduceToNat, Nat.reduceMul, Nat.reduceBEq, okPart, Value.cells, cut, okCell, cld2, (BBx), vA, e1, e4, e6, e7, e8, hbx, hm', wk, Nat.add_zero, Nat.zero_add]
    exact ⟨c.ins.length + 1 - (k + 1), by omega, V, k + 1, g, rfl, rfl, by omega, rfl, hD⟩
  have hm' : (m : Int) < (c.ins.length : Int) := by omega
  have hmm : (0 : Int) ≤ (m : Int) ∧ (m : Int) < (c.ins.length : Int) := by omega
  have wm : IntKind.i64.wrap ((m : Int) + 1) = ((m + 1 : Nat) : Int) := by rw [wrap_i64 (by omega)]; omega
  have ho := hD.out
  obtain ⟨v, hv⟩ : ∃ v, V[m]? = some v := ⟨V[m]'(by omega), List.getElem?_eq_getElem _⟩
  have hvr := hD.rng v (List.mem_of_getElem? hv)
  have gv : (V.map (Value.int .i64))[m]? = some (.int .i64 v) := by rw [List.getElem?_map, hv]; rfl
  have hx : c.ins[m]? = some c.ins[m] := List.getElem?_eq_getElem hm1
  generalize c.ins[m] = x at hx
  have hux : us[m]? = some x := by rw [hus m hm1]; exact hx
  obtain ⟨c1, c2⟩ := actsI_cut us m x hux
  obtain ⟨o, a, b⟩ := x
  have c2 : List.take 3 (List.drop (m * 3) (us.flatMap actIC)) = [.int .i64 o, .int .i64 a, .int .i64 b] := c2
  have c3 : (us.flatMap actIC)[m * 3]? = some (.int .i64 o) := by
    have := congrArg (·[0]?) c2
    simpa [List.getElem?_take, List.getElem?_drop] using this
  have hjb3 : s3.at' j = some (.cells (us.flatMap actIC) 41 false) := (hD.le.2 j hj).trans hjb
  have hgo : ∀ {s' : St M} {V' : List Int} {g' : Bool}, DAt s s' c V' → ∃ m_1, m_1 < c.ins.length - m ∧ ∃ (V_1 : List Int) (m' : Nat) (g_1 : Bool), Value.bool g' = .bool g_1 ∧ Value.int .i64 ((m + 1 : Nat) : Int) = .int .i64 (m' : Int) ∧ m' ≤ c.ins.length ∧ m_1 = c.ins.length - m' ∧ DAt s s' c V_1 := fun h => ⟨c.ins.length - (m + 1), by omega, _, m + 1, _, rfl, rfl, by omega, rfl, h⟩
  rw [had] at hbx
  by_cases hv0 : v < 0
  · simp -implicitDefEqProofs only [↓Zd, (Zp), if_true, if_false, ne_eq, implies_true, forall_const, Nat.reduceEqDiff, reduceIte, reduceCtorEq, Int.reduceEq, Int.reduceNeg, Int.reduceLE, Int.reduceLT, Nat.reduceAdd, Nat.reduceLeDiff, Int.reduceToNat, Nat.reduceMul, Nat.reduceBEq, okPart, Value.cells, cut, okCell, cld2, (BBx), vA, e1, e4, e6, e7, e8, hbx, hm', hmm, ho, gv, hv0, wm, decide_true, Nat.mul_one, Nat.add_zero, Nat.zero_add]
    exact hgo hD
  simp -implicitDefEqProofs only [↓Zd, (Zp), if_true, if_false, ne_eq, implies_true, forall_const, Nat.reduceEqDiff, reduceIte, reduceCtorEq, Int.reduceEq, Int.reduceNeg, Int.reduceLE, Int.reduceLT, Nat.reduceAdd, Nat.reduceLeDiff, Int.reduceToNat, Nat.reduceMul, Nat.reduceBEq, okPart, Value.cells, cut, okCell, cld2, (BBx), vA, e1, e4, e6, e7, e8, hbx, hm', hmm, ho, gv, hv0, wm, hjb3, c1, c2, decide_true, decide_false, Nat.mul_one, Nat.add_zero, Nat.zero_add, co20]
  refine effect_spec fun s4 x y l4 hx0 hx8 hy0 hy2 => ?_
  have hD4 := hD.more l4
  have hbx4 := hD4.box
  have ho4 := hD4.out
  have hjb4 : s4.at' j = some (.cells (us.flatMap actIC) 41 false) := (hD4.le.2 j hj).trans hjb
  by_cases hvx : v < x
  · simp -implicitDefEqProofs only [↓Zd, (Zp), if_true, if_false, ne_eq, implies_true, forall_const, Nat.reduceEqDiff, reduceIte, reduceCtorEq, Int.reduceEq, Int.reduceNeg, Int.reduceLE, Int.reduceLT, Nat.reduceAdd, Nat.reduceLeDiff, Int.reduceToNat, Nat.reduceMul, Nat.reduceBEq, okPart, Value.cells, cut, okCell, cld2, (BBx), vA, e1, e4, e6, e7, e8, hbx4, had, hmm, ho4, gv, hvx, decide_true, decide_false, Nat.mul_one, Nat.add_zero, Nat.zero_add, ord14]
    exact hR _ _ _ _ _ hD4.le
  by_cases hvd : c.d < v
  · simp -implicitDefEqProofs only [↓Zd, (Zp), if_true, if_false, ne_eq, implies_true, forall_const, Nat.reduceEqDiff, reduceIte, reduceCtorEq, Int.reduceEq, Int.reduceNeg, Int.reduceLE, Int.reduceLT, Nat.reduceAdd, Nat.reduceLeDiff, Int.reduceToNat, Nat.reduceMul, Nat.reduceBEq, okPart, Value.cells, cut, okCell, cld2, (BBx), vA, e1, e4, e6, e7, e8, hbx4, had, hmm, ho4, gv, hvx, hvd, decide_true, decide_false, Nat.mul_one, Nat.add_zero, Nat.zero_add, ord14]
    exact hR _ _ _ _ _ hD4.le
  simp -implicitDefEqProofs only [↓Zd, (Zp), if_true, if_false, ne_eq, implies_true, forall_const, Nat.reduceEqDiff, reduceIte, reduceCtorEq, Int.reduceEq, Int.reduceNeg, Int.reduceLE, Int.reduceLT, Nat.reduceAdd, Nat.reduceLeDiff, Int.reduceToNat, Nat.reduceMul, Nat.reduceBEq, okPart, Value.cells, cut, okCell, cld2, (BBx), vA, e1, e4, e6, e7, e8, hbx4, had, hmm, ho4, gv, hvx, hvd, decide_true, decide_false, Nat.mul_one, Nat.add_zero, Nat.zero_add, ord14, co21]
  rw [← had]
  refine targets_spec (k := m) hc (hi.le hD4.le) hm1 (by omega) fun s5 q n mm l l5 hq hl => ?_
  have n5 := l5.1
  have hD5 := hD4.more l5
  have hlt : ∀ (i : Nat) (t : Int), l[i]? = some t → 0 ≤ t ∧ t ≤ 4001 := by
    intro i t ht
    have hmem := List.mem_of_getElem? ht
    rcases hl with rfl | ⟨z, hz, z1, z2, hz3⟩ | rfl
    · cases hmem
    · have := hg z (List.mem_of_getElem? hz) z1 z2
      rcases hz3 with rfl | rfl
      · rw [List.mem_singleton.1 hmem]; omega
      · simp only [List.mem_cons, List.not_mem_nil, or_false] at hmem
        rcases hmem with rfl | rfl <;> omega
    · rw [List.mem_singleton.1 hmem]; omega
  have hln : n = l.length := by
    rcases hq with ⟨h1, _, h2⟩ | ⟨_, _, _, _, h2, _⟩
    · rw [h1, h2]; rfl
    · exact h2
  have hl2 : l.length ≤ 2 := by
    rcases hl with rfl | ⟨z, hz, z1, z2, rfl | rfl⟩ | rfl <;> simp
  subst hln
  simp -implicitDefEqProofs only [↓Zd, (Zp), if_true, if_false, ne_eq, implies_true, forall_const, Nat.reduceEqDiff, reduceIte, reduceCtorEq, Int.reduceEq, Int.reduceNeg, Int.reduceLE, Int.reduceLT, Nat.reduceAdd, Nat.reduceLeDiff, Int.reduceToNat, Nat.reduceMul, Nat.reduceBEq, okPart, Value.cells, cut, okCell, cld2, (BBx), vA, e1, e4, e6, e7, e8]
  refine wloop_inv hmix (fun fuel env s' => env 1 = .pointer (some ⟨s.next, 0, none⟩) ∧ env 4 = .slice (some ⟨s.next + 1, 0, none⟩) c.ins.length c.ins.length ∧ env 7 = .int .i64 (k : Int) ∧ env 8 = .int .i64 (m : Int) ∧ env 9 = .int .i64 x ∧ env 10 = .int .i64 y ∧ env 11 = .slice q l.length mm ∧ ∃ (V : List Int) (i : Nat) (g : Bool), env 6 = .bool g ∧ env 12 = .int .i64 (i : Int) ∧ i ≤ l.length ∧ fuel = l.length - i ∧ DAt s s' c V ∧ V[m]? = some v ∧ s5.next ≤ s'.next ∧ ∀ b, b < s5.next → b ≠ s.next + 1 → s'.at' b = s5.at' b) (l.length - 0) ⟨by simp only [upd_apply]; simpa using e1, by simp only [upd_apply]; simpa using e4, by simp only [upd_apply]; simpa using e7, by simp only [upd_apply]; simpa using e8, rfl, rfl, rfl, V, 0, g, by simp only [upd_apply]; simpa using e6, rfl, by omega, rfl, hD5, hv, Nat.le_refl _, fun _ _ _ => rfl⟩ ?_
  clear e1 e4 e6 e7 e8 hbx hbx4 ho ho4 gv
  rintro fuel env6 s6 ⟨e1, e4, e7, e8, e9, e10, e11, V, i, g, e6, e12, hi1, rfl, hD6, hv6, n6, k6⟩
  by_cases hil : i < l.length
  case neg =>
    have hi' : ¬ (i : Int) < (l.length : Int) := by omega
    simp -implicitDefEqProofs only [↓Zd, (Zp), if_true, if_false, ne_eq, implies_true, forall_const, Nat.reduceEqDiff, reduceIte, reduceCtorEq, Int.reduceEq, Int.reduceNeg, Int.reduceLE, Int.reduceLT, Nat.reduceAdd, Nat.reduceLeDiff, Int.reduceToNat, Nat.reduceMul, Nat.reduceBEq, okPart, Value.cells, cut, okCell, cld2, (BBx), vA, e1, e4, e6, e7, e8, e9, e10, e11, e12, hi', wm]
    exact hgo hD6
  have hi' : (i : Int) < (l.length : Int) := by omega
  have hii : (0 : Int) ≤ (i : Int) ∧ (i : Int) < (l.length : Int) := by omega
  have wi : IntKind.i64.wrap ((i : Int) + 1) = ((i + 1 : Nat) : Int) := by rw [wrap_i64 (by omega)]; omega
  rcases hq with ⟨h1, _, _⟩ | ⟨b2, rfl, hb1, hb2, _, hb3⟩
  · rw [h1] at hil; cases hil
  have hnx := hD4.nx
  have hb6 : s6.at' b2 = some (.cells (l.map (Value.int .i64)) 3 true) := (k6 b2 hb2 (by omega)).trans hb3
  obtain ⟨t, ht⟩ : ∃ t, l[i]? = some t := ⟨l[i]'hil, List.getElem?_eq_getElem _⟩
  have gt : (l.map (Value.int .i64))[i]? = some (.int .i64 t) := by rw [List.getElem?_map, ht]; rfl
  obtain ⟨t0, t1⟩ := hlt i t ht
  have hbx6 := hD6.box
  have ho6 := hD6.out
  have hvl6 := hD6.len
  have gv6 : (V.map (Value.int .i64))[m]? = some (.int .i64 v) := by rw [List.getElem?_map, hv6]; rfl
  have hjb6 : s6.at' j = some (.cells (us.flatMap actIC) 41 false) := (hD6.le.2 j hj).trans hjb
  have w1 : IntKind.i64.wrap (v - x) = v - x := wrap_i64 (by omega)
  have w2 : IntKind.i64.wrap (v - x + y) = v - x + y := wrap_i64 (by omega)
  have w3 : IntKind.i64.wrap (v - x + y + 1) = v - x + y + 1 := wrap_i64 (by omega)
  obtain ⟨d, hdd, hstep⟩ : ∃ d : Int, (0 ≤ d) ∧ (((i : Int) = 1 ∧ 23 < o ∧ d = v - x + y + 1) ∨ ((i : Int) = 1 ∧ ¬ 23 < o ∧ d = v - x + y) ∨ (¬ (i : Int) = 1 ∧ d = v - x + y)) := by
    by_cases h1 : (i : Int) = 1
    · by_cases h2 : 23 < o
      · exact ⟨v - x + y + 1, by omega, .inl ⟨h1, h2, rfl⟩⟩
      · exact ⟨v - x + y, by omega, .inr (.inl ⟨h1, h2, rfl⟩)⟩
    · exact ⟨v - x + y, by omega, .inr (.inr ⟨h1, rfl⟩)⟩
  have wd : IntKind.i64.wrap d = d := wrap_i64 (by rcases hstep with ⟨_, _, h⟩ | ⟨_, _, h⟩ | ⟨_, h⟩ <;> omega)
  refine hstep.elim (fun ⟨s1', s2', s3'⟩ => ?gA) fun hs => hs.elim (fun ⟨s1', s2', s3'⟩ => ?gB) fun ⟨s1', s3'⟩ => ?gC
  case' gA =>
    have s1 := eq_true s1'
    simp -implicitDefEqProofs only [↓Zd, (Zp), if_true, if_false, ne_eq, implies_true, forall_const, Nat.reduceEqDiff, reduceIte, reduceCtorEq, Int.reduceEq, Int.reduceNeg, Int.reduceLE, Int.reduceLT, Nat.reduceAdd, Nat.reduceLeDiff, Int.reduceToNat, Nat.reduceMul, Nat.reduceBEq, okPart, Value.cells, cut, okCell, cld2, (BBx), vA, e1, e4, e6, e7, e8, e9, e10, e11, e12, hi', hii, hbx6, had, hmm, ho6, gv6, hb6, gt, w1, w2, w3, wd, ← s3', hjb6, c3, decide_true, decide_false, Nat.mul_one, Nat.add_zero, Nat.zero_add, ord14, s1, s2']
  case' gB =>
    have s1 := eq_true s1'
    simp -implicitDefEqProofs only [↓Zd, (Zp), if_true, if_false, ne_eq, implies_true, forall_const, Nat.reduceEqDiff, reduceIte, reduceCtorEq, Int.reduceEq, Int.reduceNeg, Int.reduceLE, Int.reduceLT, Nat.reduceAdd, Nat.reduceLeDiff, Int.reduceToNat, Nat.reduceMul, Nat.reduceBEq, okPart, Value.cells, cut, okCell, cld2, (BBx), vA, e1, e4, e6, e7, e8, e9, e10, e11, e12, hi', hii, hbx6, had, hmm, ho6, gv6, hb6, gt, w1, w2, w3, wd, ← s3', hjb6, c3, decide_true, decide_false, Nat.mul_one, Nat.add_zero, Nat.zero_add, ord14, s1, s2']
  case' gC =>
    have s1 : decide ((i : Int) = 1) = false := decide_eq_false s1'
    simp -implicitDefEqProofs only [↓Zd, (Zp), if_true, if_false, ne_eq, implies_true, forall_const, Nat.reduceEqDiff, reduceIte, reduceCtorEq, Int.reduceEq, Int.reduceNeg, Int.reduceLE, Int.reduceLT, Nat.reduceAdd, Nat.reduceLeDiff, Int.reduceToNat, Nat.reduceMul, Nat.reduceBEq, okPart, Value.cells, cut, okCell, cld2, (BBx), vA, e1, e4, e6, e7, e8, e9, e10, e11, e12, hi', hii, hbx6, had, hmm, ho6, gv6, hb6, gt, w1, w2, w3, wd, ← s3', hjb6, c3, decide_true, decide_false, Nat.mul_one, Nat.add_zero, Nat.zero_add, ord14, s1]
  all_goals
    by_cases q1 : (c.ins.length : Int) ≤ t
    · simp -implicitDefEqProofs only [↓Zd, (Zp), if_true, if_false, ne_eq, implies_true, forall_const, Nat.reduceEqDiff, reduceIte, reduceCtorEq, Int.reduceEq, Int.reduceNeg, Int.reduceLE, Int.reduceLT, Nat.reduceAdd, Nat.reduceLeDiff, Int.reduceToNat, Nat.reduceMul, Nat.reduceBEq, okPart, Value.cells, cut, okCell, cld2, (BBx), vA, e1, e4, e6, e7, e8, e9, e10, e11, e12, hi', hii, hbx6, had, hmm, ho6, gv6, hb6, gt, hjb6, c3, decide_true, decide_false, Nat.mul_one, Nat.add_zero, Nat.zero_add, ord14, q1]
      exact hR _ _ _ _ _ hD6.le
    by_cases q2 : c.d < d
    · simp -implicitDefEqProofs only [↓Zd, (Zp), if_true, if_false, ne_eq, implies_true, forall_const, Nat.reduceEqDiff, reduceIte, reduceCtorEq, Int.reduceEq, Int.reduceNeg, Int.reduceLE, Int.reduceLT, Nat.reduceAdd, Nat.reduceLeDiff, Int.reduceToNat, Nat.reduceMul, Nat.reduceBEq, okPart, Value.cells, cut, okCell, cld2, (BBx), vA, e1, e4, e6, e7, e8, e9, e10, e11, e12, hi', hii, hbx6, had, hmm, ho6, gv6, hb6, gt, hjb6, c3, decide_true, decide_false, Nat.mul_one, Nat.add_zero, Nat.zero_add, ord14, q1, q2]
      exact hR _ _ _ _ _ hD6.le
    obtain ⟨tn, rfl⟩ : ∃ tn : Nat, t = (tn : Int) := ⟨t.toNat, by omega⟩
    obtain ⟨u, hu⟩ : ∃ u, V[tn]? = some u := ⟨V[tn]'(by omega), List.getElem?_eq_getElem _⟩
    have gu : (V.map (Value.int .i64))[tn]? = some (.int .i64 u) := by rw [List.getElem?_map, hu]; rfl
    have htt : (0 : Int) ≤ (tn : Int) ∧ (tn : Int) < (c.ins.length : Int) := by omega
    have htl : tn + 1 ≤ (V.map (Value.int .i64)).length := by rw [List.length_map]; omega
    have hne : ¬ s.next = s.next + 1 := by omega
    have hstp : ∀ g' : Bool, tn ≠ m ∨ d = v → ∃ m_1, m_1 < l.length - i ∧ ∃ (V_1 : List Int) (i_1 : Nat) (g_1 : Bool), Value.bool g' = .bool g_1 ∧ Value.int .i64 ((i + 1 : Nat) : Int) = .int .i64 (i_1 : Int) ∧ i_1 ≤ l.length ∧ m_1 = l.length - i_1 ∧ DAt s (s6.put (s.next + 1) (.cells ((V.map (Value.int .i64)).set tn (.int .i64 d)) 3 true)) c V_1 ∧ V_1[m]? = some v ∧ s5.next ≤ (s6.put (s.next + 1) (.cells ((V.map (Value.int .i64)).set tn (.int .i64 d)) 3 true)).next ∧ ∀ b, b < s5.next → b ≠ s.next + 1 → (s6.put (s.next + 1) (.cells ((V.map (Value.int .i64)).set tn (.int .i64 d)) 3 true)).at' b = s5.at' b := fun g' hh => by
      refine ⟨l.length - (i + 1), by omega, V.set tn d, i + 1, g', rfl, rfl, by omega, rfl, hD6.set (by omega), ?_, n6, fun b hb hbn => by rw [St.at_put, if_neg hbn]; exact k6 b hb hbn⟩
      rw [List.getElem?_set]
      split
      · rename_i e
        rcases hh with hh | hh
        · exact absurd e hh
        · rw [if_pos (by omega), hh]
      · exact hv6
    by_cases q3 : 0 ≤ u
    · have q4 : ¬ u < 0 := by omega
      by_cases q5 : u = d
      · have q6 : ¬ d < 0 := by omega
        simp -implicitDefEqProofs only [↓Zd, (Zp), if_true, if_false, ne_eq, implies_true, forall_const, Nat.reduceEqDiff, reduceIte, reduceCtorEq, Int.reduceEq, Int.reduceNeg, Int.reduceLE, Int.reduceLT, Nat.reduceAdd, Nat.reduceLeDiff, Int.reduceToNat, Nat.reduceMul, Nat.reduceBEq, okPart, Value.cells, cut, okCell, cld2, (BBx), vA, e1, e4, e6, e7, e8, e9, e10, e11, e12, hi', hii, hbx6, had, hmm, ho6, gv6, hb6, gt, hjb6, c3, decide_true, decide_false, Nat.mul_one, Nat.add_zero, Nat.zero_add, ord14, q1, q2, hdd, q6, q5, gu, htt, htl, hne, wi]
        have hh : tn ≠ m ∨ d = v := by
          by_cases e : tn = m
          · refine .inr ?_
            subst e
            rw [hv6] at hu
            rw [← q5]
            exact (Option.some.inj hu).symm
          · exact .inl e
        have h9 := hstp g hh
        simp only [St.next_put, St.at_put, ne_eq] at h9
        exact h9
      · simp -implicitDefEqProofs only [↓Zd, (Zp), if_true, if_false, ne_eq, implies_true, forall_const, Nat.reduceEqDiff, reduceIte, reduceCtorEq, Int.reduceEq, Int.reduceNeg, Int.reduceLE, Int.reduceLT, Nat.reduceAdd, Nat.reduceLeDiff, Int.reduceToNat, Nat.reduceMul, Nat.reduceBEq, okPart, Value.cells, cut, okCell, cld2, (BBx), vA, e1, e4, e6, e7, e8, e9, e10, e11, e12, hi', hii, hbx6, had, hmm, ho6, gv6, hb6, gt, hjb6, c3, decide_true, decide_false, Nat.mul_one, Nat.add_zero, Nat.zero_add, ord14, q1, q2, q3, q4, q5, gu, htt, htl, hne, wi]
        exact hR _ _ _ _ _ hD6.le
    · have q4 : u < 0 := by omega
      simp -implicitDefEqProofs only [↓Zd, (Zp), if_true, if_false, ne_eq, implies_true, forall_const, Nat.reduceEqDiff, reduceIte, reduceCtorEq, Int.reduceEq, Int.reduceNeg, Int.reduceLE, Int.reduceLT, Nat.reduceAdd, Nat.reduceLeDiff, Int.reduceToNat, Nat.reduceMul, Nat.reduceBEq, okPart, Value.cells, cut, okCell, cld2, (BBx), vA, e1, e4, e6, e7, e8, e9, e10, e11, e12, hi', hii, hbx6, had, hmm, ho6, gv6, hb6, gt, hjb6, c3, decide_true, decide_false, Nat.mul_one, Nat.add_zero, Nat.zero_add, ord14, q1, q2, q3, q4, gu, htt, htl, hne, wi]
      have h9 := hstp true (.inl fun e => by
        subst e
        rw [hv6] at hu
        cases hu
        omega)
      simp only [St.next_put, St.at_put, ne_eq] at h9
      exact h9
end
end Go.Proofs.Tryz
