/- The document's heaps: the walks of what goes up the chain, of slots, and of shapes that come next. A lemma file: no statement of its own. -/
import Derived.Test.YtakgfhdaimeafaaGreatqFwF
import Derived.Test.YtakgfhdaimeafaaGreatqRH7
import Derived.Test.YtakgfhdaimeafaaGreatqHC0
set_option linter.unusedSimpArgs false
set_option linter.unusedVariables false
set_option linter.unusedSectionVars false
namespace Go.Proofs.Tryz
open Go.Cs
open Go.RowKit (Below)
set_option maxRecDepth 100000
attribute [local irreducible] CCalls WLoop WScope CRound WRange
section
variable {M : Type} [Mem M] {w0 : World} {s : St M} {R : Value → St M → Prop} {lo p N pf : Nat} {H : Hp} {O : Nat → Prop} {tg : Nat → Nat} {sl tl : Value} {bs : List Nat}
set_option maxHeartbeats 8000000 in
theorem rget_spec (h : RHpIn lo s p H N O tg pf sl tl bs) {i : Int} {x : ByteArray}
    (hR : ∀ s' v, s.le s' → GetR H x i v → R (vOf v) s') : CCalls Tryz.prog w0 40 #[.pointer (some ⟨p, 0, none⟩), .int .i64 i, .string x] s R := by
  refine wfun2 hmix ok40 (l := [.pointer (some ⟨p, 0, none⟩), .int .i64 i, .string x]) func40 rfl ntmps40 results40 (by simp) ?_
  have l1 : s.le (s.new (.cells [.int .i64 0, .int .i64 0, .string ⟨#[]⟩] 30 true)) := St.le_new (St.le_refl _)
  obtain ⟨d, hd, hfew⟩ := deep_few h.ok
  have hlim := h.ok.lim
  simp -implicitDefEqProofs only [↓Zd, (Zp), Value.cells, (HEx)]
  refine wloop_inv hmix (fun fuel env s1 => ∃ (k : Nat) (i' : Int), fuel = H.obs.length + 1 - k ∧ k ≤ H.obs.length ∧ env 7 = .int .i64 (k : Int) ∧ env 1 = .int .i64 i' ∧ env 0 = .pointer (some ⟨p, 0, none⟩) ∧ env 2 = .string x ∧ env 6 = .pointer (some ⟨s.next, 0, none⟩) ∧ (s.new (.cells [.int .i64 0, .int .i64 0, .string ⟨#[]⟩] 30 true)).le s1 ∧ (∀ v, GetR H x i' v → GetR H x i v) ∧ ∀ j : Nat, j < H.obs.length → i' = ((j + 1 : Nat) : Int) → d (j + 1) + k < H.obs.length) (H.obs.length + 1)
    ⟨0, i, rfl, by omega, rfl, rfl, rfl, rfl, rfl, St.le_refl _, fun v hv => hv, fun j hj _ => by have := hfew j hj; omega⟩ ?_
  rintro fuel env s1 ⟨k, i', rfl, hk, e7, e1, e0, e2, e6, hs1, himp, hdk⟩
  have hle1 := St.le_trans l1 hs1
  have h1 := (h.le hle1)
  have hb1 := h1.bl
  have hn1 := hs1.1
  simp only [St.next_new] at hn1
  have hkl : (k : Int) ≤ (H.obs.length : Int) := by omega
  have c6 : s1.at' s.next = some (.cells [.int .i64 0, .int .i64 0, .string ⟨#[]⟩] 30 true) := by rw [hs1.2 _ (by simp only [St.next_new]; omega), St.at_new, if_pos rfl]
  obtain ⟨qs, cs, es⟩ := h.form
  have hb1' := hb1
  rw [es] at hb1'
  simp -implicitDefEqProofs only [↓Zd, (Zp), if_true, if_false, Nat.reduceEqDiff, reduceCtorEq, cld2, (REx), e7, e1, e0, hb1', hkl, co59]
  refine rhas_spec h1 ?_
  cases ho : obAt H i' with
  | none =>
    simp -implicitDefEqProofs only [↓Zd, (Zp), if_true, if_false, Nat.reduceEqDiff, Nat.reduceAdd, Nat.reduceLeDiff, okPart, Value.cells, cut, okCell, cld2, (HEx), e6, c6]
    exact hR _ (0, 0, ⟨#[]⟩) (St.le_put hle1 (by omega)) (himp _ (.none ho))
  | some o =>
    obtain ⟨j, rfl, hj, hjo⟩ := obAt_some ho
    simp -implicitDefEqProofs only [↓Zd, (Zp), if_true, if_false, Nat.reduceEqDiff, reduceCtorEq, (HEx), e1, e0, e2, co56]
    refine rown_spec h1 fun s2 hs2 => ?_
    rw [ho]
    simp only [Option.bind_some]
    have hn2 := hs2.1
    have hle2 := St.le_trans hle1 hs2
    have c62 : s2.at' s.next = some (.cells [.int .i64 0, .int .i64 0, .string ⟨#[]⟩] 30 true) := by rw [hs2.2 _ (by omega)]; exact c6
    have hne : ¬ s.next = s2.next := by omega
    cases hg : getP o.L x with
    | some v =>
      obtain ⟨a1, a2, a3⟩ := v
      unfold gotV vOf
      simp -implicitDefEqProofs only [↓Zd, (Zp), if_true, if_false, Nat.reduceEqDiff, Nat.reduceAdd, Nat.reduceLeDiff, okPart, Value.cells, cut, okCell, cld2, (HEx), vA, e6, c62, hne]
      exact hR _ (a1, a2, a3) (St.le_put (St.le_put (St.le_new hle2) (by omega)) (by omega)) (himp _ (.own ho hg))
    | none =>
      obtain ⟨b, br, vs, own, ns, vv, hb, hB, esl, hbr, hgj, hbrn, hob, hfr, hO⟩ := (h.le hle2).at hjo
      have g1 := (h.le hle2).bl
      rw [esl] at g1
      have g2 := hob.bl
      have hp2 : ¬ p = s2.next := by have := ((h.le hle2).own p h.pin.1).2; omega
      have hbr2 : ¬ br = s2.next := by omega
      have hb2 : ¬ b = s2.next := by have := hfr.bn; omega
      have hk2 := ix_ok (n := bs.length) (j := j) (by rw [h.len]; exact hj)
      have w1 := h.w hj
      have wk : IntKind.i64.wrap ((k : Int) + 1) = ((k + 1 : Nat) : Int) := by rw [wrap_i64 (by omega)]; omega
      have hdj := hdk j hj rfl
      unfold gotV
      simp -implicitDefEqProofs only [↓Zd, (Zp), if_true, if_false, Nat.reduceEqDiff, reduceCtorEq, Nat.reduceAdd, Nat.reduceLeDiff, okPart, Value.cells, okCell, cld2, (HEx), (REx), vA, e7, e1, e0, e2, e6, g1, g2, hp2, hbr2, hb2, hbr, hgj, hk2, w1, wk]
      refine ⟨H.obs.length + 1 - (k + 1), by omega, k + 1, (o.proto : Int), rfl, by omega, rfl, rfl, ?_, fun v hv => himp v (.up ho hg hv), fun j2 hj2 e => ?_⟩
      · exact St.le_put (St.le_new (St.le_trans hs1 hs2)) (by simp only [St.next_new]; omega)
      · rcases hd j o hjo with h0 | ⟨_, h0⟩
        · omega
        · have : o.proto = j2 + 1 := by omega
          rw [this] at h0
          omega
set_option maxHeartbeats 8000000 in
theorem rslot_spec (h : RHpIn lo s p H N O tg pf sl tl bs) {i k : Int} (hR : ∀ s', s.le s' → R (gotV (slotG H i k)) s') : CCalls Tryz.prog w0 63 #[.pointer (some ⟨p, 0, none⟩), .int .i64 i, .int .i64 k] s R := by
  refine wfun2 hmix ok63 (l := [.pointer (some ⟨p, 0, none⟩), .int .i64 i, .int .i64 k]) func63 rfl ntmps63 results63 (by simp) ?_
  have l1 : s.le (s.new (.cells [.int .i64 0, .int .i64 0, .string ⟨#[]⟩] 30 true)) := St.le_new (St.le_refl _)
  simp -implicitDefEqProofs only [↓Zd, (Zp), if_true, if_false, Nat.reduceEqDiff, reduceCtorEq, Value.cells, (HEx), co59]
  refine rhas_spec (h.le l1) ?_
  unfold slotG at hR
  cases ho : obAt H i with
  | none =>
    rw [ho] at hR
    simp only [gotV] at hR
    simp -implicitDefEqProofs only [↓Zd, (Zp), if_true, if_false, Nat.reduceEqDiff, Nat.reduceAdd, Nat.reduceLeDiff, okPart, Value.cells, cut, okCell, cld2, (HEx)]
    exact hR _ (by repeat (first | exact St.le_refl _ | assumption | refine St.le_new ?_ | refine St.le_put ?_ (by first | omega | (simp only [St.next_new, St.next_put, St.next_kill]; omega)) | refine St.le_trans ?_ (by assumption)))
  | some o =>
    rw [ho] at hR
    simp only at hR
    obtain ⟨j, rfl, hj, hjo⟩ := obAt_some ho
    obtain ⟨b, br, vs, own, ns, vv, hb, hB, esl, hbr, hg, hbrn, hob, hfr, hO⟩ := h.at hjo
    have h1 := h.bl
    rw [esl] at h1
    have h2 := hob.bl
    have hp2 : ¬ p = s.next := by have := (h.own p h.pin.1).2; omega
    have hbr2 : ¬ br = s.next := by omega
    have hb2 : ¬ b = s.next := by have := hfr.bn; omega
    have hk2 := ix_ok (n := bs.length) (j := j) (by rw [h.len]; exact hj)
    have w1 := h.w hj
    obtain ⟨qv, cv, ev⟩ := hob.vform
    have h2' := h2
    rw [ev] at h2'
    by_cases hs0 : o.shape = 0
    · have hs0' : ((o.shape : Nat) : Int) = 0 := by omega
      rw [if_pos hs0] at hR
      simp only [gotV] at hR
      simp -implicitDefEqProofs only [↓Zd, (Zp), if_true, if_false, Nat.reduceEqDiff, reduceCtorEq, Nat.reduceAdd, Nat.reduceLeDiff, okPart, Value.cells, cut, okCell, cld2, (HEx), (REx), h1, h2', hp2, hbr2, hb2, hbr, hg, hk2, w1, hs0']
      exact hR _ (by repeat (first | exact St.le_refl _ | assumption | refine St.le_new ?_ | refine St.le_put ?_ (by first | omega | (simp only [St.next_new, St.next_put, St.next_kill]; omega)) | refine St.le_trans ?_ (by assumption)))
    have hs0' : ¬ ((o.shape : Nat) : Int) = 0 := by omega
    rw [if_neg hs0] at hR
    by_cases k1 : k < 0
    · rw [if_neg (by omega)] at hR
      simp only [gotV] at hR
      simp -implicitDefEqProofs only [↓Zd, (Zp), if_true, if_false, Nat.reduceEqDiff, reduceCtorEq, Nat.reduceAdd, Nat.reduceLeDiff, okPart, Value.cells, cut, okCell, cld2, (HEx), (REx), h1, h2', hp2, hbr2, hb2, hbr, hg, hk2, w1, hs0', k1]
      exact hR _ (by repeat (first | exact St.le_refl _ | assumption | refine St.le_new ?_ | refine St.le_put ?_ (by first | omega | (simp only [St.next_new, St.next_put, St.next_kill]; omega)) | refine St.le_trans ?_ (by assumption)))
    rw [if_pos (by omega)] at hR
    by_cases k2 : (o.L.length : Int) ≤ k
    · rw [List.getElem?_eq_none (by omega)] at hR
      simp only [Option.map_none, gotV] at hR
      simp -implicitDefEqProofs only [↓Zd, (Zp), if_true, if_false, Nat.reduceEqDiff, reduceCtorEq, Nat.reduceAdd, Nat.reduceLeDiff, okPart, Value.cells, cut, okCell, cld2, (HEx), (REx), h1, h2', hp2, hbr2, hb2, hbr, hg, hk2, w1, hs0', k1, k2]
      exact hR _ (by repeat (first | exact St.le_refl _ | assumption | refine St.le_new ?_ | refine St.le_put ?_ (by first | omega | (simp only [St.next_new, St.next_put, St.next_kill]; omega)) | refine St.le_trans ?_ (by assumption)))
    obtain ⟨m, rfl⟩ : ∃ m : Nat, k = (m : Int) := ⟨k.toNat, by omega⟩
    have hml : m < o.L.length := by omega
    rcases hob.vl with ⟨e0, _⟩ | ⟨b2, junk, e2, hb2v, _⟩
    · omega
    have hg2 : o.L[m]? = some (o.L[m].1, o.L[m].2) := by simp [hml]
    obtain ⟨c1, c2⟩ := valsC_cut o.L m _ _ junk hg2
    have hkk := ix_ok hml
    rw [Int.toNat_natCast, hg2] at hR
    simp only [Option.map_some, gotV, vOf, vA] at hR
    have hb2n := (hfr.v _ _ _ e2).1
    have hne : ¬ b2 = s.next := by simp only at hb2n; omega
    rw [e2] at h2
    simp -implicitDefEqProofs only [↓Zd, (Zp), if_true, if_false, Nat.reduceEqDiff, reduceCtorEq, Nat.reduceAdd, Nat.reduceLeDiff, okPart, Value.cells, cut, okCell, cld2, (HEx), (REx), h1, h2, hp2, hbr2, hb2, hbr, hg, hk2, w1, hs0', k1, k2, hb2v, hne, hkk, c1, c2]
    exact hR _ (by repeat (first | exact St.le_refl _ | assumption | refine St.le_new ?_ | refine St.le_put ?_ (by first | omega | (simp only [St.next_new, St.next_put, St.next_kill]; omega)) | refine St.le_trans ?_ (by assumption)))
set_option maxHeartbeats 8000000 in
theorem rnext_spec (h : RHpIn lo s p H N O tg pf sl tl bs) (hlo : lo ≤ s.next) {i : Int} {x : ByteArray} (hN : N + 1 ≤ 1000000) (hi : -9223372036854775808 ≤ i ∧ i ≤ 9223372036854775807)
    (hR : ∀ s' O' tg' tl', RHpIn lo s' p (nextH H i x) (N + 1) O' tg' pf sl tl' bs → Upd s s' O O' → R (.int .i64 (nextN H i x : Int)) s') : CCalls Tryz.prog w0 39 #[.pointer (some ⟨p, 0, none⟩), .int .i64 i, .string x] s R := by
  refine wfun2 hmix ok39 (l := [.pointer (some ⟨p, 0, none⟩), .int .i64 i, .string x]) func39 rfl ntmps39 results39 (by simp) ?_
  have hb := h.bl
  have hm := h.mono (N' := N + 1) (by omega)
  simp -implicitDefEqProofs only [↓Zd, (Zp), if_true, if_false, Nat.reduceEqDiff, reduceCtorEq, cld2, (REx), hb, co86]
  refine rfhas_spec h.fo ?_
  cases hsh : shAt H.F i with
  | none =>
    have e1 : nextH H i x = H := by unfold nextH; rw [hsh]; rfl
    have e2 : nextN H i x = 0 := by unfold nextN; rw [hsh]; rfl
    rw [e1, e2] at hR
    simp -implicitDefEqProofs only [↓Zd, (Zp), if_true, if_false, Nat.reduceEqDiff, (HEx)]
    exact hR _ _ _ _ hm .refl
  | some t =>
    have e1 : nextH H i x = { H with F := addF H.F H.most i (ofI H.T x), T := ofT H.T x } := by unfold nextH; rw [hsh]; rfl
    have e2 : nextN H i x = addN H.F H.most i (ofI H.T x) := by unfold nextN; rw [hsh]; rfl
    have hok := next_ok h.ok i x
    rw [e1] at hR hok
    rw [e2] at hR
    have htn := h.tn
    simp -implicitDefEqProofs only [↓Zd, (Zp), if_true, if_false, Nat.reduceEqDiff, reduceCtorEq, cld2, (HEx), (REx), hb, ord39, co88]
    refine rtof_spec (h.own p h.pin.1).2 (by omega) hb h.ta (fun q n c e => ⟨(h.own _ (h.taO q n c e).1).2, fun e2 => by have := (h.taO q n c e).2; rw [e2, h.pin.2] at this; omega⟩) fun s1 tl1 hb1 hta1 hn1 hk1 hnew1 => ?_
    obtain ⟨O1, h1, hU1⟩ := hm.newT hlo hb1 hta1 hn1 hk1 hnew1 (text_ok h.ok x) (by have := ofT_len H.T x; omega)
    simp -implicitDefEqProofs only [↓Zd, (Zp), if_true, if_false, Nat.reduceEqDiff, Nat.reduceBEq, cld2, (HEx), (REx), hb1, co87]
    refine rfadd_spec h1.fo (by omega) hi fun s2 O2 hF2 hU2 _ => ?_
    have h2 := h1.newF hU2 hF2 hok
    simp -implicitDefEqProofs only [↓Zd, (Zp), if_true, if_false, Nat.reduceEqDiff, (HEx)]
    exact hR _ _ _ _ h2 (hU1.trans (re_upd hU2))
end
end Go.Proofs.Tryz
