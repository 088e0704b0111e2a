/- The document's forests: the walks of Slot, Names, Add, Move, Parent. A lemma file: no statement of its own. -/
import Derived.Test.YtakgfhdaimeafaaGreatqFwF
import Derived.Test.YtakgfhdaimeafaaGreatqRH0
set_option linter.unusedSimpArgs false
set_option linter.unusedVariables false
set_option linter.unusedSectionVars false
namespace Go.Proofs.Tryz
open Go.Cs
open Go.RowKit (Below)
set_option maxRecDepth 100000
attribute [local irreducible] CCalls WLoop WScope CRound WRange
theorem slotL_of : ∀ {l : List Nat}, l.Nodup → ∀ {k x : Nat}, l.reverse[k]? = some x → slotL l x = (k : Int) := by
  intro l
  induction l with
  | nil => intro _ k x h; simp at h
  | cons y r ih =>
    intro hn k x h
    simp only [List.nodup_cons] at hn
    rw [List.reverse_cons] at h
    unfold slotL
    by_cases hk : k < r.length
    · rw [List.getElem?_append_left (by simpa using hk)] at h
      have hm : x ∈ r := by simpa using List.mem_of_getElem? h
      rw [if_neg (fun e : y = x => hn.1 (by rw [e]; exact hm))]
      exact ih hn.2 h
    · rw [List.getElem?_append_right (by simp; omega)] at h
      have h0 : k - r.reverse.length = 0 := by
        have := (List.getElem?_eq_some_iff.1 h).1
        simp at this ⊢; omega
      rw [h0] at h
      simp at h
      rw [if_pos h]
      simp at h0
      omega
theorem ints_ok (l : List Nat) : (ints l).all okCell = true := by
  simp [ints, okCell]
section
variable {M : Type} [Mem M] {w0 : World} {s : St M} {R : Value → St M → Prop} {lo p most : Nat} {F : List Sh} {O : Nat → Prop}
theorem RFAt.get (hF : RFAt lo s p F most O) {j : Nat} {t : Sh} (ht : F[j]? = some t) : ∃ b vs own mv nm, s.at' p = some (.cells [.slice (some ⟨b, 0, none⟩) F.length UNK, .int .i64 (mv : Int)] 137 true) ∧ s.at' b = some (.cells vs 159 own) ∧ vs[j * 2]? = some (.int .i64 ((t.1 : Nat) : Int)) ∧ vs[j * 2 + 1]? = some nm ∧ SlI s nm t.2.reverse ∧ (∀ q n c, nm = .slice (some q) n c → O q.block) ∧ O b ∧ NmOf s p j nm := by
  obtain ⟨h1, h2, h3, h4, sl, nm, h5, h6, h7, h8⟩ := hF
  have hj := (List.getElem?_eq_some_iff.1 ht).1
  rcases h6 with ⟨e, _⟩ | ⟨b, junk, rfl, hb, hlb⟩
  · omega
  have f0 := rows_get (rshC_len F nm) (n := F.length) junk hj (show 0 < 2 by omega)
  have f1 := rows_get (rshC_len F nm) (n := F.length) junk hj (show 1 < 2 by omega)
  rw [rshC_at ht] at f0 f1
  obtain ⟨g1, g2⟩ := h8 j t ht
  exact ⟨b, _, _, most, nm j, h5, hb, f0, f1, g1, fun q n c e => (g2 q n c e).1, (h7 _ _ _ rfl).1, _, _, b, _, _, _, _, h5, rfl, hb, f1⟩
theorem shAt_ix {i : Int} {t : Sh} (h : shAt F i = some t) : ∃ j : Nat, i = ((j + 1 : Nat) : Int) ∧ j < F.length ∧ F[j]? = some t := by
  unfold shAt at h
  split at h
  · exact ⟨i.toNat - 1, by omega, (List.getElem?_eq_some_iff.1 h).1, h⟩
  · cases h
theorem rfnames_spec {i : Int} (hF : RFAt lo s p F most O) (hi : -9223372036854775808 ≤ i ∧ i ≤ 9223372036854775807) (hR : ∀ v, SlI s v (namesOf F i).reverse → (∀ q n c, v = .slice (some q) n c → O q.block) → R v s) : CCalls Tryz.prog w0 81 #[.pointer (some ⟨p, 0, none⟩), .int .i64 i] s R := by
  refine wfun2 hmix ok81 (l := [.pointer (some ⟨p, 0, none⟩), .int .i64 i]) func81 rfl ntmps81 results81 (by simp) ?_
  simp -implicitDefEqProofs only [↓Zd, (Zp), if_true, if_false, Nat.reduceEqDiff, reduceCtorEq, co86]
  refine rfhas_spec hF ?_
  cases ht : shAt F i with
  | none =>
    have e0 : namesOf F i = [] := by unfold namesOf; rw [ht]
    rw [e0] at hR
    simp -implicitDefEqProofs only [↓Zd, (Zp), if_true, if_false, Nat.reduceEqDiff, (HEx)]
    exact hR _ (.inl ⟨rfl, rfl, rfl⟩) (fun q n c e => by cases e)
  | some t =>
    have e0 : namesOf F i = t.2 := by unfold namesOf; rw [ht]
    rw [e0] at hR
    obtain ⟨j, rfl, hj, hFj⟩ := shAt_ix ht
    obtain ⟨b, vs, own, mv, nm, g1, g2, g3, g4, g5, g6, g7, g8⟩ := hF.get hFj
    have w1 : IntKind.i64.wrap (((j + 1 : Nat) : Int) - 1) = (j : Int) := by rw [wrap_i64 (by omega)]; omega
    have hkk : (0 : Int) ≤ (j : Int) ∧ (j : Int) < (F.length : Int) := by omega
    obtain ⟨a, c, hnm⟩ := g5.form
    rw [hnm] at g4
    simp -implicitDefEqProofs only [↓Zd, (Zp), if_true, if_false, Nat.reduceEqDiff, reduceCtorEq, cld2, (HEx), (REx), g1, g2, g4, w1, hkk]
    rw [← hnm]
    exact hR nm g5 g6
set_option maxHeartbeats 4000000 in
theorem rfslot_spec {i : Int} {x : Nat} (hF : RFAt lo s p F most O) (hi : -9223372036854775808 ≤ i ∧ i ≤ 9223372036854775807) (hR : R (.int .i64 (slotL (namesOf F i) x)) s) : CCalls Tryz.prog w0 102 #[.pointer (some ⟨p, 0, none⟩), .int .i64 i, .int .i64 (x : Int)] s R := by
  refine wfun2 hmix ok102 (l := [.pointer (some ⟨p, 0, none⟩), .int .i64 i, .int .i64 (x : Int)]) func102 rfl ntmps102 results102 (by simp) ?_
  simp -implicitDefEqProofs only [↓Zd, (Zp), if_true, if_false, Nat.reduceEqDiff, reduceCtorEq, co86]
  refine rfhas_spec hF ?_
  cases ht : shAt F i with
  | none =>
    have e0 : slotL (namesOf F i) x = -1 := by unfold namesOf; rw [ht]; rfl
    rw [e0] at hR
    simp -implicitDefEqProofs only [↓Zd, (Zp), if_true, if_false, Nat.reduceEqDiff, Int.reduceNeg, (HEx)]
    exact hR
  | some t =>
    have e0 : namesOf F i = t.2 := by unfold namesOf; rw [ht]
    rw [e0] at hR
    obtain ⟨j, rfl, hj, hFj⟩ := shAt_ix ht
    obtain ⟨b, vs, own, mv, nm, g1, g2, g3, g4, g5, g6, g7, g8⟩ := hF.get hFj
    obtain ⟨hnd, hl12⟩ := hF.ok.names j t.1 t.2 hFj
    have w1 : IntKind.i64.wrap (((j + 1 : Nat) : Int) - 1) = (j : Int) := by rw [wrap_i64 (by omega)]; omega
    have hkk : (0 : Int) ≤ (j : Int) ∧ (j : Int) < (F.length : Int) := by omega
    obtain ⟨a, c, rfl⟩ := g5.form
    simp -implicitDefEqProofs only [↓Zd, (Zp), if_true, if_false, Nat.reduceEqDiff, reduceCtorEq, cld2, (HEx), (REx), g1, g2, g4, w1, hkk]
    refine wloop_inv hmix (fun fuel env s1 => ∃ k : Nat, fuel = t.2.reverse.length - k ∧ k ≤ t.2.reverse.length ∧ env 8 = .int .i64 (k : Int) ∧ env 7 = .slice a t.2.reverse.length c ∧ env 2 = .int .i64 (x : Int) ∧ s1 = s ∧ ∀ i, i < k → t.2.reverse[i]? ≠ some x) t.2.reverse.length ⟨0, rfl, by omega, rfl, rfl, rfl, rfl, fun i hi => by omega⟩ ?_
    rintro fuel env s1 ⟨k, rfl, hk, e8, e7, e2, rfl, hno⟩
    have hkl12 : t.2.reverse.length ≤ 12 := by simp; exact hl12
    by_cases hkl : (k : Int) < (t.2.reverse.length : Int)
    case neg =>
      have hneg : slotL t.2 x = -1 := by
        have h1 : slotL t.2 x < 0 := (slotL_neg t.2 x).2 fun hm => by
          obtain ⟨i, hi⟩ := List.getElem?_of_mem (List.mem_reverse.2 hm)
          exact hno i (by have := (List.getElem?_eq_some_iff.1 hi).1; omega) hi
        have := slotL_ge t.2 x
        omega
      rw [hneg] at hR
      simp -implicitDefEqProofs only [↓Zd, (Zp), if_true, if_false, Nat.reduceEqDiff, Int.reduceNeg, (REx), e8, e7, hkl]
      exact hR
    obtain ⟨bb, vv, oo, eb, hbb, hgb⟩ := g5.get (k := k) (by omega)
    cases eb
    have hk1 : (0 : Int) ≤ (k : Int) ∧ (k : Int) < (t.2.reverse.length : Int) := by omega
    have hks : t.2.reverse[k]? = some (t.2.reverse[k]'(by omega)) := List.getElem?_eq_getElem _
    by_cases he : ((t.2.reverse[k]'(by omega) : Nat) : Int) = (x : Int)
    case pos =>
      have hx : slotL t.2 x = (k : Int) := slotL_of hnd (by rw [hks]; congr 1; omega)
      rw [hx] at hR
      simp -implicitDefEqProofs only [↓Zd, (Zp), if_true, if_false, Nat.reduceEqDiff, cld2, (HEx), (REx), e8, e7, e2, hkl, hk1, hbb, hgb, he]
      exact hR
    have wk : IntKind.i64.wrap ((k : Int) + 1) = ((k + 1 : Nat) : Int) := by rw [wrap_i64 (by omega)]; omega
    simp -implicitDefEqProofs only [↓Zd, (Zp), if_true, if_false, ne_eq, Nat.reduceEqDiff, cld2, (HEx), (REx), e8, e7, e2, hkl, hk1, hbb, hgb, he, wk]
    refine ⟨t.2.reverse.length - (k + 1), by omega, k + 1, rfl, by omega, rfl, fun i hi => ?_⟩
    by_cases e : i = k
    · subst e
      rw [hks]
      intro e2
      have := Option.some.inj e2
      exact he (by omega)
    · exact hno i (by omega)
theorem wch_copy_ints {e : Nat} {v : Value} {l : List Nat} {K : Value → St M → Prop} (he : s.at' e = some (.cells [] 3 true)) (hen : e < s.next) (hv : SlI s v l) (hl : l.length ≤ 1000000)
    (h : ∀ s' v', s.next ≤ s'.next → (∀ b, b < s.next → b ≠ e → s'.at' b = s.at' b) → SlC 3 1 s' v' (ints l) l.length → (∀ q n c, v' = .slice (some q) n c → (q.block = e ∨ s.next ≤ q.block) ∧ q.block < s'.next) → K v' s') :
    wch (capp Tryz.prog #[130, 130] #[.slice (some ⟨e, 0, none⟩) 0 0, v] s) K := by
  obtain ⟨ie, hie, h1, h2⟩ := infoInt
  have hcapp : capp Tryz.prog #[130, 130] #[.slice (some ⟨e, 0, none⟩) 0 0, v] s = capp3 Tryz.prog 3 ie (.slice (some ⟨e, 0, none⟩) 0 0) s (cmore ie.size v s) := app_eq underlying130 underlying130 hie
  have hvm : cmore ie.size v s = some (l.length, ints l) := by
    rcases hv with ⟨e1, e2, rfl⟩ | ⟨b, junk, rfl, hb, hlb⟩
    · rw [more_nil, e1, e2]
    · rw [more_at]
      simp only [hb, more2, h1]
      have : cut (ints l ++ junk) 0 (l.length * 1) = some (ints l) := by
        unfold cut
        rw [if_pos (by rw [List.length_append, ints_len]; omega), List.drop_zero, Nat.mul_one, ← ints_len l, List.take_left']
        rfl
      rw [this]; rfl
  by_cases h0 : l.length = 0
  · refine ⟨.slice (some ⟨e, 0, none⟩) 0 0, s, ?_, ?_⟩
    · rw [hcapp, hvm]
      unfold capp3
      simp only [ints_ok, Bool.true_eq_false, if_false, h0]
      rw [if_neg (by unfold UNK; omega)]
      simp
    · refine h s _ (Nat.le_refl _) (fun _ _ _ => rfl) ?_ (fun q n c e2 => by cases e2; exact ⟨.inl rfl, hen⟩)
      have : l = [] := List.eq_nil_of_length_eq_zero h0
      subst this
      exact .inr ⟨e, 0, rfl, .inr ⟨rfl, by unfold UNK; omega⟩, he, rfl⟩
  · obtain ⟨s', a1, a2, a3, a4⟩ := app_row (n := 0) (k := l.length) (old := []) hie ze3 (by rw [h1]; rfl) (by omega) hcapp h0 (by rw [h2]; omega) (ints_ok l) hvm (by rw [h1]; exact .inr ⟨e, 0, rfl, .inr ⟨rfl, by unfold UNK; omega⟩, he, rfl⟩)
    refine ⟨_, s', a1, h s' _ (by omega) (fun b hb hbe => a4 b (by omega) (fun q m c e2 => by cases e2; exact hbe)) ?_ (fun q n c e2 => by cases e2; exact ⟨.inr (Nat.le_refl _), by show s.next < s'.next; omega⟩)⟩
    rw [Nat.zero_add]
    exact .inr ⟨s.next, UNK, rfl, .inl rfl, by rw [a3]; rfl, by rw [ints_len, Nat.mul_one]⟩
theorem wch_app_intC {s : St M} {sl : Value} {l : List Nat} {x : Nat} {K : Value → St M → Prop} (hlen : l.length ≤ 1000000) (hsl : SlC 3 1 s sl (ints l) l.length) (hfr : ∀ q m c, sl = .slice (some q) m c → q.block < s.next)
    (h : ∀ s', s'.next = s.next + 2 → s'.at' (s.next + 1) = some (.cells (ints (l ++ [x])) 3 true) → (∀ b, b < s.next → (∀ q m c, sl = .slice (some q) m c → b ≠ q.block) → s'.at' b = s.at' b) → K (.slice (some ⟨s.next + 1, 0, none⟩) (l.length + 1) UNK) s') :
    wch (capp Tryz.prog #[130, 130] #[sl, .slice (some ⟨s.next, 0, none⟩) 1 1] (s.new (.cells [.int .i64 (x : Int)] 3 true))) K := by
  obtain ⟨ie, hie, h1, h2⟩ := infoInt
  have hcapp : capp Tryz.prog #[130, 130] #[sl, .slice (some ⟨s.next, 0, none⟩) 1 1] (s.new (.cells [.int .i64 (x : Int)] 3 true)) = capp3 Tryz.prog 3 ie sl (s.new (.cells [.int .i64 (x : Int)] 3 true)) (cmore ie.size (.slice (some ⟨s.next, 0, none⟩) 1 1) (s.new (.cells [.int .i64 (x : Int)] 3 true))) :=
    app_eq underlying130 underlying130 hie
  have hv : cmore ie.size (.slice (some ⟨s.next, 0, none⟩) 1 1) (s.new (.cells [.int .i64 (x : Int)] 3 true)) = some (1, [.int .i64 (x : Int)]) := by
    simp only [more_at, St.at_new, if_true, more2, h1]; rfl
  obtain ⟨s', a1, a2, a3, a4⟩ := app_row (n := l.length) (k := 1) hie ze3 (by rw [h1]; rfl) (by omega) hcapp (by omega) (by rw [h2]; omega) rfl hv (by rw [h1]; exact hsl.same fun q m c e => by rw [St.at_new, if_neg (by have := hfr q m c e; omega)])
  refine ⟨_, s', a1, h s' (by simp at a2; omega) (by simpa [ints] using a3) fun b hb hq => ?_⟩
  rw [a4 b (by simp; omega) hq, St.at_new, if_neg (by omega)]
theorem bShape (q : Int) (a : Option Addr) (n c : Nat) : cbuild Tryz.prog 159 #[(0, .int .i64 q), (1, .slice a n c)] = some (.agg #[.int .i64 q, .slice a n c]) := by kernel_rfl
theorem row0 : crow Tryz.prog 130 0 #[] = some (.cells [] 3 true) := by kernel_rfl
set_option maxHeartbeats 8000000 in
theorem rfadd_spec {i : Int} {x : Nat} (hF : RFAt lo s p F most O) (hlo : lo ≤ s.next) (hi : -9223372036854775808 ≤ i ∧ i ≤ 9223372036854775807)
    (hR : ∀ s' O', RFAt lo s' p (addF F most i x) most O' → Upd s s' O O' → (∀ i v, i < F.length → NmOf s p i v → NmOf s' p i v) → R (.int .i64 (addN F most i x : Int)) s') : CCalls Tryz.prog w0 87 #[.pointer (some ⟨p, 0, none⟩), .int .i64 i, .int .i64 (x : Int)] s R := by
  refine wfun2 hmix ok87 (l := [.pointer (some ⟨p, 0, none⟩), .int .i64 i, .int .i64 (x : Int)]) func87 rfl ntmps87 results87 (by simp) ?_
  simp -implicitDefEqProofs only [↓Zd, (Zp), if_true, if_false, Nat.reduceEqDiff, reduceCtorEq, co86]
  refine rfhas_spec hF ?_
  cases ht : shAt F i with
  | none =>
    have hf : addF F most i x = F := by unfold addF; rw [ht]
    have hg : addN F most i x = 0 := by unfold addN; rw [ht]
    rw [hf, hg] at hR
    simp -implicitDefEqProofs only [↓Zd, (Zp), if_true, if_false, Nat.reduceEqDiff, (HEx)]
    exact hR _ O hF .refl (fun _ _ _ h => h)
  | some t =>
    have hf : addF F most i x = if 12 ≤ t.2.length ∨ x ∈ t.2 then F else growF F most (t.1, x :: t.2) := by unfold addF; rw [ht]
    have hg : addN F most i x = if 12 ≤ t.2.length ∨ x ∈ t.2 then 0 else growN F most (t.1, x :: t.2) := by unfold addN; rw [ht]
    rw [hf, hg] at hR
    have hno : namesOf F i = t.2 := by unfold namesOf; rw [ht]
    obtain ⟨j, rfl, hj, hFj⟩ := shAt_ix ht
    obtain ⟨b, vs, own, mv, nm, g1, g2, g3, g4, g5, g6, g7, g8⟩ := hF.get hFj
    obtain ⟨hnd, hl12⟩ := hF.ok.names j t.1 t.2 hFj
    have hle := hF.le
    have w1 : IntKind.i64.wrap (((j + 1 : Nat) : Int) - 1) = (j : Int) := by rw [wrap_i64 (by omega)]; omega
    have hkk : (0 : Int) ≤ (j : Int) ∧ (j : Int) < (F.length : Int) := by omega
    obtain ⟨a, c, rfl⟩ := g5.form
    by_cases h12 : (12 : Int) ≤ (t.2.reverse.length : Int)
    · have h12' : 12 ≤ t.2.length := by simp at h12; omega
      rw [if_pos (.inl h12'), if_pos (.inl h12')] at hR
      simp -implicitDefEqProofs only [↓Zd, (Zp), if_true, if_false, Nat.reduceEqDiff, reduceCtorEq, cld2, (HEx), (REx), g1, g2, g4, w1, hkk, h12]
      exact hR _ O hF .refl (fun _ _ _ h => h)
    · have h12' : ¬ 12 ≤ t.2.length := by simp at h12; omega
      simp -implicitDefEqProofs only [↓Zd, (Zp), if_true, if_false, Nat.reduceEqDiff, reduceCtorEq, cld2, (HEx), (REx), g1, g2, g4, w1, hkk, h12, co102]
      refine rfslot_spec hF hi ?_
      rw [hno]
      by_cases hx : (0 : Int) ≤ slotL t.2 x
      · have hm : x ∈ t.2 := by
          by_cases hm : x ∈ t.2
          · exact hm
          · have := (slotL_neg t.2 x).2 hm; omega
        rw [if_pos (.inr hm), if_pos (.inr hm)] at hR
        simp -implicitDefEqProofs only [↓Zd, (Zp), if_true, if_false, Nat.reduceEqDiff, (HEx), hx]
        exact hR _ O hF .refl (fun _ _ _ h => h)
      · have hm : x ∉ t.2 := (slotL_neg t.2 x).1 (by omega)
        have hor : ¬ (12 ≤ t.2.length ∨ x ∈ t.2) := by rintro (g | g); exact h12' g; exact hm g
        rw [if_neg hor, if_neg hor] at hR
        have hpn := (hF.own p hF.pin).2
        have hbn := (hF.own b g7).2
        have hpne : ¬ p = s.next := by omega
        have hbne : ¬ b = s.next := by omega
        simp -implicitDefEqProofs only [↓Zd, (Zp), if_true, if_false, Nat.reduceEqDiff, reduceCtorEq, cld2, (HEx), (REx), hx, g1, g2, g4, w1, hkk, row0, hpne, hbne]
        have hv1 : SlI (s.new (.cells [] 3 true)) (.slice a t.2.reverse.length c) t.2.reverse := g5.same fun q n c e => by
          have := (hF.own _ (g6 q n c e)).2
          rw [St.at_new, if_neg (by omega)]
        refine wch_copy_ints (e := s.next) (by rw [St.at_new, if_pos rfl]) (by simp only [St.next_new]; omega) hv1 (by simp; omega) fun s2 v2 hn2 hk2 hs2 hf2 => ?_
        simp only [St.next_new] at hn2 hk2 hf2
        have hold2 : ∀ c, c < s.next → s2.at' c = s.at' c := fun c hc => by rw [hk2 c (by omega) (by omega), St.at_new, if_neg (by omega)]
        have g12 := (hold2 p hpn).trans g1
        have g22 := (hold2 b hbn).trans g2
        have hF2 : RFAt lo s2 p F most O := hF.same (by omega) fun c hc => hold2 c (hF.own c hc).2
        obtain ⟨a2, c2, rfl⟩ : ∃ a c, v2 = .slice a t.2.reverse.length c := by
          rcases hs2 with ⟨e1, _, rfl⟩ | ⟨b2, c2, rfl, _⟩
          · exact ⟨none, 0, by rw [e1]⟩
          · exact ⟨_, _, rfl⟩
        have g30 : vs[j * 2 + 0]? = some (.int .i64 ((t.1 : Nat) : Int)) := g3
        simp -implicitDefEqProofs only [↓Zd, (Zp), if_true, if_false, Nat.reduceEqDiff, reduceCtorEq, cld2, (HEx), (REx), g12, g22, g30, w1, hkk, rowInt, ord87]
        refine wch_app_intC (l := t.2.reverse) (x := x) (by simp; omega) hs2 (fun q m c e => (hf2 q m c e).2) fun s3 hn3 hb3 hk3 => ?_
        have hold3 : ∀ c, c < s.next → s3.at' c = s.at' c := fun c hc => by
          rw [hk3 c (by omega) (fun q m k e e2 => by rcases (hf2 q m k e).1 with h | h <;> omega), hold2 c hc]
        have g13 := (hold3 p hpn).trans g1
        have g23 := (hold3 b hbn).trans g2
        have hF3 : RFAt lo s3 p F most O := hF.same (by omega) fun c hc => hold3 c (hF.own c hc).2
        simp -implicitDefEqProofs only [↓Zd, (Zp), if_true, if_false, Nat.reduceEqDiff, Nat.reduceBEq, cld2, (HEx), (REx), g13, g23, g30, bShape, co110]
        have hl : (x :: t.2).reverse = t.2.reverse ++ [x] := List.reverse_cons
        refine rof_spec (l := x :: t.2) hF3 (by omega) (by rw [hl]; exact .inr ⟨s2.next + 1, [], by simp, by rw [hb3, List.append_nil], by rw [ints_len]; simp⟩) (fun q n c e => by cases e; exact ⟨by show lo ≤ s2.next + 1; omega, by show s2.next + 1 < s3.next; omega, fun hc => by have := (hF.own _ hc).2; simp only at this; omega⟩) (List.nodup_cons.2 ⟨hm, hnd⟩) (by simp only [List.length_cons]; omega) (fun y r e => by cases e; exact List.mem_of_getElem? hFj) fun s4 O4 hF4 hn4 hk4 ho4 hm4 => ?_
        simp -implicitDefEqProofs only [↓Zd, (Zp), if_true, if_false, Nat.reduceEqDiff, (HEx)]
        refine hR _ O4 hF4 ⟨by omega, fun c hc hno => by rw [hk4 c (by omega) hno, hold3 c hc], fun c hc => ?_⟩ (fun i v hi hv => hm4 i v hi (hv.same hF fun c hc => hold3 c (hF.own c hc).2))
        rcases ho4 c hc with h | h | ⟨q, n, k, e, rfl⟩
        · exact .inl h
        · exact .inr (by omega)
        · cases e
          exact .inr (by show s.next ≤ s2.next + 1; omega)
theorem moveL_zero (most : Nat) : ∀ (xs : List Nat) (F : List Sh), moveL most xs F 0 = (F, 0) := by
  intro xs
  induction xs with
  | nil => intro F; rfl
  | cons x r ih =>
    intro F
    have h0 : shAt F ((0 : Nat) : Int) = none := shAt_out (by omega)
    have h1 : addF F most ((0 : Nat) : Int) x = F := by unfold addF; rw [h0]
    have h2 : addN F most ((0 : Nat) : Int) x = 0 := by unfold addN; rw [h0]
    show moveL most r (addF F most ((0 : Nat) : Int) x) (addN F most ((0 : Nat) : Int) x) = _
    rw [h1, h2, ih]
set_option maxHeartbeats 8000000 in
theorem rfmove_spec {i : Int} {q : Nat} (hF : RFAt lo s p F most O) (hlo : lo ≤ s.next) (hi : -9223372036854775808 ≤ i ∧ i ≤ 9223372036854775807)
    (hR : ∀ s' O', RFAt lo s' p (moveF F most i q) most O' → Upd s s' O O' → R (.int .i64 (moveN F most i q : Int)) s') : CCalls Tryz.prog w0 78 #[.pointer (some ⟨p, 0, none⟩), .int .i64 i, .int .i64 (q : Int)] s R := by
  refine wfun2 hmix ok78 (l := [.pointer (some ⟨p, 0, none⟩), .int .i64 i, .int .i64 (q : Int)]) func78 rfl ntmps78 results78 (by simp) ?_
  simp -implicitDefEqProofs only [↓Zd, (Zp), if_true, if_false, Nat.reduceEqDiff, reduceCtorEq, co86]
  refine rfhas_spec hF ?_
  cases ht : shAt F i with
  | none =>
    have hf : moveF F most i q = F := by unfold moveF; rw [ht]
    have hg : moveN F most i q = 0 := by unfold moveN; rw [ht]
    rw [hf, hg] at hR
    simp -implicitDefEqProofs only [↓Zd, (Zp), if_true, if_false, Nat.reduceEqDiff, (HEx)]
    exact hR _ O hF .refl
  | some t =>
    have hf : moveF F most i q = (moveL most t.2.reverse (growF F most (q, [])) (growN F most (q, []))).1 := by unfold moveF; rw [ht]
    have hg : moveN F most i q = (moveL most t.2.reverse (growF F most (q, [])) (growN F most (q, []))).2 := by unfold moveN; rw [ht]
    rw [hf, hg] at hR
    obtain ⟨j, rfl, hj, hFj⟩ := shAt_ix ht
    obtain ⟨b, vs, own, mv, nm, g1, g2, g3, g4, g5, g6, g7, g8⟩ := hF.get hFj
    obtain ⟨hnd, hl12⟩ := hF.ok.names j t.1 t.2 hFj
    have hle := hF.le
    have w1 : IntKind.i64.wrap (((j + 1 : Nat) : Int) - 1) = (j : Int) := by rw [wrap_i64 (by omega)]; omega
    have hkk : (0 : Int) ≤ (j : Int) ∧ (j : Int) < (F.length : Int) := by omega
    obtain ⟨a, c, rfl⟩ := g5.form
    simp -implicitDefEqProofs only [↓Zd, (Zp), if_true, if_false, Nat.reduceEqDiff, reduceCtorEq, cld2, (HEx), (REx), g1, g2, g4, w1, hkk, co74]
    refine rroot_spec hF hlo fun s1 O1 hF1 hU1 hm1 => ?_
    have hn1 := hU1.next
    have hg150 := growN_le (q, []) hle
    have hl12r : t.2.reverse.length ≤ 12 := by simp; exact hl12
    simp -implicitDefEqProofs only [↓Zd, (Zp), if_true, if_false, Nat.reduceEqDiff, (HEx)]
    refine wloop_inv hmix (fun fuel env s3 => ∃ (k u : Nat) (F3 : List Sh) (O3 : Nat → Prop), fuel = t.2.reverse.length - k ∧ k ≤ t.2.reverse.length ∧ env 9 = .int .i64 (k : Int) ∧ env 8 = .int .i64 (u : Int) ∧ env 7 = .slice a t.2.reverse.length c ∧ env 0 = .pointer (some ⟨p, 0, none⟩) ∧ u ≤ 150 ∧ RFAt lo s3 p F3 most O3 ∧ Upd s s3 O O3 ∧ NmOf s3 p j (.slice a t.2.reverse.length c) ∧ F3[j]? = some t ∧
      moveL most (t.2.reverse.drop k) F3 u = moveL most t.2.reverse (growF F most (q, [])) (growN F most (q, []))) t.2.reverse.length ⟨0, growN F most (q, []), growF F most (q, []), O1, rfl, by omega, rfl, rfl, rfl, rfl, hg150, hF1, hU1, hm1 _ _ hj g8, growF_pre hFj, rfl⟩ ?_
    rintro fuel env s3 ⟨k, u, F3, O3, rfl, hk, e9, e8, e7, e0, hu, hF3, hU3, hnm3, hFj3, hmv⟩
    have hfin : t.2.reverse.length ≤ k ∨ u = 0 → R (.int .i64 (u : Int)) s3 := fun hd => by
      have hmv2 : moveL most (t.2.reverse.drop k) F3 u = (F3, u) := by
        rcases hd with h | h
        · rw [List.drop_eq_nil_of_le h]; rfl
        · rw [h]; exact moveL_zero _ _ _
      rw [hmv2] at hmv
      rw [← hmv] at hR
      exact hR _ O3 hF3 hU3
    by_cases hkl : (k : Int) < (t.2.reverse.length : Int)
    · by_cases hu0 : (0 : Int) < (u : Int)
      · obtain ⟨gs, _⟩ := hF3.nm hFj3 hnm3
        obtain ⟨bb, vv, oo, eb, hbb, hgb⟩ := gs.get (k := k) (by omega)
        cases eb
        have hk1 : (0 : Int) ≤ (k : Int) ∧ (k : Int) < (t.2.reverse.length : Int) := by omega
        have wk : IntKind.i64.wrap ((k : Int) + 1) = ((k + 1 : Nat) : Int) := by rw [wrap_i64 (by omega)]; omega
        simp -implicitDefEqProofs only [↓Zd, (Zp), if_true, if_false, Nat.reduceEqDiff, reduceCtorEq, cld2, (HEx), (REx), e9, e8, e7, e0, hkl, hu0, hk1, hbb, hgb, co87]
        refine rfadd_spec (i := (u : Int)) hF3 (by have := hU3.next; omega) (by omega) fun s4 O4 hF4 hU4 hm4 => ?_
        have hle3 := hF3.le
        simp -implicitDefEqProofs only [↓Zd, (Zp), if_true, if_false, Nat.reduceEqDiff, reduceCtorEq, (HEx), e9, e7, e0, wk]
        refine ⟨t.2.reverse.length - (k + 1), by omega, k + 1, addN F3 most (u : Int) (t.2.reverse[k]'(by omega)), addF F3 most (u : Int) (t.2.reverse[k]'(by omega)), O4, rfl, by omega, rfl, rfl, addN_le _ _ hle3, hF4, hU3.trans hU4, hm4 _ _ (List.getElem?_eq_some_iff.1 hFj3).1 hnm3, addF_get hFj3, ?_⟩
        rw [← hmv]
        have : t.2.reverse.drop k = t.2.reverse[k]'(by omega) :: t.2.reverse.drop (k + 1) := List.drop_eq_getElem_cons (by omega)
        rw [this]; rfl
      · simp -implicitDefEqProofs only [↓Zd, (Zp), if_true, if_false, Nat.reduceEqDiff, (REx), e9, e8, e7, hkl, hu0]
        exact hfin (.inr (by omega))
    · simp -implicitDefEqProofs only [↓Zd, (Zp), if_true, if_false, Nat.reduceEqDiff, (REx), e9, e8, e7, hkl]
      exact hfin (.inl (by omega))
end
end Go.Proofs.Tryz
