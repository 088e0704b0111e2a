/- Sites: the walks of value, hit and holds, and of rows laid anew. A lemma file: no statement of its own. -/
import Derived.Test.YtnkichmojbanlaaGreatqFwF
import Derived.Test.YtnkichmojbanlaaGreatqST4
set_option linter.unusedSimpArgs false
set_option linter.unusedVariables false
set_option linter.unusedSectionVars false
namespace Go.Proofs.Tryz
open Go.Cs
open Go.RowKit (Below)
set_option maxRecDepth 100000
attribute [local irreducible] CCalls WLoop WScope CRound WRange
section
variable {M : Type} [Mem M] {w0 : World} {s : St M} {R : Value → St M → Prop} {lo p N : Nat} {H : Hp} {O P : Nat → Prop} {tg : Nat → Nat} {pf pn : Nat} {sl0 : Value} {bs : List Nat}
theorem gotV_z (o : Option V3) : gotV o = .tuple #[.agg #[.int .i64 (o.getD z3).1, .int .i64 (o.getD z3).2.1, .string (o.getD z3).2.2], .bool o.isSome] := by
  cases o <;> rfl
set_option maxHeartbeats 4000000 in
theorem sval_spec (h : HpIn lo s p H N P tg pf pn sl0 bs) {c : Nat → List Value} {n eb i : Nat} {junk : List Value} {e : Ent} {dl : Value} {o : Int} (hc : ∀ i, (c i).length = 5) (hb : s.at' eb = some (.cells (rows c n ++ junk) 51 true)) (hbn : eb < s.next) (hi : i < n) (hci : c i = entC e dl)
    (ho : -9223372036854775808 ≤ o ∧ o ≤ 9223372036854775807) (hh : -9223372036854775808 ≤ e.holder ∧ e.holder ≤ 9223372036854775807) (hsl : -9223372036854775808 ≤ e.slot ∧ e.slot ≤ 9223372036854775807) (hR : ∀ s', s.le s' → R (vOf (valE H e o)) s') :
    CCalls Tryz.prog w0 55 #[.pointer (some ⟨p, 0, none⟩), .pointer (some ⟨eb, i * 5, none⟩), .int .i64 o] s R := by
  refine wfun2 hmix ok55 (l := [.pointer (some ⟨p, 0, none⟩), .pointer (some ⟨eb, i * 5, none⟩), .int .i64 o]) func55 rfl ntmps55 results55 (by simp) ?_
  have g1 := rows_get hc junk hi (j := 1) (by omega)
  have g2 := rows_get hc junk hi (j := 2) (by omega)
  rw [hci] at g1 g2
  simp only [entC, List.getElem?_cons_zero, List.getElem?_cons_succ] at g1 g2
  have hne : ¬ eb = s.next := by omega
  have l1 : s.le (s.new (.cells [.int .i64 0, .int .i64 0, .string ⟨#[]⟩] 36 true)) := St.le_new (St.le_refl _)
  unfold valE vOf vA at hR
  by_cases h1 : 0 < e.holder
  · simp only [if_pos h1] at hR
    have h2 : ¬ e.holder < 0 := by omega
    simp -implicitDefEqProofs only [↓Zd, (Zp), if_true, if_false, Nat.reduceEqDiff, reduceCtorEq, Value.cells, cld2, (HEx), (STx), hb, hne, g1, g2, h1, h2, co47]
    refine hslot_spec (h.le l1) hh hsl fun s2 hs2 => ?_
    have hn2 := hs2.1
    have c1 : s2.at' s.next = some (.cells [.int .i64 0, .int .i64 0, .string ⟨#[]⟩] 36 true) := by rw [hs2.2 _ (by simp only [St.next_new]; omega), St.at_new, if_pos rfl]
    simp only [St.next_new] at hn2
    have hne2 : ¬ s.next = s2.next := by omega
    rw [gotV_z]
    simp -implicitDefEqProofs only [↓Zd, (Zp), if_true, if_false, Nat.reduceEqDiff, Nat.reduceAdd, Nat.reduceLeDiff, okPart, Value.cells, cut, okCell, cld2, (HEx), c1, hne2]
    exact hR _ (St.le_put (St.le_put (St.le_new (St.le_trans l1 hs2)) (by omega)) (by omega))
  · by_cases h2 : e.holder < 0
    · simp only [if_neg h1, if_pos h2, z3] at hR
      simp -implicitDefEqProofs only [↓Zd, (Zp), if_true, if_false, Nat.reduceEqDiff, Nat.reduceAdd, Nat.reduceLeDiff, okPart, Value.cells, cut, okCell, cld2, (HEx), (STx), hb, hne, g1, h1, h2]
      exact hR _ (by repeat (first | exact St.le_refl _ | assumption | refine St.le_new ?_ | refine St.le_put ?_ (by first | omega | (simp only [St.next_new, St.next_put, St.next_kill]; omega)) | refine St.le_trans ?_ (by assumption)))
    · simp only [if_neg h1, if_neg h2] at hR
      simp -implicitDefEqProofs only [↓Zd, (Zp), if_true, if_false, Nat.reduceEqDiff, reduceCtorEq, Value.cells, cld2, (HEx), (STx), hb, hne, g1, g2, h1, h2, co47]
      refine hslot_spec (h.le l1) ho hsl fun s2 hs2 => ?_
      have hn2 := hs2.1
      have c1 : s2.at' s.next = some (.cells [.int .i64 0, .int .i64 0, .string ⟨#[]⟩] 36 true) := by rw [hs2.2 _ (by simp only [St.next_new]; omega), St.at_new, if_pos rfl]
      simp only [St.next_new] at hn2
      have hne2 : ¬ s.next = s2.next := by omega
      rw [gotV_z]
      simp -implicitDefEqProofs only [↓Zd, (Zp), if_true, if_false, Nat.reduceEqDiff, Nat.reduceAdd, Nat.reduceLeDiff, okPart, Value.cells, cut, okCell, cld2, (HEx), c1, hne2]
      exact hR _ (St.le_put (St.le_put (St.le_new (St.le_trans l1 hs2)) (by omega)) (by omega))
theorem getD_at {α : Type} {l : List α} {k : Nat} {d : α} (h : k < l.length) : l.getD k d = l[k] := by
  rw [List.getD_eq_getElem?_getD, List.getElem?_eq_getElem h]; rfl
theorem hitI_of {es : List Ent} {sh : Int} {j : Nat} (hj : j < es.length) (h1 : decide (((es.getD j e0).shape : Int) = sh) = true) (h2 : ∀ k, k < j → decide (((es.getD k e0).shape : Int) = sh) = false) : hitI es sh = some j := by
  unfold hitI
  rw [List.findIdx?_eq_some_iff_getElem]
  rw [getD_at hj] at h1
  exact ⟨hj, h1, fun k hk => by have := h2 k hk; rw [getD_at (by omega)] at this; rw [this]; decide⟩
theorem hitI_no {es : List Ent} {sh : Int} (h : ∀ k, k < es.length → decide (((es.getD k e0).shape : Int) = sh) = false) : hitI es sh = none := by
  unfold hitI
  rw [List.findIdx?_eq_none_iff]
  intro e he
  obtain ⟨k, hk, rfl⟩ := List.getElem_of_mem he
  have := h k hk
  rwa [getD_at hk] at this
theorem hitc_spec {e : Ent} {dl : Value} {sh : Int} {ib : Nat} (hb : s.at' ib = some (.cells [.int .i64 sh] 3 true)) (hbn : ib < s.next) (hR : ∀ s', s.le s' → R (.bool (decide ((e.shape : Int) = sh))) s') :
    CCalls Tryz.prog w0 104 #[.agg (entC e dl).toArray, .pointer (some ⟨ib, 0, none⟩)] s R := by
  refine wfun2 hmix ok104 (l := [.agg (entC e dl).toArray, .pointer (some ⟨ib, 0, none⟩)]) func104 rfl ntmps104 results104 (by simp) ?_
  have hne : ¬ ib = s.next := by omega
  simp only [entC]
  by_cases h1 : (e.shape : Int) = sh
  · rw [decide_eq_true h1] at hR
    simp -implicitDefEqProofs only [↓Zd, (Zp), if_true, if_false, Nat.reduceEqDiff, okPart, Value.cells, cld2, (HEx), (STx), hb, hne, h1]
    exact hR _ (by repeat (first | exact St.le_refl _ | assumption | refine St.le_new ?_ | refine St.le_put ?_ (by first | omega | (simp only [St.next_new, St.next_put, St.next_kill]; omega)) | refine St.le_trans ?_ (by assumption)))
  · rw [decide_eq_false h1] at hR
    simp -implicitDefEqProofs only [↓Zd, (Zp), if_true, if_false, Nat.reduceEqDiff, okPart, Value.cells, cld2, (HEx), (STx), hb, hne, h1]
    exact hR _ (by repeat (first | exact St.le_refl _ | assumption | refine St.le_new ?_ | refine St.le_put ?_ (by first | omega | (simp only [St.next_new, St.next_put, St.next_kill]; omega)) | refine St.le_trans ?_ (by assumption)))
theorem keepc_spec {e u : Ent} {dl ul : Value} {ib : Nat} (hb : s.at' ib = some (.cells (entC u ul) 51 true)) (hbn : ib < s.next) (hR : ∀ s', s.le s' → R (.bool (decide ((e.shape : Int) = (u.shape : Int)))) s') :
    CCalls Tryz.prog w0 107 #[.agg (entC e dl).toArray, .pointer (some ⟨ib, 0, none⟩)] s R := by
  refine wfun2 hmix ok107 (l := [.agg (entC e dl).toArray, .pointer (some ⟨ib, 0, none⟩)]) func107 rfl ntmps107 results107 (by simp) ?_
  have hne : ¬ ib = s.next := by omega
  simp only [entC] at hb ⊢
  by_cases h1 : (e.shape : Int) = (u.shape : Int)
  · rw [decide_eq_true h1] at hR
    simp -implicitDefEqProofs only [↓Zd, (Zp), if_true, if_false, Nat.reduceEqDiff, okPart, Value.cells, cld2, (HEx), (STx), hb, hne, h1]
    exact hR _ (by repeat (first | exact St.le_refl _ | assumption | refine St.le_new ?_ | refine St.le_put ?_ (by first | omega | (simp only [St.next_new, St.next_put, St.next_kill]; omega)) | refine St.le_trans ?_ (by assumption)))
  · rw [decide_eq_false h1] at hR
    simp -implicitDefEqProofs only [↓Zd, (Zp), if_true, if_false, Nat.reduceEqDiff, okPart, Value.cells, cld2, (HEx), (STx), hb, hne, h1]
    exact hR _ (by repeat (first | exact St.le_refl _ | assumption | refine St.le_new ?_ | refine St.le_put ?_ (by first | omega | (simp only [St.next_new, St.next_put, St.next_kill]; omega)) | refine St.le_trans ?_ (by assumption)))
set_option maxHeartbeats 4000000 in
theorem shit_spec {b n j : Nat} {c : Nat → List Value} {z : Sit} {v : Value} {sh : Int} (hb : s.at' b = some (.cells (rows c n) 96 true)) (hbn : b < s.next) (hc : ∀ i, (c i).length = 5) (hj : j < n) (hcj : c j = sitC z v) (hE : EntsAt PY s O v z.es) (hO : ∀ a, O a → a < s.next) (hl : z.es.length ≤ 1000)
    (hno : hitI z.es sh = none → ∀ s', s.le s' → R (.pointer none) s') (hyes : ∀ (i eb : Nat), hitI z.es sh = some i → i < z.es.length → v = .slice (some ⟨eb, 0, none⟩) z.es.length UNK → ∀ s', s.le s' → R (.pointer (some ⟨eb, i * 5, none⟩)) s') :
    CCalls Tryz.prog w0 53 #[.pointer (some ⟨b, j * 5, none⟩), .int .i64 sh] s R := by
  refine wfun2 hmix ok53 (l := [.pointer (some ⟨b, j * 5, none⟩), .int .i64 sh]) func53 rfl ntmps53 results53 (by simp) ?_
  have g4 := rows_get0 hc hj (j := 4) (by omega)
  rw [hcj] at g4
  simp only [sitC, List.getElem?_cons_zero, List.getElem?_cons_succ] at g4
  have hne : ¬ b = s.next := by omega
  have l1 : s.le (s.new (.cells [.int .i64 sh] 3 true)) := St.le_new (St.le_refl _)
  obtain ⟨dl, h1, h2, h3, h4⟩ := hE
  rcases h1 with ⟨g1, _, rfl⟩ | ⟨eb, junk, rfl, g2, g3⟩
  · simp -implicitDefEqProofs only [↓Zd, (Zp), if_true, if_false, Nat.reduceEqDiff, reduceCtorEq, okPart, Value.cells, cld2, (HEx), (STx), hb, hne, g4, co103]
    refine ixe0_spec ?_
    simp -implicitDefEqProofs only [↓Zd, (Zp), if_true, if_false, Nat.reduceEqDiff, Int.reduceNeg, Int.reduceLT, (HEx)]
    exact hno (hitI_no fun k hk => by omega) _ l1
  · have hebn : eb < s.next := hO _ (h2 _ _ _ rfl)
    have hebne : ¬ eb = s.next := by omega
    simp -implicitDefEqProofs only [↓Zd, (Zp), if_true, if_false, Nat.reduceEqDiff, reduceCtorEq, okPart, Value.cells, cld2, (HEx), (STx), hb, hne, g4, co103]
    refine ixe_spec (c := fun j => entC (z.es.getD j e0) (dl j)) (junk := junk) (q := fun j => decide (((z.es.getD j e0).shape : Int) = sh)) co104 (fun _ => rfl) (by rw [St.at_new, if_neg hebne]; exact g2) (by simp only [St.next_new]; omega) (by omega) (fun s' i R' hs' hi hR' => ?_) (fun s2 i hs2 hi hq hq2 => ?_) (fun s2 hs2 hq => ?_)
    · refine hitc_spec (ib := s.next) ?_ ?_ hR'
      · rw [hs'.2 _ (by simp only [St.next_new]; omega), St.at_new, if_pos rfl]
      · have := hs'.1; simp only [St.next_new] at this; omega
    · have hlt : ¬ (i : Int) < 0 := by omega
      have hii : (0 : Int) ≤ (i : Int) ∧ (i : Int) < (z.es.length : Int) := by omega
      have hb2 : s2.at' b = some (.cells (rows c n) 96 true) := by rw [hs2.2 _ (by simp only [St.next_new]; omega), St.at_new, if_neg hne]; exact hb
      simp -implicitDefEqProofs only [↓Zd, (Zp), if_true, if_false, Nat.reduceEqDiff, reduceCtorEq, cld2, (HEx), (STx), hb2, g4, hlt, hii]
      exact hyes i eb (hitI_of hi hq hq2) hi rfl _ (St.le_trans l1 hs2)
    · simp -implicitDefEqProofs only [↓Zd, (Zp), if_true, if_false, Nat.reduceEqDiff, Int.reduceNeg, Int.reduceLT, (HEx)]
      exact hno (hitI_no hq) _ (St.le_trans l1 hs2)
theorem holdc_spec (h : HpIn lo s p H N P tg pf pn sl0 bs) {d : Nat × Nat} {ib : Nat} (hb : s.at' ib = some (.cells [.pointer (some ⟨p, 0, none⟩)] 23 true)) (hbn : ib < s.next) (hd : d.1 ≤ 9223372036854775807) (hR : ∀ s', s.le s' → R (.bool (decide (epochV H d.1 ≠ (d.2 : Int)))) s') :
    CCalls Tryz.prog w0 106 #[.agg (depC d).toArray, .pointer (some ⟨ib, 0, none⟩)] s R := by
  refine wfun2 hmix ok106 (l := [.agg (depC d).toArray, .pointer (some ⟨ib, 0, none⟩)]) func106 rfl ntmps106 results106 (by simp) ?_
  have hne : ¬ ib = s.next := by omega
  simp only [depC]
  have l1 : s.le (s.new (.cells [.int .i64 (d.1 : Int), .int .i64 (d.2 : Int)] 99 true)) := St.le_new (St.le_refl _)
  simp -implicitDefEqProofs only [↓Zd, (Zp), if_true, if_false, Nat.reduceEqDiff, okPart, Value.cells, cld2, (HEx), (STx), hb, hne, ord106, co45]
  refine hepoch_spec (i := (d.1 : Int)) (h.le l1) (by omega) ?_
  by_cases h1 : epochV H d.1 = (d.2 : Int)
  · rw [decide_eq_false (fun hc => hc h1)] at hR
    simp -implicitDefEqProofs only [↓Zd, (Zp), if_true, if_false, Nat.reduceEqDiff, Nat.reduceBEq, cld2, (HEx), h1]
    exact hR _ (by repeat (first | exact St.le_refl _ | assumption | refine St.le_new ?_ | refine St.le_put ?_ (by first | omega | (simp only [St.next_new, St.next_put, St.next_kill]; omega)) | refine St.le_trans ?_ (by assumption)))
  · rw [decide_eq_true h1] at hR
    simp -implicitDefEqProofs only [↓Zd, (Zp), if_true, if_false, Nat.reduceEqDiff, Nat.reduceBEq, cld2, (HEx), h1]
    exact hR _ (by repeat (first | exact St.le_refl _ | assumption | refine St.le_new ?_ | refine St.le_put ?_ (by first | omega | (simp only [St.next_new, St.next_put, St.next_kill]; omega)) | refine St.le_trans ?_ (by assumption)))
theorem holds_all {H : Hp} {e : Ent} (h : ∀ k, k < e.deps.length → decide (epochV H (e.deps.getD k (0, 0)).1 ≠ ((e.deps.getD k (0, 0)).2 : Int)) = false) : holdsE H e = true := by
  unfold holdsE
  rw [List.all_eq_true]
  intro d hd
  obtain ⟨k, hk, rfl⟩ := List.getElem_of_mem hd
  have := h k hk
  rw [getD_at hk] at this
  simpa using this
theorem holds_not {H : Hp} {e : Ent} {k : Nat} (hk : k < e.deps.length) (h : decide (epochV H (e.deps.getD k (0, 0)).1 ≠ ((e.deps.getD k (0, 0)).2 : Int)) = true) : holdsE H e = false := by
  cases hh : holdsE H e with
  | false => rfl
  | true =>
    unfold holdsE at hh
    rw [List.all_eq_true] at hh
    rw [getD_at hk] at h
    have := hh _ (List.getElem_mem hk)
    simp only [decide_eq_true_eq] at this h
    exact absurd this h
set_option maxHeartbeats 4000000 in
theorem sholds_spec (h : HpIn lo s p H N P tg pf pn sl0 bs) {c : Nat → List Value} {n eb i : Nat} {junk : List Value} {e : Ent} {dl : Value} (hc : ∀ i, (c i).length = 5) (hb : s.at' eb = some (.cells (rows c n ++ junk) 51 true)) (hbn : eb < s.next) (hi : i < n) (hci : c i = entC e dl)
    (hD : DepsAt PY s O dl e.deps) (hO : ∀ a, O a → a < s.next) (hl : e.deps.length ≤ 1000) (hd : ∀ d ∈ e.deps, d.1 ≤ 9223372036854775807) (hR : ∀ s', s.le s' → R (.bool (holdsE H e)) s') :
    CCalls Tryz.prog w0 54 #[.pointer (some ⟨p, 0, none⟩), .pointer (some ⟨eb, i * 5, none⟩)] s R := by
  refine wfun2 hmix ok54 (l := [.pointer (some ⟨p, 0, none⟩), .pointer (some ⟨eb, i * 5, none⟩)]) func54 rfl ntmps54 results54 (by simp) ?_
  have g4 := rows_get hc junk hi (j := 4) (by omega)
  rw [hci] at g4
  simp only [entC, List.getElem?_cons_zero, List.getElem?_cons_succ] at g4
  have hne : ¬ eb = s.next := by omega
  have l1 : s.le (s.new (.cells [.pointer (some ⟨p, 0, none⟩)] 23 true)) := St.le_new (St.le_refl _)
  obtain ⟨h1, h2, _⟩ := hD
  simp -implicitDefEqProofs only [↓Zd, (Zp), if_true, if_false, Nat.reduceEqDiff, okPart, Value.cells, cld2, (HEx), (STx), hb, hne, g4, co105]
  refine wfun2 hmix ok105 (l := [dl, .func (.func 106) #[] #[.pointer (some ⟨s.next, 0, none⟩)]]) func105 rfl ntmps105 results105 (by simp) ?_
  rcases h1 with ⟨g1, _, rfl⟩ | ⟨db, junk2, rfl, g2, g3⟩
  · rw [holds_all fun k hk => by omega] at hR
    simp -implicitDefEqProofs only [↓Zd, (Zp), if_true, if_false, Nat.reduceEqDiff, reduceCtorEq, co139]
    refine ixd0_spec ?_
    simp -implicitDefEqProofs only [↓Zd, (Zp), if_true, if_false, Nat.reduceEqDiff, Int.reduceNeg, Int.reduceLE, (HEx)]
    exact hR _ l1
  · have hdbn : db < s.next := hO _ (h2 _ _ _ rfl)
    have hdbne : ¬ db = s.next := by omega
    simp -implicitDefEqProofs only [↓Zd, (Zp), if_true, if_false, Nat.reduceEqDiff, reduceCtorEq, co139]
    refine ixd_spec (c := fun j => depC (e.deps.getD j (0, 0))) (junk := junk2) (q := fun j => decide (epochV H (e.deps.getD j (0, 0)).1 ≠ ((e.deps.getD j (0, 0)).2 : Int))) co106 (fun _ => rfl) (by rw [St.at_new, if_neg hdbne]; exact g2) (by simp only [St.next_new]; omega) (by omega) (fun s' i R' hs' hi hR' => ?_) (fun s2 i hs2 hi hq hq2 => ?_) (fun s2 hs2 hq => ?_)
    · refine holdc_spec (h.le (St.le_trans l1 hs')) (ib := s.next) ?_ ?_ ?_ hR'
      · rw [hs'.2 _ (by simp only [St.next_new]; omega), St.at_new, if_pos rfl]
      · have := hs'.1; simp only [St.next_new] at this; omega
      · rw [getD_at hi]; exact hd _ (List.getElem_mem hi)
    · rw [holds_not hi hq] at hR
      have hlt : (0 : Int) ≤ (i : Int) := by omega
      simp -implicitDefEqProofs only [↓Zd, (Zp), if_true, if_false, Nat.reduceEqDiff, (HEx), hlt]
      exact hR _ (St.le_trans l1 hs2)
    · rw [holds_all hq] at hR
      simp -implicitDefEqProofs only [↓Zd, (Zp), if_true, if_false, Nat.reduceEqDiff, Int.reduceNeg, Int.reduceLE, (HEx)]
      exact hR _ (St.le_trans l1 hs2)
end
end Go.Proofs.Tryz
