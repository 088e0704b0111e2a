/- What setting a property changes, in plain Lean. A lemma file: no statement of its own. -/
import Derived.Test.YtakgfhdaimeafaaGreatqRN1
import Derived.Test.YtakgfhdaimeafaaGreatqW12
set_option linter.unusedSimpArgs false
set_option linter.unusedVariables false
set_option linter.unusedSectionVars false
namespace Go.Proofs.Tryz
open Go.Cs
set_option maxRecDepth 100000
def z3 : V3 := (0, 0, ⟨#[]⟩)
theorem gotV_eq (o : Option V3) : gotV o = .tuple #[.agg #[.int .i64 (o.getD z3).1, .int .i64 (o.getD z3).2.1, .string (o.getD z3).2.2], .bool o.isSome] := by
  cases o <;> rfl
def ownV (H : Hp) (i : Int) (x : ByteArray) : Option V3 := (obAt H i).bind fun o => getP o.L x
theorem getP_set (L : List (ByteArray × V3)) (x y : ByteArray) (v : V3) : getP (setP L x v) y = if y = x then some v else getP L y := by
  induction L with
  | nil =>
    simp only [setP, getP]
    by_cases e : x = y
    · rw [if_pos e, if_pos e.symm]
    · rw [if_neg e, if_neg (fun h => e h.symm)]
  | cons p L ih =>
    obtain ⟨z, w⟩ := p
    unfold setP
    by_cases e : z = x
    · subst e
      rw [if_pos rfl]
      simp only [getP]
      by_cases e2 : z = y
      · rw [if_pos e2, if_pos e2.symm]
      · rw [if_neg e2, if_neg (fun h => e2 h.symm), if_neg e2]
    · rw [if_neg e]
      simp only [getP]
      by_cases e2 : z = y
      · subst e2
        rw [if_pos rfl, if_neg e, if_pos rfl]
      · rw [if_neg e2, if_neg e2]
        exact ih
theorem set_at {H : Hp} {i : Int} {x : ByteArray} {v : V3} {o : Ob} (ho : obAt H i = some o) (he : setE H i x = 0) : ∃ o', obAt (setH H i x v) i = some o' ∧ o'.L = setP o.L x v := by
  obtain ⟨j, rfl, hj, hoj⟩ := obAt_some ho
  have key : ∀ (H' : Hp) (u : Ob), H'.obs = H.obs → obAt (putO H' ((j + 1 : Nat) : Int) u) ((j + 1 : Nat) : Int) = some u := fun H' u e => by
    rw [obAt_get]
    exact putO_at (o := u) rfl (by rw [e]; exact hj)
  unfold setE at he
  unfold setH
  rw [ho] at he ⊢
  simp only at he ⊢
  split
  · exact ⟨_, key _ _ rfl, rfl⟩
  · rename_i h1
    rw [if_neg h1] at he
    split
    · rename_i h2; rw [if_pos h2] at he; omega
    · split
      · exact ⟨_, key _ _ rfl, rfl⟩
      · exact ⟨_, key _ _ (next_obs _ _ _).1, rfl⟩
theorem set_err {H : Hp} {i : Int} {x : ByteArray} {v : V3} (he : setE H i x ≠ 0) : setH H i x v = H := by
  unfold setE at he
  unfold setH
  cases ho : obAt H i with
  | none => rfl
  | some o =>
    rw [ho] at he
    simp only at he ⊢
    split
    · rename_i h1; rw [if_pos h1] at he; exact absurd rfl he
    · rename_i h1
      rw [if_neg h1] at he
      split
      · rfl
      · rename_i h2; rw [if_neg h2] at he; exact absurd rfl he
theorem set_else {H : Hp} {i k : Int} {x : ByteArray} {v : V3} (hik : k ≠ i) : obAt (setH H i x v) k = obAt H k := by
  have key : ∀ (H' : Hp) (u : Ob), H'.obs = H.obs → (∃ o, obAt H i = some o) → obAt (putO H' i u) k = obAt H k := fun H' u e ⟨o, ho⟩ => by
    obtain ⟨j, rfl, hj, hoj⟩ := obAt_some ho
    unfold obAt putO
    simp only [e]
    split
    · rw [List.getElem?_set, if_neg (by omega)]
    · rfl
  unfold setH
  cases ho : obAt H i with
  | none => rfl
  | some o =>
    simp only
    split
    · exact key _ _ rfl ⟨o, ho⟩
    · split
      · rfl
      · split
        · exact key _ _ rfl ⟨o, ho⟩
        · exact key _ _ (next_obs _ _ _).1 ⟨o, ho⟩
theorem set_own {H : Hp} {i k : Int} {x y : ByteArray} {v : V3} (h : ¬ (i = k ∧ x = y)) : ownV (setH H i x v) k y = ownV H k y := by
  unfold ownV
  by_cases hik : k = i
  · subst hik
    by_cases he : setE H k x = 0
    · cases ho : obAt H k with
      | none => rw [show setH H k x v = H by unfold setH; rw [ho], ho]
      | some o =>
        obtain ⟨o', h1, h2⟩ := set_at (v := v) ho he
        rw [h1]
        simp only [Option.bind_some]
        rw [h2, getP_set, if_neg (fun e => h ⟨rfl, e.symm⟩)]
    · rw [set_err he]
  · rw [set_else hik]
theorem set_got {H : Hp} {i : Int} {x : ByteArray} {v : V3} (he : setE H i x = 0) : ownV (setH H i x v) i x = some v := by
  unfold ownV
  cases ho : obAt H i with
  | none => unfold setE at he; rw [ho] at he; simp at he
  | some o =>
    obtain ⟨o', h1, h2⟩ := set_at (v := v) ho he
    rw [h1]
    simp only [Option.bind_some]
    rw [h2, getP_set, if_pos rfl]
theorem setP_len {H : Hp} (hok : HOk H) {i : Int} {o : Ob} (ho : obAt H i = some o) (x : ByteArray) (v : V3) : (setP o.L x v).length = if (getP o.L x).isSome then o.L.length else o.L.length + 1 := by
  obtain ⟨j, rfl, hj, hoj⟩ := obAt_some ho
  cases hg : getP o.L x with
  | none => rw [setP_none _ _ _ hg]; simp
  | some w =>
    have := congrArg List.length (setP_keys (v := v) (hok.keys j o hoj) hg)
    simpa using this
theorem set_count {H : Hp} (hok : HOk H) {i : Int} {x : ByteArray} {v : V3} (he : setE H i x = 0) : countV (setH H i x v) i = if (ownV H i x).isSome then countV H i else countV H i + 1 := by
  unfold countV ownV
  cases ho : obAt H i with
  | none => unfold setE at he; rw [ho] at he; simp at he
  | some o =>
    obtain ⟨o', h1, h2⟩ := set_at (v := v) ho he
    rw [h1]
    simp only [Option.bind_some]
    rw [h2, setP_len hok ho]
    split <;> simp
def keyN (H : Hp) (i : Int) (k : Nat) : ByteArray := match obAt H i with
  | some o => (o.L.getD k (⟨#[]⟩, z3)).1
  | none => ⟨#[]⟩
theorem keyN_get {H : Hp} {i : Int} {k : Nat} (hk : (k : Int) < countV H i) : ∃ o, obAt H i = some o ∧ keyV o.L (k : Int) = .tuple #[.string (keyN H i k), .bool true] := by
  unfold countV at hk
  unfold keyN
  cases ho : obAt H i with
  | none => rw [ho] at hk; simp only at hk; omega
  | some o =>
    rw [ho] at hk
    simp only at hk ⊢
    refine ⟨o, rfl, ?_⟩
    unfold keyV
    rw [if_pos (by omega), Int.toNat_natCast]
    rfl
theorem set_keys {H : Hp} (hok : HOk H) {i : Int} {x : ByteArray} {v : V3} {k : Nat} (hk : (k : Int) < countV H i) : keyN (setH H i x v) i k = keyN H i k ∧ (k : Int) < countV (setH H i x v) i := by
  by_cases he : setE H i x = 0
  · refine ⟨?_, by rw [set_count hok he]; split <;> omega⟩
    unfold countV at hk
    unfold keyN
    cases ho : obAt H i with
    | none => rw [ho] at hk; simp only at hk; omega
    | some o =>
      rw [ho] at hk
      simp only at hk
      obtain ⟨o', h1, h2⟩ := set_at (v := v) ho he
      obtain ⟨j, rfl, hj, hoj⟩ := obAt_some ho
      rw [h1]
      simp only
      rw [h2, List.getD_eq_getElem?_getD, List.getD_eq_getElem?_getD]
      cases hg : getP o.L x with
      | none => rw [setP_none _ _ _ hg, List.getElem?_append_left (by omega)]
      | some w =>
        have h3 := setP_keys (v := v) (hok.keys j o hoj) hg
        have h4 : ((setP o.L x v).map (·.1))[k]? = (o.L.map (·.1))[k]? := by rw [h3]
        rw [List.getElem?_map, List.getElem?_map] at h4
        have hkl : k < o.L.length := by omega
        rw [List.getElem?_eq_getElem hkl] at h4 ⊢
        cases h5 : (setP o.L x v)[k]? with
        | none => rw [h5] at h4; cases h4
        | some u => rw [h5] at h4; simpa using h4
  · rw [set_err he]; exact ⟨rfl, hk⟩
end Go.Proofs.Tryz
