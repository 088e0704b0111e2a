/- That the model does what the clean memory does: the operations that ask nothing of the memory, all of them. A lemma file: no statement of its own. -/
import Derived.Test.YtlijgnofegjnmaaCs3
set_option linter.unusedSimpArgs false
set_option linter.unusedVariables false
namespace Go.Cs
section
variable {P : Program} {ρ : Ren}

theorem foldl_set_rel : ∀ (l l' : List Value) (k off : Nat) (cs cs' : Array Value), VsRel ρ l.toArray l'.toArray → VsRel ρ cs cs' →
    VsRel ρ ((l.zipIdx k).foldl (fun cs x => cs.setIfInBounds (off + x.2) x.1) cs) ((l'.zipIdx k).foldl (fun cs x => cs.setIfInBounds (off + x.2) x.1) cs') := by
  intro l
  induction l with
  | nil => intro l' k off cs cs' hl hc; have : l' = [] := by have := hl.1; simp at this; exact List.eq_nil_of_length_eq_zero this.symm
           subst this; simpa using hc
  | cons v l ih =>
    intro l' k off cs cs' hl hc
    cases l' with
    | nil => have := hl.1; simp at this
    | cons v' l' =>
      simp only [List.zipIdx_cons, List.foldl_cons]
      refine ih l' (k + 1) off _ _ ⟨by have := hl.1; simpa using this, fun i hi => ?_⟩ (hc.set _ ?_)
      · have := hl.2 (i + 1) (by simpa using hi)
        simpa [Array.getD_eq_getD_getElem?] using this
      · have := hl.2 0 (by simp)
        simpa [Array.getD_eq_getD_getElem?] using this

theorem foldl_size : ∀ (l : List (Value × Nat)) (off : Nat) (cs : Array Value), (l.foldl (fun cs x => cs.setIfInBounds (off + x.2) x.1) cs).size = cs.size := by
  intro l
  induction l with
  | nil => intro off cs; rfl
  | cons x l ih => intro off cs; rw [List.foldl_cons, ih]; simp

theorem fill_rel (place : Nat → Option (Nat × Nat)) : ∀ (l : List (Nat × Operand)) (ev ev' : Operand → Value) (cells cells' r : Array Value), (∀ x ∈ l, VRel ρ (ev x.2) (ev' x.2)) →
    (l.all fun x => okPart (ev x.2)) = true → VsRel ρ cells cells' → Instr.fill place cells (l.map fun x => (x.1, ev x.2)) = some r →
    ∃ r', Instr.fill place cells' (l.map fun x => (x.1, ev' x.2)) = some r' ∧ VsRel ρ r r' := by
  intro l
  induction l with
  | nil => intro ev ev' cells cells' r _ _ hc h; simp only [List.map_nil, Instr.fill, Option.some.injEq] at h ⊢; subst h; exact ⟨_, rfl, hc⟩
  | cons x l ih =>
    intro ev ev' cells cells' r hl hok hc h
    simp only [List.all_cons, Bool.and_eq_true] at hok
    have hx := okPart_cells (hl x (by simp)) hok.1
    simp only [List.map_cons, Instr.fill] at h ⊢
    split at h
    · cases h
    · rename_i off size hp
      split at h
      · cases h
      · rename_i hn
        rw [if_neg (by rw [← hx.1, ← hc.1]; exact hn)]
        refine ih ev ev' _ _ r (fun y hy => hl y (by simp [hy])) hok.2 ?_ h
        have e1 : ∀ (c : Array Value) (d : Array Value), (Array.zipIdx c).foldl (fun cs x => cs.setIfInBounds (off + x.2) x.1) d = (c.toList.zipIdx 0).foldl (fun cs x => cs.setIfInBounds (off + x.2) x.1) d := by
          intro c d
          rw [← Array.foldl_toList]; simp
        have := foldl_set_rel (ρ := ρ) (ev x.2).cells.toList (ev' x.2).cells.toList 0 off cells cells' (by simpa using hx) hc
        rw [← e1, ← e1] at this
        exact this

theorem zero_plain {t : TypeId} {z : Value} (h : pureRun P (zeroValue t) = some z) (w : World) : (zeroValue t).run P w = .ok z w := run_of_pureRun h w

theorem pureRun_bind {α β : Type} (x : Sem α) (f : α → Sem β) : pureRun P (x >>= f) = (pureRun P x).bind fun a => pureRun P (f a) := by
  show pureRun P (Sem.bind x f) = _
  induction x with
  | pure a => rfl
  | program k ih => simp only [Sem.bind, pureRun]; exact ih _
  | mark m k ih => simp only [Sem.bind, pureRun]; exact ih
  | _ => rfl

theorem pureRun_pure {α : Type} (a : α) : pureRun P (pure a : Sem α) = some a := rfl

theorem VsRel.map {α : Type} (l : Array α) (f g : α → Value) (h : ∀ x ∈ l, VRel ρ (f x) (g x)) : VsRel ρ (l.map f) (l.map g) := by
  refine ⟨by simp, fun i hi => ?_⟩
  simp only [Array.size_map] at hi
  have := h l[i] (by simp)
  simpa [Array.getD, hi] using this

/-- The zero value of a type, where it bears no place: what 'build' begins with. -/
theorem build_sound {t : TypeId} {parts : Array (Nat × Operand)} {ev ev' : Operand → Value} {v : Value} (h : pureRun P (Instr.build t (parts.map fun x => (x.1, ev x.2))) = some v)
    (hz : ∀ z, pureRun P (zeroValue t) = some z → VsRel ρ z.cells z.cells)
    (hok : (parts.toList.all fun x => okPart (ev x.2)) = true) (hev : ∀ x ∈ parts, VRel ρ (ev x.2) (ev' x.2)) (w : World) :
    ∃ v', (Instr.build t (parts.map fun x => (x.1, ev' x.2))).run P w = .ok v' w ∧ VRel ρ v v' := by
  have key : ∃ v', pureRun P (Instr.build t (parts.map fun x => (x.1, ev' x.2))) = some v' ∧ VRel ρ v v' := by
    unfold Instr.build at h ⊢
    rw [pureRun_bind] at h ⊢
    cases hz0 : pureRun P (zeroValue t) with
    | none => rw [hz0] at h; cases h
    | some z =>
      rw [hz0] at h
      simp only [Option.bind_some] at h ⊢
      rw [pureRun_bind] at h ⊢
      cases hu : pureRun P (underlying t) with
      | none => rw [hu] at h; cases h
      | some d =>
        rw [hu] at h
        simp only [Option.bind_some] at h ⊢
        have hfin : ∀ (place : Nat → Option (Nat × Nat)) (r : Array Value), Instr.fill place z.cells (parts.map fun x => (x.1, ev x.2)).toList = some r →
            ∃ r', Instr.fill place z.cells (parts.map fun x => (x.1, ev' x.2)).toList = some r' ∧ VsRel ρ r r' := by
          intro place r hr
          simp only [Array.toList_map] at hr ⊢
          exact fill_rel place parts.toList ev ev' _ _ r (fun x hx => hev x (by simpa using hx)) hok (hz z hz0) hr
        cases d with
        | struct fields =>
          simp only [pureRun_bind] at h ⊢
          cases hm : pureRun P (Array.mapM (fun f => do pure (f.offset, ← sizeOf f.type)) fields) with
          | none => rw [hm] at h; cases h
          | some places =>
            rw [hm] at h
            simp only [Option.bind_some] at h ⊢
            cases hf : Instr.fill (fun x => places[x]?) z.cells (parts.map fun x => (x.1, ev x.2)).toList with
            | none => rw [hf] at h; simp [pureRun, stuck] at h
            | some r =>
              rw [hf] at h
              obtain ⟨r', hr', hrel⟩ := hfin _ _ hf
              rw [hr']
              simp only [pureRun_pure, Option.some.injEq] at h
              subst h
              exact ⟨_, rfl, .agg hrel.1 hrel.2⟩
        | array n elem =>
          simp only [pureRun_bind] at h ⊢
          cases hm : pureRun P (sizeOf elem) with
          | none => rw [hm] at h; cases h
          | some size =>
            rw [hm] at h
            simp only [Option.bind_some] at h ⊢
            cases hf : Instr.fill (fun i => some (i * size, size)) z.cells (parts.map fun x => (x.1, ev x.2)).toList with
            | none => rw [hf] at h; simp [pureRun, stuck] at h
            | some r =>
              rw [hf] at h
              obtain ⟨r', hr', hrel⟩ := hfin _ _ hf
              rw [hr']
              simp only [pureRun_pure, Option.some.injEq] at h
              subst h
              exact ⟨_, rfl, .agg hrel.1 hrel.2⟩
        | _ => simp [pureRun, stuck] at h
  obtain ⟨v', hv', hr⟩ := key
  exact ⟨v', run_of_pureRun hv' w, hr⟩
end
end Go.Cs
