/- That the model does what the clean memory does: the operations that ask nothing of the memory, all of them. A lemma file: no statement of its own. -/
import Derived.Test.YtlijgnofegjnmaaCs4
set_option linter.unusedSimpArgs false
set_option linter.unusedVariables false
namespace Go.Cs
section
variable {P : Program} {ρ : Ren}

theorem run_sliceBound {k : IntKind} {i : Int} {y : Nat} {code : BoundsCode} (h : 0 ≤ i ∧ i ≤ y) (w : World) : (Instr.sliceBound (.int k i) y code).run P w = .ok i.toNat w := by
  simp only [Instr.sliceBound, asIntOf, Sem.run_bind, Sem.run_pure, Result.andThen_ok, h, and_self, if_true]

theorem cbound_sound {v : Option Value} {d most m most' : Nat} {v' : Option Value} (h : cbound v d most = some m) (hv : ∀ x, v = some x → ∃ x', v' = some x' ∧ VRel ρ x x') (hn : v = none → v' = none) (hm : most ≤ most') :
    (v = none ∧ v' = none ∧ m = d) ∨ (∃ x', v' = some x' ∧ m ≤ most ∧ ∀ code w, (Instr.sliceBound x' most' code).run P w = .ok m w) := by
  unfold cbound at h
  split at h
  · cases h; exact .inl ⟨rfl, hn rfl, rfl⟩
  · rename_i k i
    obtain ⟨x', rfl, hx⟩ := hv _ rfl
    cases hx
    split at h
    · rename_i hi
      cases h
      exact .inr ⟨_, rfl, by omega, fun code w => run_sliceBound ⟨hi.1, by omega⟩ w⟩
    · cases h
  · cases h

theorem addr_add_zero (a : Addr) : a.add 0 = a := by simp [Addr.add]

theorem VRel.anySlice_inv {a : Option Addr} {n c : Nat} {x' : Value} (h : VRel ρ (.slice a n c) x') : ∃ a' c', x' = .slice a' n c' ∧ (c ≠ UNK → c' = c) := by
  cases a with
  | none => obtain ⟨rfl, rfl, rfl⟩ := h.nilSlice_inv; exact ⟨_, _, rfl, fun _ => rfl⟩
  | some a =>
    obtain ⟨a', c', e, _, hc⟩ := h.slice_inv
    refine ⟨_, _, e, fun hne => ?_⟩
    rcases hc with ⟨h1, _⟩ | ⟨h1, _⟩
    · exact h1.symm
    · exact (hne h1).elim

theorem run_lenOf {ts : Array TypeId} {ty : TypeId} {args args' : Array Value} {b : Builtin} {v : Value} (h : cbuiltin P b ts ty args = some v) (ha : VsRel ρ args args') (consts : Array Bool) (w : World) :
    ∃ v', (Go.builtin b ts ty consts args').run P w = .ok (.value v') w ∧ VRel ρ v v' := by
  have hplain : args.toList.all (plain 1) = true → args' = args := by
    intro hp
    simp only [List.all_eq_true] at hp
    apply Array.ext ha.1.symm
    intro i h1 h2
    have h0 := ha.2 i h2
    simp only [Array.getD, h1, h2, dif_pos] at h0
    exact VRel.eq_of_plain 1 (hp _ (by simp)) h0
  have h0 : ∀ x, (args[0]? : Option Value) = some x → ∃ x', (args'[0]? : Option Value) = some x' ∧ VRel ρ x x' := fun x hx => ha.getElem? hx
  unfold cbuiltin at h
  split at h
  · split at h
    · rename_i hu hx
      obtain ⟨t, ht, hu⟩ := Option.bind_eq_some_iff.1 hu
      obtain ⟨x', hx', hr⟩ := h0 _ hx
      cases h
      refine ⟨_, ?_, .int _ _⟩
      obtain ⟨a', c', rfl, _⟩ := hr.anySlice_inv
      simp only [Go.builtin, Builtin.len_, ht, hx', Sem.run_bind, run_underlying' hu, Result.andThen_ok, Sem.run_pure]; rfl
    · rename_i hu hx
      obtain ⟨t, ht, hu⟩ := Option.bind_eq_some_iff.1 hu
      obtain ⟨x', hx', hr⟩ := h0 _ hx
      cases h
      obtain rfl := hr.string_inv
      refine ⟨_, ?_, .int _ _⟩
      simp only [Go.builtin, Builtin.len_, ht, hx', Sem.run_bind, run_underlying' hu, Result.andThen_ok, Sem.run_pure]; rfl
    · rename_i hu hx
      obtain ⟨t, ht, hu⟩ := Option.bind_eq_some_iff.1 hu
      obtain ⟨x', hx', hr⟩ := h0 _ hx
      cases h
      refine ⟨_, ?_, .int _ _⟩
      simp only [Go.builtin, Builtin.len_, ht, hx', Sem.run_bind, run_underlying' hu, Result.andThen_ok, Sem.run_pure]; rfl
    · rename_i hu hx
      obtain ⟨t, ht, hu⟩ := Option.bind_eq_some_iff.1 hu
      obtain ⟨x', hx', hr⟩ := h0 _ hx
      cases h
      obtain rfl := hr.nilMap_inv
      refine ⟨_, ?_, .int _ _⟩
      simp only [Go.builtin, Builtin.len_, ht, hx', Sem.run_bind, run_underlying' hu, Result.andThen_ok, Sem.run_pure]; rfl
    · cases h
  · split at h
    · rename_i hu hx
      obtain ⟨t, ht, hu⟩ := Option.bind_eq_some_iff.1 hu
      obtain ⟨x', hx', hr⟩ := h0 _ hx
      split at h
      · cases h
      · rename_i hc
        cases h
        refine ⟨_, ?_, .int _ _⟩
        obtain ⟨a', c', rfl, hcc⟩ := hr.anySlice_inv
        obtain rfl := hcc hc
        simp only [Go.builtin, Builtin.cap_, ht, hx', Sem.run_bind, run_underlying' hu, Result.andThen_ok, Sem.run_pure]; rfl
    · cases h
  · have hone : ∀ {x : Value}, args.toList = [x] → ∃ x', args' = #[x'] ∧ VRel ρ x x' := by
      intro x he
      have he : args = #[x] := by apply Array.ext'; exact he
      subst he
      have hx := ha
      have hsz : args'.size = 1 := by have := hx.1; simpa using this.symm
      refine ⟨args'.getD 0 undef, ?_, hx.2 0 (by simp)⟩
      apply Array.ext
      · simp [hsz]
      · intro i h1 h2
        have : i = 0 := by simp at h2; omega
        subst this
        simp [Array.getD, hsz]
    split at h
    · rename_i he
      cases h
      obtain ⟨x', rfl, hr⟩ := hone he
      cases hr
      exact ⟨_, rfl, .nilPtr⟩
    · rename_i he
      split at h
      · rename_i hc
        cases h
        obtain ⟨x', rfl, hr⟩ := hone he
        cases hr with
        | slice har hcr =>
          rename_i a' c'
          have h0 : c' ≠ 0 := by
            rcases hcr with ⟨h1, _⟩ | ⟨h1, h2, _⟩
            · omega
            · have := hc.2 h1; omega
          refine ⟨_, ?_, .ptr har⟩
          have hr : ∀ {ts : Array TypeId} {ty : TypeId} {m : Nat}, (Builtin.unsafeSliceData_ ts ty #[.slice (some a') m c']).run P w = .ok (.pointer (some a')) w := by
            intro ts ty m
            show (if c' ≠ 0 then (pure (Value.pointer (some a')) : Sem Value) else _).run P w = _
            rw [if_pos h0]
            rfl
          simp only [Go.builtin, Sem.run_bind, hr, Sem.run_pure, Result.andThen_ok]
      · cases h
    · cases h
  · split at h
    · rename_i hp
      rw [hplain hp]
      obtain ⟨h1, h2⟩ := pure6_sound (ρ := ρ) h w
      exact ⟨v, by simp only [Go.builtin, Sem.run_bind, h1, Result.andThen_ok, Sem.run_pure], h2⟩
    · cases h
  · split at h
    · rename_i hp
      rw [hplain hp]
      obtain ⟨h1, h2⟩ := pure6_sound (ρ := ρ) h w
      exact ⟨v, by simp only [Go.builtin, Sem.run_bind, h1, Result.andThen_ok, Sem.run_pure], h2⟩
    · cases h
  · cases h

theorem cidxAddr_sound {t : TypeId} {x ix x' ix' v : Value} (h : cidxAddr P t x ix = some v) (hx : VRel ρ x x') (hi : VRel ρ ix ix') (w : World) :
    ∃ v', (Instr.indexAt t x' ix').run P w = .ok v' w ∧ VRel ρ v v' := by
  unfold cidxAddr at h
  split at h
  · rename_i k i
    cases hi
    split at h
    · rename_i e a n c hu
      obtain ⟨a', c', rfl, har, _⟩ := hx.slice_inv
      split at h
      · rename_i ie hie
        split at h
        · rename_i hb
          cases h
          refine ⟨_, ?_, .ptr (har.add _)⟩
          simp only [Instr.indexAt, asIntOf, Sem.run_bind, Sem.run_pure, Result.andThen_ok, run_underlying' hu, hb, and_self, if_true, run_sizeOf' hie]
        · cases h
      · cases h
    · rename_i n e a hu
      obtain ⟨a', rfl, har⟩ := hx.ptr_inv
      split at h
      · rename_i ie hie
        split at h
        · rename_i hb
          cases h
          refine ⟨_, ?_, .ptr (har.add _)⟩
          simp only [Instr.indexAt, Instr.sureAddr, asIntOf, Sem.run_bind, Sem.run_pure, Result.andThen_ok, run_underlying' hu, hb, and_self, if_true, run_sizeOf' hie]
        · cases h
      · cases h
    · cases h
  · cases h

theorem cslice_sound {t : TypeId} {x x' v : Value} {lo hi mx : Option Operand} {ev ev' : Operand → Value} (h : cslice P t x (lo.map ev) (hi.map ev) (mx.map ev) = some v) (hx : VRel ρ x x')
    (hlo : ∀ o, lo = some o → VRel ρ (ev o) (ev' o)) (hhi : ∀ o, hi = some o → VRel ρ (ev o) (ev' o)) (hmx : ∀ o, mx = some o → VRel ρ (ev o) (ev' o)) (w : World) :
    ∃ v', (Instr.sliceAt t x' (lo.map ev') (hi.map ev') (mx.map ev')).run P w = .ok v' w ∧ VRel ρ v v' := by
  have hb : ∀ {o : Option Operand} {d most most' m : Nat}, (∀ u, o = some u → VRel ρ (ev u) (ev' u)) → cbound (o.map ev) d most = some m → most ≤ most' →
      (o = none ∧ m = d) ∨ (∃ u, o = some u ∧ m ≤ most ∧ ∀ code w, (Instr.sliceBound (ev' u) most' code).run P w = .ok m w) := by
    intro o d most most' m ho hc hm
    cases o with
    | none => simp only [Option.map_none, cbound, Option.some.injEq] at hc; exact .inl ⟨rfl, hc.symm⟩
    | some u =>
      have := cbound_sound (P := P) (v' := some (ev' u)) hc (fun x hx => by simp only [Option.map_some, Option.some.injEq] at hx; subst hx; exact ⟨_, rfl, ho u rfl⟩) (by simp) hm
      rcases this with ⟨h1, _⟩ | ⟨x', h1, h2, h3⟩
      · simp at h1
      · cases h1; exact .inr ⟨u, rfl, h2, h3⟩
  unfold cslice at h
  split at h
  · rename_i s hu
    cases mx with
    | some m => simp at h
    | none =>
      obtain rfl := hx.string_inv
      simp only [Option.map_none] at h
      split at h
      · cases h
      · rename_i hh hch
        split at h
        · cases h
        · rename_i l hcl
          cases h
          refine ⟨_, ?_, .string _⟩
          simp only [Instr.sliceAt, Sem.run_bind, run_underlying' hu, Result.andThen_ok, Instr.slice, Option.map_none, Option.isSome_none, Bool.false_eq_true, if_false]
          rcases hb hhi hch (Nat.le_refl _) with ⟨rfl, rfl⟩ | ⟨u, rfl, _, hr⟩ <;> rcases hb hlo hcl (Nat.le_refl _) with ⟨rfl, rfl⟩ | ⟨u2, rfl, _, hr2⟩ <;>
            simp only [Instr.sliceBounds, Option.map_none, Option.map_some, Option.isSome_none, Bool.false_eq_true, if_false, Sem.run_bind, Sem.run_pure, Result.andThen_ok, *]
  · -- a nil slice
    rename_i e n c hu
    obtain ⟨rfl, rfl, rfl⟩ := hx.nilSlice_inv
    split at h
    · rename_i ie mm hh l hie hcm hch hcl
      split at h
      · rename_i hcond
        cases h
        refine ⟨_, ?_, .nilSlice⟩
        simp only [Instr.sliceAt, Sem.run_bind, run_underlying' hu, Result.andThen_ok, Instr.slice]
        have ms : (mx.isSome && hi.isNone) = false := by simpa using hcond.2.2
        rcases hb hmx hcm (Nat.le_refl _) with ⟨rfl, rfl⟩ | ⟨u, rfl, hm0, hr⟩ <;> rcases hb hhi hch (Nat.le_refl _) with ⟨rfl, rfl⟩ | ⟨u1, rfl, hh0, hr1⟩ <;> rcases hb hlo hcl (Nat.le_refl _) with ⟨rfl, rfl⟩ | ⟨u2, rfl, hl0, hr2⟩ <;>
          (try (simp at ms; done)) <;> (try obtain rfl := Nat.le_zero.1 hm0) <;> (try obtain rfl := Nat.le_zero.1 hh0) <;> (try obtain rfl := Nat.le_zero.1 hl0) <;>
          simp only [Instr.sliceBounds, Option.map_none, Option.map_some, Option.isSome_none, Option.isSome_some, Bool.false_eq_true, if_false, if_true, Sem.run_bind, Sem.run_pure, Result.andThen_ok, run_sizeOf' hie, Nat.sub_self, *]
      · cases h
    · cases h
  · -- a slice
    rename_i e a n c hu
    obtain ⟨a', c', rfl, har, hcr⟩ := hx.slice_inv
    split at h
    · cases h
    · rename_i ie hie
      have hle : (if c = UNK then n else c) ≤ c' := by
        rcases hcr with ⟨h1, h2⟩ | ⟨h1, h2, _⟩
        · subst h1; rw [if_neg (by omega)]; exact Nat.le_refl _
        · rw [if_pos h1]; exact h2
      have hex : c ≠ UNK → c' = c := by
        intro hne; rcases hcr with ⟨h1, _⟩ | ⟨h1, _⟩
        · exact h1.symm
        · exact (hne h1).elim
      have hsl : ∀ l hh m, m < UNK → VRel ρ (.slice (some (if m = l then a else a.add (l * ie.size))) (hh - l) (m - l)) (.slice (if m = l then some a' else (some a').map (·.add (l * ie.size))) (hh - l) (m - l)) := by
        intro l hh m hm
        by_cases e : m = l
        · simp only [if_pos e]; exact .slice har (.inl ⟨rfl, by omega⟩)
        · simp only [if_neg e, Option.map_some]; exact .slice (har.add _) (.inl ⟨rfl, by omega⟩)
      cases mx with
      | some ox =>
        simp only [Option.map_some, Option.isSome_some, Bool.true_and, Option.isNone_some, Bool.false_and, Bool.false_eq_true, if_false] at h
        split at h
        · cases h
        · rename_i m hcm
          cases hi with
          | none => simp at h
          | some oh =>
            simp only [Option.map_some, Option.isNone_some, Bool.false_eq_true, if_false] at h
            split at h
            · cases h
            · rename_i hh hch
              split at h
              · cases h
              · rename_i l hcl
                split at h
                · rename_i hmu
                  cases h
                  refine ⟨_, ?_, hsl l hh m hmu⟩
                  rcases hb (o := some ox) hmx hcm hle with ⟨h1, _⟩ | ⟨u, hu1, hm0, hr⟩
                  · cases h1
                  cases hu1
                  rcases hb (o := some oh) hhi hch (Nat.le_refl _) with ⟨h1, _⟩ | ⟨u1, hu2, hh0, hr1⟩
                  · cases h1
                  cases hu2
                  simp only [Instr.sliceAt, Sem.run_bind, run_underlying' hu, Result.andThen_ok, Instr.slice, Instr.sliceBounds, Option.map_some, Option.isSome_some, if_true, hr, hr1]
                  rcases hb hlo hcl (Nat.le_refl _) with ⟨rfl, rfl⟩ | ⟨u2, rfl, hl0, hr2⟩
                  · simp only [Option.map_none, Sem.run_bind, Sem.run_pure, Result.andThen_ok, run_sizeOf' hie]
                  · simp only [Option.map_some, hr2, Sem.run_bind, Sem.run_pure, Result.andThen_ok, run_sizeOf' hie]
                · cases h
      | none =>
        simp only [Option.map_none, cbound, Option.isSome_none, Bool.false_and, Bool.false_eq_true, if_false, Option.isNone_none, Bool.true_and, beq_iff_eq] at h
        split at h
        · cases h
        · rename_i hh hch
          split at h
          · cases h
          · rename_i l hcl
            have hle2 : (if c = UNK then n else c) ≤ c' := hle
            have hrun : ∀ w, (Instr.sliceAt t (.slice (some a') n c') (lo.map ev') (hi.map ev') none).run P w = .ok (.slice (if c' = l then some a' else (some a').map (·.add (l * ie.size))) (hh - l) (c' - l)) w := by
              intro w
              simp only [Instr.sliceAt, Sem.run_bind, run_underlying' hu, Result.andThen_ok, Instr.slice, Instr.sliceBounds, Sem.run_pure, if_true]
              rcases hb hhi hch hle2 with ⟨rfl, rfl⟩ | ⟨u1, rfl, hh0, hr1⟩ <;> rcases hb hlo hcl (Nat.le_refl _) with ⟨rfl, rfl⟩ | ⟨u2, rfl, hl0, hr2⟩ <;>
                simp only [Option.map_none, Option.map_some, Option.isSome_none, Bool.false_eq_true, if_false, Sem.run_bind, Sem.run_pure, Result.andThen_ok, run_sizeOf' hie, *]
            split at h
            · rename_i hcu
              split at h
              · rename_i hl0
                cases h
                subst hl0
                refine ⟨_, hrun w, ?_⟩
                have e1 : (if c' = 0 then some a' else (some a').map (·.add (0 * ie.size))) = some a' := by
                  split
                  · rfl
                  · simp [addr_add_zero]
                rw [e1]
                simp only [Nat.sub_zero]
                rcases hcr with ⟨h1, h2⟩ | ⟨h1, h2, h3, h4⟩
                · omega
                · refine .slice har (.inr ⟨h1, ?_, h3, h4⟩)
                  rw [if_pos hcu] at hch
                  rcases hb hhi hch h2 with ⟨_, rfl⟩ | ⟨_, _, h5, _⟩ <;> omega
              · cases h
            · rename_i hcu
              split at h
              · rename_i hmu
                cases h
                obtain rfl := hex hcu
                exact ⟨_, hrun w, hsl l hh c' hmu⟩
              · cases h
  · -- an array behind a pointer
    rename_i n e a hu
    obtain ⟨a', rfl, har⟩ := hx.ptr_inv
    split at h
    · cases h
    · rename_i ie hie
      split at h
      · cases h
      · rename_i m hcm
        split at h
        · cases h
        · rename_i hh hch0
          split at h
          · cases h
          · rename_i l hcl
            split at h
            · rename_i hmu
              cases h
              refine ⟨_, ?_, .slice (a' := if m = l then a' else a'.add (l * ie.size)) ?_ (.inl ⟨rfl, by omega⟩)⟩
              · have ms : ((mx.map ev).isSome && (hi.map ev).isNone) = false := by
                  cases hq : ((mx.map ev).isSome && (hi.map ev).isNone) with
                  | true => rw [hq] at hch0; simp at hch0
                  | false => rfl
                have hch : cbound (hi.map ev) n m = some hh := by rw [ms] at hch0; simpa using hch0
                simp only [Instr.sliceAt, Sem.run_bind, run_underlying' hu, Result.andThen_ok, Instr.sureAddr, Sem.run_pure]
                rcases hb hmx hcm (Nat.le_refl _) with ⟨rfl, rfl⟩ | ⟨u, rfl, hm0, hr⟩ <;> rcases hb hhi hch (Nat.le_refl _) with ⟨rfl, rfl⟩ | ⟨u1, rfl, hh0, hr1⟩ <;> rcases hb hlo hcl (Nat.le_refl _) with ⟨rfl, rfl⟩ | ⟨u2, rfl, hl0, hr2⟩ <;>
                  (try (simp at ms; done)) <;>
                  simp only [Instr.sliceBounds, Option.map_none, Option.map_some, Option.isSome_none, Option.isSome_some, Bool.false_eq_true, if_false, if_true, Sem.run_bind, Sem.run_pure, Result.andThen_ok, run_sizeOf' hie, *] <;>
                  (split <;> rfl)
              · split
                · exact har
                · exact har.add _
            · cases h
  · cases h
end
end Go.Cs
