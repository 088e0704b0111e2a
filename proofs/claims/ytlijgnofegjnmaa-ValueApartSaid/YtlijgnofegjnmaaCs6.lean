/- That the model does what the clean memory does: one theorem for all the operations that ask nothing of the memory. A lemma file: no statement of its own. -/
import Derived.Test.YtlijgnofegjnmaaCs5
set_option linter.unusedSimpArgs false
set_option linter.unusedVariables false
namespace Go.Cs
section
variable {P : Program} {ρ : Ren}

theorem cassert_sound {x x' v : Value} {xt asserted : TypeId} {ok : Bool} (h : cassert P x asserted ok = some v) (hx : VRel ρ x x') (w : World) :
    ∃ v', (Instr.typeAssert x' xt asserted ok).run P w = .ok v' w ∧ VRel ρ v v' := by
  have hholds : ∀ {u u' : Value}, VRel ρ u u' → VRel ρ (if ok then .tuple #[u, .bool true] else u) (if ok then .tuple #[u', .bool true] else u') := by
    intro u u' hu
    cases ok
    · exact hu
    · refine .tuple (by simp) rfl fun i hi => ?_
      simp at hi
      match i, hi with
      | 0, _ => exact hu
      | 1, _ => exact .bool true
  have hfails : ∀ {u : Value} (o1 o2 : Option TypeId) (ms : String), (if ok then ((P.info? asserted).bind (·.zero)).bind fun z => if plain 6 z then some (.tuple #[z, .bool false]) else none else none) = some u →
      ∃ u', (if ok then do pure (.tuple #[← zeroValue asserted, .bool false]) else runtimePanic (.typeAssertion o1 o2 asserted ms) : Sem Value).run P w = .ok u' w ∧ VRel ρ u u' := by
    intro u o1 o2 ms hu
    cases ok with
    | false => simp at hu
    | true =>
      simp only [if_true] at hu ⊢
      obtain ⟨z, hz, hu⟩ := Option.bind_eq_some_iff.1 hu
      obtain ⟨i, hi, hz⟩ := Option.bind_eq_some_iff.1 hz
      split at hu
      · rename_i hp
        cases hu
        refine ⟨_, by simp only [zeroValue, Sem.run_bind, run_typeInfo' hi, Result.andThen_ok, hz, Sem.run_pure], .tuple (by simp) rfl fun i hi => ?_⟩
        simp at hi
        match i, hi with
        | 0, _ => exact VRel.of_plain 6 hp
        | 1, _ => exact .bool false
      · cases hu
  unfold cassert at h
  simp only at h
  split at h
  · rename_i want t u hu
    obtain ⟨u', rfl, hr⟩ := hx.iface_inv
    split at h
    · rename_i i hi
      split at h
      · rename_i hm
        cases h
        refine ⟨_, ?_, hholds (.iface t hr)⟩
        simp only [Instr.typeAssert, Sem.run_bind, run_underlying' hu, Result.andThen_ok, run_typeInfo' hi, hm, Sem.run_pure]
      · rename_i m hm
        obtain ⟨u2, h1, h2⟩ := hfails none (some t) m h
        refine ⟨u2, ?_, h2⟩
        simp only [Instr.typeAssert, Sem.run_bind, run_underlying' hu, Result.andThen_ok, run_typeInfo' hi, hm]
        exact h1
    · cases h
  · rename_i want hu
    obtain rfl := hx.nilIface_inv
    obtain ⟨u2, h1, h2⟩ := hfails none none "" h
    refine ⟨u2, ?_, h2⟩
    simp only [Instr.typeAssert, Sem.run_bind, run_underlying' hu, Result.andThen_ok]
    exact h1
  · rename_i d t u hni hu
    obtain ⟨u', rfl, hr⟩ := hx.iface_inv
    split at h
    · rename_i e
      cases h
      refine ⟨_, ?_, hholds hr⟩
      simp only [Instr.typeAssert, Sem.run_bind, run_underlying' hu, Result.andThen_ok]
      split <;> simp_all
    · rename_i e
      obtain ⟨u2, h1, h2⟩ := hfails (some xt) (some t) "" h
      refine ⟨u2, ?_, h2⟩
      simp only [Instr.typeAssert, Sem.run_bind, run_underlying' hu, Result.andThen_ok]
      split <;> first | (rename_i e1; cases e1; simp only [e, if_false]; exact h1) | (simp_all; done)
  · rename_i d hni hu
    obtain rfl := hx.nilIface_inv
    obtain ⟨u2, h1, h2⟩ := hfails (some xt) none "" h
    refine ⟨u2, ?_, h2⟩
    simp only [Instr.typeAssert, Sem.run_bind, run_underlying' hu, Result.andThen_ok]
    split <;> first | exact h1 | (simp_all; done)
  · cases h

theorem cpure_sound {o : Oper} {ev ev' : Operand → Value} {v : Value} (h : cpure P ev o.type o.op = some v) (hev : ∀ x ∈ o.op.operands, VRel ρ (ev x) (ev' x)) (w : World) :
    ∃ v', (execOp ev' o).run P w = .ok (.value v') w ∧ VRel ρ v v' := by
  obtain ⟨dst, op, ty, pos, after, guard⟩ := o
  simp only at h hev
  cases op <;> simp only [cpure] at h <;> (try (cases h; done)) <;> simp only [execOp]
  case move x => cases h; exact ⟨_, rfl, hev x (by simp [Op.operands])⟩
  case assign x => cases h; exact ⟨_, rfl, hev x (by simp [Op.operands])⟩
  case pick c a b =>
    split at h
    · rename_i t ht
      cases h
      have hc := hev c (by simp [Op.operands])
      rw [ht] at hc
      rw [hc.bool_inv]
      refine ⟨_, by simp only [asBool, Sem.run_bind, Sem.run_pure, Result.andThen_ok]; rfl, ?_⟩
      cases t
      · exact hev b (by simp [Op.operands])
      · exact hev a (by simp [Op.operands])
    · cases h
  case build t parts =>
    split at h
    · rename_i hc
      have hz : ∀ z, pureRun P (zeroValue t) = some z → VsRel ρ z.cells z.cells := by
        intro z hz
        have h2 := hc.2
        unfold zeroPlain at h2
        rw [hz] at h2
        have h3 := VRel.of_plain (ρ := ρ) 6 h2
        exact okPart_cells h3 (by cases z <;> first | rfl | (simp [plain] at h2))
      obtain ⟨v', h1, h2⟩ := build_sound h hz hc.1 (fun x hx => hev x.2 (by simp only [Op.operands, List.mem_toArray, List.mem_map]; exact ⟨x, by simpa using hx, rfl⟩)) w
      refine ⟨v', ?_, h2⟩
      simp only [Sem.run_bind]
      rw [show (parts.map fun (x : Nat × Operand) => match x with | (i, x) => (i, ev' x)) = parts.map fun x => (x.1, ev' x.2) from rfl, h1]
      rfl
    · cases h
  case nilCheck x =>
    have hx := hev x (by simp [Op.operands])
    split at h
    · rename_i a ha
      cases h
      rw [ha] at hx
      obtain ⟨a', e, har⟩ := hx.ptr_inv
      rw [e]
      exact ⟨_, rfl, .ptr har⟩
    · rename_i t u hu
      cases h
      rw [hu] at hx
      obtain ⟨u', e, hr⟩ := hx.iface_inv
      rw [e]
      exact ⟨_, rfl, .iface t hr⟩
    · rename_i f a b hf
      cases h
      rw [hf] at hx
      obtain ⟨a', b', e, h1, h2⟩ := hx.func_inv
      rw [e]
      exact ⟨_, rfl, .func _ (by simp) h1.1 h1.2 h2.1 h2.2⟩
    · cases h
  case binOp op t x y yt =>
    obtain ⟨v', h1, h2⟩ := cbin_sound h (hev x (by simp [Op.operands])) (hev y (by simp [Op.operands])) w
    exact ⟨v', by rw [Sem.run_bind, h1]; rfl, h2⟩
  case unOp op t x =>
    split at h
    · rename_i hp
      rw [VRel.eq_of_plain 1 hp (hev x (by simp [Op.operands]))]
      obtain ⟨h1, h2⟩ := pure6_sound (ρ := ρ) h w
      exact ⟨v, by simp only [Sem.run_bind, h1, Result.andThen_ok, Sem.run_pure], h2⟩
    · cases h
  case convert src d x =>
    split at h
    · rename_i hp
      rw [VRel.eq_of_plain 1 hp (hev x (by simp [Op.operands]))]
      obtain ⟨h1, h2⟩ := pure6_sound (ρ := ρ) h w
      exact ⟨v, by simp only [Sem.run_bind, h1, Result.andThen_ok, Sem.run_pure], h2⟩
    · cases h
  case makeInterface t x =>
    split at h
    · cases h
    · rename_i d hne hd
      cases h
      refine ⟨_, ?_, .iface t (hev x (by simp [Op.operands]))⟩
      simp only [Instr.makeInterface, Sem.run_bind, run_underlying' hd, Result.andThen_ok]
      cases d <;> first | rfl | simp_all
    · cases h
  case makeFunc fn first captured =>
    split at h
    · cases h
    · rename_i hfn
      cases h
      refine ⟨_, rfl, ?_⟩
      have h1 := VsRel.map (ρ := ρ) first ev ev' (fun x hx => hev x (by simp [Op.operands, hx]))
      have h2 := VsRel.map (ρ := ρ) captured ev ev' (fun x hx => hev x (by simp [Op.operands, hx]))
      exact .func fn (fun l e => hfn l e) h1.1 h1.2 h2.1 h2.2
  case fieldAddr t x f =>
    have hx := hev x (by simp [Op.operands])
    split at h
    · rename_i fs a hu ha
      rw [ha] at hx
      obtain ⟨a', e, har⟩ := hx.ptr_inv
      split at h
      · rename_i fl hfl
        split at h
        · rename_i i hi
          split at h
          · cases h
          · rename_i hne
            cases h
            rw [e]
            refine ⟨_, ?_, .ptr (har.add _)⟩
            simp only [Instr.fieldAt, Sem.run_bind, run_underlying' hu, Result.andThen_ok, hfl, Instr.sureAddr, Sem.run_pure, fieldPlace, run_sizeOf' hi, hne, if_false]
        · cases h
      · cases h
    · cases h
  case field t x f =>
    have hx := hev x (by simp [Op.operands])
    split at h
    · rename_i fs cs hu ha
      rw [ha] at hx
      obtain ⟨cs', e, hcs⟩ := hx.agg_inv
      split at h
      · rename_i fl hfl
        obtain ⟨v', h1, h2⟩ := cpart_sound h hcs w
        rw [e]
        refine ⟨v', ?_, h2⟩
        simp only [Instr.field, Sem.run_bind, run_underlying' hu, Result.andThen_ok, hfl, asAgg, Sem.run_pure, h1]
      · cases h
    · cases h
  case indexAddr t x ix =>
    obtain ⟨v', h1, h2⟩ := cidxAddr_sound h (hev x (by simp [Op.operands])) (hev ix (by simp [Op.operands])) w
    exact ⟨v', by simp only [Sem.run_bind, h1, Result.andThen_ok, Sem.run_pure], h2⟩
  case index t x ix =>
    have hx := hev x (by simp [Op.operands])
    have hi := hev ix (by simp [Op.operands])
    split at h
    · rename_i s k i hu hs hix
      rw [hs] at hx; rw [hix] at hi
      rw [hx.string_inv, hi.int_inv]
      split at h
      · rename_i h0
        obtain ⟨b, hb, rfl⟩ := Option.map_eq_some_iff.1 h
        refine ⟨_, ?_, .int _ _⟩
        simp only [Instr.index, asIntOf, Sem.run_bind, Sem.run_pure, Result.andThen_ok, run_underlying' hu, h0, if_true, hb]
      · cases h
    · rename_i n e cs k i hu hs hix
      rw [hs] at hx; rw [hix] at hi
      rw [hi.int_inv]
      obtain ⟨cs', e', hcs⟩ := hx.agg_inv
      rw [e']
      split at h
      · rename_i ie hie
        split at h
        · rename_i hb
          obtain ⟨v', h1, h2⟩ := cpart_sound h hcs w
          refine ⟨v', ?_, h2⟩
          simp only [Instr.index, asIntOf, Sem.run_bind, Sem.run_pure, Result.andThen_ok, run_underlying' hu, hb, and_self, if_true, run_sizeOf' hie, h1]
        · cases h
      · cases h
    · cases h
  case slice t x lo hi mx =>
    obtain ⟨v', h1, h2⟩ := cslice_sound (ev' := ev') h (hev x (by simp [Op.operands])) (fun o ho => hev o (by simp [Op.operands, ho])) (fun o ho => hev o (by simp [Op.operands, ho])) (fun o ho => hev o (by simp [Op.operands, ho])) w
    exact ⟨v', by simp only [Sem.run_bind, h1, Result.andThen_ok, Sem.run_pure], h2⟩
  case typeAssert x xt asserted ok =>
    obtain ⟨v', h1, h2⟩ := cassert_sound (xt := xt) h (hev x (by simp [Op.operands])) w
    exact ⟨v', by simp only [Sem.run_bind, h1, Result.andThen_ok, Sem.run_pure], h2⟩
  case extract x i =>
    have hx := hev x (by simp [Op.operands])
    split at h
    · rename_i vs hvs
      split at h
      · cases h
      · rename_i hne
        rw [hvs] at hx
        obtain ⟨vs', e, hr⟩ := hx.tuple_inv hne
        obtain ⟨v', hv', hrel⟩ := hr.getElem? h
        rw [e]
        refine ⟨v', ?_, hrel⟩
        simp only [Instr.extract, hv', Sem.run_bind, Sem.run_pure, Result.andThen_ok]
    · cases h
  case call c =>
    split at h
    · rename_i b hb
      have ha := VsRel.map (ρ := ρ) c.args ev ev' (fun x hx => hev x (by simp [Op.operands, Call.operands, hx]))
      obtain ⟨v', h1, h2⟩ := run_lenOf h ha (c.args.map fun | .const _ => true | _ => false) w
      refine ⟨v', ?_, h2⟩
      simp only [resolve, hb, Sem.run_bind, Sem.run_pure, Result.andThen_ok, invoke]
      exact h1
    · cases h
end
end Go.Cs
