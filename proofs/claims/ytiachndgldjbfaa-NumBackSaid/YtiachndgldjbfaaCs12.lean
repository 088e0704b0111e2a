/- Operations that write the clean memory: maps, copies; and all of them at once. A lemma file: no statement of its own. -/
import Derived.Test.YtiachndgldjbfaaCs11
set_option linter.unusedSimpArgs false
set_option linter.unusedVariables false
namespace Go.Cs
section
variable {M : Type} [Mem M] (P : Program)

def cmapset (t : TypeId) (m k v : Value) (s : St M) : Option (St M) :=
  match P.underlying t, m with
  | some (.map kt _), .map (some r) => match s.at' r with
    | some (.map es clock) => match cfind P kt k es with
      | some (some (i, _)) => some (s.put r (.map (es.modify i fun e => { e with key := k, val := v }) clock))
      | some none => some (s.put r (.map (es ++ [{ key := k, val := v, born := clock }]) (clock + 1)))
      | none => none
    | _ => none
  | _, _ => none

/-- Keys that are numbers, strings, or bools. -/
def keyKind (t : TypeId) : Bool :=
  match P.underlying t with
  | some (.int _) => true
  | some .string => true
  | some .bool => true
  | _ => false

def cdelete (t : TypeId) (m k : Value) (s : St M) : Option (St M) :=
  match P.underlying t, m with
  | some (.map kt _), .map (some r) => match s.at' r with
    | some (.map es clock) => match cfind P kt k es with
      | some (some (i, _)) => some (s.put r (.map (es.eraseIdx i) clock))
      | some none => some s
      | none => none
    | _ => none
  | some (.map kt _), .map none => if plain 6 k = true ∧ keyKind P kt = true then some s else none
  | _, _ => none

/-- An operation that writes. -/
def ceff (ev : Operand → Value) (s : St M) : Op → Option (Value × St M)
  | .store t a x => match ev a with
    | .pointer (some a) => if okPart (ev x) = true then (cstore P t a (ev x) s).map fun s' => (undef, s') else none
    | _ => none
  | .mapUpdate t m k x => (cmapset P t (ev m) (ev k) (ev x) s).map fun s' => (undef, s')
  | .insert t m k x => (cmapset P t (ev m) (ev k) (ev x) s).map fun s' => (undef, s')
  | .call c => match c.callee with
    | .builtin .append => capp P c.argTypes (c.args.map ev) s
    | .builtin .delete => match (c.argTypes[0]? : Option TypeId), (c.args[0]?).map ev, (c.args[1]?).map ev with
      | some t, some m, some k => (cdelete P t m k s).map fun s' => (undef, s')
      | _, _, _ => none
    | _ => none
  | _ => none
end

section
variable {M : Type} [Mem M] {P : Program} {w0 : World} {ρ : Ren} {s : St M} {w : World}

theorem run_setObj {b : Nat} {o o' : Obj} (h : w.heap[b]? = some o) (hc : ∀ c e f, o ≠ .cells c e f) : (setObj b o').run P w = .ok () { w with heap := w.heap.setIfInBounds b o' } := by
  unfold setObj
  simp only [Sem.run, h]

theorem findNow_bound (kd : TypeDesc) (k : Value) : ∀ (es : List MapEntry) (i j : Nat) (v : Value), Instr.findNow kd k es i = some (some (j, v)) → i ≤ j ∧ ∃ (h : j - i < es.length), Instr.sameNow kd k es[j - i].key = some true := by
  intro es
  induction es with
  | nil => intro i j v h; simp [Instr.findNow] at h
  | cons e es ih =>
    intro i j v h
    simp only [Instr.findNow] at h
    split at h
    · rename_i hs
      simp only [Option.some.injEq, Prod.mk.injEq] at h
      obtain ⟨rfl, _⟩ := h
      exact ⟨Nat.le_refl _, by simp, by simpa using hs⟩
    · obtain ⟨h1, h2, h3⟩ := ih _ _ _ h
      refine ⟨by omega, by simp; omega, ?_⟩
      have : j - i = (j - (i + 1)) + 1 := by omega
      simp only [this, List.getElem_cons_succ]
      exact h3
    · cases h

theorem ba_beq_iff {a b : ByteArray} : (a == b) = true ↔ a = b := by
  show (a.data == b.data) = true ↔ a = b
  rw [beq_iff_eq]
  exact ⟨fun h => ByteArray.ext h, fun h => by rw [h]⟩

theorem sameNow_bits {kd : TypeDesc} {k k' : Value} (h : Instr.sameNow kd k k' = some true) : Instr.sameBits 10000 k' k = true := by
  unfold Instr.sameNow at h
  split at h
  · split at h
    · rename_i hk
      subst hk
      simp only [Option.some.injEq, beq_iff_eq] at h
      subst h
      simp [Instr.sameBits]
    · cases h
  · simp only [Option.some.injEq, ba_beq_iff] at h
    subst h
    simp only [Instr.sameBits, ba_beq_iff]
  · simp only [Option.some.injEq, beq_iff_eq] at h
    subst h
    simp [Instr.sameBits]
  · cases h

theorem run_keyThatStays {old new : Value} (h : Instr.sameBits 10000 old new = true) (w : World) : (Instr.keyThatStays old new).run P w = .ok new w := by
  simp only [Instr.keyThatStays, h, if_true, Sem.run_pure]

theorem EsRel.modify {es : List MapEntry} {es' : Array MapEntry} (h : EsRel ρ es es') (i : Nat) {k v v' : Value} (hp : plain 6 k = true) (hv : VRel ρ v v') :
    EsRel ρ (es.modify i fun e => { e with key := k, val := v }) (es'.modify i fun e => { e with key := k, val := v' }) := by
  refine ⟨by simp [h.1], fun j hj hj' => ?_⟩
  simp only [List.length_modify] at hj
  simp only [Array.size_modify] at hj'
  obtain ⟨h1, h2, h3, h4⟩ := h.2 j hj hj'
  simp only [List.getElem_modify, Array.getElem_modify]
  by_cases e : i = j
  · simp only [if_pos e]; exact ⟨trivial, h2, hp, hv⟩
  · simp only [if_neg e]; exact ⟨h1, h2, h3, h4⟩

theorem EsRel.push {es : List MapEntry} {es' : Array MapEntry} (h : EsRel ρ es es') {k v v' : Value} {n : Nat} (hp : plain 6 k = true) (hv : VRel ρ v v') :
    EsRel ρ (es ++ [{ key := k, val := v, born := n }]) (es'.push { key := k, val := v', born := n }) := by
  refine ⟨by simp [h.1], fun j hj hj' => ?_⟩
  simp only [List.length_append, List.length_cons, List.length_nil] at hj
  have hsz := h.1
  simp only [List.getElem_append, Array.getElem_push]
  by_cases e : j < es.length
  · have e' : j < es'.size := by omega
    simp only [dif_pos e, dif_pos e']
    exact h.2 j e e'
  · have e' : ¬ j < es'.size := by omega
    simp only [dif_neg e, dif_neg e']
    have : j - es.length = 0 := by omega
    simp only [this, List.getElem_cons_zero]
    exact ⟨trivial, trivial, hp, hv⟩

theorem EsRel.erase {es : List MapEntry} {es' : Array MapEntry} (h : EsRel ρ es es') (i : Nat) (hi : i < es.length) : EsRel ρ (es.eraseIdx i) (es'.eraseIdxIfInBounds i) := by
  have hsz := h.1
  have hi' : i < es'.size := by omega
  rw [Array.eraseIdxIfInBounds, dif_pos hi']
  refine ⟨by simp [List.length_eraseIdx, hi, hsz], fun j hj hj' => ?_⟩
  simp only [List.length_eraseIdx, hi, if_true] at hj
  simp only [List.getElem_eraseIdx, Array.getElem_eraseIdx]
  by_cases e : j < i
  · simp only [dif_pos e]; exact h.2 j (by omega) (by omega)
  · simp only [dif_neg e]; exact h.2 (j + 1) (by omega) (by omega)

theorem cmapset_sound {t : TypeId} {m k v m' k' v' : Value} {s' : St M} (h : cmapset P t m k v s = some s') (hR : Rel P w0 ρ s w) (hm : VRel ρ m m') (hk : VRel ρ k k') (hv : VRel ρ v v') :
    ∃ w', (Instr.mapUpdate t m' k' v').run P w = .ok () w' ∧ Rel P w0 ρ s' w' ∧ Ext ρ s ρ s' := by
  unfold cmapset at h
  split at h
  · rename_i kt et r hu
    obtain ⟨i, rfl, hi⟩ := hm.map_inv
    split at h
    · rename_i es clock hat
      obtain ⟨o, ho, hbr⟩ := hR.blk _ _ _ hi hat
      obtain ⟨es', rfl, hes⟩ := hbr
      have hes : EsRel ρ es es' := hes
      split at h
      · rename_i j u hf
        cases h
        obtain ⟨hp, kd, hkd, hfn, hck⟩ := cfind_kind hf
        obtain ⟨u', hu1, hu2⟩ := (findNow_rel kd k es es'.toList 0 _ (by rw [Array.toArray_toList]; exact hes) hfn).2 j u rfl
        obtain ⟨_, hjl, hsame⟩ := findNow_bound kd k es 0 j u hfn
        have hjl : j < es.length := hjl
        have hj' : j < es'.size := by have := hes.1; omega
        obtain ⟨hkey, _⟩ := hes.2 j hjl hj'
        have hbits : Instr.sameBits 10000 (((es'[j]?).map (·.key)).getD k) k = true := by
          rw [Array.getElem?_eq_getElem hj']
          simp only [Option.map_some, Option.getD_some]
          rw [hkey]
          exact sameNow_bits hsame
        rw [VRel.eq_of_plain 6 hp hk]
        refine ⟨_, ?_, hR.write hi hat rfl ⟨_, rfl, hes.modify j hp hv⟩⟩
        simp only [Instr.mapUpdate, Sem.run_bind, run_underlying' hu, Result.andThen_ok, run_getObj ho (by simp), run_checkKey hck, run_findKey hkd hu1, run_keyThatStays hbits, run_setObj ho (by simp)]
      · rename_i hf
        cases h
        obtain ⟨hp, kd, hkd, hfn, hck⟩ := cfind_kind hf
        have hu1 := (findNow_rel kd k es es'.toList 0 _ (by rw [Array.toArray_toList]; exact hes) hfn).1 rfl
        rw [VRel.eq_of_plain 6 hp hk]
        refine ⟨_, ?_, hR.write hi hat rfl ⟨_, rfl, hes.push hp hv⟩⟩
        simp only [Instr.mapUpdate, Sem.run_bind, run_underlying' hu, Result.andThen_ok, run_getObj ho (by simp), run_checkKey hck, run_findKey hkd hu1, run_setObj ho (by simp)]
      · cases h
    · cases h
  · cases h

theorem setObj_same {b : Nat} {o : Obj} (h : w.heap[b]? = some o) : { w with heap := w.heap.setIfInBounds b o } = w := by
  have : w.heap.setIfInBounds b o = w.heap := by
    apply Array.ext_getElem?
    intro j
    rw [Array.getElem?_setIfInBounds]
    split
    · subst_vars
      have hlt : j < w.heap.size := by
        rcases Nat.lt_or_ge j w.heap.size with h' | h'
        · exact h'
        · rw [Array.getElem?_eq_none h'] at h; cases h
      rw [if_pos hlt]; exact h.symm
    · rfl
  rw [this]

theorem cdelete_sound {t : TypeId} {m k m' k' : Value} {s' : St M} {ts : Array TypeId} {args' : Array Value} {ty : TypeId} (h : cdelete P t m k s = some s') (hR : Rel P w0 ρ s w) (hm : VRel ρ m m') (hk : VRel ρ k k')
    (ht : ts[0]? = some t) (ha0 : args'[0]? = some m') (ha1 : args'[1]? = some k') :
    ∃ w', (Builtin.delete_ ts ty args').run P w = .ok undef w' ∧ Rel P w0 ρ s' w' ∧ Ext ρ s ρ s' := by
  unfold cdelete at h
  split at h
  · rename_i kt et r hu
    obtain ⟨i, rfl, hi⟩ := hm.map_inv
    split at h
    · rename_i es clock hat
      obtain ⟨o, ho, hbr⟩ := hR.blk _ _ _ hi hat
      obtain ⟨es', rfl, hes⟩ := hbr
      have hes : EsRel ρ es es' := hes
      split at h
      · rename_i j u hf
        cases h
        obtain ⟨hp, kd, hkd, hfn, hck⟩ := cfind_kind hf
        obtain ⟨u', hu1, hu2⟩ := (findNow_rel kd k es es'.toList 0 _ (by rw [Array.toArray_toList]; exact hes) hfn).2 j u rfl
        obtain ⟨_, hjl, _⟩ := findNow_bound kd k es 0 j u hfn
        rw [VRel.eq_of_plain 6 hp hk] at ha1
        refine ⟨_, ?_, hR.write hi hat rfl ⟨_, rfl, hes.erase j hjl⟩⟩
        simp only [Builtin.delete_, ht, ha0, ha1, Sem.run_bind, run_underlying' hu, Result.andThen_ok, run_getObj ho (by simp), run_checkKey hck, run_findKey hkd hu1, run_setObj ho (by simp), Sem.run_pure]
        rfl
      · rename_i hf
        cases h
        obtain ⟨hp, kd, hkd, hfn, hck⟩ := cfind_kind hf
        have hu1 := (findNow_rel kd k es es'.toList 0 _ (by rw [Array.toArray_toList]; exact hes) hfn).1 rfl
        rw [VRel.eq_of_plain 6 hp hk] at ha1
        refine ⟨w, ?_, hR, Ext.refl _ _⟩
        simp only [Builtin.delete_, ht, ha0, ha1, Sem.run_bind, run_underlying' hu, Result.andThen_ok, run_getObj ho (by simp), run_checkKey hck, run_findKey hkd hu1, run_setObj ho (by simp), Sem.run_pure, setObj_same ho]
        rfl
      · cases h
    · cases h
  · rename_i kt et hu
    split at h
    · rename_i hc
      cases h
      obtain rfl := hm.nilMap_inv
      have hck : (∃ i, P.underlying kt = some (.int i)) ∨ P.underlying kt = some .string ∨ P.underlying kt = some .bool := by
        have h2 := hc.2
        unfold keyKind at h2
        split at h2
        · rename_i i hi; exact .inl ⟨i, hi⟩
        · exact .inr (.inl (by assumption))
        · exact .inr (.inr (by assumption))
        · cases h2
      refine ⟨w, ?_, hR, Ext.refl _ _⟩
      simp only [Builtin.delete_, ht, ha0, ha1, Sem.run_bind, run_underlying' hu, Result.andThen_ok, run_checkKey hck, Sem.run_pure]
      rfl
    · cases h
  · cases h

theorem runSkip {α : Type} {x : Sem Unit} {w' : World} (h : x.run P w = .ok () w') : (do x; pure Next.skip : Sem Next).run P w = .ok .skip w' := by simp [h]

theorem ceff_sound {o : Oper} {ev ev' : Operand → Value} {v : Value} {s' : St M} (h : ceff P ev s o.op = some (v, s')) (hR : Rel P w0 ρ s w) (hev : ∀ x ∈ o.op.operands, VRel ρ (ev x) (ev' x)) :
    EffOk P w0 ρ s s' v ((execOp ev' o).run P w) := by
  obtain ⟨dst, op, ty, pos, after, guard⟩ := o
  simp only at h hev
  cases op <;> (try (simp only [ceff] at h; cases h; done)) <;> simp only [execOp]
  case store t a x =>
    simp only [ceff] at h
    have ha := hev a (by simp [Op.operands])
    split at h
    · rename_i ad had
      rw [had] at ha
      obtain ⟨a', e, har⟩ := ha.ptr_inv
      split at h
      · rename_i hok
        obtain ⟨s1, hs1, h⟩ := Option.map_eq_some_iff.1 h
        cases h
        obtain ⟨w', h1, h2, h3⟩ := cstore_sound hs1 hR har (hev x (by simp [Op.operands])) hok
        exact ⟨.skip, w', ρ, runSkip (α := Unit) (by rw [e]; simp only [Instr.storeAt, Instr.sureAddr, Sem.run_bind, Sem.run_pure, Result.andThen_ok, h1]), .inr ⟨rfl, rfl⟩, h2, h3⟩
      · cases h
    · cases h
  case mapUpdate t m k x =>
    simp only [ceff] at h
    obtain ⟨s1, hs1, h⟩ := Option.map_eq_some_iff.1 h
    cases h
    obtain ⟨w', h1, h2, h3⟩ := cmapset_sound hs1 hR (hev m (by simp [Op.operands])) (hev k (by simp [Op.operands])) (hev x (by simp [Op.operands]))
    exact ⟨.skip, w', ρ, runSkip (α := Unit) h1, .inr ⟨rfl, rfl⟩, h2, h3⟩
  case insert t m k x =>
    simp only [ceff] at h
    obtain ⟨s1, hs1, h⟩ := Option.map_eq_some_iff.1 h
    cases h
    obtain ⟨w', h1, h2, h3⟩ := cmapset_sound hs1 hR (hev m (by simp [Op.operands])) (hev k (by simp [Op.operands])) (hev x (by simp [Op.operands]))
    exact ⟨.skip, w', ρ, runSkip (α := Unit) h1, .inr ⟨rfl, rfl⟩, h2, h3⟩
  case call c =>
    simp only [ceff] at h
    have ha := VsRel.map (ρ := ρ) c.args ev ev' (fun x hx => hev x (by simp [Op.operands, Call.operands, hx]))
    have harg : ∀ {i : Nat} {x : Value}, (c.args[i]?).map ev = some x → ∃ x', (c.args.map ev')[i]? = some x' ∧ VRel ρ x x' := by
      intro i x hx
      exact ha.getElem? (by rw [Array.getElem?_map]; exact hx)
    have hrun : ∀ {b : Builtin} {x : Sem Value} {v' : Value} {w' : World}, c.callee = .builtin b → (∀ cs, Go.builtin b c.argTypes ty cs (c.args.map ev') = do pure (.value (← x))) → x.run P w = .ok v' w' →
        (do let d ← resolve ev' c ty; invoke d.target d.args : Sem Next).run P w = .ok (.value v') w' := by
      intro b x v' w' hc hb hx
      simp only [resolve, hc, Sem.run_bind, Sem.run_pure, Result.andThen_ok, invoke, hb, hx]
    split at h
    · rename_i hb
      obtain ⟨v', w', ρ', h1, h2, h3, h4⟩ := capp_sound (ty := ty) h hR ha
      exact ⟨.value v', w', ρ', hrun hb (fun _ => rfl) h1, .inl ⟨v', rfl, h2⟩, h3, h4⟩
    · rename_i hb
      split at h
      · rename_i t m k ht hm hk
        obtain ⟨s1, hs1, h⟩ := Option.map_eq_some_iff.1 h
        cases h
        obtain ⟨m', hm1, hm2⟩ := harg hm
        obtain ⟨k', hk1, hk2⟩ := harg hk
        obtain ⟨w', h1, h2, h3⟩ := cdelete_sound (ty := ty) hs1 hR hm2 hk2 ht hm1 hk1
        exact ⟨.value undef, w', ρ, hrun hb (fun _ => rfl) h1, .inl ⟨_, rfl, VRel.undef ρ⟩, h2, h3⟩
      · cases h
    · cases h
end
end Go.Cs
