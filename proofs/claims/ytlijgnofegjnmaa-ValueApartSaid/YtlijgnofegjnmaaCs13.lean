/- Pieces of code over the clean memory: one operation, a region in its order. A lemma file: no statement of its own. -/
import Derived.Test.YtlijgnofegjnmaaCs12
set_option linter.unusedSimpArgs false
set_option linter.unusedVariables false
namespace Go.Cs
section
variable {M : Type} [Mem M] (P : Program) (w0 : World)

/-- A call, over the clean memory. -/
def CCalls (f : FuncId) (args : Array Value) (s : St M) (R : Value → St M → Prop) : Prop :=
  ∀ ρ w args', Rel P w0 ρ s w → VsRel ρ args args' →
    Calls P f args' w fun e w' => ∃ v s' ρ' v', e = .returned v' ∧ R v s' ∧ VRel ρ' v v' ∧ Rel P w0 ρ' s' w' ∧ Ext ρ s ρ' s'

/-- Which function a call goes to, with what. -/
def ccallee (ev : Operand → Value) (c : Call) : Option (FuncId × Array Value) :=
  match c.callee with
  | .value f => match ev f with
    | .func (.func f) first captured => match P.funcs[f]? with
      | some fn => if fn.body.isSome && fn.name != "runtime.NumGoroutine" then some (f, first ++ c.args.map ev ++ captured) else none
      | none => none
    | _ => none
  | _ => none

def ccall (ev : Operand → Value) (s : St M) (K : Value → St M → Prop) : Op → Prop
  | .call c => match ccallee P ev c with
    | some (f, args) => CCalls P w0 f args s K
    | none => False
  | _ => False

/-- An operation, over the clean memory. -/
def cstep (o : Oper) (ev : Operand → Value) (s : St M) (K : Value → St M → Prop) : Prop :=
  (∃ v, cpure P ev o.type o.op = some v ∧ K v s) ∨ (∃ v, cread P ev s o.op = some v ∧ K v s) ∨ (∃ B f, calloc P ev o.op = some (B, f) ∧ K (f s.next) (s.new B)) ∨
  (∃ v s', ceff P ev s o.op = some (v, s') ∧ K v s') ∨ ccall P w0 ev s K o.op

/-- An operand that is known to be alike on both sides. -/
def opOk : Operand → Bool
  | .tmp _ => true
  | .const v => plain 6 v
  | .global _ => false
  | .func _ => true

/-- Is an operation wanted? None: it is not known. -/
def cwanted (ops : Array Oper) (o : Oper) (tmps : Array Value) : Option Bool :=
  match o.guard with
  | none => some true
  | some (j, want) => match (ops[j]?).bind (·.dst) with
    | none => some false
    | some d => match tmps[d]? with
      | some (.bool b) => some (b == want)
      | some (.tuple cs) => if cs.size = 1 then none else some false
      | _ => some false

/-- The operations of a region, in this order. -/
def cregion (ops : Array Oper) (Q : Act → St M → Prop) : List Nat → Act → St M → Prop
  | [], a, s => Q a s
  | i :: rest, a, s => match ops[i]? with
    | none => cregion ops Q rest a s
    | some o => match cwanted ops o a.tmps with
      | some true => match o.op.operands.all opOk with
        | true => cstep P w0 o a.eval s fun v s' => cregion ops Q rest (a.put o.dst v) s'
        | false => False
      | some false => cregion ops Q rest (a.put o.dst undef) s
      | none => False

/-- The variables of a frame, alike. -/
structure ActRel (ρ : Ren) (a a' : Act) : Prop where
  tmps : VsRel ρ a.tmps a'.tmps
  d : a.defers = []
  d' : a'.defers = []

/-- A piece of code, over the clean memory. -/
def CWp (c : Code) (Q : Exit → Act → St M → Prop) (a : Act) (s : St M) : Prop :=
  ∀ ρ a' w, Rel P w0 ρ s w → ActRel ρ a a' →
    c.wp P (fun e a2' w2 => ∃ a2 s2 ρ2, Q e a2 s2 ∧ (∀ ch, e ≠ .panic ch) ∧ e ≠ .outgrown ∧ Rel P w0 ρ2 s2 w2 ∧ ActRel ρ2 a2 a2' ∧ Ext ρ s ρ2 s2) a' w
end

section
variable {M : Type} [Mem M] {P : Program} {w0 : World} {ρ : Ren} {s : St M} {w : World}

theorem CCalls.mono {f : FuncId} {args : Array Value} {R R' : Value → St M → Prop} (h : CCalls P w0 f args s R) (hr : ∀ v s', R v s' → R' v s') : CCalls P w0 f args s R' :=
  fun ρ w args' hR ha => (h ρ w args' hR ha).mono fun _ _ ⟨v, s', ρ', v', e, r, rest⟩ => ⟨v, s', ρ', v', e, hr _ _ r, rest⟩

theorem ccall_mono {op : Op} {ev : Operand → Value} {K K' : Value → St M → Prop} (hk : ∀ v s', K v s' → K' v s') (h : ccall P w0 ev s K op) : ccall P w0 ev s K' op := by
  cases op <;> simp only [ccall] at h ⊢
  split at h
  · rename_i f args hf; exact CCalls.mono h hk
  · exact h

theorem cstep_mono {o : Oper} {ev : Operand → Value} {K K' : Value → St M → Prop} (hk : ∀ v s', K v s' → K' v s') (h : cstep P w0 o ev s K) : cstep P w0 o ev s K' := by
  rcases h with ⟨v, h1, h2⟩ | ⟨v, h1, h2⟩ | ⟨B, f, h1, h2⟩ | ⟨v, s', h1, h2⟩ | h
  · exact .inl ⟨v, h1, hk _ _ h2⟩
  · exact .inr (.inl ⟨v, h1, hk _ _ h2⟩)
  · exact .inr (.inr (.inl ⟨B, f, h1, hk _ _ h2⟩))
  · exact .inr (.inr (.inr (.inl ⟨v, s', h1, hk _ _ h2⟩)))
  · exact .inr (.inr (.inr (.inr (ccall_mono hk h))))

theorem ev_rel {a a' : Act} (h : VsRel ρ a.tmps a'.tmps) {x : Operand} (hx : opOk x = true) : VRel ρ (a.eval x) (a'.eval x) := by
  cases x with
  | tmp t => exact h.getD t
  | const v => exact VRel.of_plain 6 hx
  | global g => simp [opOk] at hx
  | func f => exact .func _ (by simp) rfl (fun i hi => by simp at hi) rfl (fun i hi => by simp at hi)

/-- An operation, both ways at once: what is known of its operands is enough. -/
theorem cstep_sound {o : Oper} {a a' : Act} {K : Value → St M → Prop} (h : cstep P w0 o a.eval s K) (hR : Rel P w0 ρ s w) (hev : ∀ x ∈ o.op.operands, VRel ρ (a.eval x) (a'.eval x)) (hd' : a'.defers = [])
    {next : Act → World → Prop} {Q : Exit → Act → World → Prop}
    (hn : ∀ v s' v' w' ρ', K v s' → VRel ρ' v v' → Rel P w0 ρ' s' w' → Ext ρ s ρ' s' → next (a'.put o.dst v') w') : o.wp P a' w next Q := by
  unfold Oper.wp
  rcases h with ⟨v, hv, h⟩ | ⟨v, hv, h⟩ | ⟨B, f, hB, h⟩ | ⟨v, s', hv, h⟩ | h
  · obtain ⟨v', h1, h2⟩ := cpure_sound (ev' := a'.eval) hv hev w
    rw [h1]
    exact hn _ _ _ _ _ h h2 hR (Ext.refl _ _)
  · obtain ⟨v', h1, h2⟩ := cread_sound (ev' := a'.eval) hv hR hev
    rw [h1]
    exact hn _ _ _ _ _ h h2 hR (Ext.refl _ _)
  · obtain ⟨obj, i, n, v', h1, h2, h3⟩ := calloc_sound (ev' := a'.eval) (w := w) hB hev (fun _ => trivial)
    obtain ⟨h4, h5⟩ := h3 s.next (hR.none_next (Nat.le_refl _))
    obtain ⟨h6, h7⟩ := (hR.drew n).alloc h2 h4
    rw [h1]
    exact hn _ _ _ _ _ h h5 h6 h7
  · obtain ⟨n, w', ρ', h1, h2, h3, h4⟩ := ceff_sound (ev' := a'.eval) hv hR hev
    rw [h1]
    rcases h2 with ⟨v', rfl, h2⟩ | ⟨rfl, rfl⟩
    · exact hn _ _ _ _ _ h h2 h3 h4
    · exact hn _ _ _ _ _ h (VRel.undef _) h3 h4
  · unfold ccall at h
    split at h
    · rename_i c hc
      split at h
      · rename_i f args hf
        unfold ccallee at hf
        split at hf
        · rename_i fo hfo
          split at hf
          · rename_i f0 first captured hfv
            split at hf
            · rename_i fn hfn
              split at hf
              · rename_i hb
                cases hf
                simp only [Bool.and_eq_true, bne_iff_ne, ne_eq] at hb
                have hx := hev fo (by rw [hc]; simp [Op.operands, Call.operands, hfo])
                rw [hfv] at hx
                obtain ⟨first', captured', e, h1, h2⟩ := hx.func_inv
                have ha := VsRel.map (ρ := ρ) c.args a.eval a'.eval (fun x hx => hev x (by rw [hc]; simp [Op.operands, Call.operands, hx]))
                have hrun : (execOp a'.eval o).run P w = .ok (.enter f (first' ++ c.args.map a'.eval ++ captured')) w := by
                  simp only [execOp, hc, resolve, hfo, e, Deferred.ofValue, Sem.run_bind, Sem.run_pure, Result.andThen_ok, invoke, callFunc, program, Sem.run, hfn]
                  rw [if_neg (by simpa using hb.2), if_neg (by intro hn; have h9 := hb.1; cases h8 : fn.body <;> simp_all)]
                  rfl
                rw [hrun]
                refine (h ρ w _ hR (append_rel (append_rel h1 ha) h2)).mono ?_
                rintro e w' ⟨v, s', ρ', v', rfl, hk, h3, h4, h5⟩
                exact hn _ _ _ _ _ hk h3 h4 h5
              · cases hf
            · cases hf
          · cases hf
        · cases hf
      · exact h.elim
    · exact h.elim

theorem cwanted_sound {ops : Array Oper} {o : Oper} {t t' : Array Value} {b : Bool} (h : cwanted ops o t = some b) (hr : ∀ j want d, o.guard = some (j, want) → (ops[j]?).bind (·.dst) = some d → d < t.size ∨ d < t'.size → VRel ρ (t.getD d undef) (t'.getD d undef)) (hsz : t.size = t'.size) :
    Region.wanted o (yielded ops t') = b := by
  unfold cwanted at h
  unfold Region.wanted
  split at h
  · rename_i hg; cases h; rw [hg]
  · rename_i j want hg
    rw [hg]
    simp only
    unfold yielded
    split at h
    · rename_i hd
      cases h
      rw [hd]
      simp
    · rename_i d hd
      rw [hd]
      simp only [Option.bind_some]
      by_cases hlt : d < t.size
      · have hlt' : d < t'.size := hsz ▸ hlt
        have hv := hr j want d hg hd (.inl hlt)
        rw [Array.getElem?_eq_getElem hlt'] 
        rw [Array.getElem?_eq_getElem hlt] at h
        simp only [Array.getD, hlt, hlt', dif_pos] at hv
        change VRel ρ t[d] t'[d] at hv
        generalize t[d] = x at h hv
        generalize t'[d] = x' at hv ⊢
        split at h
        · rename_i b' hx; cases hx; cases h; rw [hv.bool_inv]; cases b' <;> cases want <;> rfl
        · rename_i cs hx
          cases hx
          split at h
          · cases h
          · rename_i hne
            cases h
            obtain ⟨cs', rfl, _⟩ := hv.tuple_inv hne
            cases want <;> rfl
        · rename_i hb ht
          cases h
          cases hv <;> first
            | (exact absurd rfl (hb _))
            | (exact absurd rfl (ht _))
            | (cases want <;> rfl)
      · have hlt' : ¬ d < t'.size := hsz ▸ hlt
        rw [Array.getElem?_eq_none (Nat.le_of_not_lt hlt)] at h
        rw [Array.getElem?_eq_none (Nat.le_of_not_lt hlt')]
        cases h
        cases want <;> rfl

/-- A region in the order of its text. -/
theorem cwp_region {id : Nat} {ops : Array Oper} {Q : Exit → Act → St M → Prop} {a : Act} (h : cregion P w0 ops (fun a s => Q .normal a s) (List.range ops.size) a s) : CWp P w0 (.region id ops false) Q a s := by
  intro ρ a' w hR ha
  refine wp_region ?_
  generalize List.range ops.size = l at h
  have key : ∀ (l : List Nat) (a : Act) (s1 : St M) (a' : Act) (w : World) (ρ1 : Ren), cregion P w0 ops (fun a s => Q .normal a s) l a s1 → Rel P w0 ρ1 s1 w → ActRel ρ1 a a' → Ext ρ s ρ1 s1 →
      wpOps P ops (fun e a2' w2 => ∃ a2 s2 ρ2, Q e a2 s2 ∧ (∀ ch, e ≠ .panic ch) ∧ e ≠ .outgrown ∧ Rel P w0 ρ2 s2 w2 ∧ ActRel ρ2 a2 a2' ∧ Ext ρ s ρ2 s2) l a' w := by
    intro l
    induction l with
    | nil => intro a s1 a' w ρ1 h hR ha hE; exact ⟨a, s1, ρ1, h, by simp, by simp, hR, ha, hE⟩
    | cons i rest ih =>
      intro a s1 a' w ρ1 h hR ha hE
      simp only [wpOps]
      simp only [cregion] at h
      split
      · rename_i ho; rw [ho] at h; exact ih _ _ _ _ _ h hR ha hE
      · rename_i o ho
        rw [ho] at h
        simp only at h
        split at h
        · rename_i hw
          rw [cwanted_sound hw (fun j want d _ _ _ => ha.tmps.getD d) ha.tmps.1]
          simp only [if_true]
          left
          split at h
          case h_2 => exact h.elim
          rename_i hop
          refine cstep_sound h hR (fun x hx => ev_rel ha.tmps (by have := hop; rw [Array.all_eq_true_iff_forall_mem] at this; exact this x hx)) ha.d' ?_
          intro v s' v' w' ρ' hk hv hR' hE'
          refine ih _ _ _ _ _ hk hR' ⟨?_, ?_, ?_⟩ (hE.trans hE')
          · unfold Act.put
            split
            · exact (ha.tmps.mono hE'.le).set _ hv
            · exact ha.tmps.mono hE'.le
          · unfold Act.put; split <;> exact ha.d
          · unfold Act.put; split <;> exact ha.d'
        · rename_i hw
          rw [cwanted_sound hw (fun j want d _ _ _ => ha.tmps.getD d) ha.tmps.1]
          simp only [Bool.false_eq_true, if_false]
          refine ih _ _ _ _ _ h hR ⟨?_, ?_, ?_⟩ hE
          · unfold Act.put
            split
            · exact ha.tmps.set _ (VRel.undef _)
            · exact ha.tmps
          · unfold Act.put; split <;> exact ha.d
          · unfold Act.put; split <;> exact ha.d'
        · exact h.elim
  exact key l a s a' w ρ h hR ha (Ext.refl _ _)
end
end Go.Cs
