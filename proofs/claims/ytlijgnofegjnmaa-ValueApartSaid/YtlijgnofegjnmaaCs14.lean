/- Code over the clean memory: its rules, what a function hands back, and what is left to be shown of a piece of code. A lemma file: no statement of its own. -/
import Derived.Test.YtlijgnofegjnmaaCs17
import Derived.Scope
set_option linter.unusedSimpArgs false
set_option linter.unusedVariables false
namespace Go.Cs
section
variable {M : Type} [Mem M] (P : Program) (w0 : World)

def CPost (ρ : Ren) (s : St M) (Q : Exit → Act → St M → Prop) : Exit → Act → World → Prop := fun e a2' w2 =>
  ∃ a2 s2 ρ2, Q e a2 s2 ∧ (∀ ch, e ≠ .panic ch) ∧ e ≠ .outgrown ∧ Rel P w0 ρ2 s2 w2 ∧ ActRel ρ2 a2 a2' ∧ Ext ρ s ρ2 s2

/-- A loop, from the head of a round on. -/
def CLoop (c : Code) (Q : Exit → Act → St M → Prop) (a : Act) (s : St M) : Prop :=
  ∀ ρ a' w, Rel P w0 ρ s w → ActRel ρ a a' → ∀ (b : Frame) (k : List Item) (cs : List Frame),
    ∃ e a2' w2, CPost P w0 ρ s Q e a2' w2 ∧ Arrives P (lone (b.at a' (.code c :: .inLoop c :: k)) cs w) b k cs e a2' w2

/-- A piece x of the body c of a scope. -/
def CScope (c x : Code) (Q : Exit → Act → St M → Prop) (a : Act) (s : St M) : Prop :=
  ∀ ρ a' w, Rel P w0 ρ s w → ActRel ρ a a' → ∀ (b : Frame) (k : List Item) (cs : List Frame),
    ∃ e a2' w2, CPost P w0 ρ s Q e a2' w2 ∧ Arrives P (lone (b.at a' (.code x :: .inScope c :: k)) cs w) b k cs e a2' w2

def cthen (K : Act → St M → Prop) (Q : Exit → Act → St M → Prop) : Exit → Act → St M → Prop
  | .normal, a, s => K a s
  | e, a, s => Q e a s

def cblock (id : Nat) (Q : Exit → Act → St M → Prop) : Exit → Act → St M → Prop
  | .exit j, a, s => if j = id then Q .normal a s else Q (.exit j) a s
  | e, a, s => Q e a s

def cscope (c : Code) (Q : Exit → Act → St M → Prop) (J : Code → Act → St M → Prop) : Exit → Act → St M → Prop
  | .goto l, a, s => match findLabel c l with
    | some rest => J rest a s
    | none => Q (.goto l) a s
  | e, a, s => Q e a s

/-- What a function hands back. -/
def cresult (tmps : Array Value) (s : St M) : ResultVar → Option Value
  | .tmp t => some (tmps.getD t undef)
  | .cell a t => match tmps.getD a undef with
    | .pointer (some ad) => cload P t ad s
    | _ => none

def cresults (fn : Func) (tmps : Array Value) (s : St M) : Option Value :=
  (fn.results.toList.mapM (cresult P tmps s)).map fun vs => match vs with
    | [v] => v
    | vs => .tuple vs.toArray

def cbody (fn : Func) (R : Value → St M → Prop) : Exit → Act → St M → Prop
  | .normal, a, s => match cresults P fn a.tmps s with
    | some v => R v s
    | none => False
  | .ret, a, s => match cresults P fn a.tmps s with
    | some v => R v s
    | none => False
  | _, _, _ => False

end

section
variable {M : Type} [Mem M] {P : Program} {w0 : World} {Q : Exit → Act → St M → Prop} {a : Act} {s : St M}

theorem CPost.trans {ρ ρ1 : Ren} {s s1 : St M} (hE : Ext ρ s ρ1 s1) {e : Exit} {a' : Act} {w : World} (h : CPost P w0 ρ1 s1 Q e a' w) : CPost P w0 ρ s Q e a' w :=
  let ⟨a2, s2, ρ2, h1, h2, h3, h4, h5, h6⟩ := h; ⟨a2, s2, ρ2, h1, h2, h3, h4, h5, hE.trans h6⟩

theorem CPost.mono {ρ : Ren} {s : St M} {Q' : Exit → Act → St M → Prop} (hq : ∀ e a s, Q e a s → Q' e a s) {e : Exit} {a' : Act} {w : World} (h : CPost P w0 ρ s Q e a' w) : CPost P w0 ρ s Q' e a' w :=
  let ⟨a2, s2, ρ2, h1, h2⟩ := h; ⟨a2, s2, ρ2, hq _ _ _ h1, h2⟩

theorem cwp_mono {c : Code} {Q' : Exit → Act → St M → Prop} (hq : ∀ e a s, Q e a s → Q' e a s) (h : CWp P w0 c Q a s) : CWp P w0 c Q' a s :=
  fun ρ a' w hR ha => wp_mono (h ρ a' w hR ha) fun _ _ _ h => CPost.mono (P := P) (w0 := w0) hq h

theorem cwp_skip (h : Q .normal a s) : CWp P w0 .skip Q a s := fun ρ a' w hR ha => wp_skip ⟨a, s, ρ, h, by simp, by simp, hR, ha, Ext.refl _ _⟩
theorem cwp_label {l : Nat} (h : Q .normal a s) : CWp P w0 (.label l) Q a s := fun ρ a' w hR ha => wp_label ⟨a, s, ρ, h, by simp, by simp, hR, ha, Ext.refl _ _⟩
theorem cwp_exit {id : Nat} (h : Q (.exit id) a s) : CWp P w0 (.exit id) Q a s := fun ρ a' w hR ha => wp_exit ⟨a, s, ρ, h, by simp, by simp, hR, ha, Ext.refl _ _⟩
theorem cwp_goto {l : Nat} (h : Q (.goto l) a s) : CWp P w0 (.goto l) Q a s := fun ρ a' w hR ha => wp_goto ⟨a, s, ρ, h, by simp, by simp, hR, ha, Ext.refl _ _⟩
theorem cwp_ret (h : Q .ret a s) : CWp P w0 .ret Q a s := fun ρ a' w hR ha => wp_ret ⟨a, s, ρ, h, by simp, by simp, hR, ha, Ext.refl _ _⟩

theorem cwp_seq {x y : Code} (h : CWp P w0 x (cthen (CWp P w0 y Q) Q) a s) : CWp P w0 (.seq x y) Q a s := by
  intro ρ a' w hR ha
  refine wp_seq (wp_mono (h ρ a' w hR ha) ?_)
  rintro e a2' w2 ⟨a2, s2, ρ2, hq, h1, h2, hR2, ha2, hE⟩
  cases e with
  | normal => exact wp_mono (hq ρ2 a2' w2 hR2 ha2) fun _ _ _ h => CPost.trans (P := P) (w0 := w0) hE h
  | panic ch => exact absurd rfl (h1 ch)
  | outgrown => exact absurd rfl h2
  | exit id => exact ⟨a2, s2, ρ2, hq, h1, h2, hR2, ha2, hE⟩
  | goto l => exact ⟨a2, s2, ρ2, hq, h1, h2, hR2, ha2, hE⟩
  | ret => exact ⟨a2, s2, ρ2, hq, h1, h2, hR2, ha2, hE⟩

theorem cwp_cond {c : Operand} {x y : Code} {t : Bool} (hc : opOk c = true) (he : a.eval c = .bool t) (h : if t = true then CWp P w0 x Q a s else CWp P w0 y Q a s) : CWp P w0 (.cond c x y) Q a s := by
  intro ρ a' w hR ha
  have hv := ev_rel ha.tmps hc
  rw [he] at hv
  refine wp_cond hv.bool_inv ?_
  cases t
  · exact h ρ a' w hR ha
  · exact h ρ a' w hR ha

theorem cwp_block {id : Nat} {c : Code} (h : CWp P w0 c (cblock id Q) a s) : CWp P w0 (.block id c) Q a s := by
  intro ρ a' w hR ha
  refine wp_block (wp_mono (h ρ a' w hR ha) ?_)
  rintro e a2' w2 ⟨a2, s2, ρ2, hq, h1, h2, hR2, ha2, hE⟩
  cases e with
  | panic ch => exact absurd rfl (h1 ch)
  | outgrown => exact absurd rfl h2
  | exit j =>
    simp only [cblock] at hq
    simp only [Exit.inBlock]
    split at hq
    · rename_i e; rw [if_pos e]; exact ⟨a2, s2, ρ2, hq, by simp, by simp, hR2, ha2, hE⟩
    · rename_i e; rw [if_neg e]; exact ⟨a2, s2, ρ2, hq, by simp, by simp, hR2, ha2, hE⟩
  | normal => exact ⟨a2, s2, ρ2, hq, h1, h2, hR2, ha2, hE⟩
  | goto l => exact ⟨a2, s2, ρ2, hq, h1, h2, hR2, ha2, hE⟩
  | ret => exact ⟨a2, s2, ρ2, hq, h1, h2, hR2, ha2, hE⟩

theorem cwp_loop {c : Code} (h : CLoop P w0 c Q a s) : CWp P w0 (.loop c) Q a s := by
  intro ρ a' w hR ha b k cs
  obtain ⟨e, a2', w2, hq, harr⟩ := h ρ a' w hR ha b k cs
  exact ⟨e, a2', w2, hq, .of_steps (.one step_loop) harr⟩

/-- A round of a loop. -/
theorem cloop_round {c : Code} (h : CWp P w0 c (cthen (CLoop P w0 c Q) Q) a s) : CLoop P w0 c Q a s := by
  intro ρ a' w hR ha b k cs
  obtain ⟨e, a1, w1, ⟨a2, s2, ρ2, hq, h1, h2, hR2, ha2, hE⟩, harr⟩ := h ρ a' w hR ha b (.inLoop c :: k) cs
  cases e with
  | normal =>
    obtain ⟨e2, a3, w3, hq3, harr3⟩ := hq ρ2 a1 w1 hR2 ha2 b k cs
    exact ⟨e2, a3, w3, CPost.trans (P := P) (w0 := w0) hE hq3, .of_steps (Steps.trans harr (.one step_inLoop)) harr3⟩
  | panic ch => exact absurd rfl (h1 ch)
  | outgrown => exact absurd rfl h2
  | exit id => exact ⟨_, a1, w1, ⟨a2, s2, ρ2, hq, h1, h2, hR2, ha2, hE⟩, .pass (x := .inLoop c) rfl (fun _ _ => .inl (by simp)) harr⟩
  | goto l => exact ⟨_, a1, w1, ⟨a2, s2, ρ2, hq, h1, h2, hR2, ha2, hE⟩, .pass (x := .inLoop c) rfl (fun _ _ => .inl (by simp)) harr⟩
  | ret => exact ⟨_, a1, w1, ⟨a2, s2, ρ2, hq, h1, h2, hR2, ha2, hE⟩, .pass (x := .inLoop c) rfl (fun _ _ => .inl (by simp)) harr⟩

theorem cwp_scope {c : Code} (h : CScope P w0 c c Q a s) : CWp P w0 (.scope c) Q a s := by
  intro ρ a' w hR ha b k cs
  obtain ⟨e, a2', w2, hq, harr⟩ := h ρ a' w hR ha b k cs
  exact ⟨e, a2', w2, hq, .of_steps (.one step_scope) harr⟩

/-- A piece of a scope's body, up to the next jump. -/
theorem cscope_piece {c x : Code} (h : CWp P w0 x (cscope c Q (fun rest => CScope P w0 c rest Q)) a s) : CScope P w0 c x Q a s := by
  intro ρ a' w hR ha b k cs
  obtain ⟨e, a1, w1, ⟨a2, s2, ρ2, hq, h1, h2, hR2, ha2, hE⟩, harr⟩ := h ρ a' w hR ha b (.inScope c :: k) cs
  cases e with
  | normal => exact ⟨_, a1, w1, ⟨a2, s2, ρ2, hq, h1, h2, hR2, ha2, hE⟩, Steps.trans harr (.one step_inScope)⟩
  | panic ch => exact absurd rfl (h1 ch)
  | outgrown => exact absurd rfl h2
  | exit id => exact ⟨_, a1, w1, ⟨a2, s2, ρ2, hq, h1, h2, hR2, ha2, hE⟩, fun k' hk => harr k' (by simp [exitTo, hk])⟩
  | goto l =>
    simp only [cscope] at hq
    split at hq
    · rename_i rest hf
      have hg : gotoIn l (.inScope c :: k) = some (.code rest :: .inScope c :: k) := by simp [gotoIn, hf]
      obtain ⟨e2, a3, w3, hq3, harr3⟩ := hq ρ2 a1 w1 hR2 ha2 b k cs
      exact ⟨e2, a3, w3, CPost.trans (P := P) (w0 := w0) hE hq3, .of_steps (harr _ hg) harr3⟩
    · rename_i hf
      exact ⟨_, a1, w1, ⟨a2, s2, ρ2, hq, h1, h2, hR2, ha2, hE⟩, fun k' hk => harr k' (by simp [gotoIn, hf, hk])⟩
  | ret => exact ⟨_, a1, w1, ⟨a2, s2, ρ2, hq, h1, h2, hR2, ha2, hE⟩, harr⟩

theorem mapM_results {ρ : Ren} {w : World} {t t' : Array Value} (ht : VsRel ρ t t') (hR : Rel P w0 ρ s w) : ∀ (l : List ResultVar) (vs : List Value), l.mapM (cresult P t s) = some vs →
    ∃ vs', (l.mapM (fun | .tmp i => pure (t'.getD i undef) | .cell a ty => do loadVar ty (← asAddr (t'.getD a undef)) : ResultVar → Sem Value)).run P w = .ok vs' w ∧ LRel ρ vs vs' := by
  intro l
  induction l with
  | nil => intro vs h; simp at h; subst h; exact ⟨[], rfl, .nil⟩
  | cons r l ih =>
    intro vs h
    simp only [List.mapM_cons, Option.bind_eq_bind, Option.bind_eq_some_iff] at h
    obtain ⟨v, hv, vs1, hvs, h⟩ := h
    cases h
    obtain ⟨vs', h1, h2⟩ := ih vs1 hvs
    have hr : ∃ v', ((fun | .tmp i => pure (t'.getD i undef) | .cell a ty => do loadVar ty (← asAddr (t'.getD a undef)) : ResultVar → Sem Value) r).run P w = .ok v' w ∧ VRel ρ v v' := by
      cases r with
      | tmp i => simp only [cresult, Option.some.injEq] at hv; subst hv; exact ⟨_, rfl, ht.getD i⟩
      | cell ad ty =>
        simp only [cresult] at hv
        split at hv
        · rename_i x hx
          have := ht.getD ad
          rw [hx] at this
          obtain ⟨x', e, hxr⟩ := this.ptr_inv
          obtain ⟨v', h3, h4⟩ := cload_sound hv hR hxr
          exact ⟨v', by simp only [e, asAddr, Sem.run_bind, Sem.run_pure, Result.andThen_ok, h3], h4⟩
        · cases hv
    obtain ⟨v', h3, h4⟩ := hr
    refine ⟨v' :: vs', ?_, .cons h4 h2⟩
    simp only [List.mapM_cons, Sem.run_bind, h3, h1, Result.andThen_ok, Sem.run_pure]

theorem results_sound {fn : Func} {ρ : Ren} {w : World} {t t' : Array Value} {v : Value} (h : cresults P fn t s = some v) (ht : VsRel ρ t t') (hR : Rel P w0 ρ s w) :
    ∃ v', (results fn t').run P w = .ok v' w ∧ VRel ρ v v' := by
  unfold cresults at h
  obtain ⟨vs, hvs, hv⟩ := Option.map_eq_some_iff.1 h
  obtain ⟨vs', h1, h2⟩ := mapM_results ht hR _ _ hvs
  have hrun : (results fn t').run P w = .ok (if h : vs'.toArray.size = 1 then vs'.toArray[0] else .tuple vs'.toArray) w := by
    unfold results
    rw [Sem.run_bind, Array.mapM_eq_mapM_toList, Sem.run_map]
    erw [h1]
    rfl
  refine ⟨_, hrun, ?_⟩
  have hl := h2.length
  split at hv
  · rename_i u
    cases h2 with
    | cons h3 h4 => cases h4; subst hv; simpa using h3
  · rename_i hne
    subst hv
    have hs : vs.length ≠ 1 := by
      intro he
      match vs, he with
      | [u], _ => exact hne u rfl
    rw [dif_neg (by simp; omega)]
    have := VsRel.ofL h2
    exact .tuple (by simpa using hs) this.1 this.2

/-- A function, by its body. -/
theorem ccalls_enter {f : FuncId} {fn : Func} {c : Code} {args : Array Value} {R : Value → St M → Prop} (hf : P.funcs[f]? = some fn) (hb : fn.body = some c)
    (h : CWp P w0 c (cbody P fn R) { tmps := args ++ Array.replicate (fn.ntmps - args.size) undef, defers := [] } s) : CCalls P w0 f args s R := by
  intro ρ w args' hR ha
  refine calls_of_wp hf hb (wp_mono (h ρ { tmps := args' ++ Array.replicate (fn.ntmps - args'.size) undef, defers := [] } w hR ⟨?_, rfl, rfl⟩) ?_)
  · rw [← ha.1]
    exact append_rel ha ⟨rfl, fun i hi => by simp at hi; simp [Array.getD, hi]; exact VRel.undef ρ⟩
  · rintro e a2' w2 ⟨a2, s2, ρ2, hq, h1, h2, hR2, ha2, hE⟩
    cases e with
    | normal =>
      simp only [cbody] at hq
      split at hq
      · rename_i v hv
        obtain ⟨v', h3, h4⟩ := results_sound hv ha2.tmps hR2
        exact ⟨ha2.d', v', h3, v, s2, ρ2, v', rfl, hq, h4, hR2, hE⟩
      · exact hq.elim
    | ret =>
      simp only [cbody] at hq
      split at hq
      · rename_i v hv
        obtain ⟨v', h3, h4⟩ := results_sound hv ha2.tmps hR2
        exact ⟨ha2.d', v', h3, v, s2, ρ2, v', rfl, hq, h4, hR2, hE⟩
      · exact hq.elim
    | panic ch => exact hq.elim
    | outgrown => exact hq.elim
    | exit id => exact hq.elim
    | goto l => exact hq.elim
end
end Go.Cs
