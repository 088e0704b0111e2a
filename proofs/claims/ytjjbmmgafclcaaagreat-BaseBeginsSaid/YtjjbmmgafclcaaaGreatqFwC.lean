/- The clean memory, part C. A lemma file: no statement of its own. -/
import Derived.Test.YtjjbmmgafclcaaaGreatqFwB
import Derived.OrdersIn
import Derived.OwnWalkIn
import Derived.RangeFuncSeq
import Derived.Scope
import Derived.RangeFuncRecord
import Derived.ControlIn
set_option linter.unusedSimpArgs false
set_option linter.unusedVariables false
namespace Go.Cs
section
variable {M : Type} [Mem M] (P : Program) (w0 : World)
def rF (ro : Option Nat) : Fence := { Fence.wide with round := ro }
theorem callsIn_rF {ro : Option Nat} {n : Nat} {P : Program} {f : FuncId} {args : Array Value} {w : World} {R : Ending → World → Prop} : CallsIn (rF ro) n P f args w R ↔ Calls P f args w R := callsIn_wide
theorem room_rF (ro : Option Nat) (n : Nat) : (rF ro).room n := room_wide n
abbrev CEnd (ρ : Ren) (s : St M) (R : Value → St M → Prop) : Ending → World → Prop := fun e w' => ∃ v s' ρ' v', e = .returned v' ∧ R v s' ∧ VRel ρ' v v' ∧ Rel P w0 ρ' s' w' ∧ Ext ρ s ρ' s'
def CCalls (f : FuncId) (args : Array Value) (s : St M) (R : Value → St M → Prop) : Prop :=
  ∀ ρ w args', Rel P w0 ρ s w → VsRel ρ args args' →
    Calls P f args' w fun e w' => ∃ v s' ρ' v', e = .returned v' ∧ R v s' ∧ VRel ρ' v v' ∧ Rel P w0 ρ' s' w' ∧ Ext ρ s ρ' s'
def CRound (l : Nat) (args : Array Value) (s : St M) (R : Value → St M → Prop) : Prop :=
  ∀ ρ w args' i ro, Rel P w0 ρ s w → VsRel ρ args args' → ρ l = some i → YieldAt (rF ro) 0 P i.blk args' w (CEnd P w0 ρ s R)
def ccallee (ev : Operand → Value) (c : Call) : Option (FuncId × Array Value) :=
  match c.callee with
  | .value f => match ev f with
    | .func (.func f) first captured => match P.funcs[f]? with
      | some fn => if fn.body.isSome && fn.name != "runtime.NumGoroutine" then some (f, first ++ c.args.map ev ++ captured) else none
      | none => none
    | _ => none
  | _ => none
def cyield (ev : Operand → Value) (c : Call) : Option (Nat × Array Value) :=
  match c.callee with
  | .value f => match ev f with
    | .func (.yield l) _ _ => some (l, c.args.map ev)
    | _ => none
  | _ => none
def ccall (ev : Operand → Value) (s : St M) (K : Value → St M → Prop) : Op → Prop
  | .call c => match ccallee P ev c with
    | some (f, args) => CCalls P w0 f args s K
    | none => match cyield ev c with
      | some (l, args) => CRound P w0 l args s K
      | none => False
  | _ => False
def cstep (o : Oper) (ev : Operand → Value) (s : St M) (K : Value → St M → Prop) : Prop :=
  (∃ v, cpure P ev o.type o.op = some v ∧ K v s) ∨ (∃ v, cread P ev s o.op = some v ∧ K v s) ∨ (∃ B f, calloc P ev o.op = some (B, f) ∧ K (f s.next) (s.new B)) ∨
  (∃ v s', ceff P ev s o.op = some (v, s') ∧ K v s') ∨ ccall P w0 ev s K o.op
def opOk : Operand → Bool
  | .tmp _ => true
  | .const v => plain 6 v
  | .global _ => false
  | .func _ => true
def cwanted (ops : Array Oper) (o : Oper) (tmps : Array Value) : Option Bool :=
  match o.guard with
  | none => some true
  | some (j, want) => match (ops[j]?).bind (·.dst) with
    | none => some false
    | some d => match tmps[d]? with
      | some (.bool b) => some (b == want)
      | some (.tuple cs) => if cs.size = 1 then none else some false
      | _ => some false
def cregion (ops : Array Oper) (Q : Act → St M → Prop) : List Nat → Act → St M → Prop
  | [], a, s => Q a s
  | i :: rest, a, s => match ops[i]? with
    | none => cregion ops Q rest a s
    | some o => match cwanted ops o a.tmps with
      | some true => match o.op.operands.all opOk with
        | true => cstep P w0 o a.eval s fun v s' => cregion ops Q rest (a.put o.dst v) s'
        | false => False
      | some false => cregion ops Q rest (a.put o.dst undef) s
      | none => False
structure DK where
  base : Nat
  ro : Option Nat
def marksOk (ρ : Ren) (base : Nat) : List Deferred → Prop
  | [] => True
  | m :: ds => (∃ b i, base ≤ b ∧ ρ b = some i ∧ i.kd = 1 ∧ m = { target := .collected i.blk, args := #[] } ∧ m ∉ ds) ∧ marksOk ρ base ds
structure DOk (k : DK) (ρ : Ren) (ds : List Deferred) : Prop where
  marks : marksOk ρ k.base ds
  round : ∀ l, k.ro = some l → ∃ b i, ρ b = some i ∧ i.kd = 2 ∧ i.blk = l
theorem marksOk.mono {ρ ρ' : Ren} (h : ρ.le ρ') {base : Nat} : ∀ {ds : List Deferred}, marksOk ρ base ds → marksOk ρ' base ds
  | [], _ => trivial
  | _ :: _, ⟨⟨b, i, h1, h2, h3⟩, hr⟩ => ⟨⟨b, i, h1, h _ _ h2, h3⟩, marksOk.mono h hr⟩
theorem DOk.mono {ρ ρ' : Ren} (h : ρ.le ρ') {k : DK} {ds : List Deferred} (hd : DOk k ρ ds) : DOk k ρ' ds :=
  ⟨hd.marks.mono h, fun l hl => let ⟨b, i, h1, h2⟩ := hd.round l hl; ⟨b, i, h _ _ h1, h2⟩⟩
structure ActRel (k : DK) (ρ : Ren) (a a' : Act) : Prop where
  tmps : VsRel ρ a.tmps a'.tmps
  d : a.defers = []
  d' : DOk k ρ a'.defers
def CPost (k : DK) (ρ : Ren) (s : St M) (Q : Exit → Act → St M → Prop) : Exit → Act → World → Prop := fun e a2' w2 =>
  ∃ a2 s2 ρ2, Q e a2 s2 ∧ (∀ ch, e ≠ .panic ch) ∧ e ≠ .outgrown ∧ Rel P w0 ρ2 s2 w2 ∧ ActRel k ρ2 a2 a2' ∧ Ext ρ s ρ2 s2
def CWp (c : Code) (Q : Exit → Act → St M → Prop) (a : Act) (s : St M) : Prop :=
  ∀ k ρ a' w, Rel P w0 ρ s w → ActRel k ρ a a' → k.base ≤ s.next → c.wpIn (rF k.ro) 0 P (CPost P w0 k ρ s Q) a' w
end
section
variable {M : Type} [Mem M] {P : Program} {w0 : World} {ρ : Ren} {s : St M} {w : World}
theorem CCalls.mono {f : FuncId} {args : Array Value} {R R' : Value → St M → Prop} (h : CCalls P w0 f args s R) (hr : ∀ v s', R v s' → R' v s') : CCalls P w0 f args s R' :=
  fun ρ w args' hR ha => (h ρ w args' hR ha).mono fun _ _ ⟨v, s', ρ', v', e, r, rest⟩ => ⟨v, s', ρ', v', e, hr _ _ r, rest⟩
theorem CRound.mono {l : Nat} {args : Array Value} {R R' : Value → St M → Prop} (h : CRound P w0 l args s R) (hr : ∀ v s', R v s' → R' v s') : CRound P w0 l args s R' := by
  intro ρ w args' i ro hR ha hi
  obtain ⟨fn, tmps, assign, body, h1, h2⟩ := h ρ w args' i ro hR ha hi
  exact ⟨fn, tmps, assign, body, h1, h2.mono fun _ _ ⟨v, s', ρ', v', e, r, rest⟩ => ⟨v, s', ρ', v', e, hr _ _ r, rest⟩⟩
theorem ccall_mono {op : Op} {ev : Operand → Value} {K K' : Value → St M → Prop} (hk : ∀ v s', K v s' → K' v s') (h : ccall P w0 ev s K op) : ccall P w0 ev s K' op := by
  cases op <;> simp only [ccall] at h ⊢
  split at h
  · rename_i f args hf; exact CCalls.mono h hk
  · split at h
    · exact CRound.mono h hk
    · exact h
theorem cstep_mono {o : Oper} {ev : Operand → Value} {K K' : Value → St M → Prop} (hk : ∀ v s', K v s' → K' v s') (h : cstep P w0 o ev s K) : cstep P w0 o ev s K' := by
  rcases h with ⟨v, h1, h2⟩ | ⟨v, h1, h2⟩ | ⟨B, f, h1, h2⟩ | ⟨v, s', h1, h2⟩ | h
  · exact .inl ⟨v, h1, hk _ _ h2⟩
  · exact .inr (.inl ⟨v, h1, hk _ _ h2⟩)
  · exact .inr (.inr (.inl ⟨B, f, h1, hk _ _ h2⟩))
  · exact .inr (.inr (.inr (.inl ⟨v, s', h1, hk _ _ h2⟩)))
  · exact .inr (.inr (.inr (.inr (ccall_mono hk h))))
theorem VRel.yield_inv {l : Nat} {f c : Array Value} {v' : Value} (h : VRel ρ (.func (.yield l) f c) v') : ∃ i, ρ l = some i ∧ v' = .func (.yield i.blk) #[] #[] := by
  cases h with
  | func fn hfn => exact absurd rfl (hfn l)
  | yield h => exact ⟨_, h, rfl⟩
theorem ev_rel {a a' : Act} (h : VsRel ρ a.tmps a'.tmps) {x : Operand} (hx : opOk x = true) : VRel ρ (a.eval x) (a'.eval x) := by
  cases x with
  | tmp t => exact h.getD t
  | const v => exact VRel.of_plain 6 hx
  | global g => simp [opOk] at hx
  | func f => exact .func _ (by simp) rfl (fun i hi => by simp at hi) rfl (fun i hi => by simp at hi)
theorem cstep_sound {o : Oper} {a a' : Act} {K : Value → St M → Prop} (h : cstep P w0 o a.eval s K) (hR : Rel P w0 ρ s w) (hev : ∀ x ∈ o.op.operands, VRel ρ (a.eval x) (a'.eval x))
    {next : Act → World → Prop} {Q : Exit → Act → World → Prop}
    (hn : ∀ v s' v' w' ρ', K v s' → VRel ρ' v v' → Rel P w0 ρ' s' w' → Ext ρ s ρ' s' → next (a'.put o.dst v') w') (ro : Option Nat) : o.wpIn (rF ro) 0 P a' w next Q := by
  have hnd : ∀ c, o.op ≠ .defer c := by
    intro c hc
    rcases h with ⟨v, hv, _⟩ | ⟨v, hv, _⟩ | ⟨B, f, hB, _⟩ | ⟨v, s', hv, _⟩ | h
    · rw [hc] at hv; simp [cpure] at hv
    · rw [hc] at hv; simp [cread] at hv
    · rw [hc] at hB; simp [calloc] at hB
    · rw [hc] at hv; simp [ceff] at hv
    · rw [hc] at h; exact h
  refine ⟨fun _ _ => trivial, ?_⟩
  rw [Oper.semAt_plain _ _ _ hnd]
  rcases h with ⟨v, hv, h⟩ | ⟨v, hv, h⟩ | ⟨B, f, hB, h⟩ | ⟨v, s', hv, h⟩ | h
  · obtain ⟨v', h1, h2⟩ := cpure_sound (ev' := a'.eval) hv hev w
    rw [h1]
    exact hn _ _ _ _ _ h h2 hR (Ext.refl _ _)
  · obtain ⟨v', h1, h2⟩ := cread_sound (ev' := a'.eval) hv hR hev
    rw [h1]
    exact hn _ _ _ _ _ h h2 hR (Ext.refl _ _)
  · obtain ⟨obj, i, n, v', h1, h2, hk0, h3⟩ := calloc_sound (ev' := a'.eval) (w := w) hB hev (fun _ => trivial)
    obtain ⟨h4, h5⟩ := h3 s.next (hR.none_next (Nat.le_refl _))
    obtain ⟨h6, h7⟩ := (hR.drew n).alloc h2 h4 (.inl hk0)
    rw [h1]
    exact hn _ _ _ _ _ h h5 h6 h7
  · obtain ⟨n, w', ρ', h1, h2, h3, h4⟩ := ceff_sound (ev' := a'.eval) hv hR hev
    rw [h1]
    rcases h2 with ⟨v', rfl, h2⟩ | ⟨rfl, rfl⟩
    · exact hn _ _ _ _ _ h h2 h3 h4
    · exact hn _ _ _ _ _ h (VRel.undef _) h3 h4
  · unfold ccall at h
    split at h
    · rename_i c hc
      split at h
      · rename_i f args hf
        unfold ccallee at hf
        split at hf
        · rename_i fo hfo
          split at hf
          · rename_i f0 first captured hfv
            split at hf
            · rename_i fn hfn
              split at hf
              · rename_i hb
                cases hf
                simp only [Bool.and_eq_true, bne_iff_ne, ne_eq] at hb
                have hx := hev fo (by rw [hc]; simp [Op.operands, Call.operands, hfo])
                rw [hfv] at hx
                obtain ⟨first', captured', e, h1, h2⟩ := hx.func_inv
                have ha := VsRel.map (ρ := ρ) c.args a.eval a'.eval (fun x hx => hev x (by rw [hc]; simp [Op.operands, Call.operands, hx]))
                have hrun : (execOp a'.eval o).run P w = .ok (.enter f (first' ++ c.args.map a'.eval ++ captured')) w := by
                  simp only [execOp, hc, resolve, hfo, e, Deferred.ofValue, Sem.run_bind, Sem.run_pure, Result.andThen_ok, invoke, callFunc, program, Sem.run, hfn]
                  rw [if_neg (by simpa using hb.2), if_neg (by intro hn; have h9 := hb.1; cases h8 : fn.body <;> simp_all)]
                  rfl
                rw [hrun]
                refine ⟨fun e => (by cases e), callsIn_rF.2 ((h ρ w _ hR (append_rel (append_rel h1 ha) h2)).mono ?_)⟩
                rintro e w' ⟨v, s', ρ', v', rfl, hk, h3, h4, h5⟩
                exact hn _ _ _ _ _ hk h3 h4 h5
              · cases hf
            · cases hf
          · cases hf
        · cases hf
      · split at h
        · rename_i l args hf
          unfold cyield at hf
          split at hf
          · rename_i fo hfo
            split at hf
            · rename_i l0 f0 c0 hfv
              cases hf
              have hx := hev fo (by rw [hc]; simp [Op.operands, Call.operands, hfo])
              rw [hfv] at hx
              obtain ⟨i, hi, e⟩ := hx.yield_inv
              have ha := VsRel.map (ρ := ρ) c.args a.eval a'.eval (fun x hx => hev x (by rw [hc]; simp [Op.operands, Call.operands, hx]))
              obtain ⟨fn, tmps, assign, body, h1, h2⟩ := h ρ w _ i ro hR ha hi
              have hrun : (execOp a'.eval o).run P w = .ok (.round i.blk fn tmps assign body) w := by
                simp only [execOp, hc, resolve, hfo, e, Deferred.ofValue, Sem.run_bind, Sem.run_pure, Result.andThen_ok, invoke, Array.empty_append]
                exact h1
              rw [hrun]
              refine ⟨fun e => (by cases e), h2.mono ?_⟩
              rintro e w' ⟨v, s', ρ', v', rfl, hk, h3, h4, h5⟩
              exact hn _ _ _ _ _ hk h3 h4 h5
            · cases hf
          · cases hf
        · exact h.elim
    · exact h.elim
theorem cwanted_sound {ops : Array Oper} {o : Oper} {t t' : Array Value} {b : Bool} (h : cwanted ops o t = some b) (hr : ∀ j want d, o.guard = some (j, want) → (ops[j]?).bind (·.dst) = some d → d < t.size ∨ d < t'.size → VRel ρ (t.getD d undef) (t'.getD d undef)) (hsz : t.size = t'.size) :
    Region.wanted o (yielded ops t') = b := by
  unfold cwanted at h
  unfold Region.wanted
  split at h
  · rename_i hg; cases h; rw [hg]
  · rename_i j want hg
    rw [hg]
    simp only
    unfold yielded
    split at h
    · rename_i hd
      cases h
      rw [hd]
      simp
    · rename_i d hd
      rw [hd]
      simp only [Option.bind_some]
      by_cases hlt : d < t.size
      · have hlt' : d < t'.size := hsz ▸ hlt
        have hv := hr j want d hg hd (.inl hlt)
        rw [Array.getElem?_eq_getElem hlt'] 
        rw [Array.getElem?_eq_getElem hlt] at h
        simp only [Array.getD, hlt, hlt', dif_pos] at hv
        change VRel ρ t[d] t'[d] at hv
        generalize t[d] = x at h hv
        generalize t'[d] = x' at hv ⊢
        split at h
        · rename_i b' hx; cases hx; cases h; rw [hv.bool_inv]; cases b' <;> cases want <;> rfl
        · rename_i cs hx
          cases hx
          split at h
          · cases h
          · rename_i hne
            cases h
            obtain ⟨cs', rfl, _⟩ := hv.tuple_inv hne
            cases want <;> rfl
        · rename_i hb ht
          cases h
          cases hv <;> first
            | (exact absurd rfl (hb _))
            | (exact absurd rfl (ht _))
            | (cases want <;> rfl)
      · have hlt' : ¬ d < t'.size := hsz ▸ hlt
        rw [Array.getElem?_eq_none (Nat.le_of_not_lt hlt)] at h
        rw [Array.getElem?_eq_none (Nat.le_of_not_lt hlt')]
        cases h
        cases want <;> rfl
theorem cwp_region {id : Nat} {ops : Array Oper} {Q : Exit → Act → St M → Prop} {a : Act} (h : cregion P w0 ops (fun a s => Q .normal a s) (List.range ops.size) a s) : CWp P w0 (.region id ops false) Q a s := by
  intro k ρ a' w hR ha hb
  refine wpIn_region ?_
  generalize List.range ops.size = l at h
  have key : ∀ (l : List Nat) (a : Act) (s1 : St M) (a' : Act) (w : World) (ρ1 : Ren), cregion P w0 ops (fun a s => Q .normal a s) l a s1 → Rel P w0 ρ1 s1 w → ActRel k ρ1 a a' → Ext ρ s ρ1 s1 →
      wpOpsIn (rF k.ro) 0 P ops (CPost P w0 k ρ s Q) l a' w := by
    intro l
    induction l with
    | nil => intro a s1 a' w ρ1 h hR ha hE; exact ⟨a, s1, ρ1, h, by simp, by simp, hR, ha, hE⟩
    | cons i rest ih =>
      intro a s1 a' w ρ1 h hR ha hE
      simp only [wpOpsIn]
      simp only [cregion] at h
      split
      · rename_i ho; rw [ho] at h; exact ih _ _ _ _ _ h hR ha hE
      · rename_i o ho
        rw [ho] at h
        simp only at h
        split at h
        · rename_i hw
          rw [cwanted_sound hw (fun j want d _ _ _ => ha.tmps.getD d) ha.tmps.1]
          simp only [if_true]
          split at h
          case h_2 => exact h.elim
          rename_i hop
          refine cstep_sound h hR (fun x hx => ev_rel ha.tmps (by have := hop; rw [Array.all_eq_true_iff_forall_mem] at this; exact this x hx)) ?_ k.ro
          intro v s' v' w' ρ' hk hv hR' hE'
          refine ih _ _ _ _ _ hk hR' ⟨?_, ?_, ?_⟩ (hE.trans hE')
          · unfold Act.put
            split
            · exact (ha.tmps.mono hE'.le).set _ hv
            · exact ha.tmps.mono hE'.le
          · unfold Act.put; split <;> exact ha.d
          · unfold Act.put; split <;> exact ha.d'.mono hE'.le
        · rename_i hw
          rw [cwanted_sound hw (fun j want d _ _ _ => ha.tmps.getD d) ha.tmps.1]
          simp only [Bool.false_eq_true, if_false]
          refine ⟨fun _ _ => trivial, ?_⟩
          refine ih _ _ _ _ _ h hR ⟨?_, ?_, ?_⟩ hE
          · unfold Act.put
            split
            · exact ha.tmps.set _ (VRel.undef _)
            · exact ha.tmps
          · unfold Act.put; split <;> exact ha.d
          · unfold Act.put; split <;> exact ha.d'
        · exact h.elim
  exact key l a s a' w ρ h hR ha (Ext.refl _ _)
end
end Go.Cs
namespace Go.Cs
def acts (P : Program) (o : Oper) : Bool := (Region.marks P.types o.op).effect
def bindsAll (o : Oper) : List Nat := (o.after.toList.filter (Region.binds .any)).map (·.on)
def chkOrder (P : Program) (ops : Array Oper) (bf : Array Nat) : List Nat → List Nat → Bool
  | _, [] => true
  | pre, i :: rest => match ops[i]? with
    | none => false
    | some o => !rest.contains i && (bindsAll o).all (fun j => pre.contains j) && (!acts P o || rest.all fun x => (bf.getD x 0).testBit i) && chkOrder P ops bf (pre ++ [i]) rest
def chkTable (ops : Array Oper) (bf : Array Nat) : Bool :=
  (List.range ops.size).all fun i => match ops[i]? with
    | none => false
    | some o => (List.range ops.size).all fun j => !(bf.getD i 0).testBit j || (bindsAll o).any fun k => k < i && (k == j || (bf.getD k 0).testBit j)
def chkTmps (P : Program) (ops : Array Oper) (bf : Array Nat) : Bool :=
  (List.range ops.size).all fun i => match ops[i]? with
    | none => false
    | some oi =>
      (match oi.guard with | none => true | some (g, _) => (bf.getD i 0).testBit g) &&
      (match oi.dst with | none => true | some d => acts P oi || !((oi.looksAt ops).contains d)) &&
      (List.range ops.size).all fun j => i == j || (match ops[j]? with
        | none => false
        | some oj => match oj.dst with
          | none => true
          | some d =>
            (!((oi.looksAt ops).contains d) || (bf.getD i 0).testBit j || (acts P oj && (bf.getD j 0).testBit i)) &&
            (oi.dst != some d || (acts P oi && acts P oj)))
def drawOk (P : Program) (ops : Array Oper) (canon : List Nat) : Bool :=
  let bf := Region.before ops
  ((List.range ops.size).all fun i => canon.contains i) && chkTable ops bf && chkTmps P ops bf && chkOrder P ops bf [] canon
def asapGo (P : Program) (ops : Array Oper) : Nat → List Nat → List Nat → List Nat
  | 0, _, acc => acc.reverse
  | fuel + 1, left, acc =>
    let ready (i : Nat) : Bool := match ops[i]? with | none => false | some o => (bindsAll o).all fun j => acc.contains j
    match left.find? (fun i => ready i && (match ops[i]? with | none => false | some o => !acts P o)) with
    | some i => asapGo P ops fuel (left.filter (· != i)) (i :: acc)
    | none => match left.find? ready with
      | some i => asapGo P ops fuel (left.filter (· != i)) (i :: acc)
      | none => acc.reverse
def asap (P : Program) (ops : Array Oper) : List Nat := asapGo P ops ops.size (List.range ops.size) []
section
variable {M : Type} [Mem M] (P : Program) (w0 : World)
def fstep (o : Oper) (ev : Operand → Value) (s : St M) (K : Value → St M → Option Value → Prop) : Prop :=
  (∃ v, cpure P ev o.type o.op = some v ∧ K v s none) ∨ (∃ v, cread P ev s o.op = some v ∧ K v s (some v)) ∨ (∃ B f, calloc P ev o.op = some (B, f) ∧ K (f s.next) (s.new B) none)
structure Fl (M : Type) where
  i : Nat
  op : Op
  ev : Operand → Value
  v : Option Value
def Fl.still (f : Fl M) (P : Program) (s : St M) : Prop := match f.v with
  | none => True
  | some v => cread P f.ev s f.op = some v
def stillAll (P : Program) (s : St M) : List (Fl M) → Prop → Prop
  | [], K => K
  | f :: l, K => match f.v with
    | none => stillAll P s l K
    | some v => cread P f.ev s f.op = some v ∧ stillAll P s l K
def cregionD (ops : Array Oper) (bf : Array Nat) (Q : Act → St M → Prop) : List Nat → List (Fl M) → Act → St M → Prop
  | [], _, a, s => Q a s
  | i :: rest, fl, a, s => match ops[i]? with
    | none => False
    | some o => match cwanted ops o a.tmps with
      | none => False
      | some false => cregionD ops bf Q rest (if acts P o then fl else ⟨i, o.op, a.eval, none⟩ :: fl) (a.put o.dst undef) s
      | some true => match o.op.operands.all opOk with
        | true =>
          if acts P o then cstep P w0 o a.eval s fun v s' => stillAll P s' (fl.filter fun f => !(bf.getD i 0).testBit f.i) (cregionD ops bf Q rest fl (a.put o.dst v) s')
          else fstep P o a.eval s fun v s' r => cregionD ops bf Q rest (⟨i, o.op, a.eval, r⟩ :: fl) (a.put o.dst v) s'
        | false => False
end
section
variable {M : Type} [Mem M] {P : Program} {w0 : World}
theorem stillAll_spec {s : St M} {K : Prop} : ∀ (l : List (Fl M)), stillAll P s l K → K ∧ ∀ f ∈ l, f.still P s := by
  intro l
  induction l with
  | nil => intro h; exact ⟨h, fun f hf => by cases hf⟩
  | cons x l ih =>
    intro h
    simp only [stillAll] at h
    split at h
    · rename_i e
      obtain ⟨h1, h2⟩ := ih h
      refine ⟨h1, fun f hf => ?_⟩
      rcases List.mem_cons.1 hf with rfl | hf
      · unfold Fl.still; rw [e]; trivial
      · exact h2 f hf
    · rename_i v e
      obtain ⟨h1, h2⟩ := ih h.2
      refine ⟨h1, fun f hf => ?_⟩
      rcases List.mem_cons.1 hf with rfl | hf
      · unfold Fl.still; rw [e]; exact h.1
      · exact h2 f hf
structure Stat (P : Program) (ops : Array Oper) (bf : Array Nat) (canon : List Nat) : Prop where
  nodup : canon.Nodup
  mem : ∀ i : Nat, i ∈ canon ↔ i < ops.size
  tab : ∀ (i j : Nat) (o : Oper), ops[i]? = some o → (bf.getD i 0).testBit j = true → j < ops.size → ∃ k ∈ bindsAll o, k < i ∧ (k = j ∨ (bf.getD k 0).testBit j = true)
  guard : ∀ (i : Nat) (o : Oper) (g : Nat) (want : Bool), ops[i]? = some o → o.guard = some (g, want) → (bf.getD i 0).testBit g = true
  looks : ∀ (i j : Nat) (oi oj : Oper) (d : Tmp), ops[i]? = some oi → ops[j]? = some oj → i ≠ j → oj.dst = some d → d ∈ oi.looksAt ops → (bf.getD i 0).testBit j = true ∨ (acts P oj = true ∧ (bf.getD j 0).testBit i = true)
  self : ∀ (i : Nat) (o : Oper) (d : Tmp), ops[i]? = some o → o.dst = some d → acts P o = false → d ∉ o.looksAt ops
  dsts : ∀ (i j : Nat) (oi oj : Oper) (d : Tmp), ops[i]? = some oi → ops[j]? = some oj → i ≠ j → oj.dst = some d → oi.dst = some d → acts P oi = true ∧ acts P oj = true
  before : ∀ (pre : List Nat) (i : Nat) (rest : List Nat) (o : Oper), canon = pre ++ i :: rest → ops[i]? = some o → ∀ j ∈ bindsAll o, j ∈ pre
  later : ∀ (pre : List Nat) (i : Nat) (rest : List Nat) (o : Oper), canon = pre ++ i :: rest → ops[i]? = some o → acts P o = true → ∀ x ∈ rest, (bf.getD x 0).testBit i = true
theorem chkOrder_spec {ops : Array Oper} {bf : Array Nat} : ∀ (l pre0 : List Nat), chkOrder P ops bf pre0 l = true → l.Nodup ∧ (∀ i ∈ l, i < ops.size) ∧ ∀ (pre : List Nat) (i : Nat) (rest : List Nat) (o : Oper), l = pre ++ i :: rest → ops[i]? = some o →
    (∀ j ∈ bindsAll o, j ∈ pre0 ++ pre) ∧ (acts P o = true → ∀ x ∈ rest, (bf.getD x 0).testBit i = true) := by
  intro l
  induction l with
  | nil => intro pre0 _; exact ⟨.nil, (fun i hi => by cases hi), fun pre i rest o h => by cases pre <;> cases h⟩
  | cons x l ih =>
    intro pre0 h
    simp only [chkOrder] at h
    split at h
    · cases h
    · rename_i ox hox
      simp only [Bool.and_eq_true, List.all_eq_true, List.contains_iff_mem, Bool.or_eq_true, Bool.not_eq_true'] at h
      obtain ⟨⟨⟨h0, h1⟩, h2⟩, h3⟩ := h
      obtain ⟨g1, g2, g3⟩ := ih _ h3
      refine ⟨List.nodup_cons.2 ⟨fun hx => ?_, g1⟩, fun i hi => ?_, fun pre i rest o hl ho => ?_⟩
      · have : l.contains x = true := by simpa using hx
        rw [this] at h0; cases h0
      · rcases List.mem_cons.1 hi with rfl | hi
        · rcases Nat.lt_or_ge i ops.size with h' | h'
          · exact h'
          · rw [Array.getElem?_eq_none h'] at hox; cases hox
        · exact g2 i hi
      · cases pre with
        | nil =>
          simp only [List.nil_append, List.cons.injEq] at hl
          obtain ⟨rfl, rfl⟩ := hl
          rw [hox] at ho; cases ho
          refine ⟨fun j hj => by simpa using h1 j hj, fun ha y hy => ?_⟩
          rcases h2 with h2 | h2
          · rw [ha] at h2; cases h2
          · exact h2 y hy
        | cons y pre =>
          simp only [List.cons_append, List.cons.injEq] at hl
          obtain ⟨rfl, rfl⟩ := hl
          have := g3 pre i rest o rfl ho
          simpa using this
theorem stat_of {ops : Array Oper} {canon : List Nat} (h : drawOk P ops canon = true) : Stat P ops (Region.before ops) canon := by
  unfold drawOk at h
  simp only [Bool.and_eq_true] at h
  obtain ⟨⟨⟨h2, h3⟩, h4⟩, h5⟩ := h
  simp only [List.all_eq_true, List.mem_range, List.contains_iff_mem] at h2
  have hlt : ∀ {i : Nat} {o : Oper}, ops[i]? = some o → i < ops.size := by
    intro i o ho
    rcases Nat.lt_or_ge i ops.size with h' | h'
    · exact h'
    · rw [Array.getElem?_eq_none h'] at ho; cases ho
  obtain ⟨hO1, hO2, hO⟩ := chkOrder_spec canon [] h5
  refine ⟨hO1, fun i => ⟨hO2 i, h2 i⟩, ?_, ?_, ?_, ?_, ?_, ?_, ?_⟩
  · intro i j o ho hb hj
    simp only [chkTable, List.all_eq_true, List.mem_range] at h3
    have := h3 i (hlt ho)
    rw [ho] at this
    simp only [List.all_eq_true, List.mem_range] at this
    have := this j hj
    simp only [hb, Bool.not_true, Bool.false_or, List.any_eq_true, Bool.and_eq_true, decide_eq_true_eq, Bool.or_eq_true, beq_iff_eq] at this
    exact this
  · intro i o g want ho hg
    simp only [chkTmps, List.all_eq_true, List.mem_range] at h4
    have := h4 i (hlt ho)
    rw [ho] at this
    simp only [hg, Bool.and_eq_true] at this
    exact this.1.1
  · intro i j oi oj d hi hj hne hd hl
    simp only [chkTmps, List.all_eq_true, List.mem_range] at h4
    have := h4 i (hlt hi)
    rw [hi] at this
    simp only [Bool.and_eq_true, List.all_eq_true, List.mem_range] at this
    have := this.2 j (hlt hj)
    rw [hj] at this
    simp only [hd, Bool.or_eq_true, beq_iff_eq, hne, false_or, Bool.and_eq_true, Bool.not_eq_true'] at this
    rcases this.1 with (h6 | h6) | h6
    · have : (oi.looksAt ops).contains d = true := by simpa using hl
      rw [this] at h6; cases h6
    · exact .inl h6
    · exact .inr h6
  · intro i o d ho hd ha
    simp only [chkTmps, List.all_eq_true, List.mem_range] at h4
    have := h4 i (hlt ho)
    rw [ho] at this
    simp only [hd, Bool.and_eq_true] at this
    have := this.1.2
    rw [ha] at this
    simpa using this
  · intro i j oi oj d hi hj hne hd hl
    simp only [chkTmps, List.all_eq_true, List.mem_range] at h4
    have := h4 i (hlt hi)
    rw [hi] at this
    simp only [Bool.and_eq_true, List.all_eq_true, List.mem_range] at this
    have := this.2 j (hlt hj)
    rw [hj] at this
    simp only [hd, hl, Bool.or_eq_true, beq_iff_eq, hne, false_or, Bool.and_eq_true, bne_self_eq_false, Bool.false_eq_true] at this
    exact this.2
  · intro pre i rest o hc ho j hj
    simpa using (hO pre i rest o hc ho).1 j hj
  · intro pre i rest o hc ho ha
    exact (hO pre i rest o hc ho).2 ha
def Down (ops : Array Oper) (D : Array Bool) : Prop := ∀ i o, ops[i]? = some o → D.getD i false = true → ∀ j ∈ bindsAll o, D.getD j false = true
theorem Stat.chain {ops : Array Oper} {bf : Array Nat} {canon : List Nat} (S : Stat P ops bf canon) {D : Array Bool} (hd : Down ops D) : ∀ (i j : Nat) (o : Oper), ops[i]? = some o → (∀ k ∈ bindsAll o, D.getD k false = true) → (bf.getD i 0).testBit j = true → j < ops.size → D.getD j false = true := by
  intro i
  induction i using Nat.strongRecOn with
  | _ i ih =>
    intro j o ho hall hb hj
    obtain ⟨k, hk, hki, h⟩ := S.tab i j o ho hb hj
    rcases h with rfl | h
    · exact hall _ hk
    · cases hok : ops[k]? with
      | none =>
        have : ops.size ≤ k := by
          rcases Nat.lt_or_ge k ops.size with h' | h'
          · rw [Array.getElem?_eq_getElem h'] at hok; cases hok
          · exact h'
        have : i < ops.size := by
          rcases Nat.lt_or_ge i ops.size with h' | h'
          · exact h'
          · rw [Array.getElem?_eq_none h'] at ho; cases ho
        omega
      | some ok => exact ih k hki j ok hok (hd k ok hok (hall k hk)) h hj
theorem cread_new {s : St M} (hf : ∀ b, s.next ≤ b → s.at' b = none) (B : Blk) {ev : Operand → Value} {op : Op} {v : Value} (h : cread P ev s op = some v) : cread P ev (s.new B) op = some v := by
  have hat : ∀ {b : Nat} {C : Blk}, s.at' b = some C → (s.new B).at' b = some C := by
    intro b C hb
    rw [St.at_new, if_neg]
    · exact hb
    · intro e; subst e; rw [hf _ (Nat.le_refl _)] at hb; cases hb
  cases op <;> simp only [cread] at h ⊢ <;> (try (cases h; done))
  case load t x =>
    split at h
    · rename_i a ha
      unfold cload at h ⊢
      split at h
      · rename_i vs e own hb; rw [hat hb]; exact h
      · cases h
    · cases h
  case lookup t m k ok =>
    unfold clookup at h ⊢
    split at h
    · rename_i kt et hu
      simp only at h ⊢
      split at h
      · rename_i hm; exact h
      · rename_i r hm
        split at h
        · rename_i es clock hb; simp only [hat hb]; exact h
        · cases h
      · cases h
    · cases h
  case binOp => exact h
  case convert src d x =>
    split at h
    · rename_i e a n c hs hd hx
      split at h
      · rename_i vs et own he hb
        simp only [he, hat hb]; exact h
      · cases h
    · exact h
    · split at h
      · rename_i vs e own hb
        simp only [hat hb]; exact h
      · cases h
    · split at h
      · rename_i vs e hb
        simp only [hat hb]; exact h
      · cases h
    · cases h
  case slice t x lo hi mx =>
    cases mx with
    | some _ => cases h
    | none =>
      simp only [cread] at h ⊢
      split at h
      · rename_i e a n c hu hx
        split at h
        · rename_i ie hh hie hch
          split at h
          · rename_i l vs et own hcl hb
            simp only [hcl, hat hb]; exact h
          · cases h
        · cases h
      · cases h
  case call c =>
    split at h
    · rename_i hc
      split at h
      · rename_i kt et r hu hx
        split at h
        · rename_i es clock hb; simp only [hat hb]; exact h
        · cases h
      · cases h
    · cases h
theorem Stat.noLater {ops : Array Oper} {bf : Array Nat} {canon : List Nat} (S : Stat P ops bf canon) {pre rest : List Nat} {k : Nat} (hc : canon = pre ++ k :: rest) (hklt : k < ops.size) :
    ∀ (i : Nat) (oi : Oper), ops[i]? = some oi → i ∈ pre → (bf.getD i 0).testBit k = true → False := by
  have hknot : k ∉ pre := by
    intro h1
    have h2 := S.nodup
    rw [hc, List.nodup_append] at h2
    exact absurd rfl (h2.2.2 k h1 k (by simp))
  intro i
  induction i using Nat.strongRecOn with
  | _ i ih =>
    intro oi hoi hi hb
    obtain ⟨m, hm, hmi, h3⟩ := S.tab i k oi hoi hb hklt
    obtain ⟨p1, p2, hp⟩ := List.append_of_mem hi
    have hmp := S.before p1 i (p2 ++ k :: rest) oi (by rw [hc, hp]; simp) hoi m hm
    have hmpre : m ∈ pre := by rw [hp]; simp [hmp]
    rcases h3 with rfl | h3
    · exact hknot hmpre
    · cases hom : ops[m]? with
      | none =>
        have : m ∈ canon := by rw [hc]; simp [hmpre]
        have := (S.mem m).1 this
        rw [Array.getElem?_eq_getElem this] at hom; cases hom
      | some om => exact ih m hmi om hom hmpre h3
theorem put_eval {a : Act} {d : Tmp} {v : Value} {x : Operand} (h : x ≠ .tmp d) : (a.put (some d) v).eval x = a.eval x := by
  cases x with
  | tmp t =>
    have : d ≠ t := fun e => h (by rw [e])
    simp only [Act.put, Act.eval]
    rw [Array.getD_eq_getD_getElem?, Array.getElem?_setIfInBounds, if_neg this, ← Array.getD_eq_getD_getElem?]
  | _ => rfl
theorem put_getD {a : Act} {d t : Tmp} {v : Value} (h : d ≠ t) : (a.put (some d) v).tmps.getD t undef = a.tmps.getD t undef := by
  have := put_eval (a := a) (d := d) (v := v) (x := .tmp t) (fun e => h (by cases e; rfl))
  exact this
theorem put_size {a : Act} {d : Option Tmp} {v : Value} : (a.put d v).tmps.size = a.tmps.size := by
  cases d <;> simp [Act.put]
theorem mem_looks_op {ops : Array Oper} {o : Oper} {d : Tmp} (h : (.tmp d) ∈ o.op.operands) : d ∈ o.looksAt ops := by
  simp only [Oper.looksAt, List.mem_append, List.mem_filterMap]
  exact .inl ⟨.tmp d, by simpa using h, rfl⟩
theorem mem_looks_guard {ops : Array Oper} {o : Oper} {j : Nat} {want : Bool} {d : Tmp} (hg : o.guard = some (j, want)) (hd : (ops[j]?).bind (·.dst) = some d) : d ∈ o.looksAt ops := by
  simp only [Oper.looksAt, List.mem_append]
  right
  rw [hg]
  simp only
  rw [hd]
  simp
theorem cwanted_put {ops : Array Oper} {o : Oper} {a : Act} {d : Tmp} {v : Value} (h : d ∉ o.looksAt ops) : cwanted ops o (a.put (some d) v).tmps = cwanted ops o a.tmps := by
  unfold cwanted
  cases hg : o.guard with
  | none => rfl
  | some g =>
    obtain ⟨j, want⟩ := g
    simp only
    cases hd : (ops[j]?).bind (·.dst) with
    | none => rfl
    | some e =>
      simp only
      have hne : d ≠ e := fun he => h (he ▸ mem_looks_guard hg hd)
      simp only [Act.put]
      rw [Array.getElem?_setIfInBounds, if_neg hne]
def Pend (P : Program) (ops : Array Oper) (o : Oper) (i : Nat) (fl : List (Fl M)) (β : Nat → Option Nat) (ρ : Ren) (a : Act) (s : St M) : Prop :=
  ∃ (ev0 : Operand → Value) (val : Value), (∀ x ∈ o.op.operands, a.eval x = ev0 x) ∧ (∀ d, o.dst = some d → d < a.tmps.size → a.tmps.getD d undef = val) ∧
    ((cwanted ops o a.tmps = some false ∧ val = undef) ∨
     (cwanted ops o a.tmps = some true ∧ o.op.operands.all opOk = true ∧
      (cpure P ev0 o.type o.op = some val ∨
       (cread P ev0 s o.op = some val ∧ ∃ f ∈ fl, f.i = i ∧ f.op = o.op ∧ f.ev = ev0 ∧ f.v = some val) ∨
       (∃ B g b, calloc P ev0 o.op = some (B, g) ∧ β i = some b ∧ s.at' b = some B ∧ ρ b = none ∧ val = g b))))
theorem Pend.put {ops : Array Oper} {o : Oper} {i : Nat} {fl : List (Fl M)} {β : Nat → Option Nat} {ρ : Ren} {a : Act} {s : St M} (h : Pend P ops o i fl β ρ a s) {d : Tmp} {v : Value} (hl : d ∉ o.looksAt ops) (hd : o.dst ≠ some d) :
    Pend P ops o i fl β ρ (a.put (some d) v) s := by
  obtain ⟨ev0, val, h1, h2, h3⟩ := h
  refine ⟨ev0, val, fun x hx => ?_, fun e he hlt => ?_, ?_⟩
  · rw [put_eval, h1 x hx]
    intro e; subst e
    exact hl (mem_looks_op hx)
  · rw [put_getD (fun e' => hd (by rw [he, e']))]
    exact h2 e he (by rwa [put_size] at hlt)
  · rw [cwanted_put hl]; exact h3
structure DInv (P : Program) (w0 : World) (dk : DK) (ops : Array Oper) (D : Array Bool) (pre : List Nat) (fl : List (Fl M)) (β : Nat → Option Nat) (ρ : Ren) (a : Act) (s : St M) (a' : Act) (w : World) : Prop where
  rel : Rel P w0 ρ s w
  size : a.tmps.size = a'.tmps.size
  d : a.defers = []
  d' : DOk dk ρ a'.defers
  tm : ∀ t, (∀ i ∈ pre, ∀ o, ops[i]? = some o → D.getD i false = false → o.dst ≠ some t) → VRel ρ (a.tmps.getD t undef) (a'.tmps.getD t undef)
  pend : ∀ i ∈ pre, D.getD i false = false → ∃ o, ops[i]? = some o ∧ acts P o = false ∧ Pend P ops o i fl β ρ a s
  inj : ∀ i j b, β i = some b → β j = some b → i = j
  blt : ∀ i b, β i = some b → b < s.next
  bpre : ∀ i b, β i = some b → i ∈ pre
variable {dk : DK}
theorem dinv_advance {ops : Array Oper} {bf : Array Nat} {canon : List Nat} (S : Stat P ops bf canon) {D : Array Bool} {ρ : Ren} {a' : Act} {w : World} {Q : Act → St M → Prop} (hDsz : D.size = ops.size) (hDown : Down ops D) :
    ∀ (rest pre : List Nat) (fl : List (Fl M)) (β : Nat → Option Nat) (a : Act) (s : St M), canon = pre ++ rest → cregionD P w0 ops bf Q rest fl a s → DInv P w0 dk ops D pre fl β ρ a s a' w → (∀ i, D.getD i false = true → i ∈ pre) →
      ∃ pre2 rest2 fl2 β2 a2 s2, canon = pre2 ++ rest2 ∧ cregionD P w0 ops bf Q rest2 fl2 a2 s2 ∧ DInv P w0 dk ops D pre2 fl2 β2 ρ a2 s2 a' w ∧ (∀ i, D.getD i false = true → i ∈ pre2) ∧
        (∀ i r o, rest2 = i :: r → ops[i]? = some o → acts P o = true) ∧ Ext ρ s ρ s2 ∧ (∀ i ∈ pre2, i ∈ pre ∨ ∀ o, ops[i]? = some o → acts P o = false) ∧ (∀ i b, β2 i = some b → β i = some b ∨ s.next ≤ b) := by
  intro rest
  induction rest with
  | nil =>
    intro pre fl β a s hc h hI hD
    exact ⟨pre, [], fl, β, a, s, hc, h, hI, hD, (fun i r o e => by cases e), Ext.refl _ _, fun i hi => .inl hi, fun i b hb => .inl hb⟩
  | cons k rest ih =>
    intro pre fl β a s hc h hI hD
    cases hok : ops[k]? with
    | none => simp only [cregionD, hok] at h
    | some o =>
      by_cases hact : acts P o = true
      · refine ⟨pre, k :: rest, fl, β, a, s, hc, h, hI, hD, fun i r o2 e ho2 => ?_, Ext.refl _ _, fun i hi => .inl hi, fun i b hb => .inl hb⟩
        cases e; rw [hok] at ho2; cases ho2; exact hact
      · have hact : acts P o = false := by simpa using hact
        have hkD : D.getD k false = false := by
          cases hk : D.getD k false with
          | false => rfl
          | true =>
            have h1 := hD k hk
            have h2 := S.nodup
            rw [hc, List.nodup_append] at h2
            exact absurd rfl (h2.2.2 k h1 k (by simp))
        have hklt : k < ops.size := by
          rcases Nat.lt_or_ge k ops.size with h' | h'
          · exact h'
          · rw [Array.getElem?_eq_none h'] at hok; cases hok
        have hknot : k ∉ pre := by
          intro h1
          have h2 := S.nodup
          rw [hc, List.nodup_append] at h2
          exact absurd rfl (h2.2.2 k h1 k (by simp))
        -- the variable that k writes is none that a pending one looks at, or writes
        have hfree : ∀ i ∈ pre, ∀ oi, ops[i]? = some oi → ∀ d, o.dst = some d → d ∉ oi.looksAt ops ∧ oi.dst ≠ some d := by
          intro i hi oi hoi d hd
          have hne : i ≠ k := fun e => hknot (e ▸ hi)
          refine ⟨fun hl => ?_, fun he => ?_⟩
          · rcases S.looks i k oi o d hoi hok hne hd hl with h1 | ⟨h1, _⟩
            · exact S.noLater hc hklt i oi hoi hi h1
            · rw [hact] at h1; cases h1
          · have := (S.dsts i k oi o d hoi hok hne hd he).2
            rw [hact] at this; cases this
        have hgo : ∀ (v : Value) (s2 : St M) (r : Option Value) (β2 : Nat → Option Nat), cregionD P w0 ops bf Q rest (⟨k, o.op, a.eval, r⟩ :: fl) (a.put o.dst v) s2 → Rel P w0 ρ s2 w → Ext ρ s ρ s2 →
            (∀ op ev0 r, cread P ev0 s op = some r → cread P ev0 s2 op = some r) → (∀ b, b < s.next → s2.at' b = s.at' b) → (∀ i ∈ pre, β2 i = β i) → (∀ i j b, β2 i = some b → β2 j = some b → i = j) → (∀ i b, β2 i = some b → b < s2.next) → (∀ i b, β2 i = some b → i ∈ pre ++ [k]) → (∀ i b, β2 i = some b → β i = some b ∨ s.next ≤ b) →
            ((cwanted ops o a.tmps = some false ∧ v = undef) ∨ (cwanted ops o a.tmps = some true ∧ o.op.operands.all opOk = true ∧
              (cpure P a.eval o.type o.op = some v ∨ (cread P a.eval s2 o.op = some v ∧ r = some v) ∨ (∃ B g b, calloc P a.eval o.op = some (B, g) ∧ β2 k = some b ∧ s2.at' b = some B ∧ ρ b = none ∧ v = g b)))) →
            ∃ pre2 rest2 fl2 β3 a2 s2, canon = pre2 ++ rest2 ∧ cregionD P w0 ops bf Q rest2 fl2 a2 s2 ∧ DInv P w0 dk ops D pre2 fl2 β3 ρ a2 s2 a' w ∧ (∀ i, D.getD i false = true → i ∈ pre2) ∧
              (∀ i r o, rest2 = i :: r → ops[i]? = some o → acts P o = true) ∧ Ext ρ s ρ s2 ∧ (∀ i ∈ pre2, i ∈ pre ∨ ∀ o, ops[i]? = some o → acts P o = false) ∧ (∀ i b, β3 i = some b → β i = some b ∨ s.next ≤ b) := by
          intro v s2 r β2 h2 hR2 hE2 hrd hat hβ hinj hblt hbpre hnew hk
          have hI2 : DInv P w0 dk ops D (pre ++ [k]) (⟨k, o.op, a.eval, r⟩ :: fl) β2 ρ (a.put o.dst v) s2 a' w := by
            refine ⟨hR2, by rw [put_size]; exact hI.size, ?_, hI.d', fun t ht => ?_, fun i hi hun => ?_, hinj, hblt, hbpre⟩
            · unfold Act.put; split <;> exact hI.d
            · have h3 := hI.tm t (fun i hi oi hoi hun => ht i (by simp [hi]) oi hoi hun)
              have h4 := ht k (by simp) o hok hkD
              cases hd : o.dst with
              | none => exact h3
              | some d =>
                rw [put_getD (fun e => h4 (by rw [hd, e]))]
                exact h3
            · rcases List.mem_append.1 hi with hi | hi
              · obtain ⟨oi, hoi, ha, hp⟩ := hI.pend i hi hun
                refine ⟨oi, hoi, ha, ?_⟩
                have hp2 : Pend P ops oi i (⟨k, o.op, a.eval, r⟩ :: fl) β2 ρ a s2 := by
                  obtain ⟨ev0, val, h1, h2, h3⟩ := hp
                  refine ⟨ev0, val, h1, h2, ?_⟩
                  rcases h3 with h3 | ⟨h3, h4, h5⟩
                  · exact .inl h3
                  · refine .inr ⟨h3, h4, ?_⟩
                    rcases h5 with h5 | ⟨h5, f, hf, h6⟩ | ⟨B, g, b, h5, h6, h7, h8, h9⟩
                    · exact .inl h5
                    · exact .inr (.inl ⟨hrd _ _ _ h5, f, by simp [hf], h6⟩)
                    · exact .inr (.inr ⟨B, g, b, h5, by rw [hβ i hi]; exact h6, by rw [hat b (hI.blt i b h6)]; exact h7, h8, h9⟩)
                cases hd : o.dst with
                | none => exact hp2
                | some d => exact hp2.put (hfree i hi oi hoi d hd).1 (hfree i hi oi hoi d hd).2
              · simp only [List.mem_singleton] at hi
                subst hi
                refine ⟨o, hok, hact, a.eval, v, fun x hx => ?_, fun d hd hlt => ?_, ?_⟩
                · cases hd : o.dst with
                  | none => rfl
                  | some d =>
                    rw [put_eval]
                    intro e; subst e
                    exact S.self i o d hok hd hact (mem_looks_op hx)
                · rw [put_size] at hlt
                  rw [hd]
                  simp only [Act.put]
                  rw [Array.getD_eq_getD_getElem?, Array.getElem?_setIfInBounds, if_pos rfl, if_pos hlt]
                  rfl
                · have hw : cwanted ops o (a.put o.dst v).tmps = cwanted ops o a.tmps := by
                    cases hd : o.dst with
                    | none => rfl
                    | some d => exact cwanted_put (S.self i o d hok hd hact)
                  rw [hw]
                  rcases hk with hk | ⟨hk1, hk2, hk3⟩
                  · exact .inl hk
                  · refine .inr ⟨hk1, hk2, ?_⟩
                    rcases hk3 with hk3 | ⟨hk3, rfl⟩ | hk3
                    · exact .inl hk3
                    · exact .inr (.inl ⟨hk3, ⟨i, o.op, a.eval, some v⟩, by simp, rfl, rfl, rfl, rfl⟩)
                    · exact .inr (.inr hk3)
          obtain ⟨pre2, rest2, fl2, β3, a2, s3, g1, g2, g3, g4, g5, g6, g7, g8⟩ := ih (pre ++ [k]) _ β2 (a.put o.dst v) s2 (by rw [hc]; simp) h2 hI2 (fun i hi => by simp [hD i hi])
          refine ⟨pre2, rest2, fl2, β3, a2, s3, g1, g2, g3, g4, g5, hE2.trans g6, fun i hi => ?_, fun i b hb => (g8 i b hb).elim (fun h => hnew i b h) (fun h => .inr (Nat.le_trans hE2.next h))⟩
          rcases g7 i hi with g7 | g7
          · rcases List.mem_append.1 g7 with g7 | g7
            · exact .inl g7
            · simp only [List.mem_singleton] at g7
              subst g7
              exact .inr fun o2 ho2 => by rw [hok] at ho2; cases ho2; exact hact
          · exact .inr g7
        have hβk : ∀ i b, β i = some b → i ∈ pre ++ [k] := fun i b hb => by simp [hI.bpre i b hb]
        simp only [cregionD, hok] at h
        split at h
        · exact h.elim
        · rename_i hw
          rw [hact] at h
          simp only [Bool.false_eq_true, if_false] at h
          exact hgo undef s none β h hI.rel (Ext.refl _ _) (fun _ _ _ h => h) (fun _ _ => rfl) (fun _ _ => rfl) hI.inj hI.blt hβk (fun _ _ h => .inl h) (.inl ⟨hw, rfl⟩)
        · rename_i hw
          split at h
          case h_2 => exact h.elim
          rename_i hop
          rw [hact] at h
          simp only [Bool.false_eq_true, if_false] at h
          rcases h with ⟨v, h1, h⟩ | ⟨v, h2, h⟩ | ⟨B, g, h3, h⟩
          · exact hgo v s none β h hI.rel (Ext.refl _ _) (fun _ _ _ h => h) (fun _ _ => rfl) (fun _ _ => rfl) hI.inj hI.blt hβk (fun _ _ h => .inl h) (.inr ⟨hw, hop, .inl h1⟩)
          · exact hgo v s (some v) β h hI.rel (Ext.refl _ _) (fun _ _ _ h => h) (fun _ _ => rfl) (fun _ _ => rfl) hI.inj hI.blt hβk (fun _ _ h => .inl h) (.inr ⟨hw, hop, .inr (.inl ⟨h2, rfl⟩)⟩)
          · (
                have hne : ∀ i b, β i = some b → b ≠ s.next := fun i b hb => by have := hI.blt i b hb; omega
                refine hgo (g s.next) (s.new B) none (fun i => if i = k then some s.next else β i) h (hI.rel.new B) (Ext.new ρ s B) (fun op ev0 r hr => cread_new hI.rel.fresh B hr)
                  (fun b hb => by rw [St.at_new, if_neg (by omega)]) (fun i hi => by show (if i = k then some s.next else β i) = β i; rw [if_neg]; intro e; subst e; exact hknot hi) ?_ ?_ ?_ ?_ (.inr ⟨hw, hop, .inr (.inr ⟨B, g, s.next, h3, by simp, by simp, hI.rel.none_next (Nat.le_refl _), rfl⟩)⟩)
                · intro i j b hi hj
                  change (if i = k then some s.next else β i) = some b at hi
                  change (if j = k then some s.next else β j) = some b at hj
                  split at hi
                  · split at hj
                    · rename_i e1 e2; rw [e1, e2]
                    · cases hi; exact absurd rfl (hne _ _ hj)
                  · split at hj
                    · cases hj; exact absurd rfl (hne _ _ hi)
                    · exact hI.inj _ _ _ hi hj
                · intro i b hi
                  change (if i = k then some s.next else β i) = some b at hi
                  split at hi
                  · cases hi; simp
                  · have := hI.blt _ _ hi; simp; omega
                · intro i b hi
                  change (if i = k then some s.next else β i) = some b at hi
                  split at hi
                  · rename_i e; subst e; simp
                  · exact hβk _ _ hi
                · intro i b hi
                  change (if i = k then some s.next else β i) = some b at hi
                  split at hi
                  · cases hi; exact .inr (Nat.le_refl _)
                  · exact .inl hi)
end
end Go.Cs
namespace Go.Cs
def cnt (D : Array Bool) : Nat → Nat
  | 0 => 0
  | n + 1 => cnt D n + (if D.getD n false then 0 else 1)
theorem cnt_le {D D' : Array Bool} (h : ∀ j, D.getD j false = true → D'.getD j false = true) : ∀ n, cnt D' n ≤ cnt D n := by
  intro n
  induction n with
  | zero => simp [cnt]
  | succ n ih =>
    simp only [cnt]
    have := h n
    cases h1 : D.getD n false <;> cases h2 : D'.getD n false <;> simp_all <;> omega
theorem cnt_lt {D D' : Array Bool} (h : ∀ j, D.getD j false = true → D'.getD j false = true) {i : Nat} (hi : D.getD i false = false) (hi' : D'.getD i false = true) : ∀ n, i < n → cnt D' n < cnt D n := by
  intro n
  induction n with
  | zero => intro hn; omega
  | succ n ih =>
    intro hn
    simp only [cnt]
    by_cases e : i = n
    · subst e
      rw [hi, hi']
      have := cnt_le h i
      simp; omega
    · have := ih (by omega)
      have := h n
      cases h1 : D.getD n false <;> cases h2 : D'.getD n false <;> simp_all <;> omega
theorem cnt_zero {D : Array Bool} : ∀ n, cnt D n = 0 → ∀ j, j < n → D.getD j false = true := by
  intro n
  induction n with
  | zero => intro _ j hj; omega
  | succ n ih =>
    intro h j hj
    simp only [cnt] at h
    by_cases e : j = n
    · subst e
      cases h1 : D.getD j false with
      | true => rfl
      | false => rw [h1] at h; simp at h
    · exact ih (by omega) j (by omega)
theorem getD_set_same {D : Array Bool} {i : Nat} (h : i < D.size) : (D.setIfInBounds i true).getD i false = true := by
  rw [Array.getD_eq_getD_getElem?, Array.getElem?_setIfInBounds, if_pos rfl, if_pos h]; rfl
section
variable {M : Type} [Mem M] {P : Program} {w0 : World}
def DPost (P : Program) (w0 : World) (dk : DK) (ρ0 : Ren) (s0 : St M) (Q : Act → St M → Prop) : Exit → Act → World → Prop := fun e a2' w2 =>
  e = .normal ∧ ∃ a2 s2 ρ2, Q a2 s2 ∧ Rel P w0 ρ2 s2 w2 ∧ ActRel dk ρ2 a2 a2' ∧ Ext ρ0 s0 ρ2 s2
theorem draw_any {dk : DK} {ops : Array Oper} {bf : Array Nat} {canon : List Nat} (S : Stat P ops bf canon) {ρ0 : Ren} {s0 : St M} {Q : Act → St M → Prop} :
    ∀ (fuel : Nat) (D : Array Bool) (pre rest : List Nat) (fl : List (Fl M)) (β : Nat → Option Nat) (ρ : Ren) (a : Act) (s : St M) (a' : Act) (w : World),
      canon = pre ++ rest → D.size = ops.size → cnt D ops.size ≤ fuel → Down ops D → (∀ i, D.getD i false = true → i ∈ pre) → (∀ i r o, rest = i :: r → ops[i]? = some o → acts P o = true) →
      cregionD P w0 ops bf Q rest fl a s → DInv P w0 dk ops D pre fl β ρ a s a' w → Ext ρ0 s0 ρ s → (∀ i b, β i = some b → s0.next ≤ b) → wpAnyIn (rF dk.ro) 0 P .any ops (DPost P w0 dk ρ0 s0 Q) fuel D a' w := by
  -- all is done: the end
  have hend : ∀ (D : Array Bool) (pre rest : List Nat) (fl : List (Fl M)) (β : Nat → Option Nat) (ρ : Ren) (a : Act) (s : St M) (a' : Act) (w : World),
      canon = pre ++ rest → (∀ i, D.getD i false = true → i ∈ pre) → cregionD P w0 ops bf Q rest fl a s → DInv P w0 dk ops D pre fl β ρ a s a' w → Ext ρ0 s0 ρ s → (∀ i, i < ops.size → D.getD i false = true) →
      DPost P w0 dk ρ0 s0 Q .normal a' w := by
    intro D pre rest fl β ρ a s a' w hc hD h hI hE hall
    have hr : rest = [] := by
      cases rest with
      | nil => rfl
      | cons k r =>
        have hk : k ∈ canon := by rw [hc]; simp
        have h1 := hD k (hall k ((S.mem k).1 hk))
        have h2 := S.nodup
        rw [hc, List.nodup_append] at h2
        exact absurd rfl (h2.2.2 k h1 k (by simp))
    subst hr
    refine ⟨rfl, a, s, ρ, h, hI.rel, ⟨⟨hI.size, fun t ht => hI.tm t fun i hi o ho hun => ?_⟩, hI.d, hI.d'⟩, hE⟩
    have hi2 : i ∈ canon := by rw [hc]; simp [hi]
    have := hall i ((S.mem i).1 hi2)
    rw [this] at hun; cases hun
  intro fuel
  induction fuel with
  | zero =>
    intro D pre rest fl β ρ a s a' w hc hsz hcnt hDown hD hhead h hI hE hβ
    have hall := cnt_zero ops.size (by omega : cnt D ops.size = 0)
    refine ⟨?_, hend D pre rest fl β ρ a s a' w hc hD h hI hE hall⟩
    cases hr : Region.ready .any ops D with
    | nil => rfl
    | cons j l =>
      have hj : j ∈ Region.ready .any ops D := by rw [hr]; simp
      obtain ⟨h1, o, ho, _⟩ := mem_ready.1 hj
      have hjlt : j < ops.size := by
        rcases Nat.lt_or_ge j ops.size with h' | h'
        · exact h'
        · rw [Array.getElem?_eq_none h'] at ho; cases ho
      have h2 := hall j hjlt
      have : j < D.size := by omega
      simp only [Array.getD, this, dif_pos] at h1 h2
      rw [h2] at h1; cases h1
  | succ fuel ih =>
    intro D pre rest fl β ρ a s a' w hc hsz hcnt hDown hD hhead h hI hE hβ
    refine ⟨fun hr => ?_, fun i hi => ?_⟩
    · -- nothing is ready: all is done
      refine hend D pre rest fl β ρ a s a' w hc hD h hI hE ?_
      have key : ∀ n, ∀ i ∈ canon.take n, D.getD i false = true := by
        intro n
        induction n with
        | zero => intro i hi; simp at hi
        | succ n ihn =>
          intro i hi
          rcases Nat.lt_or_ge n canon.length with hn | hn
          · rw [List.take_succ_eq_append_getElem hn, List.mem_append, List.mem_singleton] at hi
            rcases hi with hi | hi
            · exact ihn i hi
            · subst hi
              cases hun : D.getD canon[n] false with
              | true => rfl
              | false =>
                have hlt : canon[n] < ops.size := (S.mem _).1 (List.getElem_mem hn)
                have ho : ops[canon[n]]? = some ops[canon[n]] := by simp
                have : canon[n] ∈ Region.ready .any ops D := by
                  rw [mem_ready]
                  refine ⟨?_, ops[canon[n]], ho, fun e he hb => ?_⟩
                  · have : canon[n] < D.size := by omega
                    simp only [Array.getD, this, dif_pos] at hun ⊢
                    exact hun
                  · refine ihn _ (S.before (canon.take n) canon[n] (canon.drop (n + 1)) _ ?_ ho _ ?_)
                    · rw [← List.drop_eq_getElem_cons hn, List.take_append_drop]
                    · simp only [bindsAll, List.mem_map, List.mem_filter]
                      exact ⟨e, ⟨by simpa using he, hb⟩, rfl⟩
                rw [hr] at this; cases this
          · rw [List.take_of_length_le (by omega)] at hi
            exact ihn i (by rw [List.take_of_length_le hn]; exact hi)
      intro i hi
      exact key canon.length i (by rw [List.take_length]; exact (S.mem i).2 hi)
    · -- an operation that is ready
      obtain ⟨hun0, o, ho, hall0⟩ := mem_ready.1 hi
      have hilt : i < ops.size := by
        rcases Nat.lt_or_ge i ops.size with h' | h'
        · exact h'
        · rw [Array.getElem?_eq_none h'] at ho; cases ho
      have hiD : i < D.size := by omega
      have hun : D.getD i false = false := by
        simp only [Array.getD, hiD, dif_pos] at hun0 ⊢; exact hun0
      have hall : ∀ k ∈ bindsAll o, D.getD k false = true := by
        intro k hk
        simp only [bindsAll, List.mem_map, List.mem_filter] at hk
        obtain ⟨e, ⟨he, hb⟩, rfl⟩ := hk
        exact hall0 e (by simpa using he) hb
      have hchain : ∀ j, (bf.getD i 0).testBit j = true → j < ops.size → D.getD j false = true := fun j hb hj => S.chain hDown i j o ho hall hb hj
      -- none that is pending writes what i looks at
      have hlooks : ∀ t, t ∈ o.looksAt ops → VRel ρ (a.tmps.getD t undef) (a'.tmps.getD t undef) := by
        intro t ht
        refine hI.tm t fun j hj oj hoj hunj he => ?_
        obtain ⟨oj', hoj', hactj, _⟩ := hI.pend j hj hunj
        rw [hoj] at hoj'; cases hoj'
        have hjlt : j < ops.size := (S.mem j).1 (by rw [hc]; simp [hj])
        by_cases e : i = j
        · subst e
          rw [ho] at hoj; cases hoj
          exact S.self i o t ho he hactj ht
        · rcases S.looks i j o oj t ho hoj e he ht with h1 | ⟨h1, _⟩
          · rw [hchain j h1 hjlt] at hunj; cases hunj
          · rw [hactj] at h1; cases h1
      have hops : o.op.operands.all opOk = true → ∀ x ∈ o.op.operands, VRel ρ (a.eval x) (a'.eval x) := by
        intro hk x hx
        rw [Array.all_eq_true_iff_forall_mem] at hk
        cases x with
        | tmp t => exact hlooks t (mem_looks_op hx)
        | const v => exact VRel.of_plain 6 (hk _ hx)
        | global g => have := hk _ hx; simp [opOk] at this
        | func f => exact .func _ (by simp) rfl (fun i hi => by simp at hi) rfl (fun i hi => by simp at hi)
      have hwant : ∀ b, cwanted ops o a.tmps = some b → Region.wanted o (yielded ops a'.tmps) = b := by
        intro b hb
        exact cwanted_sound hb (fun j want d hg hd _ => hlooks d (mem_looks_guard hg hd)) hI.size
      -- the array of what is done, with i
      have hmono : ∀ j, D.getD j false = true → (D.setIfInBounds i true).getD j false = true := by
        intro j hj
        by_cases e : i = j
        · subst e; exact getD_set_same hiD
        · rw [getD_set_ne false e]; exact hj
      have hself : (D.setIfInBounds i true).getD i false = true := getD_set_same hiD
      have hne : ∀ j, i ≠ j → (D.setIfInBounds i true).getD j false = D.getD j false := fun j e => getD_set_ne false e
      have hcnt' : cnt (D.setIfInBounds i true) ops.size ≤ fuel := by
        have := cnt_lt hmono hun hself ops.size hilt
        omega
      have hDown' : Down ops (D.setIfInBounds i true) := by
        intro j oj hoj hj k hk
        by_cases e : i = j
        · subst e; rw [ho] at hoj; cases hoj; exact hmono k (hall k hk)
        · rw [hne j e] at hj; exact hmono k (hDown j oj hoj hj k hk)
      have hsz' : (D.setIfInBounds i true).size = ops.size := by simpa using hsz
      unfold wpOpIn
      rw [ho]
      simp only
      by_cases hact : acts P o = true
      · -- it acts: it is the next one
        have hirest : ∃ r, rest = i :: r := by
          have hic : i ∈ canon := (S.mem i).2 hilt
          rw [hc, List.mem_append] at hic
          rcases hic with hic | hic
          · obtain ⟨oi, hoi, ha, _⟩ := hI.pend i hic hun
            rw [ho] at hoi; cases hoi
            rw [hact] at ha; cases ha
          · cases rest with
            | nil => cases hic
            | cons k r =>
              rcases List.mem_cons.1 hic with rfl | hic
              · exact ⟨r, rfl⟩
              · -- k acts, and goes ahead of i
                have hk : k < ops.size := (S.mem k).1 (by rw [hc]; simp)
                have hok : ops[k]? = some ops[k] := by simp
                have hka := hhead k r _ rfl hok
                have hb := S.later pre k r _ hc hok hka i hic
                have hkD := hchain k hb hk
                have h2 := S.nodup
                rw [hc, List.nodup_append] at h2
                exact absurd rfl (h2.2.2 k (hD k hkD) k (by simp))
        obtain ⟨r, rfl⟩ := hirest
        simp only [cregionD, ho] at h
        have hinot : i ∉ pre := by
          intro h1
          have h2 := S.nodup
          rw [hc, List.nodup_append] at h2
          exact absurd rfl (h2.2.2 i h1 i (by simp))
        have hnext : ∀ (v v' : Value) (s' : St M) (w' : World) (ρ' : Ren), cregionD P w0 ops bf Q r fl (a.put o.dst v) s' → (∀ f ∈ fl, (bf.getD i 0).testBit f.i = false → f.still P s → f.still P s') → VRel ρ' v v' → Rel P w0 ρ' s' w' → Ext ρ s ρ' s' →
            wpAnyIn (rF dk.ro) 0 P .any ops (DPost P w0 dk ρ0 s0 Q) fuel (D.setIfInBounds i true) (a'.put o.dst v') w' := by
          intro v v' s' w' ρ' h2 hstill hv hR2 hE2
          have hI2 : DInv P w0 dk ops (D.setIfInBounds i true) (pre ++ [i]) fl β ρ' (a.put o.dst v) s' (a'.put o.dst v') w' := by
            refine ⟨hR2, by rw [put_size, put_size]; exact hI.size, ?_, ?_, fun t ht => ?_, fun j hj hunj => ?_, hI.inj, fun j b hb => Nat.lt_of_lt_of_le (hI.blt j b hb) hE2.next, fun j b hb => by simp [hI.bpre j b hb]⟩
            · unfold Act.put; split <;> exact hI.d
            · unfold Act.put; split <;> exact hI.d'.mono hE2.le
            · have hold : o.dst ≠ some t → VRel ρ' ((a.put o.dst v).tmps.getD t undef) ((a'.put o.dst v').tmps.getD t undef) := by
                intro hdt
                have h3 := (hI.tm t (fun j hj oj hoj hunj => ht j (by simp [hj]) oj hoj (by
                  rw [hne j]
                  · exact hunj
                  · intro e; subst e; exact hinot hj))).mono hE2.le
                cases hd : o.dst with
                | none => exact h3
                | some d =>
                  have : d ≠ t := fun e => hdt (by rw [hd, e])
                  rw [put_getD this, put_getD this]; exact h3
              by_cases e : o.dst = some t
              · rw [e]
                simp only [Act.put]
                rw [Array.getD_eq_getD_getElem?, Array.getElem?_setIfInBounds, if_pos rfl, Array.getD_eq_getD_getElem?, Array.getElem?_setIfInBounds, if_pos rfl, hI.size]
                split
                · exact hv
                · exact VRel.undef _
              · exact hold e
            · rcases List.mem_append.1 hj with hj | hj
              · have hji : i ≠ j := fun e => hinot (e ▸ hj)
                rw [hne j hji] at hunj
                obtain ⟨oj, hoj, haj, hp⟩ := hI.pend j hj hunj
                have hjlt : j < ops.size := (S.mem j).1 (by rw [hc]; simp [hj])
                have hbij : (bf.getD i 0).testBit j = false := by
                  cases hb : (bf.getD i 0).testBit j with
                  | false => rfl
                  | true => rw [hchain j hb hjlt] at hunj; cases hunj
                refine ⟨oj, hoj, haj, ?_⟩
                have hp2 : Pend P ops oj j fl β ρ' a s' := by
                  obtain ⟨ev0, val, h1, h2, h3⟩ := hp
                  refine ⟨ev0, val, h1, h2, ?_⟩
                  rcases h3 with h3 | ⟨h3, h4, h5⟩
                  · exact .inl h3
                  · refine .inr ⟨h3, h4, ?_⟩
                    rcases h5 with h5 | ⟨h5, f, hf, h6, h7, h8, h9⟩ | ⟨B, g, b, h5, h6, h7, h8, h9⟩
                    · exact .inl h5
                    · have := hstill f hf (by rw [h6]; exact hbij) (by unfold Fl.still; rw [h9, h8, h7]; exact h5)
                      unfold Fl.still at this
                      rw [h9, h8, h7] at this
                      exact .inr (.inl ⟨this, f, hf, h6, h7, h8, h9⟩)
                    · exact .inr (.inr ⟨B, g, b, h5, h6, by rw [hE2.unr b (hI.blt j b h6) h8]; exact h7, by rw [hE2.old b (hI.blt j b h6)]; exact h8, h9⟩)
                cases hd : o.dst with
                | none => exact hp2
                | some d =>
                  refine hp2.put (fun hl => ?_) (fun he => ?_)
                  · rcases S.looks j i oj o d hoj ho (Ne.symm hji) hd hl with h1 | ⟨_, h1⟩
                    · exact S.noLater hc hilt j oj hoj hj h1
                    · rw [hbij] at h1; cases h1
                  · have := (S.dsts j i oj o d hoj ho (Ne.symm hji) hd he).1
                    rw [haj] at this; cases this
              · simp only [List.mem_singleton] at hj
                subst hj
                rw [hself] at hunj; cases hunj
          have hD2 : ∀ j, (D.setIfInBounds i true).getD j false = true → j ∈ pre ++ [i] := by
            intro j hj
            by_cases e : i = j
            · subst e; simp
            · rw [hne j e] at hj; simp [hD j hj]
          obtain ⟨pre2, rest2, fl2, β2, a2, s2, g1, g2, g3, g4, g5, g6, g7, g8⟩ := dinv_advance S hsz' hDown' r (pre ++ [i]) fl β (a.put o.dst v) s' (by rw [hc]; simp) h2 hI2 hD2
          refine ih (D.setIfInBounds i true) pre2 rest2 fl2 β2 ρ' a2 s2 _ w' g1 hsz' hcnt' hDown' g4 g5 g2 g3 ((hE.trans hE2).trans g6) (fun j b hb => ?_)
          rcases g8 j b hb with g8 | g8
          · exact hβ j b g8
          · have := hE.next; have := hE2.next; omega
        split at h
        · exact h.elim
        · rename_i hw
          rw [hwant _ hw]
          simp only [Bool.false_eq_true, if_false]
          rw [hact] at h
          simp only [if_true] at h
          refine ⟨fun _ _ => trivial, ?_⟩
          exact hnext undef undef s w ρ h (fun f hf hb hs => hs) (VRel.undef _) hI.rel (Ext.refl _ _)
        · rename_i hw
          rw [hwant _ hw]
          simp only [if_true]
          split at h
          case h_2 => exact h.elim
          rename_i hop
          rw [hact] at h
          simp only [if_true] at h
          refine cstep_sound h hI.rel (hops hop) ?_ dk.ro
          intro v s' v' w' ρ' hk hv hR2 hE2
          obtain ⟨hk1, hk2⟩ := stillAll_spec _ hk
          exact hnext v v' s' w' ρ' hk1 (fun f hf hb _ => hk2 f (List.mem_filter.2 ⟨hf, by rw [hb]; rfl⟩)) hv hR2 hE2
      · -- it does not act: the clean run has done it
        have hact : acts P o = false := by simpa using hact
        have hipre : i ∈ pre := by
          have hic : i ∈ canon := (S.mem i).2 hilt
          rw [hc, List.mem_append] at hic
          rcases hic with hic | hic
          · exact hic
          · exfalso
            cases rest with
            | nil => cases hic
            | cons k r =>
              have hk : k < ops.size := (S.mem k).1 (by rw [hc]; simp)
              have hok : ops[k]? = some ops[k] := by simp
              have hka := hhead k r _ rfl hok
              rcases List.mem_cons.1 hic with e | hic
              · subst e
                rw [ho] at hok; cases hok
                rw [hka] at hact; cases hact
              · have hb := S.later pre k r _ hc hok hka i hic
                have hkD := hchain k hb hk
                have h2 := S.nodup
                rw [hc, List.nodup_append] at h2
                exact absurd rfl (h2.2.2 k (hD k hkD) k (by simp))
        obtain ⟨oi, hoi, _, ev0, val, g1, g2, g3⟩ := hI.pend i hipre hun
        rw [ho] at hoi; cases hoi
        have hnext : ∀ (v' : Value) (w' : World) (ρ' : Ren), VRel ρ' val v' → Rel P w0 ρ' s w' → ρ.le ρ' → Ext ρ0 s0 ρ' s → (∀ j b, j ≠ i → β j = some b → ρ b = none → ρ' b = none) →
            wpAnyIn (rF dk.ro) 0 P .any ops (DPost P w0 dk ρ0 s0 Q) fuel (D.setIfInBounds i true) (a'.put o.dst v') w' := by
          intro v' w' ρ' hv hR2 hle hE2 hnone
          refine ih (D.setIfInBounds i true) pre rest fl β ρ' a s (a'.put o.dst v') w' hc hsz' hcnt' hDown' (fun j hj => ?_) hhead h ⟨hR2, by rw [put_size]; exact hI.size, hI.d, ?_, fun t ht => ?_, fun j hj hunj => ?_, hI.inj, hI.blt, hI.bpre⟩ hE2 hβ
          · by_cases e : i = j
            · subst e; exact hipre
            · rw [hne j e] at hj; exact hD j hj
          · unfold Act.put; split <;> exact hI.d'.mono hle
          · by_cases e : o.dst = some t
            · rw [e]
              simp only [Act.put]
              rw [Array.getD_eq_getD_getElem? (xs := a'.tmps.setIfInBounds t v'), Array.getElem?_setIfInBounds, if_pos rfl]
              by_cases hlt : t < a.tmps.size
              · rw [if_pos (by rw [← hI.size]; exact hlt), g2 t e hlt]; exact hv
              · rw [if_neg (by rw [← hI.size]; exact hlt)]
                have : a.tmps.getD t undef = undef := by simp [Array.getD, hlt]
                rw [this]; exact VRel.undef _
            · have h3 := (hI.tm t (fun j hj oj hoj hunj => by
                by_cases e2 : i = j
                · subst e2; rw [ho] at hoj; cases hoj; exact e
                · exact ht j hj oj hoj (by rw [hne j e2]; exact hunj))).mono hle
              cases hd : o.dst with
              | none => exact h3
              | some d =>
                have : d ≠ t := fun e2 => e (by rw [hd, e2])
                rw [put_getD this]; exact h3
          · have hji : i ≠ j := by intro e; subst e; rw [hself] at hunj; cases hunj
            rw [hne j hji] at hunj
            obtain ⟨oj, hoj, haj, ev1, val1, f1, f2, f3⟩ := hI.pend j hj hunj
            refine ⟨oj, hoj, haj, ev1, val1, f1, f2, ?_⟩
            rcases f3 with f3 | ⟨f3, f4, f5⟩
            · exact .inl f3
            · refine .inr ⟨f3, f4, ?_⟩
              rcases f5 with f5 | f5 | ⟨B, g, b, f5, f6, f7, f8, f9⟩
              · exact .inl f5
              · exact .inr (.inl f5)
              · exact .inr (.inr ⟨B, g, b, f5, f6, f7, hnone j b (Ne.symm hji) f6 f8, f9⟩)
        rcases g3 with ⟨hw, rfl⟩ | ⟨hw, hop, g3⟩
        · rw [hwant _ hw]
          simp only [Bool.false_eq_true, if_false]
          refine ⟨fun _ _ => trivial, ?_⟩
          exact hnext undef w ρ (VRel.undef _) hI.rel ρ.le_refl hE (fun _ _ _ _ h => h)
        · rw [hwant _ hw]
          simp only [if_true]
          have hev : ∀ x ∈ o.op.operands, VRel ρ (ev0 x) (a'.eval x) := by
            intro x hx
            rw [← g1 x hx]
            exact hops hop x hx
          have hnd : ∀ c, o.op ≠ .defer c := by
            intro c hc
            rcases g3 with g3 | ⟨g3, _⟩ | ⟨B, g, b, g3, _⟩
            · rw [hc] at g3; simp [cpure] at g3
            · rw [hc] at g3; simp [cread] at g3
            · rw [hc] at g3; simp [calloc] at g3
          refine ⟨fun _ _ => trivial, ?_⟩
          rw [Oper.semAt_plain _ _ _ hnd]
          rcases g3 with g3 | ⟨g3, _⟩ | ⟨B, g, b, g3, g4, g5, g6, rfl⟩
          · obtain ⟨v', h1, h2⟩ := cpure_sound (ev' := a'.eval) g3 hev w
            rw [h1]
            exact hnext v' w ρ h2 hI.rel ρ.le_refl hE (fun _ _ _ _ h => h)
          · obtain ⟨v', h1, h2⟩ := cread_sound (ev' := a'.eval) g3 hI.rel hev
            rw [h1]
            exact hnext v' w ρ h2 hI.rel ρ.le_refl hE (fun _ _ _ _ h => h)
          · obtain ⟨obj, bi, n, v', h1, h2, hk0, h3⟩ := calloc_sound (ev' := a'.eval) (w := w) g3 hev (fun _ => trivial)
            obtain ⟨h4, h5⟩ := h3 b g6
            have hR2 := (hI.rel.drew n).place (hI.blt i b g4) g6 g5 h2 h4 (.inl hk0)
            rw [h1]
            refine hnext v' _ (ρ.add b bi) h5 hR2 (Ren.le_add g6) ?_ (fun j b' hji hb' hn => ?_)
            · have hb0 := hβ i b g4
              exact ⟨fun x y hx => Ren.le_add g6 _ _ (hE.le _ _ hx), fun x hx => by unfold Ren.add; rw [if_neg (by omega)]; exact hE.old x hx, hE.next, hE.unr⟩
            · unfold Ren.add
              rw [if_neg]
              · exact hn
              · intro e; subst e; exact hji (hI.inj _ _ _ hb' g4)
theorem cwp_regionD {id : Nat} {ops : Array Oper} {canon : List Nat} {Q : Exit → Act → St M → Prop} {a : Act} {s : St M} (hm : P.follows .mixedOrders = true) (hc : drawOk P ops canon = true)
    (h : cregionD P w0 ops (Region.before ops) (fun a s => Q .normal a s) canon [] a s) : CWp P w0 (.region id ops true) Q a s := by
  intro dk ρ a' w hR ha hb
  have S := stat_of hc
  refine wpIn_mono (wpIn_region_any hm (Q := DPost P w0 dk ρ s (fun a s => Q .normal a s)) ?_) ?_
  · have hRd := hR.drew (w.drawn + 1)
    have hfalse : ∀ i, (Array.replicate ops.size false).getD i false = false := by
      intro i
      rw [Array.getD_eq_getD_getElem?, Array.getElem?_replicate]
      split <;> rfl
    have hI : DInv P w0 dk ops (Array.replicate ops.size false) [] [] (fun _ => none) ρ a s a' { w with drawn := w.drawn + 1 } :=
      ⟨hRd, ha.tmps.1, ha.d, ha.d', fun t _ => ha.tmps.getD t, fun i hi => (by cases hi), fun _ _ _ h => (by cases h), fun _ _ h => (by cases h), fun _ _ h => (by cases h)⟩
    have hdown : Down ops (Array.replicate ops.size false) := fun i o _ hi => by rw [hfalse i] at hi; cases hi
    have hD : ∀ i, (Array.replicate ops.size false).getD i false = true → i ∈ ([] : List Nat) := fun i hi => by rw [hfalse i] at hi; cases hi
    obtain ⟨pre2, rest2, fl2, β2, a2, s2, g1, g2, g3, g4, g5, g6, g7, g8⟩ := dinv_advance S (by simp) hdown canon [] [] (fun _ => none) a s rfl h hI hD
    refine draw_any S ops.size (Array.replicate ops.size false) pre2 rest2 fl2 β2 ρ a2 s2 a' _ g1 (by simp) ?_ hdown g4 g5 g2 g3 g6 (fun j b hb => ?_)
    · have : ∀ (D : Array Bool) n, cnt D n ≤ n := by
        intro D n
        induction n with
        | zero => simp [cnt]
        | succ n ih => simp only [cnt]; split <;> omega
      exact this _ _
    · rcases g8 j b hb with g8 | g8
      · cases g8
      · exact g8
  · rintro e a2' w2 ⟨rfl, a2, s2, ρ2, h1, h2, h3, h4⟩
    exact ⟨a2, s2, ρ2, h1, by simp, by simp, h2, h3, h4⟩
end
end Go.Cs
namespace Go.Cs
section
variable {M : Type} [Mem M] (P : Program) (w0 : World)
theorem stepR_scope {b : Frame} {a : Act} {k : List Item} {cs : List Frame} {w : World} {c : Code} : step P (lone (b.atR a (.code (.scope c) :: k)) cs w) = .next (lone (b.atR a (.code c :: .inScope c :: k)) cs w) :=
  step_lone_go (by simp [stepG, stepG.exec, Frame.atR])
theorem stepR_inScope {b : Frame} {a : Act} {k : List Item} {cs : List Frame} {w : World} {c : Code} : step P (lone (b.atR a (.inScope c :: k)) cs w) = .next (lone (b.atR a k) cs w) :=
  step_lone_go (by simp [stepG, stepG.exec, Frame.atR])
def CLoop (c : Code) (Q : Exit → Act → St M → Prop) (a : Act) (s : St M) : Prop :=
  ∀ dk ρ a' w, Rel P w0 ρ s w → ActRel dk ρ a a' → dk.base ≤ s.next → ∀ (b : Frame) (k : List Item) (cs : List Frame), b.roundOf = dk.ro →
    ∃ e a2' w2, CPost P w0 dk ρ s Q e a2' w2 ∧ ArrivesIn (Machine.fenced P (rF dk.ro)) P (lone (b.atR a' (.code c :: .inLoop c :: k)) cs w) b k cs e a2' w2
def CScope (c x : Code) (Q : Exit → Act → St M → Prop) (a : Act) (s : St M) : Prop :=
  ∀ dk ρ a' w, Rel P w0 ρ s w → ActRel dk ρ a a' → dk.base ≤ s.next → ∀ (b : Frame) (k : List Item) (cs : List Frame), b.roundOf = dk.ro →
    ∃ e a2' w2, CPost P w0 dk ρ s Q e a2' w2 ∧ ArrivesIn (Machine.fenced P (rF dk.ro)) P (lone (b.atR a' (.code x :: .inScope c :: k)) cs w) b k cs e a2' w2
def cthen (K : Act → St M → Prop) (Q : Exit → Act → St M → Prop) : Exit → Act → St M → Prop
  | .normal, a, s => K a s
  | e, a, s => Q e a s
def cblock (id : Nat) (Q : Exit → Act → St M → Prop) : Exit → Act → St M → Prop
  | .exit j, a, s => if j = id then Q .normal a s else Q (.exit j) a s
  | e, a, s => Q e a s
def cscope (c : Code) (Q : Exit → Act → St M → Prop) (J : Code → Act → St M → Prop) : Exit → Act → St M → Prop
  | .goto l, a, s => match findLabel c l with
    | some rest => J rest a s
    | none => Q (.goto l) a s
  | e, a, s => Q e a s
def cresult (tmps : Array Value) (s : St M) : ResultVar → Option Value
  | .tmp t => some (tmps.getD t undef)
  | .cell a t => match tmps.getD a undef with
    | .pointer (some ad) => cload P t ad s
    | _ => none
def cresults (fn : Func) (tmps : Array Value) (s : St M) : Option Value :=
  (fn.results.toList.mapM (cresult P tmps s)).map fun vs => match vs with
    | [v] => v
    | vs => .tuple vs.toArray
def cbody (fn : Func) (R : Value → St M → Prop) : Exit → Act → St M → Prop
  | .normal, a, s => match cresults P fn a.tmps s with
    | some v => R v s
    | none => False
  | .ret, a, s => match cresults P fn a.tmps s with
    | some v => R v s
    | none => False
  | _, _, _ => False
end
section
variable {M : Type} [Mem M] {P : Program} {w0 : World} {Q : Exit → Act → St M → Prop} {a : Act} {s : St M}
theorem CPost.trans {dk : DK} {ρ ρ1 : Ren} {s s1 : St M} (hE : Ext ρ s ρ1 s1) {e : Exit} {a' : Act} {w : World} (h : CPost P w0 dk ρ1 s1 Q e a' w) : CPost P w0 dk ρ s Q e a' w :=
  let ⟨a2, s2, ρ2, h1, h2, h3, h4, h5, h6⟩ := h; ⟨a2, s2, ρ2, h1, h2, h3, h4, h5, hE.trans h6⟩
theorem CPost.mono {dk : DK} {ρ : Ren} {s : St M} {Q' : Exit → Act → St M → Prop} (hq : ∀ e a s, Q e a s → Q' e a s) {e : Exit} {a' : Act} {w : World} (h : CPost P w0 dk ρ s Q e a' w) : CPost P w0 dk ρ s Q' e a' w :=
  let ⟨a2, s2, ρ2, h1, h2⟩ := h; ⟨a2, s2, ρ2, hq _ _ _ h1, h2⟩
theorem cwp_mono {c : Code} {Q' : Exit → Act → St M → Prop} (hq : ∀ e a s, Q e a s → Q' e a s) (h : CWp P w0 c Q a s) : CWp P w0 c Q' a s :=
  fun dk ρ a' w hR ha hb => wpIn_mono (h dk ρ a' w hR ha hb) fun _ _ _ h => CPost.mono (P := P) (w0 := w0) hq h
theorem cwp_skip (h : Q .normal a s) : CWp P w0 .skip Q a s := fun dk ρ a' w hR ha hb => wpIn_skip ⟨a, s, ρ, h, by simp, by simp, hR, ha, Ext.refl _ _⟩
theorem cwp_label {l : Nat} (h : Q .normal a s) : CWp P w0 (.label l) Q a s := fun dk ρ a' w hR ha hb => wpIn_label ⟨a, s, ρ, h, by simp, by simp, hR, ha, Ext.refl _ _⟩
theorem cwp_exit {id : Nat} (h : Q (.exit id) a s) : CWp P w0 (.exit id) Q a s := fun dk ρ a' w hR ha hb => wpIn_exit ⟨a, s, ρ, h, by simp, by simp, hR, ha, Ext.refl _ _⟩
theorem cwp_goto {l : Nat} (h : Q (.goto l) a s) : CWp P w0 (.goto l) Q a s := fun dk ρ a' w hR ha hb => wpIn_goto ⟨a, s, ρ, h, by simp, by simp, hR, ha, Ext.refl _ _⟩
theorem cwp_ret (h : Q .ret a s) : CWp P w0 .ret Q a s := fun dk ρ a' w hR ha hb => wpIn_ret ⟨a, s, ρ, h, by simp, by simp, hR, ha, Ext.refl _ _⟩
theorem cwp_seq {x y : Code} (h : CWp P w0 x (cthen (CWp P w0 y Q) Q) a s) : CWp P w0 (.seq x y) Q a s := by
  intro dk ρ a' w hR ha hb
  refine wpIn_seq (wpIn_mono (h dk ρ a' w hR ha hb) ?_)
  rintro e a2' w2 ⟨a2, s2, ρ2, hq, h1, h2, hR2, ha2, hE⟩
  cases e with
  | normal => exact wpIn_mono (hq dk ρ2 a2' w2 hR2 ha2 (Nat.le_trans hb hE.next)) fun _ _ _ h => CPost.trans (P := P) (w0 := w0) hE h
  | panic ch => exact absurd rfl (h1 ch)
  | outgrown => exact absurd rfl h2
  | exit id => exact ⟨a2, s2, ρ2, hq, h1, h2, hR2, ha2, hE⟩
  | goto l => exact ⟨a2, s2, ρ2, hq, h1, h2, hR2, ha2, hE⟩
  | ret => exact ⟨a2, s2, ρ2, hq, h1, h2, hR2, ha2, hE⟩
theorem cwp_cond {c : Operand} {x y : Code} {t : Bool} (hc : opOk c = true) (he : a.eval c = .bool t) (h : if t = true then CWp P w0 x Q a s else CWp P w0 y Q a s) : CWp P w0 (.cond c x y) Q a s := by
  intro dk ρ a' w hR ha hb
  have hv := ev_rel ha.tmps hc
  rw [he] at hv
  refine wpIn_cond hv.bool_inv ?_
  cases t
  · exact h dk ρ a' w hR ha hb
  · exact h dk ρ a' w hR ha hb
theorem cwp_block {id : Nat} {c : Code} (h : CWp P w0 c (cblock id Q) a s) : CWp P w0 (.block id c) Q a s := by
  intro dk ρ a' w hR ha hb
  refine wpIn_block (wpIn_mono (h dk ρ a' w hR ha hb) ?_)
  rintro e a2' w2 ⟨a2, s2, ρ2, hq, h1, h2, hR2, ha2, hE⟩
  cases e with
  | panic ch => exact absurd rfl (h1 ch)
  | outgrown => exact absurd rfl h2
  | exit j =>
    simp only [cblock] at hq
    simp only [Exit.inBlock]
    split at hq
    · rename_i e; rw [if_pos e]; exact ⟨a2, s2, ρ2, hq, by simp, by simp, hR2, ha2, hE⟩
    · rename_i e; rw [if_neg e]; exact ⟨a2, s2, ρ2, hq, by simp, by simp, hR2, ha2, hE⟩
  | normal => exact ⟨a2, s2, ρ2, hq, h1, h2, hR2, ha2, hE⟩
  | goto l => exact ⟨a2, s2, ρ2, hq, h1, h2, hR2, ha2, hE⟩
  | ret => exact ⟨a2, s2, ρ2, hq, h1, h2, hR2, ha2, hE⟩
theorem cwp_loop {c : Code} (h : CLoop P w0 c Q a s) : CWp P w0 (.loop c) Q a s := by
  intro dk ρ a' w hR ha hb b k cs hro hF hr
  obtain ⟨e, a2', w2, hq, harr⟩ := h dk ρ a' w hR ha hb b k cs hro
  exact ⟨e, a2', w2, hq, .of_steps (.one (fenced_calm hF hr rfl) stepR_loop) harr⟩
theorem cloop_round {c : Code} (h : CWp P w0 c (cthen (CLoop P w0 c Q) Q) a s) : CLoop P w0 c Q a s := by
  intro dk ρ a' w hR ha hb b k cs hro
  obtain ⟨e, a1, w1, ⟨a2, s2, ρ2, hq, h1, h2, hR2, ha2, hE⟩, harr⟩ := h dk ρ a' w hR ha hb b (.inLoop c :: k) cs hro trivial (room_rF _ _)
  cases e with
  | normal =>
    obtain ⟨e2, a3, w3, hq3, harr3⟩ := hq dk ρ2 a1 w1 hR2 ha2 (Nat.le_trans hb hE.next) b k cs hro
    exact ⟨e2, a3, w3, CPost.trans (P := P) (w0 := w0) hE hq3, .of_steps (StepsIn.trans harr (.one (fenced_calm (n := 0) trivial (room_rF _ _) rfl) stepR_inLoop)) harr3⟩
  | panic ch => exact absurd rfl (h1 ch)
  | outgrown => exact absurd rfl h2
  | exit id => exact ⟨_, a1, w1, ⟨a2, s2, ρ2, hq, h1, h2, hR2, ha2, hE⟩, .pass (x := .inLoop c) rfl (fun _ _ => .inl (by simp)) harr⟩
  | goto l => exact ⟨_, a1, w1, ⟨a2, s2, ρ2, hq, h1, h2, hR2, ha2, hE⟩, .pass (x := .inLoop c) rfl (fun _ _ => .inl (by simp)) harr⟩
  | ret => exact ⟨_, a1, w1, ⟨a2, s2, ρ2, hq, h1, h2, hR2, ha2, hE⟩, .pass (x := .inLoop c) rfl (fun _ _ => .inl (by simp)) harr⟩
theorem cwp_scope {c : Code} (h : CScope P w0 c c Q a s) : CWp P w0 (.scope c) Q a s := by
  intro dk ρ a' w hR ha hb b k cs hro hF hr
  obtain ⟨e, a2', w2, hq, harr⟩ := h dk ρ a' w hR ha hb b k cs hro
  exact ⟨e, a2', w2, hq, .of_steps (.one (fenced_calm hF hr rfl) (stepR_scope P)) harr⟩
theorem cscope_piece {c x : Code} (h : CWp P w0 x (cscope c Q (fun rest => CScope P w0 c rest Q)) a s) : CScope P w0 c x Q a s := by
  intro dk ρ a' w hR ha hb b k cs hro
  obtain ⟨e, a1, w1, ⟨a2, s2, ρ2, hq, h1, h2, hR2, ha2, hE⟩, harr⟩ := h dk ρ a' w hR ha hb b (.inScope c :: k) cs hro trivial (room_rF _ _)
  cases e with
  | normal => exact ⟨_, a1, w1, ⟨a2, s2, ρ2, hq, h1, h2, hR2, ha2, hE⟩, StepsIn.trans harr (.one (fenced_calm (n := 0) trivial (room_rF _ _) rfl) (stepR_inScope P))⟩
  | panic ch => exact absurd rfl (h1 ch)
  | outgrown => exact absurd rfl h2
  | exit id =>
    have hx : exitTo id (.inScope c :: k) = exitTo id k := by simp [exitTo]
    exact ⟨_, a1, w1, ⟨a2, s2, ρ2, hq, h1, h2, hR2, ha2, hE⟩, fun k' hk => harr.1 k' (by rw [hx]; exact hk), fun hr hk => harr.2 hr (by rw [hx]; exact hk)⟩
  | goto l =>
    simp only [cscope] at hq
    split at hq
    · rename_i rest hf
      have hg : gotoIn l (.inScope c :: k) = some (.code rest :: .inScope c :: k) := by simp [gotoIn, hf]
      obtain ⟨e2, a3, w3, hq3, harr3⟩ := hq dk ρ2 a1 w1 hR2 ha2 (Nat.le_trans hb hE.next) b k cs hro
      exact ⟨e2, a3, w3, CPost.trans (P := P) (w0 := w0) hE hq3, .of_steps (harr.1 _ hg) harr3⟩
    · rename_i hf
      have hg : gotoIn l (.inScope c :: k) = gotoIn l k := by simp [gotoIn, hf]
      exact ⟨_, a1, w1, ⟨a2, s2, ρ2, hq, h1, h2, hR2, ha2, hE⟩, fun k' hk => harr.1 k' (by rw [hg]; exact hk), fun hr hk => harr.2 hr (by rw [hg]; exact hk)⟩
  | ret => exact ⟨_, a1, w1, ⟨a2, s2, ρ2, hq, h1, h2, hR2, ha2, hE⟩, harr⟩
theorem mapM_results {ρ : Ren} {w : World} {t t' : Array Value} (ht : VsRel ρ t t') (hR : Rel P w0 ρ s w) : ∀ (l : List ResultVar) (vs : List Value), l.mapM (cresult P t s) = some vs →
    ∃ vs', (l.mapM (fun | .tmp i => pure (t'.getD i undef) | .cell a ty => do loadVar ty (← asAddr (t'.getD a undef)) : ResultVar → Sem Value)).run P w = .ok vs' w ∧ LRel ρ vs vs' := by
  intro l
  induction l with
  | nil => intro vs h; simp at h; subst h; exact ⟨[], rfl, .nil⟩
  | cons r l ih =>
    intro vs h
    simp only [List.mapM_cons, Option.bind_eq_bind, Option.bind_eq_some_iff] at h
    obtain ⟨v, hv, vs1, hvs, h⟩ := h
    cases h
    obtain ⟨vs', h1, h2⟩ := ih vs1 hvs
    have hr : ∃ v', ((fun | .tmp i => pure (t'.getD i undef) | .cell a ty => do loadVar ty (← asAddr (t'.getD a undef)) : ResultVar → Sem Value) r).run P w = .ok v' w ∧ VRel ρ v v' := by
      cases r with
      | tmp i => simp only [cresult, Option.some.injEq] at hv; subst hv; exact ⟨_, rfl, ht.getD i⟩
      | cell ad ty =>
        simp only [cresult] at hv
        split at hv
        · rename_i x hx
          have := ht.getD ad
          rw [hx] at this
          obtain ⟨x', e, hxr⟩ := this.ptr_inv
          obtain ⟨v', h3, h4⟩ := cload_sound hv hR hxr
          exact ⟨v', by simp only [e, asAddr, Sem.run_bind, Sem.run_pure, Result.andThen_ok, h3], h4⟩
        · cases hv
    obtain ⟨v', h3, h4⟩ := hr
    refine ⟨v' :: vs', ?_, .cons h4 h2⟩
    simp only [List.mapM_cons, Sem.run_bind, h3, h1, Result.andThen_ok, Sem.run_pure]
theorem results_sound {fn : Func} {ρ : Ren} {w : World} {t t' : Array Value} {v : Value} (h : cresults P fn t s = some v) (ht : VsRel ρ t t') (hR : Rel P w0 ρ s w) :
    ∃ v', (results fn t').run P w = .ok v' w ∧ VRel ρ v v' := by
  unfold cresults at h
  obtain ⟨vs, hvs, hv⟩ := Option.map_eq_some_iff.1 h
  obtain ⟨vs', h1, h2⟩ := mapM_results ht hR _ _ hvs
  have hrun : (results fn t').run P w = .ok (if h : vs'.toArray.size = 1 then vs'.toArray[0] else .tuple vs'.toArray) w := by
    unfold results
    rw [Sem.run_bind, Array.mapM_eq_mapM_toList, Sem.run_map]
    erw [h1]
    rfl
  refine ⟨_, hrun, ?_⟩
  have hl := h2.length
  split at hv
  · rename_i u
    cases h2 with
    | cons h3 h4 => cases h4; subst hv; simpa using h3
  · rename_i hne
    subst hv
    have hs : vs.length ≠ 1 := by
      intro he
      match vs, he with
      | [u], _ => exact hne u rfl
    rw [dif_neg (by simp; omega)]
    have := VsRel.ofL h2
    exact .tuple (by simpa using hs) this.1 this.2
theorem leaves_marks {fn : Func} {tmps : Array Value} {R : Ending → World → Prop} {base : Nat} {s : St M} {v' : Value} : ∀ (ds : List Deferred) (ρ : Ren) (w : World), Rel P w0 ρ s w → marksOk ρ base ds →
    (∀ ρ' w', Ren.flip ρ ρ' → (∀ b, b < base → ρ' b = ρ b) → Rel P w0 ρ' s w' → ∃ v', (results fn tmps).run P w' = .ok v' w' ∧ R (.returned v') w') → LeavesInM (rF none) 0 P fn tmps R ds .returning w := by
  intro ds
  induction ds with
  | nil =>
    intro ρ w hR _ h
    obtain ⟨v', h1, h2⟩ := h ρ w (fun b => by cases hb : ρ b with | none => exact .inl ⟨rfl, rfl⟩ | some i => exact .inr ⟨i, i.kd, rfl, rfl⟩) (fun _ _ => rfl) hR
    exact ⟨v', h1, h2⟩
  | cons m ds ih =>
    intro ρ w hR hm h
    obtain ⟨⟨b, i, hb, hi, hk, rfl, hnin⟩, hrest⟩ := hm
    obtain ⟨g1, g2, g3⟩ := hR.one b i hi hk
    obtain ⟨ρ1, hfl, hoff, hR1⟩ := hR.take hi hk
    refine ⟨by simp, .inl ⟨i.blk, _, rfl, run_takeDeferred g1, ih ρ1 _ hR1 ?_ fun ρ' w' hf ho hR' => h ρ' w' ?_ ?_ hR'⟩⟩
    · clear ih h hR1
      induction ds with
      | nil => trivial
      | cons m2 ds ih2 =>
        obtain ⟨⟨b2, i2, e1, e2, e3, e4, e5⟩, e6⟩ := hrest
        refine ⟨⟨b2, i2, e1, ?_, e3, e4, e5⟩, ih2 e6 (by simp at hnin; exact hnin.2)⟩
        rw [hoff b2]
        · exact e2
        · intro e
          subst e
          rw [hi] at e2; cases e2
          simp [e4] at hnin
    · intro x
      rcases hfl x with ⟨a1, a2⟩ | ⟨j, k, a1, a2⟩
      · rcases hf x with ⟨b1, b2⟩ | ⟨j2, k2, b1, b2⟩
        · exact .inl ⟨a1, b2⟩
        · rw [a2] at b1; cases b1
      · rcases hf x with ⟨b1, b2⟩ | ⟨j2, k2, b1, b2⟩
        · rw [a2] at b1; cases b1
        · rw [a2] at b1; cases b1
          exact .inr ⟨j, k2, a1, b2⟩
    · intro x hx
      rw [ho x hx, hoff x (by omega)]
theorem ccalls_enter {f : FuncId} {fn : Func} {c : Code} {args : Array Value} {R : Value → St M → Prop} (hf : P.funcs[f]? = some fn) (hb : fn.body = some c)
    (h : CWp P w0 c (cbody P fn R) { tmps := args ++ Array.replicate (fn.ntmps - args.size) undef, defers := [] } s) : CCalls P w0 f args s R := by
  intro ρ w args' hR ha
  refine (callsIn_rF (ro := none) (n := 0)).1 (callsIn_of_wp_marks hf hb trivial (wpIn_mono (h ⟨s.next, none⟩ ρ { tmps := args' ++ Array.replicate (fn.ntmps - args'.size) undef, defers := [] } w hR ⟨?_, rfl, trivial, fun l hl => by cases hl⟩ (Nat.le_refl _)) ?_))
  · rw [← ha.1]
    exact append_rel ha ⟨rfl, fun i hi => by simp at hi; simp [Array.getD, hi]; exact VRel.undef ρ⟩
  · rintro e a2' w2 ⟨a2, s2, ρ2, hq, h1, h2, hR2, ha2, hE⟩
    have key : ∀ v, cresults P fn a2.tmps s2 = some v → R v s2 → LeavesInM (rF none) 0 P fn a2'.tmps (CEnd P w0 ρ s R) a2'.defers .returning w2 := by
      intro v hv hk
      refine leaves_marks (base := s.next) (v' := v) a2'.defers ρ2 w2 hR2 ha2.d'.marks fun ρ' w' hfl hoff hR' => ?_
      obtain ⟨v', h3, h4⟩ := results_sound hv (ha2.tmps.flip hfl) hR'
      refine ⟨v', h3, v, s2, ρ', v', rfl, hk, h4, hR', ⟨?_, ?_, hE.next, hE.unr⟩⟩
      · intro b i hbi
        rw [hoff b (hR.dom _ _ hbi)]
        exact hE.le _ _ hbi
      · intro b hb
        rw [hoff b hb]
        exact hE.old b hb
    cases e with
    | normal =>
      simp only [cbody] at hq
      split at hq
      · rename_i v hv; exact key v hv hq
      · exact hq.elim
    | ret =>
      simp only [cbody] at hq
      split at hq
      · rename_i v hv; exact key v hv hq
      · exact hq.elim
    | panic ch => exact hq.elim
    | outgrown => exact hq.elim
    | exit id => exact hq.elim
    | goto l => exact hq.elim
end
section
variable {M : Type} [Mem M] (P : Program) (w0 : World)
def cbeginRound (l : Nat) (K : St M → Prop) (s : St M) : Prop :=
  match s.at' l with
  | some (.loop .ready pend ps tmps as bd) => K (s.put l (.loop .busy pend ps tmps as bd))
  | _ => False
def cendRound (l : Nat) (jump : Option Code) (K : Value → St M → Prop) (s : St M) : Prop :=
  match s.at' l with
  | some (.loop _ _ ps tmps as bd) => K (.bool jump.isNone) (s.put l (.loop (if jump.isNone then .ready else .done) jump ps tmps as bd))
  | _ => False
def cendLoop (l : Nat) (K : Option Code → St M → Prop) (s : St M) : Prop :=
  match s.at' l with
  | some (.loop st pend ps tmps as bd) => st ≠ .busy ∧ K pend (s.put l (.loop .exhausted pend ps tmps as bd))
  | _ => False
def croundPost (l : Nat) (K : Value → St M → Prop) : Exit → Act → St M → Prop
  | .normal, _, s => cendRound l none K s
  | .ret, _, s => cendRound l (some .ret) K s
  | .exit id, _, s => cendRound l (some (.exit id)) K s
  | .goto t, _, s => cendRound l (some (.goto t)) K s
  | _, _, _ => False
def cassignPost (l : Nat) (body : Code) (K : Value → St M → Prop) : Exit → Act → St M → Prop
  | .normal, a, s => cbeginRound l (fun s => CWp P w0 body (croundPost l K) a s) s
  | _, _, _ => False
def cloopPost (l : Nat) (Q : Exit → Act → St M → Prop) (a : Act) : Value → St M → Prop := fun _ s =>
  cendLoop l (fun jump s => match jump with
    | none => Q .normal a s
    | some c => CWp P w0 c Q a s) s
end
section
variable {M : Type} [Mem M] {P : Program} {w0 : World}
theorem params_rel {ρ : Ren} : ∀ (l : List Tmp) (b b' : List Value) (t t' : Array Value), LRel ρ b b' → VsRel ρ t t' → VsRel ρ ((l.zip b).foldl (fun t (p, v) => t.setIfInBounds p v) t) ((l.zip b').foldl (fun t (p, v) => t.setIfInBounds p v) t') := by
  intro l
  induction l with
  | nil => intro b b' t t' _ h; exact h
  | cons p l ih =>
    intro b b' t t' hb h
    cases hb with
    | nil => exact h
    | cons hv hb => exact ih _ _ _ _ hb (h.set p hv)
theorem cround_enter {l : Nat} {args : Array Value} {s : St M} {ps : Array Tmp} {tmps : Array Value} {assign body : Code} {K : Value → St M → Prop}
    (hl : s.at' l = some (.loop .ready none ps tmps assign body)) (hs : args.size = ps.size)
    (h : CWp P w0 assign (cassignPost P w0 l body K) { tmps := (ps.toList.zip args.toList).foldl (fun t (p, v) => t.setIfInBounds p v) tmps, defers := [] } s) : CRound P w0 l args s K := by
  intro ρ w args' i ro hR ha hi
  obtain ⟨o, ho, hkd, fn, tmps', D, rfl, htm⟩ := hR.blk l i _ hi hl
  refine ⟨fn, _, assign, body, run_yield ho (by rw [← ha.1]; exact hs), roundIn_of_wpIn trivial ?_⟩
  have hfold : VsRel ρ ((ps.toList.zip args.toList).foldl (fun t (p, v) => t.setIfInBounds p v) tmps) ((ps.zip args').foldl (fun tmps (t, a) => tmps.setIfInBounds t a) tmps') := by
    have := params_rel ps.toList args.toList args'.toList tmps tmps' (VsRel.toL (by simpa using ha)) htm
    rw [← Array.foldl_toList, Array.toList_zip]
    exact this
  refine wpIn_mono (F := rF (some i.blk)) (h ⟨s.next, some i.blk⟩ ρ { tmps := _, defers := [] } w hR ⟨hfold, rfl, trivial, fun l' hl' => by cases hl'; exact ⟨l, i, hi, hkd, rfl⟩⟩ (Nat.le_refl _)) ?_
  rintro e a1' w1 ⟨a1, s1, ρ1, hq, g1, g2, hR1, ha1, hE1⟩
  cases e with
  | panic ch => exact absurd rfl (g1 ch)
  | outgrown => exact absurd rfl g2
  | exit j => exact hq.elim
  | goto j => exact hq.elim
  | ret => exact hq.elim
  | normal =>
    simp only [cassignPost, cbeginRound] at hq
    split at hq
    case h_2 => exact hq.elim
    rename_i pend1 ps1 tmps1 as1 bd1 hat1
    have hi1 := hE1.le _ _ hi
    obtain ⟨o1, ho1, hkd1, fn1, tmps1', D1, rfl, htm1⟩ := hR1.blk l i _ hi1 hat1
    refine ⟨_, run_beginRound ho1 rfl, ?_⟩
    obtain ⟨hR2, hE2⟩ := hR1.write (C := .loop .busy pend1 ps1 tmps1 as1 bd1) (o := .loop { state := .busy, pending := pend1, fn := fn1, tmps := tmps1', params := ps1, assign := as1, body := bd1, defers := D1 }) hi1 hat1 rfl ⟨hkd1, fn1, tmps1', D1, rfl, htm1⟩
    refine wpIn_mono (F := rF (some i.blk)) (hq ⟨s.next, some i.blk⟩ ρ1 a1' _ hR2 ha1 (Nat.le_trans hE1.next hE2.next)) ?_
    rintro e a3' w3 ⟨a3, s3, ρ3, hq3, g31, g32, hR3, ha3, hE3⟩
    have hi3 := hE3.le _ _ hi1
    have fin : ∀ jump : Option Code, cendRound l jump K s3 → ∃ v w', (Instr.endRound i.blk jump).run P w3 = .ok v w' ∧ CEnd P w0 ρ s K (.returned v) w' := by
      intro jump hj
      unfold cendRound at hj
      split at hj
      case h_2 => exact hj.elim
      rename_i st3 pend3 ps3 tmps3 as3 bd3 hat3
      obtain ⟨o3, ho3, hkd3, fn3, tmps3', D3, rfl, htm3⟩ := hR3.blk l i _ hi3 hat3
      obtain ⟨hR4, hE4⟩ := hR3.write (C := .loop (if jump.isNone then .ready else .done) jump ps3 tmps3 as3 bd3) (o := .loop { state := if jump.isNone then .ready else .done, pending := jump, fn := fn3, tmps := tmps3', params := ps3, assign := as3, body := bd3, defers := D3 }) hi3 hat3 rfl ⟨hkd3, fn3, tmps3', D3, rfl, htm3⟩
      exact ⟨_, _, run_endRound jump ho3, _, _, ρ3, _, rfl, hj, .bool _, hR4, ((hE1.trans hE2).trans hE3).trans hE4⟩
    cases e with
    | normal => exact fin none hq3
    | ret => exact fin (some .ret) hq3
    | exit j => exact fin (some (.exit j)) hq3
    | goto t => exact fin (some (.goto t)) hq3
    | panic ch => exact absurd rfl (g31 ch)
    | outgrown => exact absurd rfl g32
theorem marksOk.of_mem {ρ : Ren} {base : Nat} {m : Deferred} : ∀ {ds : List Deferred}, marksOk ρ base ds → m ∈ ds → ∃ b i, ρ b = some i ∧ m = { target := .collected i.blk, args := #[] }
  | [], _, h => by cases h
  | _ :: _, ⟨⟨b, i, _, h2, _, h4, _⟩, hr⟩, h => by
    rcases List.mem_cons.1 h with rfl | h
    · exact ⟨b, i, h2, h4⟩
    · exact marksOk.of_mem hr h
theorem run_enterLoop_inner {w : World} {l : Nat} {r : Loop} (h : w.heap[l]? = some (.loop r)) (fn : FuncId) (tmps : Array Value) (ps : Array Tmp) (assign body : Code) :
    (Instr.enterLoop fn tmps ps assign body (some l)).run P w = .ok (w.heap.size, []) { w with heap := w.heap.push (.loop { state := .ready, pending := none, fn, tmps, params := ps, assign, body, defers := r.defers }) } := by
  unfold Instr.enterLoop
  simp only [Sem.run_bind, run_getLoop h, Result.andThen, Sem.run_pure]
  rfl
theorem cwp_rangeFunc {g : Operand} {ps : Array Tmp} {assign body : Code} {Q : Exit → Act → St M → Prop} {a : Act} {s : St M} {gf : Nat} {first caps : Array Value} {fn : Func}
    (hg : opOk g = true) (he : a.eval g = .func (.func gf) first caps) (hf : P.funcs[gf]? = some fn) (hb : (fn.body.isSome && fn.name != "runtime.NumGoroutine") = true)
    (h : CCalls P w0 gf (first ++ #[.func (.yield (s.next + 1)) #[] #[]] ++ caps) (s.skip.new (.loop .ready none ps a.tmps assign body)) (cloopPost P w0 (s.next + 1) Q a)) : CWp P w0 (.rangeFunc g ps assign body) Q a s := by
  intro dk ρ a' w hR ha hbase
  refine wpIn_rangeFunc fun fn0 _ => ?_
  simp only [Bool.and_eq_true, bne_iff_ne, ne_eq] at hb
  -- the record, and the list of deferred calls
  have hent : ∃ (l : Nat) (mark : List Deferred) (w1 : World) (ρ1 : Ren), (Instr.enterLoop fn0 a'.tmps ps assign body dk.ro).run P w = .ok (l, mark) w1 ∧ ρ1 (s.next + 1) = some ⟨l, 0, 0, 0, 2⟩ ∧
      Rel P w0 ρ1 (s.skip.new (.loop .ready none ps a.tmps assign body)) w1 ∧ Ext ρ s ρ1 (s.skip.new (.loop .ready none ps a.tmps assign body)) ∧ DOk dk ρ1 (mark ++ a'.defers) := by
    cases hro : dk.ro with
    | none =>
      obtain ⟨hR1, hE1⟩ := hR.mark
      obtain ⟨hR2, hE2⟩ := hR1.alloc (B := .loop .ready none ps a.tmps assign body) (o := .loop { state := .ready, pending := none, fn := fn0, tmps := a'.tmps, params := ps, assign := assign, body := body, defers := w.heap.size }) (i := ⟨w.heap.size + 1, 0, 0, 0, 2⟩) (by simp)
        ⟨rfl, fn0, a'.tmps, _, rfl, ((ha.tmps.mono hE1.le).mono (Ren.le_add (hR1.none_next (Nat.le_refl _))))⟩ (.inr ⟨rfl, _, rfl⟩)
      refine ⟨_, _, _, _, run_enterLoop_outer _ _ _ _ _, by rw [← St.next_skip]; exact Ren.add_same _ _ _, hR2, hE1.trans hE2, ?_⟩
      have hd := (ha.d'.mono hE1.le).mono hE2.le
      refine ⟨⟨⟨s.next, ⟨w.heap.size, 0, 0, 0, 1⟩, hbase, hE2.le _ _ (Ren.add_same _ _ _), rfl, rfl, fun hm => ?_⟩, hd.marks⟩, hd.round⟩
      obtain ⟨b, i, hbi, e⟩ := ha.d'.marks.of_mem hm
      have := hR.lt _ _ hbi
      simp only [Deferred.mk.injEq, Target.collected.injEq, and_true] at e
      omega
    | some l0 =>
      obtain ⟨b, i, hbi, hk2, rfl⟩ := ha.d'.round l0 hro
      obtain ⟨r, hr⟩ := hR.two b i hbi hk2
      obtain ⟨hR1, hE1⟩ := hR.skip
      obtain ⟨hR2, hE2⟩ := hR1.alloc (B := .loop .ready none ps a.tmps assign body) (o := .loop { state := .ready, pending := none, fn := fn0, tmps := a'.tmps, params := ps, assign := assign, body := body, defers := r.defers }) (i := ⟨w.heap.size, 0, 0, 0, 2⟩) rfl
        ⟨rfl, fn0, a'.tmps, _, rfl, ((ha.tmps.mono hE1.le).mono (Ren.le_add (hR1.none_next (Nat.le_refl _))))⟩ (.inr ⟨rfl, _, rfl⟩)
      exact ⟨_, _, _, _, run_enterLoop_inner hr _ _ _ _ _, by rw [← St.next_skip]; exact Ren.add_same _ _ _, hR2, hE1.trans hE2, (ha.d'.mono hE1.le).mono hE2.le⟩
  obtain ⟨l, mark, w1, ρ1, hrun, hl1, hR1, hE1, hd1⟩ := hent
  have hx := ev_rel ha.tmps hg
  rw [he] at hx
  obtain ⟨first', caps', e, h1, h2⟩ := hx.func_inv
  refine ⟨l, mark, w1, { target := .fn (.func gf) caps', args := first' ++ #[.func (.yield l) #[] #[]] }, w1, gf, first' ++ #[.func (.yield l) #[] #[]] ++ caps', w1, hrun, ?_, fun _ _ => trivial, ?_, fun e => (by cases e), callsIn_rF.2 ?_⟩
  · have hm : Array.map a'.eval #[Operand.const (Value.func (Fn.yield l) #[] #[])] = #[Value.func (Fn.yield l) #[] #[]] := by simp [Act.eval]
    simp only [resolve, rangeCall, e, Deferred.ofValue, Sem.run_bind, Sem.run_pure, Result.andThen_ok, hm]
  · simp only [invoke, callFunc, program, Sem.run_bind, Sem.run, hf, Result.andThen_ok]
    rw [if_neg (by simpa using hb.2), if_neg (by intro hn; have h9 := hb.1; cases h8 : fn.body <;> simp_all)]
    rfl
  · have hargs : VsRel ρ1 (first ++ #[.func (.yield (s.next + 1)) #[] #[]] ++ caps) (first' ++ #[.func (.yield l) #[] #[]] ++ caps') := by
      refine append_rel (append_rel (h1.mono hE1.le) ⟨rfl, fun i hi => ?_⟩) (h2.mono hE1.le)
      have : i = 0 := by simp at hi; exact hi
      subst this
      exact .yield (i := ⟨l, 0, 0, 0, 2⟩) hl1
    refine (h ρ1 w1 _ hR1 hargs).mono ?_
    rintro e w3 ⟨v, s3, ρ3, v', rfl, hk, _, hR3, hE3⟩
    unfold cloopPost cendLoop at hk
    split at hk
    case h_2 => exact hk.elim
    rename_i st pend ps3 tmps3 as3 bd3 hat3
    obtain ⟨hst, hk⟩ := hk
    have hi3 := hE3.le _ _ hl1
    obtain ⟨o3, ho3, hkd3, fn3, tmps3', D3, rfl, htm3⟩ := hR3.blk _ _ _ hi3 hat3
    obtain ⟨hR4, hE4⟩ := hR3.write (C := .loop .exhausted pend ps3 tmps3 as3 bd3) (o := .loop { state := .exhausted, pending := pend, fn := fn3, tmps := tmps3', params := ps3, assign := as3, body := bd3, defers := D3 }) hi3 hat3 rfl ⟨hkd3, fn3, tmps3', D3, rfl, htm3⟩
    have hE : Ext ρ s ρ3 (s3.put (s.next + 1) (.loop .exhausted pend ps3 tmps3 as3 bd3)) := (hE1.trans hE3).trans hE4
    have hA : ActRel dk ρ3 a { a' with defers := mark ++ a'.defers } := ⟨ha.tmps.mono hE.le, ha.d, hd1.mono hE3.le⟩
    refine ⟨pend, _, run_endLoop ho3 hst, ?_⟩
    cases pend with
    | none => exact ⟨a, _, ρ3, hk, by simp, by simp, hR4, hA, hE⟩
    | some c => exact wpIn_mono (hk dk ρ3 _ _ hR4 hA (Nat.le_trans hbase hE.next)) fun _ _ _ h => CPost.trans (P := P) (w0 := w0) hE h
end
end Go.Cs
