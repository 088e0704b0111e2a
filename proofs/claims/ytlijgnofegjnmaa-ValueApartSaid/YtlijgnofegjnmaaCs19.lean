/- What is left to be shown of a function: code by code; loops and scopes by their rules. A lemma file: no statement of its own. -/
import Derived.Test.YtlijgnofegjnmaaCs18
set_option linter.unusedSimpArgs false
set_option linter.unusedVariables false
namespace Go.Cs

/-- The orders of the regions that draw theirs. -/
abbrev Ord := List (Nat × List DI)

def ordOf : Ord → Nat → List DI
  | [], _ => []
  | (a, l) :: rest, k => if a = k then l else ordOf rest k

def dstOk (n : Nat) : Option Tmp → Bool
  | none => true
  | some d => d < n

/-- What has been read, and may be read behind an act, is looked at again. -/
def chkOk (bf : Array Nat) : List DI → List Nat → Bool
  | [], _ => true
  | d :: rest, fl => match d.act with
    | true => (fl.all fun j => (bf.getD d.i 0).testBit j || d.chk.contains j) && chkOk bf rest fl
    | false => chkOk bf rest (d.i :: fl)

def codeOk (P : Program) (ord : Ord) (n : Nat) : Code → Bool
  | .skip => true
  | .region _ ops false => ops.toList.all fun o => o.op.operands.all opOk && dstOk n o.dst
  | .region id ops true => (ops.toList.all fun o => o.op.operands.all opOk && dstOk n o.dst) && drawOk P ops ((ordOf ord id).map (·.i)) && ((ordOf ord id).all fun d => match ops[d.i]? with
      | none => false
      | some o => acts P o == d.act) && chkOk (Region.before ops) (ordOf ord id) []
  | .seq x y => codeOk P ord n x && codeOk P ord n y
  | .cond c x y => opOk c && codeOk P ord n x && codeOk P ord n y
  | .block _ c => codeOk P ord n c
  | .loop c => codeOk P ord n c
  | .scope c => codeOk P ord n c
  | .exit _ => true
  | .label _ => true
  | .goto _ => true
  | .ret => true
  | .refuse _ => true
  | _ => false

/-- The variables are as said. -/
structure AEnv (n : Nat) (env : Env) (a : Act) : Prop where
  size : a.tmps.size = n
  d : a.defers = []
  t : ∀ t, a.tmps.getD t undef = env t

section
variable {M : Type} [Mem M] (P : Program) (w0 : World) (ord : Ord) (n : Nat)

def wlift (Q : Exit → Env → St M → Prop) : Exit → Act → St M → Prop := fun e a s => ∃ env, AEnv n env a ∧ Q e env s

/-- A loop, from the head of a round on. -/
def WLoop (c : Code) (Q : Exit → Env → St M → Prop) (env : Env) (s : St M) : Prop :=
  codeOk P ord n c = true → ∀ a, AEnv n env a → CLoop P w0 c (wlift n Q) a s

/-- A piece of the body of a scope. -/
def WScope (c x : Code) (Q : Exit → Env → St M → Prop) (env : Env) (s : St M) : Prop :=
  codeOk P ord n c = true → codeOk P ord n x = true → ∀ a, AEnv n env a → CScope P w0 c x (wlift n Q) a s

def wthen (K : Env → St M → Prop) (Q : Exit → Env → St M → Prop) : Exit → Env → St M → Prop
  | .normal, env, s => K env s
  | e, env, s => Q e env s

def wblock (id : Nat) (Q : Exit → Env → St M → Prop) : Exit → Env → St M → Prop
  | .exit j, env, s => if j = id then Q .normal env s else Q (.exit j) env s
  | e, env, s => Q e env s

def wcond (c : Operand) (env : Env) (p q : Env → Prop) : Prop :=
  match c with
  | .tmp t => match env t with
    | .bool b => (b = true → p (upd env t (.bool true))) ∧ (b = false → q (upd env t (.bool false)))
    | _ => False
  | .const (.bool b) => (b = true → p env) ∧ (b = false → q env)
  | _ => False

def wvc : Code → (Exit → Env → St M → Prop) → Env → St M → Prop
  | .skip, Q, env, s => Q .normal env s
  | .region _ ops false, Q, env, s => wreg P w0 ops (Q .normal) ops.toList env s
  | .region id ops true, Q, env, s => wregD P w0 ops (Q .normal) (ordOf ord id) [] env s
  | .seq x y, Q, env, s => wvc x (wthen (wvc y Q) Q) env s
  | .cond c x y, Q, env, s => wcond c env (fun env => wvc x Q env s) (fun env => wvc y Q env s)
  | .block id c, Q, env, s => wvc c (wblock id Q) env s
  | .loop c, Q, env, s => WLoop P w0 ord n c Q env s
  | .scope c, Q, env, s => WScope P w0 ord n c c Q env s
  | .exit id, Q, env, s => Q (.exit id) env s
  | .label _, Q, env, s => Q .normal env s
  | .goto l, Q, env, s => Q (.goto l) env s
  | .ret, Q, env, s => Q .ret env s
  | _, _, _, _ => False

/-- What is handed back. -/
def wresult (env : Env) (s : St M) : ResultVar → Option Value
  | .tmp t => some (env t)
  | .cell a t => match env a with
    | .pointer (some ad) => cload P t ad s
    | _ => none

def wresults (env : Env) (s : St M) : List ResultVar → Option (List Value)
  | [] => some []
  | r :: l => match wresult P env s r, wresults env s l with
    | some v, some vs => some (v :: vs)
    | _, _ => none

def wret (rs : List ResultVar) (R : Value → St M → Prop) (env : Env) (s : St M) : Prop :=
  match wresults P env s rs with
  | some [v] => R v s
  | some vs => R (.tuple vs.toArray) s
  | none => False

def wbody (rs : List ResultVar) (R : Value → St M → Prop) : Exit → Env → St M → Prop
  | .normal, env, s => wret P rs R env s
  | .ret, env, s => wret P rs R env s
  | _, _, _ => False
end

section
variable {M : Type} [Mem M] {P : Program} {w0 : World} {ord : Ord} {n : Nat} {env : Env} {a : Act} {s : St M}

theorem AEnv.eval (h : AEnv n env a) : a.eval = wev env := by
  funext x
  cases x with
  | tmp t => simp only [Act.eval, wev]; exact h.t t
  | _ => rfl

theorem AEnv.put (h : AEnv n env a) {d : Option Tmp} (hd : dstOk n d = true) (v : Value) : AEnv n (wput env d v) (a.put d v) := by
  refine ⟨by rw [put_size]; exact h.size, by cases d <;> exact h.d, fun t => ?_⟩
  cases d with
  | none => exact h.t t
  | some d =>
    have hd : d < n := by simpa [dstOk] using hd
    by_cases e : t = d
    · subst e
      simp only [Act.put, wput, upd, if_true]
      rw [Array.getD_eq_getD_getElem?, Array.getElem?_setIfInBounds, if_pos rfl, if_pos (by rw [h.size]; exact hd)]
      rfl
    · rw [put_getD (Ne.symm e)]
      simp only [wput, upd, e, if_false]
      exact h.t t

theorem wguard_spec {ops : Array Oper} {o : Oper} {yes no : Env → Prop} (h : AEnv n env a) (hg : wguard ops o env yes no) : (cwanted ops o a.tmps = some true ∧ yes env) ∨ (cwanted ops o a.tmps = some false ∧ no env) := by
  unfold wguard at hg
  unfold cwanted
  split at hg
  · rename_i e; rw [e]; exact .inl ⟨rfl, hg⟩
  · rename_i j want e
    rw [e]
    dsimp only
    split at hg
    · rename_i e2; rw [e2]; exact .inr ⟨rfl, hg⟩
    · rename_i d e2
      rw [e2]
      dsimp only
      have ht := h.t d
      rw [Array.getD_eq_getD_getElem?] at ht
      split at hg
      · rename_i b hb
        rw [hb] at ht
        cases hd : a.tmps[d]? with
        | none => rw [hd] at ht; simp [undef] at ht
        | some x =>
          rw [hd] at ht
          simp only [Option.getD_some] at ht
          subst ht
          dsimp only
          by_cases e3 : b = want
          · subst e3
            left
            refine ⟨by simp, ?_⟩
            have := hg.1 rfl
            rwa [upd_self hb] at this
          · have e4 : b = !want := by cases b <;> cases want <;> simp_all
            right
            refine ⟨by simp [e3], ?_⟩
            have := hg.2 e4
            rw [← e4, upd_self hb] at this
            exact this
      · rename_i cs hb
        rw [hb] at ht
        cases hd : a.tmps[d]? with
        | none => exact .inr ⟨rfl, hg.2⟩
        | some x =>
          rw [hd] at ht
          simp only [Option.getD_some] at ht
          subst ht
          exact .inr ⟨by simp [hg.1], hg.2⟩
      · rename_i h1 h2
        cases hd : a.tmps[d]? with
        | none => exact .inr ⟨rfl, hg⟩
        | some x =>
          rw [hd] at ht
          simp only [Option.getD_some] at ht
          subst ht
          right
          refine ⟨?_, hg⟩
          generalize env d = x at h1 h2
          cases x with
          | bool b => exact absurd rfl (h1 b)
          | tuple cs => exact absurd rfl (h2 cs)
          | _ => rfl

theorem wreg_of {ops : Array Oper} {Q : Env → St M → Prop} (ho : ∀ o ∈ ops.toList, o.op.operands.all opOk = true ∧ dstOk n o.dst = true) : ∀ (l : List Oper) (k : Nat), l = ops.toList.drop k → ∀ (env : Env) (a : Act) (s : St M), AEnv n env a → wreg P w0 ops Q l env s →
    cregion P w0 ops (fun a s => ∃ env, AEnv n env a ∧ Q env s) (List.range' k l.length) a s := by
  intro l
  induction l with
  | nil => intro k _ env a s ha h; exact ⟨env, ha, h⟩
  | cons o rest ih =>
    intro k hk env a s ha h
    have hko : ops[k]? = some o := by
      have := List.head?_drop (l := ops.toList) (i := k)
      rw [← hk] at this
      simpa using this.symm
    have hmem : o ∈ ops.toList := List.mem_of_mem_drop (i := k) (by rw [← hk]; simp)
    obtain ⟨h1, h2⟩ := ho o hmem
    have hrest : rest = ops.toList.drop (k + 1) := by
      have : (ops.toList.drop k).tail = rest := by rw [← hk]; rfl
      rw [← this, List.tail_drop]
    simp only [List.length_cons, List.range'_succ, cregion, hko]
    unfold wreg at h
    rcases wguard_spec ha h with ⟨h3, h4⟩ | ⟨h3, h4⟩
    · rw [h3, h1, ha.eval]
      exact cstep_mono (fun v s' hv => ih (k + 1) hrest _ _ _ (ha.put h2 v) hv) (wop_sound h4)
    · rw [h3]
      exact ih (k + 1) hrest _ _ _ (ha.put h2 undef) h4

/-- What has been read, on both sides. -/
def flOf (fl : List WF) : List (Fl M) := fl.map fun f => ⟨f.i, f.op, wev f.env, f.v⟩

theorem wstill_of {bf : Array Nat} {i : Nat} {chk : List Nat} {s : St M} {K K' : Prop} (hk : K → K') : ∀ (fl : List WF), (fl.all fun f => (bf.getD i 0).testBit f.i || chk.contains f.i) = true → wstill P chk s fl K →
    stillAll P s ((flOf fl).filter fun f => !(bf.getD i 0).testBit f.i) K' := by
  intro fl
  induction fl with
  | nil => intro _ h; exact hk h
  | cons f fl ih =>
    intro hc h
    simp only [List.all_cons, Bool.and_eq_true, Bool.or_eq_true] at hc
    obtain ⟨h1, h2⟩ := hc
    unfold wstill at h
    simp only [flOf, List.map_cons, List.filter_cons]
    cases hb : (bf.getD i 0).testBit f.i with
    | true =>
      simp only [Bool.not_true, Bool.false_eq_true, if_false]
      split at h
      · exact ih h2 h
      · split at h
        · exact ih h2 h.2
        · exact ih h2 h
    | false =>
      simp only [Bool.not_false, if_true, stillAll]
      rw [hb] at h1
      have h1 : chk.contains f.i = true := by simpa using h1
      split at h
      · rename_i e; rw [e]; exact ih h2 h
      · rename_i v e
        rw [h1] at h
        rw [e]
        exact ⟨h.1, ih h2 h.2⟩

theorem fstep_mono {o : Oper} {ev : Operand → Value} {K K' : Value → St M → Option Value → Prop} (hk : ∀ v s' r, K v s' r → K' v s' r) (h : fstep P o ev s K) : fstep P o ev s K' := by
  rcases h with ⟨v, h1, h2⟩ | ⟨v, h1, h2⟩ | ⟨B, f, h1, h2⟩
  · exact .inl ⟨v, h1, hk _ _ _ h2⟩
  · exact .inr (.inl ⟨v, h1, hk _ _ _ h2⟩)
  · exact .inr (.inr ⟨B, f, h1, hk _ _ _ h2⟩)

theorem wregD_of {ops : Array Oper} {bf : Array Nat} {Q : Env → St M → Prop} (ho : ∀ o ∈ ops.toList, o.op.operands.all opOk = true ∧ dstOk n o.dst = true) : ∀ (l : List DI) (fl : List WF), (∀ d ∈ l, ∀ o, ops[d.i]? = some o → acts P o = d.act) → chkOk bf l (fl.map (·.i)) = true →
    ∀ (env : Env) (a : Act) (s : St M), AEnv n env a → wregD P w0 ops Q l fl env s →
    cregionD P w0 ops bf (fun a s => ∃ env, AEnv n env a ∧ Q env s) (l.map (·.i)) (flOf fl) a s := by
  intro l
  induction l with
  | nil => intro fl _ _ env a s ha h; exact ⟨env, ha, h⟩
  | cons d rest ih =>
    intro fl hact hchk env a s ha h
    unfold wregD at h
    simp only [List.map_cons, cregionD]
    split at h
    · exact h.elim
    · rename_i o hko
      rw [hko]
      have hmem : o ∈ ops.toList := by
        have := Array.mem_of_getElem? hko
        simpa using this
      obtain ⟨h1, h2⟩ := ho o hmem
      have hac := hact d (by simp) o hko
      have hact' : ∀ d ∈ rest, ∀ o, ops[d.i]? = some o → acts P o = d.act := fun d hd => hact d (by simp [hd])
      unfold chkOk at hchk
      dsimp only
      split at h
      · rename_i hd
        rw [hd] at hchk hac
        simp only [Bool.and_eq_true] at hchk
        rcases wguard_spec ha h with ⟨h3, h4⟩ | ⟨h3, h4⟩
        · rw [h3, h1, ha.eval]
          simp only [hac, if_true]
          refine cstep_mono (fun v s' hv => ?_) (wop_sound h4)
          refine wstill_of (fun hv => ih fl hact' hchk.2 _ _ _ (ha.put h2 v) hv) fl ?_ hv
          have := hchk.1
          rw [List.all_map] at this
          exact this
        · rw [h3]
          simp only [hac, if_true]
          exact ih fl hact' hchk.2 _ _ _ (ha.put h2 undef) h4
      · rename_i hd
        rw [hd] at hchk hac
        dsimp only at hchk
        rcases wguard_spec ha h with ⟨h3, h4⟩ | ⟨h3, h4⟩
        · rw [h3, h1, ha.eval]
          simp only [hac, Bool.false_eq_true, if_false]
          exact fstep_mono (fun v s' r hv => ih (⟨d.i, o.op, env, r⟩ :: fl) hact' hchk _ _ _ (ha.put h2 v) hv) (wfop_sound h4)
        · rw [h3]
          simp only [hac, Bool.false_eq_true, if_false]
          rw [ha.eval]
          exact ih (⟨d.i, o.op, env, none⟩ :: fl) hact' hchk _ _ _ (ha.put h2 undef) h4

theorem cwp_wlift {c : Code} {Q Q' : Exit → Act → St M → Prop} (hq : ∀ e a s, Q e a s → Q' e a s) (h : CWp P w0 c Q a s) : CWp P w0 c Q' a s := cwp_mono hq h

theorem wvc_sound (hm : P.follows .mixedOrders = true) : ∀ (c : Code) (Q : Exit → Env → St M → Prop) (env : Env) (s : St M) (a : Act), codeOk P ord n c = true → AEnv n env a → wvc P w0 ord n c Q env s → CWp P w0 c (wlift n Q) a s := by
  intro c
  induction c with
  | skip => intro Q env s a _ ha h; exact cwp_skip ⟨env, ha, h⟩
  | region id ops draw =>
    intro Q env s a hc ha h
    cases draw with
    | false =>
      simp only [codeOk, List.all_eq_true, Bool.and_eq_true] at hc
      refine cwp_region ?_
      have := wreg_of (Q := Q .normal) (fun o ho => hc o ho) ops.toList 0 rfl env a s ha h
      rw [Array.length_toList, ← List.range_eq_range'] at this
      exact this
    | true =>
      simp only [codeOk, Bool.and_eq_true] at hc
      obtain ⟨⟨⟨h1, h2⟩, h3⟩, h4⟩ := hc
      refine cwp_regionD hm h2 ?_
      refine wregD_of (Q := Q .normal) (fun o ho => ?_) _ [] (fun d hd o hko => ?_) h4 env a s ha h
      · simp only [List.all_eq_true, Bool.and_eq_true] at h1; exact h1 o ho
      · have := List.all_eq_true.1 h3 d hd
        rw [hko] at this
        simpa using this
  | seq x y ihx ihy =>
    intro Q env s a hc ha h
    simp only [codeOk, Bool.and_eq_true] at hc
    refine cwp_seq (cwp_mono ?_ (ihx _ env s a hc.1 ha h))
    rintro e a2 s2 ⟨env2, ha2, hq⟩
    cases e with
    | normal => exact ihy Q env2 s2 a2 hc.2 ha2 hq
    | _ => exact ⟨env2, ha2, hq⟩
  | cond c x y ihx ihy =>
    intro Q env s a hc ha h
    simp only [codeOk, Bool.and_eq_true] at hc
    simp only [wvc, wcond] at h
    have key : ∀ b : Bool, wev env c = .bool b → (b = true → wvc P w0 ord n x Q env s) → (b = false → wvc P w0 ord n y Q env s) → CWp P w0 (.cond c x y) (wlift n Q) a s := by
      intro b hb h1 h2
      refine cwp_cond hc.1.1 (t := b) (by rw [ha.eval]; exact hb) ?_
      cases b with
      | true => exact ihx Q env s a hc.1.2 ha (h1 rfl)
      | false => exact ihy Q env s a hc.2 ha (h2 rfl)
    split at h
    · rename_i t
      split at h
      · rename_i b hb
        refine key b hb (fun e => ?_) (fun e => ?_)
        · subst e; have := h.1 rfl; rwa [upd_self hb] at this
        · subst e; have := h.2 rfl; rwa [upd_self hb] at this
      · exact h.elim
    · exact key _ rfl h.1 h.2
    · exact h.elim
  | block id c ih =>
    intro Q env s a hc ha h
    refine cwp_block (cwp_mono ?_ (ih _ env s a hc ha h))
    rintro e a2 s2 ⟨env2, ha2, hq⟩
    cases e with
    | exit j =>
      simp only [wblock] at hq
      simp only [cblock]
      split at hq
      · rename_i e; rw [if_pos e]; exact ⟨env2, ha2, hq⟩
      · rename_i e; rw [if_neg e]; exact ⟨env2, ha2, hq⟩
    | _ => exact ⟨env2, ha2, hq⟩
  | loop c ih => intro Q env s a hc ha h; exact cwp_loop (h hc a ha)
  | scope c ih => intro Q env s a hc ha h; exact cwp_scope (h hc hc a ha)
  | exit id => intro Q env s a _ ha h; exact cwp_exit ⟨env, ha, h⟩
  | label id => intro Q env s a _ ha h; exact cwp_label ⟨env, ha, h⟩
  | goto id => intro Q env s a _ ha h; exact cwp_goto ⟨env, ha, h⟩
  | ret => intro Q env s a _ ha h; exact cwp_ret ⟨env, ha, h⟩
  | rangeFunc => intro Q env s a hc; simp [codeOk] at hc
  | refuse => intro Q env s a hc ha h; exact h.elim

/-- A round of a loop. -/
theorem wloop_round (hm : P.follows .mixedOrders = true) {c : Code} {Q : Exit → Env → St M → Prop} (h : wvc P w0 ord n c (wthen (WLoop P w0 ord n c Q) Q) env s) : WLoop P w0 ord n c Q env s := by
  intro hc a ha
  refine cloop_round (cwp_mono ?_ (wvc_sound hm c _ env s a hc ha h))
  rintro e a2 s2 ⟨env2, ha2, hq⟩
  cases e with
  | normal => exact hq hc a2 ha2
  | _ => exact ⟨env2, ha2, hq⟩

/-- A loop with what stays so, and what falls. -/
theorem wloop_inv (hm : P.follows .mixedOrders = true) {c : Code} {Q : Exit → Env → St M → Prop} (I : Nat → Env → St M → Prop) (k : Nat) (h0 : I k env s)
    (h : ∀ k env s, I k env s → wvc P w0 ord n c (wthen (fun env s => ∃ m, m < k ∧ I m env s) Q) env s) : WLoop P w0 ord n c Q env s := by
  induction k using Nat.strongRecOn generalizing env s with
  | ind k ih =>
    intro hc a ha
    refine cloop_round (cwp_mono ?_ (wvc_sound hm c _ env s a hc ha (h k env s h0)))
    rintro e a2 s2 ⟨env2, ha2, hq⟩
    cases e with
    | normal =>
      obtain ⟨m, hm, hq⟩ := hq
      exact ih m hm hq hc a2 ha2
    | _ => exact ⟨env2, ha2, hq⟩

def wjump (c : Code) (Q : Exit → Env → St M → Prop) (J : Code → Env → St M → Prop) : Exit → Env → St M → Prop
  | .goto l, env, s => match findLabel c l with
    | some rest => codeOk P ord n rest = true ∧ J rest env s
    | none => Q (.goto l) env s
  | e, env, s => Q e env s

theorem wscope_piece (hm : P.follows .mixedOrders = true) {c x : Code} {Q : Exit → Env → St M → Prop} (h : wvc P w0 ord n x (wjump (P := P) (ord := ord) (n := n) c Q (fun rest => WScope P w0 ord n c rest Q)) env s) : WScope P w0 ord n c x Q env s := by
  intro hc hx a ha
  refine cscope_piece (cwp_mono ?_ (wvc_sound hm x _ env s a hx ha h))
  rintro e a2 s2 ⟨env2, ha2, hq⟩
  cases e with
  | goto l =>
    simp only [wjump] at hq
    simp only [cscope]
    split at hq
    · rename_i rest hr; rw [hr]; exact hq.2 hc hq.1 a2 ha2
    · rename_i hr; rw [hr]; exact ⟨env2, ha2, hq⟩
  | _ => exact ⟨env2, ha2, hq⟩

theorem wresults_of (ha : AEnv n env a) : ∀ (l : List ResultVar) (vs : List Value), wresults P env s l = some vs → l.mapM (cresult P a.tmps s) = some vs := by
  intro l
  induction l with
  | nil => intro vs h; simpa [wresults] using h
  | cons r l ih =>
    intro vs h
    unfold wresults at h
    have hr : cresult P a.tmps s r = wresult P env s r := by
      cases r with
      | tmp t => simp only [cresult, wresult]; rw [ha.t]
      | cell x t => simp only [cresult, wresult]; rw [ha.t]; rfl
    split at h
    · rename_i v vs1 h1 h2
      cases h
      simp only [List.mapM_cons, hr, h1, ih vs1 h2, Option.bind_eq_bind, Option.bind_some]
      rfl
    · cases h

/-- A function, by its body. -/
theorem wcalls (hm : P.follows .mixedOrders = true) {f : FuncId} {fn : Func} {c : Code} {l : List Value} {R : Value → St M → Prop} (ord : Ord) (hf : P.funcs[f]? = some fn) (hb : fn.body = some c) (hl : l.length ≤ fn.ntmps) (hc : codeOk P ord fn.ntmps c = true)
    (h : wvc P w0 ord fn.ntmps c (wbody P fn.results.toList R) (init l) s) : CCalls P w0 f l.toArray s R := by
  refine ccalls_enter hf hb (cwp_mono ?_ (wvc_sound hm c _ (init l) s _ hc ⟨?_, rfl, fun t => ?_⟩ h))
  · rintro e a2 s2 ⟨env2, ha2, hq⟩
    have key : wret P fn.results.toList R env2 s2 → match cresults P fn a2.tmps s2 with | some v => R v s2 | none => False := by
      intro hw
      unfold wret at hw
      unfold cresults
      split at hw
      · rename_i v hv; rw [wresults_of ha2 _ _ hv]; exact hw
      · rename_i vs h1 hv
        rw [wresults_of ha2 _ _ hv]
        match vs, h1, hw with
        | [], _, hw => exact hw
        | [v], h1, _ => exact (h1 v rfl).elim
        | _ :: _ :: _, _, hw => exact hw
      · exact hw.elim
    cases e with
    | normal => exact key hq
    | ret => exact key hq
    | _ => exact hq.elim
  · simp; omega
  · simp only [init]
    rw [Array.getD_eq_getD_getElem?, Array.getElem?_append, List.getD_eq_getElem?_getD]
    split
    · simp
    · rename_i hge
      have hge : l.length ≤ t := by simpa using hge
      rw [List.getElem?_eq_none hge, Array.getElem?_replicate]
      split <;> rfl
end
end Go.Cs
