/- Runs over the clean memory that the kernel reckons; a closed call in any world. A lemma file: no statement of its own. -/
import Derived.Test.YtlijgnofegjnmaaCs14
set_option linter.unusedSimpArgs false
set_option linter.unusedVariables false
namespace Go.Cs
open Go.RowKit (Below)

/-- A memory as a list of pairs. -/
def alGet : List (Nat × Option Blk) → Nat → Option Blk
  | [], _ => none
  | (j, v) :: l, k => if k = j then v else alGet l k

def alSet : List (Nat × Option Blk) → Nat → Option Blk → List (Nat × Option Blk)
  | [], k, v => [(k, v)]
  | (j, u) :: l, k, v => if k = j then (j, v) :: l else (j, u) :: alSet l k v

theorem alGet_set : ∀ (m : List (Nat × Option Blk)) (k : Nat) (v : Option Blk) (j : Nat), alGet (alSet m k v) j = if j = k then v else alGet m j := by
  intro m
  induction m with
  | nil => intro k v j; simp [alSet, alGet]
  | cons x m ih =>
    intro k v j
    obtain ⟨i, u⟩ := x
    simp only [alSet]
    by_cases e : k = i
    · rw [if_pos e]
      simp only [alGet]
      subst e
      split <;> rfl
    · rw [if_neg e]
      simp only [alGet, ih]
      by_cases e2 : j = i
      · rw [if_pos e2, if_neg (by omega), if_pos e2]
      · rw [if_neg e2, if_neg e2]

structure AL where
  l : List (Nat × Option Blk)

instance : Mem AL where
  get m k := alGet m.l k
  set m k v := ⟨alSet m.l k v⟩
  get_set m k v j := alGet_set m.l k v j

section
variable {M : Type} [Mem M] (P : Program)

/-- One that does not act, reckoned. -/
def efstep (o : Oper) (ev : Operand → Value) (s : St M) : Option (Value × St M × Option Value) :=
  match cpure P ev o.type o.op with
  | some v => some (v, s, none)
  | none => match cread P ev s o.op with
    | some v => some (v, s, some v)
    | none => match calloc P ev o.op with
      | some (B, f) => some (f s.next, s.new B, none)
      | none => none

/-- One operation, reckoned. -/
def estep (E : FuncId → Array Value → St M → (Value → St M → Bool) → Bool) (o : Oper) (ev : Operand → Value) (s : St M) (K : Value → St M → Bool) : Bool :=
  match cpure P ev o.type o.op with
  | some v => K v s
  | none => match cread P ev s o.op with
    | some v => K v s
    | none => match calloc P ev o.op with
      | some (B, f) => K (f s.next) (s.new B)
      | none => match ceff P ev s o.op with
        | some (v, s') => K v s'
        | none => match o.op with
          | .call c => match ccallee P ev c with
            | some (f, args) => E f args s K
            | none => false
          | _ => false

def eregion (E : FuncId → Array Value → St M → (Value → St M → Bool) → Bool) (ops : Array Oper) (Q : Act → St M → Bool) : List Nat → Act → St M → Bool
  | [], a, s => Q a s
  | i :: rest, a, s => match ops[i]? with
    | none => eregion E ops Q rest a s
    | some o => match cwanted ops o a.tmps with
      | some true => (o.op.operands.all opOk) && estep P E o a.eval s fun v s' => eregion E ops Q rest (a.put o.dst v) s'
      | some false => eregion E ops Q rest (a.put o.dst undef) s
      | none => false

/-- Are two values one? (Yes is sure.) -/
def eqV : Nat → Value → Value → Bool
  | _, .bool a, .bool b => a == b
  | _, .int j a, .int k b => j == k && a == b
  | _, .string a, .string b => a == b
  | _, .pointer a, .pointer b => a == b
  | _, .slice a m c, .slice b n d => a == b && m == n && c == d
  | _, .map a, .map b => a == b
  | _, .nilFunc, .nilFunc => true
  | _, .nilIface, .nilIface => true
  | n + 1, .iface t v, .iface u w => t == u && eqV n v w
  | n + 1, .agg a, .agg b => a.size == b.size && (a.toList.zip b.toList).all fun x => eqV n x.1 x.2
  | n + 1, .tuple a, .tuple b => a.size == b.size && (a.toList.zip b.toList).all fun x => eqV n x.1 x.2
  | n + 1, .func f a c, .func g b d => f == g && a.size == b.size && c.size == d.size && ((a.toList.zip b.toList).all fun x => eqV n x.1 x.2) && ((c.toList.zip d.toList).all fun x => eqV n x.1 x.2)
  | _, _, _ => false

theorem zip_eq {f : Value → Value → Bool} (hf : ∀ x y, f x y = true → x = y) : ∀ (a b : List Value), a.length = b.length → ((a.zip b).all fun x => f x.1 x.2) = true → a = b := by
  intro a
  induction a with
  | nil => intro b h _; simp at h; exact (List.eq_nil_of_length_eq_zero h.symm).symm
  | cons x a ih =>
    intro b h h2
    cases b with
    | nil => simp at h
    | cons y b =>
      simp only [List.zip_cons_cons, List.all_cons, Bool.and_eq_true] at h2
      rw [hf x y h2.1, ih b (by simpa using h) h2.2]

theorem arr_eq {f : Value → Value → Bool} (hf : ∀ x y, f x y = true → x = y) {a b : Array Value} (h : a.size = b.size) (h2 : ((a.toList.zip b.toList).all fun x => f x.1 x.2) = true) : a = b :=
  Array.ext' (zip_eq hf a.toList b.toList (by simpa using h) h2)

theorem eqV_sound : ∀ (n : Nat) (a b : Value), eqV n a b = true → a = b := by
  intro n
  induction n with
  | zero =>
    intro a b h
    unfold eqV at h
    split at h <;> first
      | (simp only [Bool.and_eq_true, beq_iff_eq, ba_beq_iff] at h; simp_all; done)
      | rfl
      | cases h
      | simp_all
  | succ n ih =>
    intro a b h
    unfold eqV at h
    split at h <;> first
      | rfl
      | (cases h; done)
      | (rename_i e; cases e; simp only [Bool.and_eq_true, beq_iff_eq] at h; first | (obtain ⟨rfl, h2⟩ := h; rw [ih _ _ h2]) | rw [arr_eq ih h.1 h.2] | (obtain ⟨⟨⟨⟨rfl, h1⟩, h2⟩, h3⟩, h4⟩ := h; rw [arr_eq ih h1 h3, arr_eq ih h2 h4]))
      | (simp only [Bool.and_eq_true, beq_iff_eq, ba_beq_iff] at h; simp_all; done)

def Fl.stillB (f : Fl M) (P : Program) (s : St M) : Bool := match f.v with
  | none => true
  | some v => match cread P f.ev s f.op with
    | some u => eqV 6 u v
    | none => false

theorem Fl.stillB_sound {f : Fl M} {P : Program} {s : St M} (h : f.stillB P s = true) : f.still P s := by
  unfold Fl.stillB at h
  unfold Fl.still
  split at h
  · rename_i e; rw [e]; trivial
  · rename_i v e
    rw [e]
    simp only
    split at h
    · rename_i u hu; rw [hu, eqV_sound 6 _ _ h]
    · cases h

def eregionD (E : FuncId → Array Value → St M → (Value → St M → Bool) → Bool) (ops : Array Oper) (bf : Array Nat) (Q : Act → St M → Bool) : List Nat → List (Fl M) → Act → St M → Bool
  | [], _, a, s => Q a s
  | i :: rest, fl, a, s => match ops[i]? with
    | none => false
    | some o => match cwanted ops o a.tmps with
      | none => false
      | some false => eregionD E ops bf Q rest (if acts P o then fl else ⟨i, o.op, a.eval, none⟩ :: fl) (a.put o.dst undef) s
      | some true => (o.op.operands.all opOk) &&
        (if acts P o then estep P E o a.eval s fun v s' => (fl.all fun f => (bf.getD i 0).testBit f.i || f.stillB P s') && eregionD E ops bf Q rest fl (a.put o.dst v) s'
         else match efstep P o a.eval s with
          | some (v, s', r) => eregionD E ops bf Q rest (⟨i, o.op, a.eval, r⟩ :: fl) (a.put o.dst v) s'
          | none => false)

def ethen (K : Act → St M → Bool) (Q : Exit → Act → St M → Bool) : Exit → Act → St M → Bool
  | .normal, a, s => K a s
  | e, a, s => Q e a s

def eblock (id : Nat) (Q : Exit → Act → St M → Bool) : Exit → Act → St M → Bool
  | .exit j, a, s => if j = id then Q .normal a s else Q (.exit j) a s
  | e, a, s => Q e a s

def escope (c : Code) (Q : Exit → Act → St M → Bool) (J : Code → Act → St M → Bool) : Exit → Act → St M → Bool
  | .goto l, a, s => match findLabel c l with
    | some rest => J rest a s
    | none => Q (.goto l) a s
  | e, a, s => Q e a s

/-- How a piece of code stands: by itself, as a piece of a scope's body, at the head of a loop's round. -/
inductive Md where
  | plain
  | scope (c : Code)
  | loop

def ecode (E : FuncId → Array Value → St M → (Value → St M → Bool) → Bool) : Nat → Md → Code → (Exit → Act → St M → Bool) → Act → St M → Bool
  | 0, _, _, _, _, _ => false
  | k + 1, .plain, c, Q, a, s => match c with
    | .skip => Q .normal a s
    | .label _ => Q .normal a s
    | .region _ ops false => eregion P E ops (fun a s => Q .normal a s) (List.range ops.size) a s
    | .region _ ops true => drawOk P ops (asap P ops) && eregionD P E ops (Region.before ops) (fun a s => Q .normal a s) (asap P ops) [] a s
    | .seq x y => ecode E k .plain x (ethen (ecode E k .plain y Q) Q) a s
    | .cond c x y => opOk c && (match a.eval c with
      | .bool t => if t = true then ecode E k .plain x Q a s else ecode E k .plain y Q a s
      | _ => false)
    | .block id c => ecode E k .plain c (eblock id Q) a s
    | .loop c => ecode E k .loop c Q a s
    | .exit id => Q (.exit id) a s
    | .goto l => Q (.goto l) a s
    | .ret => Q .ret a s
    | .scope c => ecode E k (.scope c) c Q a s
    | _ => false
  | k + 1, .scope c, x, Q, a, s => ecode E k .plain x (escope c Q (fun rest => ecode E k (.scope c) rest Q)) a s
  | k + 1, .loop, c, Q, a, s => ecode E k .plain c (ethen (ecode E k .loop c Q) Q) a s

def ebody (fn : Func) (K : Value → St M → Bool) : Exit → Act → St M → Bool
  | .normal, a, s => match cresults P fn a.tmps s with
    | some v => K v s
    | none => false
  | .ret, a, s => match cresults P fn a.tmps s with
    | some v => K v s
    | none => false
  | _, _, _ => false

def ecall : Nat → FuncId → Array Value → St M → (Value → St M → Bool) → Bool
  | 0, _, _, _, _ => false
  | n + 1, f, args, s, K => match P.funcs[f]? with
    | some fn => match fn.body with
      | some c => ecode P (ecall n) n .plain c (ebody P fn K) { tmps := args ++ Array.replicate (fn.ntmps - args.size) undef, defers := [] } s
      | none => false
    | none => false
end

section
variable {M : Type} [Mem M] {P : Program} {w0 : World}

theorem estep_sound {E : FuncId → Array Value → St M → (Value → St M → Bool) → Bool} (hE : ∀ f args s K, E f args s K = true → CCalls P w0 f args s fun v s => K v s = true)
    {o : Oper} {ev : Operand → Value} {s : St M} {K : Value → St M → Bool} (h : estep P E o ev s K = true) : cstep P w0 o ev s fun v s => K v s = true := by
  unfold estep at h
  cases h1 : cpure P ev o.type o.op with
  | some v => rw [h1] at h; exact .inl ⟨v, h1, h⟩
  | none =>
    rw [h1] at h
    simp only at h
    cases h2 : cread P ev s o.op with
    | some v => rw [h2] at h; exact .inr (.inl ⟨v, h2, h⟩)
    | none =>
      rw [h2] at h
      simp only at h
      cases h3 : calloc P ev o.op with
      | some x => obtain ⟨B, f⟩ := x; rw [h3] at h; exact .inr (.inr (.inl ⟨B, f, h3, h⟩))
      | none =>
        rw [h3] at h
        simp only at h
        cases h4 : ceff P ev s o.op with
        | some x => obtain ⟨v, s'⟩ := x; rw [h4] at h; exact .inr (.inr (.inr (.inl ⟨v, s', h4, h⟩)))
        | none =>
          rw [h4] at h
          simp only at h
          refine .inr (.inr (.inr (.inr ?_)))
          cases h5 : o.op <;> rw [h5] at h <;> (try (cases h; done))
          simp only [ccall]
          rename_i c
          simp only at h
          cases h6 : ccallee P ev c with
          | some x => rw [h6] at h; exact hE _ _ _ _ h
          | none => rw [h6] at h; cases h

theorem eregion_sound {E : FuncId → Array Value → St M → (Value → St M → Bool) → Bool} (hE : ∀ f args s K, E f args s K = true → CCalls P w0 f args s fun v s => K v s = true)
    {ops : Array Oper} {Q : Act → St M → Bool} : ∀ (l : List Nat) (a : Act) (s : St M), eregion P E ops Q l a s = true → cregion P w0 ops (fun a s => Q a s = true) l a s := by
  intro l
  induction l with
  | nil => intro a s h; exact h
  | cons i rest ih =>
    intro a s h
    simp only [eregion] at h
    simp only [cregion]
    split at h
    · rename_i ho; rw [ho]; exact ih _ _ h
    · rename_i o ho
      rw [ho]
      simp only
      split at h
      · rename_i hw
        rw [hw]
        simp only [Bool.and_eq_true] at h
        rw [h.1]
        exact cstep_mono (fun v s' hk => ih _ _ hk) (estep_sound hE h.2)
      · rename_i hw
        rw [hw]
        exact ih _ _ h
      · cases h

theorem stillAll_intro {s : St M} {K : Prop} : ∀ (l : List (Fl M)), K → (∀ f ∈ l, f.still P s) → stillAll P s l K := by
  intro l
  induction l with
  | nil => intro h _; exact h
  | cons x l ih =>
    intro h hf
    simp only [stillAll]
    have h2 := ih h (fun f hf' => hf f (by simp [hf']))
    split
    · exact h2
    · rename_i v e
      have := hf x (by simp)
      unfold Fl.still at this
      rw [e] at this
      exact ⟨this, h2⟩

theorem eregionD_sound {E : FuncId → Array Value → St M → (Value → St M → Bool) → Bool} (hE : ∀ f args s K, E f args s K = true → CCalls P w0 f args s fun v s => K v s = true)
    {ops : Array Oper} {bf : Array Nat} {Q : Act → St M → Bool} : ∀ (l : List Nat) (fl : List (Fl M)) (a : Act) (s : St M), eregionD P E ops bf Q l fl a s = true → cregionD P w0 ops bf (fun a s => Q a s = true) l fl a s := by
  intro l
  induction l with
  | nil => intro fl a s h; exact h
  | cons i rest ih =>
    intro fl a s h
    simp only [eregionD] at h
    simp only [cregionD]
    cases ho : ops[i]? with
    | none => rw [ho] at h; cases h
    | some o =>
      rw [ho] at h
      simp only at h ⊢
      cases hw : cwanted ops o a.tmps with
      | none => rw [hw] at h; cases h
      | some b =>
        rw [hw] at h
        cases b with
        | false => exact ih _ _ _ h
        | true =>
          simp only [Bool.and_eq_true] at h
          rw [h.1]
          simp only
          have h2 := h.2
          split at h2
          · rename_i ha
            rw [if_pos ha]
            refine cstep_mono (fun v s' hk => ?_) (estep_sound hE h2)
            simp only [Bool.and_eq_true, List.all_eq_true, Bool.or_eq_true] at hk
            refine stillAll_intro _ (ih _ _ _ hk.2) fun f hf => ?_
            obtain ⟨hf1, hf2⟩ := List.mem_filter.1 hf
            rcases hk.1 f hf1 with h3 | h3
            · rw [h3] at hf2; cases hf2
            · exact Fl.stillB_sound h3
          · rename_i ha
            rw [if_neg ha]
            unfold efstep at h2
            cases g1 : cpure P a.eval o.type o.op with
            | some v => rw [g1] at h2; exact .inl ⟨v, g1, ih _ _ _ h2⟩
            | none =>
              rw [g1] at h2
              simp only at h2
              cases g2 : cread P a.eval s o.op with
              | some v => rw [g2] at h2; exact .inr (.inl ⟨v, g2, ih _ _ _ h2⟩)
              | none =>
                rw [g2] at h2
                simp only at h2
                cases g3 : calloc P a.eval o.op with
                | some x => obtain ⟨B, f⟩ := x; rw [g3] at h2; exact .inr (.inr ⟨B, f, g3, ih _ _ _ h2⟩)
                | none => rw [g3] at h2; cases h2

theorem ecode_sound (hm : P.follows .mixedOrders = true) {E : FuncId → Array Value → St M → (Value → St M → Bool) → Bool} (hE : ∀ f args s K, E f args s K = true → CCalls P w0 f args s fun v s => K v s = true) :
    ∀ (k : Nat) (c : Code) (Q : Exit → Act → St M → Bool) (a : Act) (s : St M),
      (ecode P E k .plain c Q a s = true → CWp P w0 c (fun e a s => Q e a s = true) a s) ∧ (∀ x, ecode P E k (.scope x) c Q a s = true → CScope P w0 x c (fun e a s => Q e a s = true) a s) ∧
      (ecode P E k .loop c Q a s = true → CLoop P w0 c (fun e a s => Q e a s = true) a s) := by
  intro k
  induction k with
  | zero => intro c Q a s; exact ⟨fun h => (by cases h), fun x h => (by cases h), fun h => (by cases h)⟩
  | succ k ih =>
    intro c Q a s
    refine ⟨fun h => ?_, fun x h => ?_, fun h => ?_⟩
    · cases c <;> simp only [ecode] at h <;> (try (cases h; done))
      case skip => exact cwp_skip h
      case label => exact cwp_label h
      case region id ops d =>
        cases d
        · exact cwp_region (eregion_sound hE _ _ _ h)
        · simp only [Bool.and_eq_true] at h
          exact cwp_regionD hm h.1 (eregionD_sound hE _ _ _ _ h.2)
      case seq x y =>
        refine cwp_seq (cwp_mono ?_ ((ih _ _ _ _).1 h))
        intro e a s hq
        cases e <;> first | exact hq | exact (ih _ _ _ _).1 hq
      case cond c x y =>
        simp only [Bool.and_eq_true] at h
        obtain ⟨h1, h2⟩ := h
        split at h2
        · rename_i t ht
          refine cwp_cond h1 ht ?_
          cases t
          · exact (ih _ _ _ _).1 h2
          · exact (ih _ _ _ _).1 h2
        · cases h2
      case block id c =>
        refine cwp_block (cwp_mono ?_ ((ih _ _ _ _).1 h))
        intro e a s hq
        cases e <;> first
          | exact hq
          | (simp only [eblock] at hq; simp only [cblock]; split at hq <;> simp_all)
      case loop c => exact cwp_loop ((ih _ _ _ _).2.2 h)
      case exit => exact cwp_exit h
      case goto => exact cwp_goto h
      case ret => exact cwp_ret h
      case scope c => exact cwp_scope ((ih _ _ _ _).2.1 _ h)
    · simp only [ecode] at h
      refine cscope_piece (cwp_mono ?_ ((ih _ _ _ _).1 h))
      intro e a s hq
      cases e <;> first
        | exact hq
        | skip
      rename_i l
      simp only [escope] at hq
      simp only [cscope]
      cases hf : findLabel x l with
      | some rest => rw [hf] at hq; exact (ih _ _ _ _).2.1 _ hq
      | none => rw [hf] at hq; exact hq
    · simp only [ecode] at h
      refine cloop_round (cwp_mono ?_ ((ih _ _ _ _).1 h))
      intro e a s hq
      cases e <;> first | exact hq | exact (ih _ _ _ _).2.2 hq

theorem ecall_sound (hm : P.follows .mixedOrders = true) : ∀ (n : Nat) (f : FuncId) (args : Array Value) (s : St M) (K : Value → St M → Bool), ecall P n f args s K = true → CCalls P w0 f args s fun v s => K v s = true := by
  intro n
  induction n with
  | zero => intro f args s K h; cases h
  | succ n ih =>
    intro f args s K h
    simp only [ecall] at h
    split at h
    · rename_i fn hf
      split at h
      · rename_i c hc
        refine ccalls_enter hf hc (cwp_mono ?_ ((ecode_sound hm ih _ _ _ _ _).1 h))
        intro e a s hq
        cases e <;> simp only [ebody] at hq <;> (try (cases hq; done)) <;> simp only [cbody] <;>
          (cases hr : cresults P fn a.tmps s with
           | some v => rw [hr] at hq; exact hq
           | none => rw [hr] at hq; cases hq)
      · cases h
    · cases h

/-- The memory in which nothing is known. -/
def St.empty : St AL := { mem := ⟨[]⟩, next := 0 }

theorem Rel.empty (w : World) : Rel P w (fun _ => none) St.empty w :=
  ⟨fun _ _ h => (by cases h), fun _ _ h => (by cases h), fun _ _ _ h => (by cases h), fun _ _ _ h => (by cases h), fun _ _ _ _ _ _ h => (by cases h), Go.RowKit.Below.refl _ _, fun _ _ => rfl⟩

/-- A closed call, reckoned once, in any world. -/
theorem calls_closed (hm : P.follows .mixedOrders = true) {n : Nat} {f : FuncId} {v0 : Value} (hp : plain 6 v0 = true) (h : ecall (M := AL) P n f #[] St.empty (fun v _ => plain 6 v && Instr.sameBits 6 v0 v) = true) (hv : ∀ v, plain 6 v = true → Instr.sameBits 6 v0 v = true → v = v0) (w : World) :
    Calls P f #[] w fun e w' => e = .returned v0 ∧ Below w.heap.size w w' := by
  refine (ecall_sound (w0 := w) hm n f #[] St.empty _ h _ w #[] (Rel.empty w) ⟨rfl, fun i hi => by simp at hi⟩).mono ?_
  rintro e w' ⟨v, s', ρ', v', rfl, hk, hvr, hR, _⟩
  simp only [Bool.and_eq_true] at hk
  have := hv v hk.1 hk.2
  subst this
  exact ⟨by rw [VRel.eq_of_plain 6 hk.1 hvr], hR.below⟩

theorem calls_true (hm : P.follows .mixedOrders = true) {n : Nat} {f : FuncId} (h : ecall (M := AL) P n f #[] St.empty (fun v _ => match v with | .bool b => b | _ => false) = true) (w : World) :
    Calls P f #[] w fun e w' => e = .returned (.bool true) ∧ Below w.heap.size w w' := by
  refine (ecall_sound (w0 := w) hm n f #[] St.empty _ h _ w #[] (Rel.empty w) ⟨rfl, fun i hi => by simp at hi⟩).mono ?_
  rintro e w' ⟨v, s', ρ', v', rfl, hk, hvr, hR, _⟩
  split at hk
  · subst hk; exact ⟨by rw [hvr.bool_inv], hR.below⟩
  · cases hk

/-- .. and so over any clean memory, which stays. -/
theorem ccalls_of_closed {f : FuncId} {s : St M} (h : ∀ w, Calls P f #[] w fun e w' => e = .returned (.bool true) ∧ Below w.heap.size w w') : CCalls P w0 f #[] s fun v s' => v = .bool true ∧ s' = s := by
  intro ρ w args' hR ha
  have : args' = #[] := by have := ha.1; simp at this; exact Array.eq_empty_of_size_eq_zero this.symm
  subst this
  refine (h w).mono ?_
  rintro e w' ⟨rfl, hB⟩
  refine ⟨_, s, ρ, _, rfl, ⟨rfl, rfl⟩, .bool true, ?_, Ext.refl _ _⟩
  refine ⟨hR.dom, fun b i hb => Nat.lt_of_lt_of_le (hR.lt b i hb) hB.size, fun b i B hb hB2 => ?_, hR.own, hR.inj, hR.below.trans (hB.mono hR.below.size), hR.fresh⟩
  obtain ⟨o, ho, hr⟩ := hR.blk b i B hb hB2
  exact ⟨o, by rw [hB.block _ (hR.lt b i hb)]; exact ho, hr⟩
end
end Go.Cs
