/- The clean memory, part D. A lemma file: no statement of its own. -/
import Derived.Test.YtiachndgldjbfaaFwC
import Derived.Laws.Strings
import Derived.ProofKit
import Derived.OpenShut
set_option linter.unusedSimpArgs false
set_option linter.unusedVariables false
set_option linter.unusedSectionVars false

/- Runs over the clean memory that the kernel reckons; a closed call in any world. -/
namespace Go.Cs
open Go.RowKit (Below)

/-- A memory as a list of pairs. -/
def alGet : List (Nat × Option Blk) → Nat → Option Blk
  | [], _ => none
  | (j, v) :: l, k => if k = j then v else alGet l k

def alSet : List (Nat × Option Blk) → Nat → Option Blk → List (Nat × Option Blk)
  | [], k, v => [(k, v)]
  | (j, u) :: l, k, v => if k = j then (j, v) :: l else (j, u) :: alSet l k v

theorem alGet_set : ∀ (m : List (Nat × Option Blk)) (k : Nat) (v : Option Blk) (j : Nat), alGet (alSet m k v) j = if j = k then v else alGet m j := by
  intro m
  induction m with
  | nil => intro k v j; simp [alSet, alGet]
  | cons x m ih =>
    intro k v j
    obtain ⟨i, u⟩ := x
    simp only [alSet]
    by_cases e : k = i
    · rw [if_pos e]
      simp only [alGet]
      subst e
      split <;> rfl
    · rw [if_neg e]
      simp only [alGet, ih]
      by_cases e2 : j = i
      · rw [if_pos e2, if_neg (by omega), if_pos e2]
      · rw [if_neg e2, if_neg e2]

structure AL where
  l : List (Nat × Option Blk)

instance : Mem AL where
  get m k := alGet m.l k
  set m k v := ⟨alSet m.l k v⟩
  get_set m k v j := alGet_set m.l k v j

section
variable {M : Type} [Mem M] (P : Program)

/-- One that does not act, reckoned. -/
def efstep (o : Oper) (ev : Operand → Value) (s : St M) : Option (Value × St M × Option Value) :=
  match cpure P ev o.type o.op with
  | some v => some (v, s, none)
  | none => match cread P ev s o.op with
    | some v => some (v, s, some v)
    | none => match calloc P ev o.op with
      | some (B, f) => some (f s.next, s.new B, none)
      | none => none

/-- One operation, reckoned. -/
def estep (E : FuncId → Array Value → St M → (Value → St M → Bool) → Bool) (o : Oper) (ev : Operand → Value) (s : St M) (K : Value → St M → Bool) : Bool :=
  match cpure P ev o.type o.op with
  | some v => K v s
  | none => match cread P ev s o.op with
    | some v => K v s
    | none => match calloc P ev o.op with
      | some (B, f) => K (f s.next) (s.new B)
      | none => match ceff P ev s o.op with
        | some (v, s') => K v s'
        | none => match o.op with
          | .call c => match ccallee P ev c with
            | some (f, args) => E f args s K
            | none => false
          | _ => false

def eregion (E : FuncId → Array Value → St M → (Value → St M → Bool) → Bool) (ops : Array Oper) (Q : Act → St M → Bool) : List Nat → Act → St M → Bool
  | [], a, s => Q a s
  | i :: rest, a, s => match ops[i]? with
    | none => eregion E ops Q rest a s
    | some o => match cwanted ops o a.tmps with
      | some true => (o.op.operands.all opOk) && estep P E o a.eval s fun v s' => eregion E ops Q rest (a.put o.dst v) s'
      | some false => eregion E ops Q rest (a.put o.dst undef) s
      | none => false

/-- Are two values one? (Yes is sure.) -/
def eqV : Nat → Value → Value → Bool
  | _, .bool a, .bool b => a == b
  | _, .int j a, .int k b => j == k && a == b
  | _, .string a, .string b => a == b
  | _, .pointer a, .pointer b => a == b
  | _, .slice a m c, .slice b n d => a == b && m == n && c == d
  | _, .map a, .map b => a == b
  | _, .nilFunc, .nilFunc => true
  | _, .nilIface, .nilIface => true
  | n + 1, .iface t v, .iface u w => t == u && eqV n v w
  | n + 1, .agg a, .agg b => a.size == b.size && (a.toList.zip b.toList).all fun x => eqV n x.1 x.2
  | n + 1, .tuple a, .tuple b => a.size == b.size && (a.toList.zip b.toList).all fun x => eqV n x.1 x.2
  | n + 1, .func f a c, .func g b d => f == g && a.size == b.size && c.size == d.size && ((a.toList.zip b.toList).all fun x => eqV n x.1 x.2) && ((c.toList.zip d.toList).all fun x => eqV n x.1 x.2)
  | _, _, _ => false

theorem zip_eq {f : Value → Value → Bool} (hf : ∀ x y, f x y = true → x = y) : ∀ (a b : List Value), a.length = b.length → ((a.zip b).all fun x => f x.1 x.2) = true → a = b := by
  intro a
  induction a with
  | nil => intro b h _; simp at h; exact (List.eq_nil_of_length_eq_zero h.symm).symm
  | cons x a ih =>
    intro b h h2
    cases b with
    | nil => simp at h
    | cons y b =>
      simp only [List.zip_cons_cons, List.all_cons, Bool.and_eq_true] at h2
      rw [hf x y h2.1, ih b (by simpa using h) h2.2]

theorem arr_eq {f : Value → Value → Bool} (hf : ∀ x y, f x y = true → x = y) {a b : Array Value} (h : a.size = b.size) (h2 : ((a.toList.zip b.toList).all fun x => f x.1 x.2) = true) : a = b :=
  Array.ext' (zip_eq hf a.toList b.toList (by simpa using h) h2)

theorem eqV_sound : ∀ (n : Nat) (a b : Value), eqV n a b = true → a = b := by
  intro n
  induction n with
  | zero =>
    intro a b h
    unfold eqV at h
    split at h <;> first
      | (simp only [Bool.and_eq_true, beq_iff_eq, ba_beq_iff] at h; simp_all; done)
      | rfl
      | cases h
      | simp_all
  | succ n ih =>
    intro a b h
    unfold eqV at h
    split at h <;> first
      | rfl
      | (cases h; done)
      | (rename_i e; cases e; simp only [Bool.and_eq_true, beq_iff_eq] at h; first | (obtain ⟨rfl, h2⟩ := h; rw [ih _ _ h2]) | rw [arr_eq ih h.1 h.2] | (obtain ⟨⟨⟨⟨rfl, h1⟩, h2⟩, h3⟩, h4⟩ := h; rw [arr_eq ih h1 h3, arr_eq ih h2 h4]))
      | (simp only [Bool.and_eq_true, beq_iff_eq, ba_beq_iff] at h; simp_all; done)

def Fl.stillB (f : Fl M) (P : Program) (s : St M) : Bool := match f.v with
  | none => true
  | some v => match cread P f.ev s f.op with
    | some u => eqV 6 u v
    | none => false

theorem Fl.stillB_sound {f : Fl M} {P : Program} {s : St M} (h : f.stillB P s = true) : f.still P s := by
  unfold Fl.stillB at h
  unfold Fl.still
  split at h
  · rename_i e; rw [e]; trivial
  · rename_i v e
    rw [e]
    simp only
    split at h
    · rename_i u hu; rw [hu, eqV_sound 6 _ _ h]
    · cases h

def eregionD (E : FuncId → Array Value → St M → (Value → St M → Bool) → Bool) (ops : Array Oper) (bf : Array Nat) (Q : Act → St M → Bool) : List Nat → List (Fl M) → Act → St M → Bool
  | [], _, a, s => Q a s
  | i :: rest, fl, a, s => match ops[i]? with
    | none => false
    | some o => match cwanted ops o a.tmps with
      | none => false
      | some false => eregionD E ops bf Q rest (if acts P o then fl else ⟨i, o.op, a.eval, none⟩ :: fl) (a.put o.dst undef) s
      | some true => (o.op.operands.all opOk) &&
        (if acts P o then estep P E o a.eval s fun v s' => (fl.all fun f => (bf.getD i 0).testBit f.i || f.stillB P s') && eregionD E ops bf Q rest fl (a.put o.dst v) s'
         else match efstep P o a.eval s with
          | some (v, s', r) => eregionD E ops bf Q rest (⟨i, o.op, a.eval, r⟩ :: fl) (a.put o.dst v) s'
          | none => false)

def ethen (K : Act → St M → Bool) (Q : Exit → Act → St M → Bool) : Exit → Act → St M → Bool
  | .normal, a, s => K a s
  | e, a, s => Q e a s

def eblock (id : Nat) (Q : Exit → Act → St M → Bool) : Exit → Act → St M → Bool
  | .exit j, a, s => if j = id then Q .normal a s else Q (.exit j) a s
  | e, a, s => Q e a s

def escope (c : Code) (Q : Exit → Act → St M → Bool) (J : Code → Act → St M → Bool) : Exit → Act → St M → Bool
  | .goto l, a, s => match findLabel c l with
    | some rest => J rest a s
    | none => Q (.goto l) a s
  | e, a, s => Q e a s

/-- How a piece of code stands: by itself, as a piece of a scope's body, at the head of a loop's round. -/
inductive Md where
  | plain
  | scope (c : Code)
  | loop

def ecode (E : FuncId → Array Value → St M → (Value → St M → Bool) → Bool) : Nat → Md → Code → (Exit → Act → St M → Bool) → Act → St M → Bool
  | 0, _, _, _, _, _ => false
  | k + 1, .plain, c, Q, a, s => match c with
    | .skip => Q .normal a s
    | .label _ => Q .normal a s
    | .region _ ops false => eregion P E ops (fun a s => Q .normal a s) (List.range ops.size) a s
    | .region _ ops true => drawOk P ops (asap P ops) && eregionD P E ops (Region.before ops) (fun a s => Q .normal a s) (asap P ops) [] a s
    | .seq x y => ecode E k .plain x (ethen (ecode E k .plain y Q) Q) a s
    | .cond c x y => opOk c && (match a.eval c with
      | .bool t => if t = true then ecode E k .plain x Q a s else ecode E k .plain y Q a s
      | _ => false)
    | .block id c => ecode E k .plain c (eblock id Q) a s
    | .loop c => ecode E k .loop c Q a s
    | .exit id => Q (.exit id) a s
    | .goto l => Q (.goto l) a s
    | .ret => Q .ret a s
    | .scope c => ecode E k (.scope c) c Q a s
    | _ => false
  | k + 1, .scope c, x, Q, a, s => ecode E k .plain x (escope c Q (fun rest => ecode E k (.scope c) rest Q)) a s
  | k + 1, .loop, c, Q, a, s => ecode E k .plain c (ethen (ecode E k .loop c Q) Q) a s

def ebody (fn : Func) (K : Value → St M → Bool) : Exit → Act → St M → Bool
  | .normal, a, s => match cresults P fn a.tmps s with
    | some v => K v s
    | none => false
  | .ret, a, s => match cresults P fn a.tmps s with
    | some v => K v s
    | none => false
  | _, _, _ => false

def ecall : Nat → FuncId → Array Value → St M → (Value → St M → Bool) → Bool
  | 0, _, _, _, _ => false
  | n + 1, f, args, s, K => match P.funcs[f]? with
    | some fn => match fn.body with
      | some c => ecode P (ecall n) n .plain c (ebody P fn K) { tmps := args ++ Array.replicate (fn.ntmps - args.size) undef, defers := [] } s
      | none => false
    | none => false
end

section
variable {M : Type} [Mem M] {P : Program} {w0 : World}

theorem estep_sound {E : FuncId → Array Value → St M → (Value → St M → Bool) → Bool} (hE : ∀ f args s K, E f args s K = true → CCalls P w0 f args s fun v s => K v s = true)
    {o : Oper} {ev : Operand → Value} {s : St M} {K : Value → St M → Bool} (h : estep P E o ev s K = true) : cstep P w0 o ev s fun v s => K v s = true := by
  unfold estep at h
  cases h1 : cpure P ev o.type o.op with
  | some v => rw [h1] at h; exact .inl ⟨v, h1, h⟩
  | none =>
    rw [h1] at h
    simp only at h
    cases h2 : cread P ev s o.op with
    | some v => rw [h2] at h; exact .inr (.inl ⟨v, h2, h⟩)
    | none =>
      rw [h2] at h
      simp only at h
      cases h3 : calloc P ev o.op with
      | some x => obtain ⟨B, f⟩ := x; rw [h3] at h; exact .inr (.inr (.inl ⟨B, f, h3, h⟩))
      | none =>
        rw [h3] at h
        simp only at h
        cases h4 : ceff P ev s o.op with
        | some x => obtain ⟨v, s'⟩ := x; rw [h4] at h; exact .inr (.inr (.inr (.inl ⟨v, s', h4, h⟩)))
        | none =>
          rw [h4] at h
          simp only at h
          refine .inr (.inr (.inr (.inr ?_)))
          cases h5 : o.op <;> rw [h5] at h <;> (try (cases h; done))
          simp only [ccall]
          rename_i c
          simp only at h
          cases h6 : ccallee P ev c with
          | some x => rw [h6] at h; exact hE _ _ _ _ h
          | none => rw [h6] at h; cases h

theorem eregion_sound {E : FuncId → Array Value → St M → (Value → St M → Bool) → Bool} (hE : ∀ f args s K, E f args s K = true → CCalls P w0 f args s fun v s => K v s = true)
    {ops : Array Oper} {Q : Act → St M → Bool} : ∀ (l : List Nat) (a : Act) (s : St M), eregion P E ops Q l a s = true → cregion P w0 ops (fun a s => Q a s = true) l a s := by
  intro l
  induction l with
  | nil => intro a s h; exact h
  | cons i rest ih =>
    intro a s h
    simp only [eregion] at h
    simp only [cregion]
    split at h
    · rename_i ho; rw [ho]; exact ih _ _ h
    · rename_i o ho
      rw [ho]
      simp only
      split at h
      · rename_i hw
        rw [hw]
        simp only [Bool.and_eq_true] at h
        rw [h.1]
        exact cstep_mono (fun v s' hk => ih _ _ hk) (estep_sound hE h.2)
      · rename_i hw
        rw [hw]
        exact ih _ _ h
      · cases h

theorem stillAll_intro {s : St M} {K : Prop} : ∀ (l : List (Fl M)), K → (∀ f ∈ l, f.still P s) → stillAll P s l K := by
  intro l
  induction l with
  | nil => intro h _; exact h
  | cons x l ih =>
    intro h hf
    simp only [stillAll]
    have h2 := ih h (fun f hf' => hf f (by simp [hf']))
    split
    · exact h2
    · rename_i v e
      have := hf x (by simp)
      unfold Fl.still at this
      rw [e] at this
      exact ⟨this, h2⟩

theorem eregionD_sound {E : FuncId → Array Value → St M → (Value → St M → Bool) → Bool} (hE : ∀ f args s K, E f args s K = true → CCalls P w0 f args s fun v s => K v s = true)
    {ops : Array Oper} {bf : Array Nat} {Q : Act → St M → Bool} : ∀ (l : List Nat) (fl : List (Fl M)) (a : Act) (s : St M), eregionD P E ops bf Q l fl a s = true → cregionD P w0 ops bf (fun a s => Q a s = true) l fl a s := by
  intro l
  induction l with
  | nil => intro fl a s h; exact h
  | cons i rest ih =>
    intro fl a s h
    simp only [eregionD] at h
    simp only [cregionD]
    cases ho : ops[i]? with
    | none => rw [ho] at h; cases h
    | some o =>
      rw [ho] at h
      simp only at h ⊢
      cases hw : cwanted ops o a.tmps with
      | none => rw [hw] at h; cases h
      | some b =>
        rw [hw] at h
        cases b with
        | false => exact ih _ _ _ h
        | true =>
          simp only [Bool.and_eq_true] at h
          rw [h.1]
          simp only
          have h2 := h.2
          split at h2
          · rename_i ha
            rw [if_pos ha]
            refine cstep_mono (fun v s' hk => ?_) (estep_sound hE h2)
            simp only [Bool.and_eq_true, List.all_eq_true, Bool.or_eq_true] at hk
            refine stillAll_intro _ (ih _ _ _ hk.2) fun f hf => ?_
            obtain ⟨hf1, hf2⟩ := List.mem_filter.1 hf
            rcases hk.1 f hf1 with h3 | h3
            · rw [h3] at hf2; cases hf2
            · exact Fl.stillB_sound h3
          · rename_i ha
            rw [if_neg ha]
            unfold efstep at h2
            cases g1 : cpure P a.eval o.type o.op with
            | some v => rw [g1] at h2; exact .inl ⟨v, g1, ih _ _ _ h2⟩
            | none =>
              rw [g1] at h2
              simp only at h2
              cases g2 : cread P a.eval s o.op with
              | some v => rw [g2] at h2; exact .inr (.inl ⟨v, g2, ih _ _ _ h2⟩)
              | none =>
                rw [g2] at h2
                simp only at h2
                cases g3 : calloc P a.eval o.op with
                | some x => obtain ⟨B, f⟩ := x; rw [g3] at h2; exact .inr (.inr ⟨B, f, g3, ih _ _ _ h2⟩)
                | none => rw [g3] at h2; cases h2

theorem ecode_sound (hm : P.follows .mixedOrders = true) {E : FuncId → Array Value → St M → (Value → St M → Bool) → Bool} (hE : ∀ f args s K, E f args s K = true → CCalls P w0 f args s fun v s => K v s = true) :
    ∀ (k : Nat) (c : Code) (Q : Exit → Act → St M → Bool) (a : Act) (s : St M),
      (ecode P E k .plain c Q a s = true → CWp P w0 c (fun e a s => Q e a s = true) a s) ∧ (∀ x, ecode P E k (.scope x) c Q a s = true → CScope P w0 x c (fun e a s => Q e a s = true) a s) ∧
      (ecode P E k .loop c Q a s = true → CLoop P w0 c (fun e a s => Q e a s = true) a s) := by
  intro k
  induction k with
  | zero => intro c Q a s; exact ⟨fun h => (by cases h), fun x h => (by cases h), fun h => (by cases h)⟩
  | succ k ih =>
    intro c Q a s
    refine ⟨fun h => ?_, fun x h => ?_, fun h => ?_⟩
    · cases c <;> simp only [ecode] at h <;> (try (cases h; done))
      case skip => exact cwp_skip h
      case label => exact cwp_label h
      case region id ops d =>
        cases d
        · exact cwp_region (eregion_sound hE _ _ _ h)
        · simp only [Bool.and_eq_true] at h
          exact cwp_regionD hm h.1 (eregionD_sound hE _ _ _ _ h.2)
      case seq x y =>
        refine cwp_seq (cwp_mono ?_ ((ih _ _ _ _).1 h))
        intro e a s hq
        cases e <;> first | exact hq | exact (ih _ _ _ _).1 hq
      case cond c x y =>
        simp only [Bool.and_eq_true] at h
        obtain ⟨h1, h2⟩ := h
        split at h2
        · rename_i t ht
          refine cwp_cond h1 ht ?_
          cases t
          · exact (ih _ _ _ _).1 h2
          · exact (ih _ _ _ _).1 h2
        · cases h2
      case block id c =>
        refine cwp_block (cwp_mono ?_ ((ih _ _ _ _).1 h))
        intro e a s hq
        cases e <;> first
          | exact hq
          | (simp only [eblock] at hq; simp only [cblock]; split at hq <;> simp_all)
      case loop c => exact cwp_loop ((ih _ _ _ _).2.2 h)
      case exit => exact cwp_exit h
      case goto => exact cwp_goto h
      case ret => exact cwp_ret h
      case scope c => exact cwp_scope ((ih _ _ _ _).2.1 _ h)
    · simp only [ecode] at h
      refine cscope_piece (cwp_mono ?_ ((ih _ _ _ _).1 h))
      intro e a s hq
      cases e <;> first
        | exact hq
        | skip
      rename_i l
      simp only [escope] at hq
      simp only [cscope]
      cases hf : findLabel x l with
      | some rest => rw [hf] at hq; exact (ih _ _ _ _).2.1 _ hq
      | none => rw [hf] at hq; exact hq
    · simp only [ecode] at h
      refine cloop_round (cwp_mono ?_ ((ih _ _ _ _).1 h))
      intro e a s hq
      cases e <;> first | exact hq | exact (ih _ _ _ _).2.2 hq

theorem ecall_sound (hm : P.follows .mixedOrders = true) : ∀ (n : Nat) (f : FuncId) (args : Array Value) (s : St M) (K : Value → St M → Bool), ecall P n f args s K = true → CCalls P w0 f args s fun v s => K v s = true := by
  intro n
  induction n with
  | zero => intro f args s K h; cases h
  | succ n ih =>
    intro f args s K h
    simp only [ecall] at h
    split at h
    · rename_i fn hf
      split at h
      · rename_i c hc
        refine ccalls_enter hf hc (cwp_mono ?_ ((ecode_sound hm ih _ _ _ _ _).1 h))
        intro e a s hq
        cases e <;> simp only [ebody] at hq <;> (try (cases hq; done)) <;> simp only [cbody] <;>
          (cases hr : cresults P fn a.tmps s with
           | some v => rw [hr] at hq; exact hq
           | none => rw [hr] at hq; cases hq)
      · cases h
    · cases h

/-- The memory in which nothing is known. -/
def St.empty : St AL := { mem := ⟨[]⟩, next := 0 }

theorem Rel.empty (w : World) : Rel P w (fun _ => none) St.empty w :=
  ⟨fun _ _ h => (by cases h), fun _ _ h => (by cases h), fun _ _ _ h => (by cases h), fun _ _ _ h => (by cases h), fun _ _ _ _ _ _ h => (by cases h), Go.RowKit.Below.refl _ _, fun _ _ => rfl⟩

/-- A closed call, reckoned once, in any world. -/
theorem calls_closed (hm : P.follows .mixedOrders = true) {n : Nat} {f : FuncId} {v0 : Value} (hp : plain 6 v0 = true) (h : ecall (M := AL) P n f #[] St.empty (fun v _ => plain 6 v && Instr.sameBits 6 v0 v) = true) (hv : ∀ v, plain 6 v = true → Instr.sameBits 6 v0 v = true → v = v0) (w : World) :
    Calls P f #[] w fun e w' => e = .returned v0 ∧ Below w.heap.size w w' := by
  refine (ecall_sound (w0 := w) hm n f #[] St.empty _ h _ w #[] (Rel.empty w) ⟨rfl, fun i hi => by simp at hi⟩).mono ?_
  rintro e w' ⟨v, s', ρ', v', rfl, hk, hvr, hR, _⟩
  simp only [Bool.and_eq_true] at hk
  have := hv v hk.1 hk.2
  subst this
  exact ⟨by rw [VRel.eq_of_plain 6 hk.1 hvr], hR.below⟩

theorem calls_true (hm : P.follows .mixedOrders = true) {n : Nat} {f : FuncId} (h : ecall (M := AL) P n f #[] St.empty (fun v _ => match v with | .bool b => b | _ => false) = true) (w : World) :
    Calls P f #[] w fun e w' => e = .returned (.bool true) ∧ Below w.heap.size w w' := by
  refine (ecall_sound (w0 := w) hm n f #[] St.empty _ h _ w #[] (Rel.empty w) ⟨rfl, fun i hi => by simp at hi⟩).mono ?_
  rintro e w' ⟨v, s', ρ', v', rfl, hk, hvr, hR, _⟩
  split at hk
  · subst hk; exact ⟨by rw [hvr.bool_inv], hR.below⟩
  · cases hk

/-- .. and so over any clean memory, which stays. -/
theorem ccalls_of_closed {f : FuncId} {s : St M} (h : ∀ w, Calls P f #[] w fun e w' => e = .returned (.bool true) ∧ Below w.heap.size w w') : CCalls P w0 f #[] s fun v s' => v = .bool true ∧ s' = s := by
  intro ρ w args' hR ha
  have : args' = #[] := by have := ha.1; simp at this; exact Array.eq_empty_of_size_eq_zero this.symm
  subst this
  refine (h w).mono ?_
  rintro e w' ⟨rfl, hB⟩
  refine ⟨_, s, ρ, _, rfl, ⟨rfl, rfl⟩, .bool true, ?_, Ext.refl _ _⟩
  refine ⟨hR.dom, fun b i hb => Nat.lt_of_lt_of_le (hR.lt b i hb) hB.size, fun b i B hb hB2 => ?_, hR.own, hR.inj, hR.below.trans (hB.mono hR.below.size), hR.fresh⟩
  obtain ⟨o, ho, hr⟩ := hR.blk b i B hb hB2
  exact ⟨o, by rw [hB.block _ (hR.lt b i hb)]; exact ho, hr⟩
end
end Go.Cs

/- What is left to be shown of a piece of code, in a form that simp brings to an end: side conditions, values by their kinds, ways by their tests. -/
namespace Go.Cs

/-- The variables of a frame. -/
abbrev Env := Nat → Value

/-- The value of an operand. -/
def wev (env : Env) : Operand → Value
  | .tmp t => env t
  | .const v => v
  | .global g => .pointer (some ⟨g, 0, none⟩)
  | .func f => .func (.func f) #[] #[]

/-- A variable written. -/
def upd (env : Env) (d : Nat) (v : Value) : Env := fun t => if t = d then v else env t

theorem upd_apply (env : Env) (d : Nat) (v : Value) (t : Nat) : upd env d v t = if t = d then v else env t := rfl

def wput (env : Env) (d : Option Tmp) (v : Value) : Env :=
  match d with
  | some d => upd env d v
  | none => env

/-- The variables as a list has them; all others hold nothing. -/
def init (l : List Value) : Env := fun t => l.getD t undef

theorem upd_self {env : Env} {d : Nat} {v : Value} (h : env d = v) : upd env d v = env := by
  funext t
  unfold upd
  split
  · rename_i e; rw [e, h]
  · rfl

/-- Both ways, each with its test. -/
def both (t : Bool) (p q : Prop) : Prop := (t = true → p) ∧ (t = false → q)

/-- A value that must be there. -/
def must (o : Option Value) (K : Value → Prop) : Prop := ∃ v, o = some v ∧ K v

section
variable {M : Type} [Mem M] (P : Program) (w0 : World)

/-- A value of a type, by its kind. -/
def shape (t : TypeId) (v : Value) (K : Value → Prop) : Prop :=
  match P.underlying t with
  | some (.int k) => ∃ n, v = .int k n ∧ K (.int k n)
  | some .bool => ∃ b, v = .bool b ∧ K (.bool b)
  | some .string => ∃ x, v = .string x ∧ K (.string x)
  | _ => K v

def wbin (op : BinOp) (t : TypeId) (ox oy : Operand) (x y : Value) (K : Value → Prop) : Prop :=
  match op, x, y with
  | .add, .int k a, .int k' b => k = k' ∧ K (.int k (k.wrap (a + b)))
  | .sub, .int k a, .int k' b => k = k' ∧ K (.int k (k.wrap (a - b)))
  | .mul, .int k a, .int k' b => k = k' ∧ K (.int k (k.wrap (a * b)))
  | .quo, .int k a, .int k' b => k = k' ∧ b ≠ 0 ∧ K (.int k (k.wrap (a.tdiv b)))
  | .rem, .int k a, .int k' b => k = k' ∧ b ≠ 0 ∧ K (.int k (a.tmod b))
  | .shl, .int k a, .int _ b => 0 ≤ b ∧ K (.int k (k.wrap (a * 2 ^ (min b.toNat k.bits))))
  | .shr, .int k a, .int _ b => 0 ≤ b ∧ K (.int k (a.fdiv (2 ^ (min b.toNat k.bits))))
  | .eql, .int k a, .int k' b => k = k' ∧ K (.bool (decide (a = b)))
  | .neq, .int k a, .int k' b => k = k' ∧ K (.bool (!decide (a = b)))
  | .lss, .int k a, .int k' b => k = k' ∧ K (.bool (decide (a < b)))
  | .leq, .int k a, .int k' b => k = k' ∧ K (.bool (decide (a ≤ b)))
  | .gtr, .int k a, .int k' b => k = k' ∧ K (.bool (decide (b < a)))
  | .geq, .int k a, .int k' b => k = k' ∧ K (.bool (decide (b ≤ a)))
  | .add, .string a, .string b => a.size + b.size ≤ 9223372036854775807 ∧ K (.string (a ++ b))
  | .eql, .string a, .string b => K (.bool (decide (a = b)))
  | .neq, .string a, .string b => K (.bool (!decide (a = b)))
  | op, x, y => must (cbin P op t ox oy x y) K

/-- An operation that asks nothing of the memory: what it comes to, or what is to be shown of it. -/
def wpu (o : Oper) (ev : Operand → Value) (K : Value → Prop) : Prop :=
  match o.op with
  | .move x => K (ev x)
  | .assign x => K (ev x)
  | .pick c a b => match ev c with
    | .bool t => both t (K (ev a)) (K (ev b))
    | _ => False
  | .binOp op t x y _ => wbin P op t x y (ev x) (ev y) K
  | .convert src dst x => match ev x with
    | .int _ n => match P.underlying src, P.underlying dst with
      | some _, some (.int k) => K (.int k (k.wrap n))
      | _, _ => False
    | .string b => match P.underlying src, P.underlying dst with
      | some _, some .string => K (.string b)
      | _, _ => False
    | _ => must (cpure P ev o.type o.op) K
  | .indexAddr t x ix => match P.underlying t, ev x, ev ix with
    | some (.slice e), .slice (some a) n _, .int _ i => (P.info? e).isSome = true ∧ 0 ≤ i ∧ i < n ∧ K (.pointer (some (a.add (i.toNat * P.cellsOf e))))
    | _, _, _ => must (cpure P ev o.type o.op) K
  | _ => must (cpure P ev o.type o.op) K

/-- What kind of thing an operation does. -/
inductive Kd where
  | pu | rd | al | ef | ca | pr
  deriving DecidableEq

def kindOf (ev : Operand → Value) : Op → Kd
  | .load _ _ => .rd
  | .lookup _ _ _ _ => .rd
  | .alloc _ => .al
  | .box _ _ => .al
  | .buildSlice _ _ _ => .al
  | .makeMap _ _ => .al
  | .makeSlice _ _ _ => .al
  | .range _ _ => .al
  | .store _ _ _ => .ef
  | .mapUpdate _ _ _ _ => .ef
  | .insert _ _ _ _ => .ef
  | .next _ _ => .ef
  | .slice _ _ _ _ _ => .pr
  | .binOp .eql _ x y _ => match ev x, ev y with
    | .pointer (some _), .pointer (some _) => .rd
    | _, _ => .pu
  | .binOp .neq _ x y _ => match ev x, ev y with
    | .pointer (some _), .pointer (some _) => .rd
    | _, _ => .pu
  | .convert _ dst x => match ev x with
    | .int _ _ => .pu
    | .string _ => match P.underlying dst with
      | some .string => .pu
      | _ => .al
    | _ => .rd
  | .call c => match c.callee with
    | .builtin .append => .ef
    | .builtin .delete => .ef
    | .builtin .copy => .ef
    | .builtin .clear => .ef
    | .builtin .unsafeString => .ef
    | .builtin .len => .pr
    | .builtin _ => .pu
    | _ => .ca
  | _ => .pu

/-- An operation: what it comes to, or what is to be shown of it. -/
def wop (o : Oper) (ev : Operand → Value) (s : St M) (K : Value → St M → Prop) : Prop :=
  match kindOf P ev o.op with
  | .pu => wpu P o ev fun v => K v s
  | .rd => must (cread P ev s o.op) fun v => shape P o.type v fun v => K v s
  | .al => ∃ B f, calloc P ev o.op = some (B, f) ∧ K (f s.next) (s.new B)
  | .ef => ∃ v s', ceff P ev s o.op = some (v, s') ∧ K v s'
  | .pr => must (cpure P ev o.type o.op) (fun v => K v s) ∨ must (cread P ev s o.op) (fun v => K v s)
  | .ca => match o.op with
    | .call c => match ccallee P ev c with
      | some (f, args) => CCalls P w0 f args s fun v s' => shape P o.type v fun v => K v s'
      | none => ∃ v s', ceff P ev s (.call c) = some (v, s') ∧ K v s'
    | _ => False

/-- One that does not act, in a region that draws its order. -/
def wfop (o : Oper) (ev : Operand → Value) (s : St M) (K : Value → St M → Option Value → Prop) : Prop :=
  match kindOf P ev o.op with
  | .pu => wpu P o ev fun v => K v s none
  | .rd => must (cread P ev s o.op) fun v => shape P o.type v fun v => K v s (some v)
  | .al => ∃ B f, calloc P ev o.op = some (B, f) ∧ K (f s.next) (s.new B) none
  | .pr => must (cpure P ev o.type o.op) (fun v => K v s none) ∨ must (cread P ev s o.op) (fun v => K v s (some v))
  | _ => False

/-- An operation with its guard. -/
def wguard (ops : Array Oper) (o : Oper) (env : Env) (yes no : Env → Prop) : Prop :=
  match o.guard with
  | none => yes env
  | some (j, want) => match (ops[j]?).bind (·.dst) with
    | none => no env
    | some d => match env d with
      | .bool b => (b = want → yes (upd env d (.bool want))) ∧ (b = !want → no (upd env d (.bool !want)))
      | .tuple cs => cs.size ≠ 1 ∧ no env
      | _ => no env

/-- The operations of a region, in the order of its text. -/
def wreg (ops : Array Oper) (Q : Env → St M → Prop) : List Oper → Env → St M → Prop
  | [], env, s => Q env s
  | o :: rest, env, s => wguard ops o env (fun env => wop P w0 o (wev env) s fun v s' => wreg ops Q rest (wput env o.dst v) s') (fun env => wreg ops Q rest (wput env o.dst undef) s)

/-- A step of a region that draws its order: which operation, does it act, what has been read and may be read behind it. -/
structure DI where
  i : Nat
  act : Bool
  chk : List Nat

/-- What has been read. -/
structure WF where
  i : Nat
  op : Op
  env : Env
  v : Option Value

def wstill (chk : List Nat) (s : St M) : List WF → Prop → Prop
  | [], K => K
  | f :: l, K => match f.v with
    | none => wstill chk s l K
    | some v => match chk.contains f.i with
      | true => cread P (wev f.env) s f.op = some v ∧ wstill chk s l K
      | false => wstill chk s l K

def wregD (ops : Array Oper) (Q : Env → St M → Prop) : List DI → List WF → Env → St M → Prop
  | [], _, env, s => Q env s
  | d :: rest, fl, env, s => match ops[d.i]? with
    | none => False
    | some o => match d.act with
      | true => wguard ops o env (fun env => wop P w0 o (wev env) s fun v s' => wstill P d.chk s' fl (wregD ops Q rest fl (wput env o.dst v) s')) (fun env => wregD ops Q rest fl (wput env o.dst undef) s)
      | false => wguard ops o env (fun env => wfop P o (wev env) s fun v s' r => wregD ops Q rest (⟨d.i, o.op, env, r⟩ :: fl) (wput env o.dst v) s') (fun env => wregD ops Q rest (⟨d.i, o.op, env, none⟩ :: fl) (wput env o.dst undef) s)
end

section
variable {M : Type} [Mem M] {P : Program} {w0 : World}

theorem pureRun_underlying {t : TypeId} {d : TypeDesc} (h : P.underlying t = some d) : pureRun P (underlying t) = some d := by
  simp only [underlying, program, pureRun_bind]
  show (some P).bind (fun a => pureRun P (match a.underlying t with | some d => pure d | none => stuck "no such type")) = some d
  simp only [Option.bind_some, h]
  rfl

theorem shape_of {t : TypeId} {v : Value} {K : Value → Prop} (h : shape P t v K) : K v := by
  unfold shape at h
  split at h
  · obtain ⟨n, rfl, h⟩ := h; exact h
  · obtain ⟨n, rfl, h⟩ := h; exact h
  · obtain ⟨n, rfl, h⟩ := h; exact h
  · exact h

theorem decide_ba (a b : ByteArray) : (a.toList == b.toList) = decide (a = b) := by
  rw [Bool.eq_iff_iff]
  simp only [beq_iff_eq, decide_eq_true_eq, ByteArray.toList_eq]
  exact ⟨fun h => ByteArray.ext (Array.ext' h), fun h => by rw [h]⟩

theorem wbin_of {op : BinOp} {t : TypeId} {ox oy : Operand} {x y : Value} {K : Value → Prop} (h : wbin P op t ox oy x y K) : ∃ v, cbin P op t ox oy x y = some v ∧ K v := by
  unfold wbin at h
  split at h
  all_goals first
    | exact h
    | skip
  all_goals first
    | (obtain ⟨rfl, h⟩ := h; exact ⟨_, by simp only [cbin, if_true]; rfl, by first | exact h | (simpa [beq_eq_decide] using h)⟩)
    | skip
  · obtain ⟨rfl, h0, h⟩ := h
    exact ⟨_, by simp only [cbin, if_true, pure6, Go.binOp, ne_eq, not_true_eq_false, if_false, Op.intDiv, h0]; rfl, h⟩
  · obtain ⟨rfl, h0, h⟩ := h
    exact ⟨_, by simp only [cbin, if_true, pure6, Go.binOp, ne_eq, not_true_eq_false, if_false, Op.intDiv, h0]; rfl, h⟩
  · obtain ⟨h0, h⟩ := h
    rename_i k a k' b
    refine ⟨_, ?_, h⟩
    have : ¬ b < 0 := by omega
    simp only [cbin, pure6, Go.binOp, Op.shift, this, if_false]
    split <;> rfl
  · obtain ⟨h0, h⟩ := h
    rename_i k a k' b
    refine ⟨_, ?_, h⟩
    have : ¬ b < 0 := by omega
    simp only [cbin, pure6, Go.binOp, Op.shift, this, if_false]
    split <;> rfl
  · obtain ⟨h0, h⟩ := h
    rename_i a b
    refine ⟨_, ?_, h⟩
    have h1 : ¬ (((a.size + b.size : Nat) : Int) > IntKind.i64.max) := by simp [IntKind.max, IntKind.bits, IntKind.signed]; omega
    simp only [cbin, plain, and_self, if_true, pure6, eqGuard, Go.binOp, Op.stringOp, h1, if_false]
    rfl
  · rename_i a b
    refine ⟨_, ?_, h⟩
    rw [← decide_ba]
    rfl
  · rename_i a b
    refine ⟨_, ?_, h⟩
    rw [← decide_ba]
    rfl

theorem cpure_bin {o : Oper} {ev : Operand → Value} {op : BinOp} {t yt : TypeId} {x y : Operand} (ho : o.op = .binOp op t x y yt) : cpure P ev o.type o.op = cbin P op t x y (ev x) (ev y) := by rw [ho]; rfl

theorem wpu_of {o : Oper} {ev : Operand → Value} {K : Value → Prop} (h : wpu P o ev K) : ∃ v, cpure P ev o.type o.op = some v ∧ K v := by
  unfold wpu at h
  split at h
  case h_1 x hx => exact ⟨ev x, by rw [hx]; rfl, h⟩
  case h_2 x hx => exact ⟨ev x, by rw [hx]; rfl, h⟩
  case h_3 c a b hx =>
    split at h
    · rename_i t ht
      refine ⟨if t then ev a else ev b, by rw [hx]; simp only [cpure, ht], ?_⟩
      cases t
      · exact h.2 rfl
      · exact h.1 rfl
    · exact h.elim
  case h_4 op t x y yt hx =>
    obtain ⟨v, h1, h2⟩ := wbin_of h
    exact ⟨v, by rw [cpure_bin hx]; exact h1, h2⟩
  case h_5 src dst x hx =>
    split at h
    · rename_i k0 n hn
      split at h
      · rename_i d k hs hk
        refine ⟨_, ?_, h⟩
        rw [hx]
        simp only [cpure, hn, plain, if_true, pure6, Go.convert, pureRun_bind, pureRun_underlying hs, pureRun_underlying hk, Option.bind_some, Conv.intToInt, pureRun_pure]
      · exact h.elim
    · rename_i b hb
      split at h
      · rename_i d hs hk
        refine ⟨_, ?_, h⟩
        rw [hx]
        simp only [cpure, hb, plain, if_true, pure6, Go.convert, pureRun_bind, pureRun_underlying hs, pureRun_underlying hk, Option.bind_some, pureRun_pure]
      · exact h.elim
    · exact h
  case h_6 t x ix hx =>
    split at h
    · rename_i e a n c k i hu hxa hix
      obtain ⟨h1, h2, h3, h4⟩ := h
      obtain ⟨ie, hie⟩ := Option.isSome_iff_exists.1 h1
      refine ⟨_, ?_, h4⟩
      rw [hx]
      simp only [cpure, hxa, hix, cidxAddr, hu, hie, h2, h3, and_self, if_true, cellsOf_info hie]
    · exact h
  case h_7 => exact h

theorem wop_sound {o : Oper} {ev : Operand → Value} {s : St M} {K : Value → St M → Prop} (h : wop P w0 o ev s K) : cstep P w0 o ev s K := by
  unfold wop at h
  split at h
  · obtain ⟨v, h1, h2⟩ := wpu_of h; exact .inl ⟨v, h1, h2⟩
  · obtain ⟨v, h1, h2⟩ := h; exact .inr (.inl ⟨v, h1, shape_of h2⟩)
  · obtain ⟨B, f, h1, h2⟩ := h; exact .inr (.inr (.inl ⟨B, f, h1, h2⟩))
  · obtain ⟨v, s', h1, h2⟩ := h; exact .inr (.inr (.inr (.inl ⟨v, s', h1, h2⟩)))
  · rcases h with ⟨v, h1, h2⟩ | ⟨v, h1, h2⟩
    · exact .inl ⟨v, h1, h2⟩
    · exact .inr (.inl ⟨v, h1, h2⟩)
  · split at h
    · rename_i c hc
      split at h
      · rename_i f args hf
        refine .inr (.inr (.inr (.inr ?_)))
        rw [hc]
        simp only [ccall]
        rw [hf]
        exact CCalls.mono h fun v s' hk => shape_of hk
      · obtain ⟨v, s', h1, h2⟩ := h
        exact .inr (.inr (.inr (.inl ⟨v, s', by rw [hc]; exact h1, h2⟩)))
    · exact h.elim

theorem wfop_sound {o : Oper} {ev : Operand → Value} {s : St M} {K : Value → St M → Option Value → Prop} (h : wfop P o ev s K) : fstep P o ev s K := by
  unfold wfop at h
  split at h
  · obtain ⟨v, h1, h2⟩ := wpu_of h; exact .inl ⟨v, h1, h2⟩
  · obtain ⟨v, h1, h2⟩ := h; exact .inr (.inl ⟨v, h1, shape_of h2⟩)
  · obtain ⟨B, f, h1, h2⟩ := h; exact .inr (.inr ⟨B, f, h1, h2⟩)
  · rcases h with ⟨v, h1, h2⟩ | ⟨v, h1, h2⟩
    · exact .inl ⟨v, h1, h2⟩
    · exact .inr (.inl ⟨v, h1, h2⟩)
  · exact h.elim
end
end Go.Cs

/- What is left to be shown of a function: code by code; loops and scopes by their rules. -/
namespace Go.Cs

/-- The orders of the regions that draw theirs. -/
abbrev Ord := List (Nat × List DI)

def ordOf : Ord → Nat → List DI
  | [], _ => []
  | (a, l) :: rest, k => if a = k then l else ordOf rest k

def dstOk (n : Nat) : Option Tmp → Bool
  | none => true
  | some d => d < n

/-- What has been read, and may be read behind an act, is looked at again. -/
def chkOk (bf : Array Nat) : List DI → List Nat → Bool
  | [], _ => true
  | d :: rest, fl => match d.act with
    | true => (fl.all fun j => (bf.getD d.i 0).testBit j || d.chk.contains j) && chkOk bf rest fl
    | false => chkOk bf rest (d.i :: fl)

def codeOk (P : Program) (ord : Ord) (n : Nat) : Code → Bool
  | .skip => true
  | .region _ ops false => ops.toList.all fun o => o.op.operands.all opOk && dstOk n o.dst
  | .region id ops true => (ops.toList.all fun o => o.op.operands.all opOk && dstOk n o.dst) && drawOk P ops ((ordOf ord id).map (·.i)) && ((ordOf ord id).all fun d => match ops[d.i]? with
      | none => false
      | some o => acts P o == d.act) && chkOk (Region.before ops) (ordOf ord id) []
  | .seq x y => codeOk P ord n x && codeOk P ord n y
  | .cond c x y => opOk c && codeOk P ord n x && codeOk P ord n y
  | .block _ c => codeOk P ord n c
  | .loop c => codeOk P ord n c
  | .scope c => codeOk P ord n c
  | .exit _ => true
  | .label _ => true
  | .goto _ => true
  | .ret => true
  | .refuse _ => true
  | _ => false

/-- The variables are as said. -/
structure AEnv (n : Nat) (env : Env) (a : Act) : Prop where
  size : a.tmps.size = n
  d : a.defers = []
  t : ∀ t, a.tmps.getD t undef = env t

section
variable {M : Type} [Mem M] (P : Program) (w0 : World) (ord : Ord) (n : Nat)

def wlift (Q : Exit → Env → St M → Prop) : Exit → Act → St M → Prop := fun e a s => ∃ env, AEnv n env a ∧ Q e env s

/-- A loop, from the head of a round on. -/
def WLoop (c : Code) (Q : Exit → Env → St M → Prop) (env : Env) (s : St M) : Prop :=
  codeOk P ord n c = true → ∀ a, AEnv n env a → CLoop P w0 c (wlift n Q) a s

/-- A piece of the body of a scope. -/
def WScope (c x : Code) (Q : Exit → Env → St M → Prop) (env : Env) (s : St M) : Prop :=
  codeOk P ord n c = true → codeOk P ord n x = true → ∀ a, AEnv n env a → CScope P w0 c x (wlift n Q) a s

def wthen (K : Env → St M → Prop) (Q : Exit → Env → St M → Prop) : Exit → Env → St M → Prop
  | .normal, env, s => K env s
  | e, env, s => Q e env s

def wblock (id : Nat) (Q : Exit → Env → St M → Prop) : Exit → Env → St M → Prop
  | .exit j, env, s => if j = id then Q .normal env s else Q (.exit j) env s
  | e, env, s => Q e env s

def wcond (c : Operand) (env : Env) (p q : Env → Prop) : Prop :=
  match c with
  | .tmp t => match env t with
    | .bool b => (b = true → p (upd env t (.bool true))) ∧ (b = false → q (upd env t (.bool false)))
    | _ => False
  | .const (.bool b) => (b = true → p env) ∧ (b = false → q env)
  | _ => False

def wvc : Code → (Exit → Env → St M → Prop) → Env → St M → Prop
  | .skip, Q, env, s => Q .normal env s
  | .region _ ops false, Q, env, s => wreg P w0 ops (Q .normal) ops.toList env s
  | .region id ops true, Q, env, s => wregD P w0 ops (Q .normal) (ordOf ord id) [] env s
  | .seq x y, Q, env, s => wvc x (wthen (wvc y Q) Q) env s
  | .cond c x y, Q, env, s => wcond c env (fun env => wvc x Q env s) (fun env => wvc y Q env s)
  | .block id c, Q, env, s => wvc c (wblock id Q) env s
  | .loop c, Q, env, s => WLoop P w0 ord n c Q env s
  | .scope c, Q, env, s => WScope P w0 ord n c c Q env s
  | .exit id, Q, env, s => Q (.exit id) env s
  | .label _, Q, env, s => Q .normal env s
  | .goto l, Q, env, s => Q (.goto l) env s
  | .ret, Q, env, s => Q .ret env s
  | _, _, _, _ => False

/-- What is handed back. -/
def wresult (env : Env) (s : St M) : ResultVar → Option Value
  | .tmp t => some (env t)
  | .cell a t => match env a with
    | .pointer (some ad) => cload P t ad s
    | _ => none

def wresults (env : Env) (s : St M) : List ResultVar → Option (List Value)
  | [] => some []
  | r :: l => match wresult P env s r, wresults env s l with
    | some v, some vs => some (v :: vs)
    | _, _ => none

def wret (rs : List ResultVar) (R : Value → St M → Prop) (env : Env) (s : St M) : Prop :=
  match wresults P env s rs with
  | some [v] => R v s
  | some vs => R (.tuple vs.toArray) s
  | none => False

def wbody (rs : List ResultVar) (R : Value → St M → Prop) : Exit → Env → St M → Prop
  | .normal, env, s => wret P rs R env s
  | .ret, env, s => wret P rs R env s
  | _, _, _ => False
end

section
variable {M : Type} [Mem M] {P : Program} {w0 : World} {ord : Ord} {n : Nat} {env : Env} {a : Act} {s : St M}

theorem AEnv.eval (h : AEnv n env a) : a.eval = wev env := by
  funext x
  cases x with
  | tmp t => simp only [Act.eval, wev]; exact h.t t
  | _ => rfl

theorem AEnv.put (h : AEnv n env a) {d : Option Tmp} (hd : dstOk n d = true) (v : Value) : AEnv n (wput env d v) (a.put d v) := by
  refine ⟨by rw [put_size]; exact h.size, by cases d <;> exact h.d, fun t => ?_⟩
  cases d with
  | none => exact h.t t
  | some d =>
    have hd : d < n := by simpa [dstOk] using hd
    by_cases e : t = d
    · subst e
      simp only [Act.put, wput, upd, if_true]
      rw [Array.getD_eq_getD_getElem?, Array.getElem?_setIfInBounds, if_pos rfl, if_pos (by rw [h.size]; exact hd)]
      rfl
    · rw [put_getD (Ne.symm e)]
      simp only [wput, upd, e, if_false]
      exact h.t t

theorem wguard_spec {ops : Array Oper} {o : Oper} {yes no : Env → Prop} (h : AEnv n env a) (hg : wguard ops o env yes no) : (cwanted ops o a.tmps = some true ∧ yes env) ∨ (cwanted ops o a.tmps = some false ∧ no env) := by
  unfold wguard at hg
  unfold cwanted
  split at hg
  · rename_i e; rw [e]; exact .inl ⟨rfl, hg⟩
  · rename_i j want e
    rw [e]
    dsimp only
    split at hg
    · rename_i e2; rw [e2]; exact .inr ⟨rfl, hg⟩
    · rename_i d e2
      rw [e2]
      dsimp only
      have ht := h.t d
      rw [Array.getD_eq_getD_getElem?] at ht
      split at hg
      · rename_i b hb
        rw [hb] at ht
        cases hd : a.tmps[d]? with
        | none => rw [hd] at ht; simp [undef] at ht
        | some x =>
          rw [hd] at ht
          simp only [Option.getD_some] at ht
          subst ht
          dsimp only
          by_cases e3 : b = want
          · subst e3
            left
            refine ⟨by simp, ?_⟩
            have := hg.1 rfl
            rwa [upd_self hb] at this
          · have e4 : b = !want := by cases b <;> cases want <;> simp_all
            right
            refine ⟨by simp [e3], ?_⟩
            have := hg.2 e4
            rw [← e4, upd_self hb] at this
            exact this
      · rename_i cs hb
        rw [hb] at ht
        cases hd : a.tmps[d]? with
        | none => exact .inr ⟨rfl, hg.2⟩
        | some x =>
          rw [hd] at ht
          simp only [Option.getD_some] at ht
          subst ht
          exact .inr ⟨by simp [hg.1], hg.2⟩
      · rename_i h1 h2
        cases hd : a.tmps[d]? with
        | none => exact .inr ⟨rfl, hg⟩
        | some x =>
          rw [hd] at ht
          simp only [Option.getD_some] at ht
          subst ht
          right
          refine ⟨?_, hg⟩
          generalize env d = x at h1 h2
          cases x with
          | bool b => exact absurd rfl (h1 b)
          | tuple cs => exact absurd rfl (h2 cs)
          | _ => rfl

theorem wreg_of {ops : Array Oper} {Q : Env → St M → Prop} (ho : ∀ o ∈ ops.toList, o.op.operands.all opOk = true ∧ dstOk n o.dst = true) : ∀ (l : List Oper) (k : Nat), l = ops.toList.drop k → ∀ (env : Env) (a : Act) (s : St M), AEnv n env a → wreg P w0 ops Q l env s →
    cregion P w0 ops (fun a s => ∃ env, AEnv n env a ∧ Q env s) (List.range' k l.length) a s := by
  intro l
  induction l with
  | nil => intro k _ env a s ha h; exact ⟨env, ha, h⟩
  | cons o rest ih =>
    intro k hk env a s ha h
    have hko : ops[k]? = some o := by
      have := List.head?_drop (l := ops.toList) (i := k)
      rw [← hk] at this
      simpa using this.symm
    have hmem : o ∈ ops.toList := List.mem_of_mem_drop (i := k) (by rw [← hk]; simp)
    obtain ⟨h1, h2⟩ := ho o hmem
    have hrest : rest = ops.toList.drop (k + 1) := by
      have : (ops.toList.drop k).tail = rest := by rw [← hk]; rfl
      rw [← this, List.tail_drop]
    simp only [List.length_cons, List.range'_succ, cregion, hko]
    unfold wreg at h
    rcases wguard_spec ha h with ⟨h3, h4⟩ | ⟨h3, h4⟩
    · rw [h3, h1, ha.eval]
      exact cstep_mono (fun v s' hv => ih (k + 1) hrest _ _ _ (ha.put h2 v) hv) (wop_sound h4)
    · rw [h3]
      exact ih (k + 1) hrest _ _ _ (ha.put h2 undef) h4

/-- What has been read, on both sides. -/
def flOf (fl : List WF) : List (Fl M) := fl.map fun f => ⟨f.i, f.op, wev f.env, f.v⟩

theorem wstill_of {bf : Array Nat} {i : Nat} {chk : List Nat} {s : St M} {K K' : Prop} (hk : K → K') : ∀ (fl : List WF), (fl.all fun f => (bf.getD i 0).testBit f.i || chk.contains f.i) = true → wstill P chk s fl K →
    stillAll P s ((flOf fl).filter fun f => !(bf.getD i 0).testBit f.i) K' := by
  intro fl
  induction fl with
  | nil => intro _ h; exact hk h
  | cons f fl ih =>
    intro hc h
    simp only [List.all_cons, Bool.and_eq_true, Bool.or_eq_true] at hc
    obtain ⟨h1, h2⟩ := hc
    unfold wstill at h
    simp only [flOf, List.map_cons, List.filter_cons]
    cases hb : (bf.getD i 0).testBit f.i with
    | true =>
      simp only [Bool.not_true, Bool.false_eq_true, if_false]
      split at h
      · exact ih h2 h
      · split at h
        · exact ih h2 h.2
        · exact ih h2 h
    | false =>
      simp only [Bool.not_false, if_true, stillAll]
      rw [hb] at h1
      have h1 : chk.contains f.i = true := by simpa using h1
      split at h
      · rename_i e; rw [e]; exact ih h2 h
      · rename_i v e
        rw [h1] at h
        rw [e]
        exact ⟨h.1, ih h2 h.2⟩

theorem fstep_mono {o : Oper} {ev : Operand → Value} {K K' : Value → St M → Option Value → Prop} (hk : ∀ v s' r, K v s' r → K' v s' r) (h : fstep P o ev s K) : fstep P o ev s K' := by
  rcases h with ⟨v, h1, h2⟩ | ⟨v, h1, h2⟩ | ⟨B, f, h1, h2⟩
  · exact .inl ⟨v, h1, hk _ _ _ h2⟩
  · exact .inr (.inl ⟨v, h1, hk _ _ _ h2⟩)
  · exact .inr (.inr ⟨B, f, h1, hk _ _ _ h2⟩)

theorem wregD_of {ops : Array Oper} {bf : Array Nat} {Q : Env → St M → Prop} (ho : ∀ o ∈ ops.toList, o.op.operands.all opOk = true ∧ dstOk n o.dst = true) : ∀ (l : List DI) (fl : List WF), (∀ d ∈ l, ∀ o, ops[d.i]? = some o → acts P o = d.act) → chkOk bf l (fl.map (·.i)) = true →
    ∀ (env : Env) (a : Act) (s : St M), AEnv n env a → wregD P w0 ops Q l fl env s →
    cregionD P w0 ops bf (fun a s => ∃ env, AEnv n env a ∧ Q env s) (l.map (·.i)) (flOf fl) a s := by
  intro l
  induction l with
  | nil => intro fl _ _ env a s ha h; exact ⟨env, ha, h⟩
  | cons d rest ih =>
    intro fl hact hchk env a s ha h
    unfold wregD at h
    simp only [List.map_cons, cregionD]
    split at h
    · exact h.elim
    · rename_i o hko
      rw [hko]
      have hmem : o ∈ ops.toList := by
        have := Array.mem_of_getElem? hko
        simpa using this
      obtain ⟨h1, h2⟩ := ho o hmem
      have hac := hact d (by simp) o hko
      have hact' : ∀ d ∈ rest, ∀ o, ops[d.i]? = some o → acts P o = d.act := fun d hd => hact d (by simp [hd])
      unfold chkOk at hchk
      dsimp only
      split at h
      · rename_i hd
        rw [hd] at hchk hac
        simp only [Bool.and_eq_true] at hchk
        rcases wguard_spec ha h with ⟨h3, h4⟩ | ⟨h3, h4⟩
        · rw [h3, h1, ha.eval]
          simp only [hac, if_true]
          refine cstep_mono (fun v s' hv => ?_) (wop_sound h4)
          refine wstill_of (fun hv => ih fl hact' hchk.2 _ _ _ (ha.put h2 v) hv) fl ?_ hv
          have := hchk.1
          rw [List.all_map] at this
          exact this
        · rw [h3]
          simp only [hac, if_true]
          exact ih fl hact' hchk.2 _ _ _ (ha.put h2 undef) h4
      · rename_i hd
        rw [hd] at hchk hac
        dsimp only at hchk
        rcases wguard_spec ha h with ⟨h3, h4⟩ | ⟨h3, h4⟩
        · rw [h3, h1, ha.eval]
          simp only [hac, Bool.false_eq_true, if_false]
          exact fstep_mono (fun v s' r hv => ih (⟨d.i, o.op, env, r⟩ :: fl) hact' hchk _ _ _ (ha.put h2 v) hv) (wfop_sound h4)
        · rw [h3]
          simp only [hac, Bool.false_eq_true, if_false]
          rw [ha.eval]
          exact ih (⟨d.i, o.op, env, none⟩ :: fl) hact' hchk _ _ _ (ha.put h2 undef) h4

theorem cwp_wlift {c : Code} {Q Q' : Exit → Act → St M → Prop} (hq : ∀ e a s, Q e a s → Q' e a s) (h : CWp P w0 c Q a s) : CWp P w0 c Q' a s := cwp_mono hq h

theorem wvc_sound (hm : P.follows .mixedOrders = true) : ∀ (c : Code) (Q : Exit → Env → St M → Prop) (env : Env) (s : St M) (a : Act), codeOk P ord n c = true → AEnv n env a → wvc P w0 ord n c Q env s → CWp P w0 c (wlift n Q) a s := by
  intro c
  induction c with
  | skip => intro Q env s a _ ha h; exact cwp_skip ⟨env, ha, h⟩
  | region id ops draw =>
    intro Q env s a hc ha h
    cases draw with
    | false =>
      simp only [codeOk, List.all_eq_true, Bool.and_eq_true] at hc
      refine cwp_region ?_
      have := wreg_of (Q := Q .normal) (fun o ho => hc o ho) ops.toList 0 rfl env a s ha h
      rw [Array.length_toList, ← List.range_eq_range'] at this
      exact this
    | true =>
      simp only [codeOk, Bool.and_eq_true] at hc
      obtain ⟨⟨⟨h1, h2⟩, h3⟩, h4⟩ := hc
      refine cwp_regionD hm h2 ?_
      refine wregD_of (Q := Q .normal) (fun o ho => ?_) _ [] (fun d hd o hko => ?_) h4 env a s ha h
      · simp only [List.all_eq_true, Bool.and_eq_true] at h1; exact h1 o ho
      · have := List.all_eq_true.1 h3 d hd
        rw [hko] at this
        simpa using this
  | seq x y ihx ihy =>
    intro Q env s a hc ha h
    simp only [codeOk, Bool.and_eq_true] at hc
    refine cwp_seq (cwp_mono ?_ (ihx _ env s a hc.1 ha h))
    rintro e a2 s2 ⟨env2, ha2, hq⟩
    cases e with
    | normal => exact ihy Q env2 s2 a2 hc.2 ha2 hq
    | _ => exact ⟨env2, ha2, hq⟩
  | cond c x y ihx ihy =>
    intro Q env s a hc ha h
    simp only [codeOk, Bool.and_eq_true] at hc
    simp only [wvc, wcond] at h
    have key : ∀ b : Bool, wev env c = .bool b → (b = true → wvc P w0 ord n x Q env s) → (b = false → wvc P w0 ord n y Q env s) → CWp P w0 (.cond c x y) (wlift n Q) a s := by
      intro b hb h1 h2
      refine cwp_cond hc.1.1 (t := b) (by rw [ha.eval]; exact hb) ?_
      cases b with
      | true => exact ihx Q env s a hc.1.2 ha (h1 rfl)
      | false => exact ihy Q env s a hc.2 ha (h2 rfl)
    split at h
    · rename_i t
      split at h
      · rename_i b hb
        refine key b hb (fun e => ?_) (fun e => ?_)
        · subst e; have := h.1 rfl; rwa [upd_self hb] at this
        · subst e; have := h.2 rfl; rwa [upd_self hb] at this
      · exact h.elim
    · exact key _ rfl h.1 h.2
    · exact h.elim
  | block id c ih =>
    intro Q env s a hc ha h
    refine cwp_block (cwp_mono ?_ (ih _ env s a hc ha h))
    rintro e a2 s2 ⟨env2, ha2, hq⟩
    cases e with
    | exit j =>
      simp only [wblock] at hq
      simp only [cblock]
      split at hq
      · rename_i e; rw [if_pos e]; exact ⟨env2, ha2, hq⟩
      · rename_i e; rw [if_neg e]; exact ⟨env2, ha2, hq⟩
    | _ => exact ⟨env2, ha2, hq⟩
  | loop c ih => intro Q env s a hc ha h; exact cwp_loop (h hc a ha)
  | scope c ih => intro Q env s a hc ha h; exact cwp_scope (h hc hc a ha)
  | exit id => intro Q env s a _ ha h; exact cwp_exit ⟨env, ha, h⟩
  | label id => intro Q env s a _ ha h; exact cwp_label ⟨env, ha, h⟩
  | goto id => intro Q env s a _ ha h; exact cwp_goto ⟨env, ha, h⟩
  | ret => intro Q env s a _ ha h; exact cwp_ret ⟨env, ha, h⟩
  | rangeFunc => intro Q env s a hc; simp [codeOk] at hc
  | refuse => intro Q env s a hc ha h; exact h.elim

/-- A round of a loop. -/
theorem wloop_round (hm : P.follows .mixedOrders = true) {c : Code} {Q : Exit → Env → St M → Prop} (h : wvc P w0 ord n c (wthen (WLoop P w0 ord n c Q) Q) env s) : WLoop P w0 ord n c Q env s := by
  intro hc a ha
  refine cloop_round (cwp_mono ?_ (wvc_sound hm c _ env s a hc ha h))
  rintro e a2 s2 ⟨env2, ha2, hq⟩
  cases e with
  | normal => exact hq hc a2 ha2
  | _ => exact ⟨env2, ha2, hq⟩

/-- A loop with what stays so, and what falls. -/
theorem wloop_inv (hm : P.follows .mixedOrders = true) {c : Code} {Q : Exit → Env → St M → Prop} (I : Nat → Env → St M → Prop) (k : Nat) (h0 : I k env s)
    (h : ∀ k env s, I k env s → wvc P w0 ord n c (wthen (fun env s => ∃ m, m < k ∧ I m env s) Q) env s) : WLoop P w0 ord n c Q env s := by
  induction k using Nat.strongRecOn generalizing env s with
  | ind k ih =>
    intro hc a ha
    refine cloop_round (cwp_mono ?_ (wvc_sound hm c _ env s a hc ha (h k env s h0)))
    rintro e a2 s2 ⟨env2, ha2, hq⟩
    cases e with
    | normal =>
      obtain ⟨m, hm, hq⟩ := hq
      exact ih m hm hq hc a2 ha2
    | _ => exact ⟨env2, ha2, hq⟩

def wjump (c : Code) (Q : Exit → Env → St M → Prop) (J : Code → Env → St M → Prop) : Exit → Env → St M → Prop
  | .goto l, env, s => match findLabel c l with
    | some rest => codeOk P ord n rest = true ∧ J rest env s
    | none => Q (.goto l) env s
  | e, env, s => Q e env s

theorem wscope_piece (hm : P.follows .mixedOrders = true) {c x : Code} {Q : Exit → Env → St M → Prop} (h : wvc P w0 ord n x (wjump (P := P) (ord := ord) (n := n) c Q (fun rest => WScope P w0 ord n c rest Q)) env s) : WScope P w0 ord n c x Q env s := by
  intro hc hx a ha
  refine cscope_piece (cwp_mono ?_ (wvc_sound hm x _ env s a hx ha h))
  rintro e a2 s2 ⟨env2, ha2, hq⟩
  cases e with
  | goto l =>
    simp only [wjump] at hq
    simp only [cscope]
    split at hq
    · rename_i rest hr; rw [hr]; exact hq.2 hc hq.1 a2 ha2
    · rename_i hr; rw [hr]; exact ⟨env2, ha2, hq⟩
  | _ => exact ⟨env2, ha2, hq⟩

theorem wresults_of (ha : AEnv n env a) : ∀ (l : List ResultVar) (vs : List Value), wresults P env s l = some vs → l.mapM (cresult P a.tmps s) = some vs := by
  intro l
  induction l with
  | nil => intro vs h; simpa [wresults] using h
  | cons r l ih =>
    intro vs h
    unfold wresults at h
    have hr : cresult P a.tmps s r = wresult P env s r := by
      cases r with
      | tmp t => simp only [cresult, wresult]; rw [ha.t]
      | cell x t => simp only [cresult, wresult]; rw [ha.t]; rfl
    split at h
    · rename_i v vs1 h1 h2
      cases h
      simp only [List.mapM_cons, hr, h1, ih vs1 h2, Option.bind_eq_bind, Option.bind_some]
      rfl
    · cases h

/-- A function, by its body. -/
theorem wcalls (hm : P.follows .mixedOrders = true) {f : FuncId} {fn : Func} {c : Code} {l : List Value} {R : Value → St M → Prop} (ord : Ord) (hf : P.funcs[f]? = some fn) (hb : fn.body = some c) (hl : l.length ≤ fn.ntmps) (hc : codeOk P ord fn.ntmps c = true)
    (h : wvc P w0 ord fn.ntmps c (wbody P fn.results.toList R) (init l) s) : CCalls P w0 f l.toArray s R := by
  refine ccalls_enter hf hb (cwp_mono ?_ (wvc_sound hm c _ (init l) s _ hc ⟨?_, rfl, fun t => ?_⟩ h))
  · rintro e a2 s2 ⟨env2, ha2, hq⟩
    have key : wret P fn.results.toList R env2 s2 → match cresults P fn a2.tmps s2 with | some v => R v s2 | none => False := by
      intro hw
      unfold wret at hw
      unfold cresults
      split at hw
      · rename_i v hv; rw [wresults_of ha2 _ _ hv]; exact hw
      · rename_i vs h1 hv
        rw [wresults_of ha2 _ _ hv]
        match vs, h1, hw with
        | [], _, hw => exact hw
        | [v], h1, _ => exact (h1 v rfl).elim
        | _ :: _ :: _, _, hw => exact hw
      · exact hw.elim
    cases e with
    | normal => exact key hq
    | ret => exact key hq
    | _ => exact hq.elim
  · simp; omega
  · simp only [init]
    rw [Array.getD_eq_getD_getElem?, Array.getElem?_append, List.getD_eq_getElem?_getD]
    split
    · simp
    · rename_i hge
      have hge : l.length ≤ t := by simpa using hge
      rw [List.getElem?_eq_none hge, Array.getElem?_replicate]
      split <;> rfl
end
end Go.Cs

/- How simp goes through a piece of code: step by step, never ahead into what follows. -/
namespace Go.Cs

/-- A function that may be walked: its body is as it must be, and it may be called. -/
def funcOk (P : Program) (f : FuncId) (ord : Ord) : Bool := match P.funcs[f]? with
  | some fn => (match fn.body with | some c => codeOk P ord fn.ntmps c | none => false) && fn.name != "runtime.NumGoroutine"
  | none => false

def callOk (P : Program) (f : FuncId) : Bool := match P.funcs[f]? with
  | some fn => fn.body.isSome && fn.name != "runtime.NumGoroutine"
  | none => false

section
variable {M : Type} [Mem M] {P : Program} {w0 : World} {ord : Ord} {n : Nat}

theorem callOk_of {f : FuncId} {ord : Ord} (h : funcOk P f ord = true) : callOk P f = true := by
  unfold funcOk at h
  unfold callOk
  split at h
  · simp only [Bool.and_eq_true] at h
    split at h
    · rename_i c hc; rw [hc]; simpa using h.2
    · simp at h
  · cases h

theorem wfun (hm : P.follows .mixedOrders = true) {f : FuncId} {ord : Ord} (hok : funcOk P f ord = true) {fn : Func} {c : Code} {l : List Value} {s : St M} {R : Value → St M → Prop} (hf : P.funcs[f]? = some fn) (hb : fn.body = some c) (hl : l.length ≤ fn.ntmps)
    (h : wvc P w0 ord fn.ntmps c (wbody P fn.results.toList R) (init l) s) : CCalls P w0 f l.toArray s R := by
  unfold funcOk at hok
  rw [hf] at hok
  simp only [hb, Bool.and_eq_true] at hok
  exact wcalls hm ord hf hb hl hok.1 h

theorem wfun2 (hm : P.follows .mixedOrders = true) {f : FuncId} {ord : Ord} (hok : funcOk P f ord = true) {fn : Func} {c : Code} {l : List Value} {s : St M} {R : Value → St M → Prop} {k : Nat} {rs : List ResultVar} (hf : P.funcs[f]? = some fn) (hb : fn.body = some c) (hk : fn.ntmps = k) (hr : fn.results = rs.toArray) (hl : l.length ≤ k)
    (h : wvc P w0 ord k c (wbody P rs R) (init l) s) : CCalls P w0 f l.toArray s R := by
  subst hk
  refine wfun hm hok hf hb hl ?_
  rw [hr]
  exact h

/-! How simp looks at each: only at what is named. -/
theorem wvc_congr {c : Code} {Q : Exit → Env → St M → Prop} {env env' : Env} {s s' : St M} (h1 : env = env') (h2 : s = s') {jp : Prop} (hj : (True ∧ True) = jp) : wvc P w0 ord n c Q env s = wvc P w0 ord n c Q env' s' := by rw [h1, h2]
theorem wreg_congr {ops : Array Oper} {Q : Env → St M → Prop} {l : List Oper} {env env' : Env} {s s' : St M} (h1 : env = env') (h2 : s = s') {jp : Prop} (hj : (True ∧ True) = jp) : wreg P w0 ops Q l env s = wreg P w0 ops Q l env' s' := by rw [h1, h2]
theorem wregD_congr {ops : Array Oper} {Q : Env → St M → Prop} {l : List DI} {fl : List WF} {env env' : Env} {s s' : St M} (h1 : env = env') (h2 : s = s') {jp : Prop} (hj : (True ∧ True) = jp) : wregD P w0 ops Q l fl env s = wregD P w0 ops Q l fl env' s' := by rw [h1, h2]
theorem wguard_congr {ops : Array Oper} {o : Oper} {env : Env} {yes no : Env → Prop} {jp : Prop} (hj : (True ∧ True) = jp) : wguard ops o env yes no = wguard ops o env yes no := rfl
theorem wcond_congr {c : Operand} {env : Env} {p q : Env → Prop} {jp : Prop} (hj : (True ∧ True) = jp) : wcond c env p q = wcond c env p q := rfl
theorem wop_congr {o : Oper} {ev : Operand → Value} {s : St M} {K : Value → St M → Prop} {jp : Prop} (hj : (True ∧ True) = jp) : wop P w0 o ev s K = wop P w0 o ev s K := rfl
theorem wfop_congr {o : Oper} {ev : Operand → Value} {s : St M} {K : Value → St M → Option Value → Prop} {jp : Prop} (hj : (True ∧ True) = jp) : wfop P o ev s K = wfop P o ev s K := rfl
theorem wstill_congr {chk : List Nat} {s : St M} {fl : List WF} {K : Prop} {jp : Prop} (hj : (True ∧ True) = jp) : wstill P chk s fl K = wstill P chk s fl K := rfl
theorem wbin_congr {op : BinOp} {t : TypeId} {ox oy : Operand} {x y x' y' : Value} {K : Value → Prop} (hx : x = x') (hy : y = y') {jp : Prop} (hj : (True ∧ True) = jp) : wbin P op t ox oy x y K = wbin P op t ox oy x' y' K := by rw [hx, hy]
theorem must_congr {o o' : Option Value} {K : Value → Prop} (h : o = o') {jp : Prop} (hj : (True ∧ True) = jp) : must o K = must o' K := by rw [h]
theorem shape_congr {t : TypeId} {v v' : Value} {K : Value → Prop} (h : v = v') {jp : Prop} (hj : (True ∧ True) = jp) : shape P t v K = shape P t v' K := by rw [h]
theorem CCalls_congr {f : FuncId} {args args' : Array Value} {s s' : St M} {R : Value → St M → Prop} (h : args = args') (h2 : s = s') {jp : Prop} (hj : (True ∧ True) = jp) : CCalls P w0 f args s R = CCalls P w0 f args' s' R := by rw [h, h2]
theorem upd_congr {env env' : Env} {d : Nat} {v v' : Value} (h0 : env = env') (h : v = v') {jp : Prop} (hj : (True ∧ True) = jp) : upd env d v = upd env' d v' := by rw [h0, h]
theorem wret_congr {rs : List ResultVar} {R : Value → St M → Prop} {env : Env} {s : St M} {jp : Prop} (hj : (True ∧ True) = jp) : wret P rs R env s = wret P rs R env s := rfl
theorem WLoop_congr {c : Code} {Q : Exit → Env → St M → Prop} {env env' : Env} {s s' : St M} (h1 : env = env') (h2 : s = s') {jp : Prop} (hj : (True ∧ True) = jp) : WLoop P w0 ord n c Q env s = WLoop P w0 ord n c Q env' s' := by rw [h1, h2]
theorem WScope_congr {c x : Code} {Q : Exit → Env → St M → Prop} {env env' : Env} {s s' : St M} (h1 : env = env') (h2 : s = s') {jp : Prop} (hj : (True ∧ True) = jp) : WScope P w0 ord n c x Q env s = WScope P w0 ord n c x Q env' s' := by rw [h1, h2]

/-- A value goes on when it has been looked at. -/
def wval (v : Value) (K : Value → Prop) : Prop := K v
theorem wval_congr {v v' : Value} {K : Value → Prop} (h : v = v') {jp : Prop} (hj : (True ∧ True) = jp) : wval v K = wval v' K := by rw [h]
theorem val {v : Value} {K : Value → Prop} : wval v K = K v := rfl
attribute [congr] wval_congr wvc_congr wreg_congr wregD_congr wguard_congr wcond_congr wop_congr wfop_congr wstill_congr wbin_congr must_congr shape_congr CCalls_congr upd_congr wret_congr WLoop_congr WScope_congr

/-! Each step by itself. -/
section
variable {d : Option Tmp} {ty : TypeId} {pos : String} {af : Array Edge} {g : Option (Nat × Bool)} {ev : Operand → Value} {s : St M} {K : Value → St M → Prop} {F : Value → St M → Option Value → Prop} {x y : Operand} {t t2 : TypeId}

theorem g_none {ops : Array Oper} {o : Op} {env : Env} {yes no : Env → Prop} : wguard ops ⟨d, o, ty, pos, af, none⟩ env yes no = yes env := rfl

def wguard2 (j : Option Tmp) (want : Bool) (env : Env) (yes no : Env → Prop) : Prop := match j with
    | none => no env
    | some d => match env d with
      | .bool b => (b = want → yes (upd env d (.bool want))) ∧ (b = !want → no (upd env d (.bool !want)))
      | .tuple cs => cs.size ≠ 1 ∧ no env
      | _ => no env

def wguard3 (d : Nat) (v : Value) (want : Bool) (env : Env) (yes no : Env → Prop) : Prop := match v with
      | .bool b => (b = want → yes (upd env d (.bool want))) ∧ (b = !want → no (upd env d (.bool !want)))
      | .tuple cs => cs.size ≠ 1 ∧ no env
      | _ => no env

theorem wguard2_congr {j j' : Option Tmp} {want : Bool} {env : Env} {yes no : Env → Prop} (h : j = j') {jp : Prop} (hj : (True ∧ True) = jp) : wguard2 j want env yes no = wguard2 j' want env yes no := by rw [h]
theorem wguard3_congr {e : Nat} {v v' : Value} {want : Bool} {env : Env} {yes no : Env → Prop} (h : v = v') {jp : Prop} (hj : (True ∧ True) = jp) : wguard3 e v want env yes no = wguard3 e v' want env yes no := by rw [h]
attribute [congr] wguard2_congr wguard3_congr

theorem g_some {ops : Array Oper} {o : Op} {j : Nat} {want : Bool} {env : Env} {yes no : Env → Prop} : wguard ops ⟨d, o, ty, pos, af, some (j, want)⟩ env yes no = wguard2 ((ops[j]?).bind (·.dst)) want env yes no := rfl
theorem g2_some {e : Nat} {want : Bool} {env : Env} {yes no : Env → Prop} : wguard2 (some e) want env yes no = wguard3 e (env e) want env yes no := rfl
theorem g2_none {want : Bool} {env : Env} {yes no : Env → Prop} : wguard2 none want env yes no = no env := rfl
theorem g3_tt {e : Nat} {env : Env} {yes no : Env → Prop} : wguard3 e (.bool true) true env yes no = yes (upd env e (.bool true)) := by simp [wguard3]
theorem g3_ff {e : Nat} {env : Env} {yes no : Env → Prop} : wguard3 e (.bool false) false env yes no = yes (upd env e (.bool false)) := by simp [wguard3]
theorem g3_tf {e : Nat} {env : Env} {yes no : Env → Prop} : wguard3 e (.bool true) false env yes no = no (upd env e (.bool true)) := by simp [wguard3]
theorem g3_ft {e : Nat} {env : Env} {yes no : Env → Prop} : wguard3 e (.bool false) true env yes no = no (upd env e (.bool false)) := by simp [wguard3]
theorem g3_undef {e : Nat} {want : Bool} {env : Env} {yes no : Env → Prop} : wguard3 e undef want env yes no = no env := by simp [wguard3, undef]
theorem g3_t {e : Nat} {b : Bool} {env : Env} {yes no : Env → Prop} : wguard3 e (.bool b) true env yes no = ((b = true → yes (upd env e (.bool true))) ∧ (b = false → no (upd env e (.bool false)))) := by simp [wguard3]
theorem g3_f {e : Nat} {b : Bool} {env : Env} {yes no : Env → Prop} : wguard3 e (.bool b) false env yes no = ((b = false → yes (upd env e (.bool false))) ∧ (b = true → no (upd env e (.bool true)))) := by simp [wguard3]

def wcond2 (d : Nat) (v : Value) (env : Env) (p q : Env → Prop) : Prop := match v with
    | .bool b => (b = true → p (upd env d (.bool true))) ∧ (b = false → q (upd env d (.bool false)))
    | _ => False
theorem wcond2_congr {e : Nat} {v v' : Value} {env : Env} {yes no : Env → Prop} (h : v = v') {jp : Prop} (hj : (True ∧ True) = jp) : wcond2 e v env yes no = wcond2 e v' env yes no := by rw [h]
attribute [congr] wcond2_congr
theorem c_tmp {e : Nat} {env : Env} {p q : Env → Prop} : wcond (.tmp e) env p q = wcond2 e (env e) env p q := rfl
theorem c_true {env : Env} {p q : Env → Prop} : wcond (.const (.bool true)) env p q = p env := by simp [wcond]
theorem c_false {env : Env} {p q : Env → Prop} : wcond (.const (.bool false)) env p q = q env := by simp [wcond]
theorem c2_true {e : Nat} {env : Env} {p q : Env → Prop} : wcond2 e (.bool true) env p q = p (upd env e (.bool true)) := by simp [wcond2]
theorem c2_false {e : Nat} {env : Env} {p q : Env → Prop} : wcond2 e (.bool false) env p q = q (upd env e (.bool false)) := by simp [wcond2]
theorem c2_bool {e : Nat} {b : Bool} {env : Env} {p q : Env → Prop} : wcond2 e (.bool b) env p q = ((b = true → p (upd env e (.bool true))) ∧ (b = false → q (upd env e (.bool false)))) := rfl

theorem o_move : wop P w0 ⟨d, .move x, ty, pos, af, g⟩ ev s K = wval (ev x) fun v => K v s := rfl
theorem o_assign : wop P w0 ⟨d, .assign x, ty, pos, af, g⟩ ev s K = wval (ev x) fun v => K v s := rfl
theorem f_move : wfop P ⟨d, .move x, ty, pos, af, g⟩ ev s F = wval (ev x) fun v => F v s none := rfl
theorem f_assign : wfop P ⟨d, .assign x, ty, pos, af, g⟩ ev s F = wval (ev x) fun v => F v s none := rfl

def wpick (c a b : Value) (K : Value → Prop) : Prop := match c with
  | .bool t => both t (K a) (K b)
  | _ => False
theorem wpick_congr {c c' a b : Value} {K : Value → Prop} (h : c = c') {jp : Prop} (hj : (True ∧ True) = jp) : wpick c a b K = wpick c' a b K := by rw [h]
attribute [congr] wpick_congr
theorem o_pick {c a b : Operand} : wop P w0 ⟨d, .pick c a b, ty, pos, af, g⟩ ev s K = wpick (ev c) (ev a) (ev b) fun v => K v s := rfl
theorem f_pick {c a b : Operand} : wfop P ⟨d, .pick c a b, ty, pos, af, g⟩ ev s F = wpick (ev c) (ev a) (ev b) fun v => F v s none := rfl
theorem p_true {a b : Value} {K : Value → Prop} : wpick (.bool true) a b K = wval a K := by simp [wpick, both, wval]
theorem p_false {a b : Value} {K : Value → Prop} : wpick (.bool false) a b K = wval b K := by simp [wpick, both, wval]
theorem p_bool {t : Bool} {a b : Value} {K : Value → Prop} : wpick (.bool t) a b K = ((t = true → K a) ∧ (t = false → K b)) := rfl

theorem o_add : wop P w0 ⟨d, .binOp .add t x y t2, ty, pos, af, g⟩ ev s K = wbin P .add t x y (ev x) (ev y) fun v => K v s := rfl
theorem o_sub : wop P w0 ⟨d, .binOp .sub t x y t2, ty, pos, af, g⟩ ev s K = wbin P .sub t x y (ev x) (ev y) fun v => K v s := rfl
theorem o_mul : wop P w0 ⟨d, .binOp .mul t x y t2, ty, pos, af, g⟩ ev s K = wbin P .mul t x y (ev x) (ev y) fun v => K v s := rfl
theorem o_quo : wop P w0 ⟨d, .binOp .quo t x y t2, ty, pos, af, g⟩ ev s K = wbin P .quo t x y (ev x) (ev y) fun v => K v s := rfl
theorem o_rem : wop P w0 ⟨d, .binOp .rem t x y t2, ty, pos, af, g⟩ ev s K = wbin P .rem t x y (ev x) (ev y) fun v => K v s := rfl
theorem o_shl : wop P w0 ⟨d, .binOp .shl t x y t2, ty, pos, af, g⟩ ev s K = wbin P .shl t x y (ev x) (ev y) fun v => K v s := rfl
theorem o_shr : wop P w0 ⟨d, .binOp .shr t x y t2, ty, pos, af, g⟩ ev s K = wbin P .shr t x y (ev x) (ev y) fun v => K v s := rfl
theorem o_lss : wop P w0 ⟨d, .binOp .lss t x y t2, ty, pos, af, g⟩ ev s K = wbin P .lss t x y (ev x) (ev y) fun v => K v s := rfl
theorem o_leq : wop P w0 ⟨d, .binOp .leq t x y t2, ty, pos, af, g⟩ ev s K = wbin P .leq t x y (ev x) (ev y) fun v => K v s := rfl
theorem o_gtr : wop P w0 ⟨d, .binOp .gtr t x y t2, ty, pos, af, g⟩ ev s K = wbin P .gtr t x y (ev x) (ev y) fun v => K v s := rfl
theorem o_geq : wop P w0 ⟨d, .binOp .geq t x y t2, ty, pos, af, g⟩ ev s K = wbin P .geq t x y (ev x) (ev y) fun v => K v s := rfl
theorem f_add : wfop P ⟨d, .binOp .add t x y t2, ty, pos, af, g⟩ ev s F = wbin P .add t x y (ev x) (ev y) fun v => F v s none := rfl
theorem f_sub : wfop P ⟨d, .binOp .sub t x y t2, ty, pos, af, g⟩ ev s F = wbin P .sub t x y (ev x) (ev y) fun v => F v s none := rfl
theorem f_mul : wfop P ⟨d, .binOp .mul t x y t2, ty, pos, af, g⟩ ev s F = wbin P .mul t x y (ev x) (ev y) fun v => F v s none := rfl
theorem f_quo : wfop P ⟨d, .binOp .quo t x y t2, ty, pos, af, g⟩ ev s F = wbin P .quo t x y (ev x) (ev y) fun v => F v s none := rfl
theorem f_rem : wfop P ⟨d, .binOp .rem t x y t2, ty, pos, af, g⟩ ev s F = wbin P .rem t x y (ev x) (ev y) fun v => F v s none := rfl
theorem f_lss : wfop P ⟨d, .binOp .lss t x y t2, ty, pos, af, g⟩ ev s F = wbin P .lss t x y (ev x) (ev y) fun v => F v s none := rfl
theorem f_leq : wfop P ⟨d, .binOp .leq t x y t2, ty, pos, af, g⟩ ev s F = wbin P .leq t x y (ev x) (ev y) fun v => F v s none := rfl
theorem f_gtr : wfop P ⟨d, .binOp .gtr t x y t2, ty, pos, af, g⟩ ev s F = wbin P .gtr t x y (ev x) (ev y) fun v => F v s none := rfl
theorem f_geq : wfop P ⟨d, .binOp .geq t x y t2, ty, pos, af, g⟩ ev s F = wbin P .geq t x y (ev x) (ev y) fun v => F v s none := rfl

/-- Alike or not: pointers are read, all else is reckoned. -/
def weq (P : Program) (op : BinOp) (t ty : TypeId) (ox oy : Operand) (x y : Value) (pu : (Value → Prop)) (rd : Prop) : Prop := match x, y with
  | .pointer (some _), .pointer (some _) => rd
  | x, y => wbin P op t ox oy x y pu
theorem weq_congr {op : BinOp} {t ty : TypeId} {ox oy : Operand} {x y x' y' : Value} {pu : (Value → Prop)} {rd : Prop} (hx : x = x') (hy : y = y') {jp : Prop} (hj : (True ∧ True) = jp) : weq P op t ty ox oy x y pu rd = weq P op t ty ox oy x' y' pu rd := by rw [hx, hy]
attribute [congr] weq_congr
theorem o_eql : wop P w0 ⟨d, .binOp .eql t x y t2, ty, pos, af, g⟩ ev s K = weq P .eql t ty x y (ev x) (ev y) (fun v => K v s) (must (cread P ev s (.binOp .eql t x y t2)) fun v => shape P ty v fun v => K v s) := by
  unfold wop weq
  simp only [kindOf, wpu]
  generalize ev x = u
  generalize ev y = v
  cases u <;> try rfl
  rename_i p
  cases p <;> try rfl
  cases v <;> try rfl
  rename_i q
  cases q <;> rfl
theorem o_neq : wop P w0 ⟨d, .binOp .neq t x y t2, ty, pos, af, g⟩ ev s K = weq P .neq t ty x y (ev x) (ev y) (fun v => K v s) (must (cread P ev s (.binOp .neq t x y t2)) fun v => shape P ty v fun v => K v s) := by
  unfold wop weq
  simp only [kindOf, wpu]
  generalize ev x = u
  generalize ev y = v
  cases u <;> try rfl
  rename_i p
  cases p <;> try rfl
  cases v <;> try rfl
  rename_i q
  cases q <;> rfl
theorem f_eql : wfop P ⟨d, .binOp .eql t x y t2, ty, pos, af, g⟩ ev s F = weq P .eql t ty x y (ev x) (ev y) (fun v => F v s none) (must (cread P ev s (.binOp .eql t x y t2)) fun v => shape P ty v fun v => F v s (some v)) := by
  unfold wfop weq
  simp only [kindOf, wpu]
  generalize ev x = u
  generalize ev y = v
  cases u <;> try rfl
  rename_i p
  cases p <;> try rfl
  cases v <;> try rfl
  rename_i q
  cases q <;> rfl
theorem f_neq : wfop P ⟨d, .binOp .neq t x y t2, ty, pos, af, g⟩ ev s F = weq P .neq t ty x y (ev x) (ev y) (fun v => F v s none) (must (cread P ev s (.binOp .neq t x y t2)) fun v => shape P ty v fun v => F v s (some v)) := by
  unfold wfop weq
  simp only [kindOf, wpu]
  generalize ev x = u
  generalize ev y = v
  cases u <;> try rfl
  rename_i p
  cases p <;> try rfl
  cases v <;> try rfl
  rename_i q
  cases q <;> rfl
theorem eq_pp {op : BinOp} {a b : Addr} {pu : Value → Prop} {rd : Prop} : weq P op t ty x y (.pointer (some a)) (.pointer (some b)) pu rd = rd := rfl
theorem eq_p0 {op : BinOp} {a : Option Addr} {pu : Value → Prop} {rd : Prop} : weq P op t ty x y (.pointer a) (.pointer none) pu rd = wbin P op t x y (.pointer a) (.pointer none) pu := by cases a <;> rfl
theorem eq_int {op : BinOp} {k k2 : IntKind} {a b : Int} {pu : Value → Prop} {rd : Prop} : weq P op t ty x y (.int k a) (.int k2 b) pu rd = wbin P op t x y (.int k a) (.int k2 b) pu := rfl
theorem eq_bool {op : BinOp} {a b : Bool} {pu : Value → Prop} {rd : Prop} : weq P op t ty x y (.bool a) (.bool b) pu rd = wbin P op t x y (.bool a) (.bool b) pu := rfl
theorem eq_string {op : BinOp} {a b : ByteArray} {pu : Value → Prop} {rd : Prop} : weq P op t ty x y (.string a) (.string b) pu rd = wbin P op t x y (.string a) (.string b) pu := rfl
theorem eq_agg {op : BinOp} {a b : Array Value} {pu : Value → Prop} {rd : Prop} : weq P op t ty x y (.agg a) (.agg b) pu rd = wbin P op t x y (.agg a) (.agg b) pu := rfl
theorem eq_slice {op : BinOp} {a : Option Addr} {m c : Nat} {v : Value} {pu : Value → Prop} {rd : Prop} : weq P op t ty x y (.slice a m c) v pu rd = wbin P op t x y (.slice a m c) v pu := rfl
theorem eq_map {op : BinOp} {a : Option Nat} {v : Value} {pu : Value → Prop} {rd : Prop} : weq P op t ty x y (.map a) v pu rd = wbin P op t x y (.map a) v pu := rfl

section
variable {k : IntKind} {a b : Int} {G : Value → Prop}
theorem b_add : wbin P .add t x y (.int k a) (.int k b) G = wval (.int k (k.wrap (a + b))) G := by simp [wbin, wval]
theorem b_sub : wbin P .sub t x y (.int k a) (.int k b) G = wval (.int k (k.wrap (a - b))) G := by simp [wbin, wval]
theorem b_mul : wbin P .mul t x y (.int k a) (.int k b) G = wval (.int k (k.wrap (a * b))) G := by simp [wbin, wval]
theorem b_quo : wbin P .quo t x y (.int k a) (.int k b) G = (b ≠ 0 ∧ wval (.int k (k.wrap (a.tdiv b))) G) := by simp [wbin, wval]
theorem b_rem : wbin P .rem t x y (.int k a) (.int k b) G = (b ≠ 0 ∧ wval (.int k (a.tmod b)) G) := by simp [wbin, wval]
theorem b_shl {k2 : IntKind} : wbin P .shl t x y (.int k a) (.int k2 b) G = (0 ≤ b ∧ wval (.int k (k.wrap (a * 2 ^ (min b.toNat k.bits)))) G) := rfl
theorem b_shr {k2 : IntKind} : wbin P .shr t x y (.int k a) (.int k2 b) G = (0 ≤ b ∧ wval (.int k (a.fdiv (2 ^ (min b.toNat k.bits)))) G) := rfl
theorem b_eql : wbin P .eql t x y (.int k a) (.int k b) G = wval (.bool (decide (a = b))) G := by simp [wbin, wval]
theorem b_neq : wbin P .neq t x y (.int k a) (.int k b) G = wval (.bool (!decide (a = b))) G := by simp [wbin, wval]
theorem b_lss : wbin P .lss t x y (.int k a) (.int k b) G = wval (.bool (decide (a < b))) G := by simp [wbin, wval]
theorem b_leq : wbin P .leq t x y (.int k a) (.int k b) G = wval (.bool (decide (a ≤ b))) G := by simp [wbin, wval]
theorem b_gtr : wbin P .gtr t x y (.int k a) (.int k b) G = wval (.bool (decide (b < a))) G := by simp [wbin, wval]
theorem b_geq : wbin P .geq t x y (.int k a) (.int k b) G = wval (.bool (decide (b ≤ a))) G := by simp [wbin, wval]
theorem b_sadd {a b : ByteArray} : wbin P .add t x y (.string a) (.string b) G = (a.size + b.size ≤ 9223372036854775807 ∧ wval (.string (a ++ b)) G) := rfl
theorem b_seql {a b : ByteArray} : wbin P .eql t x y (.string a) (.string b) G = wval (.bool (decide (a = b))) G := rfl
theorem b_sneq {a b : ByteArray} : wbin P .neq t x y (.string a) (.string b) G = wval (.bool (!decide (a = b))) G := rfl
end

end

theorem g3_split {e : Nat} {b want : Bool} {env : Env} {yes no : Env → Prop} (h1 : b = want → yes (upd env e (.bool want))) (h2 : b = !want → no (upd env e (.bool !want))) : wguard3 e (.bool b) want env yes no := ⟨h1, h2⟩
theorem c2_split {e : Nat} {b : Bool} {env : Env} {p q : Env → Prop} (h1 : b = true → p (upd env e (.bool true))) (h2 : b = false → q (upd env e (.bool false))) : wcond2 e (.bool b) env p q := ⟨h1, h2⟩
theorem p_split {b : Bool} {x y : Value} {K : Value → Prop} (h1 : b = true → K x) (h2 : b = false → K y) : wpick (.bool b) x y K := ⟨h1, h2⟩
theorem m_some {v : Value} {K : Value → Prop} : must (some v) K = K v := by simp [must]
theorem s_int {t : TypeId} {k : IntKind} {m : Int} {K : Value → Prop} (h : P.underlying t = some (.int k)) : shape P t (.int k m) K = K (.int k m) := by simp [shape, h]
theorem s_bool {t : TypeId} {b : Bool} {K : Value → Prop} (h : P.underlying t = some .bool) : shape P t (.bool b) K = K (.bool b) := by simp [shape, h]
theorem s_string {t : TypeId} {b : ByteArray} {K : Value → Prop} (h : P.underlying t = some .string) : shape P t (.string b) K = K (.string b) := by simp [shape, h]
theorem i_zero {v : Value} {l : List Value} : init (v :: l) 0 = v := rfl
theorem i_succ {v : Value} {l : List Value} {j : Nat} : init (v :: l) (j + 1) = init l j := rfl
theorem i_nil {j : Nat} : init [] j = undef := rfl

theorem callOk_spec {f : FuncId} (h : callOk P f = true) : ∃ fn, P.funcs[f]? = some fn ∧ (fn.body.isSome && fn.name != "runtime.NumGoroutine") = true := by
  unfold callOk at h
  split at h
  · rename_i fn hf; exact ⟨fn, hf, h⟩
  · cases h
theorem o_call {d : Option Tmp} {ty : TypeId} {pos : String} {af : Array Edge} {g : Option (Nat × Bool)} {ev : Operand → Value} {s : St M} {K : Value → St M → Prop} {c : Call} {f : FuncId} (hc : c.callee = .value (.func f)) (hev : ev (.func f) = .func (.func f) #[] #[]) (hok : callOk P f = true) :
    wop P w0 ⟨d, .call c, ty, pos, af, g⟩ ev s K = CCalls P w0 f (c.args.map ev) s fun v s' => shape P ty v fun v => K v s' := by
  obtain ⟨fn, h1, h2⟩ := callOk_spec hok
  unfold wop
  simp only [kindOf, hc, ccallee, hev, h1, h2, if_true, Array.empty_append, Array.append_empty]
end
end Go.Cs

/- Conversions, step by step. -/
namespace Go.Cs
section
variable {M : Type} [Mem M] {P : Program} {w0 : World} {ord : Ord} {n : Nat}
variable {d : Option Tmp} {ty : TypeId} {pos : String} {af : Array Edge} {g : Option (Nat × Bool)} {ev : Operand → Value} {s : St M} {K : Value → St M → Prop} {F : Value → St M → Option Value → Prop} {x y : Operand} {t t2 : TypeId}

section
variable {Q : Exit → Env → St M → Prop} {env : Env} {c c2 : Code} {id : Nat} {ops : Array Oper} {QQ : Env → St M → Prop}
theorem w_skip : wvc P w0 ord n .skip Q env s = Q .normal env s := rfl
theorem w_region {l : List Oper} : wvc P w0 ord n (.region id l.toArray false) Q env s = wreg P w0 l.toArray (Q .normal) l env s := rfl
def wregD0 (P : Program) (w0 : World) (ops : Array Oper) (QQ : Env → St M → Prop) (l : List DI) (env : Env) (s : St M) : Prop := wregD P w0 ops QQ l [] env s
theorem wregD0_congr {l l' : List DI} {jp : Prop} (h : l = l') (hj : (True ∧ True) = jp) : wregD0 P w0 ops QQ l env s = wregD0 P w0 ops QQ l' env s := by rw [h]
attribute [congr] wregD0_congr
theorem d_in {l : List DI} : wregD0 P w0 ops QQ l env s = wregD P w0 ops QQ l [] env s := rfl
theorem w_regionD : wvc P w0 ord n (.region id ops true) Q env s = wregD0 P w0 ops (Q .normal) (ordOf ord id) env s := rfl
theorem w_seq : wvc P w0 ord n (.seq c c2) Q env s = wvc P w0 ord n c (wthen (wvc P w0 ord n c2 Q) Q) env s := rfl
theorem w_cond {o : Operand} : wvc P w0 ord n (.cond o c c2) Q env s = wcond o env (fun env => wvc P w0 ord n c Q env s) (fun env => wvc P w0 ord n c2 Q env s) := rfl
theorem w_block : wvc P w0 ord n (.block id c) Q env s = wvc P w0 ord n c (wblock id Q) env s := rfl
theorem w_loop : wvc P w0 ord n (.loop c) Q env s = WLoop P w0 ord n c Q env s := rfl
theorem w_scope : wvc P w0 ord n (.scope c) Q env s = WScope P w0 ord n c c Q env s := rfl
theorem w_exit : wvc P w0 ord n (.exit id) Q env s = Q (.exit id) env s := rfl
theorem w_label : wvc P w0 ord n (.label id) Q env s = Q .normal env s := rfl
theorem w_goto : wvc P w0 ord n (.goto id) Q env s = Q (.goto id) env s := rfl
theorem w_ret : wvc P w0 ord n .ret Q env s = Q .ret env s := rfl
theorem w_nil : wreg P w0 ops QQ [] env s = QQ env s := rfl
theorem w_cons {o : Oper} {rest : List Oper} : wreg P w0 ops QQ (o :: rest) env s = wguard ops o env (fun env => wop P w0 o (wev env) s fun v s' => wreg P w0 ops QQ rest (wput env o.dst v) s') (fun env => wreg P w0 ops QQ rest (wput env o.dst undef) s) := rfl
theorem d_nil {fl : List WF} : wregD P w0 ops QQ [] fl env s = QQ env s := rfl
def wreg2 (P : Program) (w0 : World) (ops : Array Oper) (QQ : Env → St M → Prop) (d : DI) (rest : List DI) (fl : List WF) (env : Env) (s : St M) (o : Option Oper) : Prop := match o with
    | none => False
    | some o => match d.act with
      | true => wguard ops o env (fun env => wop P w0 o (wev env) s fun v s' => wstill P d.chk s' fl (wregD P w0 ops QQ rest fl (wput env o.dst v) s')) (fun env => wregD P w0 ops QQ rest fl (wput env o.dst undef) s)
      | false => wguard ops o env (fun env => wfop P o (wev env) s fun v s' r => wregD P w0 ops QQ rest (⟨d.i, o.op, env, r⟩ :: fl) (wput env o.dst v) s') (fun env => wregD P w0 ops QQ rest (⟨d.i, o.op, env, none⟩ :: fl) (wput env o.dst undef) s)
theorem wreg2_congr {d : DI} {rest : List DI} {fl : List WF} {o o' : Option Oper} {jp : Prop} (h : o = o') (hj : (True ∧ True) = jp) : wreg2 P w0 ops QQ d rest fl env s o = wreg2 P w0 ops QQ d rest fl env s o' := by rw [h]
attribute [congr] wreg2_congr
theorem d_cons {d : DI} {rest : List DI} {fl : List WF} : wregD P w0 ops QQ (d :: rest) fl env s = wreg2 P w0 ops QQ d rest fl env s (ops[d.i]?) := rfl
theorem d2_act {i : Nat} {chk : List Nat} {rest : List DI} {fl : List WF} {o : Oper} : wreg2 P w0 ops QQ ⟨i, true, chk⟩ rest fl env s (some o) = wguard ops o env (fun env => wop P w0 o (wev env) s fun v s' => wstill P chk s' fl (wregD P w0 ops QQ rest fl (wput env o.dst v) s')) (fun env => wregD P w0 ops QQ rest fl (wput env o.dst undef) s) := rfl
theorem d2_pass {i : Nat} {chk : List Nat} {rest : List DI} {fl : List WF} {o : Oper} : wreg2 P w0 ops QQ ⟨i, false, chk⟩ rest fl env s (some o) = wguard ops o env (fun env => wfop P o (wev env) s fun v s' r => wregD P w0 ops QQ rest (⟨i, o.op, env, r⟩ :: fl) (wput env o.dst v) s') (fun env => wregD P w0 ops QQ rest (⟨i, o.op, env, none⟩ :: fl) (wput env o.dst undef) s) := rfl
theorem st_nil {chk : List Nat} {K : Prop} : wstill P chk s [] K = K := rfl
theorem st_none {chk : List Nat} {fl : List WF} {K : Prop} {i : Nat} {op : Op} {e : Env} : wstill P chk s (⟨i, op, e, none⟩ :: fl) K = wstill P chk s fl K := rfl
def wst2 (P : Program) (chk : List Nat) (s : St M) (fl : List WF) (op : Op) (e : Env) (v : Value) (K : Prop) (b : Bool) : Prop := match b with
      | true => cread P (wev e) s op = some v ∧ wstill P chk s fl K
      | false => wstill P chk s fl K
theorem wst2_congr {chk : List Nat} {fl : List WF} {op : Op} {e : Env} {v : Value} {K : Prop} {b b' : Bool} {jp : Prop} (h : b = b') (hj : (True ∧ True) = jp) : wst2 P chk s fl op e v K b = wst2 P chk s fl op e v K b' := by rw [h]
attribute [congr] wst2_congr
theorem st_some {chk : List Nat} {fl : List WF} {K : Prop} {i : Nat} {op : Op} {e : Env} {v : Value} : wstill P chk s (⟨i, op, e, some v⟩ :: fl) K = wst2 P chk s fl op e v K (chk.contains i) := by
  unfold wstill
  dsimp only
  cases chk.contains i <;> rfl
theorem st2_true {chk : List Nat} {fl : List WF} {op : Op} {e : Env} {v : Value} {K : Prop} : wst2 P chk s fl op e v K true = (cread P (wev e) s op = some v ∧ wstill P chk s fl K) := rfl
theorem st2_false {chk : List Nat} {fl : List WF} {op : Op} {e : Env} {v : Value} {K : Prop} : wst2 P chk s fl op e v K false = wstill P chk s fl K := rfl
theorem t_normal {K : Env → St M → Prop} : wthen K Q .normal env s = K env s := rfl
theorem t_ret {K : Env → St M → Prop} : wthen K Q .ret env s = Q .ret env s := rfl
theorem t_exit {K : Env → St M → Prop} : wthen K Q (.exit id) env s = Q (.exit id) env s := rfl
theorem t_goto {K : Env → St M → Prop} : wthen K Q (.goto id) env s = Q (.goto id) env s := rfl
theorem bl_normal : wblock id Q .normal env s = Q .normal env s := rfl
theorem bl_ret : wblock id Q .ret env s = Q .ret env s := rfl
theorem bl_goto {j : Nat} : wblock id Q (.goto j) env s = Q (.goto j) env s := rfl
def wbl2 (Q : Exit → Env → St M → Prop) (j : Nat) (env : Env) (s : St M) (b : Bool) : Prop := match b with
  | true => Q .normal env s
  | false => Q (.exit j) env s
theorem wbl2_congr {j : Nat} {b b' : Bool} {jp : Prop} (h : b = b') (hj : (True ∧ True) = jp) : wbl2 Q j env s b = wbl2 Q j env s b' := by rw [h]
attribute [congr] wbl2_congr
theorem bl_exit {j : Nat} : wblock id Q (.exit j) env s = wbl2 Q j env s (decide (j = id)) := by
  unfold wbl2
  simp only [wblock]
  by_cases h : j = id
  · simp [h]
  · simp [h]
theorem bl2_true {j : Nat} : wbl2 Q j env s true = Q .normal env s := rfl
theorem bl2_false {j : Nat} : wbl2 Q j env s false = Q (.exit j) env s := rfl
theorem bo_normal {rs : List ResultVar} {R : Value → St M → Prop} : wbody P rs R .normal env s = wret P rs R env s := rfl
theorem bo_ret {rs : List ResultVar} {R : Value → St M → Prop} : wbody P rs R .ret env s = wret P rs R env s := rfl
def wret2 (R : Value → St M → Prop) (s : St M) (o : Option (List Value)) : Prop := match o with
  | some [v] => R v s
  | some vs => R (.tuple vs.toArray) s
  | none => False
theorem wret2_congr {R : Value → St M → Prop} {o o' : Option (List Value)} {jp : Prop} (h : o = o') (hj : (True ∧ True) = jp) : wret2 R s o = wret2 R s o' := by rw [h]
attribute [congr] wret2_congr
theorem r_ret {rs : List ResultVar} {R : Value → St M → Prop} : wret P rs R env s = wret2 R s (wresults P env s rs) := rfl
theorem r_one {R : Value → St M → Prop} {v : Value} : wret2 R s (some [v]) = R v s := rfl
theorem r_none {R : Value → St M → Prop} : wret2 R s (some []) = R (.tuple #[]) s := rfl
theorem r_more {R : Value → St M → Prop} {v v2 : Value} {l : List Value} : wret2 R s (some (v :: v2 :: l)) = R (.tuple (v :: v2 :: l).toArray) s := rfl
theorem rs_nil : wresults P env s [] = some [] := rfl
def wrs2 (v : Option Value) (l : Option (List Value)) : Option (List Value) := match v, l with
    | some v, some vs => some (v :: vs)
    | _, _ => none
theorem rs_cons {r : ResultVar} {l : List ResultVar} : wresults P env s (r :: l) = wrs2 (wresult P env s r) (wresults P env s l) := rfl
theorem rs2 {v : Value} {l : List Value} : wrs2 (some v) (some l) = some (v :: l) := rfl
theorem rs_tmp {t : Tmp} : wresult P env s (.tmp t) = some (env t) := rfl
def wrc2 (P : Program) (t : TypeId) (s : St M) (v : Value) : Option Value := match v with
    | .pointer (some ad) => cload P t ad s
    | _ => none
theorem rs_cell {a : Tmp} {t : TypeId} : wresult P env s (.cell a t) = wrc2 P t s (env a) := rfl
theorem rs_cell2 {ad : Addr} {t : TypeId} : wrc2 P t s (.pointer (some ad)) = cload P t ad s := rfl
theorem ev_tmp {t : Tmp} : wev env (.tmp t) = env t := rfl
theorem ev_const {v : Value} : wev env (.const v) = v := rfl
theorem ev_func {f : FuncId} : wev env (.func f) = .func (.func f) #[] #[] := rfl
theorem put_some {d : Tmp} {v : Value} : wput env (some d) v = upd env d v := rfl
theorem put_none {v : Value} : wput env none v = env := rfl
theorem or_hit {id : Nat} {l : List DI} {rest : Ord} : ordOf ((id, l) :: rest) id = l := by simp [ordOf]
theorem or_miss {id j : Nat} {l : List DI} {rest : Ord} (h : ¬ j = id) : ordOf ((j, l) :: rest) id = ordOf rest id := by simp [ordOf, h]
end

/-- A conversion: numbers and strings are reckoned, all else is as it is for any operation. -/
def wcv (P : Program) (src dst : TypeId) (v : Value) (pu : Value → Prop) (other : Prop) : Prop := match v with
  | .int _ m => match P.underlying src, P.underlying dst with
    | some _, some (.int k) => pu (.int k (k.wrap m))
    | _, _ => other
  | _ => other
theorem wcv_congr {src dst : TypeId} {v v' : Value} {pu : Value → Prop} {other : Prop} (h : v = v') {jp : Prop} (hj : (True ∧ True) = jp) : wcv P src dst v pu other = wcv P src dst v' pu other := by rw [h]
attribute [congr] wcv_congr
def wcv2 (a b : Option TypeDesc) (m : Int) (pu : Value → Prop) (other : Prop) : Prop := match a, b with
    | some _, some (.int k) => pu (.int k (k.wrap m))
    | _, _ => other
theorem wcv2_congr {a b a' b' : Option TypeDesc} {m : Int} {pu : Value → Prop} {other : Prop} (h : a = a') (h2 : b = b') {jp : Prop} (hj : (True ∧ True) = jp) : wcv2 a b m pu other = wcv2 a' b' m pu other := by rw [h, h2]
attribute [congr] wcv2_congr
theorem cv_int {src dst : TypeId} {k2 : IntKind} {m : Int} {pu : Value → Prop} {other : Prop} : wcv P src dst (.int k2 m) pu other = wcv2 (P.underlying src) (P.underlying dst) m pu other := rfl
theorem cv2_int {a : TypeDesc} {k : IntKind} {m : Int} {pu : Value → Prop} {other : Prop} : wcv2 (some a) (some (.int k)) m pu other = wval (.int k (k.wrap m)) pu := rfl
theorem cv2_string {a : TypeDesc} {m : Int} {pu : Value → Prop} {other : Prop} : wcv2 (some a) (some .string) m pu other = other := rfl
theorem cv_string {src dst : TypeId} {v : ByteArray} {pu : Value → Prop} {other : Prop} : wcv P src dst (.string v) pu other = other := rfl
theorem cv_slice {src dst : TypeId} {v : Option Addr} {i j : Nat} {pu : Value → Prop} {other : Prop} : wcv P src dst (.slice v i j) pu other = other := rfl
def wopx (P : Program) (w0 : World) (o : Oper) (ev : Operand → Value) (s : St M) (K : Value → St M → Prop) : Prop := wop P w0 o ev s K
theorem wopx_congr {o : Oper} {ev : Operand → Value} {s : St M} {K : Value → St M → Prop} {jp : Prop} (hj : (True ∧ True) = jp) : wopx P w0 o ev s K = wopx P w0 o ev s K := rfl
attribute [congr] wopx_congr
theorem o_convert {src dst : TypeId} : wop P w0 ⟨d, .convert src dst x, ty, pos, af, g⟩ ev s K = wcv P src dst (ev x) (fun v => K v s) (wopx P w0 ⟨d, .convert src dst x, ty, pos, af, g⟩ ev s K) := by
  unfold wcv wopx
  split
  · rename_i k m hv
    split
    · rename_i k2 h1 h2; unfold wop; simp [kindOf, wpu, hv, h1, h2]
    · rfl
  · rfl
def wfopx (P : Program) (o : Oper) (ev : Operand → Value) (s : St M) (F : Value → St M → Option Value → Prop) : Prop := wfop P o ev s F
theorem wfopx_congr {o : Oper} {ev : Operand → Value} {s : St M} {K : Value → St M → Option Value → Prop} {jp : Prop} (hj : (True ∧ True) = jp) : wfopx P o ev s K = wfopx P o ev s K := rfl
attribute [congr] wfopx_congr
theorem f_convert {src dst : TypeId} : wfop P ⟨d, .convert src dst x, ty, pos, af, g⟩ ev s F = wcv P src dst (ev x) (fun v => F v s none) (wfopx P ⟨d, .convert src dst x, ty, pos, af, g⟩ ev s F) := by
  unfold wcv wfopx
  split
  · rename_i k m hv
    split
    · rename_i k2 h1 h2; unfold wfop; simp [kindOf, wpu, hv, h1, h2]
    · rfl
  · rfl

theorem o_cal {args : Array Operand} {ats : Array TypeId} {f : FuncId} {env : Env} (hok : callOk P f = true) :
    wop P w0 ⟨d, .call ⟨.value (.func f), args, ats⟩, ty, pos, af, g⟩ (wev env) s K = CCalls P w0 f (args.map (wev env)) s fun v s' => shape P ty v fun v => K v s' := o_call rfl rfl hok

/-- A value of a type, by the type's kind. -/
def shape2 (td : Option TypeDesc) (v : Value) (K : Value → Prop) : Prop := match td with
  | some (.int k) => ∃ n, v = .int k n ∧ K (.int k n)
  | some .bool => ∃ b, v = .bool b ∧ K (.bool b)
  | some .string => ∃ x, v = .string x ∧ K (.string x)
  | _ => K v
theorem shape2_congr {td td' : Option TypeDesc} {v v' : Value} {K : Value → Prop} (h : td = td') (h2 : v = v') {jp : Prop} (hj : (True ∧ True) = jp) : shape2 td v K = shape2 td' v' K := by rw [h, h2]
attribute [congr] shape2_congr
theorem sh {t : TypeId} {v : Value} {K : Value → Prop} : shape P t v K = shape2 (P.underlying t) v K := rfl
section
variable {K : Value → Prop} {v : Value}
theorem sh_int {k : IntKind} {m : Int} : shape2 (some (.int k)) (.int k m) K = K (.int k m) := by simp [shape2]
theorem sh_bool {b : Bool} : shape2 (some .bool) (.bool b) K = K (.bool b) := by simp [shape2]
theorem sh_string {b : ByteArray} : shape2 (some .string) (.string b) K = K (.string b) := by simp [shape2]
theorem sh_pointer {t : TypeId} : shape2 (some (.pointer t)) v K = K v := rfl
theorem sh_slice {t : TypeId} : shape2 (some (.slice t)) v K = K v := rfl
theorem sh_array {t : TypeId} {m : Nat} : shape2 (some (.array m t)) v K = K v := rfl
theorem sh_map {t t2 : TypeId} : shape2 (some (.map t t2)) v K = K v := rfl
theorem sh_struct {fs : Array Field} : shape2 (some (.struct fs)) v K = K v := rfl
theorem sh_func {a b : Array TypeId} {c : Bool} : shape2 (some (.func a b c)) v K = K v := rfl
theorem sh_interface {a : Array (String × TypeId)} : shape2 (some (.interface a)) v K = K v := rfl
theorem sh_tuple {a : Array TypeId} : shape2 (some (.tuple a)) v K = K v := rfl
theorem sh_invalid : shape2 (some .invalid) v K = K v := rfl
theorem sh_none : shape2 none v K = K v := rfl
end
end
end Go.Cs

/- From the clean memory to the program's own world. -/
namespace Go.Cs
open Go.RowKit (Below)

theorem rel_plain {ρ : Ren} {args : Array Value} (hp : (args.toList.all (plain 6)) = true) : VsRel ρ args args :=
  ⟨rfl, fun i hi => VRel.of_plain 6 (List.all_eq_true.1 hp _ (by simp [Array.mem_toList_iff, Array.getD, hi]))⟩

/-- A law of plain arguments that holds over the empty clean memory holds in any world. -/
theorem calls_plain {P : Program} {f : FuncId} {args : Array Value} (hp : (args.toList.all (plain 6)) = true) {w : World} (h : CCalls (M := AL) P w f args St.empty fun v _ => v = .bool true) :
    Calls P f args w fun e w' => e = .returned (.bool true) ∧ Below w.heap.size w w' := by
  refine (h _ w args (Rel.empty w) (rel_plain hp)).mono ?_
  rintro e w' ⟨v, s', ρ', v', rfl, rfl, hv, hR, _⟩
  exact ⟨by rw [hv.bool_inv], hR.below⟩

open Go.ChangeShapes Go.WideShapes Go.ChangeAt in
/-- What a law's call leaves: a true word, and all that was there as it was. -/
theorem post_of_below {H : Type} {enc : TypeId × Value → H} {P : Program} {f : Func} {s : ChangeSpec} {apart fresh handsOn : Bool} {W W' : World} {args : Array Value} {v : Value} {ds gs : List (DataW H)} {before pa pv : List MemPlace}
    (hW : DataW.Whole enc P f.params.toList s.vars apart W args.toList ds gs before)
    (hres : ∀ (b : Nat) (sp : Nat → Bool) (hd : Bool), DataW.TrodAll enc P W' b sp hd f.resultTypes.toList (v.resultList f.resultTypes.size) (s.fn H (ds ++ gs)).results [])
    (hargs : ∀ sp : Nat → Bool, (∀ p ∈ before, sp p.block = true) → DataW.TrodAll enc P W' 0 sp true f.params.toList args.toList (s.fn H (ds ++ gs)).args pa)
    (hvars : ∀ sp : Nat → Bool, (∀ p ∈ before, sp p.block = true) → DataW.TrodVars enc P W' sp s.vars (s.fn H (ds ++ gs)).vars pv)
    (hps : before = pa ++ pv) (hk : W.keptBut W' (· ∈ before)) : s.post enc P f apart fresh handsOn false W args v W' := by
  have hold : ∀ p ∈ before, (fun b => decide (b < W.heap.size)) p.block = true := fun p hp => by simpa using hW.lt p hp
  refine ⟨ds, gs, before, [], pa, pv, hW, hres _ _ _, hargs _ hold, hvars _ hold, World.keptBut_mono (fun p hp => ⟨hp, ?_⟩) hk, fun h => by cases h⟩
  rw [hps, List.mem_append] at hp
  exact Or.inr hp

theorem fits_i64 {n : Int} (h : (Lit.int .i64 n).wf = true) : -9223372036854775808 ≤ n ∧ n ≤ 9223372036854775807 := by
  simp only [Lit.wf, Bool.and_eq_true, decide_eq_true_eq] at h
  exact h
end Go.Cs
