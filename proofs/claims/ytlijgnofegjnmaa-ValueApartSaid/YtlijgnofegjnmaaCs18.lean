/- What is left to be shown of a piece of code, in a form that simp brings to an end: side conditions, values by their kinds, ways by their tests. A lemma file: no statement of its own. -/
import Derived.Test.YtlijgnofegjnmaaCs15
import Derived.Laws.Strings
set_option linter.unusedSimpArgs false
set_option linter.unusedVariables false
namespace Go.Cs

/-- The variables of a frame. -/
abbrev Env := Nat → Value

/-- The value of an operand. -/
def wev (env : Env) : Operand → Value
  | .tmp t => env t
  | .const v => v
  | .global g => .pointer (some ⟨g, 0, none⟩)
  | .func f => .func (.func f) #[] #[]

/-- A variable written. -/
def upd (env : Env) (d : Nat) (v : Value) : Env := fun t => if t = d then v else env t

theorem upd_apply (env : Env) (d : Nat) (v : Value) (t : Nat) : upd env d v t = if t = d then v else env t := rfl

def wput (env : Env) (d : Option Tmp) (v : Value) : Env :=
  match d with
  | some d => upd env d v
  | none => env

/-- The variables as a list has them; all others hold nothing. -/
def init (l : List Value) : Env := fun t => l.getD t undef

theorem upd_self {env : Env} {d : Nat} {v : Value} (h : env d = v) : upd env d v = env := by
  funext t
  unfold upd
  split
  · rename_i e; rw [e, h]
  · rfl

/-- Both ways, each with its test. -/
def both (t : Bool) (p q : Prop) : Prop := (t = true → p) ∧ (t = false → q)

/-- A value that must be there. -/
def must (o : Option Value) (K : Value → Prop) : Prop := ∃ v, o = some v ∧ K v

section
variable {M : Type} [Mem M] (P : Program) (w0 : World)

/-- A value of a type, by its kind. -/
def shape (t : TypeId) (v : Value) (K : Value → Prop) : Prop :=
  match P.underlying t with
  | some (.int k) => ∃ n, v = .int k n ∧ K (.int k n)
  | some .bool => ∃ b, v = .bool b ∧ K (.bool b)
  | some .string => ∃ x, v = .string x ∧ K (.string x)
  | _ => K v

def wbin (op : BinOp) (t : TypeId) (ox oy : Operand) (x y : Value) (K : Value → Prop) : Prop :=
  match op, x, y with
  | .add, .int k a, .int k' b => k = k' ∧ K (.int k (k.wrap (a + b)))
  | .sub, .int k a, .int k' b => k = k' ∧ K (.int k (k.wrap (a - b)))
  | .mul, .int k a, .int k' b => k = k' ∧ K (.int k (k.wrap (a * b)))
  | .quo, .int k a, .int k' b => k = k' ∧ b ≠ 0 ∧ K (.int k (k.wrap (a.tdiv b)))
  | .rem, .int k a, .int k' b => k = k' ∧ b ≠ 0 ∧ K (.int k (a.tmod b))
  | .shl, .int k a, .int _ b => 0 ≤ b ∧ K (.int k (k.wrap (a * 2 ^ (min b.toNat k.bits))))
  | .shr, .int k a, .int _ b => 0 ≤ b ∧ K (.int k (a.fdiv (2 ^ (min b.toNat k.bits))))
  | .eql, .int k a, .int k' b => k = k' ∧ K (.bool (decide (a = b)))
  | .neq, .int k a, .int k' b => k = k' ∧ K (.bool (!decide (a = b)))
  | .lss, .int k a, .int k' b => k = k' ∧ K (.bool (decide (a < b)))
  | .leq, .int k a, .int k' b => k = k' ∧ K (.bool (decide (a ≤ b)))
  | .gtr, .int k a, .int k' b => k = k' ∧ K (.bool (decide (b < a)))
  | .geq, .int k a, .int k' b => k = k' ∧ K (.bool (decide (b ≤ a)))
  | .add, .string a, .string b => a.size + b.size ≤ 9223372036854775807 ∧ K (.string (a ++ b))
  | .eql, .string a, .string b => K (.bool (decide (a = b)))
  | .neq, .string a, .string b => K (.bool (!decide (a = b)))
  | op, x, y => must (cbin P op t ox oy x y) K

/-- An operation that asks nothing of the memory: what it comes to, or what is to be shown of it. -/
def wpu (o : Oper) (ev : Operand → Value) (K : Value → Prop) : Prop :=
  match o.op with
  | .move x => K (ev x)
  | .assign x => K (ev x)
  | .pick c a b => match ev c with
    | .bool t => both t (K (ev a)) (K (ev b))
    | _ => False
  | .binOp op t x y _ => wbin P op t x y (ev x) (ev y) K
  | .convert src dst x => match ev x with
    | .int _ n => match P.underlying src, P.underlying dst with
      | some _, some (.int k) => K (.int k (k.wrap n))
      | _, _ => False
    | .string b => match P.underlying src, P.underlying dst with
      | some _, some .string => K (.string b)
      | _, _ => False
    | _ => must (cpure P ev o.type o.op) K
  | .indexAddr t x ix => match P.underlying t, ev x, ev ix with
    | some (.slice e), .slice (some a) n _, .int _ i => (P.info? e).isSome = true ∧ 0 ≤ i ∧ i < n ∧ K (.pointer (some (a.add (i.toNat * P.cellsOf e))))
    | _, _, _ => must (cpure P ev o.type o.op) K
  | _ => must (cpure P ev o.type o.op) K

/-- What kind of thing an operation does. -/
inductive Kd where
  | pu | rd | al | ef | ca | pr
  deriving DecidableEq

def kindOf (ev : Operand → Value) : Op → Kd
  | .load _ _ => .rd
  | .lookup _ _ _ _ => .rd
  | .alloc _ => .al
  | .box _ _ => .al
  | .buildSlice _ _ _ => .al
  | .makeMap _ _ => .al
  | .makeSlice _ _ _ => .al
  | .range _ _ => .al
  | .store _ _ _ => .ef
  | .mapUpdate _ _ _ _ => .ef
  | .insert _ _ _ _ => .ef
  | .next _ _ => .ef
  | .slice _ _ _ _ _ => .pr
  | .binOp .eql _ x y _ => match ev x, ev y with
    | .pointer (some _), .pointer (some _) => .rd
    | _, _ => .pu
  | .binOp .neq _ x y _ => match ev x, ev y with
    | .pointer (some _), .pointer (some _) => .rd
    | _, _ => .pu
  | .convert _ dst x => match ev x with
    | .int _ _ => .pu
    | .string _ => match P.underlying dst with
      | some .string => .pu
      | _ => .al
    | _ => .rd
  | .call c => match c.callee with
    | .builtin .append => .ef
    | .builtin .delete => .ef
    | .builtin .copy => .ef
    | .builtin .clear => .ef
    | .builtin .unsafeString => .ef
    | .builtin .len => .pr
    | .builtin _ => .pu
    | _ => .ca
  | _ => .pu

/-- An operation: what it comes to, or what is to be shown of it. -/
def wop (o : Oper) (ev : Operand → Value) (s : St M) (K : Value → St M → Prop) : Prop :=
  match kindOf P ev o.op with
  | .pu => wpu P o ev fun v => K v s
  | .rd => must (cread P ev s o.op) fun v => shape P o.type v fun v => K v s
  | .al => ∃ B f, calloc P ev o.op = some (B, f) ∧ K (f s.next) (s.new B)
  | .ef => ∃ v s', ceff P ev s o.op = some (v, s') ∧ K v s'
  | .pr => must (cpure P ev o.type o.op) (fun v => K v s) ∨ must (cread P ev s o.op) (fun v => K v s)
  | .ca => match o.op with
    | .call c => match ccallee P ev c with
      | some (f, args) => CCalls P w0 f args s fun v s' => shape P o.type v fun v => K v s'
      | none => ∃ v s', ceff P ev s (.call c) = some (v, s') ∧ K v s'
    | _ => False

/-- One that does not act, in a region that draws its order. -/
def wfop (o : Oper) (ev : Operand → Value) (s : St M) (K : Value → St M → Option Value → Prop) : Prop :=
  match kindOf P ev o.op with
  | .pu => wpu P o ev fun v => K v s none
  | .rd => must (cread P ev s o.op) fun v => shape P o.type v fun v => K v s (some v)
  | .al => ∃ B f, calloc P ev o.op = some (B, f) ∧ K (f s.next) (s.new B) none
  | .pr => must (cpure P ev o.type o.op) (fun v => K v s none) ∨ must (cread P ev s o.op) (fun v => K v s (some v))
  | _ => False

/-- An operation with its guard. -/
def wguard (ops : Array Oper) (o : Oper) (env : Env) (yes no : Env → Prop) : Prop :=
  match o.guard with
  | none => yes env
  | some (j, want) => match (ops[j]?).bind (·.dst) with
    | none => no env
    | some d => match env d with
      | .bool b => (b = want → yes (upd env d (.bool want))) ∧ (b = !want → no (upd env d (.bool !want)))
      | .tuple cs => cs.size ≠ 1 ∧ no env
      | _ => no env

/-- The operations of a region, in the order of its text. -/
def wreg (ops : Array Oper) (Q : Env → St M → Prop) : List Oper → Env → St M → Prop
  | [], env, s => Q env s
  | o :: rest, env, s => wguard ops o env (fun env => wop P w0 o (wev env) s fun v s' => wreg ops Q rest (wput env o.dst v) s') (fun env => wreg ops Q rest (wput env o.dst undef) s)

/-- A step of a region that draws its order: which operation, does it act, what has been read and may be read behind it. -/
structure DI where
  i : Nat
  act : Bool
  chk : List Nat

/-- What has been read. -/
structure WF where
  i : Nat
  op : Op
  env : Env
  v : Option Value

def wstill (chk : List Nat) (s : St M) : List WF → Prop → Prop
  | [], K => K
  | f :: l, K => match f.v with
    | none => wstill chk s l K
    | some v => match chk.contains f.i with
      | true => cread P (wev f.env) s f.op = some v ∧ wstill chk s l K
      | false => wstill chk s l K

def wregD (ops : Array Oper) (Q : Env → St M → Prop) : List DI → List WF → Env → St M → Prop
  | [], _, env, s => Q env s
  | d :: rest, fl, env, s => match ops[d.i]? with
    | none => False
    | some o => match d.act with
      | true => wguard ops o env (fun env => wop P w0 o (wev env) s fun v s' => wstill P d.chk s' fl (wregD ops Q rest fl (wput env o.dst v) s')) (fun env => wregD ops Q rest fl (wput env o.dst undef) s)
      | false => wguard ops o env (fun env => wfop P o (wev env) s fun v s' r => wregD ops Q rest (⟨d.i, o.op, env, r⟩ :: fl) (wput env o.dst v) s') (fun env => wregD ops Q rest (⟨d.i, o.op, env, none⟩ :: fl) (wput env o.dst undef) s)
end

section
variable {M : Type} [Mem M] {P : Program} {w0 : World}

theorem pureRun_underlying {t : TypeId} {d : TypeDesc} (h : P.underlying t = some d) : pureRun P (underlying t) = some d := by
  simp only [underlying, program, pureRun_bind]
  show (some P).bind (fun a => pureRun P (match a.underlying t with | some d => pure d | none => stuck "no such type")) = some d
  simp only [Option.bind_some, h]
  rfl

theorem shape_of {t : TypeId} {v : Value} {K : Value → Prop} (h : shape P t v K) : K v := by
  unfold shape at h
  split at h
  · obtain ⟨n, rfl, h⟩ := h; exact h
  · obtain ⟨n, rfl, h⟩ := h; exact h
  · obtain ⟨n, rfl, h⟩ := h; exact h
  · exact h

theorem decide_ba (a b : ByteArray) : (a.toList == b.toList) = decide (a = b) := by
  rw [Bool.eq_iff_iff]
  simp only [beq_iff_eq, decide_eq_true_eq, ByteArray.toList_eq]
  exact ⟨fun h => ByteArray.ext (Array.ext' h), fun h => by rw [h]⟩

theorem wbin_of {op : BinOp} {t : TypeId} {ox oy : Operand} {x y : Value} {K : Value → Prop} (h : wbin P op t ox oy x y K) : ∃ v, cbin P op t ox oy x y = some v ∧ K v := by
  unfold wbin at h
  split at h
  all_goals first
    | exact h
    | skip
  all_goals first
    | (obtain ⟨rfl, h⟩ := h; exact ⟨_, by simp only [cbin, if_true]; rfl, by first | exact h | (simpa [beq_eq_decide] using h)⟩)
    | skip
  · obtain ⟨rfl, h0, h⟩ := h
    exact ⟨_, by simp only [cbin, if_true, pure6, Go.binOp, ne_eq, not_true_eq_false, if_false, Op.intDiv, h0]; rfl, h⟩
  · obtain ⟨rfl, h0, h⟩ := h
    exact ⟨_, by simp only [cbin, if_true, pure6, Go.binOp, ne_eq, not_true_eq_false, if_false, Op.intDiv, h0]; rfl, h⟩
  · obtain ⟨h0, h⟩ := h
    rename_i k a k' b
    refine ⟨_, ?_, h⟩
    have : ¬ b < 0 := by omega
    simp only [cbin, pure6, Go.binOp, Op.shift, this, if_false]
    split <;> rfl
  · obtain ⟨h0, h⟩ := h
    rename_i k a k' b
    refine ⟨_, ?_, h⟩
    have : ¬ b < 0 := by omega
    simp only [cbin, pure6, Go.binOp, Op.shift, this, if_false]
    split <;> rfl
  · obtain ⟨h0, h⟩ := h
    rename_i a b
    refine ⟨_, ?_, h⟩
    have h1 : ¬ (((a.size + b.size : Nat) : Int) > IntKind.i64.max) := by simp [IntKind.max, IntKind.bits, IntKind.signed]; omega
    simp only [cbin, plain, and_self, if_true, pure6, eqGuard, Go.binOp, Op.stringOp, h1, if_false]
    rfl
  · rename_i a b
    refine ⟨_, ?_, h⟩
    rw [← decide_ba]
    rfl
  · rename_i a b
    refine ⟨_, ?_, h⟩
    rw [← decide_ba]
    rfl

theorem cpure_bin {o : Oper} {ev : Operand → Value} {op : BinOp} {t yt : TypeId} {x y : Operand} (ho : o.op = .binOp op t x y yt) : cpure P ev o.type o.op = cbin P op t x y (ev x) (ev y) := by rw [ho]; rfl

theorem wpu_of {o : Oper} {ev : Operand → Value} {K : Value → Prop} (h : wpu P o ev K) : ∃ v, cpure P ev o.type o.op = some v ∧ K v := by
  unfold wpu at h
  split at h
  case h_1 x hx => exact ⟨ev x, by rw [hx]; rfl, h⟩
  case h_2 x hx => exact ⟨ev x, by rw [hx]; rfl, h⟩
  case h_3 c a b hx =>
    split at h
    · rename_i t ht
      refine ⟨if t then ev a else ev b, by rw [hx]; simp only [cpure, ht], ?_⟩
      cases t
      · exact h.2 rfl
      · exact h.1 rfl
    · exact h.elim
  case h_4 op t x y yt hx =>
    obtain ⟨v, h1, h2⟩ := wbin_of h
    exact ⟨v, by rw [cpure_bin hx]; exact h1, h2⟩
  case h_5 src dst x hx =>
    split at h
    · rename_i k0 n hn
      split at h
      · rename_i d k hs hk
        refine ⟨_, ?_, h⟩
        rw [hx]
        simp only [cpure, hn, plain, if_true, pure6, Go.convert, pureRun_bind, pureRun_underlying hs, pureRun_underlying hk, Option.bind_some, Conv.intToInt, pureRun_pure]
      · exact h.elim
    · rename_i b hb
      split at h
      · rename_i d hs hk
        refine ⟨_, ?_, h⟩
        rw [hx]
        simp only [cpure, hb, plain, if_true, pure6, Go.convert, pureRun_bind, pureRun_underlying hs, pureRun_underlying hk, Option.bind_some, pureRun_pure]
      · exact h.elim
    · exact h
  case h_6 t x ix hx =>
    split at h
    · rename_i e a n c k i hu hxa hix
      obtain ⟨h1, h2, h3, h4⟩ := h
      obtain ⟨ie, hie⟩ := Option.isSome_iff_exists.1 h1
      refine ⟨_, ?_, h4⟩
      rw [hx]
      simp only [cpure, hxa, hix, cidxAddr, hu, hie, h2, h3, and_self, if_true, cellsOf_info hie]
    · exact h
  case h_7 => exact h

theorem wop_sound {o : Oper} {ev : Operand → Value} {s : St M} {K : Value → St M → Prop} (h : wop P w0 o ev s K) : cstep P w0 o ev s K := by
  unfold wop at h
  split at h
  · obtain ⟨v, h1, h2⟩ := wpu_of h; exact .inl ⟨v, h1, h2⟩
  · obtain ⟨v, h1, h2⟩ := h; exact .inr (.inl ⟨v, h1, shape_of h2⟩)
  · obtain ⟨B, f, h1, h2⟩ := h; exact .inr (.inr (.inl ⟨B, f, h1, h2⟩))
  · obtain ⟨v, s', h1, h2⟩ := h; exact .inr (.inr (.inr (.inl ⟨v, s', h1, h2⟩)))
  · rcases h with ⟨v, h1, h2⟩ | ⟨v, h1, h2⟩
    · exact .inl ⟨v, h1, h2⟩
    · exact .inr (.inl ⟨v, h1, h2⟩)
  · split at h
    · rename_i c hc
      split at h
      · rename_i f args hf
        refine .inr (.inr (.inr (.inr ?_)))
        rw [hc]
        simp only [ccall]
        rw [hf]
        exact CCalls.mono h fun v s' hk => shape_of hk
      · obtain ⟨v, s', h1, h2⟩ := h
        exact .inr (.inr (.inr (.inl ⟨v, s', by rw [hc]; exact h1, h2⟩)))
    · exact h.elim

theorem wfop_sound {o : Oper} {ev : Operand → Value} {s : St M} {K : Value → St M → Option Value → Prop} (h : wfop P o ev s K) : fstep P o ev s K := by
  unfold wfop at h
  split at h
  · obtain ⟨v, h1, h2⟩ := wpu_of h; exact .inl ⟨v, h1, h2⟩
  · obtain ⟨v, h1, h2⟩ := h; exact .inr (.inl ⟨v, h1, shape_of h2⟩)
  · obtain ⟨B, f, h1, h2⟩ := h; exact .inr (.inr ⟨B, f, h1, h2⟩)
  · rcases h with ⟨v, h1, h2⟩ | ⟨v, h1, h2⟩
    · exact .inl ⟨v, h1, h2⟩
    · exact .inr (.inl ⟨v, h1, h2⟩)
  · exact h.elim
end
end Go.Cs
