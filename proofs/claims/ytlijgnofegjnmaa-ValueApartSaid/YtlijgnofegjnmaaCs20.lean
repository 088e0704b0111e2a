/- How simp goes through a piece of code: step by step, never ahead into what follows. A lemma file: no statement of its own. -/
import Derived.Test.YtlijgnofegjnmaaCs19
set_option linter.unusedSimpArgs false
set_option linter.unusedVariables false
namespace Go.Cs

/-- A function that may be walked: its body is as it must be, and it may be called. -/
def funcOk (P : Program) (f : FuncId) (ord : Ord) : Bool := match P.funcs[f]? with
  | some fn => (match fn.body with | some c => codeOk P ord fn.ntmps c | none => false) && fn.name != "runtime.NumGoroutine"
  | none => false

def callOk (P : Program) (f : FuncId) : Bool := match P.funcs[f]? with
  | some fn => fn.body.isSome && fn.name != "runtime.NumGoroutine"
  | none => false

section
variable {M : Type} [Mem M] {P : Program} {w0 : World} {ord : Ord} {n : Nat}

theorem callOk_of {f : FuncId} {ord : Ord} (h : funcOk P f ord = true) : callOk P f = true := by
  unfold funcOk at h
  unfold callOk
  split at h
  · simp only [Bool.and_eq_true] at h
    split at h
    · rename_i c hc; rw [hc]; simpa using h.2
    · simp at h
  · cases h

theorem wfun (hm : P.follows .mixedOrders = true) {f : FuncId} {ord : Ord} (hok : funcOk P f ord = true) {fn : Func} {c : Code} {l : List Value} {s : St M} {R : Value → St M → Prop} (hf : P.funcs[f]? = some fn) (hb : fn.body = some c) (hl : l.length ≤ fn.ntmps)
    (h : wvc P w0 ord fn.ntmps c (wbody P fn.results.toList R) (init l) s) : CCalls P w0 f l.toArray s R := by
  unfold funcOk at hok
  rw [hf] at hok
  simp only [hb, Bool.and_eq_true] at hok
  exact wcalls hm ord hf hb hl hok.1 h

theorem wfun2 (hm : P.follows .mixedOrders = true) {f : FuncId} {ord : Ord} (hok : funcOk P f ord = true) {fn : Func} {c : Code} {l : List Value} {s : St M} {R : Value → St M → Prop} {k : Nat} {rs : List ResultVar} (hf : P.funcs[f]? = some fn) (hb : fn.body = some c) (hk : fn.ntmps = k) (hr : fn.results = rs.toArray) (hl : l.length ≤ k)
    (h : wvc P w0 ord k c (wbody P rs R) (init l) s) : CCalls P w0 f l.toArray s R := by
  subst hk
  refine wfun hm hok hf hb hl ?_
  rw [hr]
  exact h

/-! How simp looks at each: only at what is named. -/
theorem wvc_congr {c : Code} {Q : Exit → Env → St M → Prop} {env env' : Env} {s s' : St M} (h1 : env = env') (h2 : s = s') {jp : Prop} (hj : (True ∧ True) = jp) : wvc P w0 ord n c Q env s = wvc P w0 ord n c Q env' s' := by rw [h1, h2]
theorem wreg_congr {ops : Array Oper} {Q : Env → St M → Prop} {l : List Oper} {env env' : Env} {s s' : St M} (h1 : env = env') (h2 : s = s') {jp : Prop} (hj : (True ∧ True) = jp) : wreg P w0 ops Q l env s = wreg P w0 ops Q l env' s' := by rw [h1, h2]
theorem wregD_congr {ops : Array Oper} {Q : Env → St M → Prop} {l : List DI} {fl : List WF} {env env' : Env} {s s' : St M} (h1 : env = env') (h2 : s = s') {jp : Prop} (hj : (True ∧ True) = jp) : wregD P w0 ops Q l fl env s = wregD P w0 ops Q l fl env' s' := by rw [h1, h2]
theorem wguard_congr {ops : Array Oper} {o : Oper} {env : Env} {yes no : Env → Prop} {jp : Prop} (hj : (True ∧ True) = jp) : wguard ops o env yes no = wguard ops o env yes no := rfl
theorem wcond_congr {c : Operand} {env : Env} {p q : Env → Prop} {jp : Prop} (hj : (True ∧ True) = jp) : wcond c env p q = wcond c env p q := rfl
theorem wop_congr {o : Oper} {ev : Operand → Value} {s : St M} {K : Value → St M → Prop} {jp : Prop} (hj : (True ∧ True) = jp) : wop P w0 o ev s K = wop P w0 o ev s K := rfl
theorem wfop_congr {o : Oper} {ev : Operand → Value} {s : St M} {K : Value → St M → Option Value → Prop} {jp : Prop} (hj : (True ∧ True) = jp) : wfop P o ev s K = wfop P o ev s K := rfl
theorem wstill_congr {chk : List Nat} {s : St M} {fl : List WF} {K : Prop} {jp : Prop} (hj : (True ∧ True) = jp) : wstill P chk s fl K = wstill P chk s fl K := rfl
theorem wbin_congr {op : BinOp} {t : TypeId} {ox oy : Operand} {x y x' y' : Value} {K : Value → Prop} (hx : x = x') (hy : y = y') {jp : Prop} (hj : (True ∧ True) = jp) : wbin P op t ox oy x y K = wbin P op t ox oy x' y' K := by rw [hx, hy]
theorem must_congr {o o' : Option Value} {K : Value → Prop} (h : o = o') {jp : Prop} (hj : (True ∧ True) = jp) : must o K = must o' K := by rw [h]
theorem shape_congr {t : TypeId} {v v' : Value} {K : Value → Prop} (h : v = v') {jp : Prop} (hj : (True ∧ True) = jp) : shape P t v K = shape P t v' K := by rw [h]
theorem CCalls_congr {f : FuncId} {args args' : Array Value} {s s' : St M} {R : Value → St M → Prop} (h : args = args') (h2 : s = s') {jp : Prop} (hj : (True ∧ True) = jp) : CCalls P w0 f args s R = CCalls P w0 f args' s' R := by rw [h, h2]
theorem upd_congr {env env' : Env} {d : Nat} {v v' : Value} (h0 : env = env') (h : v = v') {jp : Prop} (hj : (True ∧ True) = jp) : upd env d v = upd env' d v' := by rw [h0, h]
theorem wret_congr {rs : List ResultVar} {R : Value → St M → Prop} {env : Env} {s : St M} {jp : Prop} (hj : (True ∧ True) = jp) : wret P rs R env s = wret P rs R env s := rfl
theorem WLoop_congr {c : Code} {Q : Exit → Env → St M → Prop} {env env' : Env} {s s' : St M} (h1 : env = env') (h2 : s = s') {jp : Prop} (hj : (True ∧ True) = jp) : WLoop P w0 ord n c Q env s = WLoop P w0 ord n c Q env' s' := by rw [h1, h2]
theorem WScope_congr {c x : Code} {Q : Exit → Env → St M → Prop} {env env' : Env} {s s' : St M} (h1 : env = env') (h2 : s = s') {jp : Prop} (hj : (True ∧ True) = jp) : WScope P w0 ord n c x Q env s = WScope P w0 ord n c x Q env' s' := by rw [h1, h2]

/-- A value goes on when it has been looked at. -/
def wval (v : Value) (K : Value → Prop) : Prop := K v
theorem wval_congr {v v' : Value} {K : Value → Prop} (h : v = v') {jp : Prop} (hj : (True ∧ True) = jp) : wval v K = wval v' K := by rw [h]
theorem val {v : Value} {K : Value → Prop} : wval v K = K v := rfl
attribute [congr] wval_congr wvc_congr wreg_congr wregD_congr wguard_congr wcond_congr wop_congr wfop_congr wstill_congr wbin_congr must_congr shape_congr CCalls_congr upd_congr wret_congr WLoop_congr WScope_congr

/-! Each step by itself. -/
section
variable {d : Option Tmp} {ty : TypeId} {pos : String} {af : Array Edge} {g : Option (Nat × Bool)} {ev : Operand → Value} {s : St M} {K : Value → St M → Prop} {F : Value → St M → Option Value → Prop} {x y : Operand} {t t2 : TypeId}

theorem g_none {ops : Array Oper} {o : Op} {env : Env} {yes no : Env → Prop} : wguard ops ⟨d, o, ty, pos, af, none⟩ env yes no = yes env := rfl

def wguard2 (j : Option Tmp) (want : Bool) (env : Env) (yes no : Env → Prop) : Prop := match j with
    | none => no env
    | some d => match env d with
      | .bool b => (b = want → yes (upd env d (.bool want))) ∧ (b = !want → no (upd env d (.bool !want)))
      | .tuple cs => cs.size ≠ 1 ∧ no env
      | _ => no env

def wguard3 (d : Nat) (v : Value) (want : Bool) (env : Env) (yes no : Env → Prop) : Prop := match v with
      | .bool b => (b = want → yes (upd env d (.bool want))) ∧ (b = !want → no (upd env d (.bool !want)))
      | .tuple cs => cs.size ≠ 1 ∧ no env
      | _ => no env

theorem wguard2_congr {j j' : Option Tmp} {want : Bool} {env : Env} {yes no : Env → Prop} (h : j = j') {jp : Prop} (hj : (True ∧ True) = jp) : wguard2 j want env yes no = wguard2 j' want env yes no := by rw [h]
theorem wguard3_congr {e : Nat} {v v' : Value} {want : Bool} {env : Env} {yes no : Env → Prop} (h : v = v') {jp : Prop} (hj : (True ∧ True) = jp) : wguard3 e v want env yes no = wguard3 e v' want env yes no := by rw [h]
attribute [congr] wguard2_congr wguard3_congr

theorem g_some {ops : Array Oper} {o : Op} {j : Nat} {want : Bool} {env : Env} {yes no : Env → Prop} : wguard ops ⟨d, o, ty, pos, af, some (j, want)⟩ env yes no = wguard2 ((ops[j]?).bind (·.dst)) want env yes no := rfl
theorem g2_some {e : Nat} {want : Bool} {env : Env} {yes no : Env → Prop} : wguard2 (some e) want env yes no = wguard3 e (env e) want env yes no := rfl
theorem g2_none {want : Bool} {env : Env} {yes no : Env → Prop} : wguard2 none want env yes no = no env := rfl
theorem g3_tt {e : Nat} {env : Env} {yes no : Env → Prop} : wguard3 e (.bool true) true env yes no = yes (upd env e (.bool true)) := by simp [wguard3]
theorem g3_ff {e : Nat} {env : Env} {yes no : Env → Prop} : wguard3 e (.bool false) false env yes no = yes (upd env e (.bool false)) := by simp [wguard3]
theorem g3_tf {e : Nat} {env : Env} {yes no : Env → Prop} : wguard3 e (.bool true) false env yes no = no (upd env e (.bool true)) := by simp [wguard3]
theorem g3_ft {e : Nat} {env : Env} {yes no : Env → Prop} : wguard3 e (.bool false) true env yes no = no (upd env e (.bool false)) := by simp [wguard3]
theorem g3_undef {e : Nat} {want : Bool} {env : Env} {yes no : Env → Prop} : wguard3 e undef want env yes no = no env := by simp [wguard3, undef]
theorem g3_t {e : Nat} {b : Bool} {env : Env} {yes no : Env → Prop} : wguard3 e (.bool b) true env yes no = ((b = true → yes (upd env e (.bool true))) ∧ (b = false → no (upd env e (.bool false)))) := by simp [wguard3]
theorem g3_f {e : Nat} {b : Bool} {env : Env} {yes no : Env → Prop} : wguard3 e (.bool b) false env yes no = ((b = false → yes (upd env e (.bool false))) ∧ (b = true → no (upd env e (.bool true)))) := by simp [wguard3]

def wcond2 (d : Nat) (v : Value) (env : Env) (p q : Env → Prop) : Prop := match v with
    | .bool b => (b = true → p (upd env d (.bool true))) ∧ (b = false → q (upd env d (.bool false)))
    | _ => False
theorem wcond2_congr {e : Nat} {v v' : Value} {env : Env} {yes no : Env → Prop} (h : v = v') {jp : Prop} (hj : (True ∧ True) = jp) : wcond2 e v env yes no = wcond2 e v' env yes no := by rw [h]
attribute [congr] wcond2_congr
theorem c_tmp {e : Nat} {env : Env} {p q : Env → Prop} : wcond (.tmp e) env p q = wcond2 e (env e) env p q := rfl
theorem c_true {env : Env} {p q : Env → Prop} : wcond (.const (.bool true)) env p q = p env := by simp [wcond]
theorem c_false {env : Env} {p q : Env → Prop} : wcond (.const (.bool false)) env p q = q env := by simp [wcond]
theorem c2_true {e : Nat} {env : Env} {p q : Env → Prop} : wcond2 e (.bool true) env p q = p (upd env e (.bool true)) := by simp [wcond2]
theorem c2_false {e : Nat} {env : Env} {p q : Env → Prop} : wcond2 e (.bool false) env p q = q (upd env e (.bool false)) := by simp [wcond2]
theorem c2_bool {e : Nat} {b : Bool} {env : Env} {p q : Env → Prop} : wcond2 e (.bool b) env p q = ((b = true → p (upd env e (.bool true))) ∧ (b = false → q (upd env e (.bool false)))) := rfl

theorem o_move : wop P w0 ⟨d, .move x, ty, pos, af, g⟩ ev s K = wval (ev x) fun v => K v s := rfl
theorem o_assign : wop P w0 ⟨d, .assign x, ty, pos, af, g⟩ ev s K = wval (ev x) fun v => K v s := rfl
theorem f_move : wfop P ⟨d, .move x, ty, pos, af, g⟩ ev s F = wval (ev x) fun v => F v s none := rfl
theorem f_assign : wfop P ⟨d, .assign x, ty, pos, af, g⟩ ev s F = wval (ev x) fun v => F v s none := rfl

def wpick (c a b : Value) (K : Value → Prop) : Prop := match c with
  | .bool t => both t (K a) (K b)
  | _ => False
theorem wpick_congr {c c' a b : Value} {K : Value → Prop} (h : c = c') {jp : Prop} (hj : (True ∧ True) = jp) : wpick c a b K = wpick c' a b K := by rw [h]
attribute [congr] wpick_congr
theorem o_pick {c a b : Operand} : wop P w0 ⟨d, .pick c a b, ty, pos, af, g⟩ ev s K = wpick (ev c) (ev a) (ev b) fun v => K v s := rfl
theorem f_pick {c a b : Operand} : wfop P ⟨d, .pick c a b, ty, pos, af, g⟩ ev s F = wpick (ev c) (ev a) (ev b) fun v => F v s none := rfl
theorem p_true {a b : Value} {K : Value → Prop} : wpick (.bool true) a b K = wval a K := by simp [wpick, both, wval]
theorem p_false {a b : Value} {K : Value → Prop} : wpick (.bool false) a b K = wval b K := by simp [wpick, both, wval]
theorem p_bool {t : Bool} {a b : Value} {K : Value → Prop} : wpick (.bool t) a b K = ((t = true → K a) ∧ (t = false → K b)) := rfl

theorem o_add : wop P w0 ⟨d, .binOp .add t x y t2, ty, pos, af, g⟩ ev s K = wbin P .add t x y (ev x) (ev y) fun v => K v s := rfl
theorem o_sub : wop P w0 ⟨d, .binOp .sub t x y t2, ty, pos, af, g⟩ ev s K = wbin P .sub t x y (ev x) (ev y) fun v => K v s := rfl
theorem o_mul : wop P w0 ⟨d, .binOp .mul t x y t2, ty, pos, af, g⟩ ev s K = wbin P .mul t x y (ev x) (ev y) fun v => K v s := rfl
theorem o_quo : wop P w0 ⟨d, .binOp .quo t x y t2, ty, pos, af, g⟩ ev s K = wbin P .quo t x y (ev x) (ev y) fun v => K v s := rfl
theorem o_rem : wop P w0 ⟨d, .binOp .rem t x y t2, ty, pos, af, g⟩ ev s K = wbin P .rem t x y (ev x) (ev y) fun v => K v s := rfl
theorem o_shl : wop P w0 ⟨d, .binOp .shl t x y t2, ty, pos, af, g⟩ ev s K = wbin P .shl t x y (ev x) (ev y) fun v => K v s := rfl
theorem o_shr : wop P w0 ⟨d, .binOp .shr t x y t2, ty, pos, af, g⟩ ev s K = wbin P .shr t x y (ev x) (ev y) fun v => K v s := rfl
theorem o_lss : wop P w0 ⟨d, .binOp .lss t x y t2, ty, pos, af, g⟩ ev s K = wbin P .lss t x y (ev x) (ev y) fun v => K v s := rfl
theorem o_leq : wop P w0 ⟨d, .binOp .leq t x y t2, ty, pos, af, g⟩ ev s K = wbin P .leq t x y (ev x) (ev y) fun v => K v s := rfl
theorem o_gtr : wop P w0 ⟨d, .binOp .gtr t x y t2, ty, pos, af, g⟩ ev s K = wbin P .gtr t x y (ev x) (ev y) fun v => K v s := rfl
theorem o_geq : wop P w0 ⟨d, .binOp .geq t x y t2, ty, pos, af, g⟩ ev s K = wbin P .geq t x y (ev x) (ev y) fun v => K v s := rfl
theorem f_add : wfop P ⟨d, .binOp .add t x y t2, ty, pos, af, g⟩ ev s F = wbin P .add t x y (ev x) (ev y) fun v => F v s none := rfl
theorem f_sub : wfop P ⟨d, .binOp .sub t x y t2, ty, pos, af, g⟩ ev s F = wbin P .sub t x y (ev x) (ev y) fun v => F v s none := rfl
theorem f_mul : wfop P ⟨d, .binOp .mul t x y t2, ty, pos, af, g⟩ ev s F = wbin P .mul t x y (ev x) (ev y) fun v => F v s none := rfl
theorem f_quo : wfop P ⟨d, .binOp .quo t x y t2, ty, pos, af, g⟩ ev s F = wbin P .quo t x y (ev x) (ev y) fun v => F v s none := rfl
theorem f_rem : wfop P ⟨d, .binOp .rem t x y t2, ty, pos, af, g⟩ ev s F = wbin P .rem t x y (ev x) (ev y) fun v => F v s none := rfl
theorem f_lss : wfop P ⟨d, .binOp .lss t x y t2, ty, pos, af, g⟩ ev s F = wbin P .lss t x y (ev x) (ev y) fun v => F v s none := rfl
theorem f_leq : wfop P ⟨d, .binOp .leq t x y t2, ty, pos, af, g⟩ ev s F = wbin P .leq t x y (ev x) (ev y) fun v => F v s none := rfl
theorem f_gtr : wfop P ⟨d, .binOp .gtr t x y t2, ty, pos, af, g⟩ ev s F = wbin P .gtr t x y (ev x) (ev y) fun v => F v s none := rfl
theorem f_geq : wfop P ⟨d, .binOp .geq t x y t2, ty, pos, af, g⟩ ev s F = wbin P .geq t x y (ev x) (ev y) fun v => F v s none := rfl

/-- Alike or not: pointers are read, all else is reckoned. -/
def weq (P : Program) (op : BinOp) (t ty : TypeId) (ox oy : Operand) (x y : Value) (pu : (Value → Prop)) (rd : Prop) : Prop := match x, y with
  | .pointer (some _), .pointer (some _) => rd
  | x, y => wbin P op t ox oy x y pu
theorem weq_congr {op : BinOp} {t ty : TypeId} {ox oy : Operand} {x y x' y' : Value} {pu : (Value → Prop)} {rd : Prop} (hx : x = x') (hy : y = y') {jp : Prop} (hj : (True ∧ True) = jp) : weq P op t ty ox oy x y pu rd = weq P op t ty ox oy x' y' pu rd := by rw [hx, hy]
attribute [congr] weq_congr
theorem o_eql : wop P w0 ⟨d, .binOp .eql t x y t2, ty, pos, af, g⟩ ev s K = weq P .eql t ty x y (ev x) (ev y) (fun v => K v s) (must (cread P ev s (.binOp .eql t x y t2)) fun v => shape P ty v fun v => K v s) := by
  unfold wop weq
  simp only [kindOf, wpu]
  generalize ev x = u
  generalize ev y = v
  cases u <;> try rfl
  rename_i p
  cases p <;> try rfl
  cases v <;> try rfl
  rename_i q
  cases q <;> rfl
theorem o_neq : wop P w0 ⟨d, .binOp .neq t x y t2, ty, pos, af, g⟩ ev s K = weq P .neq t ty x y (ev x) (ev y) (fun v => K v s) (must (cread P ev s (.binOp .neq t x y t2)) fun v => shape P ty v fun v => K v s) := by
  unfold wop weq
  simp only [kindOf, wpu]
  generalize ev x = u
  generalize ev y = v
  cases u <;> try rfl
  rename_i p
  cases p <;> try rfl
  cases v <;> try rfl
  rename_i q
  cases q <;> rfl
theorem f_eql : wfop P ⟨d, .binOp .eql t x y t2, ty, pos, af, g⟩ ev s F = weq P .eql t ty x y (ev x) (ev y) (fun v => F v s none) (must (cread P ev s (.binOp .eql t x y t2)) fun v => shape P ty v fun v => F v s (some v)) := by
  unfold wfop weq
  simp only [kindOf, wpu]
  generalize ev x = u
  generalize ev y = v
  cases u <;> try rfl
  rename_i p
  cases p <;> try rfl
  cases v <;> try rfl
  rename_i q
  cases q <;> rfl
theorem f_neq : wfop P ⟨d, .binOp .neq t x y t2, ty, pos, af, g⟩ ev s F = weq P .neq t ty x y (ev x) (ev y) (fun v => F v s none) (must (cread P ev s (.binOp .neq t x y t2)) fun v => shape P ty v fun v => F v s (some v)) := by
  unfold wfop weq
  simp only [kindOf, wpu]
  generalize ev x = u
  generalize ev y = v
  cases u <;> try rfl
  rename_i p
  cases p <;> try rfl
  cases v <;> try rfl
  rename_i q
  cases q <;> rfl
theorem eq_pp {op : BinOp} {a b : Addr} {pu : Value → Prop} {rd : Prop} : weq P op t ty x y (.pointer (some a)) (.pointer (some b)) pu rd = rd := rfl
theorem eq_p0 {op : BinOp} {a : Option Addr} {pu : Value → Prop} {rd : Prop} : weq P op t ty x y (.pointer a) (.pointer none) pu rd = wbin P op t x y (.pointer a) (.pointer none) pu := by cases a <;> rfl
theorem eq_int {op : BinOp} {k k2 : IntKind} {a b : Int} {pu : Value → Prop} {rd : Prop} : weq P op t ty x y (.int k a) (.int k2 b) pu rd = wbin P op t x y (.int k a) (.int k2 b) pu := rfl
theorem eq_bool {op : BinOp} {a b : Bool} {pu : Value → Prop} {rd : Prop} : weq P op t ty x y (.bool a) (.bool b) pu rd = wbin P op t x y (.bool a) (.bool b) pu := rfl
theorem eq_string {op : BinOp} {a b : ByteArray} {pu : Value → Prop} {rd : Prop} : weq P op t ty x y (.string a) (.string b) pu rd = wbin P op t x y (.string a) (.string b) pu := rfl
theorem eq_agg {op : BinOp} {a b : Array Value} {pu : Value → Prop} {rd : Prop} : weq P op t ty x y (.agg a) (.agg b) pu rd = wbin P op t x y (.agg a) (.agg b) pu := rfl
theorem eq_slice {op : BinOp} {a : Option Addr} {m c : Nat} {v : Value} {pu : Value → Prop} {rd : Prop} : weq P op t ty x y (.slice a m c) v pu rd = wbin P op t x y (.slice a m c) v pu := rfl
theorem eq_map {op : BinOp} {a : Option Nat} {v : Value} {pu : Value → Prop} {rd : Prop} : weq P op t ty x y (.map a) v pu rd = wbin P op t x y (.map a) v pu := rfl

section
variable {k : IntKind} {a b : Int} {G : Value → Prop}
theorem b_add : wbin P .add t x y (.int k a) (.int k b) G = wval (.int k (k.wrap (a + b))) G := by simp [wbin, wval]
theorem b_sub : wbin P .sub t x y (.int k a) (.int k b) G = wval (.int k (k.wrap (a - b))) G := by simp [wbin, wval]
theorem b_mul : wbin P .mul t x y (.int k a) (.int k b) G = wval (.int k (k.wrap (a * b))) G := by simp [wbin, wval]
theorem b_quo : wbin P .quo t x y (.int k a) (.int k b) G = (b ≠ 0 ∧ wval (.int k (k.wrap (a.tdiv b))) G) := by simp [wbin, wval]
theorem b_rem : wbin P .rem t x y (.int k a) (.int k b) G = (b ≠ 0 ∧ wval (.int k (a.tmod b)) G) := by simp [wbin, wval]
theorem b_shl {k2 : IntKind} : wbin P .shl t x y (.int k a) (.int k2 b) G = (0 ≤ b ∧ wval (.int k (k.wrap (a * 2 ^ (min b.toNat k.bits)))) G) := rfl
theorem b_shr {k2 : IntKind} : wbin P .shr t x y (.int k a) (.int k2 b) G = (0 ≤ b ∧ wval (.int k (a.fdiv (2 ^ (min b.toNat k.bits)))) G) := rfl
theorem b_eql : wbin P .eql t x y (.int k a) (.int k b) G = wval (.bool (decide (a = b))) G := by simp [wbin, wval]
theorem b_neq : wbin P .neq t x y (.int k a) (.int k b) G = wval (.bool (!decide (a = b))) G := by simp [wbin, wval]
theorem b_lss : wbin P .lss t x y (.int k a) (.int k b) G = wval (.bool (decide (a < b))) G := by simp [wbin, wval]
theorem b_leq : wbin P .leq t x y (.int k a) (.int k b) G = wval (.bool (decide (a ≤ b))) G := by simp [wbin, wval]
theorem b_gtr : wbin P .gtr t x y (.int k a) (.int k b) G = wval (.bool (decide (b < a))) G := by simp [wbin, wval]
theorem b_geq : wbin P .geq t x y (.int k a) (.int k b) G = wval (.bool (decide (b ≤ a))) G := by simp [wbin, wval]
theorem b_sadd {a b : ByteArray} : wbin P .add t x y (.string a) (.string b) G = (a.size + b.size ≤ 9223372036854775807 ∧ wval (.string (a ++ b)) G) := rfl
theorem b_seql {a b : ByteArray} : wbin P .eql t x y (.string a) (.string b) G = wval (.bool (decide (a = b))) G := rfl
theorem b_sneq {a b : ByteArray} : wbin P .neq t x y (.string a) (.string b) G = wval (.bool (!decide (a = b))) G := rfl
end

end

theorem g3_split {e : Nat} {b want : Bool} {env : Env} {yes no : Env → Prop} (h1 : b = want → yes (upd env e (.bool want))) (h2 : b = !want → no (upd env e (.bool !want))) : wguard3 e (.bool b) want env yes no := ⟨h1, h2⟩
theorem c2_split {e : Nat} {b : Bool} {env : Env} {p q : Env → Prop} (h1 : b = true → p (upd env e (.bool true))) (h2 : b = false → q (upd env e (.bool false))) : wcond2 e (.bool b) env p q := ⟨h1, h2⟩
theorem p_split {b : Bool} {x y : Value} {K : Value → Prop} (h1 : b = true → K x) (h2 : b = false → K y) : wpick (.bool b) x y K := ⟨h1, h2⟩
theorem m_some {v : Value} {K : Value → Prop} : must (some v) K = K v := by simp [must]
theorem s_int {t : TypeId} {k : IntKind} {m : Int} {K : Value → Prop} (h : P.underlying t = some (.int k)) : shape P t (.int k m) K = K (.int k m) := by simp [shape, h]
theorem s_bool {t : TypeId} {b : Bool} {K : Value → Prop} (h : P.underlying t = some .bool) : shape P t (.bool b) K = K (.bool b) := by simp [shape, h]
theorem s_string {t : TypeId} {b : ByteArray} {K : Value → Prop} (h : P.underlying t = some .string) : shape P t (.string b) K = K (.string b) := by simp [shape, h]
theorem i_zero {v : Value} {l : List Value} : init (v :: l) 0 = v := rfl
theorem i_succ {v : Value} {l : List Value} {j : Nat} : init (v :: l) (j + 1) = init l j := rfl
theorem i_nil {j : Nat} : init [] j = undef := rfl

theorem callOk_spec {f : FuncId} (h : callOk P f = true) : ∃ fn, P.funcs[f]? = some fn ∧ (fn.body.isSome && fn.name != "runtime.NumGoroutine") = true := by
  unfold callOk at h
  split at h
  · rename_i fn hf; exact ⟨fn, hf, h⟩
  · cases h
theorem o_call {d : Option Tmp} {ty : TypeId} {pos : String} {af : Array Edge} {g : Option (Nat × Bool)} {ev : Operand → Value} {s : St M} {K : Value → St M → Prop} {c : Call} {f : FuncId} (hc : c.callee = .value (.func f)) (hev : ev (.func f) = .func (.func f) #[] #[]) (hok : callOk P f = true) :
    wop P w0 ⟨d, .call c, ty, pos, af, g⟩ ev s K = CCalls P w0 f (c.args.map ev) s fun v s' => shape P ty v fun v => K v s' := by
  obtain ⟨fn, h1, h2⟩ := callOk_spec hok
  unfold wop
  simp only [kindOf, hc, ccallee, hev, h1, h2, if_true, Array.empty_append, Array.append_empty]
end
end Go.Cs
