/- Conversions, step by step. A lemma file: no statement of its own. -/
import Derived.Test.YtlijgnofegjnmaaCs20
set_option linter.unusedSimpArgs false
set_option linter.unusedVariables false
set_option linter.unusedSectionVars false
namespace Go.Cs
section
variable {M : Type} [Mem M] {P : Program} {w0 : World} {ord : Ord} {n : Nat}
variable {d : Option Tmp} {ty : TypeId} {pos : String} {af : Array Edge} {g : Option (Nat × Bool)} {ev : Operand → Value} {s : St M} {K : Value → St M → Prop} {F : Value → St M → Option Value → Prop} {x y : Operand} {t t2 : TypeId}

section
variable {Q : Exit → Env → St M → Prop} {env : Env} {c c2 : Code} {id : Nat} {ops : Array Oper} {QQ : Env → St M → Prop}
theorem w_skip : wvc P w0 ord n .skip Q env s = Q .normal env s := rfl
theorem w_region {l : List Oper} : wvc P w0 ord n (.region id l.toArray false) Q env s = wreg P w0 l.toArray (Q .normal) l env s := rfl
def wregD0 (P : Program) (w0 : World) (ops : Array Oper) (QQ : Env → St M → Prop) (l : List DI) (env : Env) (s : St M) : Prop := wregD P w0 ops QQ l [] env s
theorem wregD0_congr {l l' : List DI} {jp : Prop} (h : l = l') (hj : (True ∧ True) = jp) : wregD0 P w0 ops QQ l env s = wregD0 P w0 ops QQ l' env s := by rw [h]
attribute [congr] wregD0_congr
theorem d_in {l : List DI} : wregD0 P w0 ops QQ l env s = wregD P w0 ops QQ l [] env s := rfl
theorem w_regionD : wvc P w0 ord n (.region id ops true) Q env s = wregD0 P w0 ops (Q .normal) (ordOf ord id) env s := rfl
theorem w_seq : wvc P w0 ord n (.seq c c2) Q env s = wvc P w0 ord n c (wthen (wvc P w0 ord n c2 Q) Q) env s := rfl
theorem w_cond {o : Operand} : wvc P w0 ord n (.cond o c c2) Q env s = wcond o env (fun env => wvc P w0 ord n c Q env s) (fun env => wvc P w0 ord n c2 Q env s) := rfl
theorem w_block : wvc P w0 ord n (.block id c) Q env s = wvc P w0 ord n c (wblock id Q) env s := rfl
theorem w_loop : wvc P w0 ord n (.loop c) Q env s = WLoop P w0 ord n c Q env s := rfl
theorem w_scope : wvc P w0 ord n (.scope c) Q env s = WScope P w0 ord n c c Q env s := rfl
theorem w_exit : wvc P w0 ord n (.exit id) Q env s = Q (.exit id) env s := rfl
theorem w_label : wvc P w0 ord n (.label id) Q env s = Q .normal env s := rfl
theorem w_goto : wvc P w0 ord n (.goto id) Q env s = Q (.goto id) env s := rfl
theorem w_ret : wvc P w0 ord n .ret Q env s = Q .ret env s := rfl
theorem w_nil : wreg P w0 ops QQ [] env s = QQ env s := rfl
theorem w_cons {o : Oper} {rest : List Oper} : wreg P w0 ops QQ (o :: rest) env s = wguard ops o env (fun env => wop P w0 o (wev env) s fun v s' => wreg P w0 ops QQ rest (wput env o.dst v) s') (fun env => wreg P w0 ops QQ rest (wput env o.dst undef) s) := rfl
theorem d_nil {fl : List WF} : wregD P w0 ops QQ [] fl env s = QQ env s := rfl
def wreg2 (P : Program) (w0 : World) (ops : Array Oper) (QQ : Env → St M → Prop) (d : DI) (rest : List DI) (fl : List WF) (env : Env) (s : St M) (o : Option Oper) : Prop := match o with
    | none => False
    | some o => match d.act with
      | true => wguard ops o env (fun env => wop P w0 o (wev env) s fun v s' => wstill P d.chk s' fl (wregD P w0 ops QQ rest fl (wput env o.dst v) s')) (fun env => wregD P w0 ops QQ rest fl (wput env o.dst undef) s)
      | false => wguard ops o env (fun env => wfop P o (wev env) s fun v s' r => wregD P w0 ops QQ rest (⟨d.i, o.op, env, r⟩ :: fl) (wput env o.dst v) s') (fun env => wregD P w0 ops QQ rest (⟨d.i, o.op, env, none⟩ :: fl) (wput env o.dst undef) s)
theorem wreg2_congr {d : DI} {rest : List DI} {fl : List WF} {o o' : Option Oper} {jp : Prop} (h : o = o') (hj : (True ∧ True) = jp) : wreg2 P w0 ops QQ d rest fl env s o = wreg2 P w0 ops QQ d rest fl env s o' := by rw [h]
attribute [congr] wreg2_congr
theorem d_cons {d : DI} {rest : List DI} {fl : List WF} : wregD P w0 ops QQ (d :: rest) fl env s = wreg2 P w0 ops QQ d rest fl env s (ops[d.i]?) := rfl
theorem d2_act {i : Nat} {chk : List Nat} {rest : List DI} {fl : List WF} {o : Oper} : wreg2 P w0 ops QQ ⟨i, true, chk⟩ rest fl env s (some o) = wguard ops o env (fun env => wop P w0 o (wev env) s fun v s' => wstill P chk s' fl (wregD P w0 ops QQ rest fl (wput env o.dst v) s')) (fun env => wregD P w0 ops QQ rest fl (wput env o.dst undef) s) := rfl
theorem d2_pass {i : Nat} {chk : List Nat} {rest : List DI} {fl : List WF} {o : Oper} : wreg2 P w0 ops QQ ⟨i, false, chk⟩ rest fl env s (some o) = wguard ops o env (fun env => wfop P o (wev env) s fun v s' r => wregD P w0 ops QQ rest (⟨i, o.op, env, r⟩ :: fl) (wput env o.dst v) s') (fun env => wregD P w0 ops QQ rest (⟨i, o.op, env, none⟩ :: fl) (wput env o.dst undef) s) := rfl
theorem st_nil {chk : List Nat} {K : Prop} : wstill P chk s [] K = K := rfl
theorem st_none {chk : List Nat} {fl : List WF} {K : Prop} {i : Nat} {op : Op} {e : Env} : wstill P chk s (⟨i, op, e, none⟩ :: fl) K = wstill P chk s fl K := rfl
def wst2 (P : Program) (chk : List Nat) (s : St M) (fl : List WF) (op : Op) (e : Env) (v : Value) (K : Prop) (b : Bool) : Prop := match b with
      | true => cread P (wev e) s op = some v ∧ wstill P chk s fl K
      | false => wstill P chk s fl K
theorem wst2_congr {chk : List Nat} {fl : List WF} {op : Op} {e : Env} {v : Value} {K : Prop} {b b' : Bool} {jp : Prop} (h : b = b') (hj : (True ∧ True) = jp) : wst2 P chk s fl op e v K b = wst2 P chk s fl op e v K b' := by rw [h]
attribute [congr] wst2_congr
theorem st_some {chk : List Nat} {fl : List WF} {K : Prop} {i : Nat} {op : Op} {e : Env} {v : Value} : wstill P chk s (⟨i, op, e, some v⟩ :: fl) K = wst2 P chk s fl op e v K (chk.contains i) := by
  unfold wstill
  dsimp only
  cases chk.contains i <;> rfl
theorem st2_true {chk : List Nat} {fl : List WF} {op : Op} {e : Env} {v : Value} {K : Prop} : wst2 P chk s fl op e v K true = (cread P (wev e) s op = some v ∧ wstill P chk s fl K) := rfl
theorem st2_false {chk : List Nat} {fl : List WF} {op : Op} {e : Env} {v : Value} {K : Prop} : wst2 P chk s fl op e v K false = wstill P chk s fl K := rfl
theorem t_normal {K : Env → St M → Prop} : wthen K Q .normal env s = K env s := rfl
theorem t_ret {K : Env → St M → Prop} : wthen K Q .ret env s = Q .ret env s := rfl
theorem t_exit {K : Env → St M → Prop} : wthen K Q (.exit id) env s = Q (.exit id) env s := rfl
theorem t_goto {K : Env → St M → Prop} : wthen K Q (.goto id) env s = Q (.goto id) env s := rfl
theorem bl_normal : wblock id Q .normal env s = Q .normal env s := rfl
theorem bl_ret : wblock id Q .ret env s = Q .ret env s := rfl
theorem bl_goto {j : Nat} : wblock id Q (.goto j) env s = Q (.goto j) env s := rfl
def wbl2 (Q : Exit → Env → St M → Prop) (j : Nat) (env : Env) (s : St M) (b : Bool) : Prop := match b with
  | true => Q .normal env s
  | false => Q (.exit j) env s
theorem wbl2_congr {j : Nat} {b b' : Bool} {jp : Prop} (h : b = b') (hj : (True ∧ True) = jp) : wbl2 Q j env s b = wbl2 Q j env s b' := by rw [h]
attribute [congr] wbl2_congr
theorem bl_exit {j : Nat} : wblock id Q (.exit j) env s = wbl2 Q j env s (decide (j = id)) := by
  unfold wbl2
  simp only [wblock]
  by_cases h : j = id
  · simp [h]
  · simp [h]
theorem bl2_true {j : Nat} : wbl2 Q j env s true = Q .normal env s := rfl
theorem bl2_false {j : Nat} : wbl2 Q j env s false = Q (.exit j) env s := rfl
theorem bo_normal {rs : List ResultVar} {R : Value → St M → Prop} : wbody P rs R .normal env s = wret P rs R env s := rfl
theorem bo_ret {rs : List ResultVar} {R : Value → St M → Prop} : wbody P rs R .ret env s = wret P rs R env s := rfl
def wret2 (R : Value → St M → Prop) (s : St M) (o : Option (List Value)) : Prop := match o with
  | some [v] => R v s
  | some vs => R (.tuple vs.toArray) s
  | none => False
theorem wret2_congr {R : Value → St M → Prop} {o o' : Option (List Value)} {jp : Prop} (h : o = o') (hj : (True ∧ True) = jp) : wret2 R s o = wret2 R s o' := by rw [h]
attribute [congr] wret2_congr
theorem r_ret {rs : List ResultVar} {R : Value → St M → Prop} : wret P rs R env s = wret2 R s (wresults P env s rs) := rfl
theorem r_one {R : Value → St M → Prop} {v : Value} : wret2 R s (some [v]) = R v s := rfl
theorem r_none {R : Value → St M → Prop} : wret2 R s (some []) = R (.tuple #[]) s := rfl
theorem r_more {R : Value → St M → Prop} {v v2 : Value} {l : List Value} : wret2 R s (some (v :: v2 :: l)) = R (.tuple (v :: v2 :: l).toArray) s := rfl
theorem rs_nil : wresults P env s [] = some [] := rfl
def wrs2 (v : Option Value) (l : Option (List Value)) : Option (List Value) := match v, l with
    | some v, some vs => some (v :: vs)
    | _, _ => none
theorem rs_cons {r : ResultVar} {l : List ResultVar} : wresults P env s (r :: l) = wrs2 (wresult P env s r) (wresults P env s l) := rfl
theorem rs2 {v : Value} {l : List Value} : wrs2 (some v) (some l) = some (v :: l) := rfl
theorem rs_tmp {t : Tmp} : wresult P env s (.tmp t) = some (env t) := rfl
def wrc2 (P : Program) (t : TypeId) (s : St M) (v : Value) : Option Value := match v with
    | .pointer (some ad) => cload P t ad s
    | _ => none
theorem rs_cell {a : Tmp} {t : TypeId} : wresult P env s (.cell a t) = wrc2 P t s (env a) := rfl
theorem rs_cell2 {ad : Addr} {t : TypeId} : wrc2 P t s (.pointer (some ad)) = cload P t ad s := rfl
theorem ev_tmp {t : Tmp} : wev env (.tmp t) = env t := rfl
theorem ev_const {v : Value} : wev env (.const v) = v := rfl
theorem ev_func {f : FuncId} : wev env (.func f) = .func (.func f) #[] #[] := rfl
theorem put_some {d : Tmp} {v : Value} : wput env (some d) v = upd env d v := rfl
theorem put_none {v : Value} : wput env none v = env := rfl
theorem or_hit {id : Nat} {l : List DI} {rest : Ord} : ordOf ((id, l) :: rest) id = l := by simp [ordOf]
theorem or_miss {id j : Nat} {l : List DI} {rest : Ord} (h : ¬ j = id) : ordOf ((j, l) :: rest) id = ordOf rest id := by simp [ordOf, h]
end

/-- A conversion: numbers and strings are reckoned, all else is as it is for any operation. -/
def wcv (P : Program) (src dst : TypeId) (v : Value) (pu : Value → Prop) (other : Prop) : Prop := match v with
  | .int _ m => match P.underlying src, P.underlying dst with
    | some _, some (.int k) => pu (.int k (k.wrap m))
    | _, _ => other
  | _ => other
theorem wcv_congr {src dst : TypeId} {v v' : Value} {pu : Value → Prop} {other : Prop} (h : v = v') {jp : Prop} (hj : (True ∧ True) = jp) : wcv P src dst v pu other = wcv P src dst v' pu other := by rw [h]
attribute [congr] wcv_congr
def wcv2 (a b : Option TypeDesc) (m : Int) (pu : Value → Prop) (other : Prop) : Prop := match a, b with
    | some _, some (.int k) => pu (.int k (k.wrap m))
    | _, _ => other
theorem wcv2_congr {a b a' b' : Option TypeDesc} {m : Int} {pu : Value → Prop} {other : Prop} (h : a = a') (h2 : b = b') {jp : Prop} (hj : (True ∧ True) = jp) : wcv2 a b m pu other = wcv2 a' b' m pu other := by rw [h, h2]
attribute [congr] wcv2_congr
theorem cv_int {src dst : TypeId} {k2 : IntKind} {m : Int} {pu : Value → Prop} {other : Prop} : wcv P src dst (.int k2 m) pu other = wcv2 (P.underlying src) (P.underlying dst) m pu other := rfl
theorem cv2_int {a : TypeDesc} {k : IntKind} {m : Int} {pu : Value → Prop} {other : Prop} : wcv2 (some a) (some (.int k)) m pu other = wval (.int k (k.wrap m)) pu := rfl
theorem cv2_string {a : TypeDesc} {m : Int} {pu : Value → Prop} {other : Prop} : wcv2 (some a) (some .string) m pu other = other := rfl
theorem cv_string {src dst : TypeId} {v : ByteArray} {pu : Value → Prop} {other : Prop} : wcv P src dst (.string v) pu other = other := rfl
theorem cv_slice {src dst : TypeId} {v : Option Addr} {i j : Nat} {pu : Value → Prop} {other : Prop} : wcv P src dst (.slice v i j) pu other = other := rfl
def wopx (P : Program) (w0 : World) (o : Oper) (ev : Operand → Value) (s : St M) (K : Value → St M → Prop) : Prop := wop P w0 o ev s K
theorem wopx_congr {o : Oper} {ev : Operand → Value} {s : St M} {K : Value → St M → Prop} {jp : Prop} (hj : (True ∧ True) = jp) : wopx P w0 o ev s K = wopx P w0 o ev s K := rfl
attribute [congr] wopx_congr
theorem o_convert {src dst : TypeId} : wop P w0 ⟨d, .convert src dst x, ty, pos, af, g⟩ ev s K = wcv P src dst (ev x) (fun v => K v s) (wopx P w0 ⟨d, .convert src dst x, ty, pos, af, g⟩ ev s K) := by
  unfold wcv wopx
  split
  · rename_i k m hv
    split
    · rename_i k2 h1 h2; unfold wop; simp [kindOf, wpu, hv, h1, h2]
    · rfl
  · rfl
def wfopx (P : Program) (o : Oper) (ev : Operand → Value) (s : St M) (F : Value → St M → Option Value → Prop) : Prop := wfop P o ev s F
theorem wfopx_congr {o : Oper} {ev : Operand → Value} {s : St M} {K : Value → St M → Option Value → Prop} {jp : Prop} (hj : (True ∧ True) = jp) : wfopx P o ev s K = wfopx P o ev s K := rfl
attribute [congr] wfopx_congr
theorem f_convert {src dst : TypeId} : wfop P ⟨d, .convert src dst x, ty, pos, af, g⟩ ev s F = wcv P src dst (ev x) (fun v => F v s none) (wfopx P ⟨d, .convert src dst x, ty, pos, af, g⟩ ev s F) := by
  unfold wcv wfopx
  split
  · rename_i k m hv
    split
    · rename_i k2 h1 h2; unfold wfop; simp [kindOf, wpu, hv, h1, h2]
    · rfl
  · rfl

theorem o_cal {args : Array Operand} {ats : Array TypeId} {f : FuncId} {env : Env} (hok : callOk P f = true) :
    wop P w0 ⟨d, .call ⟨.value (.func f), args, ats⟩, ty, pos, af, g⟩ (wev env) s K = CCalls P w0 f (args.map (wev env)) s fun v s' => shape P ty v fun v => K v s' := o_call rfl rfl hok

/-- A value of a type, by the type's kind. -/
def shape2 (td : Option TypeDesc) (v : Value) (K : Value → Prop) : Prop := match td with
  | some (.int k) => ∃ n, v = .int k n ∧ K (.int k n)
  | some .bool => ∃ b, v = .bool b ∧ K (.bool b)
  | some .string => ∃ x, v = .string x ∧ K (.string x)
  | _ => K v
theorem shape2_congr {td td' : Option TypeDesc} {v v' : Value} {K : Value → Prop} (h : td = td') (h2 : v = v') {jp : Prop} (hj : (True ∧ True) = jp) : shape2 td v K = shape2 td' v' K := by rw [h, h2]
attribute [congr] shape2_congr
theorem sh {t : TypeId} {v : Value} {K : Value → Prop} : shape P t v K = shape2 (P.underlying t) v K := rfl
section
variable {K : Value → Prop} {v : Value}
theorem sh_int {k : IntKind} {m : Int} : shape2 (some (.int k)) (.int k m) K = K (.int k m) := by simp [shape2]
theorem sh_bool {b : Bool} : shape2 (some .bool) (.bool b) K = K (.bool b) := by simp [shape2]
theorem sh_string {b : ByteArray} : shape2 (some .string) (.string b) K = K (.string b) := by simp [shape2]
theorem sh_pointer {t : TypeId} : shape2 (some (.pointer t)) v K = K v := rfl
theorem sh_slice {t : TypeId} : shape2 (some (.slice t)) v K = K v := rfl
theorem sh_array {t : TypeId} {m : Nat} : shape2 (some (.array m t)) v K = K v := rfl
theorem sh_map {t t2 : TypeId} : shape2 (some (.map t t2)) v K = K v := rfl
theorem sh_struct {fs : Array Field} : shape2 (some (.struct fs)) v K = K v := rfl
theorem sh_func {a b : Array TypeId} {c : Bool} : shape2 (some (.func a b c)) v K = K v := rfl
theorem sh_interface {a : Array (String × TypeId)} : shape2 (some (.interface a)) v K = K v := rfl
theorem sh_tuple {a : Array TypeId} : shape2 (some (.tuple a)) v K = K v := rfl
theorem sh_invalid : shape2 (some .invalid) v K = K v := rfl
theorem sh_none : shape2 none v K = K v := rfl
end
end
end Go.Cs
