/- Regions that draw their order, over the clean memory: one order stands for all. A lemma file: no statement of its own. -/
import Derived.Test.YtlijgnofegjnmaaCs13
set_option linter.unusedSimpArgs false
set_option linter.unusedVariables false
namespace Go.Cs

/-- Does an operation act (so that it keeps its place among those that do)? -/
def acts (P : Program) (o : Oper) : Bool := (Region.marks P.types o.op).effect

def bindsAll (o : Oper) : List Nat := (o.after.toList.filter (Region.binds .any)).map (·.on)

/-- The earlier operations of each go ahead of it; what follows one that acts hangs on it. -/
def chkOrder (P : Program) (ops : Array Oper) (bf : Array Nat) : List Nat → List Nat → Bool
  | _, [] => true
  | pre, i :: rest => match ops[i]? with
    | none => false
    | some o => !rest.contains i && (bindsAll o).all (fun j => pre.contains j) && (!acts P o || rest.all fun x => (bf.getD x 0).testBit i) && chkOrder P ops bf (pre ++ [i]) rest

/-- What an operation hangs on, it hangs on by a chain of edges. -/
def chkTable (ops : Array Oper) (bf : Array Nat) : Bool :=
  (List.range ops.size).all fun i => match ops[i]? with
    | none => false
    | some o => (List.range ops.size).all fun j => !(bf.getD i 0).testBit j || (bindsAll o).any fun k => k < i && (k == j || (bf.getD k 0).testBit j)

/-- Who writes a variable that another one looks at, or writes. -/
def chkTmps (P : Program) (ops : Array Oper) (bf : Array Nat) : Bool :=
  (List.range ops.size).all fun i => match ops[i]? with
    | none => false
    | some oi =>
      (match oi.guard with | none => true | some (g, _) => (bf.getD i 0).testBit g) &&
      (match oi.dst with | none => true | some d => acts P oi || !((oi.looksAt ops).contains d)) &&
      (List.range ops.size).all fun j => i == j || (match ops[j]? with
        | none => false
        | some oj => match oj.dst with
          | none => true
          | some d =>
            (!((oi.looksAt ops).contains d) || (bf.getD i 0).testBit j || (acts P oj && (bf.getD j 0).testBit i)) &&
            (oi.dst != some d || (acts P oi && acts P oj)))

def drawOk (P : Program) (ops : Array Oper) (canon : List Nat) : Bool :=
  let bf := Region.before ops
  ((List.range ops.size).all fun i => canon.contains i) && chkTable ops bf && chkTmps P ops bf && chkOrder P ops bf [] canon

/-- The order in which what does not act goes as early as it can. -/
def asapGo (P : Program) (ops : Array Oper) : Nat → List Nat → List Nat → List Nat
  | 0, _, acc => acc.reverse
  | fuel + 1, left, acc =>
    let ready (i : Nat) : Bool := match ops[i]? with | none => false | some o => (bindsAll o).all fun j => acc.contains j
    match left.find? (fun i => ready i && (match ops[i]? with | none => false | some o => !acts P o)) with
    | some i => asapGo P ops fuel (left.filter (· != i)) (i :: acc)
    | none => match left.find? ready with
      | some i => asapGo P ops fuel (left.filter (· != i)) (i :: acc)
      | none => acc.reverse

def asap (P : Program) (ops : Array Oper) : List Nat := asapGo P ops ops.size (List.range ops.size) []

section
variable {M : Type} [Mem M] (P : Program) (w0 : World)

/-- An operation that does not act: its value, the memory, and what must stay so. -/
def fstep (o : Oper) (ev : Operand → Value) (s : St M) (K : Value → St M → Option Value → Prop) : Prop :=
  (∃ v, cpure P ev o.type o.op = some v ∧ K v s none) ∨ (∃ v, cread P ev s o.op = some v ∧ K v s (some v)) ∨ (∃ B f, calloc P ev o.op = some (B, f) ∧ K (f s.next) (s.new B) none)

/-- What has been read ahead of an act, and may be read behind it. -/
structure Fl (M : Type) where
  i : Nat
  op : Op
  ev : Operand → Value
  v : Option Value

def Fl.still (f : Fl M) (P : Program) (s : St M) : Prop := match f.v with
  | none => True
  | some v => cread P f.ev s f.op = some v

def stillAll (P : Program) (s : St M) : List (Fl M) → Prop → Prop
  | [], K => K
  | f :: l, K => match f.v with
    | none => stillAll P s l K
    | some v => cread P f.ev s f.op = some v ∧ stillAll P s l K

def cregionD (ops : Array Oper) (bf : Array Nat) (Q : Act → St M → Prop) : List Nat → List (Fl M) → Act → St M → Prop
  | [], _, a, s => Q a s
  | i :: rest, fl, a, s => match ops[i]? with
    | none => False
    | some o => match cwanted ops o a.tmps with
      | none => False
      | some false => cregionD ops bf Q rest (if acts P o then fl else ⟨i, o.op, a.eval, none⟩ :: fl) (a.put o.dst undef) s
      | some true => match o.op.operands.all opOk with
        | true =>
          if acts P o then cstep P w0 o a.eval s fun v s' => stillAll P s' (fl.filter fun f => !(bf.getD i 0).testBit f.i) (cregionD ops bf Q rest fl (a.put o.dst v) s')
          else fstep P o a.eval s fun v s' r => cregionD ops bf Q rest (⟨i, o.op, a.eval, r⟩ :: fl) (a.put o.dst v) s'
        | false => False
end

section
variable {M : Type} [Mem M] {P : Program} {w0 : World}

theorem stillAll_spec {s : St M} {K : Prop} : ∀ (l : List (Fl M)), stillAll P s l K → K ∧ ∀ f ∈ l, f.still P s := by
  intro l
  induction l with
  | nil => intro h; exact ⟨h, fun f hf => by cases hf⟩
  | cons x l ih =>
    intro h
    simp only [stillAll] at h
    split at h
    · rename_i e
      obtain ⟨h1, h2⟩ := ih h
      refine ⟨h1, fun f hf => ?_⟩
      rcases List.mem_cons.1 hf with rfl | hf
      · unfold Fl.still; rw [e]; trivial
      · exact h2 f hf
    · rename_i v e
      obtain ⟨h1, h2⟩ := ih h.2
      refine ⟨h1, fun f hf => ?_⟩
      rcases List.mem_cons.1 hf with rfl | hf
      · unfold Fl.still; rw [e]; exact h.1
      · exact h2 f hf

/-- The static facts of a region that draws. -/
structure Stat (P : Program) (ops : Array Oper) (bf : Array Nat) (canon : List Nat) : Prop where
  nodup : canon.Nodup
  mem : ∀ i : Nat, i ∈ canon ↔ i < ops.size
  tab : ∀ (i j : Nat) (o : Oper), ops[i]? = some o → (bf.getD i 0).testBit j = true → j < ops.size → ∃ k ∈ bindsAll o, k < i ∧ (k = j ∨ (bf.getD k 0).testBit j = true)
  guard : ∀ (i : Nat) (o : Oper) (g : Nat) (want : Bool), ops[i]? = some o → o.guard = some (g, want) → (bf.getD i 0).testBit g = true
  looks : ∀ (i j : Nat) (oi oj : Oper) (d : Tmp), ops[i]? = some oi → ops[j]? = some oj → i ≠ j → oj.dst = some d → d ∈ oi.looksAt ops → (bf.getD i 0).testBit j = true ∨ (acts P oj = true ∧ (bf.getD j 0).testBit i = true)
  self : ∀ (i : Nat) (o : Oper) (d : Tmp), ops[i]? = some o → o.dst = some d → acts P o = false → d ∉ o.looksAt ops
  dsts : ∀ (i j : Nat) (oi oj : Oper) (d : Tmp), ops[i]? = some oi → ops[j]? = some oj → i ≠ j → oj.dst = some d → oi.dst = some d → acts P oi = true ∧ acts P oj = true
  before : ∀ (pre : List Nat) (i : Nat) (rest : List Nat) (o : Oper), canon = pre ++ i :: rest → ops[i]? = some o → ∀ j ∈ bindsAll o, j ∈ pre
  later : ∀ (pre : List Nat) (i : Nat) (rest : List Nat) (o : Oper), canon = pre ++ i :: rest → ops[i]? = some o → acts P o = true → ∀ x ∈ rest, (bf.getD x 0).testBit i = true

theorem chkOrder_spec {ops : Array Oper} {bf : Array Nat} : ∀ (l pre0 : List Nat), chkOrder P ops bf pre0 l = true → l.Nodup ∧ (∀ i ∈ l, i < ops.size) ∧ ∀ (pre : List Nat) (i : Nat) (rest : List Nat) (o : Oper), l = pre ++ i :: rest → ops[i]? = some o →
    (∀ j ∈ bindsAll o, j ∈ pre0 ++ pre) ∧ (acts P o = true → ∀ x ∈ rest, (bf.getD x 0).testBit i = true) := by
  intro l
  induction l with
  | nil => intro pre0 _; exact ⟨.nil, (fun i hi => by cases hi), fun pre i rest o h => by cases pre <;> cases h⟩
  | cons x l ih =>
    intro pre0 h
    simp only [chkOrder] at h
    split at h
    · cases h
    · rename_i ox hox
      simp only [Bool.and_eq_true, List.all_eq_true, List.contains_iff_mem, Bool.or_eq_true, Bool.not_eq_true'] at h
      obtain ⟨⟨⟨h0, h1⟩, h2⟩, h3⟩ := h
      obtain ⟨g1, g2, g3⟩ := ih _ h3
      refine ⟨List.nodup_cons.2 ⟨fun hx => ?_, g1⟩, fun i hi => ?_, fun pre i rest o hl ho => ?_⟩
      · have : l.contains x = true := by simpa using hx
        rw [this] at h0; cases h0
      · rcases List.mem_cons.1 hi with rfl | hi
        · rcases Nat.lt_or_ge i ops.size with h' | h'
          · exact h'
          · rw [Array.getElem?_eq_none h'] at hox; cases hox
        · exact g2 i hi
      · cases pre with
        | nil =>
          simp only [List.nil_append, List.cons.injEq] at hl
          obtain ⟨rfl, rfl⟩ := hl
          rw [hox] at ho; cases ho
          refine ⟨fun j hj => by simpa using h1 j hj, fun ha y hy => ?_⟩
          rcases h2 with h2 | h2
          · rw [ha] at h2; cases h2
          · exact h2 y hy
        | cons y pre =>
          simp only [List.cons_append, List.cons.injEq] at hl
          obtain ⟨rfl, rfl⟩ := hl
          have := g3 pre i rest o rfl ho
          simpa using this

theorem stat_of {ops : Array Oper} {canon : List Nat} (h : drawOk P ops canon = true) : Stat P ops (Region.before ops) canon := by
  unfold drawOk at h
  simp only [Bool.and_eq_true] at h
  obtain ⟨⟨⟨h2, h3⟩, h4⟩, h5⟩ := h
  simp only [List.all_eq_true, List.mem_range, List.contains_iff_mem] at h2
  have hlt : ∀ {i : Nat} {o : Oper}, ops[i]? = some o → i < ops.size := by
    intro i o ho
    rcases Nat.lt_or_ge i ops.size with h' | h'
    · exact h'
    · rw [Array.getElem?_eq_none h'] at ho; cases ho
  obtain ⟨hO1, hO2, hO⟩ := chkOrder_spec canon [] h5
  refine ⟨hO1, fun i => ⟨hO2 i, h2 i⟩, ?_, ?_, ?_, ?_, ?_, ?_, ?_⟩
  · intro i j o ho hb hj
    simp only [chkTable, List.all_eq_true, List.mem_range] at h3
    have := h3 i (hlt ho)
    rw [ho] at this
    simp only [List.all_eq_true, List.mem_range] at this
    have := this j hj
    simp only [hb, Bool.not_true, Bool.false_or, List.any_eq_true, Bool.and_eq_true, decide_eq_true_eq, Bool.or_eq_true, beq_iff_eq] at this
    exact this
  · intro i o g want ho hg
    simp only [chkTmps, List.all_eq_true, List.mem_range] at h4
    have := h4 i (hlt ho)
    rw [ho] at this
    simp only [hg, Bool.and_eq_true] at this
    exact this.1.1
  · intro i j oi oj d hi hj hne hd hl
    simp only [chkTmps, List.all_eq_true, List.mem_range] at h4
    have := h4 i (hlt hi)
    rw [hi] at this
    simp only [Bool.and_eq_true, List.all_eq_true, List.mem_range] at this
    have := this.2 j (hlt hj)
    rw [hj] at this
    simp only [hd, Bool.or_eq_true, beq_iff_eq, hne, false_or, Bool.and_eq_true, Bool.not_eq_true'] at this
    rcases this.1 with (h6 | h6) | h6
    · have : (oi.looksAt ops).contains d = true := by simpa using hl
      rw [this] at h6; cases h6
    · exact .inl h6
    · exact .inr h6
  · intro i o d ho hd ha
    simp only [chkTmps, List.all_eq_true, List.mem_range] at h4
    have := h4 i (hlt ho)
    rw [ho] at this
    simp only [hd, Bool.and_eq_true] at this
    have := this.1.2
    rw [ha] at this
    simpa using this
  · intro i j oi oj d hi hj hne hd hl
    simp only [chkTmps, List.all_eq_true, List.mem_range] at h4
    have := h4 i (hlt hi)
    rw [hi] at this
    simp only [Bool.and_eq_true, List.all_eq_true, List.mem_range] at this
    have := this.2 j (hlt hj)
    rw [hj] at this
    simp only [hd, hl, Bool.or_eq_true, beq_iff_eq, hne, false_or, Bool.and_eq_true, bne_self_eq_false, Bool.false_eq_true] at this
    exact this.2
  · intro pre i rest o hc ho j hj
    simpa using (hO pre i rest o hc ho).1 j hj
  · intro pre i rest o hc ho ha
    exact (hO pre i rest o hc ho).2 ha

/-- What is done holds all that it hangs on. -/
def Down (ops : Array Oper) (D : Array Bool) : Prop := ∀ i o, ops[i]? = some o → D.getD i false = true → ∀ j ∈ bindsAll o, D.getD j false = true

theorem Stat.chain {ops : Array Oper} {bf : Array Nat} {canon : List Nat} (S : Stat P ops bf canon) {D : Array Bool} (hd : Down ops D) : ∀ (i j : Nat) (o : Oper), ops[i]? = some o → (∀ k ∈ bindsAll o, D.getD k false = true) → (bf.getD i 0).testBit j = true → j < ops.size → D.getD j false = true := by
  intro i
  induction i using Nat.strongRecOn with
  | _ i ih =>
    intro j o ho hall hb hj
    obtain ⟨k, hk, hki, h⟩ := S.tab i j o ho hb hj
    rcases h with rfl | h
    · exact hall _ hk
    · cases hok : ops[k]? with
      | none =>
        have : ops.size ≤ k := by
          rcases Nat.lt_or_ge k ops.size with h' | h'
          · rw [Array.getElem?_eq_getElem h'] at hok; cases hok
          · exact h'
        have : i < ops.size := by
          rcases Nat.lt_or_ge i ops.size with h' | h'
          · exact h'
          · rw [Array.getElem?_eq_none h'] at ho; cases ho
        omega
      | some ok => exact ih k hki j ok hok (hd k ok hok (hall k hk)) h hj

/-- A new block does not turn what is read. -/
theorem cread_new {s : St M} (hf : ∀ b, s.next ≤ b → s.at' b = none) (B : Blk) {ev : Operand → Value} {op : Op} {v : Value} (h : cread P ev s op = some v) : cread P ev (s.new B) op = some v := by
  have hat : ∀ {b : Nat} {C : Blk}, s.at' b = some C → (s.new B).at' b = some C := by
    intro b C hb
    rw [St.at_new, if_neg]
    · exact hb
    · intro e; subst e; rw [hf _ (Nat.le_refl _)] at hb; cases hb
  cases op <;> simp only [cread] at h ⊢ <;> (try (cases h; done))
  case load t x =>
    split at h
    · rename_i a ha
      unfold cload at h ⊢
      split at h
      · rename_i vs e own hb; rw [hat hb]; exact h
      · cases h
    · cases h
  case lookup t m k ok =>
    unfold clookup at h ⊢
    split at h
    · rename_i kt et hu
      simp only at h ⊢
      split at h
      · rename_i hm; exact h
      · rename_i r hm
        split at h
        · rename_i es clock hb; simp only [hat hb]; exact h
        · cases h
      · cases h
    · cases h
  case binOp => exact h
  case convert src d x =>
    split at h
    · rename_i e a n c hs hd hx
      split at h
      · rename_i vs et own he hb
        simp only [he, hat hb]; exact h
      · cases h
    · exact h
    · split at h
      · rename_i vs e own hb
        simp only [hat hb]; exact h
      · cases h
    · split at h
      · rename_i vs e hb
        simp only [hat hb]; exact h
      · cases h
    · cases h
  case slice t x lo hi mx =>
    cases mx with
    | some _ => cases h
    | none =>
      simp only [cread] at h ⊢
      split at h
      · rename_i e a n c hu hx
        split at h
        · rename_i ie hh hie hch
          split at h
          · rename_i l vs et own hcl hb
            simp only [hcl, hat hb]; exact h
          · cases h
        · cases h
      · cases h
  case call c =>
    split at h
    · rename_i hc
      split at h
      · rename_i kt et r hu hx
        split at h
        · rename_i es clock hb; simp only [hat hb]; exact h
        · cases h
      · cases h
    · cases h

/-- Nothing hangs on what comes behind it. -/
theorem Stat.noLater {ops : Array Oper} {bf : Array Nat} {canon : List Nat} (S : Stat P ops bf canon) {pre rest : List Nat} {k : Nat} (hc : canon = pre ++ k :: rest) (hklt : k < ops.size) :
    ∀ (i : Nat) (oi : Oper), ops[i]? = some oi → i ∈ pre → (bf.getD i 0).testBit k = true → False := by
  have hknot : k ∉ pre := by
    intro h1
    have h2 := S.nodup
    rw [hc, List.nodup_append] at h2
    exact absurd rfl (h2.2.2 k h1 k (by simp))
  intro i
  induction i using Nat.strongRecOn with
  | _ i ih =>
    intro oi hoi hi hb
    obtain ⟨m, hm, hmi, h3⟩ := S.tab i k oi hoi hb hklt
    obtain ⟨p1, p2, hp⟩ := List.append_of_mem hi
    have hmp := S.before p1 i (p2 ++ k :: rest) oi (by rw [hc, hp]; simp) hoi m hm
    have hmpre : m ∈ pre := by rw [hp]; simp [hmp]
    rcases h3 with rfl | h3
    · exact hknot hmpre
    · cases hom : ops[m]? with
      | none =>
        have : m ∈ canon := by rw [hc]; simp [hmpre]
        have := (S.mem m).1 this
        rw [Array.getElem?_eq_getElem this] at hom; cases hom
      | some om => exact ih m hmi om hom hmpre h3

theorem put_eval {a : Act} {d : Tmp} {v : Value} {x : Operand} (h : x ≠ .tmp d) : (a.put (some d) v).eval x = a.eval x := by
  cases x with
  | tmp t =>
    have : d ≠ t := fun e => h (by rw [e])
    simp only [Act.put, Act.eval]
    rw [Array.getD_eq_getD_getElem?, Array.getElem?_setIfInBounds, if_neg this, ← Array.getD_eq_getD_getElem?]
  | _ => rfl

theorem put_getD {a : Act} {d t : Tmp} {v : Value} (h : d ≠ t) : (a.put (some d) v).tmps.getD t undef = a.tmps.getD t undef := by
  have := put_eval (a := a) (d := d) (v := v) (x := .tmp t) (fun e => h (by cases e; rfl))
  exact this

theorem put_size {a : Act} {d : Option Tmp} {v : Value} : (a.put d v).tmps.size = a.tmps.size := by
  cases d <;> simp [Act.put]

theorem mem_looks_op {ops : Array Oper} {o : Oper} {d : Tmp} (h : (.tmp d) ∈ o.op.operands) : d ∈ o.looksAt ops := by
  simp only [Oper.looksAt, List.mem_append, List.mem_filterMap]
  exact .inl ⟨.tmp d, by simpa using h, rfl⟩

theorem mem_looks_guard {ops : Array Oper} {o : Oper} {j : Nat} {want : Bool} {d : Tmp} (hg : o.guard = some (j, want)) (hd : (ops[j]?).bind (·.dst) = some d) : d ∈ o.looksAt ops := by
  simp only [Oper.looksAt, List.mem_append]
  right
  rw [hg]
  simp only
  rw [hd]
  simp

theorem cwanted_put {ops : Array Oper} {o : Oper} {a : Act} {d : Tmp} {v : Value} (h : d ∉ o.looksAt ops) : cwanted ops o (a.put (some d) v).tmps = cwanted ops o a.tmps := by
  unfold cwanted
  cases hg : o.guard with
  | none => rfl
  | some g =>
    obtain ⟨j, want⟩ := g
    simp only
    cases hd : (ops[j]?).bind (·.dst) with
    | none => rfl
    | some e =>
      simp only
      have hne : d ≠ e := fun he => h (he ▸ mem_looks_guard hg hd)
      simp only [Act.put]
      rw [Array.getElem?_setIfInBounds, if_neg hne]

/-- An operation that the clean run has done, and the model has not yet. -/
def Pend (P : Program) (ops : Array Oper) (o : Oper) (i : Nat) (fl : List (Fl M)) (β : Nat → Option Nat) (ρ : Ren) (a : Act) (s : St M) : Prop :=
  ∃ (ev0 : Operand → Value) (val : Value), (∀ x ∈ o.op.operands, a.eval x = ev0 x) ∧ (∀ d, o.dst = some d → d < a.tmps.size → a.tmps.getD d undef = val) ∧
    ((cwanted ops o a.tmps = some false ∧ val = undef) ∨
     (cwanted ops o a.tmps = some true ∧ o.op.operands.all opOk = true ∧
      (cpure P ev0 o.type o.op = some val ∨
       (cread P ev0 s o.op = some val ∧ ∃ f ∈ fl, f.i = i ∧ f.op = o.op ∧ f.ev = ev0 ∧ f.v = some val) ∨
       (∃ B g b, calloc P ev0 o.op = some (B, g) ∧ β i = some b ∧ s.at' b = some B ∧ ρ b = none ∧ val = g b))))

theorem Pend.put {ops : Array Oper} {o : Oper} {i : Nat} {fl : List (Fl M)} {β : Nat → Option Nat} {ρ : Ren} {a : Act} {s : St M} (h : Pend P ops o i fl β ρ a s) {d : Tmp} {v : Value} (hl : d ∉ o.looksAt ops) (hd : o.dst ≠ some d) :
    Pend P ops o i fl β ρ (a.put (some d) v) s := by
  obtain ⟨ev0, val, h1, h2, h3⟩ := h
  refine ⟨ev0, val, fun x hx => ?_, fun e he hlt => ?_, ?_⟩
  · rw [put_eval, h1 x hx]
    intro e; subst e
    exact hl (mem_looks_op hx)
  · rw [put_getD (fun e' => hd (by rw [he, e']))]
    exact h2 e he (by rwa [put_size] at hlt)
  · rw [cwanted_put hl]; exact h3

/-- The clean run is ahead of the model by what is pending. -/
structure DInv (P : Program) (w0 : World) (ops : Array Oper) (D : Array Bool) (pre : List Nat) (fl : List (Fl M)) (β : Nat → Option Nat) (ρ : Ren) (a : Act) (s : St M) (a' : Act) (w : World) : Prop where
  rel : Rel P w0 ρ s w
  size : a.tmps.size = a'.tmps.size
  d : a.defers = []
  d' : a'.defers = []
  tm : ∀ t, (∀ i ∈ pre, ∀ o, ops[i]? = some o → D.getD i false = false → o.dst ≠ some t) → VRel ρ (a.tmps.getD t undef) (a'.tmps.getD t undef)
  pend : ∀ i ∈ pre, D.getD i false = false → ∃ o, ops[i]? = some o ∧ acts P o = false ∧ Pend P ops o i fl β ρ a s
  inj : ∀ i j b, β i = some b → β j = some b → i = j
  blt : ∀ i b, β i = some b → b < s.next
  bpre : ∀ i b, β i = some b → i ∈ pre

/-- The clean run goes on through what does not act. -/
theorem dinv_advance {ops : Array Oper} {bf : Array Nat} {canon : List Nat} (S : Stat P ops bf canon) {D : Array Bool} {ρ : Ren} {a' : Act} {w : World} {Q : Act → St M → Prop} (hDsz : D.size = ops.size) (hDown : Down ops D) :
    ∀ (rest pre : List Nat) (fl : List (Fl M)) (β : Nat → Option Nat) (a : Act) (s : St M), canon = pre ++ rest → cregionD P w0 ops bf Q rest fl a s → DInv P w0 ops D pre fl β ρ a s a' w → (∀ i, D.getD i false = true → i ∈ pre) →
      ∃ pre2 rest2 fl2 β2 a2 s2, canon = pre2 ++ rest2 ∧ cregionD P w0 ops bf Q rest2 fl2 a2 s2 ∧ DInv P w0 ops D pre2 fl2 β2 ρ a2 s2 a' w ∧ (∀ i, D.getD i false = true → i ∈ pre2) ∧
        (∀ i r o, rest2 = i :: r → ops[i]? = some o → acts P o = true) ∧ Ext ρ s ρ s2 ∧ (∀ i ∈ pre2, i ∈ pre ∨ ∀ o, ops[i]? = some o → acts P o = false) ∧ (∀ i b, β2 i = some b → β i = some b ∨ s.next ≤ b) := by
  intro rest
  induction rest with
  | nil =>
    intro pre fl β a s hc h hI hD
    exact ⟨pre, [], fl, β, a, s, hc, h, hI, hD, (fun i r o e => by cases e), Ext.refl _ _, fun i hi => .inl hi, fun i b hb => .inl hb⟩
  | cons k rest ih =>
    intro pre fl β a s hc h hI hD
    cases hok : ops[k]? with
    | none => simp only [cregionD, hok] at h
    | some o =>
      by_cases hact : acts P o = true
      · refine ⟨pre, k :: rest, fl, β, a, s, hc, h, hI, hD, fun i r o2 e ho2 => ?_, Ext.refl _ _, fun i hi => .inl hi, fun i b hb => .inl hb⟩
        cases e; rw [hok] at ho2; cases ho2; exact hact
      · have hact : acts P o = false := by simpa using hact
        have hkD : D.getD k false = false := by
          cases hk : D.getD k false with
          | false => rfl
          | true =>
            have h1 := hD k hk
            have h2 := S.nodup
            rw [hc, List.nodup_append] at h2
            exact absurd rfl (h2.2.2 k h1 k (by simp))
        have hklt : k < ops.size := by
          rcases Nat.lt_or_ge k ops.size with h' | h'
          · exact h'
          · rw [Array.getElem?_eq_none h'] at hok; cases hok
        have hknot : k ∉ pre := by
          intro h1
          have h2 := S.nodup
          rw [hc, List.nodup_append] at h2
          exact absurd rfl (h2.2.2 k h1 k (by simp))
        -- the variable that k writes is none that a pending one looks at, or writes
        have hfree : ∀ i ∈ pre, ∀ oi, ops[i]? = some oi → ∀ d, o.dst = some d → d ∉ oi.looksAt ops ∧ oi.dst ≠ some d := by
          intro i hi oi hoi d hd
          have hne : i ≠ k := fun e => hknot (e ▸ hi)
          refine ⟨fun hl => ?_, fun he => ?_⟩
          · rcases S.looks i k oi o d hoi hok hne hd hl with h1 | ⟨h1, _⟩
            · exact S.noLater hc hklt i oi hoi hi h1
            · rw [hact] at h1; cases h1
          · have := (S.dsts i k oi o d hoi hok hne hd he).2
            rw [hact] at this; cases this
        have hgo : ∀ (v : Value) (s2 : St M) (r : Option Value) (β2 : Nat → Option Nat), cregionD P w0 ops bf Q rest (⟨k, o.op, a.eval, r⟩ :: fl) (a.put o.dst v) s2 → Rel P w0 ρ s2 w → Ext ρ s ρ s2 →
            (∀ op ev0 r, cread P ev0 s op = some r → cread P ev0 s2 op = some r) → (∀ b, b < s.next → s2.at' b = s.at' b) → (∀ i ∈ pre, β2 i = β i) → (∀ i j b, β2 i = some b → β2 j = some b → i = j) → (∀ i b, β2 i = some b → b < s2.next) → (∀ i b, β2 i = some b → i ∈ pre ++ [k]) → (∀ i b, β2 i = some b → β i = some b ∨ s.next ≤ b) →
            ((cwanted ops o a.tmps = some false ∧ v = undef) ∨ (cwanted ops o a.tmps = some true ∧ o.op.operands.all opOk = true ∧
              (cpure P a.eval o.type o.op = some v ∨ (cread P a.eval s2 o.op = some v ∧ r = some v) ∨ (∃ B g b, calloc P a.eval o.op = some (B, g) ∧ β2 k = some b ∧ s2.at' b = some B ∧ ρ b = none ∧ v = g b)))) →
            ∃ pre2 rest2 fl2 β3 a2 s2, canon = pre2 ++ rest2 ∧ cregionD P w0 ops bf Q rest2 fl2 a2 s2 ∧ DInv P w0 ops D pre2 fl2 β3 ρ a2 s2 a' w ∧ (∀ i, D.getD i false = true → i ∈ pre2) ∧
              (∀ i r o, rest2 = i :: r → ops[i]? = some o → acts P o = true) ∧ Ext ρ s ρ s2 ∧ (∀ i ∈ pre2, i ∈ pre ∨ ∀ o, ops[i]? = some o → acts P o = false) ∧ (∀ i b, β3 i = some b → β i = some b ∨ s.next ≤ b) := by
          intro v s2 r β2 h2 hR2 hE2 hrd hat hβ hinj hblt hbpre hnew hk
          have hI2 : DInv P w0 ops D (pre ++ [k]) (⟨k, o.op, a.eval, r⟩ :: fl) β2 ρ (a.put o.dst v) s2 a' w := by
            refine ⟨hR2, by rw [put_size]; exact hI.size, ?_, hI.d', fun t ht => ?_, fun i hi hun => ?_, hinj, hblt, hbpre⟩
            · unfold Act.put; split <;> exact hI.d
            · have h3 := hI.tm t (fun i hi oi hoi hun => ht i (by simp [hi]) oi hoi hun)
              have h4 := ht k (by simp) o hok hkD
              cases hd : o.dst with
              | none => exact h3
              | some d =>
                rw [put_getD (fun e => h4 (by rw [hd, e]))]
                exact h3
            · rcases List.mem_append.1 hi with hi | hi
              · obtain ⟨oi, hoi, ha, hp⟩ := hI.pend i hi hun
                refine ⟨oi, hoi, ha, ?_⟩
                have hp2 : Pend P ops oi i (⟨k, o.op, a.eval, r⟩ :: fl) β2 ρ a s2 := by
                  obtain ⟨ev0, val, h1, h2, h3⟩ := hp
                  refine ⟨ev0, val, h1, h2, ?_⟩
                  rcases h3 with h3 | ⟨h3, h4, h5⟩
                  · exact .inl h3
                  · refine .inr ⟨h3, h4, ?_⟩
                    rcases h5 with h5 | ⟨h5, f, hf, h6⟩ | ⟨B, g, b, h5, h6, h7, h8, h9⟩
                    · exact .inl h5
                    · exact .inr (.inl ⟨hrd _ _ _ h5, f, by simp [hf], h6⟩)
                    · exact .inr (.inr ⟨B, g, b, h5, by rw [hβ i hi]; exact h6, by rw [hat b (hI.blt i b h6)]; exact h7, h8, h9⟩)
                cases hd : o.dst with
                | none => exact hp2
                | some d => exact hp2.put (hfree i hi oi hoi d hd).1 (hfree i hi oi hoi d hd).2
              · simp only [List.mem_singleton] at hi
                subst hi
                refine ⟨o, hok, hact, a.eval, v, fun x hx => ?_, fun d hd hlt => ?_, ?_⟩
                · cases hd : o.dst with
                  | none => rfl
                  | some d =>
                    rw [put_eval]
                    intro e; subst e
                    exact S.self i o d hok hd hact (mem_looks_op hx)
                · rw [put_size] at hlt
                  rw [hd]
                  simp only [Act.put]
                  rw [Array.getD_eq_getD_getElem?, Array.getElem?_setIfInBounds, if_pos rfl, if_pos hlt]
                  rfl
                · have hw : cwanted ops o (a.put o.dst v).tmps = cwanted ops o a.tmps := by
                    cases hd : o.dst with
                    | none => rfl
                    | some d => exact cwanted_put (S.self i o d hok hd hact)
                  rw [hw]
                  rcases hk with hk | ⟨hk1, hk2, hk3⟩
                  · exact .inl hk
                  · refine .inr ⟨hk1, hk2, ?_⟩
                    rcases hk3 with hk3 | ⟨hk3, rfl⟩ | hk3
                    · exact .inl hk3
                    · exact .inr (.inl ⟨hk3, ⟨i, o.op, a.eval, some v⟩, by simp, rfl, rfl, rfl, rfl⟩)
                    · exact .inr (.inr hk3)
          obtain ⟨pre2, rest2, fl2, β3, a2, s3, g1, g2, g3, g4, g5, g6, g7, g8⟩ := ih (pre ++ [k]) _ β2 (a.put o.dst v) s2 (by rw [hc]; simp) h2 hI2 (fun i hi => by simp [hD i hi])
          refine ⟨pre2, rest2, fl2, β3, a2, s3, g1, g2, g3, g4, g5, hE2.trans g6, fun i hi => ?_, fun i b hb => (g8 i b hb).elim (fun h => hnew i b h) (fun h => .inr (Nat.le_trans hE2.next h))⟩
          rcases g7 i hi with g7 | g7
          · rcases List.mem_append.1 g7 with g7 | g7
            · exact .inl g7
            · simp only [List.mem_singleton] at g7
              subst g7
              exact .inr fun o2 ho2 => by rw [hok] at ho2; cases ho2; exact hact
          · exact .inr g7
        have hβk : ∀ i b, β i = some b → i ∈ pre ++ [k] := fun i b hb => by simp [hI.bpre i b hb]
        simp only [cregionD, hok] at h
        split at h
        · exact h.elim
        · rename_i hw
          rw [hact] at h
          simp only [Bool.false_eq_true, if_false] at h
          exact hgo undef s none β h hI.rel (Ext.refl _ _) (fun _ _ _ h => h) (fun _ _ => rfl) (fun _ _ => rfl) hI.inj hI.blt hβk (fun _ _ h => .inl h) (.inl ⟨hw, rfl⟩)
        · rename_i hw
          split at h
          case h_2 => exact h.elim
          rename_i hop
          rw [hact] at h
          simp only [Bool.false_eq_true, if_false] at h
          rcases h with ⟨v, h1, h⟩ | ⟨v, h2, h⟩ | ⟨B, g, h3, h⟩
          · exact hgo v s none β h hI.rel (Ext.refl _ _) (fun _ _ _ h => h) (fun _ _ => rfl) (fun _ _ => rfl) hI.inj hI.blt hβk (fun _ _ h => .inl h) (.inr ⟨hw, hop, .inl h1⟩)
          · exact hgo v s (some v) β h hI.rel (Ext.refl _ _) (fun _ _ _ h => h) (fun _ _ => rfl) (fun _ _ => rfl) hI.inj hI.blt hβk (fun _ _ h => .inl h) (.inr ⟨hw, hop, .inr (.inl ⟨h2, rfl⟩)⟩)
          · (
                have hne : ∀ i b, β i = some b → b ≠ s.next := fun i b hb => by have := hI.blt i b hb; omega
                refine hgo (g s.next) (s.new B) none (fun i => if i = k then some s.next else β i) h (hI.rel.new B) (Ext.new ρ s B) (fun op ev0 r hr => cread_new hI.rel.fresh B hr)
                  (fun b hb => by rw [St.at_new, if_neg (by omega)]) (fun i hi => by show (if i = k then some s.next else β i) = β i; rw [if_neg]; intro e; subst e; exact hknot hi) ?_ ?_ ?_ ?_ (.inr ⟨hw, hop, .inr (.inr ⟨B, g, s.next, h3, by simp, by simp, hI.rel.none_next (Nat.le_refl _), rfl⟩)⟩)
                · intro i j b hi hj
                  change (if i = k then some s.next else β i) = some b at hi
                  change (if j = k then some s.next else β j) = some b at hj
                  split at hi
                  · split at hj
                    · rename_i e1 e2; rw [e1, e2]
                    · cases hi; exact absurd rfl (hne _ _ hj)
                  · split at hj
                    · cases hj; exact absurd rfl (hne _ _ hi)
                    · exact hI.inj _ _ _ hi hj
                · intro i b hi
                  change (if i = k then some s.next else β i) = some b at hi
                  split at hi
                  · cases hi; simp
                  · have := hI.blt _ _ hi; simp; omega
                · intro i b hi
                  change (if i = k then some s.next else β i) = some b at hi
                  split at hi
                  · rename_i e; subst e; simp
                  · exact hβk _ _ hi
                · intro i b hi
                  change (if i = k then some s.next else β i) = some b at hi
                  split at hi
                  · cases hi; exact .inr (Nat.le_refl _)
                  · exact .inl hi)
end
end Go.Cs
