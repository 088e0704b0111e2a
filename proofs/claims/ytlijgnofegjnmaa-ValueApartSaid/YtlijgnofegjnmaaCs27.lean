/- Memories that have all that an elder one has; variables that a loop leaves alone; calls of function values; slices, bytes as a string, rows, maps, appends, step by step. A lemma file: no statement of its own. -/
import Derived.Test.YtlijgnofegjnmaaCs26
set_option linter.unusedSimpArgs false
set_option linter.unusedVariables false
set_option linter.unusedSectionVars false
namespace Go.Cs
section
variable {M : Type} [Mem M]

/-- s' has all that s has, as it was. -/
def St.le (s s' : St M) : Prop := s.next ≤ s'.next ∧ ∀ b, b < s.next → s'.at' b = s.at' b
theorem St.le_refl (s : St M) : s.le s := ⟨Nat.le_refl _, fun _ _ => rfl⟩
theorem St.le_trans {s s1 s2 : St M} (h : s.le s1) (h' : s1.le s2) : s.le s2 :=
  ⟨Nat.le_trans h.1 h'.1, fun b hb => by rw [h'.2 b (Nat.lt_of_lt_of_le hb h.1), h.2 b hb]⟩
theorem St.le_new {s s1 : St M} {B : Blk} (h : s.le s1) : s.le (s1.new B) :=
  ⟨by have := h.1; simp; omega, fun b hb => by rw [St.at_new, if_neg (by have := h.1; omega)]; exact h.2 b hb⟩
theorem St.le_put {s s1 : St M} {B : Blk} {b : Nat} (h : s.le s1) (hb : s.next ≤ b) : s.le (s1.put b B) :=
  ⟨h.1, fun c hc => by rw [St.at_put, if_neg (by omega)]; exact h.2 c hc⟩
theorem St.le_kill {s s1 : St M} {b : Nat} (h : s.le s1) (hb : s.next ≤ b) : s.le (s1.kill b) :=
  ⟨h.1, fun c hc => by rw [St.at_kill, if_neg (by omega)]; exact h.2 c hc⟩
theorem St.le_at {s s' : St M} (h : s.le s') {b : Nat} (hb : b < s.next) : s'.at' b = s.at' b := h.2 b hb

/-- All variables but those of W are as they were. -/
def Fix (W : List Nat) (env env' : Env) : Prop := ∀ t, W.contains t = false → env' t = env t
theorem Fix.refl {W : List Nat} {env : Env} : Fix W env env := fun _ _ => rfl
theorem Fix.upd {W : List Nat} {env env' : Env} {d : Nat} {v : Value} (hd : W.contains d = true) (h : Fix W env env') : Fix W env (upd env' d v) := by
  intro t ht
  have : t ≠ d := by intro e; subst e; rw [hd] at ht; cases ht
  rw [upd_apply, if_neg this]
  exact h t ht
theorem Fix.trans {W : List Nat} {a b c : Env} (h : Fix W a b) (h' : Fix W b c) : Fix W a c := fun t ht => by rw [h' t ht, h t ht]

variable {P : Program} {w0 : World} {ord : Ord} {n : Nat}

/-- A loop with what stays so, what falls, and the variables that it writes. -/
theorem wloop_fix (hm : P.follows .mixedOrders = true) (W : List Nat) {c : Code} {Q : Exit → Env → St M → Prop} {env : Env} {s : St M} (I : Nat → Env → St M → Prop) (k : Nat) (h0 : I k env s)
    (h : ∀ k env' s', Fix W env env' → I k env' s' → wvc P w0 ord n c (wthen (fun e s => Fix W env e ∧ ∃ m, m < k ∧ I m e s) Q) env' s') : WLoop P w0 ord n c Q env s := by
  refine wloop_inv hm (fun k e s => Fix W env e ∧ I k e s) k ⟨Fix.refl, h0⟩ ?_
  rintro k e s ⟨hf, hi⟩
  have := h k e s hf hi
  have e : (fun (e : Env) (s : St M) => Fix W env e ∧ ∃ m, m < k ∧ I m e s) = (fun (e : Env) (s : St M) => ∃ m, m < k ∧ Fix W env e ∧ I m e s) := by
    funext e s
    rw [eq_iff_iff]
    exact ⟨fun ⟨a, m, b, c⟩ => ⟨m, b, a, c⟩, fun ⟨m, b, a, c⟩ => ⟨a, m, b, c⟩⟩
  rw [e] at this
  exact this

variable {d : Option Tmp} {ty : TypeId} {pos : String} {af : Array Edge} {g : Option (Nat × Bool)} {ev : Operand → Value} {s : St M} {K : Value → St M → Prop} {F : Value → St M → Option Value → Prop} {x y : Operand} {t t2 : TypeId}

/-! Function values -/
def wcalv (P : Program) (w0 : World) (o : Oper) (ev : Operand → Value) (fv : Value) (args : Array Value) (s : St M) (ty : TypeId) (K : Value → St M → Prop) : Prop := match fv with
  | .func (.func f) first cap => (match callOk P f with
    | true => CCalls P w0 f (first ++ args ++ cap) s fun v s' => shape P ty v fun v => K v s'
    | false => wopx P w0 o ev s K)
  | _ => wopx P w0 o ev s K
theorem wcalv_congr {o : Oper} {ev : Operand → Value} {fv fv' : Value} {args args' : Array Value} {s : St M} {K : Value → St M → Prop} {jp : Prop} (h : fv = fv') (h2 : args = args') (hj : (True ∧ True) = jp) : wcalv P w0 o ev fv args s ty K = wcalv P w0 o ev fv' args' s ty K := by rw [h, h2]
attribute [congr] wcalv_congr
theorem o_calv {u : Nat} {args : Array Operand} {ats : Array TypeId} {env : Env} :
    wop P w0 ⟨d, .call ⟨.value (.tmp u), args, ats⟩, ty, pos, af, g⟩ (wev env) s K = wcalv P w0 ⟨d, .call ⟨.value (.tmp u), args, ats⟩, ty, pos, af, g⟩ (wev env) (wev env (.tmp u)) (args.map (wev env)) s ty K := by
  unfold wcalv
  split
  · rename_i f first cap hfv
    split
    · rename_i hok
      obtain ⟨fn, h1, h2⟩ := callOk_spec hok
      unfold wop
      simp only [kindOf, ccallee, hfv, h1, h2, if_true]
    · rfl
  · rfl
theorem calv {o : Oper} {ev : Operand → Value} {f : FuncId} {a b args : Array Value} (h : callOk P f = true) : wcalv P w0 o ev (.func (.func f) a b) args s ty K = CCalls P w0 f (a ++ args ++ b) s fun v s' => shape P ty v fun v => K v s' := by
  unfold wcalv
  simp only [h]
theorem o_makeFunc {f : FuncId} {a b : Array Operand} : wop P w0 ⟨d, .makeFunc (.func f) a b, ty, pos, af, g⟩ ev s K = wval (.func (.func f) (a.map ev) (b.map ev)) fun v => K v s := by
  unfold wop
  simp only [kindOf, wpu, cpure, must, wval]
  simp
theorem f_makeFunc {f : FuncId} {a b : Array Operand} : wfop P ⟨d, .makeFunc (.func f) a b, ty, pos, af, g⟩ ev s F = wval (.func (.func f) (a.map ev) (b.map ev)) fun v => F v s none := by
  unfold wfop
  simp only [kindOf, wpu, cpure, must, wval]
  simp

/-! Functions that the model knows -/
theorem o_ext {f : FuncId} {args : Array Operand} {ats : Array TypeId} {env : Env} (h : callOk P f = false) :
    wop P w0 ⟨d, .call ⟨.value (.func f), args, ats⟩, ty, pos, af, g⟩ (wev env) s K = must (cextern P f (args.map (wev env))) fun v => K v s := by
  have hc : ccallee P (wev env) ⟨.value (.func f), args, ats⟩ = none := by
    unfold ccallee
    unfold callOk at h
    simp only [wev]
    split
    · rename_i fn hfn
      rw [hfn] at h
      simp only at h
      rw [h]
      rfl
    · rfl
  have e : ceff P (wev env) s (.call ⟨.value (.func f), args, ats⟩) = (cextern P f (args.map (wev env))).map fun v => (v, s) := by
    simp only [ceff, wev, Array.empty_append, Array.append_empty]
  unfold wop
  simp only [kindOf, hc, e]
  unfold must
  rw [eq_iff_iff]
  constructor
  · rintro ⟨v, s', h1, h2⟩
    obtain ⟨v1, h3, h4⟩ := Option.map_eq_some_iff.1 h1
    cases h4
    exact ⟨v, h3, h2⟩
  · rintro ⟨v, h1, h2⟩
    exact ⟨v, s, by rw [h1]; rfl, h2⟩

/-! Strings out of bytes that are left alone from then on -/
def cus (P : Program) (td : Option TypeDesc) (p n : Value) (s : St M) (B : Option Blk) : Option (Value × St M) := match td, p, n with
      | some (.pointer u), .pointer p, .int _ n =>
        if n = 0 then some (.string .empty, s)
        else match p with
          | some a => match B with
            | some (.cells vs e true) => if 0 < n ∧ n ≤ 9223372036854775807 ∧ upOk P e u = true ∧ P.cellsOf e = 1 then
                (match (cut vs a.off n.toNat).bind fun l => l.mapM byteOf? with
                  | some bs => some (.string ⟨bs.toArray⟩, s.put a.block (.cells vs e false))
                  | none => none)
              else none
            | _ => none
          | none => none
      | _, _, _ => none
def cusv (P : Program) (td : Option TypeDesc) (p n : Value) (s : St M) : Option (Value × St M) := match p with
  | .pointer (some a) => cus P td (.pointer (some a)) n s (s.at' a.block)
  | p => cus P td p n s none
theorem o_us {x y : Operand} {t1 t2 : TypeId} : wop P w0 ⟨d, .call ⟨.builtin .unsafeString, #[x, y], #[t1, t2]⟩, ty, pos, af, g⟩ ev s K = wch (cusv P (P.underlying t1) (ev x) (ev y) s) K := by
  have e : ceff P ev s (.call ⟨.builtin .unsafeString, #[x, y], #[t1, t2]⟩) = cusv P (P.underlying t1) (ev x) (ev y) s := by
    simp only [ceff, cusv, cus, List.getElem?_toArray, List.getElem?_cons_zero, List.getElem?_cons_succ, Option.bind_some, Option.map_some, List.size_toArray, List.length_cons, List.length_nil]
    cases P.underlying t1 with
    | none => cases ev x with
      | pointer p => cases p <;> rfl
      | _ => rfl
    | some td => cases td <;> first
      | (cases ev x with
         | pointer p => cases p <;> rfl
         | _ => rfl)
      | (cases ev x with
         | pointer p => cases p <;> cases ev y <;> first | rfl | (simp only [Nat.reduceAdd, Nat.reduceBEq, Bool.true_eq_false, if_false])
         | _ => rfl)
  unfold wop
  simp only [kindOf, e]
  rfl
theorem us_p {td : Option TypeDesc} {a : Addr} {n : Value} : cusv P td (.pointer (some a)) n s = cus P td (.pointer (some a)) n s (s.at' a.block) := rfl
theorem us_0 {u : TypeId} {k : IntKind} : cusv P (some (.pointer u)) (.pointer none) (.int k 0) s = some (.string .empty, s) := rfl
theorem f_ssd {args : Array Operand} {ats : Array TypeId} : wfop P ⟨d, .call ⟨.builtin .unsafeSliceData, args, ats⟩, ty, pos, af, g⟩ ev s F = must (cbuiltin P .unsafeSliceData ats ty (args.map ev)) fun v => F v s none := rfl
theorem ssd_some {ats : Array TypeId} {a : Addr} {n c : Nat} : cbuiltin P .unsafeSliceData ats ty #[.slice (some a) n c] = if c ≠ 0 ∧ (c = UNK → n ≠ 0) then some (.pointer (some a)) else none := rfl
theorem ssd_none {ats : Array TypeId} {n c : Nat} : cbuiltin P .unsafeSliceData ats ty #[.slice none n c] = some (.pointer none) := rfl
theorem cus_hit {u e : TypeId} {a : Addr} {k : IntKind} {n : Nat} {vs : List Value} {l : List UInt8} (h0 : n ≠ 0) (h1 : n ≤ 9223372036854775807) (hu : upOk P e u = true) (he : P.cellsOf e = 1) (hc : cut vs a.off n = some (l.map fun b => .int .u8 b.toNat)) :
    cus P (some (.pointer u)) (.pointer (some a)) (.int k n) s (some (.cells vs e true)) = some (.string ⟨l.toArray⟩, s.put a.block (.cells vs e false)) := by
  have hm : ∀ l : List UInt8, (l.map fun b => Value.int .u8 b.toNat).mapM byteOf? = some l := by
    intro l
    induction l with
    | nil => rfl
    | cons b l ih => simp [List.mapM_cons, byteOf?, ih]
  unfold cus
  simp only
  rw [if_neg (by omega), if_pos ⟨by omega, by omega, hu, he⟩, Int.toNat_natCast, hc, Option.bind_some, hm]

/-! Signs of one number -/
def wneg (P : Program) (v : Value) (K : Value → Prop) : Prop := must (if plain 1 v = true then pure6 P (Op.unary .neg v) else none) K
theorem wneg_congr {v v' : Value} {K : Value → Prop} {jp : Prop} (h : v = v') (hj : (True ∧ True) = jp) : wneg P v K = wneg P v' K := by rw [h]
attribute [congr] wneg_congr
theorem o_neg : wop P w0 ⟨d, .unOp .neg t x, ty, pos, af, g⟩ ev s K = wneg P (ev x) fun v => K v s := rfl
theorem f_neg : wfop P ⟨d, .unOp .neg t x, ty, pos, af, g⟩ ev s F = wneg P (ev x) fun v => F v s none := rfl
theorem neg_int {k : IntKind} {m : Int} {K : Value → Prop} : wneg P (.int k m) K = wval (.int k (k.wrap (-m))) K := by
  unfold wneg wval must
  simp only [plain, if_true, pure6, Op.unary, Op.intArith, pureRun_pure]
  simp

/-! Parts of arrays and slices -/
theorem o_slice {lo hi mx : Option Operand} : wop P w0 ⟨d, .slice t x lo hi mx, ty, pos, af, g⟩ ev s K = wpr (cslice P t (ev x) (lo.map ev) (hi.map ev) (mx.map ev)) (cread P ev s (.slice t x lo hi mx)) fun v => K v s := rfl
theorem f_slice {lo hi mx : Option Operand} : wfop P ⟨d, .slice t x lo hi mx, ty, pos, af, g⟩ ev s F = (must (cslice P t (ev x) (lo.map ev) (hi.map ev) (mx.map ev)) (fun v => F v s none) ∨ must (cread P ev s (.slice t x lo hi mx)) fun v => F v s (some v)) := rfl
theorem pr_l' {v : Value} {o : Option Value} {K : Value → Prop} (h : K v) : wpr (some v) o K := .inl ⟨v, rfl, h⟩
theorem pr_r' {v : Value} {o : Option Value} {K : Value → Prop} (h : K v) : wpr o (some v) K := .inr ⟨v, rfl, h⟩

/-- Bytes as a string. -/
def cbs2 (vs : Option Blk) (off n : Nat) : Option Value := match vs with
  | some (.cells vs _ _) => (match cut vs off n with
        | some l => (l.mapM byteOf?).map fun bs => .string ⟨bs.toArray⟩
        | none => none)
  | _ => none
def cbs (s : St M) (v : Value) : Option Value := match v with
  | .slice (some a) n _ => cbs2 (s.at' a.block) a.off n
  | .slice none _ _ => some (.string .empty)
  | _ => none
theorem cread_bs {src dst e : TypeId} (h1 : P.underlying src = some (.slice e)) (h2 : P.underlying dst = some .string) (h3 : P.underlying e = some (.int .u8)) : cread P ev s (.convert src dst x) = cbs s (ev x) := by
  unfold cread cbs cbs2
  simp only [h1, h2]
  generalize ev x = v
  cases v with
  | slice a n c =>
    cases a with
    | none => simp only [h3]
    | some a => simp only [h3]; cases s.at' a.block with
      | none => rfl
      | some B => cases B <;> rfl
  | _ => rfl
/-- The same, step by step: where an operation makes a string of bytes. -/
def wbs (P : Program) (w0 : World) (o : Oper) (ev : Operand → Value) (s : St M) (K : Value → St M → Prop) (v : Value) : Prop := match v with
  | .slice a n c => must (cbs s (.slice a n c)) fun v => shape P o.type v fun v => K v s
  | _ => wop P w0 o ev s K
theorem wbs_congr {o : Oper} {ev : Operand → Value} {s : St M} {K : Value → St M → Prop} {v v' : Value} {jp : Prop} (h : v = v') (hj : (True ∧ True) = jp) : wbs P w0 o ev s K v = wbs P w0 o ev s K v' := by rw [h]
attribute [congr] wbs_congr
theorem o_bs {src dst e : TypeId} (h1 : P.underlying src = some (.slice e)) (h2 : P.underlying dst = some .string) (h3 : P.underlying e = some (.int .u8)) :
    wopx P w0 ⟨d, .convert src dst x, ty, pos, af, g⟩ ev s K = wbs P w0 ⟨d, .convert src dst x, ty, pos, af, g⟩ ev s K (ev x) := by
  unfold wopx wbs
  split
  · rename_i a n c hv
    unfold wop
    simp only [kindOf, hv]
    rw [cread_bs h1 h2 h3, hv]
  · rfl
theorem bs_go {o : Oper} {a : Option Addr} {n c : Nat} : wbs P w0 o ev s K (.slice a n c) = must (cbs s (.slice a n c)) fun v => shape P o.type v fun v => K v s := rfl
theorem bs_at {a : Addr} {n c : Nat} : cbs s (.slice (some a) n c) = cbs2 (s.at' a.block) a.off n := rfl
theorem bs_nil {n c : Nat} : cbs s (.slice none n c) = some (.string .empty) := rfl
theorem bs_cells {vs : List Value} {e : TypeId} {w : Bool} {o n : Nat} : cbs2 (some (.cells vs e w)) o n = (match cut vs o n with
        | some l => (l.mapM byteOf?).map fun bs => .string ⟨bs.toArray⟩
        | none => none) := rfl

/-! Rows -/
def crow (P : Program) (t : TypeId) (len : Nat) (parts : Array (Nat × Value)) : Option Blk := match P.underlying t with
    | some (.slice e) => match P.info? e with
      | some ie => if len * ie.size ≤ 65536 ∧ len < UNK ∧ (parts.toList.all fun x => okPart x.2) = true then
          match zerosOf P e (len * ie.size) with
          | some z => match Instr.fill (fun i => some (i * ie.size, ie.size)) z.toArray parts.toList with
            | some cells => some (.cells cells.toList e true)
            | none => none
          | none => none
        else none
      | none => none
    | _ => none
theorem calloc_row {len : Nat} {parts : Array (Nat × Operand)} : calloc P ev (.buildSlice t len parts) = (crow P t len (parts.map fun x => (x.1, ev x.2))).map fun B => (B, fun b => .slice (some ⟨b, 0, none⟩) len len) := by
  unfold calloc crow
  dsimp only
  have e : ((parts.map fun x => (x.1, ev x.2)).toList.all fun x => okPart x.2) = (parts.toList.all fun x => okPart (ev x.2)) := by
    simp [Function.comp_def]
  rw [e]
  cases P.underlying t with
  | none => rfl
  | some td =>
    cases td with
    | slice e' =>
      dsimp only
      cases P.info? e' with
      | none => rfl
      | some ie =>
        dsimp only
        by_cases hc : len * ie.size ≤ 65536 ∧ len < UNK ∧ (parts.toList.all fun x => okPart (ev x.snd)) = true
        · rw [if_pos hc, if_pos hc]
          cases zerosOf P e' (len * ie.size) with
          | none => rfl
          | some z =>
            dsimp only
            cases Instr.fill (fun i => some (i * ie.size, ie.size)) z.toArray (Array.map (fun x => (x.fst, ev x.snd)) parts).toList <;> rfl
        · rw [if_neg hc, if_neg hc]; rfl
    | _ => rfl
theorem o_row {len : Nat} {parts : Array (Nat × Operand)} : wop P w0 ⟨d, .buildSlice t len parts, ty, pos, af, g⟩ ev s K = wmk ((crow P t len (parts.map fun x => (x.1, ev x.2))).map fun B => (B, fun b => .slice (some ⟨b, 0, none⟩) len len)) s K := by
  rw [← calloc_row]; rfl
theorem f_row {len : Nat} {parts : Array (Nat × Operand)} : wfop P ⟨d, .buildSlice t len parts, ty, pos, af, g⟩ ev s F = wmk ((crow P t len (parts.map fun x => (x.1, ev x.2))).map fun B => (B, fun b => .slice (some ⟨b, 0, none⟩) len len)) s fun v s => F v s none := by
  rw [← calloc_row]; rfl

/-! Structs built -/
def cbuild (P : Program) (t : TypeId) (parts : Array (Nat × Value)) : Option Value := if (parts.toList.all fun x => okPart x.2) = true ∧ zeroPlain P t = true then pureRun P (Instr.build t parts) else none
theorem cpure_build {parts : Array (Nat × Operand)} : cpure P ev ty (.build t parts) = cbuild P t (parts.map fun x => (x.1, ev x.2)) := by
  unfold cpure cbuild
  have e : ((parts.map fun x => (x.1, ev x.2)).toList.all fun x => okPart x.2) = (parts.toList.all fun x => okPart (ev x.2)) := by
    simp [Function.comp_def]
  rw [e]
theorem o_build {parts : Array (Nat × Operand)} : wop P w0 ⟨d, .build t parts, ty, pos, af, g⟩ ev s K = must (cbuild P t (parts.map fun x => (x.1, ev x.2))) fun v => K v s := by
  rw [← cpure_build (ty := ty)]; rfl
theorem f_build {parts : Array (Nat × Operand)} : wfop P ⟨d, .build t parts, ty, pos, af, g⟩ ev s F = must (cbuild P t (parts.map fun x => (x.1, ev x.2))) fun v => F v s none := by
  rw [← cpure_build (ty := ty)]; rfl

/-! Maps -/
def clk3 (ok : Bool) (r : Option (Option (Nat × Value))) (z : Option Value) : Option Value := match r with
  | some (some (_, v)) => some (if ok then .tuple #[v, .bool true] else v)
  | some none => z.map fun z => if ok then .tuple #[z, .bool false] else z
  | none => none
def clk2 (P : Program) (td : Option TypeDesc) (B : Option Blk) (k : Value) (ok : Bool) : Option Value := match td with
  | some (.map kt et) => match B with
    | some (.map es _) => clk3 ok (cfind P kt k es) (czero P et)
    | _ => none
  | _ => none
def clkn (P : Program) (td : Option TypeDesc) (k : Value) (ok : Bool) : Option Value := match td with
  | some (.map kt et) => clk3 ok (cfind P kt k []) (czero P et)
  | _ => none
theorem lk_map {r : Nat} {k : Value} {ok : Bool} : clookup P t (.map (some r)) k ok s = clk2 P (P.underlying t) (s.at' r) k ok := by
  unfold clookup clk2 clk3
  split
  · rename_i kt et h
    simp only [h]
    cases s.at' r with
    | none => rfl
    | some B => cases B <;> rfl
  · rename_i h
    split
    · rename_i h2; exact absurd h2 (h _ _)
    · rfl
theorem lk_nil {k : Value} {ok : Bool} : clookup P t (.map none) k ok s = clkn P (P.underlying t) k ok := by
  unfold clookup clkn clk3
  split
  · rename_i kt et h; simp only [h]; rfl
  · rename_i h
    split
    · rename_i h2; exact absurd h2 (h _ _)
    · rfl
theorem lk2 {kt et : TypeId} {es : List MapEntry} {c : Nat} {k : Value} {ok : Bool} : clk2 P (some (.map kt et)) (some (.map es c)) k ok = clk3 ok (cfind P kt k es) (czero P et) := rfl
theorem lkn {kt et : TypeId} {k : Value} {ok : Bool} : clkn P (some (.map kt et)) k ok = clk3 ok (cfind P kt k []) (czero P et) := rfl
theorem lk3_hit {i : Nat} {v : Value} {z : Option Value} : clk3 true (some (some (i, v))) z = some (.tuple #[v, .bool true]) := rfl
theorem lk3_hit' {i : Nat} {v : Value} {z : Option Value} : clk3 false (some (some (i, v))) z = some v := rfl
theorem lk3_miss {z : Value} : clk3 true (some none) (some z) = some (.tuple #[z, .bool false]) := rfl
theorem lk3_miss' {z : Value} : clk3 false (some none) (some z) = some z := rfl
theorem o_lookup {ok : Bool} : wop P w0 ⟨d, .lookup t x y ok, ty, pos, af, g⟩ ev s K = must (clookup P t (ev x) (ev y) ok s) fun v => shape P ty v fun v => K v s := rfl
theorem f_lookup {ok : Bool} : wfop P ⟨d, .lookup t x y ok, ty, pos, af, g⟩ ev s F = must (clookup P t (ev x) (ev y) ok s) fun v => shape P ty v fun v => F v s (some v) := rfl
theorem cr_lookup {ok : Bool} : cread P ev s (.lookup t x y ok) = clookup P t (ev x) (ev y) ok s := rfl

def cms3 (s : St M) (r : Nat) (es : List MapEntry) (c : Nat) (k v : Value) (o : Option (Option (Nat × Value))) : Option (St M) := match o with
  | some (some (i, _)) => some (s.put r (.map (es.modify i fun e => { e with key := k, val := v }) c))
  | some none => some (s.put r (.map (es ++ [{ key := k, val := v, born := c }]) (c + 1)))
  | none => none
def cms2 (P : Program) (td : Option TypeDesc) (s : St M) (r : Nat) (B : Option Blk) (k v : Value) : Option (St M) := match td with
  | some (.map kt _) => match B with
    | some (.map es c) => cms3 s r es c k v (cfind P kt k es)
    | _ => none
  | _ => none
theorem ms_map {r : Nat} {k v : Value} : cmapset P t (.map (some r)) k v s = cms2 P (P.underlying t) s r (s.at' r) k v := by
  unfold cmapset cms2
  split
  · rename_i kt et r' h h2
    cases h2
    simp only [h]
    cases s.at' r with
    | none => rfl
    | some B => cases B <;> rfl
  · rename_i h
    split
    · rename_i kt et h2; exact absurd rfl (h kt et r h2)
    · rfl
theorem ms2 {kt et : TypeId} {r : Nat} {es : List MapEntry} {c : Nat} {k v : Value} : cms2 P (some (.map kt et)) s r (some (.map es c)) k v = cms3 s r es c k v (cfind P kt k es) := rfl
theorem ms3_hit {r i : Nat} {es : List MapEntry} {c : Nat} {k v u : Value} : cms3 s r es c k v (some (some (i, u))) = some (s.put r (.map (es.modify i fun e => { e with key := k, val := v }) c)) := rfl
theorem ms3_miss {r : Nat} {es : List MapEntry} {c : Nat} {k v : Value} : cms3 s r es c k v (some none) = some (s.put r (.map (es ++ [{ key := k, val := v, born := c }]) (c + 1))) := rfl
theorem o_mapUpdate {z : Operand} : wop P w0 ⟨d, .mapUpdate t x y z, ty, pos, af, g⟩ ev s K = wch ((cmapset P t (ev x) (ev y) (ev z) s).map fun s' => (undef, s')) K := rfl
theorem o_insert {z : Operand} : wop P w0 ⟨d, .insert t x y z, ty, pos, af, g⟩ ev s K = wch ((cmapset P t (ev x) (ev y) (ev z) s).map fun s' => (undef, s')) K := rfl

/-! Append -/
def cmore2 (n size off : Nat) (B : Option Blk) : Option (Nat × List Value) := match B with
  | some (.cells vs _ _) => (cut vs off (n * size)).map fun l => (n, l)
  | _ => none
theorem more_at {size n c : Nat} {b : Addr} : cmore size (.slice (some b) n c) s = cmore2 n size b.off (s.at' b.block) := rfl
theorem more_nil {size n c : Nat} : cmore size (.slice none n c) s = some (0, []) := rfl
theorem more2 {n size off : Nat} {vs : List Value} {e : TypeId} {w : Bool} : cmore2 n size off (some (.cells vs e w)) = (cut vs off (n * size)).map fun l => (n, l) := rfl
def capp4 (P : Program) (e : TypeId) (ie : TypeInfo) (a : Addr) (k n : Nat) (new : List Value) (s : St M) (B : Option Blk) : Option (Value × St M) := match B with
              | some (.cells vs et true) => if et = e ∧ a.off % ie.size = 0 then (match cut vs a.off (k * ie.size) with
                | some old => cgrow P e ie (k + n) (old ++ new) (s.kill a.block)
                | none => none) else none
              | _ => none
def capp5 (P : Program) (e : TypeId) (ie : TypeInfo) (a : Addr) (k n : Nat) (new : List Value) (s : St M) (B : Option Blk) : Option (Value × St M) := match B with
            | some (.cells vs _ _) => match cut vs a.off (k * ie.size) with
              | some old => cgrow P e ie (k + n) (old ++ new) s
              | none => none
            | _ => none
def capp3 (P : Program) (e : TypeId) (ie : TypeInfo) (sl : Value) (s : St M) (more : Option (Nat × List Value)) : Option (Value × St M) := match more with
  | none => none
  | some (n, new) => if new.all okCell = false then none else match sl with
        | .slice none _ _ => if n = 0 then some (.slice none 0 0, s) else cgrow P e ie n new s
        | .slice (some a) k c =>
          if c = UNK then
            if n = 0 then some (.slice (some a) k c, s)
            else capp4 P e ie a k n new s (s.at' a.block)
          else if k + n ≤ c then
            if n = 0 then some (.slice (some a) k c, s) else (cstoreCells (a.add (k * ie.size)) new s).map fun s' => (.slice (some a) (k + n) c, s')
          else capp5 P e ie a k n new s (s.at' a.block)
        | _ => none
theorem app_eq {t1 t2 e e2 : TypeId} {ie : TypeInfo} {sl v : Value} (h1 : P.underlying t1 = some (.slice e)) (h2 : P.underlying t2 = some (.slice e2)) (h3 : P.info? e = some ie) :
    capp P #[t1, t2] #[sl, v] s = capp3 P e ie sl s (cmore ie.size v s) := by
  unfold capp capp3
  simp only [List.getElem?_toArray, List.getElem?_cons_zero, List.getElem?_cons_succ, Option.bind_some, h1, h2, h3]
  cases cmore ie.size v s <;> rfl
theorem app_eq_str {t1 t2 e : TypeId} {ie : TypeInfo} {sl v : Value} (h1 : P.underlying t1 = some (.slice e)) (h2 : P.underlying t2 = some .string) (h3 : P.info? e = some ie) :
    capp P #[t1, t2] #[sl, v] s = capp3 P e ie sl s (cmore ie.size v s) := by
  unfold capp capp3
  simp only [List.getElem?_toArray, List.getElem?_cons_zero, List.getElem?_cons_succ, Option.bind_some, h1, h2, h3]
  cases cmore ie.size v s <;> rfl
theorem o_append {args : Array Operand} {ats : Array TypeId} : wop P w0 ⟨d, .call ⟨.builtin .append, args, ats⟩, ty, pos, af, g⟩ ev s K = wch (capp P ats (args.map ev) s) K := rfl
end
end Go.Cs
