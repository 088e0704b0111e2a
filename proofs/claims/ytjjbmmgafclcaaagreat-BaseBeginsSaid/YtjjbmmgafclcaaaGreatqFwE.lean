/- The clean memory, part E. A lemma file: no statement of its own. -/
import Derived.Test.YtjjbmmgafclcaaaGreatqFwD
import Derived.Laws.StructEq
set_option linter.unusedSimpArgs false
set_option linter.unusedVariables false
set_option linter.unusedSectionVars false
namespace Go.Cs
section
variable {M : Type} [Mem M] {P : Program} {w0 : World}
variable {d : Option Tmp} {ty : TypeId} {pos : String} {af : Array Edge} {g : Option (Nat × Bool)} {ev : Operand → Value} {s : St M} {K : Value → St M → Prop} {F : Value → St M → Option Value → Prop} {x y : Operand} {t t2 : TypeId}
def wext (v : Value) (i : Nat) (K : Value → Prop) : Prop := must (match v with
  | .tuple vs => if vs.size = 1 then (match vs.toList with
      | [.bool false] => if i = 0 then some (.bool false) else none
      | _ => none) else vs[i]?
  | _ => none) K
theorem wext_congr {v v' : Value} {i : Nat} {K : Value → Prop} {jp : Prop} (h : v = v') (hj : (True ∧ True) = jp) : wext v i K = wext v' i K := by rw [h]
attribute [congr] wext_congr
theorem o_extract {i : Nat} : wop P w0 ⟨d, .extract x i, ty, pos, af, g⟩ ev s K = wext (ev x) i fun v => K v s := rfl
theorem f_extract {i : Nat} : wfop P ⟨d, .extract x i, ty, pos, af, g⟩ ev s F = wext (ev x) i fun v => F v s none := rfl
theorem e2_0 {a b : Value} {K : Value → Prop} : wext (.tuple #[a, b]) 0 K = wval a K := by simp [wext, wval, must]
theorem e2_1 {a b : Value} {K : Value → Prop} : wext (.tuple #[a, b]) 1 K = wval b K := by simp [wext, wval, must]
theorem e3_0 {a b c : Value} {K : Value → Prop} : wext (.tuple #[a, b, c]) 0 K = wval a K := by simp [wext, wval, must]
theorem e3_1 {a b c : Value} {K : Value → Prop} : wext (.tuple #[a, b, c]) 1 K = wval b K := by simp [wext, wval, must]
theorem e3_2 {a b c : Value} {K : Value → Prop} : wext (.tuple #[a, b, c]) 2 K = wval c K := by simp [wext, wval, must]
def wnot (P : Program) (t : TypeId) (v : Value) (K : Value → Prop) : Prop := must (if plain 1 v = true then pure6 P (Op.unary .not v) else none) K
theorem wnot_congr {v v' : Value} {K : Value → Prop} {jp : Prop} (h : v = v') (hj : (True ∧ True) = jp) : wnot P t v K = wnot P t v' K := by rw [h]
attribute [congr] wnot_congr
theorem o_not : wop P w0 ⟨d, .unOp .not t x, ty, pos, af, g⟩ ev s K = wnot P t (ev x) fun v => K v s := rfl
theorem f_not : wfop P ⟨d, .unOp .not t x, ty, pos, af, g⟩ ev s F = wnot P t (ev x) fun v => F v s none := rfl
theorem n_bool {b : Bool} {K : Value → Prop} : wnot P t (.bool b) K = wval (.bool !b) K := by
  unfold wnot wval must
  simp only [plain, if_true, pure6, Op.unary, pureRun_pure]
  simp
end
end Go.Cs
namespace Go.Cs
def szOf (P : Program) (t : TypeId) : Option Nat := (P.info? t).map (·.size)
def faOk (P : Program) (t : TypeId) (f : Nat) : Option Nat := match P.underlying t with
  | some (.struct fs) => match fs[f]? with
    | some fl => match P.info? fl.type with
      | some i => if i.size = 0 then none else some fl.offset
      | none => none
    | none => none
  | _ => none
section
variable {M : Type} [Mem M] {P : Program} {w0 : World}
variable {d : Option Tmp} {ty : TypeId} {pos : String} {af : Array Edge} {g : Option (Nat × Bool)} {ev : Operand → Value} {s : St M} {K : Value → St M → Prop} {F : Value → St M → Option Value → Prop} {x y : Operand} {t t2 : TypeId}
def wgo (v : Value) (s : St M) (K : Value → St M → Prop) : Prop := K v s
theorem wgo_congr {v v' : Value} {s s' : St M} {K : Value → St M → Prop} {jp : Prop} (h : v = v') (h2 : s = s') (hj : (True ∧ True) = jp) : wgo v s K = wgo v' s' K := by rw [h, h2]
theorem go {v : Value} {s : St M} {K : Value → St M → Prop} : wgo v s K = K v s := rfl
def wmk (o : Option (Blk × (Nat → Value))) (s : St M) (K : Value → St M → Prop) : Prop := ∃ B f, o = some (B, f) ∧ K (f s.next) (s.new B)
theorem wmk_congr {o o' : Option (Blk × (Nat → Value))} {s : St M} {K : Value → St M → Prop} {jp : Prop} (h : o = o') (hj : (True ∧ True) = jp) : wmk o s K = wmk o' s K := by rw [h]
theorem mk {B : Blk} {f : Nat → Value} {s : St M} {K : Value → St M → Prop} : wmk (some (B, f)) s K = wgo (f s.next) (s.new B) K := by
  unfold wmk wgo
  rw [eq_iff_iff]
  exact ⟨fun ⟨B', f', h, hk⟩ => by cases h; exact hk, fun hk => ⟨B, f, rfl, hk⟩⟩
def wch (o : Option (Value × St M)) (K : Value → St M → Prop) : Prop := ∃ v s', o = some (v, s') ∧ K v s'
theorem wch_congr {o o' : Option (Value × St M)} {K : Value → St M → Prop} {jp : Prop} (h : o = o') (hj : (True ∧ True) = jp) : wch o K = wch o' K := by rw [h]
theorem ch {v : Value} {s : St M} {K : Value → St M → Prop} : wch (some (v, s)) K = wgo v s K := by
  unfold wch wgo
  rw [eq_iff_iff]
  exact ⟨fun ⟨v', s', h, hk⟩ => by cases h; exact hk, fun hk => ⟨v, s, rfl, hk⟩⟩
def wpr (a b : Option Value) (K : Value → Prop) : Prop := must a K ∨ must b K
theorem wpr_congr {a b a' b' : Option Value} {K : Value → Prop} {jp : Prop} (h : a = a') (h2 : b = b') (hj : (True ∧ True) = jp) : wpr a b K = wpr a' b' K := by rw [h, h2]
attribute [congr] wgo_congr wmk_congr wch_congr wpr_congr
theorem pr_l {v : Value} {K : Value → Prop} : wpr (some v) none K = K v := by simp [wpr, must]
theorem pr_r {v : Value} {K : Value → Prop} : wpr none (some v) K = K v := by simp [wpr, must]
def cld2 (B : Option Blk) (ag : Option Bool) (n o : Nat) : Option Value := match B with
  | some (.cells vs _ _) => match ag with
    | some true => (cut vs o n).map fun l => .agg l.toArray
    | some false => vs[o]?
    | none => none
  | _ => none
def cld (P : Program) (t : TypeId) (v : Value) (s : St M) : Option Value := match v with
  | .pointer (some a) => cld2 (s.at' a.block) (aggT P t) (P.cellsOf t) a.off
  | _ => none
theorem cload_eq {a : Addr} : cload P t a s = cld2 (s.at' a.block) (aggT P t) (P.cellsOf t) a.off := rfl
theorem o_load : wop P w0 ⟨d, .load t x, ty, pos, af, g⟩ ev s K = must (cld P t (ev x) s) fun v => shape P ty v fun v => K v s := rfl
theorem f_load : wfop P ⟨d, .load t x, ty, pos, af, g⟩ ev s F = must (cld P t (ev x) s) fun v => shape P ty v fun v => F v s (some v) := rfl
theorem cr_load : cread P ev s (.load t x) = cld P t (ev x) s := rfl
theorem ld {a : Addr} : cld P t (.pointer (some a)) s = cld2 (s.at' a.block) (aggT P t) (P.cellsOf t) a.off := rfl
theorem ld_one {vs : List Value} {e : TypeId} {w : Bool} {n o : Nat} : cld2 (some (.cells vs e w)) (some false) n o = vs[o]? := rfl
theorem ld_agg {vs : List Value} {e : TypeId} {w : Bool} {n o : Nat} : cld2 (some (.cells vs e w)) (some true) n o = (cut vs o n).map fun l => .agg l.toArray := rfl
theorem o_box : wop P w0 ⟨d, .box t x, ty, pos, af, g⟩ ev s K = wmk (if okPart (ev x) = true ∧ (P.info? t).isSome then some (.cells (ev x).cells.toList t true, fun b => .pointer (some ⟨b, 0, none⟩)) else none) s K := rfl
theorem o_alloc : wop P w0 ⟨d, .alloc t, ty, pos, af, g⟩ ev s K = wmk ((czero P t).map fun z => (.cells z.cells.toList t true, fun b => .pointer (some ⟨b, 0, none⟩))) s K := rfl
theorem f_box : wfop P ⟨d, .box t x, ty, pos, af, g⟩ ev s F = wmk (if okPart (ev x) = true ∧ (P.info? t).isSome then some (.cells (ev x).cells.toList t true, fun b => .pointer (some ⟨b, 0, none⟩)) else none) s fun v s => F v s none := rfl
theorem f_alloc : wfop P ⟨d, .alloc t, ty, pos, af, g⟩ ev s F = wmk ((czero P t).map fun z => (.cells z.cells.toList t true, fun b => .pointer (some ⟨b, 0, none⟩))) s fun v s => F v s none := rfl
theorem o_makeMap {t : TypeId} : wop P w0 ⟨d, .makeMap t none, ty, pos, af, g⟩ ev s K = wmk (some (.map [] 0, fun b => .map (some b))) s K := rfl
theorem o_store : wop P w0 ⟨d, .store t x y, ty, pos, af, g⟩ ev s K = wch (match ev x with
    | .pointer (some a) => if okPart (ev y) = true then (cstore P t a (ev y) s).map fun s' => (undef, s') else none
    | _ => none) K := rfl
theorem cstore_eq {a : Addr} {v : Value} : cstore P t a v s = match szOf P t with
    | some n => if v.cells.size = n then cstoreCells a v.cells.toList s else none
    | none => none := by
  unfold cstore szOf
  cases P.info? t <;> rfl
def cst2 (s : St M) (a : Addr) (l : List Value) (B : Option Blk) : Option (St M) := match B with
  | some (.cells vs e true) => if a.off + l.length ≤ vs.length ∧ l.all okCell = true then some (s.put a.block (.cells (setCells vs a.off l) e true)) else none
  | _ => none
theorem cstoreCells_eq {a : Addr} {l : List Value} : cstoreCells a l s = cst2 s a l (s.at' a.block) := rfl
theorem cst {a : Addr} {l vs : List Value} {e : TypeId} : cst2 s a l (some (.cells vs e true)) = if a.off + l.length ≤ vs.length ∧ l.all okCell = true then some (s.put a.block (.cells (setCells vs a.off l) e true)) else none := rfl
def cfa (o : Option Nat) (v : Value) : Option Value := match o, v with
  | some o, .pointer (some a) => some (.pointer (some (a.add o)))
  | _, _ => none
theorem cfa_eq {f : Nat} : cpure P ev ty (.fieldAddr t x f) = cfa (faOk P t f) (ev x) := by
  simp only [cpure, faOk, cfa]
  split
  · rename_i fs a h1 h2
    simp only [h1, h2]
    split
    · rename_i fl h3
      simp only [h3]
      split
      · rename_i i h4
        simp only [h4]
        split <;> rfl
      · rename_i h4; simp only [h4]
    · rename_i h3; simp only [h3]
  · rename_i h
    split
    · rename_i o a h1 h2
      split at h1
      · rename_i fs h3; exact absurd h2 (h fs a h3)
      · cases h1
    · rfl
theorem o_fieldAddr {f : Nat} : wop P w0 ⟨d, .fieldAddr t x f, ty, pos, af, g⟩ ev s K = must (cfa (faOk P t f) (ev x)) fun v => K v s := by
  rw [← cfa_eq (P := P) (ev := ev) (ty := ty)]; rfl
theorem f_fieldAddr {f : Nat} : wfop P ⟨d, .fieldAddr t x f, ty, pos, af, g⟩ ev s F = must (cfa (faOk P t f) (ev x)) fun v => F v s none := by
  rw [← cfa_eq (P := P) (ev := ev) (ty := ty)]; rfl
theorem fa {o : Nat} {a : Addr} : cfa (some o) (.pointer (some a)) = some (.pointer (some (a.add o))) := rfl
theorem add_mk {b o n : Nat} : (⟨b, o, none⟩ : Addr).add n = ⟨b, o + n, none⟩ := addr_add_mk b o n
def cixB (sz : Option Nat) (i : Int) (n : Nat) (a : Addr) : Option Value := match sz with
  | some z => if 0 ≤ i ∧ i < n then some (.pointer (some (a.add (i.toNat * z)))) else none
  | none => none
def cixA (P : Program) (td : Option TypeDesc) (v ix : Value) : Option Value := match ix with
  | .int _ i => match td, v with
    | some (.slice e), .slice (some a) n _ => cixB (szOf P e) i n a
    | some (.array n e), .pointer (some a) => cixB (szOf P e) i n a
    | _, _ => none
  | _ => none
theorem cix_eq {v ix : Value} : cidxAddr P t v ix = cixA P (P.underlying t) v ix := by
  unfold cidxAddr cixA
  cases ix with
  | int k i =>
    dsimp only
    cases P.underlying t with
    | none => rfl
    | some td =>
      cases td with
      | slice e =>
        cases v with
        | slice a n c => cases a with
          | none => rfl
          | some a => simp only [cixB, szOf]; cases P.info? e <;> rfl
        | _ => rfl
      | array n e =>
        cases v with
        | pointer a => cases a with
          | none => rfl
          | some a => simp only [cixB, szOf]; cases P.info? e <;> rfl
        | _ => rfl
      | _ => rfl
  | _ => rfl
theorem ix_slice {e : TypeId} {a : Addr} {n c : Nat} {k : IntKind} {i : Int} : cixA P (some (.slice e)) (.slice (some a) n c) (.int k i) = cixB (szOf P e) i n a := rfl
theorem ix_array {e : TypeId} {a : Addr} {n : Nat} {k : IntKind} {i : Int} : cixA P (some (.array n e)) (.pointer (some a)) (.int k i) = cixB (szOf P e) i n a := rfl
theorem ixb {z n : Nat} {i : Int} {a : Addr} : cixB (some z) i n a = if 0 ≤ i ∧ i < n then some (.pointer (some (a.add (i.toNat * z)))) else none := rfl
end
end Go.Cs
namespace Go.Cs
section
variable {M : Type} [Mem M] {P : Program} {w0 : World}
variable {d : Option Tmp} {ty : TypeId} {pos : String} {af : Array Edge} {g : Option (Nat × Bool)} {ev : Operand → Value} {s : St M} {K : Value → St M → Prop} {F : Value → St M → Option Value → Prop} {x y : Operand} {t t2 : TypeId}
def clen (td : Option TypeDesc) (v : Option Value) : Option Value := match td, v with
    | some (.slice _), some (.slice _ n _) => some (.int .i64 n)
    | some .string, some (.string s) => some (.int .i64 s.size)
    | some (.array n _), some _ => some (.int .i64 n)
    | some (.map _ _), some (.map none) => some (.int .i64 0)
    | _, _ => none
def clenM (s : St M) (td : Option TypeDesc) (v : Option Value) : Option Value := match td, v with
      | some (.map _ _), some (.map (some r)) => match s.at' r with
        | some (.map es _) => some (.int .i64 es.length)
        | _ => none
      | _, _ => none
theorem o_len {args : Array Operand} {ats : Array TypeId} : wop P w0 ⟨d, .call ⟨.builtin .len, args, ats⟩, ty, pos, af, g⟩ ev s K =
    wpr (clen (ats[0]?.bind P.underlying) ((args.map ev)[0]?)) (clenM s (ats[0]?.bind P.underlying) ((args[0]?).map ev)) fun v => K v s := rfl
theorem f_len {args : Array Operand} {ats : Array TypeId} : wfop P ⟨d, .call ⟨.builtin .len, args, ats⟩, ty, pos, af, g⟩ ev s F =
    (must (clen (ats[0]?.bind P.underlying) ((args.map ev)[0]?)) (fun v => F v s none) ∨ must (clenM s (ats[0]?.bind P.underlying) ((args[0]?).map ev)) fun v => F v s (some v)) := rfl
theorem len_slice {e : TypeId} {a : Option Addr} {n c : Nat} : clen (some (.slice e)) (some (.slice a n c)) = some (.int .i64 n) := rfl
theorem len_string {b : ByteArray} : clen (some .string) (some (.string b)) = some (.int .i64 b.size) := rfl
theorem lenM_slice {e : TypeId} {v : Option Value} : clenM s (some (.slice e)) v = none := rfl
theorem lenM_string {v : Option Value} : clenM s (some .string) v = none := rfl
def cnil (v : Value) : Option Value := match v with
    | .pointer (some a) => some (.pointer (some a))
    | .iface t v => some (.iface t v)
    | .func (.func f) a b => some (.func (.func f) a b)
    | _ => none
theorem o_nilCheck : wop P w0 ⟨d, .nilCheck x, ty, pos, af, g⟩ ev s K = must (cnil (ev x)) fun v => K v s := rfl
theorem f_nilCheck : wfop P ⟨d, .nilCheck x, ty, pos, af, g⟩ ev s F = must (cnil (ev x)) fun v => F v s none := rfl
theorem nil_p {a : Addr} : cnil (.pointer (some a)) = some (.pointer (some a)) := rfl
def cidx (P : Program) (td : Option TypeDesc) (v ix : Value) : Option Value := match td, v, ix with
    | some .string, .string s, .int _ i => if 0 ≤ i then (s[i.toNat]?).map fun b => .int .u8 b.toNat else none
    | some (.array n e), .agg cs, .int _ i => match P.info? e with
      | some ie => if 0 ≤ i ∧ i < n then cpart P e cs (i.toNat * ie.size) else none
      | none => none
    | _, _, _ => none
theorem o_index : wop P w0 ⟨d, .index t x y, ty, pos, af, g⟩ ev s K = must (cidx P (P.underlying t) (ev x) (ev y)) fun v => K v s := rfl
theorem f_index : wfop P ⟨d, .index t x y, ty, pos, af, g⟩ ev s F = must (cidx P (P.underlying t) (ev x) (ev y)) fun v => F v s none := rfl
theorem ix_str {b : ByteArray} {k : IntKind} {i : Int} : cidx P (some .string) (.string b) (.int k i) = if 0 ≤ i then (b[i.toNat]?).map fun b => .int .u8 b.toNat else none := rfl
end
end Go.Cs
namespace Go.Cs
section
variable {P : Program} {d : Nat} {xs ys : Array Value} {f : Field} {fs : List Field} {a b : Value} {r s : Bool} {t : TypeId}
theorem pureRun_program : pureRun P program = some P := rfl
theorem pureRun_ite {α : Type} {c : Prop} [Decidable c] {x y : Sem α} : pureRun P (if c then x else y) = if c then pureRun P x else pureRun P y := by split <;> rfl
theorem pr_eqStruct {fs : Array Field} (ht : P.underlying t = some (.struct fs)) (hp : P.stoodInHeld t = false) : pureRun P (Op.equalIn (d + 1) t (.agg xs) (.agg ys)) = pureRun P (Op.eqFields d xs ys fs.toList) := by
  simp only [Op.equalIn, pureRun_bind, pureRun_underlying ht, Option.bind_some, pureRun_program, hp, Bool.false_eq_true, if_false]
  rw [← Array.forIn_toList]
  generalize fs.toList = fs
  clear ht
  induction fs with
  | nil => simp only [List.forIn_nil, pureRun_pure, Op.eqFields, Option.bind_some]
  | cons f fs ih =>
    simp only [List.forIn_cons, Op.eqFields, pureRun_bind, pureRun_ite]
    split
    · cases pureRun P (part f.type xs f.offset) with
      | none => rfl
      | some a =>
        simp only [Option.bind_some]
        cases pureRun P (part f.type ys f.offset) with
        | none => rfl
        | some b =>
          simp only [Option.bind_some]
          cases pureRun P (Op.equalIn d f.type a b) with
          | none => rfl
          | some r =>
            cases r with
            | true => simpa [pureRun_pure] using ih
            | false => simp [pureRun_pure]
    · simpa [pureRun_pure] using ih
theorem pr_eqNil : pureRun P (Op.eqFields d xs ys []) = some true := rfl
theorem pr_eqCons (hn : (f.name == "_") = false) (ha : pureRun P (part f.type xs f.offset) = some a) (hb : pureRun P (part f.type ys f.offset) = some b) (he : pureRun P (Op.equalIn d f.type a b) = some r) (hr : pureRun P (Op.eqFields d xs ys fs) = some s) :
    pureRun P (Op.eqFields d xs ys (f :: fs)) = some (r && s) := by
  have hn' : f.name ≠ "_" := by simpa using hn
  rw [Op.eqFields]
  simp only [if_pos hn', pureRun_bind, ha, hb, he, Option.bind_some, pureRun_ite, hr]
  cases r <;> rfl
theorem pr_eqInt {k0 k : IntKind} {a b : Int} (h : P.underlying t = some (.int k0)) : pureRun P (Op.equalIn (d + 1) t (.int k a) (.int k b)) = some (a == b) := by
  simp only [Op.equalIn, pureRun_bind, pureRun_underlying h, Option.bind_some, if_true, pureRun_pure]
theorem pr_eqString {a b : ByteArray} (h : P.underlying t = some .string) : pureRun P (Op.equalIn (d + 1) t (.string a) (.string b)) = some (decide (a = b)) := by
  simp only [Op.equalIn, pureRun_bind, pureRun_underlying h, Option.bind_some, pureRun_pure]
  rw [← decide_ba]
  simp only [beq_toListBytes]
end
end Go.Cs
namespace Go.Cs
section
variable {M : Type} [Mem M]
def St.le (s s' : St M) : Prop := s.next ≤ s'.next ∧ ∀ b, b < s.next → s'.at' b = s.at' b
theorem St.le_refl (s : St M) : s.le s := ⟨Nat.le_refl _, fun _ _ => rfl⟩
theorem St.le_trans {s s1 s2 : St M} (h : s.le s1) (h' : s1.le s2) : s.le s2 :=
  ⟨Nat.le_trans h.1 h'.1, fun b hb => by rw [h'.2 b (Nat.lt_of_lt_of_le hb h.1), h.2 b hb]⟩
theorem St.le_new {s s1 : St M} {B : Blk} (h : s.le s1) : s.le (s1.new B) :=
  ⟨by have := h.1; simp; omega, fun b hb => by rw [St.at_new, if_neg (by have := h.1; omega)]; exact h.2 b hb⟩
theorem St.le_put {s s1 : St M} {B : Blk} {b : Nat} (h : s.le s1) (hb : s.next ≤ b) : s.le (s1.put b B) :=
  ⟨h.1, fun c hc => by rw [St.at_put, if_neg (by omega)]; exact h.2 c hc⟩
def Fix (W : List Nat) (env env' : Env) : Prop := ∀ t, W.contains t = false → env' t = env t
theorem Fix.refl {W : List Nat} {env : Env} : Fix W env env := fun _ _ => rfl
theorem Fix.upd {W : List Nat} {env env' : Env} {d : Nat} {v : Value} (hd : W.contains d = true) (h : Fix W env env') : Fix W env (upd env' d v) := by
  intro t ht
  have : t ≠ d := by intro e; subst e; rw [hd] at ht; cases ht
  rw [upd_apply, if_neg this]
  exact h t ht
theorem Fix.trans {W : List Nat} {a b c : Env} (h : Fix W a b) (h' : Fix W b c) : Fix W a c := fun t ht => by rw [h' t ht, h t ht]
variable {P : Program} {w0 : World} {ord : Ord} {n : Nat}
variable {d : Option Tmp} {ty : TypeId} {pos : String} {af : Array Edge} {g : Option (Nat × Bool)} {ev : Operand → Value} {s : St M} {K : Value → St M → Prop} {F : Value → St M → Option Value → Prop} {x y : Operand} {t t2 : TypeId}
def wcalv (P : Program) (w0 : World) (o : Oper) (ev : Operand → Value) (fv : Value) (args : Array Value) (s : St M) (ty : TypeId) (K : Value → St M → Prop) : Prop := match fv with
  | .func (.func f) first cap => (match callOk P f with
    | true => CCalls P w0 f (first ++ args ++ cap) s fun v s' => shape P ty v fun v => K v s'
    | false => wopx P w0 o ev s K)
  | .func (.yield l) _ _ => CRound P w0 l args s fun v s' => shape P ty v fun v => K v s'
  | _ => wopx P w0 o ev s K
theorem wcalv_congr {o : Oper} {ev : Operand → Value} {fv fv' : Value} {args args' : Array Value} {s : St M} {K : Value → St M → Prop} {jp : Prop} (h : fv = fv') (h2 : args = args') (hj : (True ∧ True) = jp) : wcalv P w0 o ev fv args s ty K = wcalv P w0 o ev fv' args' s ty K := by rw [h, h2]
attribute [congr] wcalv_congr
theorem o_calv {u : Nat} {args : Array Operand} {ats : Array TypeId} {env : Env} :
    wop P w0 ⟨d, .call ⟨.value (.tmp u), args, ats⟩, ty, pos, af, g⟩ (wev env) s K = wcalv P w0 ⟨d, .call ⟨.value (.tmp u), args, ats⟩, ty, pos, af, g⟩ (wev env) (wev env (.tmp u)) (args.map (wev env)) s ty K := by
  unfold wcalv
  split
  · rename_i f first cap hfv
    split
    · rename_i hok
      obtain ⟨fn, h1, h2⟩ := callOk_spec hok
      unfold wop
      simp only [kindOf, ccallee, hfv, h1, h2, if_true]
    · rfl
  · rename_i l x1 x2 hfv
    unfold wop
    simp only [kindOf, ccallee, cyield, hfv]
  · rfl
theorem caly {o : Oper} {ev : Operand → Value} {l : Nat} {a b args : Array Value} : wcalv P w0 o ev (.func (.yield l) a b) args s ty K = CRound P w0 l args s fun v s' => shape P ty v fun v => K v s' := rfl
theorem calv {o : Oper} {ev : Operand → Value} {f : FuncId} {a b args : Array Value} (h : callOk P f = true) : wcalv P w0 o ev (.func (.func f) a b) args s ty K = CCalls P w0 f (a ++ args ++ b) s fun v s' => shape P ty v fun v => K v s' := by
  unfold wcalv
  simp only [h]
theorem o_makeFunc {f : FuncId} {a b : Array Operand} : wop P w0 ⟨d, .makeFunc (.func f) a b, ty, pos, af, g⟩ ev s K = wval (.func (.func f) (a.map ev) (b.map ev)) fun v => K v s := by
  unfold wop
  simp only [kindOf, wpu, cpure, must, wval]
  simp
theorem f_makeFunc {f : FuncId} {a b : Array Operand} : wfop P ⟨d, .makeFunc (.func f) a b, ty, pos, af, g⟩ ev s F = wval (.func (.func f) (a.map ev) (b.map ev)) fun v => F v s none := by
  unfold wfop
  simp only [kindOf, wpu, cpure, must, wval]
  simp
def wextr (o : Option Value) (c : Option (Value × St M)) (s : St M) (K : Value → St M → Prop) : Prop := match o with
  | some v => K v s
  | none => match c with
    | some (v, s') => K v s'
    | none => False
theorem wextr_congr {o o' : Option Value} {c c' : Option (Value × St M)} {s : St M} {K : Value → St M → Prop} (h : o = o') (h2 : c = c') : wextr o c s K = wextr o' c' s K := by rw [h, h2]
attribute [congr] wextr_congr
theorem x_ext1 {v : Value} {c : Option (Value × St M)} : wextr (some v) c s K = K v s := rfl
theorem x_ext2 {v : Value} {s' : St M} : wextr none (some (v, s')) s K = K v s' := rfl
theorem o_ext {f : FuncId} {args : Array Operand} {ats : Array TypeId} {env : Env} (h : callOk P f = false) :
    wop P w0 ⟨d, .call ⟨.value (.func f), args, ats⟩, ty, pos, af, g⟩ (wev env) s K = wextr (cextern P f (args.map (wev env))) (catom P f (args.map (wev env)) s) s K := by
  have hc : ccallee P (wev env) ⟨.value (.func f), args, ats⟩ = none := by
    unfold ccallee
    unfold callOk at h
    simp only [wev]
    split
    · rename_i fn hfn
      rw [hfn] at h
      simp only at h
      rw [h]
      rfl
    · rfl
  have hy : cyield (wev env) ⟨.value (.func f), args, ats⟩ = none := rfl
  have e : ceff P (wev env) s (.call ⟨.value (.func f), args, ats⟩) = match cextern P f (args.map (wev env)) with | some v => some (v, s) | none => catom P f (args.map (wev env)) s := by
    simp only [ceff, wev, Array.empty_append, Array.append_empty]
    cases cextern P f (args.map (wev env)) <;> rfl
  unfold wop
  simp only [kindOf, hc, hy, e]
  unfold wextr
  rw [eq_iff_iff]
  cases cextern P f (args.map (wev env)) with
  | some v =>
    simp only
    constructor
    · rintro ⟨v1, s', h1, h2⟩; cases h1; exact h2
    · intro h1; exact ⟨v, s, rfl, h1⟩
  | none =>
    simp only
    cases catom P f (args.map (wev env)) s with
    | none => exact ⟨fun ⟨_, _, h1, _⟩ => (by cases h1), fun h => h.elim⟩
    | some x =>
      obtain ⟨v, s1⟩ := x
      constructor
      · rintro ⟨v1, s', h1, h2⟩; cases h1; exact h2
      · intro h1; exact ⟨v, s1, rfl, h1⟩
def cus (P : Program) (td : Option TypeDesc) (p n : Value) (s : St M) (B : Option Blk) : Option (Value × St M) := match td, p, n with
      | some (.pointer u), .pointer p, .int _ n =>
        if n = 0 then some (.string .empty, s)
        else match p with
          | some a => match B with
            | some (.cells vs e true) => if 0 < n ∧ n ≤ 9223372036854775807 ∧ upOk P e u = true ∧ P.cellsOf e = 1 then
                (match (cut vs a.off n.toNat).bind fun l => l.mapM byteOf? with
                  | some bs => some (.string ⟨bs.toArray⟩, s.put a.block (.cells vs e false))
                  | none => none)
              else none
            | _ => none
          | none => none
      | _, _, _ => none
def cusv (P : Program) (td : Option TypeDesc) (p n : Value) (s : St M) : Option (Value × St M) := match p with
  | .pointer (some a) => cus P td (.pointer (some a)) n s (s.at' a.block)
  | p => cus P td p n s none
theorem o_us {x y : Operand} {t1 t2 : TypeId} : wop P w0 ⟨d, .call ⟨.builtin .unsafeString, #[x, y], #[t1, t2]⟩, ty, pos, af, g⟩ ev s K = wch (cusv P (P.underlying t1) (ev x) (ev y) s) K := by
  have e : ceff P ev s (.call ⟨.builtin .unsafeString, #[x, y], #[t1, t2]⟩) = cusv P (P.underlying t1) (ev x) (ev y) s := by
    simp only [ceff, cusv, cus, List.getElem?_toArray, List.getElem?_cons_zero, List.getElem?_cons_succ, Option.bind_some, Option.map_some, List.size_toArray, List.length_cons, List.length_nil]
    cases P.underlying t1 with
    | none => cases ev x with
      | pointer p => cases p <;> rfl
      | _ => rfl
    | some td => cases td <;> first
      | (cases ev x with
         | pointer p => cases p <;> rfl
         | _ => rfl)
      | (cases ev x with
         | pointer p => cases p <;> cases ev y <;> first | rfl | (simp only [Nat.reduceAdd, Nat.reduceBEq, Bool.true_eq_false, if_false])
         | _ => rfl)
  unfold wop
  simp only [kindOf, e]
  rfl
theorem us_p {td : Option TypeDesc} {a : Addr} {n : Value} : cusv P td (.pointer (some a)) n s = cus P td (.pointer (some a)) n s (s.at' a.block) := rfl
theorem us_0 {u : TypeId} {k : IntKind} : cusv P (some (.pointer u)) (.pointer none) (.int k 0) s = some (.string .empty, s) := rfl
theorem f_ssd {args : Array Operand} {ats : Array TypeId} : wfop P ⟨d, .call ⟨.builtin .unsafeSliceData, args, ats⟩, ty, pos, af, g⟩ ev s F = must (cbuiltin P .unsafeSliceData ats ty (args.map ev)) fun v => F v s none := rfl
theorem ssd_some {ats : Array TypeId} {a : Addr} {n c : Nat} : cbuiltin P .unsafeSliceData ats ty #[.slice (some a) n c] = if c ≠ 0 ∧ (c = UNK → n ≠ 0) then some (.pointer (some a)) else none := rfl
theorem ssd_none {ats : Array TypeId} {n c : Nat} : cbuiltin P .unsafeSliceData ats ty #[.slice none n c] = some (.pointer none) := rfl
def wneg (P : Program) (v : Value) (K : Value → Prop) : Prop := must (if plain 1 v = true then pure6 P (Op.unary .neg v) else none) K
theorem wneg_congr {v v' : Value} {K : Value → Prop} {jp : Prop} (h : v = v') (hj : (True ∧ True) = jp) : wneg P v K = wneg P v' K := by rw [h]
attribute [congr] wneg_congr
theorem o_neg : wop P w0 ⟨d, .unOp .neg t x, ty, pos, af, g⟩ ev s K = wneg P (ev x) fun v => K v s := rfl
theorem f_neg : wfop P ⟨d, .unOp .neg t x, ty, pos, af, g⟩ ev s F = wneg P (ev x) fun v => F v s none := rfl
theorem neg_int {k : IntKind} {m : Int} {K : Value → Prop} : wneg P (.int k m) K = wval (.int k (k.wrap (-m))) K := by
  unfold wneg wval must
  simp only [plain, if_true, pure6, Op.unary, Op.intArith, pureRun_pure]
  simp
theorem o_slice {lo hi mx : Option Operand} : wop P w0 ⟨d, .slice t x lo hi mx, ty, pos, af, g⟩ ev s K = wpr (cslice P t (ev x) (lo.map ev) (hi.map ev) (mx.map ev)) (cread P ev s (.slice t x lo hi mx)) fun v => K v s := rfl
theorem f_slice {lo hi mx : Option Operand} : wfop P ⟨d, .slice t x lo hi mx, ty, pos, af, g⟩ ev s F = (must (cslice P t (ev x) (lo.map ev) (hi.map ev) (mx.map ev)) (fun v => F v s none) ∨ must (cread P ev s (.slice t x lo hi mx)) fun v => F v s (some v)) := rfl
def cbs2 (vs : Option Blk) (off n : Nat) : Option Value := match vs with
  | some (.cells vs _ _) => (match cut vs off n with
        | some l => (l.mapM byteOf?).map fun bs => .string ⟨bs.toArray⟩
        | none => none)
  | _ => none
def cbs (s : St M) (v : Value) : Option Value := match v with
  | .slice (some a) n _ => cbs2 (s.at' a.block) a.off n
  | .slice none _ _ => some (.string .empty)
  | _ => none
def wbs (P : Program) (w0 : World) (o : Oper) (ev : Operand → Value) (s : St M) (K : Value → St M → Prop) (v : Value) : Prop := match v with
  | .slice a n c => must (cbs s (.slice a n c)) fun v => shape P o.type v fun v => K v s
  | _ => wop P w0 o ev s K
theorem wbs_congr {o : Oper} {ev : Operand → Value} {s : St M} {K : Value → St M → Prop} {v v' : Value} {jp : Prop} (h : v = v') (hj : (True ∧ True) = jp) : wbs P w0 o ev s K v = wbs P w0 o ev s K v' := by rw [h]
attribute [congr] wbs_congr
theorem bs_go {o : Oper} {a : Option Addr} {n c : Nat} : wbs P w0 o ev s K (.slice a n c) = must (cbs s (.slice a n c)) fun v => shape P o.type v fun v => K v s := rfl
theorem bs_at {a : Addr} {n c : Nat} : cbs s (.slice (some a) n c) = cbs2 (s.at' a.block) a.off n := rfl
theorem bs_nil {n c : Nat} : cbs s (.slice none n c) = some (.string .empty) := rfl
def crow (P : Program) (t : TypeId) (len : Nat) (parts : Array (Nat × Value)) : Option Blk := match P.underlying t with
    | some (.slice e) => match P.info? e with
      | some ie => if len * ie.size ≤ 65536 ∧ len < UNK ∧ (parts.toList.all fun x => okPart x.2) = true then
          match zerosOf P e (len * ie.size) with
          | some z => match Instr.fill (fun i => some (i * ie.size, ie.size)) z.toArray parts.toList with
            | some cells => some (.cells cells.toList e true)
            | none => none
          | none => none
        else none
      | none => none
    | _ => none
theorem calloc_row {len : Nat} {parts : Array (Nat × Operand)} : calloc P ev (.buildSlice t len parts) = (crow P t len (parts.map fun x => (x.1, ev x.2))).map fun B => (B, fun b => .slice (some ⟨b, 0, none⟩) len len) := by
  unfold calloc crow
  dsimp only
  have e : ((parts.map fun x => (x.1, ev x.2)).toList.all fun x => okPart x.2) = (parts.toList.all fun x => okPart (ev x.2)) := by
    simp [Function.comp_def]
  rw [e]
  cases P.underlying t with
  | none => rfl
  | some td =>
    cases td with
    | slice e' =>
      dsimp only
      cases P.info? e' with
      | none => rfl
      | some ie =>
        dsimp only
        by_cases hc : len * ie.size ≤ 65536 ∧ len < UNK ∧ (parts.toList.all fun x => okPart (ev x.snd)) = true
        · rw [if_pos hc, if_pos hc]
          cases zerosOf P e' (len * ie.size) with
          | none => rfl
          | some z =>
            dsimp only
            cases Instr.fill (fun i => some (i * ie.size, ie.size)) z.toArray (Array.map (fun x => (x.fst, ev x.snd)) parts).toList <;> rfl
        · rw [if_neg hc, if_neg hc]; rfl
    | _ => rfl
theorem o_row {len : Nat} {parts : Array (Nat × Operand)} : wop P w0 ⟨d, .buildSlice t len parts, ty, pos, af, g⟩ ev s K = wmk ((crow P t len (parts.map fun x => (x.1, ev x.2))).map fun B => (B, fun b => .slice (some ⟨b, 0, none⟩) len len)) s K := by
  rw [← calloc_row]; rfl
theorem f_row {len : Nat} {parts : Array (Nat × Operand)} : wfop P ⟨d, .buildSlice t len parts, ty, pos, af, g⟩ ev s F = wmk ((crow P t len (parts.map fun x => (x.1, ev x.2))).map fun B => (B, fun b => .slice (some ⟨b, 0, none⟩) len len)) s fun v s => F v s none := by
  rw [← calloc_row]; rfl
def cbuild (P : Program) (t : TypeId) (parts : Array (Nat × Value)) : Option Value := if (parts.toList.all fun x => okPart x.2) = true ∧ zeroPlain P t = true then pureRun P (Instr.build t parts) else none
theorem cpure_build {parts : Array (Nat × Operand)} : cpure P ev ty (.build t parts) = cbuild P t (parts.map fun x => (x.1, ev x.2)) := by
  unfold cpure cbuild
  have e : ((parts.map fun x => (x.1, ev x.2)).toList.all fun x => okPart x.2) = (parts.toList.all fun x => okPart (ev x.2)) := by
    simp [Function.comp_def]
  rw [e]
theorem o_build {parts : Array (Nat × Operand)} : wop P w0 ⟨d, .build t parts, ty, pos, af, g⟩ ev s K = must (cbuild P t (parts.map fun x => (x.1, ev x.2))) fun v => K v s := by
  rw [← cpure_build (ty := ty)]; rfl
theorem f_build {parts : Array (Nat × Operand)} : wfop P ⟨d, .build t parts, ty, pos, af, g⟩ ev s F = must (cbuild P t (parts.map fun x => (x.1, ev x.2))) fun v => F v s none := by
  rw [← cpure_build (ty := ty)]; rfl
def clk3 (ok : Bool) (r : Option (Option (Nat × Value))) (z : Option Value) : Option Value := match r with
  | some (some (_, v)) => some (if ok then .tuple #[v, .bool true] else v)
  | some none => z.map fun z => if ok then .tuple #[z, .bool false] else z
  | none => none
def clk2 (P : Program) (td : Option TypeDesc) (B : Option Blk) (k : Value) (ok : Bool) : Option Value := match td with
  | some (.map kt et) => match B with
    | some (.map es _) => clk3 ok (cfind P kt k es) (czero P et)
    | _ => none
  | _ => none
def clkn (P : Program) (td : Option TypeDesc) (k : Value) (ok : Bool) : Option Value := match td with
  | some (.map kt et) => clk3 ok (cfind P kt k []) (czero P et)
  | _ => none
theorem lk_map {r : Nat} {k : Value} {ok : Bool} : clookup P t (.map (some r)) k ok s = clk2 P (P.underlying t) (s.at' r) k ok := by
  unfold clookup clk2 clk3
  split
  · rename_i kt et h
    simp only [h]
    cases s.at' r with
    | none => rfl
    | some B => cases B <;> rfl
  · rename_i h
    split
    · rename_i h2; exact absurd h2 (h _ _)
    · rfl
theorem lk_nil {k : Value} {ok : Bool} : clookup P t (.map none) k ok s = clkn P (P.underlying t) k ok := by
  unfold clookup clkn clk3
  split
  · rename_i kt et h; simp only [h]; rfl
  · rename_i h
    split
    · rename_i h2; exact absurd h2 (h _ _)
    · rfl
theorem lk2 {kt et : TypeId} {es : List MapEntry} {c : Nat} {k : Value} {ok : Bool} : clk2 P (some (.map kt et)) (some (.map es c)) k ok = clk3 ok (cfind P kt k es) (czero P et) := rfl
theorem lkn {kt et : TypeId} {k : Value} {ok : Bool} : clkn P (some (.map kt et)) k ok = clk3 ok (cfind P kt k []) (czero P et) := rfl
theorem lk3_hit {i : Nat} {v : Value} {z : Option Value} : clk3 true (some (some (i, v))) z = some (.tuple #[v, .bool true]) := rfl
theorem lk3_hit' {i : Nat} {v : Value} {z : Option Value} : clk3 false (some (some (i, v))) z = some v := rfl
theorem lk3_miss {z : Value} : clk3 true (some none) (some z) = some (.tuple #[z, .bool false]) := rfl
theorem lk3_miss' {z : Value} : clk3 false (some none) (some z) = some z := rfl
theorem o_lookup {ok : Bool} : wop P w0 ⟨d, .lookup t x y ok, ty, pos, af, g⟩ ev s K = must (clookup P t (ev x) (ev y) ok s) fun v => shape P ty v fun v => K v s := rfl
theorem f_lookup {ok : Bool} : wfop P ⟨d, .lookup t x y ok, ty, pos, af, g⟩ ev s F = must (clookup P t (ev x) (ev y) ok s) fun v => shape P ty v fun v => F v s (some v) := rfl
theorem cr_lookup {ok : Bool} : cread P ev s (.lookup t x y ok) = clookup P t (ev x) (ev y) ok s := rfl
def cms3 (s : St M) (r : Nat) (es : List MapEntry) (c : Nat) (k v : Value) (o : Option (Option (Nat × Value))) : Option (St M) := match o with
  | some (some (i, _)) => some (s.put r (.map (es.modify i fun e => { e with key := k, val := v }) c))
  | some none => some (s.put r (.map (es ++ [{ key := k, val := v, born := c }]) (c + 1)))
  | none => none
def cms2 (P : Program) (td : Option TypeDesc) (s : St M) (r : Nat) (B : Option Blk) (k v : Value) : Option (St M) := match td with
  | some (.map kt _) => match B with
    | some (.map es c) => cms3 s r es c k v (cfind P kt k es)
    | _ => none
  | _ => none
theorem ms_map {r : Nat} {k v : Value} : cmapset P t (.map (some r)) k v s = cms2 P (P.underlying t) s r (s.at' r) k v := by
  unfold cmapset cms2
  split
  · rename_i kt et r' h h2
    cases h2
    simp only [h]
    cases s.at' r with
    | none => rfl
    | some B => cases B <;> rfl
  · rename_i h
    split
    · rename_i kt et h2; exact absurd rfl (h kt et r h2)
    · rfl
theorem ms2 {kt et : TypeId} {r : Nat} {es : List MapEntry} {c : Nat} {k v : Value} : cms2 P (some (.map kt et)) s r (some (.map es c)) k v = cms3 s r es c k v (cfind P kt k es) := rfl
theorem ms3_hit {r i : Nat} {es : List MapEntry} {c : Nat} {k v u : Value} : cms3 s r es c k v (some (some (i, u))) = some (s.put r (.map (es.modify i fun e => { e with key := k, val := v }) c)) := rfl
theorem ms3_miss {r : Nat} {es : List MapEntry} {c : Nat} {k v : Value} : cms3 s r es c k v (some none) = some (s.put r (.map (es ++ [{ key := k, val := v, born := c }]) (c + 1))) := rfl
theorem o_mapUpdate {z : Operand} : wop P w0 ⟨d, .mapUpdate t x y z, ty, pos, af, g⟩ ev s K = wch ((cmapset P t (ev x) (ev y) (ev z) s).map fun s' => (undef, s')) K := rfl
theorem o_insert {z : Operand} : wop P w0 ⟨d, .insert t x y z, ty, pos, af, g⟩ ev s K = wch ((cmapset P t (ev x) (ev y) (ev z) s).map fun s' => (undef, s')) K := rfl
def cmore2 (n size off : Nat) (B : Option Blk) : Option (Nat × List Value) := match B with
  | some (.cells vs _ _) => (cut vs off (n * size)).map fun l => (n, l)
  | _ => none
theorem more_at {size n c : Nat} {b : Addr} : cmore size (.slice (some b) n c) s = cmore2 n size b.off (s.at' b.block) := rfl
theorem more_nil {size n c : Nat} : cmore size (.slice none n c) s = some (0, []) := rfl
theorem more2 {n size off : Nat} {vs : List Value} {e : TypeId} {w : Bool} : cmore2 n size off (some (.cells vs e w)) = (cut vs off (n * size)).map fun l => (n, l) := rfl
theorem o_append {args : Array Operand} {ats : Array TypeId} : wop P w0 ⟨d, .call ⟨.builtin .append, args, ats⟩, ty, pos, af, g⟩ ev s K = wch (capp P ats (args.map ev) s) K := rfl
end
end Go.Cs
namespace Go.Cs
section
variable {M : Type} [Mem M] {P : Program} {w0 : World}
variable {d : Option Tmp} {ty : TypeId} {pos : String} {af : Array Edge} {g : Option (Nat × Bool)} {ev : Operand → Value} {s : St M} {K : Value → St M → Prop} {F : Value → St M → Option Value → Prop} {x y : Operand} {t t2 : TypeId}
theorem m_none {F : Value → Prop} : must none F = False := by simp [must]
theorem cast0 : ((0 : Nat) : Int) = 0 := rfl
theorem ba_empty : ByteArray.empty = ⟨#[]⟩ := rfl
theorem o_indexAddr : wop P w0 ⟨d, .indexAddr t x y, ty, pos, af, g⟩ ev s K = must (cixA P (P.underlying t) (ev x) (ev y)) fun v => K v s := by
  rw [← cix_eq]
  unfold wop
  simp only [kindOf, wpu]
  split
  · rename_i e a n c k i h1 h2 h3
    simp only [must, cidxAddr, h1, h2, h3]
    cases h : P.info? e with
    | none => simp
    | some ie =>
      rw [cellsOf_info h]
      by_cases hc : 0 ≤ i ∧ i < n
      · simp [hc.1, hc.2]
      · simp only [if_neg hc, Option.isSome_some, true_and, reduceCtorEq, false_and, exists_false, eq_iff_iff, iff_false]
        rintro ⟨h4, h5, _⟩
        exact hc ⟨h4, h5⟩
  · rfl
theorem f_indexAddr : wfop P ⟨d, .indexAddr t x y, ty, pos, af, g⟩ ev s F = must (cixA P (P.underlying t) (ev x) (ev y)) fun v => F v s none := by
  rw [← cix_eq]
  unfold wfop
  simp only [kindOf, wpu]
  split
  · rename_i e a n c k i h1 h2 h3
    simp only [must, cidxAddr, h1, h2, h3]
    cases h : P.info? e with
    | none => simp
    | some ie =>
      rw [cellsOf_info h]
      by_cases hc : 0 ≤ i ∧ i < n
      · simp [hc.1, hc.2]
      · simp only [if_neg hc, Option.isSome_some, true_and, reduceCtorEq, false_and, exists_false, eq_iff_iff, iff_false]
        rintro ⟨h4, h5, _⟩
        exact hc ⟨h4, h5⟩
  · rfl
theorem cr_slice3 {lo hi : Option Operand} {m : Operand} : cread P ev s (.slice t x lo hi (some m)) = none := rfl
end
section
variable {M : Type} [Mem M] {P : Program} {w0 : World}
variable {d : Option Tmp} {ty : TypeId} {pos : String} {af : Array Edge} {g : Option (Nat × Bool)} {ev : Operand → Value} {s : St M} {K : Value → St M → Prop} {F : Value → St M → Option Value → Prop} {x y : Operand} {t t2 : TypeId}
theorem wb_eq_p {a : Option Addr} {v : Value} {K : Value → Prop} : wbin P .eql t x y (.pointer a) v K = must (cbin P .eql t x y (.pointer a) v) K := rfl
theorem wb_ne_p {a : Option Addr} {v : Value} {K : Value → Prop} : wbin P .neq t x y (.pointer a) v K = must (cbin P .neq t x y (.pointer a) v) K := rfl
theorem wb_eq_m {a : Option Nat} {v : Value} {K : Value → Prop} : wbin P .eql t x y (.map a) v K = must (cbin P .eql t x y (.map a) v) K := rfl
theorem wb_ne_m {a : Option Nat} {v : Value} {K : Value → Prop} : wbin P .neq t x y (.map a) v K = must (cbin P .neq t x y (.map a) v) K := rfl
theorem wb_eq_s {a : Option Addr} {n c : Nat} {v : Value} {K : Value → Prop} : wbin P .eql t x y (.slice a n c) v K = must (cbin P .eql t x y (.slice a n c) v) K := rfl
theorem wb_ne_s {a : Option Addr} {n c : Nat} {v : Value} {K : Value → Prop} : wbin P .neq t x y (.slice a n c) v K = must (cbin P .neq t x y (.slice a n c) v) K := rfl
theorem wb_eq_a {a : Array Value} {v : Value} {K : Value → Prop} : wbin P .eql t x y (.agg a) v K = must (cbin P .eql t x y (.agg a) v) K := rfl
theorem wb_ne_a {a : Array Value} {v : Value} {K : Value → Prop} : wbin P .neq t x y (.agg a) v K = must (cbin P .neq t x y (.agg a) v) K := rfl
theorem wb_eq_b {a b : Bool} {K : Value → Prop} : wbin P .eql t x y (.bool a) (.bool b) K = must (cbin P .eql t x y (.bool a) (.bool b)) K := rfl
theorem wb_ne_b {a b : Bool} {K : Value → Prop} : wbin P .neq t x y (.bool a) (.bool b) K = must (cbin P .neq t x y (.bool a) (.bool b)) K := rfl
def cpp (P : Program) (op : BinOp) (td : Option TypeDesc) (x y : Value) : Option Value := match x, y, td with
    | .pointer (some a), .pointer (some b), some (.pointer e) => match P.info? e with
      | some ie =>
        if a.block = b.block ∧ ie.size ≠ 0 ∧ a.spot = none ∧ b.spot = none then
          match op with
          | .eql => some (.bool (a.off == b.off))
          | .neq => some (.bool (!(a.off == b.off)))
          | _ => none
        else none
      | none => none
    | _, _, _ => none
theorem cr_bin {op : BinOp} : cread P ev s (.binOp op t x y t2) = cpp P op (P.underlying t) (ev x) (ev y) := rfl
def cup (P : Program) (sd dd : Option TypeDesc) (a : Addr) (B : Option Blk) : Option Value := match sd, dd with
  | some (.pointer t), some .unsafePointer => match B with
      | some (.cells vs _ _) => if (P.info? t).any (fun i => i.size != 0) = true ∧ a.off < vs.length then some (.pointer (some a)) else none
      | _ => none
  | some .unsafePointer, some (.pointer u) => match B with
      | some (.cells vs e true) => if upOk P e u = true ∧ a.off % P.cellsOf e = 0 ∧ a.off + P.cellsOf e ≤ vs.length then some (.pointer (some a)) else none
      | _ => none
  | _, _ => none
def wcp (P : Program) (w0 : World) (o : Oper) (src dst : TypeId) (ev : Operand → Value) (s : St M) (K : Value → St M → Prop) (v : Value) : Prop := match v with
  | .pointer (some a) => must (cup P (P.underlying src) (P.underlying dst) a (s.at' a.block)) fun v => shape P o.type v fun v => K v s
  | _ => wop P w0 o ev s K
theorem wcp_congr {o : Oper} {src dst : TypeId} {ev : Operand → Value} {s : St M} {K : Value → St M → Prop} {v v' : Value} {jp : Prop} (h : v = v') (hj : (True ∧ True) = jp) : wcp P w0 o src dst ev s K v = wcp P w0 o src dst ev s K v' := by rw [h]
attribute [congr] wcp_congr
theorem cp_go {o : Oper} {src dst : TypeId} {a : Addr} : wcp P w0 o src dst ev s K (.pointer (some a)) = must (cup P (P.underlying src) (P.underlying dst) a (s.at' a.block)) fun v => shape P o.type v fun v => K v s := rfl
theorem cv_ptr {src dst : TypeId} {a : Option Addr} {pu : Value → Prop} {other : Prop} : wcv P src dst (.pointer a) pu other = other := rfl
theorem sh_unsafe {v : Value} {K : Value → Prop} : shape2 (some .unsafePointer) v K = K v := rfl
end
theorem wrap_i64 {n : Int} (h : -9223372036854775808 ≤ n ∧ n ≤ 9223372036854775807) : IntKind.i64.wrap n = n := by
  simp only [IntKind.wrap, IntKind.signed, IntKind.bits]
  simp
  omega
theorem setCells_one : ∀ (vs : List Value) (o : Nat) (v : Value), setCells vs o [v] = vs.set o v := fun _ _ _ => rfl
end Go.Cs
namespace Go.Cs
section
variable {M : Type} [Mem M] {P : Program} {w0 : World}
variable {d : Option Tmp} {ty : TypeId} {pos : String} {af : Array Edge} {g : Option (Nat × Bool)} {ev : Operand → Value} {s : St M} {K : Value → St M → Prop} {F : Value → St M → Option Value → Prop} {x y : Operand} {t t2 : TypeId}
end
section
variable {M : Type} [Mem M]
theorem setCells_nil (vs : List Value) (o : Nat) : setCells vs o [] = vs := rfl
theorem setCells_cons (vs : List Value) (o : Nat) (c : Value) (cs : List Value) : setCells vs o (c :: cs) = setCells (vs.set o c) (o + 1) cs := rfl
def SlC (e : TypeId) (sz : Nat) (s : St M) (sl : Value) (cs : List Value) (n : Nat) : Prop :=
  (n = 0 ∧ cs = [] ∧ sl = .slice none 0 0) ∨ (∃ b c, sl = .slice (some ⟨b, 0, none⟩) n c ∧ (c = UNK ∨ (c = n ∧ c < UNK)) ∧ s.at' b = some (.cells cs e true) ∧ cs.length = n * sz)
theorem SlC.same {e : TypeId} {sz : Nat} {s s' : St M} {sl : Value} {cs : List Value} {n : Nat} (h : SlC e sz s sl cs n) (hs : ∀ q m c, sl = .slice (some q) m c → s'.at' q.block = s.at' q.block) : SlC e sz s' sl cs n := by
  rcases h with h | ⟨b, c, h1, h2, h3, h4⟩
  · exact .inl h
  · exact .inr ⟨b, c, h1, h2, by rw [hs _ _ _ h1]; exact h3, h4⟩
end
end Go.Cs
namespace Go.Cs
open Go.RowKit (Below)
section
variable {M : Type} [Mem M] {P : Program} {w0 : World} {s : St M}
theorem Rel.later {ρ : Ren} {w w' : World} (hR : Rel P w0 ρ s w) (hB : Below w.heap.size w w') : Rel P w0 ρ s w' := by
  refine ⟨hR.dom, fun b i hb => Nat.lt_of_lt_of_le (hR.lt b i hb) hB.size, fun b i B hb hB2 => ?_, hR.own, hR.inj, hR.below.trans (hB.mono hR.below.size), hR.fresh, (fun b i hb hk => ?_), (fun b i hb hk => ?_)⟩
  · obtain ⟨o, ho, hr⟩ := hR.blk b i B hb hB2
    exact ⟨o, by rw [hB.block _ (hR.lt b i hb)]; exact ho, hr⟩
  · obtain ⟨h1, h2⟩ := hR.one b i hb hk
    exact ⟨by rw [hB.block _ (hR.lt b i hb)]; exact h1, h2⟩
  · obtain ⟨r, hr⟩ := hR.two b i hb hk
    exact ⟨r, by rw [hB.block _ (hR.lt b i hb)]; exact hr⟩
end
def St.far (k : Nat) : St AL := { mem := ⟨.leaf, fun _ => none⟩, next := k }
end Go.Cs
