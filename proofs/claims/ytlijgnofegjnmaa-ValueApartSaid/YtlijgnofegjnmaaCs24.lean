/- Operations on the memory, step by step. A lemma file: no statement of its own. -/
import Derived.Test.YtlijgnofegjnmaaCs23
set_option linter.unusedSimpArgs false
set_option linter.unusedVariables false
set_option linter.unusedSectionVars false
namespace Go.Cs

def szOf (P : Program) (t : TypeId) : Option Nat := (P.info? t).map (·.size)
/-- Where a field lies. -/
def faOk (P : Program) (t : TypeId) (f : Nat) : Option Nat := match P.underlying t with
  | some (.struct fs) => match fs[f]? with
    | some fl => match P.info? fl.type with
      | some i => if i.size = 0 then none else some fl.offset
      | none => none
    | none => none
  | _ => none

section
variable {M : Type} [Mem M] {P : Program} {w0 : World}
variable {d : Option Tmp} {ty : TypeId} {pos : String} {af : Array Edge} {g : Option (Nat × Bool)} {ev : Operand → Value} {s : St M} {K : Value → St M → Prop} {F : Value → St M → Option Value → Prop} {x y : Operand} {t t2 : TypeId}

/-- A value and a memory go on when they have been looked at. -/
def wgo (v : Value) (s : St M) (K : Value → St M → Prop) : Prop := K v s
theorem wgo_congr {v v' : Value} {s s' : St M} {K : Value → St M → Prop} {jp : Prop} (h : v = v') (h2 : s = s') (hj : (True ∧ True) = jp) : wgo v s K = wgo v' s' K := by rw [h, h2]
theorem go {v : Value} {s : St M} {K : Value → St M → Prop} : wgo v s K = K v s := rfl
/-- What an operation that makes a block comes to. -/
def wmk (o : Option (Blk × (Nat → Value))) (s : St M) (K : Value → St M → Prop) : Prop := ∃ B f, o = some (B, f) ∧ K (f s.next) (s.new B)
theorem wmk_congr {o o' : Option (Blk × (Nat → Value))} {s : St M} {K : Value → St M → Prop} {jp : Prop} (h : o = o') (hj : (True ∧ True) = jp) : wmk o s K = wmk o' s K := by rw [h]
theorem mk {B : Blk} {f : Nat → Value} {s : St M} {K : Value → St M → Prop} : wmk (some (B, f)) s K = wgo (f s.next) (s.new B) K := by
  unfold wmk wgo
  rw [eq_iff_iff]
  exact ⟨fun ⟨B', f', h, hk⟩ => by cases h; exact hk, fun hk => ⟨B, f, rfl, hk⟩⟩
/-- What an operation that changes the memory comes to. -/
def wch (o : Option (Value × St M)) (K : Value → St M → Prop) : Prop := ∃ v s', o = some (v, s') ∧ K v s'
theorem wch_congr {o o' : Option (Value × St M)} {K : Value → St M → Prop} {jp : Prop} (h : o = o') (hj : (True ∧ True) = jp) : wch o K = wch o' K := by rw [h]
theorem ch {v : Value} {s : St M} {K : Value → St M → Prop} : wch (some (v, s)) K = wgo v s K := by
  unfold wch wgo
  rw [eq_iff_iff]
  exact ⟨fun ⟨v', s', h, hk⟩ => by cases h; exact hk, fun hk => ⟨v, s, rfl, hk⟩⟩
/-- A value reckoned or read. -/
def wpr (a b : Option Value) (K : Value → Prop) : Prop := must a K ∨ must b K
theorem wpr_congr {a b a' b' : Option Value} {K : Value → Prop} {jp : Prop} (h : a = a') (h2 : b = b') (hj : (True ∧ True) = jp) : wpr a b K = wpr a' b' K := by rw [h, h2]
attribute [congr] wgo_congr wmk_congr wch_congr wpr_congr
theorem pr_l {v : Value} {K : Value → Prop} : wpr (some v) none K = K v := by simp [wpr, must]
theorem pr_r {v : Value} {K : Value → Prop} : wpr none (some v) K = K v := by simp [wpr, must]

/-! Reading -/
def cld2 (B : Option Blk) (ag : Option Bool) (n o : Nat) : Option Value := match B with
  | some (.cells vs _ _) => match ag with
    | some true => (cut vs o n).map fun l => .agg l.toArray
    | some false => vs[o]?
    | none => none
  | _ => none
def cld (P : Program) (t : TypeId) (v : Value) (s : St M) : Option Value := match v with
  | .pointer (some a) => cld2 (s.at' a.block) (aggT P t) (P.cellsOf t) a.off
  | _ => none
theorem cload_eq {a : Addr} : cload P t a s = cld2 (s.at' a.block) (aggT P t) (P.cellsOf t) a.off := rfl
theorem o_load : wop P w0 ⟨d, .load t x, ty, pos, af, g⟩ ev s K = must (cld P t (ev x) s) fun v => shape P ty v fun v => K v s := rfl
theorem f_load : wfop P ⟨d, .load t x, ty, pos, af, g⟩ ev s F = must (cld P t (ev x) s) fun v => shape P ty v fun v => F v s (some v) := rfl
theorem cr_load : cread P ev s (.load t x) = cld P t (ev x) s := rfl
theorem ld {a : Addr} : cld P t (.pointer (some a)) s = cld2 (s.at' a.block) (aggT P t) (P.cellsOf t) a.off := rfl
theorem ld_one {vs : List Value} {e : TypeId} {w : Bool} {n o : Nat} : cld2 (some (.cells vs e w)) (some false) n o = vs[o]? := rfl
theorem ld_agg {vs : List Value} {e : TypeId} {w : Bool} {n o : Nat} : cld2 (some (.cells vs e w)) (some true) n o = (cut vs o n).map fun l => .agg l.toArray := rfl

/-! Making -/
theorem o_box : wop P w0 ⟨d, .box t x, ty, pos, af, g⟩ ev s K = wmk (if okPart (ev x) = true ∧ (P.info? t).isSome then some (.cells (ev x).cells.toList t true, fun b => .pointer (some ⟨b, 0, none⟩)) else none) s K := rfl
theorem o_alloc : wop P w0 ⟨d, .alloc t, ty, pos, af, g⟩ ev s K = wmk ((czero P t).map fun z => (.cells z.cells.toList t true, fun b => .pointer (some ⟨b, 0, none⟩))) s K := rfl
theorem f_box : wfop P ⟨d, .box t x, ty, pos, af, g⟩ ev s F = wmk (if okPart (ev x) = true ∧ (P.info? t).isSome then some (.cells (ev x).cells.toList t true, fun b => .pointer (some ⟨b, 0, none⟩)) else none) s fun v s => F v s none := rfl
theorem f_alloc : wfop P ⟨d, .alloc t, ty, pos, af, g⟩ ev s F = wmk ((czero P t).map fun z => (.cells z.cells.toList t true, fun b => .pointer (some ⟨b, 0, none⟩))) s fun v s => F v s none := rfl
theorem o_makeMap {t : TypeId} : wop P w0 ⟨d, .makeMap t none, ty, pos, af, g⟩ ev s K = wmk (some (.map [] 0, fun b => .map (some b))) s K := rfl

/-! Changing -/
theorem o_store : wop P w0 ⟨d, .store t x y, ty, pos, af, g⟩ ev s K = wch (match ev x with
    | .pointer (some a) => if okPart (ev y) = true then (cstore P t a (ev y) s).map fun s' => (undef, s') else none
    | _ => none) K := rfl
theorem cstore_eq {a : Addr} {v : Value} : cstore P t a v s = match szOf P t with
    | some n => if v.cells.size = n then cstoreCells a v.cells.toList s else none
    | none => none := by
  unfold cstore szOf
  cases P.info? t <;> rfl
def cst2 (s : St M) (a : Addr) (l : List Value) (B : Option Blk) : Option (St M) := match B with
  | some (.cells vs e true) => if a.off + l.length ≤ vs.length ∧ l.all okCell = true then some (s.put a.block (.cells (setCells vs a.off l) e true)) else none
  | _ => none
theorem cstoreCells_eq {a : Addr} {l : List Value} : cstoreCells a l s = cst2 s a l (s.at' a.block) := rfl
theorem cst {a : Addr} {l vs : List Value} {e : TypeId} : cst2 s a l (some (.cells vs e true)) = if a.off + l.length ≤ vs.length ∧ l.all okCell = true then some (s.put a.block (.cells (setCells vs a.off l) e true)) else none := rfl

/-! Places -/
def cfa (o : Option Nat) (v : Value) : Option Value := match o, v with
  | some o, .pointer (some a) => some (.pointer (some (a.add o)))
  | _, _ => none
theorem cfa_eq {f : Nat} : cpure P ev ty (.fieldAddr t x f) = cfa (faOk P t f) (ev x) := by
  simp only [cpure, faOk, cfa]
  split
  · rename_i fs a h1 h2
    simp only [h1, h2]
    split
    · rename_i fl h3
      simp only [h3]
      split
      · rename_i i h4
        simp only [h4]
        split <;> rfl
      · rename_i h4; simp only [h4]
    · rename_i h3; simp only [h3]
  · rename_i h
    split
    · rename_i o a h1 h2
      split at h1
      · rename_i fs h3; exact absurd h2 (h fs a h3)
      · cases h1
    · rfl
theorem o_fieldAddr {f : Nat} : wop P w0 ⟨d, .fieldAddr t x f, ty, pos, af, g⟩ ev s K = must (cfa (faOk P t f) (ev x)) fun v => K v s := by
  rw [← cfa_eq (P := P) (ev := ev) (ty := ty)]; rfl
theorem f_fieldAddr {f : Nat} : wfop P ⟨d, .fieldAddr t x f, ty, pos, af, g⟩ ev s F = must (cfa (faOk P t f) (ev x)) fun v => F v s none := by
  rw [← cfa_eq (P := P) (ev := ev) (ty := ty)]; rfl
theorem fa {o : Nat} {a : Addr} : cfa (some o) (.pointer (some a)) = some (.pointer (some (a.add o))) := rfl
theorem add_mk {b o n : Nat} : (⟨b, o, none⟩ : Addr).add n = ⟨b, o + n, none⟩ := addr_add_mk b o n

def cixB (sz : Option Nat) (i : Int) (n : Nat) (a : Addr) : Option Value := match sz with
  | some z => if 0 ≤ i ∧ i < n then some (.pointer (some (a.add (i.toNat * z)))) else none
  | none => none
def cixA (P : Program) (td : Option TypeDesc) (v ix : Value) : Option Value := match ix with
  | .int _ i => match td, v with
    | some (.slice e), .slice (some a) n _ => cixB (szOf P e) i n a
    | some (.array n e), .pointer (some a) => cixB (szOf P e) i n a
    | _, _ => none
  | _ => none
theorem cix_eq {v ix : Value} : cidxAddr P t v ix = cixA P (P.underlying t) v ix := by
  unfold cidxAddr cixA
  cases ix with
  | int k i =>
    dsimp only
    cases P.underlying t with
    | none => rfl
    | some td =>
      cases td with
      | slice e =>
        cases v with
        | slice a n c => cases a with
          | none => rfl
          | some a => simp only [cixB, szOf]; cases P.info? e <;> rfl
        | _ => rfl
      | array n e =>
        cases v with
        | pointer a => cases a with
          | none => rfl
          | some a => simp only [cixB, szOf]; cases P.info? e <;> rfl
        | _ => rfl
      | _ => rfl
  | _ => rfl
theorem ix_slice {e : TypeId} {a : Addr} {n c : Nat} {k : IntKind} {i : Int} : cixA P (some (.slice e)) (.slice (some a) n c) (.int k i) = cixB (szOf P e) i n a := rfl
theorem ix_array {e : TypeId} {a : Addr} {n : Nat} {k : IntKind} {i : Int} : cixA P (some (.array n e)) (.pointer (some a)) (.int k i) = cixB (szOf P e) i n a := rfl
theorem ixb {z n : Nat} {i : Int} {a : Addr} : cixB (some z) i n a = if 0 ≤ i ∧ i < n then some (.pointer (some (a.add (i.toNat * z)))) else none := rfl
end
end Go.Cs
