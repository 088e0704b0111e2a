/- What an operation does to the clean memory. A lemma file: no statement of its own. -/
import Derived.Test.YtlijgnofegjnmaaCs1
set_option linter.unusedSimpArgs false
set_option linter.unusedVariables false
namespace Go.Cs

/-- Run without a memory. -/
def pureRun {α : Type} (P : Program) : Sem α → Option α
  | .pure a => some a
  | .program k => pureRun P (k P)
  | .mark _ k => pureRun P k
  | _ => none

theorem run_of_pureRun {α : Type} {P : Program} : ∀ {s : Sem α} {a : α}, pureRun P s = some a → ∀ w, s.run P w = .ok a w := by
  intro s
  induction s with
  | pure a => intro b h w; simp only [pureRun, Option.some.injEq] at h; subst h; rfl
  | program k ih => intro b h w; simp only [pureRun] at h; simp only [Sem.run]; exact ih _ h w
  | mark m k ih => intro b h w; simp only [pureRun] at h; simp only [Sem.run]; exact ih h w
  | _ => intro b h w; simp [pureRun] at h

/-- .. to a value without places. -/
def pure6 (P : Program) (s : Sem Value) : Option Value :=
  match pureRun P s with
  | some v => if plain 6 v = true then some v else none
  | none => none

/-- Does a value of this type lie in several cells? -/
def aggT (P : Program) (t : TypeId) : Option Bool :=
  match P.underlying t with
  | some (.struct _) => some true
  | some (.array _ _) => some true
  | some _ => some false
  | none => none

/-- A value that one cell holds. -/
def okCell : Value → Bool
  | .agg _ => false
  | .tuple cs => cs.size == 1
  | _ => true

/-- A part of a struct. -/
def okPart : Value → Bool
  | .tuple cs => cs.size == 1
  | _ => true

def cut (vs : List Value) (off n : Nat) : Option (List Value) := if off + n ≤ vs.length then some ((vs.drop off).take n) else none

def setCells : List Value → Nat → List Value → List Value
  | vs, _, [] => vs
  | vs, o, c :: cs => setCells (vs.set o c) (o + 1) cs

section
variable {M : Type} [Mem M] (P : Program)

def cload (t : TypeId) (a : Addr) (s : St M) : Option Value :=
  match s.at' a.block with
  | some (.cells vs _ _) =>
    match aggT P t with
    | some true => (cut vs a.off (P.cellsOf t)).map fun l => .agg l.toArray
    | some false => vs[a.off]?
    | none => none
  | _ => none

def cstoreCells (a : Addr) (l : List Value) (s : St M) : Option (St M) :=
  match s.at' a.block with
  | some (.cells vs e true) => if a.off + l.length ≤ vs.length ∧ l.all okCell = true then some (s.put a.block (.cells (setCells vs a.off l) e true)) else none
  | _ => none

def cstore (t : TypeId) (a : Addr) (v : Value) (s : St M) : Option (St M) :=
  match P.info? t with
  | some i => if v.cells.size = i.size then cstoreCells a v.cells.toList s else none
  | none => none

/-- A part of a struct or an array. -/
def cpart (t : TypeId) (cs : Array Value) (off : Nat) : Option Value :=
  match aggT P t with
  | some true => if off + P.cellsOf t ≤ cs.size then some (.agg (cs.extract off (off + P.cellsOf t))) else none
  | some false => cs[off]?
  | none => none

/-- A value against nil. -/
def nilCmp (d : TypeDesc) : Value → Value → Option Bool
  | .pointer none, .pointer (some _) => match d with | .pointer _ => some false | _ => none
  | .pointer (some _), .pointer none => match d with | .pointer _ => some false | _ => none
  | .nilIface, .iface _ _ => match d with | .interface _ => some false | _ => none
  | .iface _ _, .nilIface => match d with | .interface _ => some false | _ => none
  | .slice none _ _, .slice (some _) _ _ => match d with | .slice _ => some false | _ => none
  | .slice (some _) _ _, .slice none _ _ => match d with | .slice _ => some false | _ => none
  | .map none, .map (some _) => match d with | .map _ _ => some false | _ => none
  | .map (some _), .map none => match d with | .map _ _ => some false | _ => none
  | .nilFunc, .func _ _ _ => match d with | .func _ _ _ => some false | _ => none
  | .func _ _ _, .nilFunc => match d with | .func _ _ _ => some false | _ => none
  | _, _ => none

def cbin (op : BinOp) (t : TypeId) (ox oy : Operand) (x y : Value) : Option Value :=
  match x, y with
  | .int k a, .int k' b =>
    if k = k' then
      match op with
      | .add => some (.int k (k.wrap (a + b)))
      | .sub => some (.int k (k.wrap (a - b)))
      | .mul => some (.int k (k.wrap (a * b)))
      | .eql => some (.bool (a == b))
      | .neq => some (.bool (a != b))
      | .lss => some (.bool (a < b))
      | .leq => some (.bool (a ≤ b))
      | .gtr => some (.bool (a > b))
      | .geq => some (.bool (a ≥ b))
      | _ => pure6 P (Go.binOp op t x y)
    else pure6 P (Go.binOp op t x y)
  | _, _ =>
    if plain 6 x = true ∧ plain 6 y = true then pure6 P (do eqGuard op t ox oy x y; Go.binOp op t x y)
    else
      match P.underlying t with
      | none => none
      | some d =>
        match op, nilCmp d x y with
        | .eql, some b => some (.bool b)
        | .neq, some b => some (.bool !b)
        | _, _ => none

def cidxAddr (t : TypeId) (x ix : Value) : Option Value :=
  match ix with
  | .int _ i =>
    match P.underlying t, x with
    | some (.slice e), .slice (some a) n _ => match P.info? e with
      | some ie => if 0 ≤ i ∧ i < n then some (.pointer (some (a.add (i.toNat * ie.size)))) else none
      | none => none
    | some (.array n e), .pointer (some a) => match P.info? e with
      | some ie => if 0 ≤ i ∧ i < n then some (.pointer (some (a.add (i.toNat * ie.size)))) else none
      | none => none
    | _, _ => none
  | _ => none

/-- A bound of a slice expression. -/
def cbound (v : Option Value) (d most : Nat) : Option Nat :=
  match v with
  | none => some d
  | some (.int _ i) => if 0 ≤ i ∧ i ≤ most then some i.toNat else none
  | some _ => none

def cslice (t : TypeId) (x : Value) (lo hi mx : Option Value) : Option Value :=
  match P.underlying t, x with
  | some .string, .string s =>
    match mx with
    | some _ => none
    | none =>
      match cbound hi s.size s.size with
      | none => none
      | some h => match cbound lo 0 h with
        | none => none
        | some l => some (.string (s.extract l h))
  | some (.slice e), .slice none n c =>
    match P.info? e, cbound mx 0 0, cbound hi 0 0, cbound lo 0 0 with
    | some _, some _, some _, some _ => if n = 0 ∧ c = 0 ∧ (mx.isSome && hi.isNone) = false then some (.slice none 0 0) else none
    | _, _, _, _ => none
  | some (.slice e), .slice (some a) n c =>
    match P.info? e with
    | none => none
    | some ie =>
      -- what is known of the capacity: the length, if it is not known
      match cbound mx c (if c = UNK then n else c) with
      | none => none
      | some m => match (if mx.isSome && hi.isNone then none else cbound hi n (if mx.isNone && c == UNK then n else m)) with
        | none => none
        | some h => match cbound lo 0 h with
          | none => none
          | some l =>
            if mx.isNone && c == UNK then (if l = 0 then some (.slice (some a) h c) else none)
            else if m < UNK then some (.slice (some (if m = l then a else a.add (l * ie.size))) (h - l) (m - l)) else none
  | some (.array n e), .pointer (some a) =>
    match P.info? e with
    | none => none
    | some ie =>
      match cbound mx n n with
      | none => none
      | some m => match (if mx.isSome && hi.isNone then none else cbound hi n m) with
        | none => none
        | some h => match cbound lo 0 h with
          | none => none
          | some l => if m < UNK then some (.slice (some (if m = l then a else a.add (l * ie.size))) (h - l) (m - l)) else none
  | _, _ => none

def cassert (x : Value) (asserted : TypeId) (ok : Bool) : Option Value :=
  let holds (v : Value) : Option Value := some (if ok then .tuple #[v, .bool true] else v)
  let fails : Option Value := if ok then ((P.info? asserted).bind (·.zero)).bind fun z => if plain 6 z then some (.tuple #[z, .bool false]) else none else none
  match P.underlying asserted, x with
  | some (.interface want), .iface t _ => match P.info? t with
    | some i => match Instr.missingMethod want i.methods with
      | none => holds x
      | some _ => fails
    | none => none
  | some (.interface _), .nilIface => fails
  | some _, .iface t v => if t = asserted then holds v else fails
  | some _, .nilIface => fails
  | _, _ => none

/-- A builtin that asks nothing of the memory. -/
def cbuiltin (b : Builtin) (ts : Array TypeId) (ty : TypeId) (args : Array Value) : Option Value :=
  match b with
  | .len =>
    match ts[0]?.bind P.underlying, (args[0]? : Option Value) with
    | some (.slice _), some (.slice _ n _) => some (.int .i64 n)
    | some .string, some (.string s) => some (.int .i64 s.size)
    | some (.array n _), some _ => some (.int .i64 n)
    | some (.map _ _), some (.map none) => some (.int .i64 0)
    | _, _ => none
  | .cap =>
    match ts[0]?.bind P.underlying, (args[0]? : Option Value) with
    | some (.slice _), some (.slice _ _ c) => if c = UNK then none else some (.int .i64 c)
    | _, _ => none
  | .unsafeSliceData => match args.toList with
    | [.slice none _ _] => some (.pointer none)
    | [.slice (some a) n c] => if c ≠ 0 ∧ (c = UNK → n ≠ 0) then some (.pointer (some a)) else none
    | _ => none
  | .min => if args.toList.all (plain 1) then pure6 P (Builtin.min_ ts ty args) else none
  | .max => if args.toList.all (plain 1) then pure6 P (Builtin.max_ ts ty args) else none
  | _ => none

/-- The zero value of a type bears no place. -/
def zeroPlain (t : TypeId) : Bool :=
  match pureRun P (zeroValue t) with
  | some z => plain 6 z
  | none => false

/-- An operation that asks nothing of the memory. -/
def cpure (ev : Operand → Value) (ty : TypeId) : Op → Option Value
  | .move x => some (ev x)
  | .assign x => some (ev x)
  | .pick c a b => match ev c with
    | .bool t => some (if t then ev a else ev b)
    | _ => none
  | .build t parts => if (parts.toList.all fun x => okPart (ev x.2)) = true ∧ zeroPlain P t = true then pureRun P (Instr.build t (parts.map fun x => (x.1, ev x.2))) else none
  | .nilCheck x => match ev x with
    | .pointer (some a) => some (.pointer (some a))
    | .iface t v => some (.iface t v)
    | .func (.func f) a b => some (.func (.func f) a b)
    | _ => none
  | .binOp op t x y _ => cbin P op t x y (ev x) (ev y)
  | .unOp op _ x => if plain 1 (ev x) = true then pure6 P (Op.unary op (ev x)) else none
  | .convert src dst x => if plain 1 (ev x) = true then pure6 P (Go.convert src dst (ev x)) else none
  | .makeInterface t x => match P.underlying t with
    | some (.interface _) => none
    | some _ => some (.iface t (ev x))
    | none => none
  | .makeFunc fn first captured => match fn with
    | .yield _ => none
    | fn => some (.func fn (first.map ev) (captured.map ev))
  | .fieldAddr t x f => match P.underlying t, ev x with
    | some (.struct fs), .pointer (some a) => match fs[f]? with
      | some fl => match P.info? fl.type with
        | some i => if i.size = 0 then none else some (.pointer (some (a.add fl.offset)))
        | none => none
      | none => none
    | _, _ => none
  | .field t x f => match P.underlying t, ev x with
    | some (.struct fs), .agg cs => match fs[f]? with
      | some fl => cpart P fl.type cs fl.offset
      | none => none
    | _, _ => none
  | .indexAddr t x ix => cidxAddr P t (ev x) (ev ix)
  | .index t x ix => match P.underlying t, ev x, ev ix with
    | some .string, .string s, .int _ i => if 0 ≤ i then (s[i.toNat]?).map fun b => .int .u8 b.toNat else none
    | some (.array n e), .agg cs, .int _ i => match P.info? e with
      | some ie => if 0 ≤ i ∧ i < n then cpart P e cs (i.toNat * ie.size) else none
      | none => none
    | _, _, _ => none
  | .slice t x lo hi mx => cslice P t (ev x) (lo.map ev) (hi.map ev) (mx.map ev)
  | .typeAssert x _ asserted ok => cassert P (ev x) asserted ok
  | .extract x i => match ev x with
    | .tuple vs => if vs.size = 1 then none else vs[i]?
    | _ => none
  | .call c => match c.callee with
    | .builtin b => cbuiltin P b c.argTypes ty (c.args.map ev)
    | _ => none
  | _ => none
end
end Go.Cs
