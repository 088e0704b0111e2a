/- The clean memory: values and blocks without the capacities, places and orders that Go leaves open, and what it means that a memory of the model is like a clean one. A lemma file: no statement of its own. -/
import Derived.Orders
import Derived.Below
import Derived.KernelRfl
set_option linter.unusedSimpArgs false
set_option linter.unusedVariables false
namespace Go.Cs
open Go.RowKit (Below)

/-- What is not known. -/
def unk : Value := .tuple #[.tuple #[]]
/-- A value that one cell holds. -/
def oneCell : Value → Bool
  | .agg _ => false
  | .tuple _ => false
  | _ => true
/-- A capacity that is not known. -/
def UNK : Nat := 9223372036854775808

/-- Where a clean block lies: its block, the first cell's place, how many cells that block has, and how many an element has. -/
structure BI where
  blk : Nat
  sh : Nat
  n : Nat
  esz : Nat

abbrev Ren := Nat → Option BI

def ARel (ρ : Ren) (a a' : Addr) : Prop := ∃ i, ρ a.block = some i ∧ a.spot = none ∧ a' = ⟨i.blk, a.off + i.sh, none⟩

def CapRel (ρ : Ren) (a : Addr) (n c c' : Nat) : Prop :=
  (c = c' ∧ c < UNK) ∨ (c = UNK ∧ n ≤ c' ∧ c' < UNK ∧ ∀ i, ρ a.block = some i → i.esz = 0 ∨ a.off + i.sh + c' * i.esz ≤ i.n)

inductive VRel (ρ : Ren) : Value → Value → Prop
  | unk (v' : Value) (h : oneCell v' = true) : VRel ρ unk v'
  | bool (b : Bool) : VRel ρ (.bool b) (.bool b)
  | int (k : IntKind) (n : Int) : VRel ρ (.int k n) (.int k n)
  | string (s : ByteArray) : VRel ρ (.string s) (.string s)
  | nilPtr : VRel ρ (.pointer none) (.pointer none)
  | ptr {a a' : Addr} (h : ARel ρ a a') : VRel ρ (.pointer (some a)) (.pointer (some a'))
  | nilSlice : VRel ρ (.slice none 0 0) (.slice none 0 0)
  | slice {a a' : Addr} {n c c' : Nat} (h : ARel ρ a a') (hc : CapRel ρ a n c c') : VRel ρ (.slice (some a) n c) (.slice (some a') n c')
  | nilMap : VRel ρ (.map none) (.map none)
  | map {r : Nat} {i : BI} (h : ρ r = some i) : VRel ρ (.map (some r)) (.map (some i.blk))
  | func (fn : Fn) {f f' c c' : Array Value} (hfn : ∀ l, fn ≠ .yield l) (hf : f.size = f'.size) (hfv : ∀ i, i < f.size → VRel ρ (f.getD i undef) (f'.getD i undef))
      (hc : c.size = c'.size) (hcv : ∀ i, i < c.size → VRel ρ (c.getD i undef) (c'.getD i undef)) : VRel ρ (.func fn f c) (.func fn f' c')
  | yield {l : Nat} {i : BI} (h : ρ l = some i) : VRel ρ (.func (.yield l) #[] #[]) (.func (.yield i.blk) #[] #[])
  | nilFunc : VRel ρ .nilFunc .nilFunc
  | nilIface : VRel ρ .nilIface .nilIface
  | iface (t : TypeId) {v v' : Value} (h : VRel ρ v v') : VRel ρ (.iface t v) (.iface t v')
  | agg {c c' : Array Value} (hc : c.size = c'.size) (hcv : ∀ i, i < c.size → VRel ρ (c.getD i undef) (c'.getD i undef)) : VRel ρ (.agg c) (.agg c')
  | tuple {c c' : Array Value} (h1 : c.size ≠ 1) (hc : c.size = c'.size) (hcv : ∀ i, i < c.size → VRel ρ (c.getD i undef) (c'.getD i undef)) : VRel ρ (.tuple c) (.tuple c')

/-- Arrays of values, one by one. -/
def VsRel (ρ : Ren) (c c' : Array Value) : Prop := c.size = c'.size ∧ ∀ i, i < c.size → VRel ρ (c.getD i undef) (c'.getD i undef)

/-- More places are known. -/
def Ren.le (ρ ρ' : Ren) : Prop := ∀ b i, ρ b = some i → ρ' b = some i

theorem Ren.le_refl (ρ : Ren) : ρ.le ρ := fun _ _ h => h
theorem Ren.le_trans {a b c : Ren} (h : a.le b) (h' : b.le c) : a.le c := fun x i hx => h' x i (h x i hx)

theorem ARel.mono {ρ ρ' : Ren} (h : ρ.le ρ') {a a' : Addr} : ARel ρ a a' → ARel ρ' a a' := fun ⟨i, hi, r⟩ => ⟨i, h _ _ hi, r⟩

theorem CapRel.mono {ρ ρ' : Ren} (h : ρ.le ρ') {a a' : Addr} (ha : ARel ρ a a') {n c c' : Nat} : CapRel ρ a n c c' → CapRel ρ' a n c c' := by
  rintro (h1 | ⟨h1, h2, h3, h4⟩)
  · exact .inl h1
  · refine .inr ⟨h1, h2, h3, fun i hi => h4 i ?_⟩
    obtain ⟨j, hj, _⟩ := ha
    have := h _ _ hj
    rw [this] at hi
    cases hi
    exact hj

theorem VRel.mono {ρ ρ' : Ren} (h : ρ.le ρ') {v v' : Value} (hv : VRel ρ v v') : VRel ρ' v v' := by
  induction hv with
  | unk v' h1 => exact .unk v' h1
  | bool b => exact .bool b
  | int k n => exact .int k n
  | string s => exact .string s
  | nilPtr => exact .nilPtr
  | ptr ha => exact .ptr (ha.mono h)
  | nilSlice => exact .nilSlice
  | slice ha hc => exact .slice (ha.mono h) (hc.mono h ha)
  | nilMap => exact .nilMap
  | map hr => exact .map (h _ _ hr)
  | func fn hfn hf _ hc _ ih1 ih2 => exact .func fn hfn hf ih1 hc ih2
  | yield hl => exact .yield (h _ _ hl)
  | nilFunc => exact .nilFunc
  | nilIface => exact .nilIface
  | iface t _ ih => exact .iface t ih
  | agg hc _ ih => exact .agg hc ih
  | tuple h1 hc _ ih => exact .tuple h1 hc ih

theorem VsRel.mono {ρ ρ' : Ren} (h : ρ.le ρ') {c c' : Array Value} (hc : VsRel ρ c c') : VsRel ρ' c c' := ⟨hc.1, fun i hi => (hc.2 i hi).mono h⟩

theorem VRel.undef (ρ : Ren) : VRel ρ undef undef := .tuple (by simp) rfl (fun i hi => by simp at hi)

/-- One by one, out of bounds too. -/
theorem VsRel.getD {ρ : Ren} {c c' : Array Value} (h : VsRel ρ c c') (i : Nat) : VRel ρ (c.getD i Go.undef) (c'.getD i Go.undef) := by
  by_cases hi : i < c.size
  · exact h.2 i hi
  · have h1 : c.getD i Go.undef = Go.undef := by simp [Array.getD, hi]
    have h2 : c'.getD i Go.undef = Go.undef := by simp [Array.getD, ← h.1, hi]
    rw [h1, h2]
    exact VRel.undef ρ

theorem VsRel.set {ρ : Ren} {c c' : Array Value} (h : VsRel ρ c c') (t : Nat) {v v' : Value} (hv : VRel ρ v v') :
    VsRel ρ (c.setIfInBounds t v) (c'.setIfInBounds t v') := by
  refine ⟨by simp [h.1], fun i hi => ?_⟩
  simp only [Array.size_setIfInBounds] at hi
  have hi' : i < c'.size := h.1 ▸ hi
  have h0 := h.2 i hi
  have e1 : ∀ (d : Array Value) (u : Value), i < d.size → (d.setIfInBounds t u).getD i Go.undef = if t = i then u else d.getD i Go.undef := by
    intro d u hd
    rw [Array.getD_eq_getD_getElem?, Array.getElem?_setIfInBounds]
    by_cases e : t = i
    · subst e; simp [hd]
    · simp [e]
  rw [e1 c v hi, e1 c' v' hi']
  by_cases e : t = i
  · simp [e, hv]
  · simpa [e] using h0

/-- Values without places in them. -/
def plain : Nat → Value → Bool
  | _, .bool _ => true
  | _, .int _ _ => true
  | _, .string _ => true
  | _, .nilIface => true
  | _, .nilFunc => true
  | _, .pointer none => true
  | _, .map none => true
  | _, .slice none 0 0 => true
  | n + 1, .iface _ v => plain n v
  | n + 1, .agg cs => cs.toList.all (plain n)
  | _, _ => false

theorem VRel.eq_of_plain {ρ : Ren} : ∀ (n : Nat) {v v' : Value}, plain n v = true → VRel ρ v v' → v' = v := by
  intro n
  induction n with
  | zero => intro v v' hp hv; cases hv <;> first | rfl | (simp [plain, Cs.unk] at hp)
  | succ n ih =>
    intro v v' hp hv
    cases hv <;> first
      | rfl
      | (simp [plain, Cs.unk] at hp; done)
      | skip
    case iface t v v' h => simp only [plain] at hp; rw [ih hp h]
    case agg c c' hc hcv =>
      simp only [plain, List.all_eq_true] at hp
      congr 1
      apply Array.ext hc.symm
      intro i h1 h2
      have h0 := hcv i h2
      simp only [Array.getD, h1, h2, dif_pos] at h0
      exact ih (hp _ (by simp)) h0

theorem VRel.of_plain {ρ : Ren} : ∀ (n : Nat) {v : Value}, plain n v = true → VRel ρ v v := by
  intro n
  induction n with
  | zero =>
    intro v hp
    unfold plain at hp
    split at hp <;> first
      | exact .bool _
      | exact .int _ _
      | exact .string _
      | exact .nilIface
      | exact .nilFunc
      | exact .nilPtr
      | exact .nilMap
      | exact .nilSlice
      | cases hp
      | simp at *
  | succ n ih =>
    intro v hp
    unfold plain at hp
    split at hp <;> first
      | exact .bool _
      | exact .int _ _
      | exact .string _
      | exact .nilIface
      | exact .nilFunc
      | exact .nilPtr
      | exact .nilMap
      | exact .nilSlice
      | (cases hp; done)
      | skip
    case h_9 m t u hm => cases hm; exact .iface t (ih hp)
    case h_10 m cs hm =>
      cases hm
      simp only [List.all_eq_true] at hp
      refine .agg rfl fun i hi => ?_
      have := ih (hp cs[i] (by simp))
      simpa [Array.getD, hi] using this

/-- A clean block. 'own': it may be written, and it alone lies where it lies. -/
inductive Blk where
  | cells (vs : List Value) (e : TypeId) (own : Bool)
  | map (es : List MapEntry) (clock : Nat)
  | strIter (s : ByteArray) (pos : Nat)
  | mapIter (m : Option Nat) (since : Nat) (seen : List Nat) (stepped : Nat)
  deriving Inhabited

def Blk.owned : Blk → Bool
  | .cells _ _ own => own
  | _ => true

def BRel (P : Program) (ρ : Ren) (i : BI) : Blk → Obj → Prop
  | .cells vs e own, o => ∃ cs e' fr, o = .cells cs e' fr ∧ i.sh + vs.length ≤ cs.size ∧ (∀ k, k < vs.length → VRel ρ (vs.getD k undef) (cs.getD (i.sh + k) undef)) ∧
      (i.esz = 0 ∨ i.esz = P.cellsOf e) ∧ (own = true → e' = e ∧ (∀ j, j < cs.size → ¬ (fr.1 ≤ j ∧ j < fr.2)) ∧ cs.size = i.n ∧ i.esz = P.cellsOf e ∧ i.sh % P.cellsOf e = 0)
  | .map es clock, o => ∃ es', o = .map es' clock ∧ es'.size = es.length ∧
      ∀ k (h : k < es.length) (h' : k < es'.size), es'[k].key = es[k].key ∧ es'[k].born = es[k].born ∧ plain 6 es[k].key = true ∧ VRel ρ es[k].val es'[k].val
  | .strIter s pos, o => o = .stringIter s pos
  | .mapIter none since seen stepped, o => o = .mapIter none since seen.toArray stepped
  | .mapIter (some m) since seen stepped, o => ∃ j, ρ m = some j ∧ o = .mapIter (some j.blk) since seen.toArray stepped

theorem BRel.mono {P : Program} {ρ ρ' : Ren} (h : ρ.le ρ') {i : BI} {B : Blk} {o : Obj} : BRel P ρ i B o → BRel P ρ' i B o := by
  cases B with
  | cells vs e own =>
    rintro ⟨cs, e', fr, h1, h2, h3, h4⟩
    exact ⟨cs, e', fr, h1, h2, fun k hk => (h3 k hk).mono h, h4⟩
  | map es clock =>
    rintro ⟨es', h1, h2, h3⟩
    exact ⟨es', h1, h2, fun k hk hk' => let ⟨a, b, c, d⟩ := h3 k hk hk'; ⟨a, b, c, d.mono h⟩⟩
  | strIter s pos => exact id
  | mapIter m since seen stepped =>
    cases m with
    | none => exact id
    | some m => rintro ⟨j, hj, ho⟩; exact ⟨j, h _ _ hj, ho⟩

/-- A memory of blocks by numbers. -/
class Mem (M : Type) where
  get : M → Nat → Option Blk
  set : M → Nat → Option Blk → M
  get_set : ∀ m k v j, get (set m k v) j = if j = k then v else get m j

/-- The plain one. -/
instance : Mem (Nat → Option Blk) where
  get m k := m k
  set m k v := fun j => if j = k then v else m j
  get_set _ _ _ _ := rfl

structure St (M : Type) where
  mem : M
  next : Nat

namespace St
variable {M : Type} [Mem M]
def at' (s : St M) (b : Nat) : Option Blk := Mem.get s.mem b
def put (s : St M) (b : Nat) (B : Blk) : St M := { s with mem := Mem.set s.mem b (some B) }
def kill (s : St M) (b : Nat) : St M := { s with mem := Mem.set s.mem b none }
def new (s : St M) (B : Blk) : St M := { mem := Mem.set s.mem s.next (some B), next := s.next + 1 }

@[simp] theorem at_put (s : St M) (b : Nat) (B : Blk) (j : Nat) : (s.put b B).at' j = if j = b then some B else s.at' j := Mem.get_set _ _ _ _
@[simp] theorem at_kill (s : St M) (b : Nat) (j : Nat) : (s.kill b).at' j = if j = b then none else s.at' j := Mem.get_set _ _ _ _
@[simp] theorem at_new (s : St M) (B : Blk) (j : Nat) : (s.new B).at' j = if j = s.next then some B else s.at' j := Mem.get_set _ _ _ _
@[simp] theorem next_put (s : St M) (b : Nat) (B : Blk) : (s.put b B).next = s.next := rfl
@[simp] theorem next_kill (s : St M) (b : Nat) : (s.kill b).next = s.next := rfl
@[simp] theorem next_new (s : St M) (B : Blk) : (s.new B).next = s.next + 1 := rfl
end St

section
variable {M : Type} [Mem M] (P : Program) (w0 : World)

/-- The memory w is like the clean s, where ρ says what lies where; w0: the world in which all began, of which nothing has changed. -/
structure Rel (ρ : Ren) (s : St M) (w : World) : Prop where
  dom : ∀ b i, ρ b = some i → b < s.next
  lt : ∀ b i, ρ b = some i → i.blk < w.heap.size
  blk : ∀ b i B, ρ b = some i → s.at' b = some B → ∃ o, w.heap[i.blk]? = some o ∧ BRel P ρ i B o
  own : ∀ b i B, ρ b = some i → s.at' b = some B → B.owned = true → w0.heap.size ≤ i.blk
  inj : ∀ b i B b2 i2 B2, ρ b = some i → s.at' b = some B → ρ b2 = some i2 → s.at' b2 = some B2 → i.blk = i2.blk → B.owned = true → b = b2
  below : Below w0.heap.size w0 w
  fresh : ∀ b, s.next ≤ b → s.at' b = none

/-- What a piece of code may do to what is known: no place is forgotten, new ones are of new blocks, and what has no place yet has not changed. -/
structure Ext (ρ : Ren) (s : St M) (ρ' : Ren) (s' : St M) : Prop where
  le : ρ.le ρ'
  old : ∀ b, b < s.next → ρ' b = ρ b
  next : s.next ≤ s'.next
  unr : ∀ b, b < s.next → ρ b = none → s'.at' b = s.at' b
end

section
variable {M : Type} [Mem M] {P : Program} {w0 : World}

theorem Ext.refl (ρ : Ren) (s : St M) : Ext ρ s ρ s := ⟨ρ.le_refl, fun _ _ => rfl, Nat.le_refl _, fun _ _ _ => rfl⟩

theorem Ext.trans {ρ ρ1 ρ2 : Ren} {s s1 s2 : St M} (h : Ext ρ s ρ1 s1) (h' : Ext ρ1 s1 ρ2 s2) : Ext ρ s ρ2 s2 where
  le := Ren.le_trans h.le h'.le
  old b hb := by rw [h'.old b (Nat.lt_of_lt_of_le hb h.next), h.old b hb]
  next := Nat.le_trans h.next h'.next
  unr b hb hn := by rw [h'.unr b (Nat.lt_of_lt_of_le hb h.next) (by rw [h.old b hb]; exact hn), h.unr b hb hn]

/-- A world that differs in the draws alone. -/
theorem Rel.drew {ρ : Ren} {s : St M} {w : World} (h : Rel P w0 ρ s w) (n : Nat) : Rel P w0 ρ s { w with drawn := n } where
  dom := h.dom
  lt := h.lt
  blk := h.blk
  own := h.own
  inj := h.inj
  below := ⟨h.below.os, h.below.tape, h.below.output, h.below.size, h.below.block⟩
  fresh := h.fresh

/-- ρ with one place more. -/
def Ren.add (ρ : Ren) (b : Nat) (i : BI) : Ren := fun j => if j = b then some i else ρ j

theorem Ren.le_add {ρ : Ren} {b : Nat} {i : BI} (h : ρ b = none) : ρ.le (ρ.add b i) := by
  intro x j hx
  unfold Ren.add
  split
  · subst_vars; rw [h] at hx; cases hx
  · exact hx

@[simp] theorem Ren.add_same (ρ : Ren) (b : Nat) (i : BI) : ρ.add b i b = some i := by simp [Ren.add]

/-- A new block that is already clean, and gets its place only now: the model has just made it. -/
theorem Rel.place {ρ : Ren} {s : St M} {w : World} (h : Rel P w0 ρ s w) {b : Nat} {B : Blk} {o : Obj} {i : BI} (hb : b < s.next) (hn : ρ b = none) (hB : s.at' b = some B)
    (hi : i.blk = w.heap.size) (ho : BRel P (ρ.add b i) i B o) : Rel P w0 (ρ.add b i) s { w with heap := w.heap.push o } := by
  have hle := Ren.le_add (ρ := ρ) (b := b) (i := i) hn
  have hcase : ∀ {x j}, ρ.add b i x = some j → (x = b ∧ j = i) ∨ (x ≠ b ∧ ρ x = some j) := by
    intro x j hx
    unfold Ren.add at hx
    split at hx
    · cases hx; exact .inl ⟨by assumption, rfl⟩
    · exact .inr ⟨by assumption, hx⟩
  refine ⟨?_, ?_, ?_, ?_, ?_, ?_, h.fresh⟩
  · intro x j hx
    rcases hcase hx with ⟨rfl, rfl⟩ | ⟨_, hx⟩
    · exact hb
    · exact h.dom _ _ hx
  · intro x j hx
    simp only [Array.size_push]
    rcases hcase hx with ⟨rfl, rfl⟩ | ⟨_, hx⟩
    · omega
    · have := h.lt _ _ hx; omega
  · intro x j C hx hC
    rcases hcase hx with ⟨rfl, rfl⟩ | ⟨_, hx⟩
    · rw [hB] at hC; cases hC
      exact ⟨o, by simp [hi], ho⟩
    · obtain ⟨o', ho', hr⟩ := h.blk _ _ _ hx hC
      have := h.lt _ _ hx
      refine ⟨o', ?_, hr.mono hle⟩
      simp only [Array.getElem?_push]
      rw [if_neg (by omega)]; exact ho'
  · intro x j C hx hC hw
    rcases hcase hx with ⟨rfl, rfl⟩ | ⟨_, hx⟩
    · have := h.below.size; omega
    · exact h.own _ _ _ hx hC hw
  · intro x j C x2 j2 C2 hx hC hx2 hC2 he hw
    rcases hcase hx with ⟨rfl, rfl⟩ | ⟨hne, hx⟩
    · rcases hcase hx2 with ⟨rfl, rfl⟩ | ⟨_, hx2⟩
      · rfl
      · have := h.lt _ _ hx2; omega
    · rcases hcase hx2 with ⟨e1, e2⟩ | ⟨_, hx2⟩
      · have := h.lt _ _ hx; rw [e2] at he; omega
      · exact h.inj _ _ _ _ _ _ hx hC hx2 hC2 he hw
  · refine ⟨h.below.os, h.below.tape, h.below.output, by have := h.below.size; simp; omega, fun k hk => ?_⟩
    have := h.below.size
    simp only [Array.getElem?_push]
    rw [if_neg (by omega)]
    exact h.below.block k hk

/-- The clean memory has a block more: nothing lies there yet. -/
theorem Rel.new {ρ : Ren} {s : St M} {w : World} (h : Rel P w0 ρ s w) (B : Blk) : Rel P w0 ρ (s.new B) w where
  dom b i hb := by have := h.dom b i hb; simp; omega
  lt := h.lt
  blk b i C hb hC := by
    have := h.dom b i hb
    rw [St.at_new, if_neg (by omega)] at hC
    exact h.blk b i C hb hC
  own b i C hb hC := by
    have := h.dom b i hb
    rw [St.at_new, if_neg (by omega)] at hC
    exact h.own b i C hb hC
  inj b i C b2 i2 C2 hb hC hb2 hC2 := by
    have := h.dom b i hb
    have := h.dom b2 i2 hb2
    rw [St.at_new, if_neg (by omega)] at hC hC2
    exact h.inj b i C b2 i2 C2 hb hC hb2 hC2
  below := h.below
  fresh b hb := by simp at hb; rw [St.at_new, if_neg (by omega)]; exact h.fresh b (by omega)

theorem Rel.none_next {ρ : Ren} {s : St M} {w : World} (h : Rel P w0 ρ s w) {b : Nat} (hb : s.next ≤ b) : ρ b = none := by
  cases e : ρ b with
  | none => rfl
  | some i => have := h.dom b i e; omega

theorem Ext.new (ρ : Ren) (s : St M) (B : Blk) : Ext ρ s ρ (s.new B) :=
  ⟨ρ.le_refl, fun _ _ => rfl, by simp, fun b hb _ => by rw [St.at_new, if_neg (by omega)]⟩

theorem Ext.place {ρ : Ren} {s : St M} {b : Nat} (i : BI) (hn : ρ b = none) (s1 : St M) (hb : s1.next ≤ b) (h : Ext ρ s1 ρ s) : Ext ρ s1 (ρ.add b i) s where
  le := Ren.le_add hn
  old x hx := by unfold Ren.add; rw [if_neg (by omega)]
  next := h.next
  unr := h.unr

/-- A block made, both ways at once. -/
theorem Rel.alloc {ρ : Ren} {s : St M} {w : World} (h : Rel P w0 ρ s w) {B : Blk} {o : Obj} {i : BI} (hi : i.blk = w.heap.size)
    (ho : BRel P (ρ.add s.next i) i B o) : Rel P w0 (ρ.add s.next i) (s.new B) { w with heap := w.heap.push o } ∧ Ext ρ s (ρ.add s.next i) (s.new B) :=
  have hn := h.none_next (Nat.le_refl s.next)
  ⟨(h.new B).place (by simp) hn (by simp) hi ho, Ext.place i hn s (Nat.le_refl _) (Ext.new ρ s B)⟩

/-- A block of its own is written, both ways at once. -/
theorem Rel.write {ρ : Ren} {s : St M} {w : World} (h : Rel P w0 ρ s w) {b : Nat} {i : BI} {B C : Blk} {o : Obj} (hb : ρ b = some i) (hB : s.at' b = some B) (hw : B.owned = true)
    (ho : BRel P ρ i C o) : Rel P w0 ρ (s.put b C) { w with heap := w.heap.setIfInBounds i.blk o } ∧ Ext ρ s ρ (s.put b C) := by
  refine ⟨⟨h.dom, fun x j hx => by simpa using h.lt x j hx, ?_, ?_, ?_, ?_, fun x hx => by rw [St.at_put, if_neg (by have := h.dom _ _ hb; simp at hx; omega)]; exact h.fresh x hx⟩, ⟨ρ.le_refl, fun _ _ => rfl, Nat.le_refl _, fun x _ hn => ?_⟩⟩
  · intro x j D hx hD
    rw [St.at_put] at hD
    by_cases e : x = b
    · subst e
      rw [if_pos rfl] at hD
      cases hD
      rw [hb] at hx; cases hx
      exact ⟨o, by simp [h.lt _ _ hb], ho⟩
    · rw [if_neg e] at hD
      obtain ⟨o', ho', hr⟩ := h.blk _ _ _ hx hD
      refine ⟨o', ?_, hr⟩
      simp only [Array.getElem?_setIfInBounds]
      rw [if_neg]
      · exact ho'
      · intro he
        exact e (h.inj _ _ _ _ _ _ hb hB hx hD he hw).symm
  · intro x j D hx hD hDw
    rw [St.at_put] at hD
    by_cases e : x = b
    · subst e
      exact h.own _ _ _ hx hB hw
    · rw [if_neg e] at hD
      exact h.own _ _ _ hx hD hDw
  · intro x j D x2 j2 D2 hx hD hx2 hD2 he hDw
    rw [St.at_put] at hD hD2
    by_cases e : x = b
    · subst e
      by_cases e2 : x2 = x
      · exact e2.symm
      · rw [if_neg e2] at hD2
        exact h.inj _ _ _ _ _ _ hx hB hx2 hD2 he hw
    · rw [if_neg e] at hD
      by_cases e2 : x2 = b
      · subst e2
        exact h.inj _ _ _ _ _ _ hx hD hx2 hB he hDw
      · rw [if_neg e2] at hD2
        exact h.inj _ _ _ _ _ _ hx hD hx2 hD2 he hDw
  · refine ⟨h.below.os, h.below.tape, h.below.output, by have := h.below.size; simpa using this, fun k hk => ?_⟩
    have := h.own _ _ _ hb hB hw
    simp only [Array.getElem?_setIfInBounds]
    rw [if_neg (by omega)]
    exact h.below.block k hk
  · rw [St.at_put, if_neg]
    intro e; subst e; rw [hn] at hb; cases hb

/-- A block is let go of. -/
theorem Rel.kill {ρ : Ren} {s : St M} {w : World} (h : Rel P w0 ρ s w) {b : Nat} {i : BI} (hb : ρ b = some i) : Rel P w0 ρ (s.kill b) w ∧ Ext ρ s ρ (s.kill b) := by
  have hat : ∀ {x C}, (s.kill b).at' x = some C → s.at' x = some C := by
    intro x C hx
    rw [St.at_kill] at hx
    split at hx
    · cases hx
    · exact hx
  refine ⟨⟨h.dom, h.lt, fun x j C hx hC => h.blk x j C hx (hat hC), fun x j C hx hC => h.own x j C hx (hat hC),
    fun x j C x2 j2 C2 hx hC hx2 hC2 => h.inj x j C x2 j2 C2 hx (hat hC) hx2 (hat hC2), h.below, fun x hx => by rw [St.at_kill]; split <;> first | rfl | exact h.fresh x hx⟩, ⟨ρ.le_refl, fun _ _ => rfl, Nat.le_refl _, fun x _ hn => ?_⟩⟩
  rw [St.at_kill, if_neg]
  intro e; subst e; rw [hn] at hb; cases hb

/-- A block of its own is let go of, and what lay there is another block's now. -/
theorem Rel.takeOver {ρ : Ren} {s : St M} {w : World} (h : Rel P w0 ρ s w) {b : Nat} {i j : BI} {B C : Blk} {o : Obj} (hb : ρ b = some i) (hB : s.at' b = some B) (hw : B.owned = true) (hj : j.blk = i.blk)
    (ho : BRel P (ρ.add s.next j) j C o) : Rel P w0 (ρ.add s.next j) ((s.kill b).new C) { w with heap := w.heap.setIfInBounds i.blk o } := by
  have hn := h.none_next (Nat.le_refl s.next)
  have hle := Ren.le_add (ρ := ρ) (b := s.next) (i := j) hn
  have hlt := h.dom _ _ hb
  have hcase : ∀ {x k}, ρ.add s.next j x = some k → (x = s.next ∧ k = j) ∨ (x ≠ s.next ∧ ρ x = some k) := by
    intro x k hx
    unfold Ren.add at hx
    split at hx
    · cases hx; exact .inl ⟨by assumption, rfl⟩
    · exact .inr ⟨by assumption, hx⟩
  have hat : ∀ {x D}, x ≠ s.next → ((s.kill b).new C).at' x = some D → x ≠ b ∧ s.at' x = some D := by
    intro x D hx hD
    rw [St.at_new, St.next_kill, if_neg hx, St.at_kill] at hD
    split at hD
    · cases hD
    · exact ⟨by assumption, hD⟩
  have hat0 : ∀ {D}, ((s.kill b).new C).at' s.next = some D → D = C := by
    intro D hD
    rw [St.at_new, St.next_kill, if_pos rfl] at hD
    exact (Option.some.inj hD).symm
  refine ⟨?_, ?_, ?_, ?_, ?_, ?_, fun x hx => by simp at hx; rw [St.at_new, St.next_kill, if_neg (by omega), St.at_kill]; split <;> first | rfl | exact h.fresh x (by omega)⟩
  · intro x k hx
    simp only [St.next_new, St.next_kill]
    rcases hcase hx with ⟨rfl, _⟩ | ⟨_, hx⟩
    · omega
    · have := h.dom _ _ hx; omega
  · intro x k hx
    simp only [Array.size_setIfInBounds]
    rcases hcase hx with ⟨_, rfl⟩ | ⟨_, hx⟩
    · rw [hj]; exact h.lt _ _ hb
    · exact h.lt _ _ hx
  · intro x k D hx hD
    rcases hcase hx with ⟨rfl, rfl⟩ | ⟨hne, hx⟩
    · obtain rfl := hat0 hD
      exact ⟨o, by simp [hj, h.lt _ _ hb], ho⟩
    · obtain ⟨hxb, hD⟩ := hat hne hD
      obtain ⟨o', ho', hr⟩ := h.blk _ _ _ hx hD
      refine ⟨o', ?_, hr.mono hle⟩
      simp only [Array.getElem?_setIfInBounds]
      rw [if_neg]
      · exact ho'
      · intro he
        exact hxb (h.inj _ _ _ _ _ _ hb hB hx hD he hw).symm
  · intro x k D hx hD hDw
    rcases hcase hx with ⟨rfl, rfl⟩ | ⟨hne, hx⟩
    · rw [hj]; exact h.own _ _ _ hb hB hw
    · exact h.own _ _ _ hx (hat hne hD).2 hDw
  · intro x k D x2 k2 D2 hx hD hx2 hD2 he hDw
    rcases hcase hx with ⟨e1, e2⟩ | ⟨hne, hx⟩
    · rcases hcase hx2 with ⟨e3, e4⟩ | ⟨hne2, hx2⟩
      · rw [e1, e3]
      · obtain ⟨hxb, hD2⟩ := hat hne2 hD2
        rw [e2, hj] at he
        exact (hxb (h.inj _ _ _ _ _ _ hb hB hx2 hD2 he hw).symm).elim
    · obtain ⟨hxb, hD⟩ := hat hne hD
      rcases hcase hx2 with ⟨e3, e4⟩ | ⟨hne2, hx2⟩
      · rw [e4, hj] at he
        exact (hxb (h.inj _ _ _ _ _ _ hb hB hx hD he.symm hw).symm).elim
      · exact h.inj _ _ _ _ _ _ hx hD hx2 (hat hne2 hD2).2 he hDw
  · refine ⟨h.below.os, h.below.tape, h.below.output, by have := h.below.size; simpa using this, fun k hk => ?_⟩
    have := h.own _ _ _ hb hB hw
    simp only [Array.getElem?_setIfInBounds]
    rw [if_neg (by omega)]
    exact h.below.block k hk
end
end Go.Cs
