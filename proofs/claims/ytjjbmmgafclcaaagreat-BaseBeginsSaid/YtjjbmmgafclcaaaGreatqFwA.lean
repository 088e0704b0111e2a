/- The clean memory, part A. A lemma file: no statement of its own. -/
import Derived.Orders
import Derived.Below
import Derived.KernelRfl
import Derived.RangeFuncRecord
import Derived.Laws.Sem
set_option linter.unusedSimpArgs false
set_option linter.unusedVariables false
namespace Go.Cs
open Go.RowKit (Below)
def unk : Value := .tuple #[.tuple #[]]
def oneCell : Value → Bool
  | .agg _ => false
  | .tuple _ => false
  | _ => true
def UNK : Nat := 9223372036854775808
structure BI where
  blk : Nat
  sh : Nat
  n : Nat
  esz : Nat
  kd : Nat
abbrev Ren := Nat → Option BI
def ARel (ρ : Ren) (a a' : Addr) : Prop := ∃ i, ρ a.block = some i ∧ a.spot = none ∧ a' = ⟨i.blk, a.off + i.sh, none⟩
def CapRel (ρ : Ren) (a : Addr) (n c c' : Nat) : Prop :=
  (c = c' ∧ c < UNK) ∨ (c = UNK ∧ n ≤ c' ∧ c' < UNK ∧ ∀ i, ρ a.block = some i → i.esz = 0 ∨ a.off + i.sh + c' * i.esz ≤ i.n)
inductive VRel (ρ : Ren) : Value → Value → Prop
  | unk (v' : Value) (h : oneCell v' = true) : VRel ρ unk v'
  | bool (b : Bool) : VRel ρ (.bool b) (.bool b)
  | int (k : IntKind) (n : Int) : VRel ρ (.int k n) (.int k n)
  | string (s : ByteArray) : VRel ρ (.string s) (.string s)
  | nilPtr : VRel ρ (.pointer none) (.pointer none)
  | ptr {a a' : Addr} (h : ARel ρ a a') : VRel ρ (.pointer (some a)) (.pointer (some a'))
  | nilSlice : VRel ρ (.slice none 0 0) (.slice none 0 0)
  | slice {a a' : Addr} {n c c' : Nat} (h : ARel ρ a a') (hc : CapRel ρ a n c c') : VRel ρ (.slice (some a) n c) (.slice (some a') n c')
  | void {a a' : Addr} : VRel ρ (.slice (some a) 0 0) (.slice (some a') 0 0)
  | nilMap : VRel ρ (.map none) (.map none)
  | map {r : Nat} {i : BI} (h : ρ r = some i) : VRel ρ (.map (some r)) (.map (some i.blk))
  | func (fn : Fn) {f f' c c' : Array Value} (hfn : ∀ l, fn ≠ .yield l) (hf : f.size = f'.size) (hfv : ∀ i, i < f.size → VRel ρ (f.getD i undef) (f'.getD i undef))
      (hc : c.size = c'.size) (hcv : ∀ i, i < c.size → VRel ρ (c.getD i undef) (c'.getD i undef)) : VRel ρ (.func fn f c) (.func fn f' c')
  | yield {l : Nat} {i : BI} (h : ρ l = some i) : VRel ρ (.func (.yield l) #[] #[]) (.func (.yield i.blk) #[] #[])
  | nilFunc : VRel ρ .nilFunc .nilFunc
  | nilIface : VRel ρ .nilIface .nilIface
  | iface (t : TypeId) {v v' : Value} (h : VRel ρ v v') : VRel ρ (.iface t v) (.iface t v')
  | agg {c c' : Array Value} (hc : c.size = c'.size) (hcv : ∀ i, i < c.size → VRel ρ (c.getD i undef) (c'.getD i undef)) : VRel ρ (.agg c) (.agg c')
  | over : VRel ρ (.tuple #[.bool false]) (.tuple #[.bool false])
  | tuple {c c' : Array Value} (h1 : c.size ≠ 1) (hc : c.size = c'.size) (hcv : ∀ i, i < c.size → VRel ρ (c.getD i undef) (c'.getD i undef)) : VRel ρ (.tuple c) (.tuple c')
def VsRel (ρ : Ren) (c c' : Array Value) : Prop := c.size = c'.size ∧ ∀ i, i < c.size → VRel ρ (c.getD i undef) (c'.getD i undef)
def Ren.le (ρ ρ' : Ren) : Prop := ∀ b i, ρ b = some i → ρ' b = some i
theorem Ren.le_refl (ρ : Ren) : ρ.le ρ := fun _ _ h => h
theorem Ren.le_trans {a b c : Ren} (h : a.le b) (h' : b.le c) : a.le c := fun x i hx => h' x i (h x i hx)
theorem ARel.mono {ρ ρ' : Ren} (h : ρ.le ρ') {a a' : Addr} : ARel ρ a a' → ARel ρ' a a' := fun ⟨i, hi, r⟩ => ⟨i, h _ _ hi, r⟩
theorem CapRel.mono {ρ ρ' : Ren} (h : ρ.le ρ') {a a' : Addr} (ha : ARel ρ a a') {n c c' : Nat} : CapRel ρ a n c c' → CapRel ρ' a n c c' := by
  rintro (h1 | ⟨h1, h2, h3, h4⟩)
  · exact .inl h1
  · refine .inr ⟨h1, h2, h3, fun i hi => h4 i ?_⟩
    obtain ⟨j, hj, _⟩ := ha
    have := h _ _ hj
    rw [this] at hi
    cases hi
    exact hj
theorem VRel.mono {ρ ρ' : Ren} (h : ρ.le ρ') {v v' : Value} (hv : VRel ρ v v') : VRel ρ' v v' := by
  induction hv with
  | unk v' h1 => exact .unk v' h1
  | bool b => exact .bool b
  | int k n => exact .int k n
  | string s => exact .string s
  | nilPtr => exact .nilPtr
  | ptr ha => exact .ptr (ha.mono h)
  | nilSlice => exact .nilSlice
  | slice ha hc => exact .slice (ha.mono h) (hc.mono h ha)
  | void => exact .void
  | nilMap => exact .nilMap
  | map hr => exact .map (h _ _ hr)
  | func fn hfn hf _ hc _ ih1 ih2 => exact .func fn hfn hf ih1 hc ih2
  | yield hl => exact .yield (h _ _ hl)
  | nilFunc => exact .nilFunc
  | nilIface => exact .nilIface
  | iface t _ ih => exact .iface t ih
  | agg hc _ ih => exact .agg hc ih
  | over => exact .over
  | tuple h1 hc _ ih => exact .tuple h1 hc ih
theorem VsRel.mono {ρ ρ' : Ren} (h : ρ.le ρ') {c c' : Array Value} (hc : VsRel ρ c c') : VsRel ρ' c c' := ⟨hc.1, fun i hi => (hc.2 i hi).mono h⟩
theorem VRel.undef (ρ : Ren) : VRel ρ undef undef := .tuple (by simp) rfl (fun i hi => by simp at hi)
theorem VsRel.getD {ρ : Ren} {c c' : Array Value} (h : VsRel ρ c c') (i : Nat) : VRel ρ (c.getD i Go.undef) (c'.getD i Go.undef) := by
  by_cases hi : i < c.size
  · exact h.2 i hi
  · have h1 : c.getD i Go.undef = Go.undef := by simp [Array.getD, hi]
    have h2 : c'.getD i Go.undef = Go.undef := by simp [Array.getD, ← h.1, hi]
    rw [h1, h2]
    exact VRel.undef ρ
theorem VsRel.set {ρ : Ren} {c c' : Array Value} (h : VsRel ρ c c') (t : Nat) {v v' : Value} (hv : VRel ρ v v') :
    VsRel ρ (c.setIfInBounds t v) (c'.setIfInBounds t v') := by
  refine ⟨by simp [h.1], fun i hi => ?_⟩
  simp only [Array.size_setIfInBounds] at hi
  have hi' : i < c'.size := h.1 ▸ hi
  have h0 := h.2 i hi
  have e1 : ∀ (d : Array Value) (u : Value), i < d.size → (d.setIfInBounds t u).getD i Go.undef = if t = i then u else d.getD i Go.undef := by
    intro d u hd
    rw [Array.getD_eq_getD_getElem?, Array.getElem?_setIfInBounds]
    by_cases e : t = i
    · subst e; simp [hd]
    · simp [e]
  rw [e1 c v hi, e1 c' v' hi']
  by_cases e : t = i
  · simp [e, hv]
  · simpa [e] using h0
def plain : Nat → Value → Bool
  | _, .bool _ => true
  | _, .int _ _ => true
  | _, .string _ => true
  | _, .nilIface => true
  | _, .nilFunc => true
  | _, .pointer none => true
  | _, .map none => true
  | _, .slice none 0 0 => true
  | n + 1, .iface _ v => plain n v
  | n + 1, .agg cs => cs.toList.all (plain n)
  | _, _ => false
theorem VRel.eq_of_plain {ρ : Ren} : ∀ (n : Nat) {v v' : Value}, plain n v = true → VRel ρ v v' → v' = v := by
  intro n
  induction n with
  | zero => intro v v' hp hv; cases hv <;> first | rfl | (simp [plain, Cs.unk] at hp)
  | succ n ih =>
    intro v v' hp hv
    cases hv <;> first
      | rfl
      | (simp [plain, Cs.unk] at hp; done)
      | skip
    case iface t v v' h => simp only [plain] at hp; rw [ih hp h]
    case agg c c' hc hcv =>
      simp only [plain, List.all_eq_true] at hp
      congr 1
      apply Array.ext hc.symm
      intro i h1 h2
      have h0 := hcv i h2
      simp only [Array.getD, h1, h2, dif_pos] at h0
      exact ih (hp _ (by simp)) h0
theorem VRel.of_plain {ρ : Ren} : ∀ (n : Nat) {v : Value}, plain n v = true → VRel ρ v v := by
  intro n
  induction n with
  | zero =>
    intro v hp
    unfold plain at hp
    split at hp <;> first
      | exact .bool _
      | exact .int _ _
      | exact .string _
      | exact .nilIface
      | exact .nilFunc
      | exact .nilPtr
      | exact .nilMap
      | exact .nilSlice
      | cases hp
      | simp at *
  | succ n ih =>
    intro v hp
    unfold plain at hp
    split at hp <;> first
      | exact .bool _
      | exact .int _ _
      | exact .string _
      | exact .nilIface
      | exact .nilFunc
      | exact .nilPtr
      | exact .nilMap
      | exact .nilSlice
      | (cases hp; done)
      | skip
    case h_9 m t u hm => cases hm; exact .iface t (ih hp)
    case h_10 m cs hm =>
      cases hm
      simp only [List.all_eq_true] at hp
      refine .agg rfl fun i hi => ?_
      have := ih (hp cs[i] (by simp))
      simpa [Array.getD, hi] using this
inductive Blk where
  | cells (vs : List Value) (e : TypeId) (own : Bool)
  | map (es : List MapEntry) (clock : Nat)
  | strIter (s : ByteArray) (pos : Nat)
  | mapIter (m : Option Nat) (since : Nat) (seen : List Nat) (stepped : Nat)
  | loop (st : LoopState) (pend : Option Code) (ps : Array Tmp) (tmps : Array Value) (assign body : Code)
  deriving Inhabited
def Blk.isLoop : Blk → Bool
  | .loop .. => true
  | _ => false
def Blk.owned : Blk → Bool
  | .cells _ _ own => own
  | _ => true
def BRel (P : Program) (ρ : Ren) (i : BI) : Blk → Obj → Prop
  | .cells vs e own, o => ∃ cs e' fr, o = .cells cs e' fr ∧ i.sh + vs.length ≤ cs.size ∧ (∀ k, k < vs.length → VRel ρ (vs.getD k undef) (cs.getD (i.sh + k) undef)) ∧
      (i.esz = 0 ∨ i.esz = P.cellsOf e) ∧ (own = true → e' = e ∧ (∀ j, j < cs.size → ¬ (fr.1 ≤ j ∧ j < fr.2)) ∧ cs.size = i.n ∧ i.esz = P.cellsOf e ∧ i.sh % P.cellsOf e = 0)
  | .map es clock, o => ∃ es', o = .map es' clock ∧ es'.size = es.length ∧
      ∀ k (h : k < es.length) (h' : k < es'.size), es'[k].key = es[k].key ∧ es'[k].born = es[k].born ∧ plain 6 es[k].key = true ∧ VRel ρ es[k].val es'[k].val
  | .strIter s pos, o => o = .stringIter s pos ∧ i.sh = 0
  | .mapIter none since seen stepped, o => o = .mapIter none since seen.toArray stepped
  | .mapIter (some m) since seen stepped, o => ∃ j, ρ m = some j ∧ o = .mapIter (some j.blk) since seen.toArray stepped
  | .loop st pend ps tmps assign body, o => i.kd = 2 ∧ ∃ fn tmps' D, o = .loop { state := st, pending := pend, fn := fn, tmps := tmps', params := ps, assign := assign, body := body, defers := D } ∧ VsRel ρ tmps tmps'
theorem BRel.mono {P : Program} {ρ ρ' : Ren} (h : ρ.le ρ') {i : BI} {B : Blk} {o : Obj} : BRel P ρ i B o → BRel P ρ' i B o := by
  cases B with
  | cells vs e own =>
    rintro ⟨cs, e', fr, h1, h2, h3, h4⟩
    exact ⟨cs, e', fr, h1, h2, fun k hk => (h3 k hk).mono h, h4⟩
  | map es clock =>
    rintro ⟨es', h1, h2, h3⟩
    exact ⟨es', h1, h2, fun k hk hk' => let ⟨a, b, c, d⟩ := h3 k hk hk'; ⟨a, b, c, d.mono h⟩⟩
  | strIter s pos => exact id
  | mapIter m since seen stepped =>
    cases m with
    | none => exact id
    | some m => rintro ⟨j, hj, ho⟩; exact ⟨j, h _ _ hj, ho⟩
  | loop st pend ps tmps assign body => rintro ⟨h0, fn, tmps', D, ho, hv⟩; exact ⟨h0, fn, tmps', D, ho, hv.mono h⟩
theorem BRel.not_deferred {P : Program} {ρ : Ren} {i : BI} {B : Blk} {ds : Option (List Deferred)} (h : BRel P ρ i B (.deferred ds)) : False := by
  cases B with
  | cells vs e own => obtain ⟨cs, e', fr, h1, _⟩ := h; cases h1
  | map es clock => obtain ⟨es', h1, _⟩ := h; cases h1
  | strIter s pos => cases h.1
  | mapIter m since seen stepped =>
    cases m with
    | none => cases h
    | some m => obtain ⟨j, hj, ho⟩ := h; cases ho
  | loop st pend ps tmps assign body => obtain ⟨h0, fn, tmps', D, ho, hv⟩ := h; cases ho
theorem BRel.is_loop {P : Program} {ρ : Ren} {i : BI} {B : Blk} {r : Loop} (h : BRel P ρ i B (.loop r)) : B.isLoop = true := by
  cases B with
  | cells vs e own => obtain ⟨cs, e', fr, h1, _⟩ := h; cases h1
  | map es clock => obtain ⟨es', h1, _⟩ := h; cases h1
  | strIter s pos => cases h.1
  | mapIter m since seen stepped =>
    cases m with
    | none => cases h
    | some m => obtain ⟨j, hj, ho⟩ := h; cases ho
  | loop st pend ps tmps assign body => rfl
theorem BRel.loop_obj {P : Program} {ρ : Ren} {i : BI} {B : Blk} {o : Obj} (h : BRel P ρ i B o) (hB : B.isLoop = true) : ∃ r, o = .loop r := by
  cases B with
  | loop st pend ps tmps assign body => obtain ⟨h0, fn, tmps', D, ho, hv⟩ := h; exact ⟨_, ho⟩
  | _ => cases hB
class Mem (M : Type) where
  get : M → Nat → Option Blk
  set : M → Nat → Option Blk → M
  get_set : ∀ m k v j, get (set m k v) j = if j = k then v else get m j
instance : Mem (Nat → Option Blk) where
  get m k := m k
  set m k v := fun j => if j = k then v else m j
  get_set _ _ _ _ := rfl
structure St (M : Type) where
  mem : M
  next : Nat
def St.skip {M : Type} (s : St M) : St M := { s with next := s.next + 1 }
@[simp] theorem St.next_skip {M : Type} (s : St M) : s.skip.next = s.next + 1 := rfl
namespace St
variable {M : Type} [Mem M]
def at' (s : St M) (b : Nat) : Option Blk := Mem.get s.mem b
def put (s : St M) (b : Nat) (B : Blk) : St M := { s with mem := Mem.set s.mem b (some B) }
def kill (s : St M) (b : Nat) : St M := { s with mem := Mem.set s.mem b none }
def new (s : St M) (B : Blk) : St M := { mem := Mem.set s.mem s.next (some B), next := s.next + 1 }
@[simp] theorem at_put (s : St M) (b : Nat) (B : Blk) (j : Nat) : (s.put b B).at' j = if j = b then some B else s.at' j := Mem.get_set _ _ _ _
@[simp] theorem at_kill (s : St M) (b : Nat) (j : Nat) : (s.kill b).at' j = if j = b then none else s.at' j := Mem.get_set _ _ _ _
@[simp] theorem at_new (s : St M) (B : Blk) (j : Nat) : (s.new B).at' j = if j = s.next then some B else s.at' j := Mem.get_set _ _ _ _
@[simp] theorem next_put (s : St M) (b : Nat) (B : Blk) : (s.put b B).next = s.next := rfl
@[simp] theorem next_kill (s : St M) (b : Nat) : (s.kill b).next = s.next := rfl
@[simp] theorem next_new (s : St M) (B : Blk) : (s.new B).next = s.next + 1 := rfl
end St
section
variable {M : Type} [Mem M] (P : Program) (w0 : World)
structure Rel (ρ : Ren) (s : St M) (w : World) : Prop where
  dom : ∀ b i, ρ b = some i → b < s.next
  lt : ∀ b i, ρ b = some i → i.blk < w.heap.size
  blk : ∀ b i B, ρ b = some i → s.at' b = some B → ∃ o, w.heap[i.blk]? = some o ∧ BRel P ρ i B o
  own : ∀ b i B, ρ b = some i → s.at' b = some B → B.owned = true → w0.heap.size ≤ i.blk
  inj : ∀ b i B b2 i2 B2, ρ b = some i → s.at' b = some B → ρ b2 = some i2 → s.at' b2 = some B2 → i.blk = i2.blk → B.owned = true → b = b2
  below : Below w0.heap.size w0 w
  fresh : ∀ b, s.next ≤ b → s.at' b = none
  one : ∀ b i, ρ b = some i → i.kd = 1 → w.heap[i.blk]? = some (.deferred (some [])) ∧ w0.heap.size ≤ i.blk ∧ ∀ b2 i2, ρ b2 = some i2 → i2.blk = i.blk → b2 = b
  two : ∀ b i, ρ b = some i → i.kd = 2 → ∃ r, w.heap[i.blk]? = some (.loop r)
structure Ext (ρ : Ren) (s : St M) (ρ' : Ren) (s' : St M) : Prop where
  le : ρ.le ρ'
  old : ∀ b, b < s.next → ρ' b = ρ b
  next : s.next ≤ s'.next
  unr : ∀ b, b < s.next → ρ b = none → s'.at' b = s.at' b
end
section
variable {M : Type} [Mem M] {P : Program} {w0 : World}
theorem Ext.refl (ρ : Ren) (s : St M) : Ext ρ s ρ s := ⟨ρ.le_refl, fun _ _ => rfl, Nat.le_refl _, fun _ _ _ => rfl⟩
theorem Ext.trans {ρ ρ1 ρ2 : Ren} {s s1 s2 : St M} (h : Ext ρ s ρ1 s1) (h' : Ext ρ1 s1 ρ2 s2) : Ext ρ s ρ2 s2 where
  le := Ren.le_trans h.le h'.le
  old b hb := by rw [h'.old b (Nat.lt_of_lt_of_le hb h.next), h.old b hb]
  next := Nat.le_trans h.next h'.next
  unr b hb hn := by rw [h'.unr b (Nat.lt_of_lt_of_le hb h.next) (by rw [h.old b hb]; exact hn), h.unr b hb hn]
theorem Rel.drew {ρ : Ren} {s : St M} {w : World} (h : Rel P w0 ρ s w) (n : Nat) : Rel P w0 ρ s { w with drawn := n } where
  dom := h.dom
  lt := h.lt
  blk := h.blk
  own := h.own
  inj := h.inj
  below := ⟨h.below.os, h.below.tape, h.below.output, h.below.size, h.below.block⟩
  fresh := h.fresh
  one := h.one
  two := h.two
def Ren.add (ρ : Ren) (b : Nat) (i : BI) : Ren := fun j => if j = b then some i else ρ j
theorem Ren.le_add {ρ : Ren} {b : Nat} {i : BI} (h : ρ b = none) : ρ.le (ρ.add b i) := by
  intro x j hx
  unfold Ren.add
  split
  · subst_vars; rw [h] at hx; cases hx
  · exact hx
@[simp] theorem Ren.add_same (ρ : Ren) (b : Nat) (i : BI) : ρ.add b i b = some i := by simp [Ren.add]
theorem Rel.place {ρ : Ren} {s : St M} {w : World} (h : Rel P w0 ρ s w) {b : Nat} {B : Blk} {o : Obj} {i : BI} (hb : b < s.next) (hn : ρ b = none) (hB : s.at' b = some B)
    (hi : i.blk = w.heap.size) (ho : BRel P (ρ.add b i) i B o) (hk : i.kd = 0 ∨ i.kd = 2 ∧ ∃ r, o = .loop r) : Rel P w0 (ρ.add b i) s { w with heap := w.heap.push o } := by
  have hle := Ren.le_add (ρ := ρ) (b := b) (i := i) hn
  have hcase : ∀ {x j}, ρ.add b i x = some j → (x = b ∧ j = i) ∨ (x ≠ b ∧ ρ x = some j) := by
    intro x j hx
    unfold Ren.add at hx
    split at hx
    · cases hx; exact .inl ⟨by assumption, rfl⟩
    · exact .inr ⟨by assumption, hx⟩
  have hpush : ∀ {x j}, ρ x = some j → (w.heap.push o)[j.blk]? = w.heap[j.blk]? := by
    intro x j hx
    have := h.lt _ _ hx
    rw [Array.getElem?_push, if_neg (by omega)]
  refine ⟨?_, ?_, ?_, ?_, ?_, ?_, h.fresh, ?_, ?_⟩
  rotate_left 6
  · intro x j hx hj
    rcases hcase hx with ⟨rfl, rfl⟩ | ⟨hne, hx'⟩
    · rcases hk with hk | hk <;> omega
    · obtain ⟨h1, h2, h3⟩ := h.one x j hx' hj
      refine ⟨(hpush hx').trans h1, h2, fun x2 j2 hx2 he => ?_⟩
      rcases hcase hx2 with ⟨_, e2⟩ | ⟨_, hx2⟩
      · have := h.lt _ _ hx'; rw [e2] at he; omega
      · exact h3 _ _ hx2 he
  · intro x j hx hj
    rcases hcase hx with ⟨rfl, rfl⟩ | ⟨hne, hx⟩
    · rcases hk with hk | ⟨_, r, rfl⟩
      · omega
      · exact ⟨r, by simp [hi]⟩
    · obtain ⟨r, hr⟩ := h.two x j hx hj
      exact ⟨r, (hpush hx).trans hr⟩
  · intro x j hx
    rcases hcase hx with ⟨rfl, rfl⟩ | ⟨_, hx⟩
    · exact hb
    · exact h.dom _ _ hx
  · intro x j hx
    simp only [Array.size_push]
    rcases hcase hx with ⟨rfl, rfl⟩ | ⟨_, hx⟩
    · omega
    · have := h.lt _ _ hx; omega
  · intro x j C hx hC
    rcases hcase hx with ⟨rfl, rfl⟩ | ⟨_, hx⟩
    · rw [hB] at hC; cases hC
      exact ⟨o, by simp [hi], ho⟩
    · obtain ⟨o', ho', hr⟩ := h.blk _ _ _ hx hC
      have := h.lt _ _ hx
      refine ⟨o', ?_, hr.mono hle⟩
      simp only [Array.getElem?_push]
      rw [if_neg (by omega)]; exact ho'
  · intro x j C hx hC hw
    rcases hcase hx with ⟨rfl, rfl⟩ | ⟨_, hx⟩
    · have := h.below.size; omega
    · exact h.own _ _ _ hx hC hw
  · intro x j C x2 j2 C2 hx hC hx2 hC2 he hw
    rcases hcase hx with ⟨rfl, rfl⟩ | ⟨hne, hx⟩
    · rcases hcase hx2 with ⟨rfl, rfl⟩ | ⟨_, hx2⟩
      · rfl
      · have := h.lt _ _ hx2; omega
    · rcases hcase hx2 with ⟨e1, e2⟩ | ⟨_, hx2⟩
      · have := h.lt _ _ hx; rw [e2] at he; omega
      · exact h.inj _ _ _ _ _ _ hx hC hx2 hC2 he hw
  · refine ⟨h.below.os, h.below.tape, h.below.output, by have := h.below.size; simp; omega, fun k hk => ?_⟩
    have := h.below.size
    simp only [Array.getElem?_push]
    rw [if_neg (by omega)]
    exact h.below.block k hk
theorem Rel.new {ρ : Ren} {s : St M} {w : World} (h : Rel P w0 ρ s w) (B : Blk) : Rel P w0 ρ (s.new B) w where
  dom b i hb := by have := h.dom b i hb; simp; omega
  lt := h.lt
  blk b i C hb hC := by
    have := h.dom b i hb
    rw [St.at_new, if_neg (by omega)] at hC
    exact h.blk b i C hb hC
  own b i C hb hC := by
    have := h.dom b i hb
    rw [St.at_new, if_neg (by omega)] at hC
    exact h.own b i C hb hC
  inj b i C b2 i2 C2 hb hC hb2 hC2 := by
    have := h.dom b i hb
    have := h.dom b2 i2 hb2
    rw [St.at_new, if_neg (by omega)] at hC hC2
    exact h.inj b i C b2 i2 C2 hb hC hb2 hC2
  below := h.below
  fresh b hb := by simp at hb; rw [St.at_new, if_neg (by omega)]; exact h.fresh b (by omega)
  one := h.one
  two := h.two
theorem Rel.none_next {ρ : Ren} {s : St M} {w : World} (h : Rel P w0 ρ s w) {b : Nat} (hb : s.next ≤ b) : ρ b = none := by
  cases e : ρ b with
  | none => rfl
  | some i => have := h.dom b i e; omega
theorem Ext.new (ρ : Ren) (s : St M) (B : Blk) : Ext ρ s ρ (s.new B) :=
  ⟨ρ.le_refl, fun _ _ => rfl, by simp, fun b hb _ => by rw [St.at_new, if_neg (by omega)]⟩
theorem Ext.place {ρ : Ren} {s : St M} {b : Nat} (i : BI) (hn : ρ b = none) (s1 : St M) (hb : s1.next ≤ b) (h : Ext ρ s1 ρ s) : Ext ρ s1 (ρ.add b i) s where
  le := Ren.le_add hn
  old x hx := by unfold Ren.add; rw [if_neg (by omega)]
  next := h.next
  unr := h.unr
theorem Rel.alloc {ρ : Ren} {s : St M} {w : World} (h : Rel P w0 ρ s w) {B : Blk} {o : Obj} {i : BI} (hi : i.blk = w.heap.size)
    (ho : BRel P (ρ.add s.next i) i B o) (hk : i.kd = 0 ∨ i.kd = 2 ∧ ∃ r, o = .loop r) : Rel P w0 (ρ.add s.next i) (s.new B) { w with heap := w.heap.push o } ∧ Ext ρ s (ρ.add s.next i) (s.new B) :=
  have hn := h.none_next (Nat.le_refl s.next)
  ⟨(h.new B).place (by simp) hn (by simp) hi ho hk, Ext.place i hn s (Nat.le_refl _) (Ext.new ρ s B)⟩
theorem Rel.write {ρ : Ren} {s : St M} {w : World} (h : Rel P w0 ρ s w) {b : Nat} {i : BI} {B C : Blk} {o : Obj} (hb : ρ b = some i) (hB : s.at' b = some B) (hw : B.owned = true)
    (ho : BRel P ρ i C o) (hk : C.isLoop = B.isLoop := by rfl) : Rel P w0 ρ (s.put b C) { w with heap := w.heap.setIfInBounds i.blk o } ∧ Ext ρ s ρ (s.put b C) := by
  obtain ⟨oB, hoB, hBR⟩ := h.blk _ _ _ hb hB
  refine ⟨⟨h.dom, fun x j hx => by simpa using h.lt x j hx, ?_, ?_, ?_, ?_, fun x hx => by rw [St.at_put, if_neg (by have := h.dom _ _ hb; simp at hx; omega)]; exact h.fresh x hx, ?_, ?_⟩, ⟨ρ.le_refl, fun _ _ => rfl, Nat.le_refl _, fun x _ hn => ?_⟩⟩
  rotate_left 4
  · intro x j hx hj
    obtain ⟨h1, h2, h3⟩ := h.one x j hx hj
    refine ⟨?_, h2, h3⟩
    simp only [Array.getElem?_setIfInBounds]
    rw [if_neg]
    · exact h1
    · intro he
      rw [← he, hoB] at h1
      cases h1
      exact hBR.not_deferred
  · intro x j hx hj
    obtain ⟨r, hr⟩ := h.two x j hx hj
    simp only [Array.getElem?_setIfInBounds]
    by_cases he : i.blk = j.blk
    · rw [if_pos he, if_pos (h.lt _ _ hb)]
      rw [← he, hoB] at hr
      cases hr
      obtain ⟨r', rfl⟩ := ho.loop_obj (hk.trans hBR.is_loop)
      exact ⟨r', rfl⟩
    · rw [if_neg he]; exact ⟨r, hr⟩
  rotate_left 1
  · intro x j D hx hD
    rw [St.at_put] at hD
    by_cases e : x = b
    · subst e
      rw [if_pos rfl] at hD
      cases hD
      rw [hb] at hx; cases hx
      exact ⟨o, by simp [h.lt _ _ hb], ho⟩
    · rw [if_neg e] at hD
      obtain ⟨o', ho', hr⟩ := h.blk _ _ _ hx hD
      refine ⟨o', ?_, hr⟩
      simp only [Array.getElem?_setIfInBounds]
      rw [if_neg]
      · exact ho'
      · intro he
        exact e (h.inj _ _ _ _ _ _ hb hB hx hD he hw).symm
  · intro x j D hx hD hDw
    rw [St.at_put] at hD
    by_cases e : x = b
    · subst e
      exact h.own _ _ _ hx hB hw
    · rw [if_neg e] at hD
      exact h.own _ _ _ hx hD hDw
  · intro x j D x2 j2 D2 hx hD hx2 hD2 he hDw
    rw [St.at_put] at hD hD2
    by_cases e : x = b
    · subst e
      by_cases e2 : x2 = x
      · exact e2.symm
      · rw [if_neg e2] at hD2
        exact h.inj _ _ _ _ _ _ hx hB hx2 hD2 he hw
    · rw [if_neg e] at hD
      by_cases e2 : x2 = b
      · subst e2
        exact h.inj _ _ _ _ _ _ hx hD hx2 hB he hDw
      · rw [if_neg e2] at hD2
        exact h.inj _ _ _ _ _ _ hx hD hx2 hD2 he hDw
  · refine ⟨h.below.os, h.below.tape, h.below.output, by have := h.below.size; simpa using this, fun k hk => ?_⟩
    have := h.own _ _ _ hb hB hw
    simp only [Array.getElem?_setIfInBounds]
    rw [if_neg (by omega)]
    exact h.below.block k hk
  · rw [St.at_put, if_neg]
    intro e; subst e; rw [hn] at hb; cases hb
theorem Rel.noput {ρ : Ren} {s : St M} {w : World} (h : Rel P w0 ρ s w) {b : Nat} {C : Blk} (hB : s.at' b = some C) : Rel P w0 ρ (s.put b C) w ∧ Ext ρ s ρ (s.put b C) := by
  have hat : ∀ x, (s.put b C).at' x = s.at' x := fun x => by
    rw [St.at_put]
    split
    · rename_i e; rw [e, hB]
    · rfl
  exact ⟨⟨h.dom, h.lt, fun x i B hx hb => h.blk x i B hx (by rw [← hat]; exact hb), fun x i B hx hb => h.own x i B hx (by rw [← hat]; exact hb), fun x i B x2 i2 B2 hx hb hx2 hb2 => h.inj x i B x2 i2 B2 hx (by rw [← hat]; exact hb) hx2 (by rw [← hat]; exact hb2), h.below, fun x hx => by rw [hat]; exact h.fresh x hx, h.one, h.two⟩,
    ρ.le_refl, fun _ _ => rfl, Nat.le_refl _, fun x _ _ => hat x⟩
theorem Rel.kill {ρ : Ren} {s : St M} {w : World} (h : Rel P w0 ρ s w) {b : Nat} {i : BI} (hb : ρ b = some i) : Rel P w0 ρ (s.kill b) w ∧ Ext ρ s ρ (s.kill b) := by
  have hat : ∀ {x C}, (s.kill b).at' x = some C → s.at' x = some C := by
    intro x C hx
    rw [St.at_kill] at hx
    split at hx
    · cases hx
    · exact hx
  refine ⟨⟨h.dom, h.lt, fun x j C hx hC => h.blk x j C hx (hat hC), fun x j C hx hC => h.own x j C hx (hat hC),
    fun x j C x2 j2 C2 hx hC hx2 hC2 => h.inj x j C x2 j2 C2 hx (hat hC) hx2 (hat hC2), h.below, (fun x hx => by rw [St.at_kill]; split <;> first | rfl | exact h.fresh x hx), h.one, h.two⟩, ⟨ρ.le_refl, fun _ _ => rfl, Nat.le_refl _, fun x _ hn => ?_⟩⟩
  rw [St.at_kill, if_neg]
  intro e; subst e; rw [hn] at hb; cases hb
theorem Rel.takeOver {ρ : Ren} {s : St M} {w : World} (h : Rel P w0 ρ s w) {b : Nat} {i j : BI} {B C : Blk} {o : Obj} (hb : ρ b = some i) (hB : s.at' b = some B) (hw : B.owned = true) (hj : j.blk = i.blk)
    (ho : BRel P (ρ.add s.next j) j C o) (hk : j.kd = 0) (hkB : B.isLoop = false) : Rel P w0 (ρ.add s.next j) ((s.kill b).new C) { w with heap := w.heap.setIfInBounds i.blk o } := by
  obtain ⟨oB, hoB, hBR⟩ := h.blk _ _ _ hb hB
  have hn := h.none_next (Nat.le_refl s.next)
  have hle := Ren.le_add (ρ := ρ) (b := s.next) (i := j) hn
  have hlt := h.dom _ _ hb
  have hcase : ∀ {x k}, ρ.add s.next j x = some k → (x = s.next ∧ k = j) ∨ (x ≠ s.next ∧ ρ x = some k) := by
    intro x k hx
    unfold Ren.add at hx
    split at hx
    · cases hx; exact .inl ⟨by assumption, rfl⟩
    · exact .inr ⟨by assumption, hx⟩
  have hat : ∀ {x D}, x ≠ s.next → ((s.kill b).new C).at' x = some D → x ≠ b ∧ s.at' x = some D := by
    intro x D hx hD
    rw [St.at_new, St.next_kill, if_neg hx, St.at_kill] at hD
    split at hD
    · cases hD
    · exact ⟨by assumption, hD⟩
  have hat0 : ∀ {D}, ((s.kill b).new C).at' s.next = some D → D = C := by
    intro D hD
    rw [St.at_new, St.next_kill, if_pos rfl] at hD
    exact (Option.some.inj hD).symm
  refine ⟨?_, ?_, ?_, ?_, ?_, ?_, (fun x hx => by simp at hx; rw [St.at_new, St.next_kill, if_neg (by omega), St.at_kill]; split <;> first | rfl | exact h.fresh x (by omega)), ?_, ?_⟩
  rotate_left 6
  · intro x k hx hk1
    rcases hcase hx with ⟨_, rfl⟩ | ⟨_, hx⟩
    · omega
    · obtain ⟨h1, h2, h3⟩ := h.one x k hx hk1
      have hne : ¬ i.blk = k.blk := by
        intro he
        rw [← he, hoB] at h1
        cases h1
        exact hBR.not_deferred
      refine ⟨?_, h2, fun x2 k2 hx2 he => ?_⟩
      · simp only [Array.getElem?_setIfInBounds]
        rw [if_neg hne]; exact h1
      · rcases hcase hx2 with ⟨_, rfl⟩ | ⟨_, hx2⟩
        · omega
        · exact h3 _ _ hx2 he
  · intro x k hx hk2
    rcases hcase hx with ⟨_, rfl⟩ | ⟨_, hx⟩
    · omega
    · obtain ⟨r, hr⟩ := h.two x k hx hk2
      refine ⟨r, ?_⟩
      simp only [Array.getElem?_setIfInBounds]
      rw [if_neg]
      · exact hr
      · intro he
        rw [← he, hoB] at hr
        cases hr
        have := hBR.is_loop
        rw [hkB] at this; cases this
  · intro x k hx
    simp only [St.next_new, St.next_kill]
    rcases hcase hx with ⟨rfl, _⟩ | ⟨_, hx⟩
    · omega
    · have := h.dom _ _ hx; omega
  · intro x k hx
    simp only [Array.size_setIfInBounds]
    rcases hcase hx with ⟨_, rfl⟩ | ⟨_, hx⟩
    · rw [hj]; exact h.lt _ _ hb
    · exact h.lt _ _ hx
  · intro x k D hx hD
    rcases hcase hx with ⟨rfl, rfl⟩ | ⟨hne, hx⟩
    · obtain rfl := hat0 hD
      exact ⟨o, by simp [hj, h.lt _ _ hb], ho⟩
    · obtain ⟨hxb, hD⟩ := hat hne hD
      obtain ⟨o', ho', hr⟩ := h.blk _ _ _ hx hD
      refine ⟨o', ?_, hr.mono hle⟩
      simp only [Array.getElem?_setIfInBounds]
      rw [if_neg]
      · exact ho'
      · intro he
        exact hxb (h.inj _ _ _ _ _ _ hb hB hx hD he hw).symm
  · intro x k D hx hD hDw
    rcases hcase hx with ⟨rfl, rfl⟩ | ⟨hne, hx⟩
    · rw [hj]; exact h.own _ _ _ hb hB hw
    · exact h.own _ _ _ hx (hat hne hD).2 hDw
  · intro x k D x2 k2 D2 hx hD hx2 hD2 he hDw
    rcases hcase hx with ⟨e1, e2⟩ | ⟨hne, hx⟩
    · rcases hcase hx2 with ⟨e3, e4⟩ | ⟨hne2, hx2⟩
      · rw [e1, e3]
      · obtain ⟨hxb, hD2⟩ := hat hne2 hD2
        rw [e2, hj] at he
        exact (hxb (h.inj _ _ _ _ _ _ hb hB hx2 hD2 he hw).symm).elim
    · obtain ⟨hxb, hD⟩ := hat hne hD
      rcases hcase hx2 with ⟨e3, e4⟩ | ⟨hne2, hx2⟩
      · rw [e4, hj] at he
        exact (hxb (h.inj _ _ _ _ _ _ hb hB hx hD he.symm hw).symm).elim
      · exact h.inj _ _ _ _ _ _ hx hD hx2 (hat hne2 hD2).2 he hDw
  · refine ⟨h.below.os, h.below.tape, h.below.output, by have := h.below.size; simpa using this, fun k hk => ?_⟩
    have := h.own _ _ _ hb hB hw
    simp only [Array.getElem?_setIfInBounds]
    rw [if_neg (by omega)]
    exact h.below.block k hk
def Ren.flip (ρ ρ' : Ren) : Prop := ∀ b, (ρ b = none ∧ ρ' b = none) ∨ ∃ i k, ρ b = some i ∧ ρ' b = some { i with kd := k }
theorem Ren.flip.some {ρ ρ' : Ren} (h : ρ.flip ρ') {b : Nat} {i : BI} (hb : ρ b = some i) : ∃ k, ρ' b = .some { i with kd := k } := by
  rcases h b with ⟨h1, _⟩ | ⟨j, k, h1, h2⟩
  · rw [h1] at hb; cases hb
  · rw [h1] at hb; cases hb; exact ⟨k, h2⟩
theorem Ren.flip.back {ρ ρ' : Ren} (h : ρ.flip ρ') {b : Nat} {i : BI} (hb : ρ' b = Option.some i) : ∃ k, ρ b = .some { i with kd := k } := by
  rcases h b with ⟨_, h1⟩ | ⟨j, k, h1, h2⟩
  · rw [h1] at hb; cases hb
  · rw [h2] at hb; cases hb; exact ⟨j.kd, h1⟩
theorem VRel.flip {ρ ρ' : Ren} (h : ρ.flip ρ') {v v' : Value} (hv : VRel ρ v v') : VRel ρ' v v' := by
  have hA : ∀ {a a' : Addr}, ARel ρ a a' → ARel ρ' a a' := by
    rintro a a' ⟨i, hi, h1, h2⟩
    obtain ⟨k, hk⟩ := h.some hi
    exact ⟨_, hk, h1, h2⟩
  induction hv with
  | unk v' h1 => exact .unk v' h1
  | bool b => exact .bool b
  | int k n => exact .int k n
  | string s => exact .string s
  | nilPtr => exact .nilPtr
  | ptr ha => exact .ptr (hA ha)
  | nilSlice => exact .nilSlice
  | slice ha hc =>
    refine .slice (hA ha) ?_
    rcases hc with h1 | ⟨h1, h2, h3, h4⟩
    · exact .inl h1
    · refine .inr ⟨h1, h2, h3, fun i hi => ?_⟩
      obtain ⟨k, hk⟩ := h.back hi
      have := h4 _ hk
      exact this
  | void => exact .void
  | nilMap => exact .nilMap
  | map hr =>
    obtain ⟨k, hk⟩ := h.some hr
    exact .map (i := ⟨_, _, _, _, k⟩) hk
  | func fn hfn hf _ hc _ ih1 ih2 => exact .func fn hfn hf ih1 hc ih2
  | yield hl =>
    obtain ⟨k, hk⟩ := h.some hl
    exact .yield (i := ⟨_, _, _, _, k⟩) hk
  | nilFunc => exact .nilFunc
  | nilIface => exact .nilIface
  | iface t _ ih => exact .iface t ih
  | agg hc _ ih => exact .agg hc ih
  | over => exact .over
  | tuple h1 hc _ ih => exact .tuple h1 hc ih
theorem VsRel.flip {ρ ρ' : Ren} (h : ρ.flip ρ') {c c' : Array Value} (hc : VsRel ρ c c') : VsRel ρ' c c' := ⟨hc.1, fun i hi => (hc.2 i hi).flip h⟩
theorem BRel.flip {ρ ρ' : Ren} (h : ρ.flip ρ') {i : BI} {B : Blk} {o : Obj} (hB : BRel P ρ i B o) : BRel P ρ' i B o := by
  cases B with
  | cells vs e own =>
    obtain ⟨cs, e', fr, h1, h2, h3, h4⟩ := hB
    exact ⟨cs, e', fr, h1, h2, fun k hk => (h3 k hk).flip h, h4⟩
  | map es clock =>
    obtain ⟨es', h1, h2, h3⟩ := hB
    exact ⟨es', h1, h2, fun k hk hk' => let ⟨a, b, c, d⟩ := h3 k hk hk'; ⟨a, b, c, d.flip h⟩⟩
  | strIter s pos => exact hB
  | mapIter m since seen stepped =>
    cases m with
    | none => exact hB
    | some m =>
      obtain ⟨j, hj, ho⟩ := hB
      obtain ⟨k, hk⟩ := h.some hj
      exact ⟨_, hk, ho⟩
  | loop st pend ps tmps assign body => obtain ⟨h0, fn, tmps', D, ho, hv⟩ := hB; exact ⟨h0, fn, tmps', D, ho, hv.flip h⟩
theorem Rel.mark {ρ : Ren} {s : St M} {w : World} (h : Rel P w0 ρ s w) :
    Rel P w0 (ρ.add s.next ⟨w.heap.size, 0, 0, 0, 1⟩) s.skip { w with heap := w.heap.push (.deferred (some [])) } ∧ Ext ρ s (ρ.add s.next ⟨w.heap.size, 0, 0, 0, 1⟩) s.skip := by
  have hn := h.none_next (Nat.le_refl s.next)
  have hle := Ren.le_add (ρ := ρ) (b := s.next) (i := ⟨w.heap.size, 0, 0, 0, 1⟩) hn
  have hcase : ∀ {x j}, ρ.add s.next ⟨w.heap.size, 0, 0, 0, 1⟩ x = some j → (x = s.next ∧ j = ⟨w.heap.size, 0, 0, 0, 1⟩) ∨ (x ≠ s.next ∧ ρ x = some j) := by
    intro x j hx
    unfold Ren.add at hx
    split at hx
    · cases hx; exact .inl ⟨by assumption, rfl⟩
    · exact .inr ⟨by assumption, hx⟩
  have hpush : ∀ {x j}, ρ x = some j → (w.heap.push (.deferred (some [])))[j.blk]? = w.heap[j.blk]? := by
    intro x j hx
    have := h.lt _ _ hx
    rw [Array.getElem?_push, if_neg (by omega)]
  have hnone : ∀ {B}, s.skip.at' s.next = some B → False := by
    intro B hB
    have : s.at' s.next = some B := hB
    rw [h.fresh _ (Nat.le_refl _)] at this; cases this
  refine ⟨⟨?_, ?_, ?_, ?_, ?_, ?_, fun b hb => h.fresh b (by simp at hb; omega), ?_, ?_⟩, ⟨hle, fun x hx => by unfold Ren.add; rw [if_neg (by omega)], by simp, fun _ _ _ => rfl⟩⟩
  · intro x j hx
    rcases hcase hx with ⟨rfl, _⟩ | ⟨_, hx⟩
    · simp
    · have := h.dom _ _ hx; simp; omega
  · intro x j hx
    simp only [Array.size_push]
    rcases hcase hx with ⟨_, rfl⟩ | ⟨_, hx⟩
    · simp
    · have := h.lt _ _ hx; omega
  · intro x j C hx hC
    rcases hcase hx with ⟨rfl, _⟩ | ⟨_, hx⟩
    · exact (hnone hC).elim
    · obtain ⟨o', ho', hr⟩ := h.blk _ _ _ hx hC
      exact ⟨o', (hpush hx).trans ho', hr.mono hle⟩
  · intro x j C hx hC hw
    rcases hcase hx with ⟨rfl, _⟩ | ⟨_, hx⟩
    · exact (hnone hC).elim
    · exact h.own _ _ _ hx hC hw
  · intro x j C x2 j2 C2 hx hC hx2 hC2 he hw
    rcases hcase hx with ⟨rfl, _⟩ | ⟨_, hx⟩
    · exact (hnone hC).elim
    · rcases hcase hx2 with ⟨rfl, _⟩ | ⟨_, hx2⟩
      · exact (hnone hC2).elim
      · exact h.inj _ _ _ _ _ _ hx hC hx2 hC2 he hw
  · refine ⟨h.below.os, h.below.tape, h.below.output, by have := h.below.size; simp; omega, fun k hk => ?_⟩
    have := h.below.size
    simp only [Array.getElem?_push]
    rw [if_neg (by omega)]
    exact h.below.block k hk
  · intro x j hx hj
    rcases hcase hx with ⟨rfl, rfl⟩ | ⟨hne, hx⟩
    · refine ⟨by simp, by have := h.below.size; exact this, fun x2 j2 hx2 he => ?_⟩
      rcases hcase hx2 with ⟨rfl, _⟩ | ⟨_, hx2⟩
      · rfl
      · have := h.lt _ _ hx2; simp only at he; omega
    · obtain ⟨h1, h2, h3⟩ := h.one x j hx hj
      refine ⟨(hpush hx).trans h1, h2, fun x2 j2 hx2 he => ?_⟩
      rcases hcase hx2 with ⟨_, rfl⟩ | ⟨_, hx2⟩
      · have := h.lt _ _ hx; simp only at he; omega
      · exact h3 _ _ hx2 he
  · intro x j hx hj
    rcases hcase hx with ⟨_, rfl⟩ | ⟨hne, hx⟩
    · simp at hj
    · obtain ⟨r, hr⟩ := h.two x j hx hj
      exact ⟨r, (hpush hx).trans hr⟩
theorem Rel.skip {ρ : Ren} {s : St M} {w : World} (h : Rel P w0 ρ s w) : Rel P w0 ρ s.skip w ∧ Ext ρ s ρ s.skip :=
  ⟨⟨fun b i hb => by have := h.dom b i hb; simp; omega, h.lt, h.blk, h.own, h.inj, h.below, fun b hb => h.fresh b (by simp at hb; omega), h.one, h.two⟩, ⟨ρ.le_refl, fun _ _ => rfl, by simp, fun _ _ _ => rfl⟩⟩
theorem Rel.take {ρ : Ren} {s : St M} {w : World} (h : Rel P w0 ρ s w) {b : Nat} {i : BI} (hb : ρ b = some i) (hk : i.kd = 1) :
    ∃ ρ' : Ren, Ren.flip ρ ρ' ∧ (∀ x, x ≠ b → ρ' x = ρ x) ∧ Rel P w0 ρ' s (w.putObj i.blk (.deferred none)) := by
  obtain ⟨h1, h2, h3⟩ := h.one b i hb hk
  have hoff : ∀ x, x ≠ b → (fun x => if x = b then some { i with kd := 0 } else ρ x) x = ρ x := by intro x hx; simp [hx]
  have hat : (fun x => if x = b then some { i with kd := 0 } else ρ x) b = some { i with kd := 0 } := by simp
  have hfl : Ren.flip ρ (fun x => if x = b then some { i with kd := 0 } else ρ x) := by
    intro x
    by_cases e : x = b
    · subst e; exact .inr ⟨i, 0, hb, by simp⟩
    · rw [hoff x e]
      cases hx : ρ x with
      | none => exact .inl ⟨rfl, rfl⟩
      | some j => exact .inr ⟨j, j.kd, rfl, rfl⟩
  generalize (fun x => if x = b then some { i with kd := 0 } else ρ x : Ren) = ρ' at hoff hfl hat
  have hcase : ∀ {x j}, ρ' x = some j → ∃ k, ρ x = some { j with kd := k } := fun hx => hfl.back hx
  have hput : ∀ {k : Nat}, k ≠ i.blk → (w.putObj i.blk (.deferred none)).heap[k]? = w.heap[k]? := by
    intro k hk
    exact World.putObj_heap_other hk
  have hnb : ∀ {x j C}, ρ x = some j → s.at' x = some C → j.blk ≠ i.blk := by
    intro x j C hx hC he
    have := h3 x j hx he
    subst this
    obtain ⟨o, ho, hr⟩ := h.blk _ _ _ hx hC
    rw [he, h1] at ho
    cases ho
    exact hr.not_deferred
  refine ⟨ρ', hfl, hoff, ⟨?_, ?_, ?_, ?_, ?_, ?_, h.fresh, ?_, ?_⟩⟩
  · intro x j hx
    obtain ⟨k, hx⟩ := hcase hx
    exact h.dom _ _ hx
  · intro x j hx
    obtain ⟨k, hx⟩ := hcase hx
    simpa [World.putObj] using h.lt _ _ hx
  · intro x j C hx hC
    obtain ⟨k, hx'⟩ := hcase hx
    obtain ⟨o, ho, hr⟩ := h.blk _ _ _ hx' hC
    have hne := hnb hx' hC
    have hxb : x ≠ b := by intro e; subst e; rw [hb] at hx'; cases hx'; exact hne rfl
    rw [hoff x hxb] at hx
    obtain ⟨o, ho, hr⟩ := h.blk _ _ _ hx hC
    exact ⟨o, (hput (hnb hx hC)).trans ho, hr.flip hfl⟩
  · intro x j C hx hC hw
    obtain ⟨k, hx⟩ := hcase hx
    have := h.own _ _ _ hx hC hw
    exact this
  · intro x j C x2 j2 C2 hx hC hx2 hC2 he hw
    obtain ⟨k, hx⟩ := hcase hx
    obtain ⟨k2, hx2⟩ := hcase hx2
    have := h.inj _ _ _ _ _ _ hx hC hx2 hC2 he hw
    exact this
  · refine ⟨h.below.os, h.below.tape, h.below.output, by have := h.below.size; simpa [World.putObj] using this, fun k hk => ?_⟩
    exact (hput (by omega)).trans (h.below.block k hk)
  · intro x j hx hj
    by_cases e : x = b
    · subst e
      rw [hat] at hx; cases hx; cases hj
    · have hx0 := hx
      rw [hoff x e] at hx
      obtain ⟨g1, g2, g3⟩ := h.one x j hx hj
      have hne : j.blk ≠ i.blk := fun he => e (h3 x j hx he)
      refine ⟨(hput hne).trans g1, g2, fun x2 j2 hx2 he => ?_⟩
      obtain ⟨k2, hx2⟩ := hcase hx2
      have := g3 _ _ hx2 he
      exact this
  · intro x j hx hj
    by_cases e : x = b
    · subst e
      rw [hat] at hx; cases hx; cases hj
    · rw [hoff x e] at hx
      obtain ⟨r, hr⟩ := h.two x j hx hj
      refine ⟨r, (hput ?_).trans hr⟩
      intro he
      rw [he, h1] at hr
      cases hr
end
end Go.Cs
namespace Go.Cs
def pureRun {α : Type} (P : Program) : Sem α → Option α
  | .pure a => some a
  | .program k => pureRun P (k P)
  | .mark _ k => pureRun P k
  | _ => none
theorem run_of_pureRun {α : Type} {P : Program} : ∀ {s : Sem α} {a : α}, pureRun P s = some a → ∀ w, s.run P w = .ok a w := by
  intro s
  induction s with
  | pure a => intro b h w; simp only [pureRun, Option.some.injEq] at h; subst h; rfl
  | program k ih => intro b h w; simp only [pureRun] at h; simp only [Sem.run]; exact ih _ h w
  | mark m k ih => intro b h w; simp only [pureRun] at h; simp only [Sem.run]; exact ih h w
  | _ => intro b h w; simp [pureRun] at h
def pure6 (P : Program) (s : Sem Value) : Option Value :=
  match pureRun P s with
  | some v => if plain 6 v = true then some v else none
  | none => none
def aggT (P : Program) (t : TypeId) : Option Bool :=
  match P.underlying t with
  | some (.struct _) => some true
  | some (.array _ _) => some true
  | some _ => some false
  | none => none
def isUnk (cs : Array Value) : Bool := match cs.toList with
  | [.tuple _] => true
  | _ => false
theorem isUnk_size {cs : Array Value} (h : isUnk cs = true) : cs.size = 1 := by
  unfold isUnk at h
  split at h
  · rename_i e; rw [← Array.length_toList, e]; rfl
  · cases h
def okCell : Value → Bool
  | .agg _ => false
  | .tuple cs => isUnk cs
  | _ => true
def okPart : Value → Bool
  | .tuple cs => isUnk cs
  | _ => true
def cut (vs : List Value) (off n : Nat) : Option (List Value) := if off + n ≤ vs.length then some ((vs.drop off).take n) else none
def setCells : List Value → Nat → List Value → List Value
  | vs, _, [] => vs
  | vs, o, c :: cs => setCells (vs.set o c) (o + 1) cs
section
variable {M : Type} [Mem M] (P : Program)
def cload (t : TypeId) (a : Addr) (s : St M) : Option Value :=
  match s.at' a.block with
  | some (.cells vs _ _) =>
    match aggT P t with
    | some true => (cut vs a.off (P.cellsOf t)).map fun l => .agg l.toArray
    | some false => vs[a.off]?
    | none => none
  | _ => none
def cstoreCells (a : Addr) (l : List Value) (s : St M) : Option (St M) :=
  match s.at' a.block with
  | some (.cells vs e true) => if a.off + l.length ≤ vs.length ∧ l.all okCell = true then some (s.put a.block (.cells (setCells vs a.off l) e true)) else none
  | _ => none
def cstore (t : TypeId) (a : Addr) (v : Value) (s : St M) : Option (St M) :=
  match P.info? t with
  | some i => if v.cells.size = i.size then cstoreCells a v.cells.toList s else none
  | none => none
def cpart (t : TypeId) (cs : Array Value) (off : Nat) : Option Value :=
  match aggT P t with
  | some true => if off + P.cellsOf t ≤ cs.size then some (.agg (cs.extract off (off + P.cellsOf t))) else none
  | some false => cs[off]?
  | none => none
def nilCmp (d : TypeDesc) : Value → Value → Option Bool
  | .pointer none, .pointer (some _) => match d with | .pointer _ => some false | _ => none
  | .pointer (some _), .pointer none => match d with | .pointer _ => some false | _ => none
  | .nilIface, .iface _ _ => match d with | .interface _ => some false | _ => none
  | .iface _ _, .nilIface => match d with | .interface _ => some false | _ => none
  | .slice none _ _, .slice (some _) _ _ => match d with | .slice _ => some false | _ => none
  | .slice (some _) _ _, .slice none _ _ => match d with | .slice _ => some false | _ => none
  | .map none, .map (some _) => match d with | .map _ _ => some false | _ => none
  | .map (some _), .map none => match d with | .map _ _ => some false | _ => none
  | .nilFunc, .func _ _ _ => match d with | .func _ _ _ => some false | _ => none
  | .func _ _ _, .nilFunc => match d with | .func _ _ _ => some false | _ => none
  | _, _ => none
def cbin (op : BinOp) (t : TypeId) (ox oy : Operand) (x y : Value) : Option Value :=
  match x, y with
  | .int k a, .int k' b =>
    if k = k' then
      match op with
      | .add => some (.int k (k.wrap (a + b)))
      | .sub => some (.int k (k.wrap (a - b)))
      | .mul => some (.int k (k.wrap (a * b)))
      | .eql => some (.bool (a == b))
      | .neq => some (.bool (a != b))
      | .lss => some (.bool (a < b))
      | .leq => some (.bool (a ≤ b))
      | .gtr => some (.bool (a > b))
      | .geq => some (.bool (a ≥ b))
      | _ => pure6 P (Go.binOp op t x y)
    else pure6 P (Go.binOp op t x y)
  | _, _ =>
    if plain 6 x = true ∧ plain 6 y = true then pure6 P (do eqGuard op t ox oy x y; Go.binOp op t x y)
    else
      match P.underlying t with
      | none => none
      | some d =>
        match op, nilCmp d x y with
        | .eql, some b => some (.bool b)
        | .neq, some b => some (.bool !b)
        | _, _ => none
def cidxAddr (t : TypeId) (x ix : Value) : Option Value :=
  match ix with
  | .int _ i =>
    match P.underlying t, x with
    | some (.slice e), .slice (some a) n _ => match P.info? e with
      | some ie => if 0 ≤ i ∧ i < n then some (.pointer (some (a.add (i.toNat * ie.size)))) else none
      | none => none
    | some (.array n e), .pointer (some a) => match P.info? e with
      | some ie => if 0 ≤ i ∧ i < n then some (.pointer (some (a.add (i.toNat * ie.size)))) else none
      | none => none
    | _, _ => none
  | _ => none
def cbound (v : Option Value) (d most : Nat) : Option Nat :=
  match v with
  | none => some d
  | some (.int _ i) => if 0 ≤ i ∧ i ≤ most then some i.toNat else none
  | some _ => none
def cslice (t : TypeId) (x : Value) (lo hi mx : Option Value) : Option Value :=
  match P.underlying t, x with
  | some .string, .string s =>
    match mx with
    | some _ => none
    | none =>
      match cbound hi s.size s.size with
      | none => none
      | some h => match cbound lo 0 h with
        | none => none
        | some l => some (.string (s.extract l h))
  | some (.slice e), .slice none n c =>
    match P.info? e, cbound mx 0 0, cbound hi 0 0, cbound lo 0 0 with
    | some _, some _, some _, some _ => if n = 0 ∧ c = 0 ∧ (mx.isSome && hi.isNone) = false then some (.slice none 0 0) else none
    | _, _, _, _ => none
  | some (.slice e), .slice (some a) n c =>
    match P.info? e with
    | none => none
    | some ie =>
      -- what is known of the capacity: the length, if it is not known
      match cbound mx c (if c = UNK then n else c) with
      | none => none
      | some m => match (if mx.isSome && hi.isNone then none else cbound hi n (if mx.isNone && c == UNK then n else m)) with
        | none => none
        | some h => match cbound lo 0 h with
          | none => none
          | some l =>
            if mx.isNone && c == UNK then (if l = 0 then some (.slice (some a) h c) else none)
            else if m < UNK then some (.slice (some (if m = l then a else a.add (l * ie.size))) (h - l) (m - l)) else none
  | some (.array n e), .pointer (some a) =>
    match P.info? e with
    | none => none
    | some ie =>
      match cbound mx n n with
      | none => none
      | some m => match (if mx.isSome && hi.isNone then none else cbound hi n m) with
        | none => none
        | some h => match cbound lo 0 h with
          | none => none
          | some l => if m < UNK then some (.slice (some (if m = l then a else a.add (l * ie.size))) (h - l) (m - l)) else none
  | _, _ => none
def cassert (x : Value) (asserted : TypeId) (ok : Bool) : Option Value :=
  let holds (v : Value) : Option Value := some (if ok then .tuple #[v, .bool true] else v)
  let fails : Option Value := if ok then ((P.info? asserted).bind (·.zero)).bind fun z => if plain 6 z then some (.tuple #[z, .bool false]) else none else none
  match P.underlying asserted, x with
  | some (.interface want), .iface t _ => match P.info? t with
    | some i => match Instr.missingMethod want i.methods with
      | none => holds x
      | some _ => fails
    | none => none
  | some (.interface _), .nilIface => fails
  | some _, .iface t v => if t = asserted then holds v else fails
  | some _, .nilIface => fails
  | _, _ => none
def cbuiltin (b : Builtin) (ts : Array TypeId) (ty : TypeId) (args : Array Value) : Option Value :=
  match b with
  | .len =>
    match ts[0]?.bind P.underlying, (args[0]? : Option Value) with
    | some (.slice _), some (.slice _ n _) => some (.int .i64 n)
    | some .string, some (.string s) => some (.int .i64 s.size)
    | some (.array n _), some _ => some (.int .i64 n)
    | some (.map _ _), some (.map none) => some (.int .i64 0)
    | _, _ => none
  | .cap =>
    match ts[0]?.bind P.underlying, (args[0]? : Option Value) with
    | some (.slice _), some (.slice _ _ c) => if c = UNK then none else some (.int .i64 c)
    | _, _ => none
  | .unsafeSliceData => match args.toList with
    | [.slice none _ _] => some (.pointer none)
    | [.slice (some a) n c] => if c ≠ 0 ∧ (c = UNK → n ≠ 0) then some (.pointer (some a)) else none
    | _ => none
  | .min => if args.toList.all (plain 1) then pure6 P (Builtin.min_ ts ty args) else none
  | .max => if args.toList.all (plain 1) then pure6 P (Builtin.max_ ts ty args) else none
  | _ => none
def zeroPlain (t : TypeId) : Bool :=
  match pureRun P (zeroValue t) with
  | some z => plain 6 z
  | none => false
def cpure (ev : Operand → Value) (ty : TypeId) : Op → Option Value
  | .move x => some (ev x)
  | .assign x => some (ev x)
  | .pick c a b => match ev c with
    | .bool t => some (if t then ev a else ev b)
    | _ => none
  | .build t parts => if (parts.toList.all fun x => okPart (ev x.2)) = true ∧ zeroPlain P t = true then pureRun P (Instr.build t (parts.map fun x => (x.1, ev x.2))) else none
  | .nilCheck x => match ev x with
    | .pointer (some a) => some (.pointer (some a))
    | .iface t v => some (.iface t v)
    | .func (.func f) a b => some (.func (.func f) a b)
    | _ => none
  | .binOp op t x y _ => cbin P op t x y (ev x) (ev y)
  | .unOp op _ x => if plain 1 (ev x) = true then pure6 P (Op.unary op (ev x)) else none
  | .convert src dst x => if plain 1 (ev x) = true then pure6 P (Go.convert src dst (ev x)) else none
  | .makeInterface t x => match P.underlying t with
    | some (.interface _) => none
    | some _ => some (.iface t (ev x))
    | none => none
  | .makeFunc fn first captured => match fn with
    | .yield _ => none
    | fn => some (.func fn (first.map ev) (captured.map ev))
  | .fieldAddr t x f => match P.underlying t, ev x with
    | some (.struct fs), .pointer (some a) => match fs[f]? with
      | some fl => match P.info? fl.type with
        | some i => if i.size = 0 then none else some (.pointer (some (a.add fl.offset)))
        | none => none
      | none => none
    | _, _ => none
  | .field t x f => match P.underlying t, ev x with
    | some (.struct fs), .agg cs => match fs[f]? with
      | some fl => cpart P fl.type cs fl.offset
      | none => none
    | _, _ => none
  | .indexAddr t x ix => cidxAddr P t (ev x) (ev ix)
  | .index t x ix => match P.underlying t, ev x, ev ix with
    | some .string, .string s, .int _ i => if 0 ≤ i then (s[i.toNat]?).map fun b => .int .u8 b.toNat else none
    | some (.array n e), .agg cs, .int _ i => match P.info? e with
      | some ie => if 0 ≤ i ∧ i < n then cpart P e cs (i.toNat * ie.size) else none
      | none => none
    | _, _, _ => none
  | .slice t x lo hi mx => cslice P t (ev x) (lo.map ev) (hi.map ev) (mx.map ev)
  | .typeAssert x _ asserted ok => cassert P (ev x) asserted ok
  | .extract x i => match ev x with
    | .tuple vs => if vs.size = 1 then (match vs.toList with
      | [.bool false] => if i = 0 then some (.bool false) else none
      | _ => none) else vs[i]?
    | _ => none
  | .call c => match c.callee with
    | .builtin b => cbuiltin P b c.argTypes ty (c.args.map ev)
    | _ => none
  | _ => none
end
end Go.Cs
namespace Go.Cs
section
variable {P : Program} {ρ : Ren}
theorem run_underlying' {t : TypeId} {d : TypeDesc} (h : P.underlying t = some d) (w : World) : (underlying t).run P w = .ok d w := by
  simp [underlying, program, Sem.run, h]
theorem run_typeInfo' {t : TypeId} {i : TypeInfo} (h : P.info? t = some i) (w : World) : (typeInfo t).run P w = .ok i w := by
  simp [typeInfo, program, Sem.run, h]
theorem run_sizeOf' {t : TypeId} {i : TypeInfo} (h : P.info? t = some i) (w : World) : (sizeOf t).run P w = .ok i.size w := by
  simp [sizeOf, run_typeInfo' h]
theorem info_of_underlying {t : TypeId} {d : TypeDesc} (h : P.underlying t = some d) : ∃ i, P.info? t = some i := by
  unfold Program.underlying at h
  split at h
  · exact ⟨_, by assumption⟩
  · exact ⟨_, by assumption⟩
  · cases h
theorem cellsOf_info {t : TypeId} {i : TypeInfo} (h : P.info? t = some i) : P.cellsOf t = i.size := by simp [Program.cellsOf, h]
theorem run_isAgg {t : TypeId} {b : Bool} (h : aggT P t = some b) (w : World) : (isAgg t).run P w = .ok b w := by
  unfold aggT at h
  split at h <;> (try cases h) <;> rename_i hu <;> simp only [isAgg, Sem.run_bind, run_underlying' hu, Result.andThen_ok] <;> first | rfl | skip
theorem info_of_agg {t : TypeId} {b : Bool} (h : aggT P t = some b) : ∃ i, P.info? t = some i := by
  unfold aggT at h
  split at h
  · exact info_of_underlying (by assumption)
  · exact info_of_underlying (by assumption)
  · exact info_of_underlying (by assumption)
  · cases h
theorem extract_rel {c c' : Array Value} (h : VsRel ρ c c') (i j : Nat) : VsRel ρ (c.extract i j) (c'.extract i j) := by
  refine ⟨by simp [h.1], fun k hk => ?_⟩
  simp only [Array.size_extract] at hk
  have hk' : i + k < c.size := by omega
  have h0 := h.2 (i + k) hk'
  have hk2 : i + k < c'.size := h.1 ▸ hk'
  have e1 : (c.extract i j).getD k undef = c.getD (i + k) undef := by
    rw [Array.getD_eq_getD_getElem?, Array.getD_eq_getD_getElem?, Array.getElem?_extract, if_pos (by omega)]
  have e2 : (c'.extract i j).getD k undef = c'.getD (i + k) undef := by
    rw [Array.getD_eq_getD_getElem?, Array.getD_eq_getD_getElem?, Array.getElem?_extract, if_pos (by rw [← h.1]; omega)]
  rw [e1, e2]
  exact h0
theorem VsRel.getElem? {c c' : Array Value} (h : VsRel ρ c c') {i : Nat} {v : Value} (hv : c[i]? = some v) : ∃ v', c'[i]? = some v' ∧ VRel ρ v v' := by
  obtain ⟨hi, rfl⟩ := Array.getElem?_eq_some_iff.1 hv
  have hi' : i < c'.size := h.1 ▸ hi
  refine ⟨c'[i], by simp [hi'], ?_⟩
  have := h.2 i hi
  simpa [Array.getD, hi, hi'] using this
theorem cpart_sound {t : TypeId} {cs cs' : Array Value} {off : Nat} {v : Value} (h : cpart P t cs off = some v) (hc : VsRel ρ cs cs') (w : World) :
    ∃ v', (part t cs' off).run P w = .ok v' w ∧ VRel ρ v v' := by
  unfold cpart at h
  split at h
  · rename_i ha
    obtain ⟨i, hi⟩ := info_of_agg ha
    split at h
    · cases h
      refine ⟨_, by simp only [part, Sem.run_bind, run_isAgg ha, Result.andThen_ok, if_true, run_sizeOf' hi]; rfl, ?_⟩
      rw [cellsOf_info hi]
      have := extract_rel hc off (off + i.size)
      exact .agg this.1 this.2
    · cases h
  · rename_i ha
    obtain ⟨v', hv', hr⟩ := hc.getElem? h
    refine ⟨v', ?_, hr⟩
    simp only [part, Sem.run_bind, run_isAgg ha, Result.andThen_ok, Bool.false_eq_true, if_false, hv']
    rfl
  · cases h
theorem VRel.agg_inv {cs : Array Value} {v' : Value} (h : VRel ρ (.agg cs) v') : ∃ cs', v' = .agg cs' ∧ VsRel ρ cs cs' := by
  cases h with
  | agg hc hcv => exact ⟨_, rfl, hc, hcv⟩
theorem VRel.ptr_inv {a : Addr} {v' : Value} (h : VRel ρ (.pointer (some a)) v') : ∃ a', v' = .pointer (some a') ∧ ARel ρ a a' := by
  cases h with
  | ptr h => exact ⟨_, rfl, h⟩
theorem VRel.int_inv {k : IntKind} {n : Int} {v' : Value} (h : VRel ρ (.int k n) v') : v' = .int k n := by cases h; rfl
theorem VRel.bool_inv {b : Bool} {v' : Value} (h : VRel ρ (.bool b) v') : v' = .bool b := by cases h; rfl
theorem VRel.string_inv {b : ByteArray} {v' : Value} (h : VRel ρ (.string b) v') : v' = .string b := by cases h; rfl
theorem VRel.iface_inv {t : TypeId} {v v' : Value} (h : VRel ρ (.iface t v) v') : ∃ u, v' = .iface t u ∧ VRel ρ v u := by
  cases h with
  | iface _ h => exact ⟨_, rfl, h⟩
theorem VRel.nilIface_inv {v' : Value} (h : VRel ρ .nilIface v') : v' = .nilIface := by cases h; rfl
theorem VRel.slice_inv {a : Addr} {n c : Nat} {v' : Value} (h : VRel ρ (.slice (some a) n c) v') : ∃ a' c', v' = .slice (some a') n c' ∧ (ARel ρ a a' ∨ n = 0 ∧ c = 0 ∧ c' = 0) ∧ CapRel ρ a n c c' := by
  cases h with
  | slice h hc => exact ⟨_, _, rfl, .inl h, hc⟩
  | void => exact ⟨_, _, rfl, .inr ⟨rfl, rfl, rfl⟩, .inl ⟨rfl, by unfold UNK; omega⟩⟩
theorem VRel.nilSlice_inv {n c : Nat} {v' : Value} (h : VRel ρ (.slice none n c) v') : v' = .slice none 0 0 ∧ n = 0 ∧ c = 0 := by cases h; exact ⟨rfl, rfl, rfl⟩
theorem VRel.map_inv {r : Nat} {v' : Value} (h : VRel ρ (.map (some r)) v') : ∃ i, v' = .map (some i.blk) ∧ ρ r = some i := by
  cases h with
  | map h => exact ⟨_, rfl, h⟩
theorem VRel.nilMap_inv {v' : Value} (h : VRel ρ (.map none) v') : v' = .map none := by cases h; rfl
theorem VRel.func_inv {f : FuncId} {a b : Array Value} {v' : Value} (h : VRel ρ (.func (.func f) a b) v') : ∃ a' b', v' = .func (.func f) a' b' ∧ VsRel ρ a a' ∧ VsRel ρ b b' := by
  cases h with
  | func _ _ hf hfv hc hcv => exact ⟨_, _, rfl, ⟨hf, hfv⟩, ⟨hc, hcv⟩⟩
theorem VRel.tuple_inv {cs : Array Value} {v' : Value} (h : VRel ρ (.tuple cs) v') (hu : cs.size ≠ 1) : ∃ cs', v' = .tuple cs' ∧ VsRel ρ cs cs' := by
  generalize hx : Value.tuple cs = x at h
  cases h with
  | unk => cases hx; simp at hu
  | over => cases hx; simp at hu
  | tuple _ hc hcv => cases hx; exact ⟨_, rfl, hc, hcv⟩
  | _ => cases hx
theorem okPart_cells {v v' : Value} (h : VRel ρ v v') (hk : okPart v = true) : VsRel ρ v.cells v'.cells := by
  cases h with
  | unk _ hu => cases v' <;> first | (simp [oneCell] at hu; done) | exact ⟨rfl, fun i hi => by simp [Value.cells, Cs.unk] at hi ⊢; subst hi; exact .unk _ hu⟩
  | agg hc hcv => exact ⟨hc, hcv⟩
  | tuple h1 => exact (h1 (isUnk_size hk)).elim
  | over => cases hk
  | bool b => exact ⟨rfl, fun i hi => by simp [Value.cells] at hi ⊢; subst hi; exact .bool b⟩
  | int k n => exact ⟨rfl, fun i hi => by simp [Value.cells] at hi ⊢; subst hi; exact .int k n⟩
  | string s => exact ⟨rfl, fun i hi => by simp [Value.cells] at hi ⊢; subst hi; exact .string s⟩
  | nilPtr => exact ⟨rfl, fun i hi => by simp [Value.cells] at hi ⊢; subst hi; exact .nilPtr⟩
  | ptr h => exact ⟨rfl, fun i hi => by simp [Value.cells] at hi ⊢; subst hi; exact .ptr h⟩
  | nilSlice => exact ⟨rfl, fun i hi => by simp [Value.cells] at hi ⊢; subst hi; exact .nilSlice⟩
  | slice h hc => exact ⟨rfl, fun i hi => by simp [Value.cells] at hi ⊢; subst hi; exact .slice h hc⟩
  | void => exact ⟨rfl, fun i hi => by simp [Value.cells] at hi ⊢; subst hi; exact .void⟩
  | nilMap => exact ⟨rfl, fun i hi => by simp [Value.cells] at hi ⊢; subst hi; exact .nilMap⟩
  | map h => exact ⟨rfl, fun i hi => by simp [Value.cells] at hi ⊢; subst hi; exact .map h⟩
  | func fn h1 h2 h3 h4 h5 => exact ⟨rfl, fun i hi => by simp [Value.cells] at hi ⊢; subst hi; exact .func fn h1 h2 h3 h4 h5⟩
  | yield h => exact ⟨rfl, fun i hi => by simp [Value.cells] at hi ⊢; subst hi; exact .yield h⟩
  | nilFunc => exact ⟨rfl, fun i hi => by simp [Value.cells] at hi ⊢; subst hi; exact .nilFunc⟩
  | nilIface => exact ⟨rfl, fun i hi => by simp [Value.cells] at hi ⊢; subst hi; exact .nilIface⟩
  | iface t h => exact ⟨rfl, fun i hi => by simp [Value.cells] at hi ⊢; subst hi; exact .iface t h⟩
theorem ARel.add {a a' : Addr} (h : ARel ρ a a') (n : Nat) : ARel ρ (a.add n) (a'.add n) := by
  obtain ⟨i, hi, hs, rfl⟩ := h
  unfold Addr.add
  by_cases e : n = 0
  · simp only [e, if_true]; exact ⟨i, hi, hs, rfl⟩
  · simp only [e, if_false]
    exact ⟨i, hi, rfl, by simp; omega⟩
theorem nilCmp_sound {d : TypeDesc} {t : TypeId} {x y x' y' : Value} {b : Bool} (hd : P.underlying t = some d) (h : nilCmp d x y = some b) (hx : VRel ρ x x') (hy : VRel ρ y y') (w : World) :
    (Op.equal t x' y').run P w = .ok b w := by
  unfold nilCmp at h
  split at h <;> (try cases h) <;> (split at h <;> cases h) <;> cases hx <;> cases hy <;>
    (show (Op.equalIn (9999 + 1) t _ _).run P w = _) <;> rw [Op.equalIn] <;> simp only [Sem.run_bind, run_underlying' hd, Result.andThen_ok] <;> rfl
theorem eqGuard_nil {d : TypeDesc} {op : BinOp} {t : TypeId} {ox oy : Operand} {x y x' y' : Value} {b : Bool} (h : nilCmp d x y = some b) (hx : VRel ρ x x') (hy : VRel ρ y y') (w : World) :
    (eqGuard op t ox oy x' y').run P w = .ok () w := by
  unfold nilCmp at h
  split at h <;> (try cases h) <;> (split at h <;> cases h) <;> cases hx <;> cases hy <;> cases op <;> rfl
theorem binOp_nil {d : TypeDesc} {op : BinOp} {t : TypeId} {x y x' y' : Value} {b : Bool} (h : nilCmp d x y = some b) (hx : VRel ρ x x') (hy : VRel ρ y y') :
    (op = .eql → Go.binOp op t x' y' = (do pure (.bool (← Op.equal t x' y')))) ∧ (op = .neq → Go.binOp op t x' y' = (do pure (.bool (!(← Op.equal t x' y'))))) := by
  unfold nilCmp at h
  split at h <;> (try cases h) <;> (split at h <;> cases h) <;> cases hx <;> cases hy <;> exact ⟨fun e => by subst e; rfl, fun e => by subst e; rfl⟩
theorem eqGuard_int {op : BinOp} {t : TypeId} {ox oy : Operand} {k k' : IntKind} {a b : Int} (w : World) : (eqGuard op t ox oy (.int k a) (.int k' b)).run P w = .ok () w := by
  cases op <;> rfl
theorem pure6_sound {s : Sem Value} {v : Value} (h : pure6 P s = some v) (w : World) : s.run P w = .ok v w ∧ VRel ρ v v := by
  unfold pure6 at h
  split at h
  · rename_i u hu
    split at h
    · cases h
      exact ⟨run_of_pureRun hu w, VRel.of_plain 6 (by assumption)⟩
    · cases h
  · cases h
theorem cbin_sound {op : BinOp} {t : TypeId} {ox oy : Operand} {x y x' y' v : Value} (h : cbin P op t ox oy x y = some v) (hx : VRel ρ x x') (hy : VRel ρ y y') (w : World) :
    ∃ v', (do eqGuard op t ox oy x' y'; Go.binOp op t x' y' : Sem Value).run P w = .ok v' w ∧ VRel ρ v v' := by
  unfold cbin at h
  split at h
  · rename_i k a k' b
    cases hx; cases hy
    simp only [Sem.run_bind, eqGuard_int, Result.andThen_ok]
    have hpl : ∀ u, pure6 P (Go.binOp op t (.int k a) (.int k' b)) = some u → ∃ v', (Go.binOp op t (.int k a) (.int k' b)).run P w = .ok v' w ∧ VRel ρ u v' :=
      fun u hu => ⟨u, pure6_sound hu w⟩
    split at h
    · rename_i hk
      subst hk
      split at h <;> first
        | exact hpl _ h
        | (cases h; exact ⟨_, by simp only [Go.binOp, ne_eq, not_true_eq_false, if_false, Op.intArith, Op.intCmp]; rfl, VRel.of_plain 1 rfl⟩)
    · exact hpl _ h
  · rename_i hni
    split at h
    · rename_i hp
      rw [VRel.eq_of_plain 6 hp.1 hx, VRel.eq_of_plain 6 hp.2 hy]
      exact ⟨v, pure6_sound h w⟩
    · split at h
      · cases h
      · rename_i d hd
        split at h <;> (try cases h) <;> rename_i b hb
        · refine ⟨.bool b, ?_, .bool b⟩
          simp only [Sem.run_bind, eqGuard_nil hb hx hy, Result.andThen_ok, (binOp_nil hb hx hy).1 rfl, nilCmp_sound hd hb hx hy]
          rfl
        · refine ⟨.bool !b, ?_, .bool _⟩
          simp only [Sem.run_bind, eqGuard_nil hb hx hy, Result.andThen_ok, (binOp_nil hb hx hy).2 rfl, nilCmp_sound hd hb hx hy]
          rfl
end
end Go.Cs
namespace Go.Cs
section
variable {P : Program} {ρ : Ren}
theorem foldl_set_rel : ∀ (l l' : List Value) (k off : Nat) (cs cs' : Array Value), VsRel ρ l.toArray l'.toArray → VsRel ρ cs cs' →
    VsRel ρ ((l.zipIdx k).foldl (fun cs x => cs.setIfInBounds (off + x.2) x.1) cs) ((l'.zipIdx k).foldl (fun cs x => cs.setIfInBounds (off + x.2) x.1) cs') := by
  intro l
  induction l with
  | nil => intro l' k off cs cs' hl hc; have : l' = [] := by have := hl.1; simp at this; exact List.eq_nil_of_length_eq_zero this.symm
           subst this; simpa using hc
  | cons v l ih =>
    intro l' k off cs cs' hl hc
    cases l' with
    | nil => have := hl.1; simp at this
    | cons v' l' =>
      simp only [List.zipIdx_cons, List.foldl_cons]
      refine ih l' (k + 1) off _ _ ⟨by have := hl.1; simpa using this, fun i hi => ?_⟩ (hc.set _ ?_)
      · have := hl.2 (i + 1) (by simpa using hi)
        simpa [Array.getD_eq_getD_getElem?] using this
      · have := hl.2 0 (by simp)
        simpa [Array.getD_eq_getD_getElem?] using this
theorem fill_rel (place : Nat → Option (Nat × Nat)) : ∀ (l : List (Nat × Operand)) (ev ev' : Operand → Value) (cells cells' r : Array Value), (∀ x ∈ l, VRel ρ (ev x.2) (ev' x.2)) →
    (l.all fun x => okPart (ev x.2)) = true → VsRel ρ cells cells' → Instr.fill place cells (l.map fun x => (x.1, ev x.2)) = some r →
    ∃ r', Instr.fill place cells' (l.map fun x => (x.1, ev' x.2)) = some r' ∧ VsRel ρ r r' := by
  intro l
  induction l with
  | nil => intro ev ev' cells cells' r _ _ hc h; simp only [List.map_nil, Instr.fill, Option.some.injEq] at h ⊢; subst h; exact ⟨_, rfl, hc⟩
  | cons x l ih =>
    intro ev ev' cells cells' r hl hok hc h
    simp only [List.all_cons, Bool.and_eq_true] at hok
    have hx := okPart_cells (hl x (by simp)) hok.1
    simp only [List.map_cons, Instr.fill] at h ⊢
    split at h
    · cases h
    · rename_i off size hp
      split at h
      · cases h
      · rename_i hn
        rw [if_neg (by rw [← hx.1, ← hc.1]; exact hn)]
        refine ih ev ev' _ _ r (fun y hy => hl y (by simp [hy])) hok.2 ?_ h
        have e1 : ∀ (c : Array Value) (d : Array Value), (Array.zipIdx c).foldl (fun cs x => cs.setIfInBounds (off + x.2) x.1) d = (c.toList.zipIdx 0).foldl (fun cs x => cs.setIfInBounds (off + x.2) x.1) d := by
          intro c d
          rw [← Array.foldl_toList]; simp
        have := foldl_set_rel (ρ := ρ) (ev x.2).cells.toList (ev' x.2).cells.toList 0 off cells cells' (by simpa using hx) hc
        rw [← e1, ← e1] at this
        exact this
theorem pureRun_bind {α β : Type} (x : Sem α) (f : α → Sem β) : pureRun P (x >>= f) = (pureRun P x).bind fun a => pureRun P (f a) := by
  show pureRun P (Sem.bind x f) = _
  induction x with
  | pure a => rfl
  | program k ih => simp only [Sem.bind, pureRun]; exact ih _
  | mark m k ih => simp only [Sem.bind, pureRun]; exact ih
  | _ => rfl
theorem pureRun_pure {α : Type} (a : α) : pureRun P (pure a : Sem α) = some a := rfl
theorem VsRel.map {α : Type} (l : Array α) (f g : α → Value) (h : ∀ x ∈ l, VRel ρ (f x) (g x)) : VsRel ρ (l.map f) (l.map g) := by
  refine ⟨by simp, fun i hi => ?_⟩
  simp only [Array.size_map] at hi
  have := h l[i] (by simp)
  simpa [Array.getD, hi] using this
theorem build_sound {t : TypeId} {parts : Array (Nat × Operand)} {ev ev' : Operand → Value} {v : Value} (h : pureRun P (Instr.build t (parts.map fun x => (x.1, ev x.2))) = some v)
    (hz : ∀ z, pureRun P (zeroValue t) = some z → VsRel ρ z.cells z.cells)
    (hok : (parts.toList.all fun x => okPart (ev x.2)) = true) (hev : ∀ x ∈ parts, VRel ρ (ev x.2) (ev' x.2)) (w : World) :
    ∃ v', (Instr.build t (parts.map fun x => (x.1, ev' x.2))).run P w = .ok v' w ∧ VRel ρ v v' := by
  have key : ∃ v', pureRun P (Instr.build t (parts.map fun x => (x.1, ev' x.2))) = some v' ∧ VRel ρ v v' := by
    unfold Instr.build at h ⊢
    rw [pureRun_bind] at h ⊢
    cases hz0 : pureRun P (zeroValue t) with
    | none => rw [hz0] at h; cases h
    | some z =>
      rw [hz0] at h
      simp only [Option.bind_some] at h ⊢
      rw [pureRun_bind] at h ⊢
      cases hu : pureRun P (underlying t) with
      | none => rw [hu] at h; cases h
      | some d =>
        rw [hu] at h
        simp only [Option.bind_some] at h ⊢
        have hfin : ∀ (place : Nat → Option (Nat × Nat)) (r : Array Value), Instr.fill place z.cells (parts.map fun x => (x.1, ev x.2)).toList = some r →
            ∃ r', Instr.fill place z.cells (parts.map fun x => (x.1, ev' x.2)).toList = some r' ∧ VsRel ρ r r' := by
          intro place r hr
          simp only [Array.toList_map] at hr ⊢
          exact fill_rel place parts.toList ev ev' _ _ r (fun x hx => hev x (by simpa using hx)) hok (hz z hz0) hr
        cases d with
        | struct fields =>
          simp only [pureRun_bind] at h ⊢
          cases hm : pureRun P (Array.mapM (fun f => do pure (f.offset, ← sizeOf f.type)) fields) with
          | none => rw [hm] at h; cases h
          | some places =>
            rw [hm] at h
            simp only [Option.bind_some] at h ⊢
            cases hf : Instr.fill (fun x => places[x]?) z.cells (parts.map fun x => (x.1, ev x.2)).toList with
            | none => rw [hf] at h; simp [pureRun, stuck] at h
            | some r =>
              rw [hf] at h
              obtain ⟨r', hr', hrel⟩ := hfin _ _ hf
              rw [hr']
              simp only [pureRun_pure, Option.some.injEq] at h
              subst h
              exact ⟨_, rfl, .agg hrel.1 hrel.2⟩
        | array n elem =>
          simp only [pureRun_bind] at h ⊢
          cases hm : pureRun P (sizeOf elem) with
          | none => rw [hm] at h; cases h
          | some size =>
            rw [hm] at h
            simp only [Option.bind_some] at h ⊢
            cases hf : Instr.fill (fun i => some (i * size, size)) z.cells (parts.map fun x => (x.1, ev x.2)).toList with
            | none => rw [hf] at h; simp [pureRun, stuck] at h
            | some r =>
              rw [hf] at h
              obtain ⟨r', hr', hrel⟩ := hfin _ _ hf
              rw [hr']
              simp only [pureRun_pure, Option.some.injEq] at h
              subst h
              exact ⟨_, rfl, .agg hrel.1 hrel.2⟩
        | _ => simp [pureRun, stuck] at h
  obtain ⟨v', hv', hr⟩ := key
  exact ⟨v', run_of_pureRun hv' w, hr⟩
end
end Go.Cs
namespace Go.Cs
section
variable {P : Program} {ρ : Ren}
theorem run_sliceBound {k : IntKind} {i : Int} {y : Nat} {code : BoundsCode} (h : 0 ≤ i ∧ i ≤ y) (w : World) : (Instr.sliceBound (.int k i) y code).run P w = .ok i.toNat w := by
  simp only [Instr.sliceBound, asIntOf, Sem.run_bind, Sem.run_pure, Result.andThen_ok, h, and_self, if_true]
theorem cbound_sound {v : Option Value} {d most m most' : Nat} {v' : Option Value} (h : cbound v d most = some m) (hv : ∀ x, v = some x → ∃ x', v' = some x' ∧ VRel ρ x x') (hn : v = none → v' = none) (hm : most ≤ most') :
    (v = none ∧ v' = none ∧ m = d) ∨ (∃ x', v' = some x' ∧ m ≤ most ∧ ∀ code w, (Instr.sliceBound x' most' code).run P w = .ok m w) := by
  unfold cbound at h
  split at h
  · cases h; exact .inl ⟨rfl, hn rfl, rfl⟩
  · rename_i k i
    obtain ⟨x', rfl, hx⟩ := hv _ rfl
    cases hx
    split at h
    · rename_i hi
      cases h
      exact .inr ⟨_, rfl, by omega, fun code w => run_sliceBound ⟨hi.1, by omega⟩ w⟩
    · cases h
  · cases h
theorem addr_add_zero (a : Addr) : a.add 0 = a := by simp [Addr.add]
theorem VRel.anySlice_inv {a : Option Addr} {n c : Nat} {x' : Value} (h : VRel ρ (.slice a n c) x') : ∃ a' c', x' = .slice a' n c' ∧ (c ≠ UNK → c' = c) := by
  cases a with
  | none => obtain ⟨rfl, rfl, rfl⟩ := h.nilSlice_inv; exact ⟨_, _, rfl, fun _ => rfl⟩
  | some a =>
    obtain ⟨a', c', e, _, hc⟩ := h.slice_inv
    refine ⟨_, _, e, fun hne => ?_⟩
    rcases hc with ⟨h1, _⟩ | ⟨h1, _⟩
    · exact h1.symm
    · exact (hne h1).elim
theorem run_lenOf {ts : Array TypeId} {ty : TypeId} {args args' : Array Value} {b : Builtin} {v : Value} (h : cbuiltin P b ts ty args = some v) (ha : VsRel ρ args args') (consts : Array Bool) (w : World) :
    ∃ v', (Go.builtin b ts ty consts args').run P w = .ok (.value v') w ∧ VRel ρ v v' := by
  have hplain : args.toList.all (plain 1) = true → args' = args := by
    intro hp
    simp only [List.all_eq_true] at hp
    apply Array.ext ha.1.symm
    intro i h1 h2
    have h0 := ha.2 i h2
    simp only [Array.getD, h1, h2, dif_pos] at h0
    exact VRel.eq_of_plain 1 (hp _ (by simp)) h0
  have h0 : ∀ x, (args[0]? : Option Value) = some x → ∃ x', (args'[0]? : Option Value) = some x' ∧ VRel ρ x x' := fun x hx => ha.getElem? hx
  unfold cbuiltin at h
  split at h
  · split at h
    · rename_i hu hx
      obtain ⟨t, ht, hu⟩ := Option.bind_eq_some_iff.1 hu
      obtain ⟨x', hx', hr⟩ := h0 _ hx
      cases h
      refine ⟨_, ?_, .int _ _⟩
      obtain ⟨a', c', rfl, _⟩ := hr.anySlice_inv
      simp only [Go.builtin, Builtin.len_, ht, hx', Sem.run_bind, run_underlying' hu, Result.andThen_ok, Sem.run_pure]; rfl
    · rename_i hu hx
      obtain ⟨t, ht, hu⟩ := Option.bind_eq_some_iff.1 hu
      obtain ⟨x', hx', hr⟩ := h0 _ hx
      cases h
      obtain rfl := hr.string_inv
      refine ⟨_, ?_, .int _ _⟩
      simp only [Go.builtin, Builtin.len_, ht, hx', Sem.run_bind, run_underlying' hu, Result.andThen_ok, Sem.run_pure]; rfl
    · rename_i hu hx
      obtain ⟨t, ht, hu⟩ := Option.bind_eq_some_iff.1 hu
      obtain ⟨x', hx', hr⟩ := h0 _ hx
      cases h
      refine ⟨_, ?_, .int _ _⟩
      simp only [Go.builtin, Builtin.len_, ht, hx', Sem.run_bind, run_underlying' hu, Result.andThen_ok, Sem.run_pure]; rfl
    · rename_i hu hx
      obtain ⟨t, ht, hu⟩ := Option.bind_eq_some_iff.1 hu
      obtain ⟨x', hx', hr⟩ := h0 _ hx
      cases h
      obtain rfl := hr.nilMap_inv
      refine ⟨_, ?_, .int _ _⟩
      simp only [Go.builtin, Builtin.len_, ht, hx', Sem.run_bind, run_underlying' hu, Result.andThen_ok, Sem.run_pure]; rfl
    · cases h
  · split at h
    · rename_i hu hx
      obtain ⟨t, ht, hu⟩ := Option.bind_eq_some_iff.1 hu
      obtain ⟨x', hx', hr⟩ := h0 _ hx
      split at h
      · cases h
      · rename_i hc
        cases h
        refine ⟨_, ?_, .int _ _⟩
        obtain ⟨a', c', rfl, hcc⟩ := hr.anySlice_inv
        obtain rfl := hcc hc
        simp only [Go.builtin, Builtin.cap_, ht, hx', Sem.run_bind, run_underlying' hu, Result.andThen_ok, Sem.run_pure]; rfl
    · cases h
  · have hone : ∀ {x : Value}, args.toList = [x] → ∃ x', args' = #[x'] ∧ VRel ρ x x' := by
      intro x he
      have he : args = #[x] := by apply Array.ext'; exact he
      subst he
      have hx := ha
      have hsz : args'.size = 1 := by have := hx.1; simpa using this.symm
      refine ⟨args'.getD 0 undef, ?_, hx.2 0 (by simp)⟩
      apply Array.ext
      · simp [hsz]
      · intro i h1 h2
        have : i = 0 := by simp at h2; omega
        subst this
        simp [Array.getD, hsz]
    split at h
    · rename_i he
      cases h
      obtain ⟨x', rfl, hr⟩ := hone he
      cases hr
      exact ⟨_, rfl, .nilPtr⟩
    · rename_i he
      split at h
      · rename_i hc
        cases h
        obtain ⟨x', rfl, hr⟩ := hone he
        cases hr with
        | void => exact (hc.1 rfl).elim
        | slice har hcr =>
          rename_i a' c'
          have h0 : c' ≠ 0 := by
            rcases hcr with ⟨h1, _⟩ | ⟨h1, h2, _⟩
            · omega
            · have := hc.2 h1; omega
          refine ⟨_, ?_, .ptr har⟩
          have hr : ∀ {ts : Array TypeId} {ty : TypeId} {m : Nat}, (Builtin.unsafeSliceData_ ts ty #[.slice (some a') m c']).run P w = .ok (.pointer (some a')) w := by
            intro ts ty m
            show (if c' ≠ 0 then (pure (Value.pointer (some a')) : Sem Value) else _).run P w = _
            rw [if_pos h0]
            rfl
          simp only [Go.builtin, Sem.run_bind, hr, Sem.run_pure, Result.andThen_ok]
      · cases h
    · cases h
  · split at h
    · rename_i hp
      rw [hplain hp]
      obtain ⟨h1, h2⟩ := pure6_sound (ρ := ρ) h w
      exact ⟨v, by simp only [Go.builtin, Sem.run_bind, h1, Result.andThen_ok, Sem.run_pure], h2⟩
    · cases h
  · split at h
    · rename_i hp
      rw [hplain hp]
      obtain ⟨h1, h2⟩ := pure6_sound (ρ := ρ) h w
      exact ⟨v, by simp only [Go.builtin, Sem.run_bind, h1, Result.andThen_ok, Sem.run_pure], h2⟩
    · cases h
  · cases h
theorem cidxAddr_sound {t : TypeId} {x ix x' ix' v : Value} (h : cidxAddr P t x ix = some v) (hx : VRel ρ x x') (hi : VRel ρ ix ix') (w : World) :
    ∃ v', (Instr.indexAt t x' ix').run P w = .ok v' w ∧ VRel ρ v v' := by
  unfold cidxAddr at h
  split at h
  · rename_i k i
    cases hi
    split at h
    · rename_i e a n c hu
      obtain ⟨a', c', rfl, har, _⟩ := hx.slice_inv
      split at h
      · rename_i ie hie
        split at h
        · rename_i hb
          cases h
          have har := har.resolve_right fun hz => by omega
          refine ⟨_, ?_, .ptr (har.add _)⟩
          simp only [Instr.indexAt, asIntOf, Sem.run_bind, Sem.run_pure, Result.andThen_ok, run_underlying' hu, hb, and_self, if_true, run_sizeOf' hie]
        · cases h
      · cases h
    · rename_i n e a hu
      obtain ⟨a', rfl, har⟩ := hx.ptr_inv
      split at h
      · rename_i ie hie
        split at h
        · rename_i hb
          cases h
          refine ⟨_, ?_, .ptr (har.add _)⟩
          simp only [Instr.indexAt, Instr.sureAddr, asIntOf, Sem.run_bind, Sem.run_pure, Result.andThen_ok, run_underlying' hu, hb, and_self, if_true, run_sizeOf' hie]
        · cases h
      · cases h
    · cases h
  · cases h
theorem cslice_sound {t : TypeId} {x x' v : Value} {lo hi mx : Option Operand} {ev ev' : Operand → Value} (h : cslice P t x (lo.map ev) (hi.map ev) (mx.map ev) = some v) (hx : VRel ρ x x')
    (hlo : ∀ o, lo = some o → VRel ρ (ev o) (ev' o)) (hhi : ∀ o, hi = some o → VRel ρ (ev o) (ev' o)) (hmx : ∀ o, mx = some o → VRel ρ (ev o) (ev' o)) (w : World) :
    ∃ v', (Instr.sliceAt t x' (lo.map ev') (hi.map ev') (mx.map ev')).run P w = .ok v' w ∧ VRel ρ v v' := by
  have hb : ∀ {o : Option Operand} {d most most' m : Nat}, (∀ u, o = some u → VRel ρ (ev u) (ev' u)) → cbound (o.map ev) d most = some m → most ≤ most' →
      (o = none ∧ m = d) ∨ (∃ u, o = some u ∧ m ≤ most ∧ ∀ code w, (Instr.sliceBound (ev' u) most' code).run P w = .ok m w) := by
    intro o d most most' m ho hc hm
    cases o with
    | none => simp only [Option.map_none, cbound, Option.some.injEq] at hc; exact .inl ⟨rfl, hc.symm⟩
    | some u =>
      have := cbound_sound (P := P) (v' := some (ev' u)) hc (fun x hx => by simp only [Option.map_some, Option.some.injEq] at hx; subst hx; exact ⟨_, rfl, ho u rfl⟩) (by simp) hm
      rcases this with ⟨h1, _⟩ | ⟨x', h1, h2, h3⟩
      · simp at h1
      · cases h1; exact .inr ⟨u, rfl, h2, h3⟩
  unfold cslice at h
  split at h
  · rename_i s hu
    cases mx with
    | some m => simp at h
    | none =>
      obtain rfl := hx.string_inv
      simp only [Option.map_none] at h
      split at h
      · cases h
      · rename_i hh hch
        split at h
        · cases h
        · rename_i l hcl
          cases h
          refine ⟨_, ?_, .string _⟩
          simp only [Instr.sliceAt, Sem.run_bind, run_underlying' hu, Result.andThen_ok, Instr.slice, Option.map_none, Option.isSome_none, Bool.false_eq_true, if_false]
          rcases hb hhi hch (Nat.le_refl _) with ⟨rfl, rfl⟩ | ⟨u, rfl, _, hr⟩ <;> rcases hb hlo hcl (Nat.le_refl _) with ⟨rfl, rfl⟩ | ⟨u2, rfl, _, hr2⟩ <;>
            simp only [Instr.sliceBounds, Option.map_none, Option.map_some, Option.isSome_none, Bool.false_eq_true, if_false, Sem.run_bind, Sem.run_pure, Result.andThen_ok, *]
  · -- a nil slice
    rename_i e n c hu
    obtain ⟨rfl, rfl, rfl⟩ := hx.nilSlice_inv
    split at h
    · rename_i ie mm hh l hie hcm hch hcl
      split at h
      · rename_i hcond
        cases h
        refine ⟨_, ?_, .nilSlice⟩
        simp only [Instr.sliceAt, Sem.run_bind, run_underlying' hu, Result.andThen_ok, Instr.slice]
        have ms : (mx.isSome && hi.isNone) = false := by simpa using hcond.2.2
        rcases hb hmx hcm (Nat.le_refl _) with ⟨rfl, rfl⟩ | ⟨u, rfl, hm0, hr⟩ <;> rcases hb hhi hch (Nat.le_refl _) with ⟨rfl, rfl⟩ | ⟨u1, rfl, hh0, hr1⟩ <;> rcases hb hlo hcl (Nat.le_refl _) with ⟨rfl, rfl⟩ | ⟨u2, rfl, hl0, hr2⟩ <;>
          (try (simp at ms; done)) <;> (try obtain rfl := Nat.le_zero.1 hm0) <;> (try obtain rfl := Nat.le_zero.1 hh0) <;> (try obtain rfl := Nat.le_zero.1 hl0) <;>
          simp only [Instr.sliceBounds, Option.map_none, Option.map_some, Option.isSome_none, Option.isSome_some, Bool.false_eq_true, if_false, if_true, Sem.run_bind, Sem.run_pure, Result.andThen_ok, run_sizeOf' hie, Nat.sub_self, *]
      · cases h
    · cases h
  · -- a slice
    rename_i e a n c hu
    obtain ⟨a', c', rfl, har, hcr⟩ := hx.slice_inv
    split at h
    · cases h
    · rename_i ie hie
      have hle : (if c = UNK then n else c) ≤ c' := by
        rcases hcr with ⟨h1, h2⟩ | ⟨h1, h2, _⟩
        · subst h1; rw [if_neg (by omega)]; exact Nat.le_refl _
        · rw [if_pos h1]; exact h2
      have hex : c ≠ UNK → c' = c := by
        intro hne; rcases hcr with ⟨h1, _⟩ | ⟨h1, _⟩
        · exact h1.symm
        · exact (hne h1).elim
      have hsl : ∀ l hh m, m < UNK → (n = 0 → c' = 0 → hh = 0 ∧ m = 0) → VRel ρ (.slice (some (if m = l then a else a.add (l * ie.size))) (hh - l) (m - l)) (.slice (if m = l then some a' else (some a').map (·.add (l * ie.size))) (hh - l) (m - l)) := by
        intro l hh m hm hz0
        rcases har with har | ⟨hz1, _, hz⟩
        rotate_left
        · obtain ⟨hz2, hz3⟩ := hz0 hz1 hz
          have e1 : hh - l = 0 := by omega
          have e2 : m - l = 0 := by omega
          rw [e1, e2]
          by_cases e : m = l
          · simp only [if_pos e]; exact .void
          · simp only [if_neg e, Option.map_some]; exact .void
        by_cases e : m = l
        · simp only [if_pos e]; exact .slice har (.inl ⟨rfl, by omega⟩)
        · simp only [if_neg e, Option.map_some]; exact .slice (har.add _) (.inl ⟨rfl, by omega⟩)
      cases mx with
      | some ox =>
        simp only [Option.map_some, Option.isSome_some, Bool.true_and, Option.isNone_some, Bool.false_and, Bool.false_eq_true, if_false] at h
        split at h
        · cases h
        · rename_i m hcm
          cases hi with
          | none => simp at h
          | some oh =>
            simp only [Option.map_some, Option.isNone_some, Bool.false_eq_true, if_false] at h
            split at h
            · cases h
            · rename_i hh hch
              split at h
              · cases h
              · rename_i l hcl
                split at h
                · rename_i hmu
                  cases h
                  refine ⟨_, ?_, hsl l hh m hmu fun _ hz => ?_⟩
                  rotate_left
                  · rcases hb (o := some ox) hmx hcm hle with ⟨h1, _⟩ | ⟨u, hu1, hm0, hr⟩
                    · cases h1
                    rcases hb (o := some oh) hhi hch (Nat.le_refl _) with ⟨h1, _⟩ | ⟨u1, hu2, hh0, hr1⟩
                    · cases h1
                    omega
                  rcases hb (o := some ox) hmx hcm hle with ⟨h1, _⟩ | ⟨u, hu1, hm0, hr⟩
                  · cases h1
                  cases hu1
                  rcases hb (o := some oh) hhi hch (Nat.le_refl _) with ⟨h1, _⟩ | ⟨u1, hu2, hh0, hr1⟩
                  · cases h1
                  cases hu2
                  simp only [Instr.sliceAt, Sem.run_bind, run_underlying' hu, Result.andThen_ok, Instr.slice, Instr.sliceBounds, Option.map_some, Option.isSome_some, if_true, hr, hr1]
                  rcases hb hlo hcl (Nat.le_refl _) with ⟨rfl, rfl⟩ | ⟨u2, rfl, hl0, hr2⟩
                  · simp only [Option.map_none, Sem.run_bind, Sem.run_pure, Result.andThen_ok, run_sizeOf' hie]
                  · simp only [Option.map_some, hr2, Sem.run_bind, Sem.run_pure, Result.andThen_ok, run_sizeOf' hie]
                · cases h
      | none =>
        simp only [Option.map_none, cbound, Option.isSome_none, Bool.false_and, Bool.false_eq_true, if_false, Option.isNone_none, Bool.true_and, beq_iff_eq] at h
        split at h
        · cases h
        · rename_i hh hch
          split at h
          · cases h
          · rename_i l hcl
            have hle2 : (if c = UNK then n else c) ≤ c' := hle
            have hrun : ∀ w, (Instr.sliceAt t (.slice (some a') n c') (lo.map ev') (hi.map ev') none).run P w = .ok (.slice (if c' = l then some a' else (some a').map (·.add (l * ie.size))) (hh - l) (c' - l)) w := by
              intro w
              simp only [Instr.sliceAt, Sem.run_bind, run_underlying' hu, Result.andThen_ok, Instr.slice, Instr.sliceBounds, Sem.run_pure, if_true]
              rcases hb hhi hch hle2 with ⟨rfl, rfl⟩ | ⟨u1, rfl, hh0, hr1⟩ <;> rcases hb hlo hcl (Nat.le_refl _) with ⟨rfl, rfl⟩ | ⟨u2, rfl, hl0, hr2⟩ <;>
                simp only [Option.map_none, Option.map_some, Option.isSome_none, Bool.false_eq_true, if_false, Sem.run_bind, Sem.run_pure, Result.andThen_ok, run_sizeOf' hie, *]
            split at h
            · rename_i hcu
              split at h
              · rename_i hl0
                cases h
                subst hl0
                refine ⟨_, hrun w, ?_⟩
                have e1 : (if c' = 0 then some a' else (some a').map (·.add (0 * ie.size))) = some a' := by
                  split
                  · rfl
                  · simp [addr_add_zero]
                rw [e1]
                simp only [Nat.sub_zero]
                rcases hcr with ⟨h1, h2⟩ | ⟨h1, h2, h3, h4⟩
                · omega
                · have har := har.resolve_right fun hz => by rw [hcu] at hz; unfold UNK at hz; omega
                  refine .slice har (.inr ⟨h1, ?_, h3, h4⟩)
                  rw [if_pos hcu] at hch
                  rcases hb hhi hch h2 with ⟨_, rfl⟩ | ⟨_, _, h5, _⟩ <;> omega
              · cases h
            · rename_i hcu
              split at h
              · rename_i hmu
                cases h
                obtain rfl := hex hcu
                refine ⟨_, hrun w, hsl l hh c' hmu fun hz1 hz => ?_⟩
                rcases hb hhi hch hle2 with ⟨_, rfl⟩ | ⟨_, _, h5, _⟩ <;> omega
              · cases h
  · -- an array behind a pointer
    rename_i n e a hu
    obtain ⟨a', rfl, har⟩ := hx.ptr_inv
    split at h
    · cases h
    · rename_i ie hie
      split at h
      · cases h
      · rename_i m hcm
        split at h
        · cases h
        · rename_i hh hch0
          split at h
          · cases h
          · rename_i l hcl
            split at h
            · rename_i hmu
              cases h
              refine ⟨_, ?_, .slice (a' := if m = l then a' else a'.add (l * ie.size)) ?_ (.inl ⟨rfl, by omega⟩)⟩
              · have ms : ((mx.map ev).isSome && (hi.map ev).isNone) = false := by
                  cases hq : ((mx.map ev).isSome && (hi.map ev).isNone) with
                  | true => rw [hq] at hch0; simp at hch0
                  | false => rfl
                have hch : cbound (hi.map ev) n m = some hh := by rw [ms] at hch0; simpa using hch0
                simp only [Instr.sliceAt, Sem.run_bind, run_underlying' hu, Result.andThen_ok, Instr.sureAddr, Sem.run_pure]
                rcases hb hmx hcm (Nat.le_refl _) with ⟨rfl, rfl⟩ | ⟨u, rfl, hm0, hr⟩ <;> rcases hb hhi hch (Nat.le_refl _) with ⟨rfl, rfl⟩ | ⟨u1, rfl, hh0, hr1⟩ <;> rcases hb hlo hcl (Nat.le_refl _) with ⟨rfl, rfl⟩ | ⟨u2, rfl, hl0, hr2⟩ <;>
                  (try (simp at ms; done)) <;>
                  simp only [Instr.sliceBounds, Option.map_none, Option.map_some, Option.isSome_none, Option.isSome_some, Bool.false_eq_true, if_false, if_true, Sem.run_bind, Sem.run_pure, Result.andThen_ok, run_sizeOf' hie, *] <;>
                  (split <;> rfl)
              · split
                · exact har
                · exact har.add _
            · cases h
  · cases h
end
end Go.Cs
namespace Go.Cs
section
variable {P : Program} {ρ : Ren}
theorem cassert_sound {x x' v : Value} {xt asserted : TypeId} {ok : Bool} (h : cassert P x asserted ok = some v) (hx : VRel ρ x x') (w : World) :
    ∃ v', (Instr.typeAssert x' xt asserted ok).run P w = .ok v' w ∧ VRel ρ v v' := by
  have hholds : ∀ {u u' : Value}, VRel ρ u u' → VRel ρ (if ok then .tuple #[u, .bool true] else u) (if ok then .tuple #[u', .bool true] else u') := by
    intro u u' hu
    cases ok
    · exact hu
    · refine .tuple (by simp) rfl fun i hi => ?_
      simp at hi
      match i, hi with
      | 0, _ => exact hu
      | 1, _ => exact .bool true
  have hfails : ∀ {u : Value} (o1 o2 : Option TypeId) (ms : String), (if ok then ((P.info? asserted).bind (·.zero)).bind fun z => if plain 6 z then some (.tuple #[z, .bool false]) else none else none) = some u →
      ∃ u', (if ok then do pure (.tuple #[← zeroValue asserted, .bool false]) else runtimePanic (.typeAssertion o1 o2 asserted ms) : Sem Value).run P w = .ok u' w ∧ VRel ρ u u' := by
    intro u o1 o2 ms hu
    cases ok with
    | false => simp at hu
    | true =>
      simp only [if_true] at hu ⊢
      obtain ⟨z, hz, hu⟩ := Option.bind_eq_some_iff.1 hu
      obtain ⟨i, hi, hz⟩ := Option.bind_eq_some_iff.1 hz
      split at hu
      · rename_i hp
        cases hu
        refine ⟨_, by simp only [zeroValue, Sem.run_bind, run_typeInfo' hi, Result.andThen_ok, hz, Sem.run_pure], .tuple (by simp) rfl fun i hi => ?_⟩
        simp at hi
        match i, hi with
        | 0, _ => exact VRel.of_plain 6 hp
        | 1, _ => exact .bool false
      · cases hu
  unfold cassert at h
  simp only at h
  split at h
  · rename_i want t u hu
    obtain ⟨u', rfl, hr⟩ := hx.iface_inv
    split at h
    · rename_i i hi
      split at h
      · rename_i hm
        cases h
        refine ⟨_, ?_, hholds (.iface t hr)⟩
        simp only [Instr.typeAssert, Sem.run_bind, run_underlying' hu, Result.andThen_ok, run_typeInfo' hi, hm, Sem.run_pure]
      · rename_i m hm
        obtain ⟨u2, h1, h2⟩ := hfails none (some t) m h
        refine ⟨u2, ?_, h2⟩
        simp only [Instr.typeAssert, Sem.run_bind, run_underlying' hu, Result.andThen_ok, run_typeInfo' hi, hm]
        exact h1
    · cases h
  · rename_i want hu
    obtain rfl := hx.nilIface_inv
    obtain ⟨u2, h1, h2⟩ := hfails none none "" h
    refine ⟨u2, ?_, h2⟩
    simp only [Instr.typeAssert, Sem.run_bind, run_underlying' hu, Result.andThen_ok]
    exact h1
  · rename_i d t u hni hu
    obtain ⟨u', rfl, hr⟩ := hx.iface_inv
    split at h
    · rename_i e
      cases h
      refine ⟨_, ?_, hholds hr⟩
      simp only [Instr.typeAssert, Sem.run_bind, run_underlying' hu, Result.andThen_ok]
      split <;> simp_all
    · rename_i e
      obtain ⟨u2, h1, h2⟩ := hfails (some xt) (some t) "" h
      refine ⟨u2, ?_, h2⟩
      simp only [Instr.typeAssert, Sem.run_bind, run_underlying' hu, Result.andThen_ok]
      split <;> first | (rename_i e1; cases e1; simp only [e, if_false]; exact h1) | (simp_all; done)
  · rename_i d hni hu
    obtain rfl := hx.nilIface_inv
    obtain ⟨u2, h1, h2⟩ := hfails (some xt) none "" h
    refine ⟨u2, ?_, h2⟩
    simp only [Instr.typeAssert, Sem.run_bind, run_underlying' hu, Result.andThen_ok]
    split <;> first | exact h1 | (simp_all; done)
  · cases h
theorem cpure_sound {o : Oper} {ev ev' : Operand → Value} {v : Value} (h : cpure P ev o.type o.op = some v) (hev : ∀ x ∈ o.op.operands, VRel ρ (ev x) (ev' x)) (w : World) :
    ∃ v', (execOp ev' o).run P w = .ok (.value v') w ∧ VRel ρ v v' := by
  obtain ⟨dst, op, ty, pos, after, guard⟩ := o
  simp only at h hev
  cases op <;> simp only [cpure] at h <;> (try (cases h; done)) <;> simp only [execOp]
  case move x => cases h; exact ⟨_, rfl, hev x (by simp [Op.operands])⟩
  case assign x => cases h; exact ⟨_, rfl, hev x (by simp [Op.operands])⟩
  case pick c a b =>
    split at h
    · rename_i t ht
      cases h
      have hc := hev c (by simp [Op.operands])
      rw [ht] at hc
      rw [hc.bool_inv]
      refine ⟨_, by simp only [asBool, Sem.run_bind, Sem.run_pure, Result.andThen_ok]; rfl, ?_⟩
      cases t
      · exact hev b (by simp [Op.operands])
      · exact hev a (by simp [Op.operands])
    · cases h
  case build t parts =>
    split at h
    · rename_i hc
      have hz : ∀ z, pureRun P (zeroValue t) = some z → VsRel ρ z.cells z.cells := by
        intro z hz
        have h2 := hc.2
        unfold zeroPlain at h2
        rw [hz] at h2
        have h3 := VRel.of_plain (ρ := ρ) 6 h2
        exact okPart_cells h3 (by cases z <;> first | rfl | (simp [plain] at h2))
      obtain ⟨v', h1, h2⟩ := build_sound h hz hc.1 (fun x hx => hev x.2 (by simp only [Op.operands, List.mem_toArray, List.mem_map]; exact ⟨x, by simpa using hx, rfl⟩)) w
      refine ⟨v', ?_, h2⟩
      simp only [Sem.run_bind]
      rw [show (parts.map fun (x : Nat × Operand) => match x with | (i, x) => (i, ev' x)) = parts.map fun x => (x.1, ev' x.2) from rfl, h1]
      rfl
    · cases h
  case nilCheck x =>
    have hx := hev x (by simp [Op.operands])
    split at h
    · rename_i a ha
      cases h
      rw [ha] at hx
      obtain ⟨a', e, har⟩ := hx.ptr_inv
      rw [e]
      exact ⟨_, rfl, .ptr har⟩
    · rename_i t u hu
      cases h
      rw [hu] at hx
      obtain ⟨u', e, hr⟩ := hx.iface_inv
      rw [e]
      exact ⟨_, rfl, .iface t hr⟩
    · rename_i f a b hf
      cases h
      rw [hf] at hx
      obtain ⟨a', b', e, h1, h2⟩ := hx.func_inv
      rw [e]
      exact ⟨_, rfl, .func _ (by simp) h1.1 h1.2 h2.1 h2.2⟩
    · cases h
  case binOp op t x y yt =>
    obtain ⟨v', h1, h2⟩ := cbin_sound h (hev x (by simp [Op.operands])) (hev y (by simp [Op.operands])) w
    exact ⟨v', by rw [Sem.run_bind, h1]; rfl, h2⟩
  case unOp op t x =>
    split at h
    · rename_i hp
      rw [VRel.eq_of_plain 1 hp (hev x (by simp [Op.operands]))]
      obtain ⟨h1, h2⟩ := pure6_sound (ρ := ρ) h w
      exact ⟨v, by simp only [Sem.run_bind, h1, Result.andThen_ok, Sem.run_pure], h2⟩
    · cases h
  case convert src d x =>
    split at h
    · rename_i hp
      rw [VRel.eq_of_plain 1 hp (hev x (by simp [Op.operands]))]
      obtain ⟨h1, h2⟩ := pure6_sound (ρ := ρ) h w
      exact ⟨v, by simp only [Sem.run_bind, h1, Result.andThen_ok, Sem.run_pure], h2⟩
    · cases h
  case makeInterface t x =>
    split at h
    · cases h
    · rename_i d hne hd
      cases h
      refine ⟨_, ?_, .iface t (hev x (by simp [Op.operands]))⟩
      simp only [Instr.makeInterface, Sem.run_bind, run_underlying' hd, Result.andThen_ok]
      cases d <;> first | rfl | simp_all
    · cases h
  case makeFunc fn first captured =>
    split at h
    · cases h
    · rename_i hfn
      cases h
      refine ⟨_, rfl, ?_⟩
      have h1 := VsRel.map (ρ := ρ) first ev ev' (fun x hx => hev x (by simp [Op.operands, hx]))
      have h2 := VsRel.map (ρ := ρ) captured ev ev' (fun x hx => hev x (by simp [Op.operands, hx]))
      exact .func fn (fun l e => hfn l e) h1.1 h1.2 h2.1 h2.2
  case fieldAddr t x f =>
    have hx := hev x (by simp [Op.operands])
    split at h
    · rename_i fs a hu ha
      rw [ha] at hx
      obtain ⟨a', e, har⟩ := hx.ptr_inv
      split at h
      · rename_i fl hfl
        split at h
        · rename_i i hi
          split at h
          · cases h
          · rename_i hne
            cases h
            rw [e]
            refine ⟨_, ?_, .ptr (har.add _)⟩
            simp only [Instr.fieldAt, Sem.run_bind, run_underlying' hu, Result.andThen_ok, hfl, Instr.sureAddr, Sem.run_pure, fieldPlace, run_sizeOf' hi, hne, if_false]
        · cases h
      · cases h
    · cases h
  case field t x f =>
    have hx := hev x (by simp [Op.operands])
    split at h
    · rename_i fs cs hu ha
      rw [ha] at hx
      obtain ⟨cs', e, hcs⟩ := hx.agg_inv
      split at h
      · rename_i fl hfl
        obtain ⟨v', h1, h2⟩ := cpart_sound h hcs w
        rw [e]
        refine ⟨v', ?_, h2⟩
        simp only [Instr.field, Sem.run_bind, run_underlying' hu, Result.andThen_ok, hfl, asAgg, Sem.run_pure, h1]
      · cases h
    · cases h
  case indexAddr t x ix =>
    obtain ⟨v', h1, h2⟩ := cidxAddr_sound h (hev x (by simp [Op.operands])) (hev ix (by simp [Op.operands])) w
    exact ⟨v', by simp only [Sem.run_bind, h1, Result.andThen_ok, Sem.run_pure], h2⟩
  case index t x ix =>
    have hx := hev x (by simp [Op.operands])
    have hi := hev ix (by simp [Op.operands])
    split at h
    · rename_i s k i hu hs hix
      rw [hs] at hx; rw [hix] at hi
      rw [hx.string_inv, hi.int_inv]
      split at h
      · rename_i h0
        obtain ⟨b, hb, rfl⟩ := Option.map_eq_some_iff.1 h
        refine ⟨_, ?_, .int _ _⟩
        simp only [Instr.index, asIntOf, Sem.run_bind, Sem.run_pure, Result.andThen_ok, run_underlying' hu, h0, if_true, hb]
      · cases h
    · rename_i n e cs k i hu hs hix
      rw [hs] at hx; rw [hix] at hi
      rw [hi.int_inv]
      obtain ⟨cs', e', hcs⟩ := hx.agg_inv
      rw [e']
      split at h
      · rename_i ie hie
        split at h
        · rename_i hb
          obtain ⟨v', h1, h2⟩ := cpart_sound h hcs w
          refine ⟨v', ?_, h2⟩
          simp only [Instr.index, asIntOf, Sem.run_bind, Sem.run_pure, Result.andThen_ok, run_underlying' hu, hb, and_self, if_true, run_sizeOf' hie, h1]
        · cases h
      · cases h
    · cases h
  case slice t x lo hi mx =>
    obtain ⟨v', h1, h2⟩ := cslice_sound (ev' := ev') h (hev x (by simp [Op.operands])) (fun o ho => hev o (by simp [Op.operands, ho])) (fun o ho => hev o (by simp [Op.operands, ho])) (fun o ho => hev o (by simp [Op.operands, ho])) w
    exact ⟨v', by simp only [Sem.run_bind, h1, Result.andThen_ok, Sem.run_pure], h2⟩
  case typeAssert x xt asserted ok =>
    obtain ⟨v', h1, h2⟩ := cassert_sound (xt := xt) h (hev x (by simp [Op.operands])) w
    exact ⟨v', by simp only [Sem.run_bind, h1, Result.andThen_ok, Sem.run_pure], h2⟩
  case extract x i =>
    have hx := hev x (by simp [Op.operands])
    split at h
    · rename_i vs hvs
      split at h
      · split at h
        · rename_i e1
          split at h
          · rename_i e2
            cases h
            subst e2
            have : vs = #[.bool false] := by apply Array.ext'; exact e1
            subst this
            rw [hvs] at hx
            have hx' : ev' x = .tuple #[.bool false] := by
              generalize ev' x = y at hx
              generalize hz : Value.tuple #[.bool false] = z at hx
              cases hx with
              | over => rfl
              | tuple h1 => cases hz; exact absurd rfl h1
              | unk => cases hz
              | _ => cases hz
            rw [hx']
            exact ⟨.bool false, rfl, .bool false⟩
          · cases h
        · cases h
      · rename_i hne
        rw [hvs] at hx
        obtain ⟨vs', e, hr⟩ := hx.tuple_inv hne
        obtain ⟨v', hv', hrel⟩ := hr.getElem? h
        rw [e]
        refine ⟨v', ?_, hrel⟩
        simp only [Instr.extract, hv', Sem.run_bind, Sem.run_pure, Result.andThen_ok]
    · cases h
  case call c =>
    split at h
    · rename_i b hb
      have ha := VsRel.map (ρ := ρ) c.args ev ev' (fun x hx => hev x (by simp [Op.operands, Call.operands, hx]))
      obtain ⟨v', h1, h2⟩ := run_lenOf h ha (c.args.map fun | .const _ => true | _ => false) w
      refine ⟨v', ?_, h2⟩
      simp only [resolve, hb, Sem.run_bind, Sem.run_pure, Result.andThen_ok, invoke]
      exact h1
    · cases h
end
end Go.Cs
