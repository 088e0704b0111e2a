/- Places in rows, parts of arrays and strings, step by step. A lemma file: no statement of its own. -/
import Derived.Test.YtlijgnofegjnmaaCs27
set_option linter.unusedSimpArgs false
set_option linter.unusedVariables false
set_option linter.unusedSectionVars false
namespace Go.Cs
section
variable {M : Type} [Mem M] {P : Program} {w0 : World}
variable {d : Option Tmp} {ty : TypeId} {pos : String} {af : Array Edge} {g : Option (Nat × Bool)} {ev : Operand → Value} {s : St M} {K : Value → St M → Prop} {F : Value → St M → Option Value → Prop} {x y : Operand} {t t2 : TypeId}

theorem m_none {F : Value → Prop} : must none F = False := by simp [must]
theorem cast0 : ((0 : Nat) : Int) = 0 := rfl
theorem ba_empty : ByteArray.empty = ⟨#[]⟩ := rfl
theorem o_indexAddr : wop P w0 ⟨d, .indexAddr t x y, ty, pos, af, g⟩ ev s K = must (cixA P (P.underlying t) (ev x) (ev y)) fun v => K v s := by
  rw [← cix_eq]
  unfold wop
  simp only [kindOf, wpu]
  split
  · rename_i e a n c k i h1 h2 h3
    simp only [must, cidxAddr, h1, h2, h3]
    cases h : P.info? e with
    | none => simp
    | some ie =>
      rw [cellsOf_info h]
      by_cases hc : 0 ≤ i ∧ i < n
      · simp [hc.1, hc.2]
      · simp only [if_neg hc, Option.isSome_some, true_and, reduceCtorEq, false_and, exists_false, eq_iff_iff, iff_false]
        rintro ⟨h4, h5, _⟩
        exact hc ⟨h4, h5⟩
  · rfl
theorem f_indexAddr : wfop P ⟨d, .indexAddr t x y, ty, pos, af, g⟩ ev s F = must (cixA P (P.underlying t) (ev x) (ev y)) fun v => F v s none := by
  rw [← cix_eq]
  unfold wfop
  simp only [kindOf, wpu]
  split
  · rename_i e a n c k i h1 h2 h3
    simp only [must, cidxAddr, h1, h2, h3]
    cases h : P.info? e with
    | none => simp
    | some ie =>
      rw [cellsOf_info h]
      by_cases hc : 0 ≤ i ∧ i < n
      · simp [hc.1, hc.2]
      · simp only [if_neg hc, Option.isSome_some, true_and, reduceCtorEq, false_and, exists_false, eq_iff_iff, iff_false]
        rintro ⟨h4, h5, _⟩
        exact hc ⟨h4, h5⟩
  · rfl

/-! Parts of arrays, slices and strings -/
theorem cr_slice3 {lo hi : Option Operand} {m : Operand} : cread P ev s (.slice t x lo hi (some m)) = none := rfl
theorem cr_slice_ptr {lo hi : Option Operand} {a : Addr} (h : ev x = .pointer (some a)) : cread P ev s (.slice t x lo hi none) = none := by
  unfold cread
  simp only [h]
  cases P.underlying t with
  | none => rfl
  | some td => cases td <;> rfl
theorem cr_slice_str {lo hi : Option Operand} {b : ByteArray} (h : ev x = .string b) : cread P ev s (.slice t x lo hi none) = none := by
  unfold cread
  simp only [h]
  cases P.underlying t with
  | none => rfl
  | some td => cases td <;> rfl
theorem sl_arr3 {n z l h m : Nat} {e : TypeId} {a : Addr} {k1 k2 k3 : IntKind} (hu : P.underlying t = some (.array n e)) (hz : szOf P e = some z) (h1 : l ≤ h) (h2 : h ≤ m) (h3 : m ≤ n) (h4 : m < UNK) :
    cslice P t (.pointer (some a)) (some (.int k1 l)) (some (.int k2 h)) (some (.int k3 m)) = some (.slice (some (if m = l then a else a.add (l * z))) (h - l) (m - l)) := by
  unfold szOf at hz
  cases hi : P.info? e with
  | none => rw [hi] at hz; cases hz
  | some ie =>
    rw [hi] at hz
    cases hz
    unfold cslice cbound
    simp only [hu, hi]
    have e1 : (0 : Int) ≤ m ∧ (m : Int) ≤ n := by omega
    have e2 : (0 : Int) ≤ h ∧ (h : Int) ≤ m := by omega
    have e3 : (0 : Int) ≤ l ∧ (l : Int) ≤ h := by omega
    simp [e1, e2, e3, h1, h2, h3, h4]
theorem sl_str {l h : Nat} {b : ByteArray} {k1 k2 : IntKind} (hu : P.underlying t = some .string) (h1 : l ≤ h) (h2 : h ≤ b.size) :
    cslice P t (.string b) (some (.int k1 l)) (some (.int k2 h)) none = some (.string (b.extract l h)) := by
  unfold cslice cbound
  simp only [hu]
  have e2 : (0 : Int) ≤ h ∧ (h : Int) ≤ b.size := by omega
  have e3 : (0 : Int) ≤ l ∧ (l : Int) ≤ h := by omega
  simp [e2, e3, h1, h2]
end

/-! Pointers that may be nil, and pointers without a type -/
section
variable {M : Type} [Mem M] {P : Program} {w0 : World}
variable {d : Option Tmp} {ty : TypeId} {pos : String} {af : Array Edge} {g : Option (Nat × Bool)} {ev : Operand → Value} {s : St M} {K : Value → St M → Prop} {F : Value → St M → Option Value → Prop} {x y : Operand} {t t2 : TypeId}
theorem wb_eq_p {a : Option Addr} {v : Value} {K : Value → Prop} : wbin P .eql t x y (.pointer a) v K = must (cbin P .eql t x y (.pointer a) v) K := rfl
theorem wb_ne_p {a : Option Addr} {v : Value} {K : Value → Prop} : wbin P .neq t x y (.pointer a) v K = must (cbin P .neq t x y (.pointer a) v) K := rfl
theorem wb_eq_m {a : Option Nat} {v : Value} {K : Value → Prop} : wbin P .eql t x y (.map a) v K = must (cbin P .eql t x y (.map a) v) K := rfl
theorem wb_ne_m {a : Option Nat} {v : Value} {K : Value → Prop} : wbin P .neq t x y (.map a) v K = must (cbin P .neq t x y (.map a) v) K := rfl
theorem wb_eq_s {a : Option Addr} {n c : Nat} {v : Value} {K : Value → Prop} : wbin P .eql t x y (.slice a n c) v K = must (cbin P .eql t x y (.slice a n c) v) K := rfl
theorem wb_ne_s {a : Option Addr} {n c : Nat} {v : Value} {K : Value → Prop} : wbin P .neq t x y (.slice a n c) v K = must (cbin P .neq t x y (.slice a n c) v) K := rfl
theorem wb_eq_a {a : Array Value} {v : Value} {K : Value → Prop} : wbin P .eql t x y (.agg a) v K = must (cbin P .eql t x y (.agg a) v) K := rfl
theorem wb_ne_a {a : Array Value} {v : Value} {K : Value → Prop} : wbin P .neq t x y (.agg a) v K = must (cbin P .neq t x y (.agg a) v) K := rfl
theorem wb_eq_b {a b : Bool} {K : Value → Prop} : wbin P .eql t x y (.bool a) (.bool b) K = must (cbin P .eql t x y (.bool a) (.bool b)) K := rfl
theorem wb_ne_b {a b : Bool} {K : Value → Prop} : wbin P .neq t x y (.bool a) (.bool b) K = must (cbin P .neq t x y (.bool a) (.bool b)) K := rfl

def cpp (P : Program) (op : BinOp) (td : Option TypeDesc) (x y : Value) : Option Value := match x, y, td with
    | .pointer (some a), .pointer (some b), some (.pointer e) => match P.info? e with
      | some ie =>
        if a.block = b.block ∧ ie.size ≠ 0 ∧ a.spot = none ∧ b.spot = none then
          match op with
          | .eql => some (.bool (a.off == b.off))
          | .neq => some (.bool (!(a.off == b.off)))
          | _ => none
        else none
      | none => none
    | _, _, _ => none
theorem cr_bin {op : BinOp} : cread P ev s (.binOp op t x y t2) = cpp P op (P.underlying t) (ev x) (ev y) := rfl
theorem cpp_eq {e : TypeId} {n b o o' : Nat} (h : szOf P e = some n) (hn : n ≠ 0) : cpp P .eql (some (.pointer e)) (.pointer (some ⟨b, o, none⟩)) (.pointer (some ⟨b, o', none⟩)) = some (.bool (o == o')) := by
  unfold szOf at h
  obtain ⟨ie, h1, h2⟩ := Option.map_eq_some_iff.1 h
  subst h2
  simp only [cpp, h1, hn, ne_eq, not_false_eq_true, and_self, if_true]
theorem cpp_ne {e : TypeId} {n b o o' : Nat} (h : szOf P e = some n) (hn : n ≠ 0) : cpp P .neq (some (.pointer e)) (.pointer (some ⟨b, o, none⟩)) (.pointer (some ⟨b, o', none⟩)) = some (.bool (!(o == o'))) := by
  unfold szOf at h
  obtain ⟨ie, h1, h2⟩ := Option.map_eq_some_iff.1 h
  subst h2
  simp only [cpp, h1, hn, ne_eq, not_false_eq_true, and_self, if_true]

def cup (P : Program) (sd dd : Option TypeDesc) (a : Addr) (B : Option Blk) : Option Value := match sd, dd with
  | some (.pointer t), some .unsafePointer => match B with
      | some (.cells vs _ _) => if (P.info? t).any (fun i => i.size != 0) = true ∧ a.off < vs.length then some (.pointer (some a)) else none
      | _ => none
  | some .unsafePointer, some (.pointer u) => match B with
      | some (.cells vs e true) => if upOk P e u = true ∧ a.off % P.cellsOf e = 0 ∧ a.off + P.cellsOf e ≤ vs.length then some (.pointer (some a)) else none
      | _ => none
  | _, _ => none
def wcp (P : Program) (w0 : World) (o : Oper) (src dst : TypeId) (ev : Operand → Value) (s : St M) (K : Value → St M → Prop) (v : Value) : Prop := match v with
  | .pointer (some a) => must (cup P (P.underlying src) (P.underlying dst) a (s.at' a.block)) fun v => shape P o.type v fun v => K v s
  | _ => wop P w0 o ev s K
theorem wcp_congr {o : Oper} {src dst : TypeId} {ev : Operand → Value} {s : St M} {K : Value → St M → Prop} {v v' : Value} {jp : Prop} (h : v = v') (hj : (True ∧ True) = jp) : wcp P w0 o src dst ev s K v = wcp P w0 o src dst ev s K v' := by rw [h]
attribute [congr] wcp_congr
theorem o_cp {src dst : TypeId} : wopx P w0 ⟨d, .convert src dst x, ty, pos, af, g⟩ ev s K = wcp P w0 ⟨d, .convert src dst x, ty, pos, af, g⟩ src dst ev s K (ev x) := by
  unfold wopx wcp
  split
  · rename_i a hv
    have e : cread P ev s (.convert src dst x) = cup P (P.underlying src) (P.underlying dst) a (s.at' a.block) := by
      unfold cread cup
      simp only [hv]
      cases P.underlying src with
      | none => rfl
      | some sd =>
        cases P.underlying dst with
        | none => cases sd <;> rfl
        | some dd => cases sd <;> cases dd <;> rfl
    unfold wop
    simp only [kindOf, hv]
    rw [e]
  · rfl
theorem cp_go {o : Oper} {src dst : TypeId} {a : Addr} : wcp P w0 o src dst ev s K (.pointer (some a)) = must (cup P (P.underlying src) (P.underlying dst) a (s.at' a.block)) fun v => shape P o.type v fun v => K v s := rfl
theorem cup_to {t : TypeId} {a : Addr} {vs : List Value} {e : TypeId} {w : Bool} (h : (P.info? t).any (fun i => i.size != 0) = true) : cup P (some (.pointer t)) (some .unsafePointer) a (some (.cells vs e w)) = if a.off < vs.length then some (.pointer (some a)) else none := by
  simp only [cup, h, true_and]
theorem cup_of {u : TypeId} {a : Addr} {vs : List Value} {e : TypeId} (h : upOk P e u = true) : cup P (some .unsafePointer) (some (.pointer u)) a (some (.cells vs e true)) = if a.off % P.cellsOf e = 0 ∧ a.off + P.cellsOf e ≤ vs.length then some (.pointer (some a)) else none := by
  simp only [cup, h, true_and]
theorem cv_ptr {src dst : TypeId} {a : Option Addr} {pu : Value → Prop} {other : Prop} : wcv P src dst (.pointer a) pu other = other := rfl
theorem sh_unsafe {v : Value} {K : Value → Prop} : shape2 (some .unsafePointer) v K = K v := rfl
end

/-! Numbers' sizes -/
theorem wrap_i64 {n : Int} (h : -9223372036854775808 ≤ n ∧ n ≤ 9223372036854775807) : IntKind.i64.wrap n = n := by
  simp only [IntKind.wrap, IntKind.signed, IntKind.bits]
  simp
  omega
theorem wrap_u64 {n : Int} (h : 0 ≤ n ∧ n ≤ 18446744073709551615) : IntKind.u64.wrap n = n := by
  simp only [IntKind.wrap, IntKind.signed, IntKind.bits]
  simp
  omega
theorem wrap_u64_neg {n : Int} (h : -9223372036854775808 ≤ n ∧ n < 0) : IntKind.u64.wrap n = n + 18446744073709551616 := by
  simp only [IntKind.wrap, IntKind.signed, IntKind.bits]
  simp
  omega
theorem wrap_u8 {n : Int} (h : 0 ≤ n ∧ n ≤ 255) : IntKind.u8.wrap n = n := by
  simp only [IntKind.wrap, IntKind.signed, IntKind.bits]
  simp
  omega
theorem wrap_u64_nat {n : Int} (h : IntKind.u64.wrap n = n) : 0 ≤ n := by
  simp only [IntKind.wrap, IntKind.signed, IntKind.bits] at h
  simp at h
  omega

theorem wrap_u64_mod (n : Int) : IntKind.u64.wrap n = n % 18446744073709551616 := by
  simp [IntKind.wrap, IntKind.bits, IntKind.signed]
theorem wrap_u64_negneg {n : Int} (h : -9223372036854775808 ≤ n ∧ n < 0) : IntKind.u64.wrap (-IntKind.u64.wrap n) = -n := by
  rw [wrap_u64_mod, wrap_u64_mod]; omega

theorem setCells_one : ∀ (vs : List Value) (o : Nat) (v : Value), setCells vs o [v] = vs.set o v := fun _ _ _ => rfl

/-! Bytes as cells -/
def toV (b : UInt8) : Value := .int .u8 b.toNat
theorem byteOf_toV (b : UInt8) : byteOf? (toV b) = some b := by simp [byteOf?, toV]
theorem mapM_toV : ∀ l : List UInt8, (l.map toV).mapM byteOf? = some l := by
  intro l
  induction l with
  | nil => rfl
  | cons b l ih => simp [List.mapM_cons, byteOf_toV, ih]
theorem toV_ofNat {n : Nat} (h : n < 256) : toV (UInt8.ofNat n) = .int .u8 n := by
  unfold toV
  rw [UInt8.toNat_ofNat_of_lt' (by simpa using h)]
theorem cbs2_drop {vs : List Value} {e : TypeId} {w : Bool} {j N : Nat} {l : List UInt8} (h1 : vs.length = N) (h2 : j ≤ N) (h3 : vs.drop j = l.map toV) : cbs2 (some (.cells vs e w)) j (N - j) = some (.string ⟨l.toArray⟩) := by
  unfold cbs2 cut
  dsimp only
  rw [if_pos (by omega), h3, List.take_of_length_le (by have := congrArg List.length h3; simp at this; simp; omega)]
  dsimp only
  rw [mapM_toV]
  rfl
theorem cbs2_all {vs : List Value} {e : TypeId} {w : Bool} {n : Nat} {l : List UInt8} (h1 : n = l.length) (h3 : vs = l.map toV) : cbs2 (some (.cells vs e w)) 0 n = some (.string ⟨l.toArray⟩) := by
  have := cbs2_drop (e := e) (w := w) (j := 0) (N := l.length) (vs := vs) (l := l) (by simp [h3]) (by omega) (by simpa using h3)
  rw [h1]; simpa using this
end Go.Cs
