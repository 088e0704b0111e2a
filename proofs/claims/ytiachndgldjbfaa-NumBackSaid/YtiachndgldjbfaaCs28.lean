/- Places in rows, parts of arrays and strings, step by step. A lemma file: no statement of its own. -/
import Derived.Test.YtiachndgldjbfaaCs27
set_option linter.unusedSimpArgs false
set_option linter.unusedVariables false
set_option linter.unusedSectionVars false
namespace Go.Cs
section
variable {M : Type} [Mem M] {P : Program} {w0 : World}
variable {d : Option Tmp} {ty : TypeId} {pos : String} {af : Array Edge} {g : Option (Nat × Bool)} {ev : Operand → Value} {s : St M} {K : Value → St M → Prop} {F : Value → St M → Option Value → Prop} {x y : Operand} {t t2 : TypeId}

theorem ba_empty : ByteArray.empty = ⟨#[]⟩ := rfl
theorem o_indexAddr : wop P w0 ⟨d, .indexAddr t x y, ty, pos, af, g⟩ ev s K = must (cixA P (P.underlying t) (ev x) (ev y)) fun v => K v s := by
  rw [← cix_eq]
  unfold wop
  simp only [kindOf, wpu]
  split
  · rename_i e a n c k i h1 h2 h3
    simp only [must, cidxAddr, h1, h2, h3]
    cases h : P.info? e with
    | none => simp
    | some ie =>
      rw [cellsOf_info h]
      by_cases hc : 0 ≤ i ∧ i < n
      · simp [hc.1, hc.2]
      · simp only [if_neg hc, Option.isSome_some, true_and, reduceCtorEq, false_and, exists_false, eq_iff_iff, iff_false]
        rintro ⟨h4, h5, _⟩
        exact hc ⟨h4, h5⟩
  · rfl
theorem f_indexAddr : wfop P ⟨d, .indexAddr t x y, ty, pos, af, g⟩ ev s F = must (cixA P (P.underlying t) (ev x) (ev y)) fun v => F v s none := by
  rw [← cix_eq]
  unfold wfop
  simp only [kindOf, wpu]
  split
  · rename_i e a n c k i h1 h2 h3
    simp only [must, cidxAddr, h1, h2, h3]
    cases h : P.info? e with
    | none => simp
    | some ie =>
      rw [cellsOf_info h]
      by_cases hc : 0 ≤ i ∧ i < n
      · simp [hc.1, hc.2]
      · simp only [if_neg hc, Option.isSome_some, true_and, reduceCtorEq, false_and, exists_false, eq_iff_iff, iff_false]
        rintro ⟨h4, h5, _⟩
        exact hc ⟨h4, h5⟩
  · rfl

/-! Parts of arrays, slices and strings -/
theorem cr_slice3 {lo hi : Option Operand} {m : Operand} : cread P ev s (.slice t x lo hi (some m)) = none := rfl
theorem cr_slice_ptr {lo hi : Option Operand} {a : Addr} (h : ev x = .pointer (some a)) : cread P ev s (.slice t x lo hi none) = none := by
  unfold cread
  simp only [h]
  cases P.underlying t with
  | none => rfl
  | some td => cases td <;> rfl
theorem cr_slice_str {lo hi : Option Operand} {b : ByteArray} (h : ev x = .string b) : cread P ev s (.slice t x lo hi none) = none := by
  unfold cread
  simp only [h]
  cases P.underlying t with
  | none => rfl
  | some td => cases td <;> rfl
theorem sl_arr3 {n z l h m : Nat} {e : TypeId} {a : Addr} {k1 k2 k3 : IntKind} (hu : P.underlying t = some (.array n e)) (hz : szOf P e = some z) (h1 : l ≤ h) (h2 : h ≤ m) (h3 : m ≤ n) (h4 : m < UNK) :
    cslice P t (.pointer (some a)) (some (.int k1 l)) (some (.int k2 h)) (some (.int k3 m)) = some (.slice (some (if m = l then a else a.add (l * z))) (h - l) (m - l)) := by
  unfold szOf at hz
  cases hi : P.info? e with
  | none => rw [hi] at hz; cases hz
  | some ie =>
    rw [hi] at hz
    cases hz
    unfold cslice cbound
    simp only [hu, hi]
    have e1 : (0 : Int) ≤ m ∧ (m : Int) ≤ n := by omega
    have e2 : (0 : Int) ≤ h ∧ (h : Int) ≤ m := by omega
    have e3 : (0 : Int) ≤ l ∧ (l : Int) ≤ h := by omega
    simp [e1, e2, e3, h1, h2, h3, h4]
theorem sl_str {l h : Nat} {b : ByteArray} {k1 k2 : IntKind} (hu : P.underlying t = some .string) (h1 : l ≤ h) (h2 : h ≤ b.size) :
    cslice P t (.string b) (some (.int k1 l)) (some (.int k2 h)) none = some (.string (b.extract l h)) := by
  unfold cslice cbound
  simp only [hu]
  have e2 : (0 : Int) ≤ h ∧ (h : Int) ≤ b.size := by omega
  have e3 : (0 : Int) ≤ l ∧ (l : Int) ≤ h := by omega
  simp [e2, e3, h1, h2]
end

/-! Numbers' sizes -/
theorem wrap_i64 {n : Int} (h : -9223372036854775808 ≤ n ∧ n ≤ 9223372036854775807) : IntKind.i64.wrap n = n := by
  simp only [IntKind.wrap, IntKind.signed, IntKind.bits]
  simp
  omega
theorem wrap_u64 {n : Int} (h : 0 ≤ n ∧ n ≤ 18446744073709551615) : IntKind.u64.wrap n = n := by
  simp only [IntKind.wrap, IntKind.signed, IntKind.bits]
  simp
  omega
theorem wrap_u64_neg {n : Int} (h : -9223372036854775808 ≤ n ∧ n < 0) : IntKind.u64.wrap n = n + 18446744073709551616 := by
  simp only [IntKind.wrap, IntKind.signed, IntKind.bits]
  simp
  omega
theorem wrap_u8 {n : Int} (h : 0 ≤ n ∧ n ≤ 255) : IntKind.u8.wrap n = n := by
  simp only [IntKind.wrap, IntKind.signed, IntKind.bits]
  simp
  omega
theorem wrap_u64_nat {n : Int} (h : IntKind.u64.wrap n = n) : 0 ≤ n := by
  simp only [IntKind.wrap, IntKind.signed, IntKind.bits] at h
  simp at h
  omega

theorem wrap_u64_mod (n : Int) : IntKind.u64.wrap n = n % 18446744073709551616 := by
  simp [IntKind.wrap, IntKind.bits, IntKind.signed]
theorem wrap_u64_negneg {n : Int} (h : -9223372036854775808 ≤ n ∧ n < 0) : IntKind.u64.wrap (-IntKind.u64.wrap n) = -n := by
  rw [wrap_u64_mod, wrap_u64_mod]; omega

theorem setCells_one : ∀ (vs : List Value) (o : Nat) (v : Value), setCells vs o [v] = vs.set o v := fun _ _ _ => rfl

/-! Bytes as cells -/
def toV (b : UInt8) : Value := .int .u8 b.toNat
theorem byteOf_toV (b : UInt8) : byteOf? (toV b) = some b := by simp [byteOf?, toV]
theorem mapM_toV : ∀ l : List UInt8, (l.map toV).mapM byteOf? = some l := by
  intro l
  induction l with
  | nil => rfl
  | cons b l ih => simp [List.mapM_cons, byteOf_toV, ih]
theorem toV_ofNat {n : Nat} (h : n < 256) : toV (UInt8.ofNat n) = .int .u8 n := by
  unfold toV
  rw [UInt8.toNat_ofNat_of_lt' (by simpa using h)]
theorem cbs2_drop {vs : List Value} {e : TypeId} {w : Bool} {j N : Nat} {l : List UInt8} (h1 : vs.length = N) (h2 : j ≤ N) (h3 : vs.drop j = l.map toV) : cbs2 (some (.cells vs e w)) j (N - j) = some (.string ⟨l.toArray⟩) := by
  unfold cbs2 cut
  dsimp only
  rw [if_pos (by omega), h3, List.take_of_length_le (by have := congrArg List.length h3; simp at this; simp; omega)]
  dsimp only
  rw [mapM_toV]
  rfl
theorem cbs2_all {vs : List Value} {e : TypeId} {w : Bool} {n : Nat} {l : List UInt8} (h1 : n = l.length) (h3 : vs = l.map toV) : cbs2 (some (.cells vs e w)) 0 n = some (.string ⟨l.toArray⟩) := by
  have := cbs2_drop (e := e) (w := w) (j := 0) (N := l.length) (vs := vs) (l := l) (by simp [h3]) (by omega) (by simpa using h3)
  rw [h1]; simpa using this
end Go.Cs
