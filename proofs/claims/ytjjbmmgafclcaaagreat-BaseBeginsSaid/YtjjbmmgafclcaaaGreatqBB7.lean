/- A frame begins: the walk. A lemma file: no statement of its own. -/
import Derived.Test.YtjjbmmgafclcaaaGreatqFwF
import Derived.Test.YtjjbmmgafclcaaaGreatqBB2
import Derived.Test.YtjjbmmgafclcaaaGreatqMks
set_option linter.unusedSimpArgs false
set_option linter.unusedVariables false
set_option linter.unusedSectionVars false
namespace Go.Cs
section
variable {M : Type} [Mem M] {P : Program} {w0 : World} {s : St M} {ev : Operand → Value} {d : Option Tmp} {ty t : TypeId} {pos : String} {af : Array Edge} {g : Option (Nat × Bool)} {K : Value → St M → Prop} {F : Value → St M → Option Value → Prop} {args : Array Operand} {ats : Array TypeId}
theorem p_min {args : Array Operand} {ats : Array TypeId} : wfop P ⟨d, .call ⟨.builtin .min, args, ats⟩, ty, pos, af, g⟩ ev s F = must (cbuiltin P .min ats ty (args.map ev)) fun v => F v s none := rfl
theorem p_max {args : Array Operand} {ats : Array TypeId} : wfop P ⟨d, .call ⟨.builtin .max, args, ats⟩, ty, pos, af, g⟩ ev s F = must (cbuiltin P .max ats ty (args.map ev)) fun v => F v s none := rfl
theorem q_min {ats : Array TypeId} {ty : TypeId} {k k2 : IntKind} {a b : Int} : cbuiltin P .min ats ty #[.int k a, .int k2 b] = some (.int k (if b < a then b else a)) := rfl
theorem q_max {ats : Array TypeId} {ty : TypeId} {k k2 : IntKind} {a b : Int} : cbuiltin P .max ats ty #[.int k a, .int k2 b] = some (.int k (if b > a then b else a)) := rfl
theorem o_copy : wop P w0 ⟨d, .call ⟨.builtin .copy, args, ats⟩, ty, pos, af, g⟩ ev s K = wch (ceff P ev s (.call ⟨.builtin .copy, args, ats⟩)) K := rfl
end
end Go.Cs
namespace Go.Proofs.Tryz
open Go.Cs
open Go.RowKit (Below)
set_option maxRecDepth 100000
attribute [local irreducible] CCalls WLoop WScope CRound WRange
theorem bFrame0 : cbuild Tryz.prog 33 #[] = some (.agg #[.int .i64 0, .int .i64 0, .slice none 0 0, .slice none 0 0, .int .i64 0, .int .i64 0, .string ⟨#[]⟩]) := by kernel_rfl
theorem bFrame (f k n : Int) (x : ByteArray) (a : Option Addr) (m c : Nat) : cbuild Tryz.prog 33 #[(0, .int .i64 f), (2, .slice a m c), (4, .agg #[.int .i64 k, .int .i64 n, .string x])] = some (.agg #[.int .i64 f, .int .i64 0, .slice a m c, .slice none 0 0, .int .i64 k, .int .i64 n, .string x]) := by kernel_rfl
theorem mkV0 : cmks Tryz.prog 28 (.int .i64 ((0 : Nat) : Int)) (.int .i64 ((0 : Nat) : Int)) = some (.cells ((List.replicate 0 ((0, 0, ⟨#[]⟩) : Int × Int × ByteArray)).flatMap valC) 27 true, fun b => .slice (some ⟨b, 0, none⟩) 0 0) := by kernel_rfl
theorem mkV1 : cmks Tryz.prog 28 (.int .i64 ((1 : Nat) : Int)) (.int .i64 ((1 : Nat) : Int)) = some (.cells ((List.replicate 1 ((0, 0, ⟨#[]⟩) : Int × Int × ByteArray)).flatMap valC) 27 true, fun b => .slice (some ⟨b, 0, none⟩) 1 1) := by kernel_rfl
theorem mkV2 : cmks Tryz.prog 28 (.int .i64 ((2 : Nat) : Int)) (.int .i64 ((2 : Nat) : Int)) = some (.cells ((List.replicate 2 ((0, 0, ⟨#[]⟩) : Int × Int × ByteArray)).flatMap valC) 27 true, fun b => .slice (some ⟨b, 0, none⟩) 2 2) := by kernel_rfl
theorem mkV3 : cmks Tryz.prog 28 (.int .i64 ((3 : Nat) : Int)) (.int .i64 ((3 : Nat) : Int)) = some (.cells ((List.replicate 3 ((0, 0, ⟨#[]⟩) : Int × Int × ByteArray)).flatMap valC) 27 true, fun b => .slice (some ⟨b, 0, none⟩) 3 3) := by kernel_rfl
theorem mkV4 : cmks Tryz.prog 28 (.int .i64 ((4 : Nat) : Int)) (.int .i64 ((4 : Nat) : Int)) = some (.cells ((List.replicate 4 ((0, 0, ⟨#[]⟩) : Int × Int × ByteArray)).flatMap valC) 27 true, fun b => .slice (some ⟨b, 0, none⟩) 4 4) := by kernel_rfl
theorem mkV5 : cmks Tryz.prog 28 (.int .i64 ((5 : Nat) : Int)) (.int .i64 ((5 : Nat) : Int)) = some (.cells ((List.replicate 5 ((0, 0, ⟨#[]⟩) : Int × Int × ByteArray)).flatMap valC) 27 true, fun b => .slice (some ⟨b, 0, none⟩) 5 5) := by kernel_rfl
theorem mkV6 : cmks Tryz.prog 28 (.int .i64 ((6 : Nat) : Int)) (.int .i64 ((6 : Nat) : Int)) = some (.cells ((List.replicate 6 ((0, 0, ⟨#[]⟩) : Int × Int × ByteArray)).flatMap valC) 27 true, fun b => .slice (some ⟨b, 0, none⟩) 6 6) := by kernel_rfl
theorem mkV7 : cmks Tryz.prog 28 (.int .i64 ((7 : Nat) : Int)) (.int .i64 ((7 : Nat) : Int)) = some (.cells ((List.replicate 7 ((0, 0, ⟨#[]⟩) : Int × Int × ByteArray)).flatMap valC) 27 true, fun b => .slice (some ⟨b, 0, none⟩) 7 7) := by kernel_rfl
theorem mkV8 : cmks Tryz.prog 28 (.int .i64 ((8 : Nat) : Int)) (.int .i64 ((8 : Nat) : Int)) = some (.cells ((List.replicate 8 ((0, 0, ⟨#[]⟩) : Int × Int × ByteArray)).flatMap valC) 27 true, fun b => .slice (some ⟨b, 0, none⟩) 8 8) := by kernel_rfl
theorem mkV9 : cmks Tryz.prog 28 (.int .i64 ((9 : Nat) : Int)) (.int .i64 ((9 : Nat) : Int)) = some (.cells ((List.replicate 9 ((0, 0, ⟨#[]⟩) : Int × Int × ByteArray)).flatMap valC) 27 true, fun b => .slice (some ⟨b, 0, none⟩) 9 9) := by kernel_rfl
theorem mkV10 : cmks Tryz.prog 28 (.int .i64 ((10 : Nat) : Int)) (.int .i64 ((10 : Nat) : Int)) = some (.cells ((List.replicate 10 ((0, 0, ⟨#[]⟩) : Int × Int × ByteArray)).flatMap valC) 27 true, fun b => .slice (some ⟨b, 0, none⟩) 10 10) := by kernel_rfl
theorem mkV11 : cmks Tryz.prog 28 (.int .i64 ((11 : Nat) : Int)) (.int .i64 ((11 : Nat) : Int)) = some (.cells ((List.replicate 11 ((0, 0, ⟨#[]⟩) : Int × Int × ByteArray)).flatMap valC) 27 true, fun b => .slice (some ⟨b, 0, none⟩) 11 11) := by kernel_rfl
theorem mkV12 : cmks Tryz.prog 28 (.int .i64 ((12 : Nat) : Int)) (.int .i64 ((12 : Nat) : Int)) = some (.cells ((List.replicate 12 ((0, 0, ⟨#[]⟩) : Int × Int × ByteArray)).flatMap valC) 27 true, fun b => .slice (some ⟨b, 0, none⟩) 12 12) := by kernel_rfl
theorem mkV13 : cmks Tryz.prog 28 (.int .i64 ((13 : Nat) : Int)) (.int .i64 ((13 : Nat) : Int)) = some (.cells ((List.replicate 13 ((0, 0, ⟨#[]⟩) : Int × Int × ByteArray)).flatMap valC) 27 true, fun b => .slice (some ⟨b, 0, none⟩) 13 13) := by kernel_rfl
theorem mkV14 : cmks Tryz.prog 28 (.int .i64 ((14 : Nat) : Int)) (.int .i64 ((14 : Nat) : Int)) = some (.cells ((List.replicate 14 ((0, 0, ⟨#[]⟩) : Int × Int × ByteArray)).flatMap valC) 27 true, fun b => .slice (some ⟨b, 0, none⟩) 14 14) := by kernel_rfl
theorem mkV15 : cmks Tryz.prog 28 (.int .i64 ((15 : Nat) : Int)) (.int .i64 ((15 : Nat) : Int)) = some (.cells ((List.replicate 15 ((0, 0, ⟨#[]⟩) : Int × Int × ByteArray)).flatMap valC) 27 true, fun b => .slice (some ⟨b, 0, none⟩) 15 15) := by kernel_rfl
theorem mkV16 : cmks Tryz.prog 28 (.int .i64 ((16 : Nat) : Int)) (.int .i64 ((16 : Nat) : Int)) = some (.cells ((List.replicate 16 ((0, 0, ⟨#[]⟩) : Int × Int × ByteArray)).flatMap valC) 27 true, fun b => .slice (some ⟨b, 0, none⟩) 16 16) := by kernel_rfl
theorem mkV17 : cmks Tryz.prog 28 (.int .i64 ((17 : Nat) : Int)) (.int .i64 ((17 : Nat) : Int)) = some (.cells ((List.replicate 17 ((0, 0, ⟨#[]⟩) : Int × Int × ByteArray)).flatMap valC) 27 true, fun b => .slice (some ⟨b, 0, none⟩) 17 17) := by kernel_rfl
theorem mkV18 : cmks Tryz.prog 28 (.int .i64 ((18 : Nat) : Int)) (.int .i64 ((18 : Nat) : Int)) = some (.cells ((List.replicate 18 ((0, 0, ⟨#[]⟩) : Int × Int × ByteArray)).flatMap valC) 27 true, fun b => .slice (some ⟨b, 0, none⟩) 18 18) := by kernel_rfl
theorem mkV19 : cmks Tryz.prog 28 (.int .i64 ((19 : Nat) : Int)) (.int .i64 ((19 : Nat) : Int)) = some (.cells ((List.replicate 19 ((0, 0, ⟨#[]⟩) : Int × Int × ByteArray)).flatMap valC) 27 true, fun b => .slice (some ⟨b, 0, none⟩) 19 19) := by kernel_rfl
theorem mkV20 : cmks Tryz.prog 28 (.int .i64 ((20 : Nat) : Int)) (.int .i64 ((20 : Nat) : Int)) = some (.cells ((List.replicate 20 ((0, 0, ⟨#[]⟩) : Int × Int × ByteArray)).flatMap valC) 27 true, fun b => .slice (some ⟨b, 0, none⟩) 20 20) := by kernel_rfl
theorem mkV21 : cmks Tryz.prog 28 (.int .i64 ((21 : Nat) : Int)) (.int .i64 ((21 : Nat) : Int)) = some (.cells ((List.replicate 21 ((0, 0, ⟨#[]⟩) : Int × Int × ByteArray)).flatMap valC) 27 true, fun b => .slice (some ⟨b, 0, none⟩) 21 21) := by kernel_rfl
theorem mkV22 : cmks Tryz.prog 28 (.int .i64 ((22 : Nat) : Int)) (.int .i64 ((22 : Nat) : Int)) = some (.cells ((List.replicate 22 ((0, 0, ⟨#[]⟩) : Int × Int × ByteArray)).flatMap valC) 27 true, fun b => .slice (some ⟨b, 0, none⟩) 22 22) := by kernel_rfl
theorem mkV23 : cmks Tryz.prog 28 (.int .i64 ((23 : Nat) : Int)) (.int .i64 ((23 : Nat) : Int)) = some (.cells ((List.replicate 23 ((0, 0, ⟨#[]⟩) : Int × Int × ByteArray)).flatMap valC) 27 true, fun b => .slice (some ⟨b, 0, none⟩) 23 23) := by kernel_rfl
theorem mkV24 : cmks Tryz.prog 28 (.int .i64 ((24 : Nat) : Int)) (.int .i64 ((24 : Nat) : Int)) = some (.cells ((List.replicate 24 ((0, 0, ⟨#[]⟩) : Int × Int × ByteArray)).flatMap valC) 27 true, fun b => .slice (some ⟨b, 0, none⟩) 24 24) := by kernel_rfl
theorem mkVals (n : Nat) (hn : n ≤ 24) : cmks Tryz.prog 28 (.int .i64 (n : Int)) (.int .i64 (n : Int)) = some (.cells ((List.replicate n ((0, 0, ⟨#[]⟩) : Int × Int × ByteArray)).flatMap valC) 27 true, fun b => .slice (some ⟨b, 0, none⟩) n n) := by
  match n, hn with
  | 0, _ => exact mkV0
  | 1, _ => exact mkV1
  | 2, _ => exact mkV2
  | 3, _ => exact mkV3
  | 4, _ => exact mkV4
  | 5, _ => exact mkV5
  | 6, _ => exact mkV6
  | 7, _ => exact mkV7
  | 8, _ => exact mkV8
  | 9, _ => exact mkV9
  | 10, _ => exact mkV10
  | 11, _ => exact mkV11
  | 12, _ => exact mkV12
  | 13, _ => exact mkV13
  | 14, _ => exact mkV14
  | 15, _ => exact mkV15
  | 16, _ => exact mkV16
  | 17, _ => exact mkV17
  | 18, _ => exact mkV18
  | 19, _ => exact mkV19
  | 20, _ => exact mkV20
  | 21, _ => exact mkV21
  | 22, _ => exact mkV22
  | 23, _ => exact mkV23
  | 24, _ => exact mkV24
  | n + 25, h => exact absurd h (by omega)
theorem slV {a : Addr} {n c q : Nat} (hq : q ≤ c) (hc : c < UNK) : cslice Tryz.prog 28 (.slice (some a) n c) none (some (.int .i64 (q : Int))) none = some (.slice (some a) q c) := by
  obtain ⟨ie, h1⟩ := Option.isSome_iff_exists.1 is27
  have hne : ¬ c = UNK := by omega
  have hb : (0 : Int) ≤ (q : Int) ∧ (q : Int) ≤ ((c : Nat) : Int) := by omega
  unfold cslice
  simp only [underlying28, h1, cbound, hne, if_false, Option.isSome_none, Option.isNone_none, Bool.false_and, Bool.true_and, Bool.false_eq_true, beq_iff_eq, hb, and_self, if_true, Int.toNat_natCast, hc, Nat.zero_mul, addr_add_zero, ite_self, Nat.sub_zero]
def AAt {M : Type} [Mem M] (s : St M) (aad : Option Addr) (A : List (Int × Int × ByteArray)) (acp : Nat) : Prop :=
  (aad = none ∧ A = [] ∧ acp = 0) ∨ ∃ (j : Nat) (us : List (Int × Int × ByteArray)), aad = some ⟨j, 0, none⟩ ∧ j < s.next ∧ s.at' j = some (.cells (us.flatMap valC) 27 false) ∧ ∀ k, k < A.length → us[k]? = A[k]?
theorem setCells_at : ∀ (l vs : List Value) (o : Nat), o + l.length ≤ vs.length → setCells vs o l = vs.take o ++ l ++ vs.drop (o + l.length) := by
  intro l
  induction l with
  | nil => intro vs o h; simp [setCells]
  | cons c cs ih =>
    intro vs o h
    rw [List.length_cons] at h
    show setCells (vs.set o c) (o + 1) cs = _
    rw [ih (vs.set o c) (o + 1) (by rw [List.length_set]; omega)]
    have h1 : (vs.set o c).take (o + 1) = vs.take o ++ [c] := by
      rw [List.take_add_one, List.take_set_of_le (Nat.le_refl o), List.getElem?_set, if_pos rfl, if_pos (by omega)]
      rfl
    have h2 : (vs.set o c).drop (o + 1 + cs.length) = vs.drop (o + (c :: cs).length) := by
      rw [List.drop_set_of_lt (by omega)]
      congr 1
      rw [List.length_cons]; omega
    rw [h1, h2, List.append_assoc, List.append_assoc, List.append_assoc]
    rfl
theorem valC_len : ∀ l : List (Int × Int × ByteArray), (l.flatMap valC).length = l.length * 3 := by
  intro l
  induction l with
  | nil => rfl
  | cons y l ih => rw [List.flatMap_cons, List.length_append, ih, List.length_cons]; show 3 + _ = _; omega
theorem valC_drop : ∀ (k : Nat) (l : List (Int × Int × ByteArray)), (l.flatMap valC).drop (k * 3) = (l.drop k).flatMap valC := by
  intro k
  induction k with
  | zero => intro l; simp
  | succ k ih =>
    intro l
    cases l with
    | nil => simp
    | cons y l =>
      rw [List.flatMap_cons, show (k + 1) * 3 = 3 + k * 3 by omega, List.drop_append, List.drop_eq_nil_of_le (by show 3 ≤ 3 + k * 3; omega)]
      rw [show 3 + k * 3 - (valC y).length = k * 3 by show 3 + k * 3 - 3 = _; omega, ih]
      rfl
theorem valC_take : ∀ (k : Nat) (l : List (Int × Int × ByteArray)), (l.flatMap valC).take (k * 3) = (l.take k).flatMap valC := by
  intro k
  induction k with
  | zero => intro l; simp
  | succ k ih =>
    intro l
    cases l with
    | nil => simp
    | cons y l =>
      rw [List.flatMap_cons, show (k + 1) * 3 = 3 + k * 3 by omega, List.take_append, List.take_of_length_le (by show 3 ≤ 3 + k * 3; omega)]
      rw [show 3 + k * 3 - (valC y).length = k * 3 by show 3 + k * 3 - 3 = _; omega, ih]
      rfl
theorem setV (l vs : List (Int × Int × ByteArray)) (h : l.length ≤ vs.length) : setCells (vs.flatMap valC) 0 (l.flatMap valC) = (l ++ vs.drop l.length).flatMap valC := by
  rw [setCells_at _ _ _ (by rw [valC_len, valC_len]; omega), List.take_zero, List.nil_append, valC_len, Nat.zero_add, valC_drop, List.flatMap_append]
theorem valC_ok (l : List (Int × Int × ByteArray)) : (l.flatMap valC).all okCell = true := by
  rw [List.all_eq_true]
  intro v hv
  obtain ⟨y, _, hy⟩ := List.mem_flatMap.1 hv
  simp only [valC, List.mem_cons, List.not_mem_nil, or_false] at hy
  rcases hy with rfl | rfl | rfl <;> rfl
theorem slNil : cslice Tryz.prog 28 (.slice none 0 0) none (some (.int .i64 0)) none = some (.slice none 0 0) := by kernel_rfl
theorem copyNil {M : Type} [Mem M] {s : St M} {ev : Operand → Value} {x y : Operand} {d : Option Addr} {ln cd cs : Nat} {K : Value → St M → Prop} (hx : ev x = .slice d ln cd) (hy : ev y = .slice none 0 cs) (h : K (.int .i64 ((0 : Nat) : Int)) s) : wch (ceff Tryz.prog ev s (.call ⟨.builtin .copy, #[x, y], #[28, 28]⟩)) K := by
  obtain ⟨ie, h1⟩ := Option.isSome_iff_exists.1 is27
  refine ⟨.int .i64 ((0 : Nat) : Int), s, ?_, h⟩
  unfold ceff
  simp only [List.getElem?_toArray, List.getElem?_cons_zero, List.getElem?_cons_succ, Option.bind_some, Option.map_some, underlying28, hx, hy, h1]
  rw [show Nat.min 0 ln = 0 from Nat.zero_min ln]
theorem copyV {M : Type} [Mem M] {s : St M} {ev : Operand → Value} {x y : Operand} {b ln q j cd cs : Nat} {us : List (Int × Int × ByteArray)} {z : Int × Int × ByteArray} {K : Value → St M → Prop} (hb : s.at' b = some (.cells ((List.replicate ln z).flatMap valC) 27 true)) (hj : s.at' j = some (.cells (us.flatMap valC) 27 false)) (hx : ev x = .slice (some ⟨b, 0, none⟩) ln cd) (hy : ev y = .slice (some ⟨j, 0, none⟩) q cs) (hq : q ≤ ln) (hul : q ≤ us.length)
    (h : K (.int .i64 (q : Int)) (s.put b (.cells ((us.take q ++ List.replicate (ln - q) z).flatMap valC) 27 true))) : wch (ceff Tryz.prog ev s (.call ⟨.builtin .copy, #[x, y], #[28, 28]⟩)) K := by
  obtain ⟨ie, h1⟩ := Option.isSome_iff_exists.1 is27
  have h2 : (Tryz.prog.info? 27).map (·.size) = some 3 := by kernel_rfl
  rw [h1] at h2
  have h2 : ie.size = 3 := Option.some.inj h2
  have hm : Nat.min q ln = q := Nat.min_eq_left hq
  have hc : cut (us.flatMap valC) 0 (q * 3) = some ((us.take q).flatMap valC) := by
    unfold cut
    rw [if_pos (by rw [valC_len]; omega), List.drop_zero, valC_take]
  refine ⟨.int .i64 (q : Int), _, ?_, h⟩
  unfold ceff
  simp only [List.getElem?_toArray, List.getElem?_cons_zero, List.getElem?_cons_succ, Option.bind_some, Option.map_some, underlying28, hx, hy, h1, h2, hj, hm, hc]
  unfold cstoreCells
  simp only [hb]
  rw [if_pos ⟨by rw [valC_len, valC_len, List.length_take, List.length_replicate]; omega, valC_ok _⟩, setV _ _ (by rw [List.length_take, List.length_replicate]; omega), List.length_take, Nat.min_eq_left hul, List.drop_replicate]
  rfl
section
variable {M : Type} [Mem M] {w0 : World} {s : St M} {R : Value → St M → Prop} {g : Int} {pl cl : Option Addr} {cpp ccp : Nat} {pool : List ByteArray} {C : List CodeV}
set_option maxHeartbeats 8000000 in
theorem begin_spec (hP : PAt s pl pool cl C) (hok : ∀ c ∈ C, 0 ≤ c.p ∧ c.p ≤ c.l ∧ c.l ≤ 24) {k n k2 n2 : Int} {x x2 : ByteArray} {A : List (Int × Int × ByteArray)} {aad : Option Addr} {acp : Nat} (hA : AAt s aad A acp) (hAc : A.length ≤ acp) (hAu : acp < UNK) (hA12 : A.length ≤ 12)
    (hno : ¬ (k = 5 ∧ 0 ≤ n ∧ n < (C.length : Int)) → ∀ s', s.le s' → R (.tuple #[.agg #[.int .i64 0, .int .i64 0, .slice none 0 0, .slice none 0 0, .int .i64 0, .int .i64 0, .string ⟨#[]⟩], .bool false]) s')
    (hyes : ∀ (f : Nat) c, k = 5 → n = (f : Int) → C[f]? = some c → ∀ s' b (V : List (Int × Int × ByteArray)), s.le s' → s.next ≤ b → b < s'.next → s'.at' b = some (.cells (V.flatMap valC) 27 true) → (V.length : Int) = c.l → (∀ i, i < V.length → V[i]? = if (i : Int) < c.p ∧ i < A.length then A[i]? else some (0, 0, ⟨#[]⟩)) → R (.tuple #[.agg #[.int .i64 n, .int .i64 0, .slice (some ⟨b, 0, none⟩) V.length V.length, .slice none 0 0, .int .i64 k2, .int .i64 n2, .string x2], .bool true]) s') :
    CCalls Tryz.prog w0 7 #[.agg #[.int .i64 g, .slice pl pool.length cpp, .slice cl C.length ccp], vA k n x, vA k2 n2 x2, .slice aad A.length acp] s R := by
  refine wfun2 hmix ok7 (l := [.agg #[.int .i64 g, .slice pl pool.length cpp, .slice cl C.length ccp], vA k n x, vA k2 n2 x2, .slice aad A.length acp]) func7 rfl ntmps7 results7 (by simp) ?_
  by_cases r1 : k = 5
  case neg =>
    simp -implicitDefEqProofs only [↓Zd, (Zp), if_true, if_false, ne_eq, implies_true, forall_const, Nat.reduceEqDiff, reduceIte, reduceCtorEq, Int.reduceEq, Int.reduceNeg, Int.reduceLE, Int.reduceLT, Nat.reduceAdd, Nat.reduceLeDiff, Int.reduceToNat, Nat.reduceMul, Nat.reduceBEq, okPart, Value.cells, cut, okCell, cld2, (BBx), vA, bFrame0, r1, ze33, Nat.zero_add, Nat.add_zero, decide_true, decide_false]
    exact hno (fun h => r1 h.1) _ (by repeat (first | exact St.le_refl _ | assumption | refine St.le_new ?_ | refine St.le_put ?_ (by first | omega | (simp only [St.next_new, St.next_put, St.next_kill]; omega)) | refine St.le_trans ?_ (by assumption)))
  subst r1
  by_cases r2 : n < 0
  · simp -implicitDefEqProofs only [↓Zd, (Zp), if_true, if_false, ne_eq, implies_true, forall_const, Nat.reduceEqDiff, reduceIte, reduceCtorEq, Int.reduceEq, Int.reduceNeg, Int.reduceLE, Int.reduceLT, Nat.reduceAdd, Nat.reduceLeDiff, Int.reduceToNat, Nat.reduceMul, Nat.reduceBEq, okPart, Value.cells, cut, okCell, cld2, (BBx), vA, bFrame0, r2, ze33, Nat.zero_add, Nat.add_zero, decide_true, decide_false]
    exact hno (fun h => by omega) _ (by repeat (first | exact St.le_refl _ | assumption | refine St.le_new ?_ | refine St.le_put ?_ (by first | omega | (simp only [St.next_new, St.next_put, St.next_kill]; omega)) | refine St.le_trans ?_ (by assumption)))
  by_cases r3 : (C.length : Int) ≤ n
  · simp -implicitDefEqProofs only [↓Zd, (Zp), if_true, if_false, ne_eq, implies_true, forall_const, Nat.reduceEqDiff, reduceIte, reduceCtorEq, Int.reduceEq, Int.reduceNeg, Int.reduceLE, Int.reduceLT, Nat.reduceAdd, Nat.reduceLeDiff, Int.reduceToNat, Nat.reduceMul, Nat.reduceBEq, okPart, Value.cells, cut, okCell, cld2, (BBx), vA, bFrame0, r2, r3, ze33, Nat.zero_add, Nat.add_zero, decide_true, decide_false]
    exact hno (fun h => by omega) _ (by repeat (first | exact St.le_refl _ | assumption | refine St.le_new ?_ | refine St.le_put ?_ (by first | omega | (simp only [St.next_new, St.next_put, St.next_kill]; omega)) | refine St.le_trans ?_ (by assumption)))
  obtain ⟨f, rfl⟩ : ∃ f : Nat, n = (f : Int) := ⟨n.toNat, by omega⟩
  have hf : C[f]? = some (C[f]'(by omega)) := List.getElem?_eq_getElem _
  generalize C[f]'(by omega) = c at hf
  have hmem := List.mem_of_getElem? hf
  obtain ⟨hp0, hpl, hl24⟩ := hok c hmem
  rcases hP.codes with h0 | ⟨jc, nn, cc, rfl, hjc, hcb, hcl, hCn, hcc⟩
  · rw [h0] at hf; cases hf
  obtain ⟨d1, d2⟩ := rowsN_cut hcl (n := nn) (i := f) (by omega)
  rw [hcc f c hf] at d2
  have d2 : List.take 5 (List.drop (f * 5) (rowsN cc nn)) = [.int .i64 c.p, .int .i64 c.l, .int .i64 c.s, .int .i64 c.d, .slice c.ad c.ins.length c.cp] := d2
  have hff : (0 : Int) ≤ (f : Int) ∧ (f : Int) < (C.length : Int) := by omega
  have hj0 : ¬ jc = s.next := by omega
  have hj1 : ¬ jc = s.next + 1 := by omega
  have hj2 : ¬ jc = s.next + 2 := by omega
  have hj3 : ¬ jc = s.next + 3 := by omega
  have hz := ze38
  have hz2 := ze33
  obtain ⟨ln, hln⟩ : ∃ ln : Nat, c.l = (ln : Int) := ⟨c.l.toNat, by omega⟩
  obtain ⟨q, hq⟩ : ∃ q : Nat, (if c.p < (A.length : Int) then c.p else (A.length : Int)) = (q : Int) := ⟨(if c.p < (A.length : Int) then c.p else (A.length : Int)).toNat, by split <;> omega⟩
  have hmx : (if (ln : Int) > 0 then (ln : Int) else 0) = (ln : Int) := by split <;> omega
  have hmx2 : (if (q : Int) > 0 then (q : Int) else 0) = (q : Int) := by split <;> omega
  have hl24 : ln ≤ 24 := by omega
  have d2 : List.take 5 (List.drop (f * 5) (rowsN cc nn)) = [.int .i64 c.p, .int .i64 (ln : Int), .int .i64 c.s, .int .i64 c.d, .slice c.ad c.ins.length c.cp] := by rw [d2, hln]
  simp -implicitDefEqProofs only [↓Zd, (Zp), if_true, if_false, ne_eq, implies_true, forall_const, Nat.reduceEqDiff, reduceIte, reduceCtorEq, Int.reduceEq, Int.reduceNeg, Int.reduceLE, Int.reduceLT, Nat.reduceAdd, Nat.reduceLeDiff, Int.reduceToNat, Nat.reduceMul, Nat.reduceBEq, okPart, Value.cells, cut, okCell, cld2, (BBx), vA, ↓p_min, ↓p_max, q_min, q_max, hmx, hmx2, hq, mkVals ln hl24, ↓o_mks, ↓f_mks, bFrame0, bFrame, r2, r3, hcb, hj0, hj1, hj2, hj3, d1, d2, hff, hz, hz2, Nat.zero_add, Nat.add_zero, decide_true, decide_false, ord7]
  have lS : s.le (((((((((s.new (.cells [.int .i64 g, .slice pl pool.length cpp, .slice (some ⟨jc, 0, none⟩) C.length ccp] 25 true)).new (.cells [.int .i64 5, .int .i64 (f : Int), .string x] 27 true)).new (.cells [.int .i64 k2, .int .i64 n2, .string x2] 27 true)).new (.cells [.int .i64 0, .int .i64 0, .slice none 0 0, .slice none 0 0, .int .i64 0, .int .i64 0, .string ⟨#[]⟩] 33 true)).new (.cells [.int .i64 0, .int .i64 0, .int .i64 0, .int .i64 0, .slice none 0 0] 38 true)).put (s.next + 4) (.cells [.int .i64 c.p, .int .i64 (ln : Int), .int .i64 c.s, .int .i64 c.d, .slice c.ad c.ins.length c.cp] 38 true)).new (.cells ((List.replicate ln ((0, 0, ⟨#[]⟩) : Int × Int × ByteArray)).flatMap valC) 27 true)).new (.cells [.int .i64 0, .int .i64 0, .slice none 0 0, .slice none 0 0, .int .i64 0, .int .i64 0, .string ⟨#[]⟩] 33 true)).put (s.next + 6) (.cells [.int .i64 (f : Int), .int .i64 0, .slice (some ⟨s.next + 5, 0, none⟩) ln ln, .slice none 0 0, .int .i64 k2, .int .i64 n2, .string x2] 33 true)) := (by repeat (first | exact St.le_refl _ | assumption | refine St.le_new ?_ | refine St.le_put ?_ (by first | omega | (simp only [St.next_new, St.next_put, St.next_kill]; omega)) | refine St.le_trans ?_ (by assumption)))
  have hS5 : (((((((((s.new (.cells [.int .i64 g, .slice pl pool.length cpp, .slice (some ⟨jc, 0, none⟩) C.length ccp] 25 true)).new (.cells [.int .i64 5, .int .i64 (f : Int), .string x] 27 true)).new (.cells [.int .i64 k2, .int .i64 n2, .string x2] 27 true)).new (.cells [.int .i64 0, .int .i64 0, .slice none 0 0, .slice none 0 0, .int .i64 0, .int .i64 0, .string ⟨#[]⟩] 33 true)).new (.cells [.int .i64 0, .int .i64 0, .int .i64 0, .int .i64 0, .slice none 0 0] 38 true)).put (s.next + 4) (.cells [.int .i64 c.p, .int .i64 (ln : Int), .int .i64 c.s, .int .i64 c.d, .slice c.ad c.ins.length c.cp] 38 true)).new (.cells ((List.replicate ln ((0, 0, ⟨#[]⟩) : Int × Int × ByteArray)).flatMap valC) 27 true)).new (.cells [.int .i64 0, .int .i64 0, .slice none 0 0, .slice none 0 0, .int .i64 0, .int .i64 0, .string ⟨#[]⟩] 33 true)).put (s.next + 6) (.cells [.int .i64 (f : Int), .int .i64 0, .slice (some ⟨s.next + 5, 0, none⟩) ln ln, .slice none 0 0, .int .i64 k2, .int .i64 n2, .string x2] 33 true)).at' (s.next + 5) = some (.cells ((List.replicate ln ((0, 0, ⟨#[]⟩) : Int × Int × ByteArray)).flatMap valC) 27 true) := by simp [St.at_put, St.at_new, St.next_put, St.next_new]
  have hS6 : (((((((((s.new (.cells [.int .i64 g, .slice pl pool.length cpp, .slice (some ⟨jc, 0, none⟩) C.length ccp] 25 true)).new (.cells [.int .i64 5, .int .i64 (f : Int), .string x] 27 true)).new (.cells [.int .i64 k2, .int .i64 n2, .string x2] 27 true)).new (.cells [.int .i64 0, .int .i64 0, .slice none 0 0, .slice none 0 0, .int .i64 0, .int .i64 0, .string ⟨#[]⟩] 33 true)).new (.cells [.int .i64 0, .int .i64 0, .int .i64 0, .int .i64 0, .slice none 0 0] 38 true)).put (s.next + 4) (.cells [.int .i64 c.p, .int .i64 (ln : Int), .int .i64 c.s, .int .i64 c.d, .slice c.ad c.ins.length c.cp] 38 true)).new (.cells ((List.replicate ln ((0, 0, ⟨#[]⟩) : Int × Int × ByteArray)).flatMap valC) 27 true)).new (.cells [.int .i64 0, .int .i64 0, .slice none 0 0, .slice none 0 0, .int .i64 0, .int .i64 0, .string ⟨#[]⟩] 33 true)).put (s.next + 6) (.cells [.int .i64 (f : Int), .int .i64 0, .slice (some ⟨s.next + 5, 0, none⟩) ln ln, .slice none 0 0, .int .i64 k2, .int .i64 n2, .string x2] 33 true)).at' (s.next + 6) = some (.cells [.int .i64 (f : Int), .int .i64 0, .slice (some ⟨s.next + 5, 0, none⟩) ln ln, .slice none 0 0, .int .i64 k2, .int .i64 n2, .string x2] 33 true) := by simp [St.at_put, St.at_new, St.next_put, St.next_new]
  have hS3 : (((((((((s.new (.cells [.int .i64 g, .slice pl pool.length cpp, .slice (some ⟨jc, 0, none⟩) C.length ccp] 25 true)).new (.cells [.int .i64 5, .int .i64 (f : Int), .string x] 27 true)).new (.cells [.int .i64 k2, .int .i64 n2, .string x2] 27 true)).new (.cells [.int .i64 0, .int .i64 0, .slice none 0 0, .slice none 0 0, .int .i64 0, .int .i64 0, .string ⟨#[]⟩] 33 true)).new (.cells [.int .i64 0, .int .i64 0, .int .i64 0, .int .i64 0, .slice none 0 0] 38 true)).put (s.next + 4) (.cells [.int .i64 c.p, .int .i64 (ln : Int), .int .i64 c.s, .int .i64 c.d, .slice c.ad c.ins.length c.cp] 38 true)).new (.cells ((List.replicate ln ((0, 0, ⟨#[]⟩) : Int × Int × ByteArray)).flatMap valC) 27 true)).new (.cells [.int .i64 0, .int .i64 0, .slice none 0 0, .slice none 0 0, .int .i64 0, .int .i64 0, .string ⟨#[]⟩] 33 true)).put (s.next + 6) (.cells [.int .i64 (f : Int), .int .i64 0, .slice (some ⟨s.next + 5, 0, none⟩) ln ln, .slice none 0 0, .int .i64 k2, .int .i64 n2, .string x2] 33 true)).at' (s.next + 3) = some (.cells [.int .i64 0, .int .i64 0, .slice none 0 0, .slice none 0 0, .int .i64 0, .int .i64 0, .string ⟨#[]⟩] 33 true) := by simp [St.at_put, St.at_new, St.next_put, St.next_new]
  have nS : (((((((((s.new (.cells [.int .i64 g, .slice pl pool.length cpp, .slice (some ⟨jc, 0, none⟩) C.length ccp] 25 true)).new (.cells [.int .i64 5, .int .i64 (f : Int), .string x] 27 true)).new (.cells [.int .i64 k2, .int .i64 n2, .string x2] 27 true)).new (.cells [.int .i64 0, .int .i64 0, .slice none 0 0, .slice none 0 0, .int .i64 0, .int .i64 0, .string ⟨#[]⟩] 33 true)).new (.cells [.int .i64 0, .int .i64 0, .int .i64 0, .int .i64 0, .slice none 0 0] 38 true)).put (s.next + 4) (.cells [.int .i64 c.p, .int .i64 (ln : Int), .int .i64 c.s, .int .i64 c.d, .slice c.ad c.ins.length c.cp] 38 true)).new (.cells ((List.replicate ln ((0, 0, ⟨#[]⟩) : Int × Int × ByteArray)).flatMap valC) 27 true)).new (.cells [.int .i64 0, .int .i64 0, .slice none 0 0, .slice none 0 0, .int .i64 0, .int .i64 0, .string ⟨#[]⟩] 33 true)).put (s.next + 6) (.cells [.int .i64 (f : Int), .int .i64 0, .slice (some ⟨s.next + 5, 0, none⟩) ln ln, .slice none 0 0, .int .i64 k2, .int .i64 n2, .string x2] 33 true)).next = s.next + 7 := rfl
  have hqp : (q : Int) ≤ c.p ∧ q ≤ A.length ∧ ((q : Int) = c.p ∨ q = A.length) := by
    revert hq
    split <;> intro hq <;> omega
  rcases hA with ⟨rfl, rfl, rfl⟩ | ⟨j, us, rfl, hj, hjb, hus⟩
  · have hq0 : q = 0 := by have := hqp.2.1; simpa using this
    subst hq0
    simp -implicitDefEqProofs only [↓Zd, (Zp), if_true, if_false, ne_eq, implies_true, forall_const, Nat.reduceEqDiff, reduceIte, reduceCtorEq, Int.reduceEq, Int.reduceNeg, Int.reduceLE, Int.reduceLT, Nat.reduceAdd, Nat.reduceLeDiff, Int.reduceToNat, Nat.reduceMul, Nat.reduceBEq, okPart, Value.cells, cut, okCell, cld2, (BBx), vA, slNil, ↓o_copy, ord7]
    generalize (((((((((s.new (.cells [.int .i64 g, .slice pl pool.length cpp, .slice (some ⟨jc, 0, none⟩) C.length ccp] 25 true)).new (.cells [.int .i64 5, .int .i64 (f : Int), .string x] 27 true)).new (.cells [.int .i64 k2, .int .i64 n2, .string x2] 27 true)).new (.cells [.int .i64 0, .int .i64 0, .slice none 0 0, .slice none 0 0, .int .i64 0, .int .i64 0, .string ⟨#[]⟩] 33 true)).new (.cells [.int .i64 0, .int .i64 0, .int .i64 0, .int .i64 0, .slice none 0 0] 38 true)).put (s.next + 4) (.cells [.int .i64 c.p, .int .i64 (ln : Int), .int .i64 c.s, .int .i64 c.d, .slice c.ad c.ins.length c.cp] 38 true)).new (.cells ((List.replicate ln ((0, 0, ⟨#[]⟩) : Int × Int × ByteArray)).flatMap valC) 27 true)).new (.cells [.int .i64 0, .int .i64 0, .slice none 0 0, .slice none 0 0, .int .i64 0, .int .i64 0, .string ⟨#[]⟩] 33 true)).put (s.next + 6) (.cells [.int .i64 (f : Int), .int .i64 0, .slice (some ⟨s.next + 5, 0, none⟩) ln ln, .slice none 0 0, .int .i64 k2, .int .i64 n2, .string x2] 33 true)) = S7 at lS hS5 hS6 hS3 nS ⊢
    refine .inl (copyNil (ln := ln) (cd := ln) (cs := 0) (d := some ⟨s.next + 5, 0, none⟩) ?_ ?_ ?_)
    · rfl
    · rfl
    simp -implicitDefEqProofs only [↓Zd, (Zp), if_true, if_false, ne_eq, implies_true, forall_const, Nat.reduceEqDiff, reduceIte, reduceCtorEq, Int.reduceEq, Int.reduceNeg, Int.reduceLE, Int.reduceLT, Nat.reduceAdd, Nat.reduceLeDiff, Int.reduceToNat, Nat.reduceMul, Nat.reduceBEq, okPart, Value.cells, cut, okCell, cld2, (BBx), vA, hS6, hS3, hz2, Nat.zero_add, Nat.add_zero]
    have h9 := hyes f c rfl rfl hf (S7.put (s.next + 3) (.cells [.int .i64 (f : Int), .int .i64 0, .slice (some ⟨s.next + 5, 0, none⟩) ln ln, .slice none 0 0, .int .i64 k2, .int .i64 n2, .string x2] 33 true)) (s.next + 5) (List.replicate ln (0, 0, ⟨#[]⟩)) (St.le_put lS (by omega)) (by omega) (by simp only [St.next_put]; omega) (by rw [St.at_put, if_neg (by omega)]; exact hS5) (by rw [List.length_replicate, hln]) (fun i hi => by
      rw [List.length_replicate] at hi
      rw [List.getElem?_replicate, if_pos hi, if_neg (fun hc => by have := hc.2; simp at this)])
    rw [List.length_replicate] at h9
    exact h9
  have hul : q ≤ us.length := by
    by_cases h0 : q = 0
    · omega
    · have h1 := hus (q - 1) (by omega)
      rw [List.getElem?_eq_getElem (by omega : q - 1 < A.length)] at h1
      have := (List.getElem?_eq_some_iff.1 h1).1
      omega
  simp -implicitDefEqProofs only [↓Zd, (Zp), if_true, if_false, ne_eq, implies_true, forall_const, Nat.reduceEqDiff, reduceIte, reduceCtorEq, Int.reduceEq, Int.reduceNeg, Int.reduceLE, Int.reduceLT, Nat.reduceAdd, Nat.reduceLeDiff, Int.reduceToNat, Nat.reduceMul, Nat.reduceBEq, okPart, Value.cells, cut, okCell, cld2, (BBx), vA, slV (show q ≤ acp by omega) hAu, ↓o_copy, ord7]
  generalize (((((((((s.new (.cells [.int .i64 g, .slice pl pool.length cpp, .slice (some ⟨jc, 0, none⟩) C.length ccp] 25 true)).new (.cells [.int .i64 5, .int .i64 (f : Int), .string x] 27 true)).new (.cells [.int .i64 k2, .int .i64 n2, .string x2] 27 true)).new (.cells [.int .i64 0, .int .i64 0, .slice none 0 0, .slice none 0 0, .int .i64 0, .int .i64 0, .string ⟨#[]⟩] 33 true)).new (.cells [.int .i64 0, .int .i64 0, .int .i64 0, .int .i64 0, .slice none 0 0] 38 true)).put (s.next + 4) (.cells [.int .i64 c.p, .int .i64 (ln : Int), .int .i64 c.s, .int .i64 c.d, .slice c.ad c.ins.length c.cp] 38 true)).new (.cells ((List.replicate ln ((0, 0, ⟨#[]⟩) : Int × Int × ByteArray)).flatMap valC) 27 true)).new (.cells [.int .i64 0, .int .i64 0, .slice none 0 0, .slice none 0 0, .int .i64 0, .int .i64 0, .string ⟨#[]⟩] 33 true)).put (s.next + 6) (.cells [.int .i64 (f : Int), .int .i64 0, .slice (some ⟨s.next + 5, 0, none⟩) ln ln, .slice none 0 0, .int .i64 k2, .int .i64 n2, .string x2] 33 true)) = S7 at lS hS5 hS6 hS3 nS ⊢
  refine .inl (copyV (b := s.next + 5) (j := j) (ln := ln) (q := q) (cd := ln) (cs := acp) (us := us) (z := (0, 0, ⟨#[]⟩)) hS5 ((lS.2 j hj).trans hjb) ?_ ?_ (by omega) hul ?_)
  · rfl
  · rfl
  simp -implicitDefEqProofs only [↓Zd, (Zp), if_true, if_false, ne_eq, implies_true, forall_const, Nat.reduceEqDiff, reduceIte, reduceCtorEq, Int.reduceEq, Int.reduceNeg, Int.reduceLE, Int.reduceLT, Nat.reduceAdd, Nat.reduceLeDiff, Int.reduceToNat, Nat.reduceMul, Nat.reduceBEq, okPart, Value.cells, cut, okCell, cld2, (BBx), vA, hS6, hS3, hz2, Nat.zero_add, Nat.add_zero]
  have hVl : (us.take q ++ List.replicate (ln - q) ((0, 0, ⟨#[]⟩) : Int × Int × ByteArray)).length = ln := by rw [List.length_append, List.length_take, List.length_replicate]; omega
  have h9 := hyes f c rfl rfl hf ((S7.put (s.next + 5) (.cells ((us.take q ++ List.replicate (ln - q) ((0, 0, ⟨#[]⟩) : Int × Int × ByteArray)).flatMap valC) 27 true)).put (s.next + 3) (.cells [.int .i64 (f : Int), .int .i64 0, .slice (some ⟨s.next + 5, 0, none⟩) ln ln, .slice none 0 0, .int .i64 k2, .int .i64 n2, .string x2] 33 true)) (s.next + 5) (us.take q ++ List.replicate (ln - q) (0, 0, ⟨#[]⟩)) (St.le_put (St.le_put lS (by omega)) (by omega)) (by omega) (by simp only [St.next_put]; omega) (by rw [St.at_put, if_neg (by omega), St.at_put, if_pos rfl]) (by rw [hVl, hln]) (fun i hi => by
    rw [hVl] at hi
    by_cases h1 : i < q
    · rw [List.getElem?_append_left (by rw [List.length_take]; omega), List.getElem?_take, if_pos h1, hus i (by omega), if_pos ⟨by omega, by omega⟩]
    · rw [List.getElem?_append_right (by rw [List.length_take]; omega), List.getElem?_replicate, if_pos (by rw [List.length_take]; omega), if_neg (by omega)])
  rw [hVl] at h9
  exact h9
end
end Go.Proofs.Tryz
