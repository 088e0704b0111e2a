/- HD0, HD1, HD2, HD3, HD4, HD5, HD6, HD7, HD8, HD9, laid one behind the other. A lemma file: no statement of its own. -/
import Derived.Test.YtnkichmojbanlaaqFacts
import Derived.Test.YtnkichmojbanlaaqTypes
import Derived.Test.YtnkichmojbanlaaqFwF
import Derived.Test.YtnkichmojbanlaaqVal1
set_option linter.unusedSimpArgs false
set_option linter.unusedVariables false
set_option linter.unusedSectionVars false
namespace Go.Proofs.Try
open Go.Cs
open Go.RowKit (Below)
abbrev V3 := Int × Int × ByteArray
abbrev Pl := Option (ByteArray × V3)
def plCells : Pl → List Value
  | none => [.string ⟨#[]⟩, .int .i64 0, .int .i64 0, .string ⟨#[]⟩, .bool false]
  | some (x, k, n, y) => [.string x, .int .i64 k, .int .i64 n, .string y, .bool true]
def plsCells (P : List Pl) : List Value := P.flatMap plCells
theorem plCells_len (p : Pl) : (plCells p).length = 5 := by
  cases p with
  | none => rfl
  | some q => obtain ⟨x, k, n, y⟩ := q; rfl
theorem plsCells_len (P : List Pl) : (plsCells P).length = P.length * 5 := by
  induction P with
  | nil => rfl
  | cons p P ih =>
    show (plCells p ++ plsCells P).length = _
    rw [List.length_append, plCells_len, ih, List.length_cons]; omega
theorem plsCells_app (P : List Pl) (p : Pl) : plsCells (P ++ [p]) = plsCells P ++ plCells p := by
  unfold plsCells; simp
theorem plsCells_get : ∀ (P : List Pl) (i j : Nat) (p : Pl), P[i]? = some p → j < 5 → (plsCells P)[i * 5 + j]? = (plCells p)[j]? := by
  intro P
  induction P with
  | nil => intro i j p h; simp at h
  | cons q P ih =>
    intro i j p h hj
    show (plCells q ++ plsCells P)[i * 5 + j]? = _
    cases i with
    | zero =>
      simp only [List.getElem?_cons_zero, Option.some.injEq] at h
      subst h
      rw [Nat.zero_mul, Nat.zero_add, List.getElem?_append_left (by rw [plCells_len]; exact hj)]
    | succ i =>
      rw [List.getElem?_append_right (by rw [plCells_len]; omega), plCells_len, show (i + 1) * 5 + j - 5 = i * 5 + j from by omega]
      exact ih i j p (by simpa using h) hj
def KV (es : List MapEntry) (kv : List (ByteArray × Nat)) : Prop :=
  es.length = kv.length ∧ ∀ (i : Nat) (e : MapEntry) (x : ByteArray) (j : Nat), es[i]? = some e → kv[i]? = some (x, j) → e.key = .string x ∧ e.val = .int .i64 (j : Int)
theorem KV.nil : KV [] [] := ⟨rfl, fun i e x j h => by simp at h⟩
def kvIdx : List (ByteArray × Nat) → ByteArray → Option (Nat × Nat)
  | [], _ => none
  | (y, j) :: r, x => if y = x then some (0, j) else (kvIdx r x).map fun p => (p.1 + 1, p.2)
theorem KV.tail {e : MapEntry} {es : List MapEntry} {y : ByteArray} {j : Nat} {kv : List (ByteArray × Nat)} (h : KV (e :: es) ((y, j) :: kv)) : e.key = .string y ∧ e.val = .int .i64 (j : Int) ∧ KV es kv := by
  obtain ⟨h1, h2⟩ := h
  obtain ⟨h3, h4⟩ := h2 0 e y j rfl rfl
  exact ⟨h3, h4, by simpa using h1, fun i e' x j' a b => h2 (i + 1) e' x j' (by simpa using a) (by simpa using b)⟩
theorem findKV : ∀ (es : List MapEntry) (kv : List (ByteArray × Nat)) (x : ByteArray) (i : Nat), KV es kv → Instr.findNow .string (.string x) es i = some ((kvIdx kv x).map fun p => (i + p.1, .int .i64 (p.2 : Int))) := by
  intro es
  induction es with
  | nil =>
    intro kv x i h
    have : kv = [] := by have := h.1; simp at this; exact List.eq_nil_of_length_eq_zero this.symm
    subst this
    rfl
  | cons e es ih =>
    intro kv x i h
    cases kv with
    | nil => have := h.1; simp at this
    | cons p kv =>
      obtain ⟨y, j⟩ := p
      obtain ⟨h1, h2, h3⟩ := h.tail
      simp only [Instr.findNow, Instr.sameNow, h1, kvIdx]
      by_cases e1 : y = x
      · subst e1
        have : (y == y) = true := ba_beq_iff.2 rfl
        rw [this]
        simp [h2]
      · have : (x == y) = false := by rw [Bool.eq_false_iff]; intro h; exact e1 (ba_beq_iff.1 h).symm
        rw [this]
        simp only [if_neg e1, ih kv x (i + 1) h3]
        cases kvIdx kv x with
        | none => rfl
        | some p => simp; omega
theorem cfind_kv {es : List MapEntry} {kv : List (ByteArray × Nat)} (h : KV es kv) (x : ByteArray) : cfind Try.prog 9 (.string x) es = some ((kvIdx kv x).map fun p => (p.1, .int .i64 (p.2 : Int))) := by
  unfold cfind
  rw [if_pos (show plain 6 (Value.string x) = true from rfl), underlying9]
  simp only [findKV es kv x 0 h, Nat.zero_add]
theorem kvIdx_some : ∀ {kv : List (ByteArray × Nat)} {x : ByteArray} {i j : Nat}, kvIdx kv x = some (i, j) → kv[i]? = some (x, j) := by
  intro kv
  induction kv with
  | nil => intro x i j h; cases h
  | cons p kv ih =>
    intro x i j h
    obtain ⟨y, j0⟩ := p
    unfold kvIdx at h
    split at h
    · rename_i e; cases h; simp [e]
    · obtain ⟨q, hq, e⟩ := Option.map_eq_some_iff.1 h
      obtain ⟨i', j'⟩ := q
      cases e
      simpa using ih hq
theorem kvIdx_none : ∀ {kv : List (ByteArray × Nat)} {x : ByteArray}, kvIdx kv x = none → ∀ j, (x, j) ∉ kv := by
  intro kv
  induction kv with
  | nil => intro x _ j h; cases h
  | cons p kv ih =>
    intro x h j hm
    obtain ⟨y, j0⟩ := p
    unfold kvIdx at h
    split at h
    · cases h
    · rename_i hne
      have h1 := Option.map_eq_none_iff.1 h
      rcases List.mem_cons.1 hm with e | hm
      · cases e; exact hne rfl
      · exact ih h1 j hm
theorem KV.app {es : List MapEntry} {kv : List (ByteArray × Nat)} (h : KV es kv) {x : ByteArray} {j b : Nat} : KV (es ++ [{ key := .string x, val := .int .i64 (j : Int), born := b }]) (kv ++ [(x, j)]) := by
  refine ⟨by simp [h.1], fun i e y k h1 h2 => ?_⟩
  by_cases hi : i < es.length
  · rw [List.getElem?_append_left hi] at h1
    rw [List.getElem?_append_left (by rw [← h.1]; exact hi)] at h2
    exact h.2 i e y k h1 h2
  · rw [List.getElem?_append_right (by omega)] at h1
    rw [List.getElem?_append_right (by rw [← h.1]; omega), ← h.1] at h2
    by_cases h0 : i - es.length = 0
    · rw [h0] at h1 h2
      simp at h1 h2
      subst h1
      exact ⟨by rw [h2.1], by rw [h2.2]⟩
    · rw [List.getElem?_eq_none (by simp; omega)] at h1; cases h1
theorem KV.erase {es : List MapEntry} {kv : List (ByteArray × Nat)} (h : KV es kv) (i : Nat) : KV (es.eraseIdx i) (kv.eraseIdx i) := by
  refine ⟨by rw [List.length_eraseIdx, List.length_eraseIdx, h.1], fun k e x j h1 h2 => ?_⟩
  rw [List.getElem?_eraseIdx] at h1 h2
  split at h1
  · rename_i hk; rw [if_pos hk] at h2; exact h.2 k e x j h1 h2
  · rename_i hk; rw [if_neg hk] at h2; exact h.2 (k + 1) e x j h1 h2
theorem KV.set {es : List MapEntry} {kv : List (ByteArray × Nat)} (h : KV es kv) {i : Nat} {x : ByteArray} {j0 : Nat} (hi : kv[i]? = some (x, j0)) (j : Nat) :
    KV (es.modify i fun e => { e with key := .string x, val := .int .i64 (j : Int) }) (kv.set i (x, j)) := by
  refine ⟨by rw [List.length_modify, List.length_set, h.1], fun k e y m h1 h2 => ?_⟩
  rw [List.getElem?_modify] at h1
  rw [List.getElem?_set] at h2
  by_cases e1 : i = k
  · subst e1
    have hlt := (List.getElem?_eq_some_iff.1 hi).1
    simp only [if_true, hlt] at h1 h2
    cases h2
    obtain ⟨e0, _, rfl⟩ := Option.map_eq_some_iff.1 h1
    exact ⟨rfl, rfl⟩
  · simp only [e1, if_false] at h1 h2
    exact h.2 k e y m (by simpa using h1) h2
structure KP (kv : List (ByteArray × Nat)) (P : List Pl) : Prop where
  nodup : (kv.map (·.1)).Nodup
  mem : ∀ x j, (x, j) ∈ kv ↔ ∃ v, P[j]? = some (some (x, v))
def props (P : List Pl) : List (ByteArray × V3) := P.filterMap id
theorem KP.nil : KP [] [] := ⟨List.nodup_nil, fun x j => by simp⟩
theorem KP.one {kv : List (ByteArray × Nat)} {P : List Pl} (h : KP kv P) {x : ByteArray} {j k : Nat} (h1 : (x, j) ∈ kv) (h2 : (x, k) ∈ kv) : j = k := by
  have key : ∀ (l : List (ByteArray × Nat)), (l.map (·.1)).Nodup → (x, j) ∈ l → (x, k) ∈ l → j = k := by
    intro l
    induction l with
    | nil => intro _ h; cases h
    | cons p l ih =>
      intro hn a b
      simp only [List.map_cons, List.nodup_cons] at hn
      rcases List.mem_cons.1 a with ea | a <;> rcases List.mem_cons.1 b with eb | b
      · rw [← ea] at eb; cases eb; rfl
      · exact absurd (List.mem_map_of_mem b) (by rw [← ea] at hn; exact hn.1)
      · exact absurd (List.mem_map_of_mem a) (by rw [← eb] at hn; exact hn.1)
      · exact ih hn.2 a b
  exact key kv h.nodup h1 h2
theorem KP.idx {kv : List (ByteArray × Nat)} {P : List Pl} (h : KP kv P) {x : ByteArray} {i j : Nat} (hi : kvIdx kv x = some (i, j)) : ∃ v, P[j]? = some (some (x, v)) :=
  (h.mem x j).1 (List.mem_of_getElem? (kvIdx_some hi))
theorem KP.no {kv : List (ByteArray × Nat)} {P : List Pl} (h : KP kv P) {x : ByteArray} (hi : kvIdx kv x = none) (j : Nat) (v : V3) : P[j]? ≠ some (some (x, v)) :=
  fun e => kvIdx_none hi j ((h.mem x j).2 ⟨v, e⟩)
theorem KP.app {kv : List (ByteArray × Nat)} {P : List Pl} (h : KP kv P) {x : ByteArray} (hx : kvIdx kv x = none) (v : V3) : KP (kv ++ [(x, P.length)]) (P ++ [some (x, v)]) := by
  refine ⟨?_, fun y j => ?_⟩
  · rw [List.map_append, List.nodup_append]
    refine ⟨h.nodup, by simp, fun a ha b hb e => ?_⟩
    simp at hb
    subst hb; subst e
    obtain ⟨⟨y, j⟩, hm, e⟩ := List.mem_map.1 ha
    simp only at e
    subst e
    exact kvIdx_none hx j hm
  · rw [List.mem_append, h.mem]
    constructor
    · rintro (⟨v', hv⟩ | hm)
      · exact ⟨v', by rw [List.getElem?_append_left (List.getElem?_eq_some_iff.1 hv).1]; exact hv⟩
      · simp at hm
        obtain ⟨rfl, rfl⟩ := hm
        exact ⟨v, by simp⟩
    · rintro ⟨v', hv⟩
      by_cases hj : j < P.length
      · rw [List.getElem?_append_left hj] at hv; exact .inl ⟨v', hv⟩
      · rw [List.getElem?_append_right (by omega)] at hv
        by_cases h0 : j - P.length = 0
        · rw [h0] at hv
          simp at hv
          right
          simp [hv.1, show j = P.length by omega]
        · rw [List.getElem?_eq_none (by simp; omega)] at hv; cases hv
theorem KP.put {kv : List (ByteArray × Nat)} {P : List Pl} (h : KP kv P) {x : ByteArray} {i j : Nat} (hi : kvIdx kv x = some (i, j)) (v : V3) : KP kv (P.set j (some (x, v))) := by
  refine ⟨h.nodup, fun y k => ?_⟩
  obtain ⟨v0, h0⟩ := h.idx hi
  have hlt := (List.getElem?_eq_some_iff.1 h0).1
  rw [h.mem, List.getElem?_set]
  by_cases e : j = k
  · subst e
    simp only [if_true, hlt]
    constructor
    · rintro ⟨v', hv⟩
      rw [h0] at hv
      simp at hv
      exact ⟨v, by rw [hv.1]⟩
    · rintro ⟨v', hv⟩
      simp at hv
      exact ⟨v0, by rw [← hv.1]; exact h0⟩
  · simp only [e, if_false]
end Go.Proofs.Try
set_option linter.unusedSimpArgs false
set_option linter.unusedVariables false
set_option linter.unusedSectionVars false
namespace Go.Proofs.Try
open Go.Cs
open Go.RowKit (Below)
set_option maxRecDepth 100000
attribute [local irreducible] CCalls WLoop WScope
section
variable {M : Type} [Mem M] {w0 : World} {s : St M} {R : Value → St M → Prop}
def SlU (e : TypeId) (sz : Nat) (s : St M) (sl : Value) (cs : List Value) (n : Nat) : Prop :=
  (n = 0 ∧ cs = [] ∧ sl = .slice none 0 0) ∨ (∃ b junk, sl = .slice (some ⟨b, 0, none⟩) n UNK ∧ s.at' b = some (.cells (cs ++ junk) e true) ∧ cs.length = n * sz)
theorem SlU.same {e : TypeId} {sz : Nat} {s s' : St M} {sl : Value} {cs : List Value} {n : Nat} (h : SlU e sz s sl cs n) (hs : ∀ q m c, sl = .slice (some q) m c → s'.at' q.block = s.at' q.block) : SlU e sz s' sl cs n := by
  rcases h with h | ⟨b, c, h1, h2, h4⟩
  · exact .inl h
  · exact .inr ⟨b, c, h1, by rw [hs _ _ _ h1]; exact h2, h4⟩
structure DictAt (lo : Nat) (s : St M) (p : Nat) (L : List (ByteArray × V3)) (N : Nat) (O : Nat → Prop) : Prop where
  own : ∀ b, O b → lo ≤ b ∧ b < s.next
  pin : O p
  bl : ∃ P m sl es clock kv, props P = L ∧ P.length ≤ N ∧ s.at' p = some (.cells [.map (some m), sl] 134 true) ∧ s.at' m = some (.map es clock) ∧ KV es kv ∧ KP kv P ∧ O m ∧ m ≠ p ∧
    SlU 151 5 s sl (plsCells P) P.length ∧ (∀ q n c, sl = .slice (some q) n c → O q.block ∧ q.block ≠ p ∧ q.block ≠ m)
theorem DictAt.same {lo : Nat} {s s' : St M} {p : Nat} {L : List (ByteArray × V3)} {N : Nat} {O : Nat → Prop} (h : DictAt lo s p L N O) (hn : s.next ≤ s'.next) (hs : ∀ b, O b → s'.at' b = s.at' b) : DictAt lo s' p L N O := by
  obtain ⟨h1, h2, P, m, sl, es, clock, kv, h3, hN, h4, h5, h6, h7, h8, h9, h10, h11⟩ := h
  exact ⟨fun b hb => ⟨(h1 b hb).1, by have := (h1 b hb).2; omega⟩, h2, P, m, sl, es, clock, kv, h3, hN, by rw [hs _ h2]; exact h4, by rw [hs _ h8]; exact h5, h6, h7, h8, h9, h10.same fun q n c e => hs _ (h11 q n c e).1, h11⟩
def getP : List (ByteArray × V3) → ByteArray → Option V3
  | [], _ => none
  | (y, v) :: L, x => if y = x then some v else getP L x
def vOf (v : V3) : Value := vA v.1 v.2.1 v.2.2
def gotV (o : Option V3) : Value := match o with
  | some v => .tuple #[vOf v, .bool true]
  | none => .tuple #[vA 0 0 ⟨#[]⟩, .bool false]
theorem ddead_spec {p : Nat} {m : Nat} {sl : Value} (h0 : s.at' p = some (.cells [.map (some m), sl] 134 true)) (h : R (.bool false) s) : CCalls Try.prog w0 72 #[.pointer (some ⟨p, 0, none⟩)] s R := by
  refine wfun2 hmix ok72 (l := [.pointer (some ⟨p, 0, none⟩)]) func72 rfl ntmps72 results72 (by simp) ?_
  simp -implicitDefEqProofs only [↓Zd, (Zp), if_true, if_false, ne_eq, implies_true, forall_const, Nat.reduceEqDiff, reduceIte, reduceCtorEq, Int.reduceEq, Int.reduceNeg, Int.reduceLE, Int.reduceLT, Nat.reduceAdd, Nat.reduceLeDiff, Int.reduceToNat, Nat.reduceMul, Nat.reduceBEq, okPart, Value.cells, cut, okCell, cld2, underlying3, underlying4, underlying9, underlying5, underlying32, underlying0, be4, bn4, underlying128, h0, nf64, nf128, fa134x0, ag128]
  exact h
theorem dnew_spec (h : ∀ s' p, DictAt s.next s' p [] 0 (fun b => s.next ≤ b ∧ b < s'.next) → s.le s' → R (.pointer (some ⟨p, 0, none⟩)) s') : CCalls Try.prog w0 22 #[] s R := by
  refine wfun2 hmix ok22 (l := []) func22 rfl ntmps22 results22 (by simp) ?_
  have hb : ∀ m : Nat, cbuild Try.prog 134 #[(0, .map (some m))] = some (.agg #[.map (some m), .slice none 0 0]) := fun m => by kernel_rfl
  simp -implicitDefEqProofs only [↓Zd, (Zp), if_true, if_false, ne_eq, implies_true, forall_const, Nat.reduceEqDiff, reduceIte, reduceCtorEq, Int.reduceEq, Int.reduceNeg, Int.reduceLE, Int.reduceLT, Nat.reduceAdd, Nat.reduceLeDiff, Int.reduceToNat, Nat.reduceMul, Nat.reduceBEq, okPart, Value.cells, cut, okCell, cld2, underlying3, underlying4, underlying9, underlying5, underlying32, underlying0, be4, bn4, underlying128, hb, is134]
  refine h _ _ ⟨fun b hb => hb, by simp, [], s.next, .slice none 0 0, [], 0, [], rfl, Nat.le_refl _, by simp, by simp, .nil, .nil, ⟨by omega, by simp only [St.next_new]; omega⟩, by simp, .inl ⟨rfl, rfl, rfl⟩, fun q n c e => by cases e⟩ (by repeat (first | exact St.le_refl _ | assumption | refine St.le_new ?_ | refine St.le_put ?_ (by first | omega | (simp only [St.next_new, St.next_put, St.next_kill]; omega)) | refine St.le_trans ?_ (by assumption)))
theorem get_props {kv : List (ByteArray × Nat)} {P : List Pl} (h : KP kv P) (x : ByteArray) : getP (props P) x = match kvIdx kv x with
    | some (_, j) => (match P[j]? with | some (some (_, v)) => some v | _ => none)
    | none => none := by
  have key : ∀ (P : List Pl), (∀ (j k : Nat) (v w : V3), P[j]? = some (some (x, v)) → P[k]? = some (some (x, w)) → j = k) → (∀ v : V3, getP (props P) x = some v ↔ ∃ j : Nat, P[j]? = some (some (x, v))) := by
    intro P
    induction P with
    | nil => intro _ v; simp [props, getP]
    | cons p P ih =>
      intro hu v
      have ih := ih (fun j k v w a b => by have := hu (j + 1) (k + 1) v w (by simpa using a) (by simpa using b); omega) v
      cases p with
      | none =>
        show getP (props P) x = some v ↔ _
        rw [ih]
        constructor
        · rintro ⟨j, hj⟩; exact ⟨j + 1, by simpa using hj⟩
        · rintro ⟨j, hj⟩
          cases j with
          | zero => simp at hj
          | succ j => exact ⟨j, by simpa using hj⟩
      | some q =>
        obtain ⟨y, u⟩ := q
        show getP ((y, u) :: props P) x = some v ↔ _
        simp only [getP]
        by_cases e : y = x
        · subst e
          rw [if_pos rfl]
          constructor
          · intro e; cases e; exact ⟨0, rfl⟩
          · rintro ⟨j, hj⟩
            have := hu 0 j u v rfl hj
            subst this
            simp at hj
            rw [hj]
        · rw [if_neg e, ih]
          constructor
          · rintro ⟨j, hj⟩; exact ⟨j + 1, by simpa using hj⟩
          · rintro ⟨j, hj⟩
            cases j with
            | zero => simp at hj; exact absurd hj.1 e
            | succ j => exact ⟨j, by simpa using hj⟩
  have hu : ∀ (j k : Nat) (v w : V3), P[j]? = some (some (x, v)) → P[k]? = some (some (x, w)) → j = k := fun j k v w a b => h.one ((h.mem x j).2 ⟨v, a⟩) ((h.mem x k).2 ⟨w, b⟩)
  cases hi : kvIdx kv x with
  | none =>
    simp only
    cases hg : getP (props P) x with
    | none => rfl
    | some v =>
      obtain ⟨j, hj⟩ := (key P hu v).1 hg
      exact absurd hj (h.no hi j v)
  | some ij =>
    obtain ⟨i, j⟩ := ij
    obtain ⟨v, hv⟩ := h.idx hi
    simp only [hv]
    exact (key P hu v).2 ⟨j, hv⟩
theorem bVal : cbuild Try.prog 37 #[] = some (.agg #[.int .i64 0, .int .i64 0, .string (ByteArray.mk #[])]) := by kernel_rfl
theorem zc5 : ∀ (P : List Pl) (j : Nat) (x : ByteArray) (k n : Int) (y : ByteArray) (junk : List Value), P[j]? = some (some (x, k, n, y)) → j * 5 + 4 ≤ (plsCells P ++ junk).length ∧ List.take 3 (List.drop (j * 5 + 1) (plsCells P ++ junk)) = [.int .i64 k, .int .i64 n, .string y] := by
  intro P j x k n y junk h
  have hlt := (List.getElem?_eq_some_iff.1 h).1
  have hl := plsCells_len P
  refine ⟨by rw [List.length_append]; omega, ?_⟩
  have g : ∀ i : Nat, i < 5 → (plsCells P ++ junk)[j * 5 + i]? = [Value.string x, .int .i64 k, .int .i64 n, .string y, .bool true][i]? := by
    intro i hi
    rw [List.getElem?_append_left (by omega), plsCells_get P j i _ h hi]
    rfl
  apply List.ext_getElem?
  intro i
  rw [List.getElem?_take]
  by_cases hi : i < 3
  · rw [if_pos hi, List.getElem?_drop, show j * 5 + 1 + i = j * 5 + (i + 1) from by omega, g (i + 1) (by omega)]
    have : i = 0 ∨ i = 1 ∨ i = 2 := by omega
    rcases this with rfl | rfl | rfl <;> rfl
  · rw [if_neg hi, List.getElem?_eq_none (by simp; omega)]
set_option maxHeartbeats 4000000 in
theorem dget_spec {lo p : Nat} {L : List (ByteArray × V3)} {N : Nat} {x : ByteArray} {O : Nat → Prop} (hD : DictAt lo s p L N O) (h : ∀ s', s.le s' → R (gotV (getP L x)) s') : CCalls Try.prog w0 85 #[.pointer (some ⟨p, 0, none⟩), .string x] s R := by
  refine wfun2 hmix ok85 (l := [.pointer (some ⟨p, 0, none⟩), .string x]) func85 rfl ntmps85 results85 (by simp) ?_
  obtain ⟨h1, h2, P, m, sl, es, clock, kv, h3, hN, h4, h5, h6, h7, h8, h9, h10, h11⟩ := hD
  have hp := (h1 p h2).2
  have hm := (h1 m h8).2
  have hpn : ¬ p = s.next := by omega
  have hmn : ¬ m = s.next := by omega
  simp -implicitDefEqProofs only [↓Zd, (Zp), if_true, if_false, ne_eq, implies_true, forall_const, Nat.reduceEqDiff, reduceIte, reduceCtorEq, Int.reduceEq, Int.reduceNeg, Int.reduceLE, Int.reduceLT, Nat.reduceAdd, Nat.reduceLeDiff, Int.reduceToNat, Nat.reduceMul, Nat.reduceBEq, okPart, Value.cells, cut, okCell, cld2, underlying3, underlying4, underlying9, underlying37, vA, is37, ag37, ce37, fa37x0, fa37x1, fa37x2, ag3, ce3, ag9, ce9, underlying3, underlying4, underlying9, underlying5, underlying32, underlying0, be4, bn4, ze37, co72]
  refine ddead_spec (m := m) (sl := sl) (by rw [St.at_new, if_neg hpn]; exact h4) ?_
  subst h3
  have hcf := cfind_kv h6 x
  rw [get_props h7] at h
  cases hi : kvIdx kv x with
  | none =>
    rw [hi] at h hcf
    simp -implicitDefEqProofs only [↓Zd, (Zp), if_true, if_false, ne_eq, implies_true, forall_const, Nat.reduceEqDiff, reduceIte, reduceCtorEq, Int.reduceEq, Int.reduceNeg, Int.reduceLE, Int.reduceLT, Nat.reduceAdd, Nat.reduceLeDiff, Int.reduceToNat, Nat.reduceMul, Nat.reduceBEq, okPart, Value.cells, cut, okCell, cld2, underlying3, underlying4, underlying9, underlying37, vA, is37, ag37, ce37, fa37x0, fa37x1, fa37x2, ag3, ce3, ag9, ce9, underlying3, underlying4, underlying9, underlying5, underlying32, underlying0, be4, bn4, underlying128, underlying135, h4, h5, hpn, hmn, hcf, bVal, sz37, ze3, fa134x0, ag128]
    exact h _ (by repeat (first | exact St.le_refl _ | assumption | refine St.le_new ?_ | refine St.le_put ?_ (by first | omega | (simp only [St.next_new, St.next_put, St.next_kill]; omega)) | refine St.le_trans ?_ (by assumption)))
  | some ij =>
    obtain ⟨i, j⟩ := ij
    obtain ⟨⟨k, n, y⟩, hv⟩ := h7.idx hi
    rw [hi] at h hcf
    simp only [hv] at h
    have hlt := (List.getElem?_eq_some_iff.1 hv).1
    rcases h10 with ⟨e0, _⟩ | ⟨b, junk, rfl, hb, hl⟩
    · omega
    have hbn : ¬ b = s.next := by have := (h1 b (h11 _ _ _ rfl).1).2; omega
    have hlt' : (j : Int) < (P.length : Int) := by omega
    have hge : (0 : Int) ≤ (j : Int) := by omega
    obtain ⟨hle, htk⟩ := zc5 P j x k n y junk hv
    simp -implicitDefEqProofs only [↓Zd, (Zp), if_true, if_false, ne_eq, implies_true, forall_const, Nat.reduceEqDiff, reduceIte, reduceCtorEq, Int.reduceEq, Int.reduceNeg, Int.reduceLE, Int.reduceLT, Nat.reduceAdd, Nat.reduceLeDiff, Int.reduceToNat, Nat.reduceMul, Nat.reduceBEq, okPart, Value.cells, cut, okCell, cld2, underlying3, underlying4, underlying9, underlying37, vA, is37, ag37, ce37, fa37x0, fa37x1, fa37x2, ag3, ce3, ag9, ce9, underlying3, underlying4, underlying9, underlying5, underlying32, underlying0, be4, bn4, underlying128, underlying135, underlying132, underlying151, h4, h5, hpn, hmn, hcf, sz37, ze3, fa134x0, fa134x1, fa151x1, ag128, ag132, sz151, hlt', hge, Int.toNat_natCast, hb, hbn, hle, htk, Nat.zero_add]
    exact h _ (by repeat (first | exact St.le_refl _ | assumption | refine St.le_new ?_ | refine St.le_put ?_ (by first | omega | (simp only [St.next_new, St.next_put, St.next_kill]; omega)) | refine St.le_trans ?_ (by assumption)))
end
end Go.Proofs.Try
set_option linter.unusedSimpArgs false
set_option linter.unusedVariables false
set_option linter.unusedSectionVars false
namespace Go.Proofs.Try
open Go.Cs
open Go.RowKit (Below)
set_option maxRecDepth 100000
attribute [local irreducible] CCalls WLoop WScope
def setP : List (ByteArray × V3) → ByteArray → V3 → List (ByteArray × V3)
  | [], x, v => [(x, v)]
  | (y, w) :: L, x, v => if y = x then (x, v) :: L else (y, w) :: setP L x v
theorem setP_none : ∀ (L : List (ByteArray × V3)) (x : ByteArray) (v : V3), getP L x = none → setP L x v = L ++ [(x, v)] := by
  intro L
  induction L with
  | nil => intro x v _; rfl
  | cons p L ih =>
    intro x v h
    obtain ⟨y, w⟩ := p
    simp only [getP] at h
    simp only [setP]
    split at h
    · cases h
    · rename_i e; rw [if_neg e, ih x v h]; rfl
theorem props_set : ∀ (P : List Pl) (j : Nat) (x : ByteArray) (v w : V3), P[j]? = some (some (x, w)) → (∀ (k : Nat) (u : V3), P[k]? = some (some (x, u)) → k = j) → props (P.set j (some (x, v))) = setP (props P) x v := by
  intro P
  induction P with
  | nil => intro j x v w h; simp at h
  | cons p P ih =>
    intro j x v w h hu
    cases j with
    | zero =>
      simp at h
      subst h
      show (x, v) :: props P = setP ((x, w) :: props P) x v
      simp [setP]
    | succ j =>
      have ih := ih j x v w (by simpa using h) (fun k u hk => by have := hu (k + 1) u (by simpa using hk); omega)
      cases p with
      | none => exact ih
      | some q =>
        obtain ⟨y, u⟩ := q
        have hne : ¬ y = x := fun e => by subst e; have := hu 0 u rfl; omega
        show (y, u) :: props (P.set j (some (x, v))) = setP ((y, u) :: props P) x v
        simp only [setP, if_neg hne, ih]
theorem props_app (P : List Pl) (x : ByteArray) (v : V3) : props (P ++ [some (x, v)]) = props P ++ [(x, v)] := by
  unfold props; simp
theorem set_pls : ∀ (P : List Pl) (j : Nat) (x : ByteArray) (w : V3) (k n : Int) (y : ByteArray) (junk : List Value), P[j]? = some (some (x, w)) →
    setCells (plsCells P ++ junk) (j * 5 + 1) [.int .i64 k, .int .i64 n, .string y] = plsCells (P.set j (some (x, k, n, y))) ++ junk := by
  intro P j x w k n y junk h
  simp only [setCells_cons, setCells_nil]
  apply List.ext_getElem?
  intro i
  have hlt := (List.getElem?_eq_some_iff.1 h).1
  have hl := plsCells_len P
  have hl2 := plsCells_len (P.set j (some (x, k, n, y)))
  rw [List.length_set] at hl2
  by_cases hi : i < P.length * 5
  · rw [List.getElem?_append_left (by omega)]
    obtain ⟨q, r, rfl, hr⟩ : ∃ q r, i = q * 5 + r ∧ r < 5 := ⟨i / 5, i % 5, by omega, Nat.mod_lt _ (by omega)⟩
    have hq : q < P.length := by omega
    have hP : P[q]? = some P[q] := by simp [hq]
    have base : (plsCells P ++ junk)[q * 5 + r]? = (plCells P[q])[r]? := by rw [List.getElem?_append_left (by omega)]; exact plsCells_get P q r _ hP hr
    by_cases e : q = j
    · subst e
      rw [hP] at h
      simp at h
      rw [plsCells_get _ q r (some (x, k, n, y)) (by simp [hq]) hr]
      rw [h] at base
      have : r = 0 ∨ r = 1 ∨ r = 2 ∨ r = 3 ∨ r = 4 := by omega
      have hlen : q * 5 + 4 < (plsCells P ++ junk).length := by rw [List.length_append]; omega
      rcases this with rfl | rfl | rfl | rfl | rfl
      · rw [List.getElem?_set_ne (by omega), List.getElem?_set_ne (by omega), List.getElem?_set_ne (by omega), base]; rfl
      · rw [List.getElem?_set_ne (by omega), List.getElem?_set_ne (by omega), List.getElem?_set_self (by omega)]; rfl
      · rw [List.getElem?_set_ne (by omega), show q * 5 + 2 = q * 5 + 1 + 1 from rfl, List.getElem?_set_self (by rw [List.length_set]; omega)]; rfl
      · rw [show q * 5 + 3 = q * 5 + 1 + 1 + 1 from rfl, List.getElem?_set_self (by rw [List.length_set, List.length_set]; omega)]; rfl
      · rw [List.getElem?_set_ne (by omega), List.getElem?_set_ne (by omega), List.getElem?_set_ne (by omega), base]; rfl
    · rw [plsCells_get _ q r P[q] (by rw [List.getElem?_set, if_neg (Ne.symm e)]; exact hP) hr, ← base]
      rw [List.getElem?_set_ne (by omega), List.getElem?_set_ne (by omega), List.getElem?_set_ne (by omega)]
  · rw [List.getElem?_append_right (by omega), hl2]
    rw [List.getElem?_set_ne (by omega), List.getElem?_set_ne (by omega), List.getElem?_set_ne (by omega), List.getElem?_append_right (by omega), hl]
section
variable {M : Type} [Mem M] {w0 : World} {s : St M} {R : Value → St M → Prop}
theorem app_rowU {P : Program} {s : St M} {e t1 t2 : TypeId} {ie : TypeInfo} {z sl v : Value} {old new : List Value} {n k : Nat} (hie : P.info? e = some ie) (hz : czero P e = some z) (hzs : z.cells.size = ie.size) (hb : 0 < ie.bytes)
    (happ : capp P #[t1, t2] #[sl, v] s = capp3 P e ie sl s (cmore ie.size v s)) (hk : k ≠ 0) (hlen : (n + k) * ie.bytes ≤ 140737488355328) (hok : new.all okCell = true) (hv : cmore ie.size v s = some (k, new)) (hsl : SlU e ie.size s sl old n) :
    ∃ s', capp P #[t1, t2] #[sl, v] s = some (.slice (some ⟨s.next, 0, none⟩) (n + k) UNK, s') ∧ s'.next = s.next + 1 ∧ s'.at' s.next = some (.cells (old ++ new) e true) ∧
      (∀ b, b ≠ s.next → (∀ q m c, sl = .slice (some q) m c → b ≠ q.block) → s'.at' b = s.at' b) := by
  rw [happ, hv]
  unfold capp3
  simp only [hok, Bool.true_eq_false, if_false]
  rcases hsl with ⟨rfl, rfl, rfl⟩ | ⟨b, junk, rfl, hb', hl⟩
  · simp only [hk, if_false]
    unfold cgrow
    rw [hz]
    simp only [hzs]
    rw [if_pos ⟨trivial, hb, by simpa using hlen⟩]
    exact ⟨s.new (.cells new e true), by simp, by simp, by simp, fun c hc _ => by rw [St.at_new, if_neg hc]⟩
  · have hcut : cut (old ++ junk) 0 (n * ie.size) = some old := by
      unfold cut
      rw [if_pos (by rw [List.length_append]; omega), List.drop_zero, ← hl, List.take_left']
      rfl
    simp only [if_true, hk, if_false, hb']
    unfold capp4
    simp only [hcut, Nat.zero_mod, and_self, if_true]
    unfold cgrow
    rw [hz]
    simp only [hzs]
    rw [if_pos ⟨trivial, hb, hlen⟩]
    refine ⟨(s.kill b).new (.cells (old ++ new) e true), by simp, by simp, by simp, fun c hc hq => ?_⟩
    rw [St.at_new, St.next_kill, if_neg hc, St.at_kill, if_neg (hq _ _ _ rfl)]
theorem bPlace (x : ByteArray) (k n : Int) (y : ByteArray) : cbuild Try.prog 151 #[(0, .string x), (1, .agg #[.int .i64 k, .int .i64 n, .string y]), (2, .bool true)] = some (.agg #[.string x, .int .i64 k, .int .i64 n, .string y, .bool true]) := by kernel_rfl
theorem rowPlace (x : ByteArray) (k n : Int) (y : ByteArray) : crow Try.prog 132 1 #[(0, .agg #[.string x, .int .i64 k, .int .i64 n, .string y, .bool true])] = some (.cells [.string x, .int .i64 k, .int .i64 n, .string y, .bool true] 151 true) := by kernel_rfl
theorem infoPlace : ∃ ie, Try.prog.info? 151 = some ie ∧ ie.size = 5 ∧ 0 < ie.bytes ∧ ie.bytes ≤ 100 := by
  obtain ⟨ie, h⟩ := Option.isSome_iff_exists.1 is151
  have h1 := ce151
  have h2 : decide (0 < Try.prog.bytesOf 151 ∧ Try.prog.bytesOf 151 ≤ 100) = true := by kernel_rfl
  rw [cellsOf_info h] at h1
  simp only [Program.bytesOf, h, decide_eq_true_eq] at h2
  exact ⟨ie, h, h1, h2.1, h2.2⟩
theorem app_place {s : St M} {sl : Value} {P : List Pl} {x : ByteArray} {k n : Int} {y : ByteArray} (hlen : P.length ≤ 1000000) (hsl : SlU 151 5 s sl (plsCells P) P.length) (hfr : ∀ q m c, sl = .slice (some q) m c → q.block < s.next) :
    ∃ s', capp Try.prog #[132, 132] #[sl, .slice (some ⟨s.next, 0, none⟩) 1 1] (s.new (.cells [.string x, .int .i64 k, .int .i64 n, .string y, .bool true] 151 true)) = some (.slice (some ⟨s.next + 1, 0, none⟩) (P.length + 1) UNK, s') ∧ s'.next = s.next + 2 ∧
      s'.at' (s.next + 1) = some (.cells (plsCells (P ++ [some (x, k, n, y)])) 151 true) ∧ (∀ b, b < s.next → (∀ q n c, sl = .slice (some q) n c → b ≠ q.block) → s'.at' b = s.at' b) := by
  obtain ⟨ie, hie, h1, h2, h3⟩ := infoPlace
  have hcapp : capp Try.prog #[132, 132] #[sl, .slice (some ⟨s.next, 0, none⟩) 1 1] (s.new (.cells [.string x, .int .i64 k, .int .i64 n, .string y, .bool true] 151 true)) = capp3 Try.prog 151 ie sl (s.new (.cells [.string x, .int .i64 k, .int .i64 n, .string y, .bool true] 151 true)) (cmore ie.size (.slice (some ⟨s.next, 0, none⟩) 1 1) (s.new (.cells [.string x, .int .i64 k, .int .i64 n, .string y, .bool true] 151 true))) :=
    app_eq underlying132 underlying132 hie
  have hv : cmore ie.size (.slice (some ⟨s.next, 0, none⟩) 1 1) (s.new (.cells [.string x, .int .i64 k, .int .i64 n, .string y, .bool true] 151 true)) = some (1, [.string x, .int .i64 k, .int .i64 n, .string y, .bool true]) := by
    simp only [more_at, St.at_new, if_true, more2, h1]; rfl
  obtain ⟨s', h3, h4, h5, h6⟩ := app_rowU (n := P.length) (k := 1) hie ze151 (by rw [h1]; rfl) h2 hcapp (by omega) (by
    have : (P.length + 1) * ie.bytes ≤ 1000001 * 100 := Nat.mul_le_mul (by omega) h3
    omega) rfl hv (by rw [h1]; exact hsl.same fun q m c e => by rw [St.at_new, if_neg (by have := hfr q m c e; omega)])
  refine ⟨s', by simpa using h3, by simp at h4; omega, by rw [plsCells_app]; exact h5, fun b hb hq => ?_⟩
  rw [h6 b (by simp; omega) hq, St.at_new, if_neg (by omega)]
set_option maxHeartbeats 8000000 in
theorem dset_spec {lo p : Nat} {L : List (ByteArray × V3)} {N : Nat} {x : ByteArray} {k n : Int} {y : ByteArray} {O : Nat → Prop} (hD : DictAt lo s p L N O) (hlo : lo ≤ s.next) (hN : N ≤ 1000000)
    (h : ∀ s' O', DictAt lo s' p (setP L x (k, n, y)) (N + 1) O' → s.next ≤ s'.next → (∀ b, b < s.next → ¬ O b → s'.at' b = s.at' b) → (∀ b, O' b → O b ∨ s.next ≤ b) → R (.bool (getP L x).isNone) s') :
    CCalls Try.prog w0 40 #[.pointer (some ⟨p, 0, none⟩), .string x, vA k n y] s R := by
  refine wfun2 hmix ok40 (l := [.pointer (some ⟨p, 0, none⟩), .string x, vA k n y]) func40 rfl ntmps40 results40 (by simp) ?_
  obtain ⟨h1, h2, P, m, sl, es, clock, kv, h3, hPN, h4, h5, h6, h7, h8, h9, h10, h11⟩ := hD
  have hp := (h1 p h2).2
  have hm := (h1 m h8).2
  have hpn : ¬ p = s.next := by omega
  have hmn : ¬ m = s.next := by omega
  simp -implicitDefEqProofs only [↓Zd, (Zp), if_true, if_false, ne_eq, implies_true, forall_const, Nat.reduceEqDiff, reduceIte, reduceCtorEq, Int.reduceEq, Int.reduceNeg, Int.reduceLE, Int.reduceLT, Nat.reduceAdd, Nat.reduceLeDiff, Int.reduceToNat, Nat.reduceMul, Nat.reduceBEq, okPart, Value.cells, cut, okCell, cld2, underlying3, underlying4, underlying9, underlying37, vA, is37, ag37, ce37, fa37x0, fa37x1, fa37x2, ag3, ce3, ag9, ce9, underlying3, underlying4, underlying9, underlying5, underlying32, underlying0, be4, bn4, co72]
  refine ddead_spec (m := m) (sl := sl) (by rw [St.at_new, if_neg hpn]; exact h4) ?_
  subst h3
  have hcf := cfind_kv h6 x
  have hg := get_props h7 x
  cases hi : kvIdx kv x with
  | some ij =>
    obtain ⟨i, j⟩ := ij
    obtain ⟨v0, hv⟩ := h7.idx hi
    rw [hi] at hcf hg
    simp only [hv] at hg
    rw [hg] at h
    have hlt := (List.getElem?_eq_some_iff.1 hv).1
    rcases h10 with ⟨e0, _⟩ | ⟨b, junk, rfl, hb, hl⟩
    · omega
    have hbO := h11 _ _ _ rfl
    have hbn : ¬ b = s.next := by have := (h1 b hbO.1).2; omega
    have hlt' : (j : Int) < (P.length : Int) := by omega
    have hge : (0 : Int) ≤ (j : Int) := by omega
    obtain ⟨hle, _⟩ := zc5 P j x v0.1 v0.2.1 v0.2.2 junk hv
    have hset := set_pls P j x v0 k n y junk hv
    simp -implicitDefEqProofs only [↓Zd, (Zp), if_true, if_false, ne_eq, implies_true, forall_const, Nat.reduceEqDiff, reduceIte, reduceCtorEq, Int.reduceEq, Int.reduceNeg, Int.reduceLE, Int.reduceLT, Nat.reduceAdd, Nat.reduceLeDiff, Int.reduceToNat, Nat.reduceMul, Nat.reduceBEq, okPart, Value.cells, cut, okCell, cld2, underlying3, underlying4, underlying9, underlying37, vA, is37, ag37, ce37, fa37x0, fa37x1, fa37x2, ag3, ce3, ag9, ce9, underlying3, underlying4, underlying9, underlying5, underlying32, underlying0, be4, bn4, underlying128, underlying135, underlying132, underlying151, ord40, h4, h5, hpn, hmn, hcf, sz37, ze3, fa134x0, fa134x1, fa151x1, ag128, ag132, sz151, hlt', hge, Int.toNat_natCast, hb, hbn, hle, hset, Nat.zero_add]
    have hpb : ¬ p = b := fun e => hbO.2.1 e.symm
    have hmb : ¬ m = b := fun e => hbO.2.2 e.symm
    refine h _ O ⟨fun c hc => ⟨(h1 c hc).1, by have := (h1 c hc).2; simp only [St.next_put, St.next_new]; omega⟩, h2, P.set j (some (x, k, n, y)), m, _, es, clock, kv, props_set P j x _ v0 hv (fun q u hq => h7.one ((h7.mem x q).2 ⟨u, hq⟩) ((h7.mem x j).2 ⟨v0, hv⟩)),
      by rw [List.length_set]; omega, ?_, ?_, h6, h7.put hi _, h8, h9, .inr ⟨b, junk, by rw [List.length_set], ?_, by rw [plsCells_len, List.length_set]⟩, h11⟩ (by simp only [St.next_put, St.next_new]; omega) ?_ (fun c hc => .inl hc)
    · rw [St.at_put, if_neg hpb, St.at_new, if_neg hpn]; exact h4
    · rw [St.at_put, if_neg hmb, St.at_new, if_neg hmn]; exact h5
    · rw [St.at_put, if_pos rfl]
    · intro c hc ho
      rw [St.at_put, if_neg (fun e : c = b => ho (e ▸ hbO.1)), St.at_new, if_neg (by omega)]
  | none =>
    rw [hi] at hcf hg
    simp only at hg
    rw [hg] at h
    have hmap : s.at' m = some (.map es clock) := h5
    have h10' : SlU 151 5 ((s.new (.cells [.int .i64 k, .int .i64 n, .string y] 37 true)).put m (.map (es ++ [{ key := .string x, val := .int .i64 (P.length : Int), born := clock }]) (clock + 1))) sl (plsCells P) P.length :=
      h10.same fun q a c e => by rw [St.at_put, if_neg (h11 q a c e).2.2, St.at_new, if_neg (by have := (h1 _ (h11 q a c e).1).2; omega)]
    obtain ⟨s3, happ, hn3, hat3, hk3⟩ := app_place (x := x) (k := k) (n := n) (y := y) (by omega) h10' (fun q a c e => by have := (h1 _ (h11 q a c e).1).2; simp only [St.next_put, St.next_new]; omega)
    simp only [St.next_put, St.next_new] at happ hn3 hat3 hk3
    have hmp : ¬ m = p := h9
    have hpm : ¬ p = m := fun e => h9 e.symm
    have hp3 : s3.at' p = some (.cells [.map (some m), sl] 134 true) := by rw [hk3 p (by omega) (fun q a c e e2 => (h11 q a c e).2.1 e2.symm), St.at_put, if_neg hpm, St.at_new, if_neg hpn]; exact h4
    have hnm : ¬ s.next = m := fun e => hmn e.symm
    have hnp : ¬ s.next = p := fun e => hpn e.symm
    obtain ⟨a0, c0, rfl⟩ : ∃ a0 c0, sl = .slice a0 P.length c0 := by
      rcases h10 with ⟨e0, _, rfl⟩ | ⟨b, junk, rfl, _⟩
      · exact ⟨none, 0, by rw [e0]⟩
      · exact ⟨_, _, rfl⟩
    simp -implicitDefEqProofs only [↓Zd, (Zp), if_true, if_false, ne_eq, implies_true, forall_const, Nat.reduceEqDiff, reduceIte, reduceCtorEq, Int.reduceEq, Int.reduceNeg, Int.reduceLE, Int.reduceLT, Nat.reduceAdd, Nat.reduceLeDiff, Int.reduceToNat, Nat.reduceMul, Nat.reduceBEq, okPart, Value.cells, cut, okCell, cld2, underlying3, underlying4, underlying9, underlying37, vA, is37, ag37, ce37, fa37x0, fa37x1, fa37x2, ag3, ce3, ag9, ce9, underlying3, underlying4, underlying9, underlying5, underlying32, underlying0, be4, bn4, underlying128, underlying135, underlying132, underlying151, ord40, h4, h5, hpn, hmn, hmp, hpm, hnm, hnp, hcf, sz37, ze3, fa134x0, fa134x1, fa151x1, ag128, ag132, sz132, bPlace, rowPlace, happ, hp3]
    rw [setP_none _ _ _ hg] at h
    have hb2 : ∀ q a c, Value.slice a0 P.length c0 = .slice (some q) a c → O q.block ∧ q.block ≠ p ∧ q.block ≠ m := h11
    refine h _ (fun b => b = p ∨ b = m ∨ b = s.next + 2) ⟨?_, .inl rfl, P ++ [some (x, k, n, y)], m, .slice (some ⟨s.next + 2, 0, none⟩) (P.length + 1) UNK, es ++ [{ key := .string x, val := .int .i64 (P.length : Int), born := clock }], clock + 1, kv ++ [(x, P.length)], props_app P x (k, n, y), (by rw [List.length_append]; simp only [List.length_cons, List.length_nil]; omega), ?_, ?_, h6.app, h7.app hi (k, n, y), .inr (.inl rfl), h9, .inr ⟨s.next + 2, [], by simp, ?_, plsCells_len _⟩, ?_⟩ ?_ ?_ ?_
    · rintro b (rfl | rfl | rfl)
      · exact ⟨(h1 _ h2).1, by simp only [St.next_put]; omega⟩
      · exact ⟨(h1 _ h8).1, by simp only [St.next_put]; omega⟩
      · exact ⟨by omega, by simp only [St.next_put]; omega⟩
    · rw [St.at_put, if_pos rfl]
    · rw [St.at_put, if_neg hmp, hk3 m (by omega) (fun q a c e e2 => (h11 q a c e).2.2 e2.symm), St.at_put, if_pos rfl]
    · rw [St.at_put, if_neg (by omega), List.append_nil]
      exact hat3
    · intro q a c e
      cases e
      exact ⟨.inr (.inr rfl), by show s.next + 2 ≠ p; omega, by show s.next + 2 ≠ m; omega⟩
    · simp only [St.next_put]; omega
    · intro b hb ho
      rw [St.at_put, if_neg (fun e : b = p => ho (e ▸ h2)), hk3 b (by omega) (fun q a c e e2 => ho (e2 ▸ (h11 q a c e).1)), St.at_put, if_neg (fun e : b = m => ho (e ▸ h8)), St.at_new, if_neg (by omega)]
    · rintro b (rfl | rfl | rfl)
      · exact .inl h2
      · exact .inl h8
      · exact .inr (by omega)
end
end Go.Proofs.Try
set_option linter.unusedSimpArgs false
set_option linter.unusedVariables false
set_option linter.unusedSectionVars false
namespace Go.Proofs.Try
open Go.Cs
open Go.RowKit (Below)
set_option maxRecDepth 100000
attribute [local irreducible] CCalls WLoop WScope
def Uniq (P : List Pl) : Prop := ∀ (j k : Nat) (x : ByteArray) (v w : V3), P[j]? = some (some (x, v)) → P[k]? = some (some (x, w)) → j = k
theorem KP.uniq {kv : List (ByteArray × Nat)} {P : List Pl} (h : KP kv P) : Uniq P := fun j k x v w a b => h.one ((h.mem x j).2 ⟨v, a⟩) ((h.mem x k).2 ⟨w, b⟩)
theorem mem_props {P : List Pl} {x : ByteArray} : x ∈ (props P).map (·.1) ↔ ∃ (j : Nat) (v : V3), P[j]? = some (some (x, v)) := by
  unfold props
  rw [List.mem_map]
  constructor
  · rintro ⟨⟨y, v⟩, hm, rfl⟩
    obtain ⟨p, hp, e⟩ := List.mem_filterMap.1 hm
    simp only [id] at e
    subst e
    obtain ⟨j, hj⟩ := List.getElem?_of_mem hp
    exact ⟨j, v, hj⟩
  · rintro ⟨j, v, hj⟩
    exact ⟨(x, v), List.mem_filterMap.2 ⟨some (x, v), List.mem_of_getElem? hj, rfl⟩, rfl⟩
theorem uniq_tail {p : Pl} {P : List Pl} (h : Uniq (p :: P)) : Uniq P := fun j k x v w a b => by
  have := h (j + 1) (k + 1) x v w (by simpa using a) (by simpa using b)
  omega
theorem nodup_props : ∀ {P : List Pl}, Uniq P → ((props P).map (·.1)).Nodup := by
  intro P
  induction P with
  | nil => intro _; exact List.nodup_nil
  | cons p P ih =>
    intro h
    cases p with
    | none => exact ih (uniq_tail h)
    | some q =>
      obtain ⟨x, v⟩ := q
      show (x :: (props P).map (·.1)).Nodup
      rw [List.nodup_cons]
      refine ⟨fun hm => ?_, ih (uniq_tail h)⟩
      obtain ⟨j, w, hj⟩ := mem_props.1 hm
      have := h 0 (j + 1) x v w rfl (by simpa using hj)
      omega
theorem KP.len {kv : List (ByteArray × Nat)} {P : List Pl} (h : KP kv P) : kv.length = (props P).length := by
  have hp : (kv.map (·.1)).Perm ((props P).map (·.1)) := by
    rw [List.perm_ext_iff_of_nodup h.nodup (nodup_props h.uniq)]
    intro x
    rw [mem_props, List.mem_map]
    constructor
    · rintro ⟨⟨y, j⟩, hm, rfl⟩
      obtain ⟨v, hv⟩ := (h.mem y j).1 hm
      exact ⟨j, v, hv⟩
    · rintro ⟨j, v, hv⟩
      exact ⟨(x, j), (h.mem x j).2 ⟨v, hv⟩, rfl⟩
  have := hp.length_eq
  simpa using this
theorem zp5 (P : List Pl) (j : Nat) (p : Pl) (junk : List Value) (h : P[j]? = some p) : j * 5 + 5 ≤ (plsCells P ++ junk).length ∧ List.take 5 (List.drop (j * 5) (plsCells P ++ junk)) = plCells p := by
  have hlt := (List.getElem?_eq_some_iff.1 h).1
  have hl := plsCells_len P
  refine ⟨by rw [List.length_append]; omega, ?_⟩
  apply List.ext_getElem?
  intro i
  rw [List.getElem?_take]
  by_cases hi : i < 5
  · rw [if_pos hi, List.getElem?_drop, List.getElem?_append_left (by omega), plsCells_get P j i p h hi]
  · rw [if_neg hi, List.getElem?_eq_none (by rw [plCells_len]; omega)]
section
variable {M : Type} [Mem M] {w0 : World} {s : St M} {R : Value → St M → Prop}
theorem dlen_spec {lo p : Nat} {L : List (ByteArray × V3)} {N : Nat} {O : Nat → Prop} (hD : DictAt lo s p L N O) (h : R (.int .i64 (L.length : Int)) s) : CCalls Try.prog w0 86 #[.pointer (some ⟨p, 0, none⟩)] s R := by
  refine wfun2 hmix ok86 (l := [.pointer (some ⟨p, 0, none⟩)]) func86 rfl ntmps86 results86 (by simp) ?_
  obtain ⟨h1, h2, P, m, sl, es, clock, kv, h3, hPN, h4, h5, h6, h7, h8, h9, h10, h11⟩ := hD
  have hl : es.length = L.length := by rw [h6.1, h7.len, h3]
  have hlen1 : clen (some (.map 9 3)) (some (.map (some m))) = none := rfl
  have hlen2 : clenM s (some (.map 9 3)) (some (.map (some m))) = some (.int .i64 (L.length : Int)) := by simp only [clenM, h5, hl]
  simp -implicitDefEqProofs only [↓Zd, (Zp), if_true, if_false, ne_eq, implies_true, forall_const, Nat.reduceEqDiff, reduceIte, reduceCtorEq, Int.reduceEq, Int.reduceNeg, Int.reduceLE, Int.reduceLT, Nat.reduceAdd, Nat.reduceLeDiff, Int.reduceToNat, Nat.reduceMul, Nat.reduceBEq, okPart, Value.cells, cut, okCell, cld2, underlying3, underlying4, underlying9, underlying5, underlying32, underlying0, be4, bn4, co72]
  refine ddead_spec h4 ?_
  simp -implicitDefEqProofs only [↓Zd, (Zp), if_true, if_false, ne_eq, implies_true, forall_const, Nat.reduceEqDiff, reduceIte, reduceCtorEq, Int.reduceEq, Int.reduceNeg, Int.reduceLE, Int.reduceLT, Nat.reduceAdd, Nat.reduceLeDiff, Int.reduceToNat, Nat.reduceMul, Nat.reduceBEq, okPart, Value.cells, cut, okCell, cld2, underlying3, underlying4, underlying9, underlying5, underlying32, underlying0, be4, bn4, underlying128, h4, h5, hlen1, hlen2, fa134x0, ag128]
  exact h
def keyV (L : List (ByteArray × V3)) (i : Int) : Value := if 0 ≤ i ∧ i < L.length then .tuple #[.string (L.getD i.toNat (⟨#[]⟩, 0, 0, ⟨#[]⟩)).1, .bool true] else .tuple #[.string ⟨#[]⟩, .bool false]
set_option maxHeartbeats 4000000 in
theorem dkey_spec {lo p : Nat} {L : List (ByteArray × V3)} {N : Nat} {i : Int} {O : Nat → Prop} (hD : DictAt lo s p L N O) (hN : N ≤ 1000000) (hi : -9223372036854775808 ≤ i ∧ i ≤ 9223372036854775807) (h : ∀ s', s.le s' → R (keyV L i) s') : CCalls Try.prog w0 91 #[.pointer (some ⟨p, 0, none⟩), .int .i64 i] s R := by
  refine wfun2 hmix ok91 (l := [.pointer (some ⟨p, 0, none⟩), .int .i64 i]) func91 rfl ntmps91 results91 (by simp) ?_
  obtain ⟨h1, h2, P, m, sl, es, clock, kv, h3, hPN, h4, h5, h6, h7, h8, h9, h10, h11⟩ := hD
  have hl : es.length = L.length := by rw [h6.1, h7.len, h3]
  have hlen1 : clen (some (.map 9 3)) (some (.map (some m))) = none := rfl
  have hlen2 : clenM s (some (.map 9 3)) (some (.map (some m))) = some (.int .i64 (L.length : Int)) := by simp only [clenM, h5, hl]
  simp -implicitDefEqProofs only [↓Zd, (Zp), if_true, if_false, ne_eq, implies_true, forall_const, Nat.reduceEqDiff, reduceIte, reduceCtorEq, Int.reduceEq, Int.reduceNeg, Int.reduceLE, Int.reduceLT, Nat.reduceAdd, Nat.reduceLeDiff, Int.reduceToNat, Nat.reduceMul, Nat.reduceBEq, okPart, Value.cells, cut, okCell, cld2, underlying3, underlying4, underlying9, underlying5, underlying32, underlying0, be4, bn4, co72]
  refine ddead_spec h4 ?_
  by_cases hneg : i < 0
  · simp -implicitDefEqProofs only [↓Zd, (Zp), if_true, if_false, ne_eq, implies_true, forall_const, Nat.reduceEqDiff, reduceIte, reduceCtorEq, Int.reduceEq, Int.reduceNeg, Int.reduceLE, Int.reduceLT, Nat.reduceAdd, Nat.reduceLeDiff, Int.reduceToNat, Nat.reduceMul, Nat.reduceBEq, okPart, Value.cells, cut, okCell, cld2, underlying3, underlying4, underlying9, underlying5, underlying32, underlying0, be4, bn4, hneg]
    have := h s (St.le_refl _)
    unfold keyV at this
    rw [if_neg (by omega)] at this
    exact this
  by_cases hbig : (L.length : Int) ≤ i
  · simp -implicitDefEqProofs only [↓Zd, (Zp), if_true, if_false, ne_eq, implies_true, forall_const, Nat.reduceEqDiff, reduceIte, reduceCtorEq, Int.reduceEq, Int.reduceNeg, Int.reduceLE, Int.reduceLT, Nat.reduceAdd, Nat.reduceLeDiff, Int.reduceToNat, Nat.reduceMul, Nat.reduceBEq, okPart, Value.cells, cut, okCell, cld2, underlying3, underlying4, underlying9, underlying5, underlying32, underlying0, be4, bn4, underlying128, h4, h5, hlen1, hlen2, hneg, hbig, fa134x0, ag128]
    have := h s (St.le_refl _)
    unfold keyV at this
    rw [if_neg (by omega)] at this
    exact this
  obtain ⟨i', rfl⟩ : ∃ i' : Nat, i = (i' : Int) := ⟨i.toNat, by omega⟩
  have hi' : i' < L.length := by omega
  rcases h10 with ⟨e0, _⟩ | ⟨b, junk, rfl, hb, hlb⟩
  · have : P = [] := List.eq_nil_of_length_eq_zero e0
    subst this
    subst h3
    simp [props] at hi'
  have hbO := h1 b (h11 _ _ _ rfl).1
  simp -implicitDefEqProofs only [↓Zd, (Zp), if_true, if_false, ne_eq, implies_true, forall_const, Nat.reduceEqDiff, reduceIte, reduceCtorEq, Int.reduceEq, Int.reduceNeg, Int.reduceLE, Int.reduceLT, Nat.reduceAdd, Nat.reduceLeDiff, Int.reduceToNat, Nat.reduceMul, Nat.reduceBEq, okPart, Value.cells, cut, okCell, cld2, underlying3, underlying4, underlying9, underlying5, underlying32, underlying0, be4, bn4, underlying128, underlying132, h4, h5, hlen1, hlen2, hneg, hbig, fa134x0, fa134x1, ag128, ag132]
  refine wloop_fix hmix [29, 30, 31, 7, 32, 33, 34, 35, 36, 37, 38, 4, 5, 39, 40, 1, 41, 28] (fun fuel env s' => ∃ q r : Nat, fuel = P.length - q ∧ env 28 = .int .i64 (q : Int) ∧ env 1 = .int .i64 (r : Int) ∧ (props (P.drop q))[r]? = L[i']? ∧ s.le s') (P.length - 0) ?_ ?_
  · exact ⟨0, i', rfl, rfl, rfl, by rw [List.drop_zero, h3], St.le_refl _⟩
  · rintro fuel env s' hF ⟨q, r, rfl, e28, e1, hq, hs⟩
    have hsn := hs.1
    have e26 : env 26 = .slice (some ⟨b, 0, none⟩) P.length UNK := by rw [hF 26 rfl]; rfl
    have e27 : env 27 = .int .i64 (P.length : Int) := by rw [hF 27 rfl]; rfl
    have hlt : q < P.length := by
      rcases Nat.lt_or_ge q P.length with h' | h'
      · exact h'
      · rw [List.drop_eq_nil_of_le h'] at hq
        simp [props] at hq
        omega
    have hlt' : (q : Int) < (P.length : Int) := by omega
    have hge : (0 : Int) ≤ (q : Int) := by omega
    have hb' : s'.at' b = some (.cells (plsCells P ++ junk) 151 true) := by rw [hs.2 b hbO.2]; exact hb
    have w1 : IntKind.i64.wrap ((q : Int) + 1) = ((q + 1 : Nat) : Int) := by rw [wrap_i64 (by omega)]; omega
    rw [List.drop_eq_getElem_cons hlt] at hq
    obtain ⟨hle5, htk5⟩ := zp5 P q P[q] junk (by simp [hlt])
    cases hp : P[q] with
    | none =>
      rw [hp] at hq htk5
      simp only [plCells] at htk5
      have hq' : (props (P.drop (q + 1)))[r]? = L[i']? := hq
      simp -implicitDefEqProofs only [↓Zd, (Zp), if_true, if_false, ne_eq, implies_true, forall_const, Nat.reduceEqDiff, reduceIte, reduceCtorEq, Int.reduceEq, Int.reduceNeg, Int.reduceLE, Int.reduceLT, Nat.reduceAdd, Nat.reduceLeDiff, Int.reduceToNat, Nat.reduceMul, Nat.reduceBEq, okPart, Value.cells, cut, okCell, cld2, underlying3, underlying4, underlying9, underlying5, underlying32, underlying0, be4, bn4, underlying132, underlying151, e1, e26, e27, e28, hlt', hge, Int.toNat_natCast, hb', hle5, htk5, Nat.zero_add, Nat.add_zero, sz151, ag151, ce151, ze151, fa151x0, fa151x2, ag4, ag9, w1]
      refine ⟨?_, P.length - (q + 1), by omega, q + 1, r, rfl, rfl, rfl, hq', (by repeat (first | exact St.le_refl _ | assumption | refine St.le_new ?_ | refine St.le_put ?_ (by first | omega | (simp only [St.next_new, St.next_put, St.next_kill]; omega)) | refine St.le_trans ?_ (by assumption)))⟩
      repeat (first | exact hF | refine Fix.upd (by decide) ?_)
    | some u =>
      obtain ⟨x, k, n, y⟩ := u
      rw [hp] at hq htk5
      simp only [plCells] at htk5
      have hq' : ((x, k, n, y) :: props (P.drop (q + 1)))[r]? = L[i']? := hq
      cases r with
      | zero =>
        simp -implicitDefEqProofs only [↓Zd, (Zp), if_true, if_false, ne_eq, implies_true, forall_const, Nat.reduceEqDiff, reduceIte, reduceCtorEq, Int.reduceEq, Int.reduceNeg, Int.reduceLE, Int.reduceLT, Nat.reduceAdd, Nat.reduceLeDiff, Int.reduceToNat, Nat.reduceMul, Nat.reduceBEq, okPart, Value.cells, cut, okCell, cld2, underlying3, underlying4, underlying9, underlying5, underlying32, underlying0, be4, bn4, underlying132, underlying151, e1, e26, e27, e28, hlt', hge, Int.toNat_natCast, hb', hle5, htk5, Nat.zero_add, Nat.add_zero, sz151, ag151, ce151, ze151, fa151x0, fa151x2, ag4, ag9, w1]
        have hx : keyV L (i' : Int) = .tuple #[.string x, .bool true] := by
          unfold keyV
          rw [if_pos ⟨by omega, by omega⟩, Int.toNat_natCast, List.getD_eq_getElem?_getD, ← hq']
          rfl
        rw [hx] at h
        exact h _ (by repeat (first | exact St.le_refl _ | assumption | refine St.le_new ?_ | refine St.le_put ?_ (by first | omega | (simp only [St.next_new, St.next_put, St.next_kill]; omega)) | refine St.le_trans ?_ (by assumption)))
      | succ r =>
        have hr0 : ¬ ((r + 1 : Nat) : Int) = 0 := by omega
        have hrb : r < P.length := by
          have h9 : (props (P.drop (q + 1))).length ≤ (P.drop (q + 1)).length := List.length_filterMap_le id _
          rw [List.length_drop] at h9
          rcases Nat.lt_or_ge r P.length with h' | h'
          · exact h'
          · have e9 : L[i']? = some L[i'] := by simp [hi']
            rw [List.getElem?_cons_succ, List.getElem?_eq_none (by omega), e9] at hq'
            cases hq'
        have w2 : IntKind.i64.wrap (((r + 1 : Nat) : Int) - 1) = (r : Int) := by rw [wrap_i64 (by omega)]; omega
        simp -implicitDefEqProofs only [↓Zd, (Zp), if_true, if_false, ne_eq, implies_true, forall_const, Nat.reduceEqDiff, reduceIte, reduceCtorEq, Int.reduceEq, Int.reduceNeg, Int.reduceLE, Int.reduceLT, Nat.reduceAdd, Nat.reduceLeDiff, Int.reduceToNat, Nat.reduceMul, Nat.reduceBEq, okPart, Value.cells, cut, okCell, cld2, underlying3, underlying4, underlying9, underlying5, underlying32, underlying0, be4, bn4, hr0, w2, underlying132, underlying151, e1, e26, e27, e28, hlt', hge, Int.toNat_natCast, hb', hle5, htk5, Nat.zero_add, Nat.add_zero, sz151, ag151, ce151, ze151, fa151x0, fa151x2, ag4, ag9, w1]
        refine ⟨?_, P.length - (q + 1), by omega, q + 1, r, rfl, rfl, rfl, by simpa using hq', (by repeat (first | exact St.le_refl _ | assumption | refine St.le_new ?_ | refine St.le_put ?_ (by first | omega | (simp only [St.next_new, St.next_put, St.next_kill]; omega)) | refine St.le_trans ?_ (by assumption)))⟩
        repeat (first | exact hF | refine Fix.upd (by decide) ?_)
end
end Go.Proofs.Try
set_option linter.unusedSimpArgs false
set_option linter.unusedVariables false
set_option linter.unusedSectionVars false
namespace Go.Proofs.Try
open Go.Cs
open Go.RowKit (Below)
def pressed (P : List Pl) : List Pl := P.filter Option.isSome
theorem props_pressed (P : List Pl) : props (pressed P) = props P := by
  induction P with
  | nil => rfl
  | cons p P ih =>
    cases p with
    | none => exact ih
    | some q =>
      show q :: props (pressed P) = q :: props P
      rw [ih]
theorem pressed_uniq : ∀ {P : List Pl}, Uniq P → Uniq (pressed P) := by
  intro P h j k x v w a b
  have hn : ((props (pressed P)).map (·.1)).Nodup := by rw [props_pressed]; exact nodup_props h
  have key : ∀ (Q : List Pl), (∀ p ∈ Q, p.isSome = true) → ((props Q).map (·.1)).Nodup → ∀ (j k : Nat) (v w : V3), Q[j]? = some (some (x, v)) → Q[k]? = some (some (x, w)) → j = k := by
    intro Q
    induction Q with
    | nil => intro _ _ j k v w a; simp at a
    | cons p Q ih =>
      intro hs hn j k v w a b
      obtain ⟨⟨y, u⟩, rfl⟩ := Option.isSome_iff_exists.1 (hs p (by simp))
      have hn' : (y :: (props Q).map (·.1)).Nodup := hn
      rw [List.nodup_cons] at hn'
      have mem : ∀ (i : Nat) (t : V3), Q[i]? = some (some (x, t)) → x ∈ (props Q).map (·.1) := fun i t h => mem_props.2 ⟨i, t, h⟩
      cases j with
      | zero =>
        simp at a
        cases k with
        | zero => rfl
        | succ k => exact absurd (mem k w (by simpa using b)) (by rw [← a.1]; exact hn'.1)
      | succ j =>
        cases k with
        | zero =>
          simp at b
          exact absurd (mem j v (by simpa using a)) (by rw [← b.1]; exact hn'.1)
        | succ k => rw [ih (fun p hp => hs p (by simp [hp])) hn'.2 j k v w (by simpa using a) (by simpa using b)]
  exact key (pressed P) (fun p hp => (List.mem_filter.1 hp).2) hn j k v w a b
structure KQ (kv0 kv : List (ByteArray × Nat)) (Q : List Pl) (q : Nat) : Prop where
  nd : (kv0.map (·.1)).Nodup
  keys : kv.map (·.1) = kv0.map (·.1)
  val : ∀ (i : Nat) (x : ByteArray) (j : Nat), kv[i]? = some (x, j) → (j < q ∧ ∃ v, Q[j]? = some (some (x, v))) ∨ (∀ (k : Nat) (v : V3), k < q → Q[k]? ≠ some (some (x, v)))
theorem KQ.start {kv0 : List (ByteArray × Nat)} (hn : (kv0.map (·.1)).Nodup) (Q : List Pl) : KQ kv0 kv0 Q 0 := ⟨hn, rfl, fun i x j _ => .inr fun k v hk => by omega⟩
theorem KQ.apart {kv0 kv : List (ByteArray × Nat)} {Q : List Pl} {q : Nat} (h : KQ kv0 kv Q q) {i k : Nat} {x : ByteArray} {a b : Nat} (h1 : kv[k]? = some (x, a)) (h2 : kv[i]? = some (x, b)) : k = i := by
  have hn : (kv.map (·.1)).Nodup := by rw [h.keys]; exact h.nd
  have l1 := (List.getElem?_eq_some_iff.1 h1).1
  have l2 := (List.getElem?_eq_some_iff.1 h2).1
  have e1 : (kv.map (·.1))[k]'(by simpa using l1) = (kv.map (·.1))[i]'(by simpa using l2) := by
    simp only [List.getElem_map]
    rw [(List.getElem?_eq_some_iff.1 h1).2, (List.getElem?_eq_some_iff.1 h2).2]
  exact (List.getElem_inj hn).1 e1
theorem KQ.step {kv0 kv : List (ByteArray × Nat)} {Q : List Pl} {q i j0 : Nat} {x : ByteArray} {v : V3} (h : KQ kv0 kv Q q) (hQ : Uniq Q) (hq : Q[q]? = some (some (x, v))) (hi : kvIdx kv x = some (i, j0)) : KQ kv0 (kv.set i (x, q)) Q (q + 1) := by
  have hat := kvIdx_some hi
  have hlt := (List.getElem?_eq_some_iff.1 hat).1
  refine ⟨h.nd, ?_, fun k y j hk => ?_⟩
  · rw [List.map_set, ← h.keys]
    apply List.ext_getElem?
    intro k
    rw [List.getElem?_set]
    split
    · rename_i e
      subst e
      simp [hlt]
      exact ((Prod.ext_iff.1 (List.getElem?_eq_some_iff.1 hat).2).1).symm
    · rfl
  · rw [List.getElem?_set] at hk
    split at hk
    · rename_i e
      subst e
      simp only [hlt, if_true, Option.some.injEq, Prod.mk.injEq] at hk
      obtain ⟨rfl, rfl⟩ := hk
      exact .inl ⟨by omega, v, hq⟩
    · rename_i e
      rcases h.val k y j hk with ⟨h1, h2⟩ | h1
      · exact .inl ⟨by omega, h2⟩
      · by_cases hy : y = x
        · subst hy
          -- two places of one key: not where the keys are apart
          right
          intro k' v' hk' hc
          by_cases h0 : k' < q
          · exact h1 k' v' h0 hc
          · have : k' = q := by omega
            subst this
            exact e (h.apart hk hat).symm
        · right
          intro k' v' hk' hc
          by_cases h0 : k' < q
          · exact h1 k' v' h0 hc
          · have : k' = q := by omega
            subst this
            rw [hq] at hc
            simp at hc
            exact hy hc.1.symm
theorem KQ.done {kv0 kv : List (ByteArray × Nat)} {P : List Pl} (h0 : KP kv0 P) (h : KQ kv0 kv (pressed P) (pressed P).length) : KP kv (pressed P) := by
  have hU := pressed_uniq h0.uniq
  refine ⟨by rw [h.keys]; exact h.nd, fun x j => ?_⟩
  have hnames : ∀ x, x ∈ kv.map (·.1) ↔ ∃ (k : Nat) (v : V3), (pressed P)[k]? = some (some (x, v)) := by
    intro x
    rw [h.keys, ← mem_props, props_pressed, mem_props, List.mem_map]
    constructor
    · rintro ⟨⟨y, k⟩, hm, rfl⟩
      obtain ⟨v, hv⟩ := (h0.mem y k).1 hm
      exact ⟨k, v, hv⟩
    · rintro ⟨k, v, hv⟩
      exact ⟨(x, k), (h0.mem x k).2 ⟨v, hv⟩, rfl⟩
  constructor
  · intro hm
    obtain ⟨i, hi⟩ := List.getElem?_of_mem hm
    rcases h.val i x j hi with ⟨_, h2⟩ | h2
    · exact h2
    · obtain ⟨k, v, hv⟩ := (hnames x).1 (List.mem_map_of_mem (f := (·.1)) hm)
      exact absurd hv (h2 k v (List.getElem?_eq_some_iff.1 hv).1)
  · rintro ⟨v, hv⟩
    obtain ⟨⟨y, j'⟩, hm, e⟩ := List.mem_map.1 ((hnames x).2 ⟨j, v, hv⟩)
    simp only at e
    subst e
    obtain ⟨i, hi⟩ := List.getElem?_of_mem hm
    rcases h.val i y j' hi with ⟨_, w, hw⟩ | h2
    · have := hU j' j y w v hw hv
      rw [← this]; exact hm
    · exact absurd hv (h2 j v (List.getElem?_eq_some_iff.1 hv).1)
end Go.Proofs.Try
set_option linter.unusedSimpArgs false
set_option linter.unusedVariables false
set_option linter.unusedSectionVars false
namespace Go.Proofs.Try
open Go.Cs
open Go.RowKit (Below)
set_option maxRecDepth 100000
attribute [local irreducible] CCalls WLoop WScope
section
variable {M : Type} [Mem M] {w0 : World} {s : St M} {R : Value → St M → Prop}
end
end Go.Proofs.Try
set_option linter.unusedSimpArgs false
set_option linter.unusedVariables false
set_option linter.unusedSectionVars false
namespace Go.Proofs.Try
open Go.Cs
open Go.RowKit (Below)
set_option maxRecDepth 100000
attribute [local irreducible] CCalls WLoop WScope
theorem setCells_eq : ∀ (l vs : List Value) (o : Nat), o + l.length ≤ vs.length → setCells vs o l = vs.take o ++ l ++ vs.drop (o + l.length) := by
  intro l
  induction l with
  | nil => intro vs o h; simp [setCells_nil]
  | cons c l ih =>
    intro vs o h
    simp only [List.length_cons] at h
    rw [setCells_cons, ih _ _ (by rw [List.length_set]; omega)]
    apply List.ext_getElem?
    intro i
    have hl : (vs.take o).length = o := by simp; omega
    have hl2 : ((vs.set o c).take (o + 1)).length = o + 1 := by simp; omega
    simp only [List.append_assoc]
    by_cases h1 : i < o
    · rw [List.getElem?_append_left (by omega), List.getElem?_append_left (by omega), List.getElem?_take, List.getElem?_take, if_pos h1, if_pos (by omega), List.getElem?_set_ne (by omega)]
    · rw [List.getElem?_append_right (l₁ := vs.take o) (by omega), hl]
      by_cases h2 : i = o
      · subst h2
        rw [List.getElem?_append_left (by omega), List.getElem?_take, if_pos (by omega), List.getElem?_set_self (by omega), Nat.sub_self]
        rfl
      · rw [List.getElem?_append_right (by omega), hl2, show i - o = (i - (o + 1)) + 1 from by omega]
        show (l ++ List.drop (o + 1 + l.length) (vs.set o c))[i - (o + 1)]? = (l ++ List.drop (o + (l.length + 1)) vs)[i - (o + 1)]?
        rw [show o + 1 + l.length = o + (l.length + 1) from by omega]
        by_cases h3 : i - (o + 1) < l.length
        · rw [List.getElem?_append_left h3, List.getElem?_append_left h3]
        · rw [List.getElem?_append_right (by omega), List.getElem?_append_right (by omega), List.getElem?_drop, List.getElem?_drop, List.getElem?_set_ne (by omega)]
section
variable {M : Type} [Mem M] {w0 : World} {s : St M} {R : Value → St M → Prop}
structure Mid (P : List Pl) (junk C : List Value) (i q : Nat) : Prop where
  lt : i < q
  len : C.length = (plsCells P ++ junk).length
  front : C.take (i * 5) = plsCells (pressed (P.take q))
  back : C.drop (q * 5) = (plsCells P ++ junk).drop (q * 5)
  num : (pressed (P.take q)).length = i
theorem Mid.next {P : List Pl} {junk C : List Value} {i q : Nat} {u : ByteArray × V3} (h : Mid P junk C i q) (hq : P[q]? = some (some u)) : Mid P junk (setCells C (i * 5) (plCells (some u))) (i + 1) (q + 1) := by
  have hlt := (List.getElem?_eq_some_iff.1 hq).1
  have hP := plsCells_len P
  have hl := h.len
  rw [List.length_append] at hl
  have hiq := h.lt
  have htake : pressed (P.take (q + 1)) = pressed (P.take q) ++ [some u] := by
    rw [List.take_add_one, hq]
    unfold pressed
    rw [List.filter_append]
    rfl
  have hlen5 : (plCells (some u)).length = 5 := plCells_len _
  have hfl : (C.take (i * 5)).length = i * 5 := by simp; omega
  rw [setCells_eq _ _ _ (by rw [hlen5]; omega), hlen5]
  refine ⟨by omega, ?_, ?_, ?_, ?_⟩
  · simp only [List.length_append, List.length_take, List.length_drop, hlen5]; omega
  · rw [htake, plsCells_app, ← h.front, show (i + 1) * 5 = (C.take (i * 5) ++ plCells (some u)).length from by rw [List.length_append, hfl, hlen5]; omega, List.append_assoc, ← List.append_assoc, List.take_left']
    rfl
  · rw [List.drop_append, List.drop_eq_nil_of_le (by rw [List.length_append, hfl, hlen5]; omega), List.nil_append, List.drop_drop, List.length_append, hfl, hlen5]
    have : (C.drop (q * 5)).drop 5 = ((plsCells P ++ junk).drop (q * 5)).drop 5 := by rw [h.back]
    rw [List.drop_drop, List.drop_drop] at this
    rw [show i * 5 + 5 + ((q + 1) * 5 - (i * 5 + 5)) = q * 5 + 5 from by omega, this]
    congr 1; omega
  · rw [htake, List.length_append, h.num]; rfl
theorem Mid.skip {P : List Pl} {junk C : List Value} {i q : Nat} (h : Mid P junk C i q) (hq : P[q]? = some none) : Mid P junk C i (q + 1) := by
  have htake : pressed (P.take (q + 1)) = pressed (P.take q) := by
    rw [List.take_add_one, hq]
    unfold pressed
    rw [List.filter_append]
    simp
  refine ⟨by have := h.lt; omega, h.len, by rw [htake]; exact h.front, ?_, by rw [htake]; exact h.num⟩
  have : (C.drop (q * 5)).drop 5 = ((plsCells P ++ junk).drop (q * 5)).drop 5 := by rw [h.back]
  rw [List.drop_drop, List.drop_drop] at this
  rw [show (q + 1) * 5 = q * 5 + 5 from by omega]
  exact this
theorem Mid.start {P : List Pl} {junk : List Value} {j : Nat} (hj : P[j]? = some none) (hno : ∀ k : Nat, k < j → P[k]? ≠ some none) : Mid P junk (plsCells P ++ junk) j (j + 1) := by
  have hlt := (List.getElem?_eq_some_iff.1 hj).1
  have hall : pressed (P.take j) = P.take j := by
    unfold pressed
    rw [List.filter_eq_self]
    intro p hp
    obtain ⟨k, hk⟩ := List.getElem?_of_mem hp
    rw [List.getElem?_take] at hk
    split at hk
    · cases p with
      | none => exact absurd hk (hno k (by assumption))
      | some u => rfl
    · cases hk
  have htake : pressed (P.take (j + 1)) = P.take j := by
    rw [List.take_add_one, hj]
    unfold pressed at hall ⊢
    rw [List.filter_append, hall]
    simp
  have hsplit : plsCells P = plsCells (P.take j) ++ plsCells (P.drop j) := by
    unfold plsCells
    rw [← List.flatMap_append, List.take_append_drop]
  have hl : (plsCells (P.take j)).length = j * 5 := by rw [plsCells_len]; simp; omega
  refine ⟨by omega, rfl, ?_, rfl, by rw [htake]; simp; omega⟩
  rw [htake, hsplit, List.append_assoc, ← hl, List.take_left']
  rfl
end
end Go.Proofs.Try
set_option linter.unusedSimpArgs false
set_option linter.unusedVariables false
set_option linter.unusedSectionVars false
namespace Go.Proofs.Try
open Go.Cs
open Go.RowKit (Below)
set_option maxRecDepth 100000
attribute [local irreducible] CCalls WLoop WScope
section
variable {M : Type} [Mem M] {w0 : World} {s : St M} {R : Value → St M → Prop}
end
end Go.Proofs.Try
set_option linter.unusedSimpArgs false
set_option linter.unusedVariables false
set_option linter.unusedSectionVars false
namespace Go.Proofs.Try
open Go.Cs
open Go.RowKit (Below)
set_option maxRecDepth 100000
attribute [local irreducible] CCalls WLoop WScope
section
variable {M : Type} [Mem M] {w0 : World} {s : St M} {R : Value → St M → Prop}
end
end Go.Proofs.Try
set_option linter.unusedSimpArgs false
set_option linter.unusedVariables false
set_option linter.unusedSectionVars false
namespace Go.Proofs.Try
open Go.Cs
open Go.RowKit (Below)
set_option maxRecDepth 100000
attribute [local irreducible] CCalls WLoop WScope
section
variable {M : Type} [Mem M] {w0 : World} {s : St M} {R : Value → St M → Prop}
end
end Go.Proofs.Try
