/- FO0, FO1, FO2, FO3, FO4, FO5, FO6, FO7, FO8, FO9, laid one behind the other. A lemma file: no statement of its own. -/
import Derived.Test.YtnkichmojbanlaaqFwF
import Derived.Test.YtnkichmojbanlaaqHDM
import Derived.Test.YtnkichmojbanlaaqEx0
set_option linter.unusedSimpArgs false
set_option linter.unusedVariables false
set_option linter.unusedSectionVars false
namespace Go.Proofs.Try
open Go.Cs
open Go.RowKit (Below)
set_option maxRecDepth 100000
abbrev Sh := Nat × List Nat
def shIs (F : List Sh) (t : Sh) : Option Nat := if t ∈ F then some (F.idxOf t + 1) else none
def growF (F : List Sh) (most : Nat) (t : Sh) : List Sh := if t ∈ F then F else if F.length < most then F ++ [t] else F
def growN (F : List Sh) (most : Nat) (t : Sh) : Nat := if t ∈ F then F.idxOf t + 1 else if F.length < most then F.length + 1 else 0
theorem shIs_get {F : List Sh} {t : Sh} {j : Nat} (h : shIs F t = some j) : 1 ≤ j ∧ j ≤ F.length ∧ F[j - 1]? = some t := by
  unfold shIs at h
  split at h
  · rename_i hm
    cases h
    have := List.idxOf_lt_length_of_mem hm
    refine ⟨by omega, by omega, ?_⟩
    rw [Nat.add_sub_cancel, List.getElem?_eq_getElem this, List.getElem_idxOf this]
  · cases h
theorem shIs_none {F : List Sh} {t : Sh} : shIs F t = none ↔ t ∉ F := by
  unfold shIs
  split <;> simp_all
theorem shIs_app {F : List Sh} {t u : Sh} (h : t ∉ F) : shIs (F ++ [t]) u = if u = t then some (F.length + 1) else shIs F u := by
  by_cases e : u = t
  · subst e
    rw [if_pos rfl, shIs, if_pos (by simp), List.idxOf_append, if_neg h]
    simp
  · rw [if_neg e]
    unfold shIs
    by_cases hu : u ∈ F
    · rw [if_pos hu, if_pos (by simp [hu]), List.idxOf_append, if_pos hu]
    · rw [if_neg hu, if_neg (by simp [hu, e])]
structure FOk (F : List Sh) : Prop where
  nodup : F.Nodup
  up : ∀ (i p x : Nat) (r : List Nat), F[i]? = some (p, x :: r) → ∃ j, j < i ∧ F[j]? = some (p, r)
  names : ∀ (i p : Nat) (l : List Nat), F[i]? = some (p, l) → l.Nodup ∧ l.length ≤ 12
theorem FOk.nil : FOk [] := ⟨List.nodup_nil, fun i p x r h => by simp at h, fun i p l h => by simp at h⟩
theorem FOk.one {F : List Sh} (h : FOk F) {i j : Nat} {t : Sh} (h1 : F[i]? = some t) (h2 : F[j]? = some t) : i = j := by
  obtain ⟨l1, e1⟩ := List.getElem?_eq_some_iff.1 h1
  obtain ⟨l2, e2⟩ := List.getElem?_eq_some_iff.1 h2
  exact (List.getElem_inj h.nodup).1 (e1.trans e2.symm)
theorem FOk.is {F : List Sh} (h : FOk F) {i : Nat} {t : Sh} (h1 : F[i]? = some t) : shIs F t = some (i + 1) := by
  have hm := List.mem_of_getElem? h1
  have h2 : shIs F t = some (F.idxOf t + 1) := by unfold shIs; rw [if_pos hm]
  have := (shIs_get h2).2.2
  rw [Nat.add_sub_cancel] at this
  rw [h2, h.one this h1]
theorem FOk.app {F : List Sh} (h : FOk F) {p : Nat} {l : List Nat} (hm : (p, l) ∉ F) (hn : l.Nodup) (hl : l.length ≤ 12) (hu : ∀ x r, l = x :: r → (p, r) ∈ F) : FOk (F ++ [(p, l)]) := by
  have hlast : ∀ (i : Nat) (t : Sh), (F ++ [(p, l)])[i]? = some t → F[i]? = some t ∨ (i = F.length ∧ t = (p, l)) := by
    intro i t hi
    by_cases h1 : i < F.length
    · rw [List.getElem?_append_left h1] at hi; exact .inl hi
    · rw [List.getElem?_append_right (by omega)] at hi
      have : i - F.length = 0 := by
        have := (List.getElem?_eq_some_iff.1 hi).1
        simp at this; omega
      rw [this] at hi
      simp at hi
      exact .inr ⟨by omega, hi.symm⟩
  refine ⟨?_, fun i q x r hi => ?_, fun i q r hi => ?_⟩
  · rw [List.nodup_append]
    refine ⟨h.nodup, by simp, fun a ha b hb e => ?_⟩
    simp at hb
    subst hb; subst e
    exact hm ha
  · rcases hlast _ _ hi with h1 | ⟨rfl, e⟩
    · obtain ⟨j, hj, h2⟩ := h.up i q x r h1
      have hjl := (List.getElem?_eq_some_iff.1 h2).1
      exact ⟨j, hj, by rw [List.getElem?_append_left hjl]; exact h2⟩
    · cases e
      obtain ⟨j, hjl, hj⟩ := List.getElem_of_mem (hu x r rfl)
      exact ⟨j, hjl, by rw [List.getElem?_append_left hjl, List.getElem?_eq_getElem hjl, hj]⟩
  · rcases hlast _ _ hi with h1 | ⟨rfl, e⟩
    · exact h.names i q r h1
    · cases e
      exact ⟨hn, hl⟩
def parId (F : List Sh) (t : Sh) : Nat := match t.2 with
  | [] => 0
  | _ :: r => F.idxOf (t.1, r) + 1
theorem FOk.par {F : List Sh} (h : FOk F) {i p x : Nat} {r : List Nat} (hi : F[i]? = some (p, x :: r)) : ∃ j, j < i ∧ F[j]? = some (p, r) ∧ parId F (p, x :: r) = j + 1 := by
  obtain ⟨j, hj, h2⟩ := h.up i p x r hi
  refine ⟨j, hj, h2, ?_⟩
  have := h.is h2
  unfold shIs at this
  rw [if_pos (List.mem_of_getElem? h2)] at this
  exact Option.some.inj this
def rows (c : Nat → List Value) (n : Nat) : List Value := (List.range n).flatMap c
theorem rows_succ (c : Nat → List Value) (n : Nat) : rows c (n + 1) = rows c n ++ c n := by
  unfold rows; rw [List.range_succ]; simp
theorem rows_congr {c d : Nat → List Value} {n : Nat} (h : ∀ i, i < n → c i = d i) : rows c n = rows d n := by
  induction n with
  | zero => rfl
  | succ n ih => rw [rows_succ, rows_succ, ih (fun i hi => h i (by omega)), h n (by omega)]
theorem rows_len {c : Nat → List Value} {k : Nat} (hc : ∀ i, (c i).length = k) (n : Nat) : (rows c n).length = n * k := by
  induction n with
  | zero => simp [rows]
  | succ n ih => rw [rows_succ, List.length_append, ih, hc, Nat.succ_mul]
theorem rows_get {c : Nat → List Value} {k : Nat} (hc : ∀ i, (c i).length = k) {n i j : Nat} (junk : List Value) (hi : i < n) (hj : j < k) : (rows c n ++ junk)[i * k + j]? = (c i)[j]? := by
  have hb : ∀ m, m ≤ n → i < m → i * k + j < m * k := fun m _ h => by
    have : (i + 1) * k ≤ m * k := Nat.mul_le_mul_right k h
    rw [Nat.succ_mul] at this; omega
  rw [List.getElem?_append_left (by rw [rows_len hc]; exact hb n (Nat.le_refl _) hi)]
  induction n with
  | zero => omega
  | succ n ih =>
    rw [rows_succ]
    by_cases e : i = n
    · subst e
      rw [List.getElem?_append_right (by rw [rows_len hc]; omega), rows_len hc]
      congr 1; omega
    · have hi' : i < n := by omega
      rw [List.getElem?_append_left (by rw [rows_len hc]; exact hb n (by omega) hi')]
      exact ih hi' (fun m hm h => hb m (by omega) h)
theorem rows_cut {c : Nat → List Value} {k : Nat} (hc : ∀ i, (c i).length = k) {n i : Nat} (junk : List Value) (hi : i < n) : i * k + k ≤ (rows c n ++ junk).length ∧ List.take k (List.drop (i * k) (rows c n ++ junk)) = c i := by
  have hb : (i + 1) * k ≤ n * k := Nat.mul_le_mul_right k hi
  rw [Nat.succ_mul] at hb
  refine ⟨by rw [List.length_append, rows_len hc]; omega, ?_⟩
  apply List.ext_getElem?
  intro j
  rw [List.getElem?_take]
  by_cases hj : j < k
  · rw [if_pos hj, List.getElem?_drop, rows_get hc junk hi hj]
  · rw [if_neg hj, List.getElem?_eq_none (by rw [hc]; omega)]
theorem rows_set {c d : Nat → List Value} {k : Nat} (hc : ∀ i, (c i).length = k) (hd : ∀ i, (d i).length = k) {n i j : Nat} {v : Value} (junk : List Value) (hi : i < n) (hj : j < k) (he : ∀ m, m ≠ i → d m = c m) (hs : d i = (c i).set j v) :
    (rows c n ++ junk).set (i * k + j) v = rows d n ++ junk := by
  have hb : (i + 1) * k ≤ n * k := Nat.mul_le_mul_right k hi
  rw [Nat.succ_mul] at hb
  rw [List.set_append_left _ _ (by rw [rows_len hc]; omega)]
  congr 1
  clear junk
  induction n with
  | zero => omega
  | succ n ih =>
    rw [rows_succ, rows_succ]
    by_cases e : i = n
    · subst e
      rw [List.set_append_right _ _ (by rw [rows_len hc]; omega), rows_len hc, show i * k + j - i * k = j from by omega, hs, rows_congr (fun m hm => (he m (by omega)).symm)]
    · have hi' : i < n := by omega
      have hb' : (i + 1) * k ≤ n * k := Nat.mul_le_mul_right k hi'
      rw [Nat.succ_mul] at hb'
      rw [List.set_append_left _ _ (by rw [rows_len hc]; omega), ih hi' hb', he n (by omega)]
def oneC (F : List Sh) (nx : Nat → Option Nat) (i : Nat) : List Value :=
  [.int .i64 ((parId F (F.getD i (0, [])) : Nat) : Int), .int .i64 (((F.getD i (0, [])).2.headD 0 : Nat) : Int), .int .i64 (((F.getD i (0, [])).2.length : Nat) : Int), .int .i64 (((F.getD i (0, [])).1 : Nat) : Int), .map (nx i)]
theorem oneC_len (F : List Sh) (nx : Nat → Option Nat) (i : Nat) : (oneC F nx i).length = 5 := rfl
theorem oneC_at {F : List Sh} {nx : Nat → Option Nat} {i : Nat} {t : Sh} (h : F[i]? = some t) : oneC F nx i = [.int .i64 ((parId F t : Nat) : Int), .int .i64 ((t.2.headD 0 : Nat) : Int), .int .i64 ((t.2.length : Nat) : Int), .int .i64 ((t.1 : Nat) : Int), .map (nx i)] := by
  unfold oneC
  rw [List.getD_eq_getElem?_getD, h]
  rfl
theorem FOk.one_app {F : List Sh} (h : FOk F) {t : Sh} {nx : Nat → Option Nat} {i : Nat} (hi : i < F.length) : oneC (F ++ [t]) nx i = oneC F nx i := by
  have e : F[i]? = some F[i] := List.getElem?_eq_getElem hi
  rw [oneC_at e, oneC_at (t := F[i]) (by rw [List.getElem?_append_left hi, e])]
  congr 2
  unfold parId
  rcases hF : F[i] with ⟨p, l⟩
  cases l with
  | nil => rfl
  | cons x r =>
    rw [hF] at e
    obtain ⟨j, hj, h2⟩ := h.up i p x r e
    simp only
    rw [List.idxOf_append, if_pos (List.mem_of_getElem? h2)]
def MI (es : List MapEntry) (f : Nat → Option Nat) : Prop := ∀ x : Nat, ∃ i, cfind Try.prog 3 (.int .i64 (x : Int)) es = some ((f x).map fun j => (i, .int .i64 (j : Int)))
theorem MI.nil : MI [] (fun _ => none) := fun x => ⟨0, by unfold cfind; rw [if_pos (show plain 6 (Value.int .i64 (x : Int)) = true from rfl), underlying3]; rfl⟩
theorem find_app (k : Value) (kd : TypeDesc) (e : MapEntry) : ∀ (es : List MapEntry) (i : Nat), Instr.findNow kd k es i = some none → Instr.findNow kd k (es ++ [e]) i = Instr.findNow kd k [e] (i + es.length) := by
  intro es
  induction es with
  | nil => intro i h; rfl
  | cons a es ih =>
    intro i h
    simp only [Instr.findNow, List.cons_append] at h ⊢
    cases hs : Instr.sameNow kd k a.key with
    | none => rw [hs] at h; simp at h
    | some b =>
      cases b with
      | true => rw [hs] at h; simp at h
      | false =>
        rw [hs] at h
        simp only at h ⊢
        rw [ih (i + 1) h, List.length_cons]
        rw [show i + 1 + es.length = i + (es.length + 1) from by omega]
        rfl
theorem find_app2 (k : Value) (kd : TypeDesc) (e : MapEntry) : ∀ (es : List MapEntry) (i : Nat) (r : Nat × Value), Instr.findNow kd k es i = some (some r) → Instr.findNow kd k (es ++ [e]) i = some (some r) := by
  intro es
  induction es with
  | nil => intro i r h; simp [Instr.findNow] at h
  | cons a es ih =>
    intro i r h
    simp only [Instr.findNow, List.cons_append] at h ⊢
    cases hs : Instr.sameNow kd k a.key with
    | none => rw [hs] at h; simp at h
    | some b =>
      cases b with
      | true => rw [hs] at h; exact h
      | false =>
        rw [hs] at h
        simp only at h ⊢
        exact ih (i + 1) r h
theorem MI.app {es : List MapEntry} {f : Nat → Option Nat} (h : MI es f) {x j c : Nat} (hx : f x = none) : MI (es ++ [{ key := .int .i64 (x : Int), val := .int .i64 (j : Int), born := c }]) (fun y => if y = x then some j else f y) := by
  have hc : ∀ (y : Nat) (es : List MapEntry), cfind Try.prog 3 (.int .i64 (y : Int)) es = Instr.findNow (.int .i64) (.int .i64 (y : Int)) es 0 := fun y es => by
    unfold cfind; rw [if_pos (show plain 6 (Value.int .i64 (y : Int)) = true from rfl), underlying3]
  intro y
  obtain ⟨i, hi⟩ := h y
  rw [hc] at hi ⊢
  by_cases e : y = x
  · subst e
    rw [hx] at hi
    refine ⟨es.length, ?_⟩
    rw [find_app _ _ _ _ _ hi]
    simp [Instr.findNow, Instr.sameNow]
  · simp only [if_neg e]
    cases hf : f y with
    | none =>
      rw [hf] at hi
      refine ⟨0, ?_⟩
      rw [find_app _ _ _ _ _ hi]
      have : ((y : Int) == (x : Int)) = false := by
        rw [Bool.eq_false_iff]
        intro h
        have := eq_of_beq h
        omega
      simp [Instr.findNow, Instr.sameNow, this]
    | some k =>
      rw [hf] at hi
      exact ⟨i, find_app2 _ _ _ _ _ _ hi⟩
set_option linter.defProp false in
def FOx := (And.intro (And.intro (And.intro (And.intro (And.intro @underlying3 @underlying4) (And.intro @underlying9 @underlying5)) (And.intro (And.intro @underlying32 @underlying0) (And.intro @be4 (And.intro @bn4 @ag3)))) (And.intro (And.intro (And.intro @sz3 @sz124) (And.intro @ce124 @ce3)) (And.intro (And.intro @ze3 @sz138) (And.intro @underlying159 (And.intro @underlying125 @underlying124))))) (And.intro (And.intro (And.intro (And.intro @underlying55 @ag55) (And.intro @ag125 @ag124)) (And.intro (And.intro @nf159 @nt159) (And.intro @ng159 (And.intro @nn159 @nf55)))) (And.intro (And.intro (And.intro @nf124 @nt124) (And.intro @fa127x0 (And.intro @fa127x1 @fa127x2))) (And.intro (And.intro @fa138x0 @fa138x1) (And.intro @fa138x2 (And.intro @fa138x3 @fa138x4))))))
end Go.Proofs.Try
set_option linter.unusedSimpArgs false
set_option linter.unusedVariables false
set_option linter.unusedSectionVars false
namespace Go.Proofs.Try
open Go.Cs
open Go.RowKit (Below)
set_option maxRecDepth 100000
attribute [local irreducible] CCalls WLoop WScope
section
variable {M : Type} [Mem M] {w0 : World} {s : St M} {R : Value → St M → Prop}
def Kids (s : St M) (F : List Sh) (O : Nat → Prop) (p m : Nat) (nx : Nat → Option Nat) : Prop :=
  (∀ i, nx i = none → ∀ t, F[i]? = some t → ∀ x, shIs F (t.1, x :: t.2) = none) ∧
  (∀ i b, nx i = some b → O b ∧ b ≠ p ∧ b ≠ m ∧ (∀ j, nx j = some b → j = i) ∧ ∃ t, F[i]? = some t ∧ ∃ es c, s.at' b = some (.map es c) ∧ MI es (fun x => shIs F (t.1, x :: t.2)))
structure FAt (lo : Nat) (s : St M) (p : Nat) (F : List Sh) (most : Nat) (O : Nat → Prop) : Prop where
  own : ∀ b, O b → lo ≤ b ∧ b < s.next
  pin : O p
  ok : FOk F
  le : F.length ≤ most ∧ most ≤ 150
  bl : ∃ m sl es clock nx, s.at' p = some (.cells [sl, .map (some m), .int .i64 (most : Int)] 127 true) ∧ s.at' m = some (.map es clock) ∧ MI es (fun x => shIs F (x, [])) ∧ O m ∧ m ≠ p ∧
    SlU 138 5 s sl (rows (oneC F nx) F.length) F.length ∧ (∀ q n c, sl = .slice (some q) n c → O q.block ∧ q.block ≠ p ∧ q.block ≠ m ∧ ∀ i, nx i ≠ some q.block) ∧ Kids s F O p m nx
theorem Kids.same {s s' : St M} {F : List Sh} {O : Nat → Prop} {p m : Nat} {nx : Nat → Option Nat} (h : Kids s F O p m nx) (hs : ∀ i b, nx i = some b → s'.at' b = s.at' b) : Kids s' F O p m nx := by
  refine ⟨h.1, fun i b hb => ?_⟩
  obtain ⟨h1, h2, h3, h4, t, h5, es, c, h6, h7⟩ := h.2 i b hb
  exact ⟨h1, h2, h3, h4, t, h5, es, c, by rw [hs i b hb]; exact h6, h7⟩
theorem FAt.same {lo : Nat} {s s' : St M} {p : Nat} {F : List Sh} {most : Nat} {O : Nat → Prop} (h : FAt lo s p F most O) (hn : s.next ≤ s'.next) (hs : ∀ b, O b → s'.at' b = s.at' b) : FAt lo s' p F most O := by
  obtain ⟨h1, h2, h3, h4, m, sl, es, clock, nx, h5, h6, h7, h8, h9, h10, h11, h12⟩ := h
  exact ⟨fun b hb => ⟨(h1 b hb).1, by have := (h1 b hb).2; omega⟩, h2, h3, h4, m, sl, es, clock, nx, by rw [hs _ h2]; exact h5, by rw [hs _ h8]; exact h6, h7, h8, h9, h10.same fun q n c e => hs _ (h11 q n c e).1, h11, h12.same fun i b hb => hs _ (h12.2 i b hb).1⟩
def shAt (F : List Sh) (i : Int) : Option Sh := if 1 ≤ i then F[i.toNat - 1]? else none
theorem SlU.form {e : TypeId} {sz : Nat} {sl : Value} {cs : List Value} {n : Nat} (h : SlU e sz s sl cs n) : (n = 0 ∧ sl = .slice none 0 0) ∨ ∃ b, sl = .slice (some ⟨b, 0, none⟩) n UNK := by
  rcases h with ⟨h1, _, h2⟩ | ⟨b, _, h1, _⟩
  · exact .inl ⟨h1, h2⟩
  · exact .inr ⟨b, h1⟩
theorem ffind_spec {p : Nat} {i most : Int} {sl m : Value} {n : Nat} (hp : s.at' p = some (.cells [sl, m, .int .i64 most] 127 true)) (hsl : (n = 0 ∧ sl = .slice none 0 0) ∨ ∃ b, sl = .slice (some ⟨b, 0, none⟩) n UNK) (hi : -9223372036854775808 ≤ i ∧ i ≤ 9223372036854775807)
    (hno : ¬ (1 ≤ i ∧ i ≤ n) → R (.pointer none) s) (hyes : ∀ b j : Nat, i = ((j + 1 : Nat) : Int) → j < n → sl = .slice (some ⟨b, 0, none⟩) n UNK → R (.pointer (some ⟨b, j * 5, none⟩)) s) :
    CCalls Try.prog w0 81 #[.pointer (some ⟨p, 0, none⟩), .int .i64 i] s R := by
  refine wfun2 hmix ok81 (l := [.pointer (some ⟨p, 0, none⟩), .int .i64 i]) func81 rfl ntmps81 results81 (by simp) ?_
  by_cases i1 : i < 1
  · simp -implicitDefEqProofs only [↓Zd, (Zp), if_true, if_false, ne_eq, implies_true, forall_const, Nat.reduceEqDiff, reduceIte, reduceCtorEq, Int.reduceEq, Int.reduceNeg, Int.reduceLE, Int.reduceLT, Nat.reduceAdd, Nat.reduceLeDiff, Int.reduceToNat, Nat.reduceMul, Nat.reduceBEq, okPart, Value.cells, cut, okCell, cld2, underlying3, underlying4, underlying9, underlying5, underlying32, underlying0, be4, bn4, nf55, i1]
    exact hno (by omega)
  · rcases hsl with ⟨h0, rfl⟩ | ⟨b, rfl⟩
    · have i2 : 0 < i := by omega
      simp -implicitDefEqProofs only [↓Zd, (Zp), if_true, if_false, ne_eq, implies_true, forall_const, Nat.reduceEqDiff, reduceIte, reduceCtorEq, Int.reduceEq, Int.reduceNeg, Int.reduceLE, Int.reduceLT, Nat.reduceAdd, Nat.reduceLeDiff, Int.reduceToNat, Nat.reduceMul, Nat.reduceBEq, okPart, Value.cells, cut, okCell, cld2, underlying3, underlying4, underlying9, underlying5, underlying32, underlying0, be4, bn4, underlying125, hp, nf55, fa127x0, ag125, i1, i2]
      exact hno (by omega)
    · by_cases i2 : (n : Int) < i
      · simp -implicitDefEqProofs only [↓Zd, (Zp), if_true, if_false, ne_eq, implies_true, forall_const, Nat.reduceEqDiff, reduceIte, reduceCtorEq, Int.reduceEq, Int.reduceNeg, Int.reduceLE, Int.reduceLT, Nat.reduceAdd, Nat.reduceLeDiff, Int.reduceToNat, Nat.reduceMul, Nat.reduceBEq, okPart, Value.cells, cut, okCell, cld2, underlying3, underlying4, underlying9, underlying5, underlying32, underlying0, be4, bn4, underlying125, hp, nf55, fa127x0, ag125, i1, i2]
        exact hno (by omega)
      · obtain ⟨j, rfl⟩ : ∃ j : Nat, i = ((j + 1 : Nat) : Int) := ⟨(i - 1).toNat, by omega⟩
        have w1 : IntKind.i64.wrap (((j + 1 : Nat) : Int) - 1) = (j : Int) := by rw [wrap_i64 (by omega)]; omega
        have hj : (0 : Int) ≤ (j : Int) ∧ (j : Int) < (n : Int) := by omega
        simp -implicitDefEqProofs only [↓Zd, (Zp), if_true, if_false, ne_eq, implies_true, forall_const, Nat.reduceEqDiff, reduceIte, reduceCtorEq, Int.reduceEq, Int.reduceNeg, Int.reduceLE, Int.reduceLT, Nat.reduceAdd, Nat.reduceLeDiff, Int.reduceToNat, Nat.reduceMul, Nat.reduceBEq, okPart, Value.cells, cut, okCell, cld2, underlying3, underlying4, underlying9, underlying5, underlying32, underlying0, be4, bn4, underlying125, hp, nf55, fa127x0, ag125, sz138, i1, i2, w1, hj, Int.toNat_natCast, Nat.zero_add]
        exact hyes b j rfl (by omega) rfl
theorem shAt_out {F : List Sh} {i : Int} (h : ¬ (1 ≤ i ∧ i ≤ F.length)) : shAt F i = none := by
  unfold shAt
  split
  · rw [List.getElem?_eq_none (by omega)]
  · rfl
theorem shAt_in {F : List Sh} {j : Nat} : shAt F ((j + 1 : Nat) : Int) = F[j]? := by
  unfold shAt
  rw [if_pos (by omega)]
  congr 1
theorem fproto_spec {lo p : Nat} {F : List Sh} {most : Nat} {O : Nat → Prop} {i : Int} (hF : FAt lo s p F most O) (hi : -9223372036854775808 ≤ i ∧ i ≤ 9223372036854775807)
    (h : R (match shAt F i with | some t => .tuple #[.int .i64 (t.1 : Int), .bool true] | none => .tuple #[.int .i64 0, .bool false]) s) : CCalls Try.prog w0 68 #[.pointer (some ⟨p, 0, none⟩), .int .i64 i] s R := by
  refine wfun2 hmix ok68 (l := [.pointer (some ⟨p, 0, none⟩), .int .i64 i]) func68 rfl ntmps68 results68 (by simp) ?_
  obtain ⟨h1, h2, h3, h4, m, sl, es, clock, nx, h5, h6, h7, h8, h9, h10, h11, h12⟩ := hF
  simp -implicitDefEqProofs only [↓Zd, (Zp), if_true, if_false, ne_eq, implies_true, forall_const, Nat.reduceEqDiff, reduceIte, reduceCtorEq, Int.reduceEq, Int.reduceNeg, Int.reduceLE, Int.reduceLT, Nat.reduceAdd, Nat.reduceLeDiff, Int.reduceToNat, Nat.reduceMul, Nat.reduceBEq, okPart, Value.cells, cut, okCell, cld2, underlying3, underlying4, underlying9, underlying5, underlying32, underlying0, be4, bn4, co81]
  refine ffind_spec h5 h10.form hi (fun hno => ?_) (fun b j hij hj hsl => ?_)
  · rw [shAt_out hno] at h
    simp -implicitDefEqProofs only [↓Zd, (Zp), if_true, if_false, ne_eq, implies_true, forall_const, Nat.reduceEqDiff, reduceIte, reduceCtorEq, Int.reduceEq, Int.reduceNeg, Int.reduceLE, Int.reduceLT, Nat.reduceAdd, Nat.reduceLeDiff, Int.reduceToNat, Nat.reduceMul, Nat.reduceBEq, okPart, Value.cells, cut, okCell, cld2, (FOx)]
    exact h
  · rcases h10 with ⟨e0, _⟩ | ⟨b', junk, hs', hb, hl⟩
    · omega
    cases hsl.symm.trans hs'
    have hF : F[j]? = some F[j] := by simp [hj]
    rw [hij, shAt_in, hF] at h
    have g := rows_get (oneC_len F nx) (n := F.length) junk hj (show 3 < 5 by omega)
    rw [oneC_at hF] at g
    simp -implicitDefEqProofs only [↓Zd, (Zp), if_true, if_false, ne_eq, implies_true, forall_const, Nat.reduceEqDiff, reduceIte, reduceCtorEq, Int.reduceEq, Int.reduceNeg, Int.reduceLE, Int.reduceLT, Nat.reduceAdd, Nat.reduceLeDiff, Int.reduceToNat, Nat.reduceMul, Nat.reduceBEq, okPart, Value.cells, cut, okCell, cld2, (FOx), hb, g]
    exact h
end
end Go.Proofs.Try
set_option linter.unusedSimpArgs false
set_option linter.unusedVariables false
set_option linter.unusedSectionVars false
namespace Go.Proofs.Try
open Go.Cs
open Go.RowKit (Below)
set_option maxRecDepth 100000
attribute [local irreducible] CCalls WLoop WScope
def oneV (a b c d : Nat) : List Value := [.int .i64 (a : Int), .int .i64 (b : Int), .int .i64 (c : Int), .int .i64 (d : Int), .map none]
theorem rowOne (a b c d : Nat) : crow Try.prog 125 1 #[(0, .agg #[.int .i64 (a : Int), .int .i64 (b : Int), .int .i64 (c : Int), .int .i64 (d : Int), .map none])] = some (.cells [.int .i64 (a : Int), .int .i64 (b : Int), .int .i64 (c : Int), .int .i64 (d : Int), .map none] 138 true) := by kernel_rfl
theorem infoOne : ∃ ie, Try.prog.info? 138 = some ie ∧ ie.size = 5 ∧ 0 < ie.bytes ∧ ie.bytes ≤ 100 := by
  obtain ⟨ie, h⟩ := Option.isSome_iff_exists.1 is138
  have h1 := ce138
  have h2 : decide (0 < Try.prog.bytesOf 138 ∧ Try.prog.bytesOf 138 ≤ 100) = true := by kernel_rfl
  rw [cellsOf_info h] at h1
  simp only [Program.bytesOf, h, decide_eq_true_eq] at h2
  exact ⟨ie, h, h1, h2.1, h2.2⟩
section
variable {M : Type} [Mem M] {w0 : World} {s : St M} {R : Value → St M → Prop}
theorem app_one {s : St M} {sl : Value} {cs : List Value} {k a b c d : Nat} (hlen : k ≤ 1000000) (hsl : SlU 138 5 s sl cs k) (hfr : ∀ q m c, sl = .slice (some q) m c → q.block < s.next) :
    ∃ s', capp Try.prog #[125, 125] #[sl, .slice (some ⟨s.next, 0, none⟩) 1 1] (s.new (.cells (oneV a b c d) 138 true)) = some (.slice (some ⟨s.next + 1, 0, none⟩) (k + 1) UNK, s') ∧ s'.next = s.next + 2 ∧
      s'.at' (s.next + 1) = some (.cells (cs ++ oneV a b c d) 138 true) ∧ (∀ b, b < s.next → (∀ q n c, sl = .slice (some q) n c → b ≠ q.block) → s'.at' b = s.at' b) := by
  obtain ⟨ie, hie, h1, h2, h3⟩ := infoOne
  have hcapp : capp Try.prog #[125, 125] #[sl, .slice (some ⟨s.next, 0, none⟩) 1 1] (s.new (.cells (oneV a b c d) 138 true)) = capp3 Try.prog 138 ie sl (s.new (.cells (oneV a b c d) 138 true)) (cmore ie.size (.slice (some ⟨s.next, 0, none⟩) 1 1) (s.new (.cells (oneV a b c d) 138 true))) :=
    app_eq underlying125 underlying125 hie
  have hv : cmore ie.size (.slice (some ⟨s.next, 0, none⟩) 1 1) (s.new (.cells (oneV a b c d) 138 true)) = some (1, oneV a b c d) := by
    simp only [more_at, St.at_new, if_true, more2, h1]; rfl
  obtain ⟨s', h3, h4, h5, h6⟩ := app_rowU (n := k) (k := 1) hie ze138 (by rw [h1]; rfl) h2 hcapp (by omega) (by
    have : (k + 1) * ie.bytes ≤ 1000001 * 100 := Nat.mul_le_mul (by omega) h3
    omega) rfl hv (by rw [h1]; exact hsl.same fun q m c e => by rw [St.at_new, if_neg (by have := hfr q m c e; omega)])
  refine ⟨s', by simpa using h3, by simp at h4; omega, h5, fun b hb hq => ?_⟩
  rw [h6 b (by simp; omega) hq, St.at_new, if_neg (by omega)]
set_option maxHeartbeats 4000000 in
theorem fgrow_spec {p most : Nat} {sl m : Value} {cs : List Value} {n a b c d : Nat} (hp : s.at' p = some (.cells [sl, m, .int .i64 (most : Int)] 127 true)) (hsl : SlU 138 5 s sl cs n) (hfr : ∀ q m c, sl = .slice (some q) m c → q.block < s.next ∧ q.block ≠ p) (hpn : p < s.next) (hn : n ≤ 150)
    (hno : ∀ s', most ≤ n → s.le s' → R (.int .i64 0) s')
    (hyes : ∀ s' b', n < most → s.next ≤ b' → b' < s'.next → s.next ≤ s'.next → s'.at' p = some (.cells [.slice (some ⟨b', 0, none⟩) (n + 1) UNK, m, .int .i64 (most : Int)] 127 true) → s'.at' b' = some (.cells (cs ++ oneV a b c d) 138 true) →
      (∀ c, c < s.next → c ≠ p → (∀ q n k, sl = .slice (some q) n k → c ≠ q.block) → s'.at' c = s.at' c) → R (.int .i64 ((n + 1 : Nat) : Int)) s') :
    CCalls Try.prog w0 55 #[.pointer (some ⟨p, 0, none⟩), .agg #[.int .i64 (a : Int), .int .i64 (b : Int), .int .i64 (c : Int), .int .i64 (d : Int), .map none]] s R := by
  refine wfun2 hmix ok55 (l := [.pointer (some ⟨p, 0, none⟩), .agg #[.int .i64 (a : Int), .int .i64 (b : Int), .int .i64 (c : Int), .int .i64 (d : Int), .map none]]) func55 rfl ntmps55 results55 (by simp) ?_
  have hpn' : ¬ p = s.next := by omega
  obtain ⟨a0, c0, rfl⟩ : ∃ a0 c0, sl = .slice a0 n c0 := by
    rcases hsl.form with ⟨e0, rfl⟩ | ⟨b, rfl⟩
    · exact ⟨none, 0, by rw [e0]⟩
    · exact ⟨_, _, rfl⟩
  by_cases hge : (most : Int) ≤ (n : Int)
  · simp -implicitDefEqProofs only [↓Zd, (Zp), if_true, if_false, ne_eq, implies_true, forall_const, Nat.reduceEqDiff, reduceIte, reduceCtorEq, Int.reduceEq, Int.reduceNeg, Int.reduceLE, Int.reduceLT, Nat.reduceAdd, Nat.reduceLeDiff, Int.reduceToNat, Nat.reduceMul, Nat.reduceBEq, okPart, Value.cells, cut, okCell, cld2, (FOx), underlying138, is138, ord55, ce138, ag138, hp, hpn', hge, sz125]
    exact hno _ (by omega) (by repeat (first | exact St.le_refl _ | assumption | refine St.le_new ?_ | refine St.le_put ?_ (by first | omega | (simp only [St.next_new, St.next_put, St.next_kill]; omega)) | refine St.le_trans ?_ (by assumption)))
  · have hsl' : SlU 138 5 (s.new (.cells (oneV a b c d) 138 true)) (.slice a0 n c0) cs n := hsl.same fun q m c e => by rw [St.at_new, if_neg (by have := (hfr q m c e).1; omega)]
    obtain ⟨s3, happ, hn3, hat3, hk3⟩ := app_one (a := a) (b := b) (c := c) (d := d) (by omega) hsl' (fun q m c e => by have := (hfr q m c e).1; simp only [St.next_new]; omega)
    simp only [St.next_new, oneV] at happ hn3 hat3 hk3
    have hp3 : s3.at' p = some (.cells [.slice a0 n c0, m, .int .i64 (most : Int)] 127 true) := by rw [hk3 p (by omega) (fun q a c e => (hfr q a c e).2.symm), St.at_new, if_neg hpn']; exact hp
    simp -implicitDefEqProofs only [↓Zd, (Zp), if_true, if_false, ne_eq, implies_true, forall_const, Nat.reduceEqDiff, reduceIte, reduceCtorEq, Int.reduceEq, Int.reduceNeg, Int.reduceLE, Int.reduceLT, Nat.reduceAdd, Nat.reduceLeDiff, Int.reduceToNat, Nat.reduceMul, Nat.reduceBEq, okPart, Value.cells, cut, okCell, cld2, (FOx), underlying138, is138, ord55, ce138, ag138, hp, hpn', hge, sz125, rowOne, happ, hp3]
    refine hyes _ (s.next + 2) (by omega) (by omega) (by simp only [St.next_put]; omega) (by simp only [St.next_put]; omega) ?_ ?_ ?_
    · rw [St.at_put, if_pos rfl]
    · rw [St.at_put, if_neg (by omega)]; exact hat3
    · intro c hc hcp hq
      rw [St.at_put, if_neg hcp, hk3 c (by omega) hq, St.at_new, if_neg (by omega)]
end
end Go.Proofs.Try
set_option linter.unusedSimpArgs false
set_option linter.unusedVariables false
set_option linter.unusedSectionVars false
namespace Go.Proofs.Try
open Go.Cs
open Go.RowKit (Below)
set_option maxRecDepth 100000
attribute [local irreducible] CCalls WLoop WScope
theorem rows_app {F : List Sh} (h : FOk F) {t : Sh} {nx : Nat → Option Nat} (hn : nx F.length = none) : rows (oneC (F ++ [t]) nx) (F.length + 1) = rows (oneC F nx) F.length ++ oneV (parId (F ++ [t]) t) (t.2.headD 0) t.2.length t.1 := by
  rw [rows_succ, rows_congr (fun i hi => h.one_app hi)]
  congr 1
  rw [oneC_at (t := t) (by simp), hn]
  rfl
section
variable {M : Type} [Mem M] {w0 : World} {s : St M} {R : Value → St M → Prop}
structure Upd (s s' : St M) (O O' : Nat → Prop) : Prop where
  next : s.next ≤ s'.next
  keep : ∀ b, b < s.next → ¬ O b → s'.at' b = s.at' b
  own : ∀ b, O' b → O b ∨ s.next ≤ b
theorem Upd.of_le {s s' : St M} {O : Nat → Prop} (h : s.le s') : Upd s s' O O := ⟨h.1, fun b hb _ => h.2 b hb, fun b hb => .inl hb⟩
theorem Upd.refl {s : St M} {O : Nat → Prop} : Upd s s O O := .of_le (St.le_refl s)
theorem Upd.trans {s s1 s2 : St M} {O O1 O2 : Nat → Prop} (h1 : Upd s s1 O O1) (h2 : Upd s1 s2 O1 O2) : Upd s s2 O O2 := by
  have hn := h1.next
  refine ⟨Nat.le_trans h1.next h2.next, fun b hb ho => ?_, fun b hb => ?_⟩
  · rw [h2.keep b (by omega) (fun h => by rcases h1.own b h with h | h; exact ho h; omega), h1.keep b hb ho]
  · rcases h2.own b hb with h | h
    · exact h1.own b h
    · exact .inr (by omega)
theorem Kids.last {s : St M} {F : List Sh} {O : Nat → Prop} {p m : Nat} {nx : Nat → Option Nat} (h : Kids s F O p m nx) {i : Nat} (hi : F.length ≤ i) : nx i = none := by
  cases hx : nx i with
  | none => rfl
  | some b =>
    obtain ⟨_, _, _, _, t, h5, _⟩ := h.2 i b hx
    have := (List.getElem?_eq_some_iff.1 h5).1
    omega
theorem Kids.root {s : St M} {F : List Sh} {O : Nat → Prop} {p m q : Nat} {nx : Nat → Option Nat} (h : Kids s F O p m nx) (hF : FOk F) (hq : (q, []) ∉ F) : Kids s (F ++ [(q, [])]) O p m nx := by
  have hs : ∀ (a x : Nat) (l : List Nat), shIs (F ++ [(q, [])]) (a, x :: l) = shIs F (a, x :: l) := fun a x l => by
    rw [shIs_app hq, if_neg (by simp)]
  refine ⟨fun i hi t ht x => ?_, fun i b hb => ?_⟩
  · rw [hs]
    by_cases h1 : i < F.length
    · rw [List.getElem?_append_left h1] at ht
      exact h.1 i hi t ht x
    · rw [List.getElem?_append_right (by omega)] at ht
      have h0 : i - F.length = 0 := by
        have := (List.getElem?_eq_some_iff.1 ht).1
        simp at this; omega
      rw [h0] at ht
      simp at ht
      subst ht
      rw [shIs_none]
      intro hm
      obtain ⟨k, hk, e⟩ := List.getElem_of_mem hm
      obtain ⟨j, _, hj⟩ := hF.up k q x [] (by rw [List.getElem?_eq_getElem hk, e])
      exact hq (List.mem_of_getElem? hj)
  · obtain ⟨h1, h2, h3, h4, t, h5, es, c, h6, h7⟩ := h.2 i b hb
    refine ⟨h1, h2, h3, h4, t, by rw [List.getElem?_append_left (List.getElem?_eq_some_iff.1 h5).1]; exact h5, es, c, h6, ?_⟩
    have : (fun x => shIs (F ++ [(q, [])]) (t.1, x :: t.2)) = fun x => shIs F (t.1, x :: t.2) := by funext x; exact hs _ _ _
    rw [this]
    exact h7
theorem Kids.mono {s : St M} {F : List Sh} {O O' : Nat → Prop} {p m : Nat} {nx : Nat → Option Nat} (h : Kids s F O p m nx) (ho : ∀ b, O b → O' b) : Kids s F O' p m nx :=
  ⟨h.1, fun i b hb => ⟨ho b (h.2 i b hb).1, (h.2 i b hb).2⟩⟩
theorem bOneR (q : Nat) : cbuild Try.prog 138 #[(3, .int .i64 (q : Int))] = some (.agg #[.int .i64 ((0 : Nat) : Int), .int .i64 ((0 : Nat) : Int), .int .i64 ((0 : Nat) : Int), .int .i64 (q : Int), .map none]) := by kernel_rfl
set_option maxHeartbeats 4000000 in
theorem froot_spec {lo p : Nat} {F : List Sh} {most q : Nat} {O : Nat → Prop} (hF : FAt lo s p F most O) (hlo : lo ≤ s.next)
    (h : ∀ s' O', FAt lo s' p (growF F most (q, [])) most O' → Upd s s' O O' → R (.int .i64 (growN F most (q, []) : Int)) s') :
    CCalls Try.prog w0 23 #[.pointer (some ⟨p, 0, none⟩), .int .i64 (q : Int)] s R := by
  refine wfun2 hmix ok23 (l := [.pointer (some ⟨p, 0, none⟩), .int .i64 (q : Int)]) func23 rfl ntmps23 results23 (by simp) ?_
  have hF0 := hF
  obtain ⟨h1, h2, h3, h4, m, sl, es, clock, nx, h5, h6, h7, h8, h9, h10, h11, h12⟩ := hF
  have hq : ¬ (q : Int) < 0 := by omega
  obtain ⟨i0, hc⟩ := h7 q
  simp only at hc
  have hpn := (h1 p h2).2
  have hmn := (h1 m h8).2
  by_cases hin : (q, []) ∈ F
  · have hsh : shIs F (q, []) = some (F.idxOf (q, []) + 1) := by unfold shIs; rw [if_pos hin]
    rw [hsh] at hc
    have hg : growN F most (q, []) = F.idxOf (q, []) + 1 := by unfold growN; rw [if_pos hin]
    have hf : growF F most (q, []) = F := by unfold growF; rw [if_pos hin]
    rw [hg, hf] at h
    simp -implicitDefEqProofs only [↓Zd, (Zp), if_true, if_false, ne_eq, implies_true, forall_const, Nat.reduceEqDiff, reduceIte, reduceCtorEq, Int.reduceEq, Int.reduceNeg, Int.reduceLE, Int.reduceLT, Nat.reduceAdd, Nat.reduceLeDiff, Int.reduceToNat, Nat.reduceMul, Nat.reduceBEq, okPart, Value.cells, cut, okCell, cld2, (FOx), underlying135, h5, h6, hq, hc]
    exact h _ O hF0 .refl
  · have hsh : shIs F (q, []) = none := shIs_none.2 hin
    rw [hsh] at hc
    simp -implicitDefEqProofs only [↓Zd, (Zp), if_true, if_false, ne_eq, implies_true, forall_const, Nat.reduceEqDiff, reduceIte, reduceCtorEq, Int.reduceEq, Int.reduceNeg, Int.reduceLE, Int.reduceLT, Nat.reduceAdd, Nat.reduceLeDiff, Int.reduceToNat, Nat.reduceMul, Nat.reduceBEq, okPart, Value.cells, cut, okCell, cld2, (FOx), underlying135, h5, h6, hq, hc, bOneR, co55]
    refine fgrow_spec h5 h10 (fun q a c e => ⟨(h1 _ (h11 q a c e).1).2, (h11 q a c e).2.1⟩) hpn (by omega) (fun s' hm hs' => ?_) (fun s' b' hlt hb1 hb2 hn' hp' hb' hk' => ?_)
    · have hg : growN F most (q, []) = 0 := by unfold growN; rw [if_neg hin, if_neg (by omega)]
      have hf : growF F most (q, []) = F := by unfold growF; rw [if_neg hin, if_neg (by omega)]
      rw [hg, hf] at h
      simp -implicitDefEqProofs only [↓Zd, (Zp), if_true, if_false, ne_eq, implies_true, forall_const, Nat.reduceEqDiff, reduceIte, reduceCtorEq, Int.reduceEq, Int.reduceNeg, Int.reduceLE, Int.reduceLT, Nat.reduceAdd, Nat.reduceLeDiff, Int.reduceToNat, Nat.reduceMul, Nat.reduceBEq, okPart, Value.cells, cut, okCell, cld2, (FOx)]
      exact h _ O (hF0.same hs'.1 fun b hb => hs'.2 b (h1 b hb).2) (.of_le hs')
    · have hg : growN F most (q, []) = F.length + 1 := by unfold growN; rw [if_neg hin, if_pos hlt]
      have hf : growF F most (q, []) = F ++ [(q, [])] := by unfold growF; rw [if_neg hin, if_pos hlt]
      rw [hg, hf] at h
      have hpos : (0 : Int) < ((F.length + 1 : Nat) : Int) := by omega
      have hmp : ¬ m = p := h9
      have hm' : s'.at' m = some (.map es clock) := by rw [hk' m hmn hmp (fun q a c e => (h11 q a c e).2.2.1.symm)]; exact h6
      simp only [Option.map_none] at hc
      simp -implicitDefEqProofs only [↓Zd, (Zp), if_true, if_false, ne_eq, implies_true, forall_const, Nat.reduceEqDiff, reduceIte, reduceCtorEq, Int.reduceEq, Int.reduceNeg, Int.reduceLE, Int.reduceLT, Nat.reduceAdd, Nat.reduceLeDiff, Int.reduceToNat, Nat.reduceMul, Nat.reduceBEq, okPart, Value.cells, cut, okCell, cld2, (FOx), hpos, hp', hm', hc]
      have hpm : ¬ p = m := fun e => h9 e.symm
      have hl : (F ++ [(q, ([] : List Nat))]).length = F.length + 1 := by simp
      refine h _ (fun b => O b ∨ b = b') ⟨?_, .inl h2, h3.app hin List.nodup_nil (by simp) (fun x r e => by cases e), ⟨by rw [List.length_append]; simp only [List.length_cons, List.length_nil]; omega, h4.2⟩, m, .slice (some ⟨b', 0, none⟩) (F.length + 1) UNK, es ++ [{ key := .int .i64 (q : Int), val := .int .i64 ((F.length + 1 : Nat) : Int), born := clock }], clock + 1, nx, ?_, ?_, ?_, .inl h8, h9, .inr ⟨b', [], by simp, ?_, ?_⟩, ?_, ?_⟩ ⟨?_, ?_, ?_⟩
      · rintro b (hb | rfl)
        · exact ⟨(h1 b hb).1, by have := (h1 b hb).2; simp only [St.next_put]; omega⟩
        · exact ⟨by omega, by simp only [St.next_put]; omega⟩
      · rw [St.at_put, if_neg hpm]; exact hp'
      · rw [St.at_put, if_pos rfl]
      · have := h7.app (x := q) (j := F.length + 1) (c := clock) hsh
        have e : (fun x => shIs (F ++ [(q, [])]) (x, [])) = fun y => if y = q then some (F.length + 1) else shIs F (y, []) := by
          funext y
          rw [shIs_app hin]
          by_cases e : y = q
          · subst e; simp
          · rw [if_neg e, if_neg (by simp [e])]
        rw [e]; exact this
      · rw [St.at_put, if_neg (by omega), hl, rows_app h3 (h12.last (Nat.le_refl _)), List.append_nil]
        exact hb'
      · exact rows_len (oneC_len _ _) _
      · intro a c k e
        cases e
        exact ⟨.inr rfl, by show b' ≠ p; omega, by show b' ≠ m; omega, fun i hi => by have := (h1 _ (h12.2 i _ hi).1).2; simp only at this; omega⟩
      · refine ((h12.root h3 hin).mono fun b hb => Or.inl hb).same fun i b hb => ?_
        obtain ⟨g1, g2, g3, _⟩ := h12.2 i b hb
        rw [St.at_put, if_neg g3]
        exact hk' b (h1 b g1).2 g2 (fun a c k e => fun e2 => (h11 a c k e).2.2.2 i (by rw [hb, e2]))
      · simp only [St.next_put]; omega
      · intro b hb ho
        rw [St.at_put, if_neg (fun e : b = m => ho (e ▸ h8))]
        exact hk' b hb (fun e => ho (e ▸ h2)) (fun a c k e e2 => ho (e2 ▸ (h11 a c k e).1))
      · rintro b (hb | rfl)
        · exact .inl hb
        · exact .inr hb1
end
end Go.Proofs.Try
set_option linter.unusedSimpArgs false
set_option linter.unusedVariables false
set_option linter.unusedSectionVars false
namespace Go.Proofs.Try
open Go.Cs
open Go.RowKit (Below)
set_option maxRecDepth 100000
attribute [local irreducible] CCalls WLoop WScope CRound
section
variable {M : Type} [Mem M] {w0 : World} {s : St M} {R : Value → St M → Prop}
def namesOf (F : List Sh) (i : Int) : List Nat := match shAt F i with
  | some t => t.2
  | none => []
set_option maxHeartbeats 4000000 in
theorem fup_spec {p m most a1 a2 lb : Nat} {sl : Value} {F : List Sh} {i : Int} {nx : Nat → Option Nat} {junk : List Value} {x1 x2 : Array Value} (J : List Nat → St M → Prop) (hF : FOk F) (hi : -9223372036854775808 ≤ i ∧ i ≤ 9223372036854775807) (hlen : F.length ≤ 150)
    (hsl : (F.length = 0 ∧ sl = .slice none 0 0) ∨ ∃ b, sl = .slice (some ⟨b, 0, none⟩) F.length UNK)
    (hkeep : ∀ l s1, J l s1 → s1.at' a1 = some (.cells [.pointer (some ⟨p, 0, none⟩)] 55 true) ∧ s1.at' a2 = some (.cells [.int .i64 i] 3 true) ∧ s1.at' p = some (.cells [sl, .map (some m), .int .i64 (most : Int)] 127 true) ∧ (∀ b, sl = .slice (some ⟨b, 0, none⟩) F.length UNK → s1.at' b = some (.cells (rows (oneC F nx) F.length ++ junk) 138 true)))
    (h0 : J (namesOf F i) s) (hend : ∀ s1, J [] s1 → R (.tuple #[]) s1)
    (hround : ∀ (j q x : Nat) (r : List Nat) s1, F[j]? = some (q, x :: r) → J (x :: r) s1 → CRound Try.prog w0 lb #[.agg #[.int .i64 ((parId F (q, x :: r) : Nat) : Int), .int .i64 (x : Int), .int .i64 ((r.length + 1 : Nat) : Int), .int .i64 (q : Int), .map (nx j)]] s1 (fun v s2 => (v = .bool true ∧ J r s2) ∨ (v = .bool false ∧ R (.tuple #[]) s2))) :
    CCalls Try.prog w0 93 #[.func (.yield lb) x1 x2, .pointer (some ⟨a1, 0, none⟩), .pointer (some ⟨a2, 0, none⟩)] s R := by
  refine wfun2 hmix ok93 (l := [.func (.yield lb) x1 x2, .pointer (some ⟨a1, 0, none⟩), .pointer (some ⟨a2, 0, none⟩)]) func93 rfl ntmps93 results93 (by simp) ?_
  obtain ⟨k1, k2, k3, k4⟩ := hkeep _ _ h0
  simp -implicitDefEqProofs only [↓Zd, (Zp), if_true, if_false, ne_eq, implies_true, forall_const, Nat.reduceEqDiff, reduceIte, reduceCtorEq, Int.reduceEq, Int.reduceNeg, Int.reduceLE, Int.reduceLT, Nat.reduceAdd, Nat.reduceLeDiff, Int.reduceToNat, Nat.reduceMul, Nat.reduceBEq, okPart, Value.cells, cut, okCell, cld2, (FOx), k1, k2, co81]
  refine ffind_spec (n := F.length) k3 hsl hi (fun hno => ?_) (fun b j hij hj hs => ?_)
  · have e0 : namesOf F i = [] := by unfold namesOf; rw [shAt_out hno]
    rw [e0] at h0
    simp -implicitDefEqProofs only [↓Zd, (Zp), if_true, if_false, ne_eq, implies_true, forall_const, Nat.reduceEqDiff, reduceIte, reduceCtorEq, Int.reduceEq, Int.reduceNeg, Int.reduceLE, Int.reduceLT, Nat.reduceAdd, Nat.reduceLeDiff, Int.reduceToNat, Nat.reduceMul, Nat.reduceBEq, okPart, Value.cells, cut, okCell, cld2, (FOx)]
    refine wloop_fix hmix [8, 9, 10, 11, 12, 13, 14, 15, 16, 23, 24, 25, 26, 27, 28, 17, 18, 19, 20, 21, 22, 4] (fun fuel env s1 => env 4 = .pointer none ∧ s1 = s) 0 ⟨rfl, rfl⟩ ?_
    rintro fuel env s1 hFx ⟨e4, rfl⟩
    simp -implicitDefEqProofs only [↓Zd, (Zp), if_true, if_false, ne_eq, implies_true, forall_const, Nat.reduceEqDiff, reduceIte, reduceCtorEq, Int.reduceEq, Int.reduceNeg, Int.reduceLE, Int.reduceLT, Nat.reduceAdd, Nat.reduceLeDiff, Int.reduceToNat, Nat.reduceMul, Nat.reduceBEq, okPart, Value.cells, cut, okCell, cld2, (FOx), e4]
    exact hend _ h0
  · have hFj : F[j]? = some F[j] := by simp [hj]
    have e0 : namesOf F i = F[j].2 := by unfold namesOf; rw [hij, shAt_in, hFj]
    rw [e0] at h0
    subst hs
    simp -implicitDefEqProofs only [↓Zd, (Zp), if_true, if_false, ne_eq, implies_true, forall_const, Nat.reduceEqDiff, reduceIte, reduceCtorEq, Int.reduceEq, Int.reduceNeg, Int.reduceLE, Int.reduceLT, Nat.reduceAdd, Nat.reduceLeDiff, Int.reduceToNat, Nat.reduceMul, Nat.reduceBEq, okPart, Value.cells, cut, okCell, cld2, (FOx)]
    refine wloop_fix hmix [8, 9, 10, 11, 12, 13, 14, 15, 16, 23, 24, 25, 26, 27, 28, 17, 18, 19, 20, 21, 22, 4] (fun fuel env s1 => ∃ (j q : Nat) (l : List Nat), fuel = l.length ∧ F[j]? = some (q, l) ∧ env 4 = .pointer (some ⟨b, j * 5, none⟩) ∧ J l s1) F[j].2.length ⟨j, F[j].1, F[j].2, rfl, hFj, rfl, h0⟩ ?_
    rintro fuel env s1 hFx ⟨j, q, l, rfl, hFj, e4, hJ⟩
    have hjl := (List.getElem?_eq_some_iff.1 hFj).1
    obtain ⟨g1, g2, g3, g4⟩ := hkeep _ _ hJ
    have g4 := g4 b rfl
    have f2 := rows_get (oneC_len F nx) (n := F.length) junk hjl (show 2 < 5 by omega)
    rw [oneC_at hFj] at f2
    have e0 : env 0 = .func (.yield lb) x1 x2 := by rw [hFx 0 rfl]; rfl
    have e1 : env 1 = .pointer (some ⟨a1, 0, none⟩) := by rw [hFx 1 rfl]; rfl
    cases l with
    | nil =>
      have z0 : ¬ (0 : Int) < ((([] : List Nat).length : Nat) : Int) := by simp
      simp -implicitDefEqProofs only [↓Zd, (Zp), if_true, if_false, ne_eq, implies_true, forall_const, Nat.reduceEqDiff, reduceIte, reduceCtorEq, Int.reduceEq, Int.reduceNeg, Int.reduceLE, Int.reduceLT, Nat.reduceAdd, Nat.reduceLeDiff, Int.reduceToNat, Nat.reduceMul, Nat.reduceBEq, okPart, Value.cells, cut, okCell, cld2, (FOx), e4, g4, f2, z0]
      exact hend _ hJ
    | cons x r =>
      have z0 : (0 : Int) < ((r.length + 1 : Nat) : Int) := by omega
      obtain ⟨jp, hjp, hFp, hpar⟩ := hF.par hFj
      have hjpl := (List.getElem?_eq_some_iff.1 hFp).1
      obtain ⟨hle5, htk5⟩ := rows_cut (oneC_len F nx) (n := F.length) junk hjl
      rw [oneC_at hFj] at htk5
      simp -implicitDefEqProofs only [↓Zd, (Zp), if_true, if_false, ne_eq, implies_true, forall_const, Nat.reduceEqDiff, reduceIte, reduceCtorEq, Int.reduceEq, Int.reduceNeg, Int.reduceLE, Int.reduceLT, Nat.reduceAdd, Nat.reduceLeDiff, Int.reduceToNat, Nat.reduceMul, Nat.reduceBEq, okPart, Value.cells, cut, okCell, cld2, (FOx), underlying138, ce138, ag138, e0, e4, g4, f2, z0, hle5, htk5]
      refine CRound.mono (hround j q x r s1 hFj hJ) fun v s2 hv => ?_
      rcases hv with ⟨rfl, hJ2⟩ | ⟨rfl, hR⟩
      · obtain ⟨u1, u2, u3, u4⟩ := hkeep _ _ hJ2
        have u4 := u4 b rfl
        have f0 := rows_get (oneC_len F nx) (n := F.length) junk hjl (show 0 < 5 by omega)
        rw [oneC_at hFj] at f0
        simp -implicitDefEqProofs only [↓Zd, (Zp), if_true, if_false, ne_eq, implies_true, forall_const, Nat.reduceEqDiff, reduceIte, reduceCtorEq, Int.reduceEq, Int.reduceNeg, Int.reduceLE, Int.reduceLT, Nat.reduceAdd, Nat.reduceLeDiff, Int.reduceToNat, Nat.reduceMul, Nat.reduceBEq, okPart, Value.cells, cut, okCell, cld2, (FOx), ord93, e1, e4, u1, u4, f0, hpar, co81]
        refine ffind_spec (n := F.length) u3 hsl (by omega) (fun hno => by omega) (fun b2 j2 hij2 hj2 hs2 => ?_)
        cases hs2
        have : j2 = jp := by omega
        subst this
        simp -implicitDefEqProofs only [↓Zd, (Zp), if_true, if_false, ne_eq, implies_true, forall_const, Nat.reduceEqDiff, reduceIte, reduceCtorEq, Int.reduceEq, Int.reduceNeg, Int.reduceLE, Int.reduceLT, Nat.reduceAdd, Nat.reduceLeDiff, Int.reduceToNat, Nat.reduceMul, Nat.reduceBEq, okPart, Value.cells, cut, okCell, cld2, (FOx), ord93]
        refine ⟨by repeat (first | exact hFx | refine Fix.upd (by decide) ?_), r.length, by simp, j2, q, r, rfl, hFp, rfl, hJ2⟩
      · simp -implicitDefEqProofs only [↓Zd, (Zp), if_true, if_false, ne_eq, implies_true, forall_const, Nat.reduceEqDiff, reduceIte, reduceCtorEq, Int.reduceEq, Int.reduceNeg, Int.reduceLE, Int.reduceLT, Nat.reduceAdd, Nat.reduceLeDiff, Int.reduceToNat, Nat.reduceMul, Nat.reduceBEq, okPart, Value.cells, cut, okCell, cld2, (FOx)]
        exact hR
end
end Go.Proofs.Try
set_option linter.unusedSimpArgs false
set_option linter.unusedVariables false
set_option linter.unusedSectionVars false
namespace Go.Cs
section
variable {M : Type} [Mem M] {P : Program} {w0 : World} {s : St M} {ord : Ord} {n : Nat}
theorem wrange_rule {g : Operand} {ps : Array Tmp} {asg bd : Code} {Q : Exit → Env → St M → Prop} {env : Env} {f : FuncId} {a b args : Array Value} (hg : wev env g = .func (.func f) a b) (hok : callOk P f = true) (ha : a ++ #[.func (.yield (s.next + 1)) #[] #[]] ++ b = args)
    (h : ∀ e asg' bd', e = env → asg' = asg → bd' = bd → codeOk P ord n (.rangeFunc g ps asg' bd') = true → (∀ t, n ≤ t → e t = undef) → CCalls P w0 f args (s.skip.new (.loop .ready none ps (arr n e) asg' bd')) fun _ s3 => cendLoop (s.next + 1) (fun jump s4 => wpend Q e s4 jump) s3) :
    WRange P w0 ord n g ps asg bd Q env s := by
  subst ha
  intro h1 h2
  have h := h _ _ _ rfl rfl rfl h1 h2
  obtain ⟨fn, h3, h4⟩ := callOk_spec hok
  have : ccallee P (wev env) (rangeCall g (s.next + 1)) = some (f, a ++ #[.func (.yield (s.next + 1)) #[] #[]] ++ b) := by
    unfold ccallee rangeCall
    simp only [hg, h3, h4, if_true]
    simp [wev]
  rw [this]
  exact h
theorem assign_go {l : Nat} {body : Code} {K : Value → St M → Prop} {env : Env} {pd : Option Code} {ps : Array Tmp} {tm : Array Value} {asg bd : Code} (h : s.at' l = some (.loop .ready pd ps tm asg bd)) :
    wassignPost P w0 ord n l body K .normal env s = wvc P w0 ord n body (wroundPost l K) env (s.put l (.loop .busy pd ps tm asg bd)) := by
  simp only [wassignPost, cbeginRound, h]
theorem round_norm {l : Nat} {K : Value → St M → Prop} {env : Env} {st : LoopState} {pd : Option Code} {ps : Array Tmp} {tm : Array Value} {asg bd : Code} (h : s.at' l = some (.loop st pd ps tm asg bd)) :
    wroundPost l K .normal env s = K (.bool true) (s.put l (.loop .ready none ps tm asg bd)) := by
  simp only [wroundPost, cendRound, h, Option.isNone_none, if_true]
theorem round_ret {l : Nat} {K : Value → St M → Prop} {env : Env} {st : LoopState} {pd : Option Code} {ps : Array Tmp} {tm : Array Value} {asg bd : Code} (h : s.at' l = some (.loop st pd ps tm asg bd)) :
    wroundPost l K .ret env s = K (.bool false) (s.put l (.loop .done (some .ret) ps tm asg bd)) := by
  simp only [wroundPost, cendRound, h, Option.isNone_some]
  rfl
theorem end_go {l : Nat} {K : Option Code → St M → Prop} {st : LoopState} {pd : Option Code} {ps : Array Tmp} {tm : Array Value} {asg bd : Code} (h : s.at' l = some (.loop st pd ps tm asg bd)) (hs : st ≠ .busy) (hk : K pd (s.put l (.loop .exhausted pd ps tm asg bd))) : cendLoop l K s := by
  unfold cendLoop
  rw [h]
  exact ⟨hs, hk⟩
end
end Go.Cs
namespace Go.Proofs.Try
open Go.Cs
open Go.RowKit (Below)
set_option maxRecDepth 100000
attribute [local irreducible] CCalls WLoop WScope CRound WRange
section
variable {M : Type} [Mem M] {w0 : World} {s : St M} {R : Value → St M → Prop}
def slotL : List Nat → Nat → Int
  | [], _ => -1
  | y :: r, x => if y = x then (r.length : Int) else slotL r x
theorem fupf_spec {p : Nat} {i : Int} (h : ∀ s' a1 a2, s' = (s.new (.cells [.pointer (some ⟨p, 0, none⟩)] 55 true)).new (.cells [.int .i64 i] 3 true) → a1 = s.next → a2 = s.next + 1 → R (.func (.func 93) #[] #[.pointer (some ⟨a1, 0, none⟩), .pointer (some ⟨a2, 0, none⟩)]) s') :
    CCalls Try.prog w0 83 #[.pointer (some ⟨p, 0, none⟩), .int .i64 i] s R := by
  refine wfun2 hmix ok83 (l := [.pointer (some ⟨p, 0, none⟩), .int .i64 i]) func83 rfl ntmps83 results83 (by simp) ?_
  simp -implicitDefEqProofs only [↓Zd, (Zp), if_true, if_false, ne_eq, implies_true, forall_const, Nat.reduceEqDiff, reduceIte, reduceCtorEq, Int.reduceEq, Int.reduceNeg, Int.reduceLE, Int.reduceLT, Nat.reduceAdd, Nat.reduceLeDiff, Int.reduceToNat, Nat.reduceMul, Nat.reduceBEq, okPart, Value.cells, cut, okCell, cld2, (FOx), is55, is3, ce55]
  exact h _ _ _ rfl rfl rfl
set_option maxHeartbeats 4000000 in
theorem fslot_spec {lo p : Nat} {F : List Sh} {most x : Nat} {O : Nat → Prop} {i : Int} (hF : FAt lo s p F most O) (hi : -9223372036854775808 ≤ i ∧ i ≤ 9223372036854775807)
    (h : ∀ s', s.le s' → R (.int .i64 (slotL (namesOf F i) x)) s') :
    CCalls Try.prog w0 61 #[.pointer (some ⟨p, 0, none⟩), .int .i64 i, .int .i64 (x : Int)] s R := by
  refine wfun2 hmix ok61 (l := [.pointer (some ⟨p, 0, none⟩), .int .i64 i, .int .i64 (x : Int)]) func61 rfl ntmps61 results61 (by simp) ?_
  obtain ⟨h1, h2, h3, h4, m, sl, es, clock, nx, h5, h6, h7, h8, h9, h10, h11, h12⟩ := hF
  simp -implicitDefEqProofs only [↓Zd, (Zp), if_true, if_false, ne_eq, implies_true, forall_const, Nat.reduceEqDiff, reduceIte, reduceCtorEq, Int.reduceEq, Int.reduceNeg, Int.reduceLE, Int.reduceLT, Nat.reduceAdd, Nat.reduceLeDiff, Int.reduceToNat, Nat.reduceMul, Nat.reduceBEq, okPart, Value.cells, cut, okCell, cld2, (FOx), is3, co83]
  refine fupf_spec fun s1 a1 a2 hs1 ha1 ha2 => ?_
  simp only [St.next_new] at hs1 ha1 ha2
  simp -implicitDefEqProofs only [↓Zd, (Zp), if_true, if_false, ne_eq, implies_true, forall_const, Nat.reduceEqDiff, reduceIte, reduceCtorEq, Int.reduceEq, Int.reduceNeg, Int.reduceLE, Int.reduceLT, Nat.reduceAdd, Nat.reduceLeDiff, Int.reduceToNat, Nat.reduceMul, Nat.reduceBEq, okPart, Value.cells, cut, okCell, cld2, (FOx), underlying162]
  refine wrange_rule (f := 93) (a := #[]) (b := #[.pointer (some ⟨a1, 0, none⟩), .pointer (some ⟨a2, 0, none⟩)]) (args := #[.func (.yield (s1.next + 1)) #[] #[], .pointer (some ⟨a1, 0, none⟩), .pointer (some ⟨a2, 0, none⟩)]) rfl co93 rfl fun env asg bd hE hA hB hcode henv => ?_
  have hn1 : s1.next = s.next + 4 := by rw [hs1]; rfl
  have hold : ∀ c, c < s.next → s1.at' c = s.at' c := fun c hc => by
    rw [hs1]
    rw [St.at_new, if_neg (by simp only [St.next_new]; omega), St.at_new, if_neg (by simp only [St.next_new]; omega), St.at_new, if_neg (by simp only [St.next_new]; omega), St.at_new, if_neg (by omega)]
  have e5 : env 5 = .pointer (some ⟨s.next, 0, none⟩) := by rw [hE]; rfl
  have e6 : env 6 = .pointer (some ⟨s.next + 1, 0, none⟩) := by rw [hE]; rfl
  have hx : s1.at' s.next = some (.cells [.int .i64 (x : Int)] 3 true) := by
    rw [hs1]
    rw [St.at_new, if_neg (by simp only [St.next_new]; omega), St.at_new, if_neg (by simp only [St.next_new]; omega), St.at_new, if_neg (by simp only [St.next_new]; omega), St.at_new, if_pos rfl]
  have hb6 : ∃ v, s1.at' (s.next + 1) = some (.cells [.int .i64 v] 3 true) := by
    refine ⟨0, ?_⟩
    rw [hs1]
    rw [St.at_new, if_neg (by simp only [St.next_new]; omega), St.at_new, if_neg (by simp only [St.next_new]; omega), St.at_new, if_pos (by simp only [St.next_new])]
  have hb1 : s1.at' a1 = some (.cells [.pointer (some ⟨p, 0, none⟩)] 55 true) := by
    rw [hs1, ha1]
    rw [St.at_new, if_neg (by simp only [St.next_new]; omega), St.at_new, if_pos (by simp only [St.next_new])]
  have hb2 : s1.at' a2 = some (.cells [.int .i64 i] 3 true) := by
    rw [hs1, ha2]
    rw [St.at_new, if_pos (by simp only [St.next_new])]
  obtain ⟨junk, hjunk⟩ : ∃ junk, ∀ b, sl = .slice (some ⟨b, 0, none⟩) F.length UNK → s.at' b = some (.cells (rows (oneC F nx) F.length ++ junk) 138 true) := by
    rcases h10 with ⟨_, _, rfl⟩ | ⟨b, junk, rfl, hb, _⟩
    · exact ⟨[], fun b e => by cases e⟩
    · exact ⟨junk, fun b e => by cases e; exact hb⟩
  have hpn := (h1 p h2).2
  refine fup_spec (p := p) (m := m) (most := most) (F := F) (nx := nx) (junk := junk) (fun l s2 => s1.next + 2 ≤ s2.next ∧ (∀ c, c < s1.next → c ≠ s.next + 1 → s2.at' c = s1.at' c) ∧ (∃ v, s2.at' (s.next + 1) = some (.cells [.int .i64 v] 3 true)) ∧ s2.at' (s1.next + 1) = some (.loop .ready none #[11] (arr 19 env) asg bd) ∧ slotL (namesOf F i) x = slotL l x)
    h3 hi (by omega) h10.form (fun l s2 hJ => ?_) ?_ (fun s2 hJ => ?_) (fun j q y r s2 hFj hJ => ?_)
  · obtain ⟨j1, j2, j3, j4, j5⟩ := hJ
    refine ⟨by rw [j2 a1 (by omega) (by omega)]; exact hb1, by rw [j2 a2 (by omega) (by omega)]; exact hb2, by rw [j2 p (by omega) (by omega), hold p hpn]; exact h5, fun b e => ?_⟩
    have hbn := (h1 _ (h11 _ _ _ e).1).2
    simp only at hbn
    rw [j2 b (by omega) (by omega), hold b hbn]
    exact hjunk b e
  · refine ⟨by simp only [St.next_new, St.next_skip]; omega, fun c hc _ => ?_, ?_, ?_, rfl⟩
    · rw [St.at_new, if_neg (by simp only [St.next_skip]; omega)]; rfl
    · obtain ⟨v, hv⟩ := hb6
      exact ⟨v, by rw [St.at_new, if_neg (by simp only [St.next_skip]; omega)]; exact hv⟩
    · rw [St.at_new, if_pos (by simp only [St.next_skip])]
  · obtain ⟨j1, j2, ⟨v, j3⟩, j4, j5⟩ := hJ
    refine end_go j4 (by simp) ?_
    rw [j5] at h
    subst hA hB
    simp only [wpend]
    have hne : ¬ s.next + 1 = s1.next + 1 := by omega
    simp -implicitDefEqProofs only [↓Zd, (Zp), if_true, if_false, ne_eq, implies_true, forall_const, Nat.reduceEqDiff, reduceIte, reduceCtorEq, Int.reduceEq, Int.reduceNeg, Int.reduceLE, Int.reduceLT, Nat.reduceAdd, Nat.reduceLeDiff, Int.reduceToNat, Nat.reduceMul, Nat.reduceBEq, okPart, Value.cells, cut, okCell, cld2, (FOx), e6, j3, hne]
    refine h _ ⟨by simp only [St.next_put]; omega, fun c hc => ?_⟩
    rw [St.at_put, if_neg (by omega), St.at_put, if_neg (by omega), j2 c (by omega) (by omega), hold c hc]
  · obtain ⟨j1, j2, ⟨v, j3⟩, j4, j5⟩ := hJ
    refine wround hmix hcode j4 henv rfl ?_
    show wvc _ _ _ _ _ _ (upd env 11 _) s2
    subst hA hB
    simp -implicitDefEqProofs only [↓Zd, (Zp), if_true, if_false, ne_eq, implies_true, forall_const, Nat.reduceEqDiff, reduceIte, reduceCtorEq, Int.reduceEq, Int.reduceNeg, Int.reduceLE, Int.reduceLT, Nat.reduceAdd, Nat.reduceLeDiff, Int.reduceToNat, Nat.reduceMul, Nat.reduceBEq, okPart, Value.cells, cut, okCell, cld2, (FOx), underlying138, is138, ze138, ce138, ag138]
    have hl2 : ¬ s1.next + 1 = s2.next := by omega
    rw [assign_go (by rw [St.at_put, if_neg hl2, St.at_new, if_neg hl2]; exact j4)]
    have hx2 : s2.at' s.next = some (.cells [.int .i64 (x : Int)] 3 true) := by rw [j2 _ (by omega) (by omega)]; exact hx
    have n1 : ¬ s2.next = s1.next + 1 := by omega
    have n2 : ¬ s.next = s1.next + 1 := by omega
    have n3 : ¬ s.next = s2.next := by omega
    have n4 : ¬ s1.next + 1 = s.next + 1 := by omega
    have n5 : ¬ s2.next = s.next + 1 := by omega
    have n6 : ¬ s.next + 1 = s1.next + 1 := by omega
    have n7 : ¬ s.next + 1 = s2.next := by omega
    have nl : s1.next < s2.next := by omega
    simp -implicitDefEqProofs only [↓Zd, (Zp), if_true, if_false, ne_eq, implies_true, forall_const, Nat.reduceEqDiff, reduceIte, reduceCtorEq, Int.reduceEq, Int.reduceNeg, Int.reduceLE, Int.reduceLT, Nat.reduceAdd, Nat.reduceLeDiff, Int.reduceToNat, Nat.reduceMul, Nat.reduceBEq, okPart, Value.cells, cut, okCell, cld2, (FOx), e5, hx2, n1, n2, n3]
    by_cases hy : (y : Int) = (x : Int)
    · have w1 : IntKind.i64.wrap (((r.length + 1 : Nat) : Int) - 1) = ((r.length : Nat) : Int) := by
        have := (h3.names _ _ _ hFj).2
        simp only [List.length_cons] at this
        rw [wrap_i64 (by omega)]; omega
      have hsl2 : slotL (y :: r) x = (r.length : Int) := by unfold slotL; rw [if_pos (by omega)]
      rw [j5, hsl2] at h
      simp -implicitDefEqProofs only [↓Zd, (Zp), if_true, if_false, ne_eq, implies_true, forall_const, Nat.reduceEqDiff, reduceIte, reduceCtorEq, Int.reduceEq, Int.reduceNeg, Int.reduceLE, Int.reduceLT, Nat.reduceAdd, Nat.reduceLeDiff, Int.reduceToNat, Nat.reduceMul, Nat.reduceBEq, okPart, Value.cells, cut, okCell, cld2, (FOx), e6, hy, decide_true, j3, w1, n1, n4, n5, n6, n7]
      rw [round_ret (st := .busy) (by rw [St.at_put, if_neg n4, St.at_put, if_pos rfl])]
      refine .inr ⟨rfl, end_go (by rw [St.at_put, if_pos rfl]) (by simp) ?_⟩
      simp only [wpend]
      simp -implicitDefEqProofs only [↓Zd, (Zp), if_true, if_false, ne_eq, implies_true, forall_const, Nat.reduceEqDiff, reduceIte, reduceCtorEq, Int.reduceEq, Int.reduceNeg, Int.reduceLE, Int.reduceLT, Nat.reduceAdd, Nat.reduceLeDiff, Int.reduceToNat, Nat.reduceMul, Nat.reduceBEq, okPart, Value.cells, cut, okCell, cld2, (FOx), e6, n6]
      refine h _ ⟨by simp only [St.next_put, St.next_new]; omega, fun c hc => ?_⟩
      rw [St.at_put, if_neg (by omega), St.at_put, if_neg (by omega), St.at_put, if_neg (by omega), St.at_put, if_neg (by omega), St.at_put, if_neg (by omega), St.at_new, if_neg (by omega), j2 c (by omega) (by omega), hold c hc]
    · have hsl2 : slotL (y :: r) x = slotL r x := by conv => lhs; unfold slotL; rw [if_neg (by omega)]
      simp -implicitDefEqProofs only [↓Zd, (Zp), if_true, if_false, ne_eq, implies_true, forall_const, Nat.reduceEqDiff, reduceIte, reduceCtorEq, Int.reduceEq, Int.reduceNeg, Int.reduceLE, Int.reduceLT, Nat.reduceAdd, Nat.reduceLeDiff, Int.reduceToNat, Nat.reduceMul, Nat.reduceBEq, okPart, Value.cells, cut, okCell, cld2, (FOx), hy, decide_false]
      rw [round_norm (st := .busy) (by rw [St.at_put, if_pos rfl])]
      refine .inl ⟨rfl, by simp only [St.next_put, St.next_new]; omega, fun c hc hcn => ?_, ⟨v, ?_⟩, ?_, by rw [j5, hsl2]⟩
      · rw [St.at_put, if_neg (by omega), St.at_put, if_neg (by omega), St.at_put, if_neg (by omega), St.at_new, if_neg (by omega), j2 c hc hcn]
      · rw [St.at_put, if_neg (by omega), St.at_put, if_neg (by omega), St.at_put, if_neg (by omega), St.at_new, if_neg (by omega), j3]
      · rw [St.at_put, if_pos rfl]
end
end Go.Proofs.Try
set_option linter.unusedSimpArgs false
set_option linter.unusedVariables false
set_option linter.unusedSectionVars false
namespace Go.Proofs.Try
open Go.Cs
open Go.RowKit (Below)
set_option maxRecDepth 100000
attribute [local irreducible] CCalls WLoop WScope CRound WRange
def ints (l : List Nat) : List Value := l.map fun (x : Nat) => .int .i64 (x : Int)
theorem ints_len (l : List Nat) : (ints l).length = l.length := by simp [ints]
theorem ints_get {l : List Nat} {k : Nat} (junk : List Value) (h : k < l.length) : (ints l ++ junk)[k]? = some (.int .i64 ((l[k] : Nat) : Int)) := by
  rw [List.getElem?_append_left (by rw [ints_len]; exact h)]
  simp [ints, h]
theorem ints_set {l : List Nat} {k x : Nat} (junk : List Value) (h : k < l.length) : (ints l ++ junk).set k (.int .i64 (x : Int)) = ints (l.set k x) ++ junk := by
  rw [List.set_append_left _ _ (by rw [ints_len]; exact h)]
  simp [ints, List.map_set]
theorem rowInt (x : Nat) : crow Try.prog 78 1 #[(0, .int .i64 (x : Int))] = some (.cells [.int .i64 (x : Int)] 3 true) := by kernel_rfl
theorem infoInt : ∃ ie, Try.prog.info? 3 = some ie ∧ ie.size = 1 ∧ ie.bytes = 8 := by
  obtain ⟨ie, h⟩ := Option.isSome_iff_exists.1 is3
  have h1 := ce3
  have h2 : Try.prog.bytesOf 3 = 8 := by kernel_rfl
  rw [cellsOf_info h] at h1
  simp only [Program.bytesOf, h] at h2
  exact ⟨ie, h, h1, h2⟩
section
variable {M : Type} [Mem M] {w0 : World} {s : St M} {R : Value → St M → Prop}
theorem app_int {s : St M} {sl : Value} {l : List Nat} {x : Nat} (hlen : l.length ≤ 1000000) (hsl : SlU 3 1 s sl (ints l) l.length) (hfr : ∀ q m c, sl = .slice (some q) m c → q.block < s.next) :
    ∃ s', capp Try.prog #[78, 78] #[sl, .slice (some ⟨s.next, 0, none⟩) 1 1] (s.new (.cells [.int .i64 (x : Int)] 3 true)) = some (.slice (some ⟨s.next + 1, 0, none⟩) (l.length + 1) UNK, s') ∧ s'.next = s.next + 2 ∧
      s'.at' (s.next + 1) = some (.cells (ints (l ++ [x])) 3 true) ∧ (∀ b, b < s.next → (∀ q n c, sl = .slice (some q) n c → b ≠ q.block) → s'.at' b = s.at' b) := by
  obtain ⟨ie, hie, h1, h2⟩ := infoInt
  have hcapp : capp Try.prog #[78, 78] #[sl, .slice (some ⟨s.next, 0, none⟩) 1 1] (s.new (.cells [.int .i64 (x : Int)] 3 true)) = capp3 Try.prog 3 ie sl (s.new (.cells [.int .i64 (x : Int)] 3 true)) (cmore ie.size (.slice (some ⟨s.next, 0, none⟩) 1 1) (s.new (.cells [.int .i64 (x : Int)] 3 true))) :=
    app_eq underlying78 underlying78 hie
  have hv : cmore ie.size (.slice (some ⟨s.next, 0, none⟩) 1 1) (s.new (.cells [.int .i64 (x : Int)] 3 true)) = some (1, [.int .i64 (x : Int)]) := by
    simp only [more_at, St.at_new, if_true, more2, h1]; rfl
  obtain ⟨s', h3, h4, h5, h6⟩ := app_rowU (n := l.length) (k := 1) hie ze3 (by rw [h1]; rfl) (by omega) hcapp (by omega) (by rw [h2]; omega) rfl hv (by rw [h1]; exact hsl.same fun q m c e => by rw [St.at_new, if_neg (by have := hfr q m c e; omega)])
  refine ⟨s', by simpa using h3, by simp at h4; omega, by simpa [ints] using h5, fun b hb hq => ?_⟩
  rw [h6 b (by simp; omega) hq, St.at_new, if_neg (by omega)]
structure Half (xs ys : List Nat) (i : Nat) : Prop where
  len : ys.length = xs.length
  out : ∀ k, k < xs.length → (k < i ∨ xs.length ≤ k + i) → ys[k]? = xs[xs.length - 1 - k]?
  mid : ∀ k, i ≤ k → k + i < xs.length → ys[k]? = xs[k]?
theorem Half.start (xs : List Nat) : Half xs xs 0 := ⟨rfl, fun k h1 h2 => by omega, fun k _ _ => rfl⟩
theorem Half.done {xs ys : List Nat} {i : Nat} (h : Half xs ys i) (hi : xs.length ≤ 2 * i + 1) : ys = xs.reverse := by
  apply List.ext_getElem?
  intro k
  by_cases hk : k < xs.length
  · rw [List.getElem?_reverse hk]
    by_cases h1 : k < i ∨ xs.length ≤ k + i
    · exact h.out k hk h1
    · have : k = xs.length - 1 - k := by omega
      rw [h.mid k (by omega) (by omega), ← this]
  · rw [List.getElem?_eq_none (by rw [h.len]; omega), List.getElem?_eq_none (by simp; omega)]
theorem Half.step {xs ys : List Nat} {i j : Nat} (h : Half xs ys i) (hij : i + j + 1 = xs.length) (hlt : i < j) (hi : i < ys.length) (hj : j < ys.length) : Half xs ((ys.set i ys[j]).set j ys[i]) (i + 1) := by
  have e1 : ys[i]? = some ys[i] := List.getElem?_eq_getElem hi
  have e2 : ys[j]? = some ys[j] := List.getElem?_eq_getElem hj
  have m1 := h.mid i (Nat.le_refl _) (by omega)
  have m2 := h.mid j (by omega) (by omega)
  have hl := h.len
  refine ⟨by simp [h.len], fun k hk hko => ?_, fun k h1 h2 => ?_⟩
  · rw [List.getElem?_set]
    by_cases c1 : j = k
    · subst c1
      simp only [if_true, List.length_set, hj]
      rw [← e1, m1]; congr 1; omega
    · rw [if_neg c1, List.getElem?_set]
      by_cases c2 : i = k
      · subst c2
        simp only [if_true, hi]
        rw [← e2, m2]; congr 1; omega
      · rw [if_neg c2]
        exact h.out k hk (by omega)
  · rw [List.getElem?_set, if_neg (by omega), List.getElem?_set, if_neg (by omega)]
    exact h.mid k (by omega) (by omega)
set_option maxHeartbeats 4000000 in
theorem rev_spec {xs : List Nat} {sl : Value} {b : Nat} {junk : List Value} (hN : xs.length ≤ 1000) (hsl : (xs = [] ∧ sl = .slice none 0 0) ∨ (sl = .slice (some ⟨b, 0, none⟩) xs.length UNK ∧ s.at' b = some (.cells (ints xs ++ junk) 3 true)))
    (h : ∀ s', s.next = s'.next → (∀ c, c ≠ b → s'.at' c = s.at' c) → (sl = .slice (some ⟨b, 0, none⟩) xs.length UNK → s'.at' b = some (.cells (ints xs.reverse ++ junk) 3 true)) → R (.tuple #[]) s') :
    CCalls Try.prog w0 94 #[sl] s R := by
  refine wfun2 hmix ok94 (l := [sl]) func94 rfl ntmps94 results94 (by simp) ?_
  rcases hsl with ⟨rfl, rfl⟩ | ⟨rfl, hb⟩
  · simp -implicitDefEqProofs only [↓Zd, (Zp), if_true, if_false, ne_eq, implies_true, forall_const, Nat.reduceEqDiff, reduceIte, reduceCtorEq, Int.reduceEq, Int.reduceNeg, Int.reduceLE, Int.reduceLT, Nat.reduceAdd, Nat.reduceLeDiff, Int.reduceToNat, Nat.reduceMul, Nat.reduceBEq, okPart, Value.cells, cut, okCell, cld2, underlying3, underlying4, underlying9, underlying5, underlying32, underlying0, be4, bn4, underlying78]
    have w1 : IntKind.i64.wrap ((0 : Int) - 1) = -1 := by rfl
    simp -implicitDefEqProofs only [↓Zd, (Zp), if_true, if_false, ne_eq, implies_true, forall_const, Nat.reduceEqDiff, reduceIte, reduceCtorEq, Int.reduceEq, Int.reduceNeg, Int.reduceLE, Int.reduceLT, Nat.reduceAdd, Nat.reduceLeDiff, Int.reduceToNat, Nat.reduceMul, Nat.reduceBEq, okPart, Value.cells, cut, okCell, cld2, underlying3, underlying4, underlying9, underlying5, underlying32, underlying0, be4, bn4, w1]
    refine wloop_fix hmix [7, 8, 9, 14, 15, 16, 17, 18, 19, 20, 21, 22, 23, 24, 25, 26, 27, 10, 11, 12, 13, 2, 3] (fun fuel env s1 => env 2 = .int .i64 0 ∧ env 3 = .int .i64 (-1) ∧ s1 = s) 0 ⟨rfl, rfl, rfl⟩ ?_
    rintro fuel env s1 hFx ⟨e2, e3, rfl⟩
    simp -implicitDefEqProofs only [↓Zd, (Zp), if_true, if_false, ne_eq, implies_true, forall_const, Nat.reduceEqDiff, reduceIte, reduceCtorEq, Int.reduceEq, Int.reduceNeg, Int.reduceLE, Int.reduceLT, Nat.reduceAdd, Nat.reduceLeDiff, Int.reduceToNat, Nat.reduceMul, Nat.reduceBEq, okPart, Value.cells, cut, okCell, cld2, underlying3, underlying4, underlying9, underlying5, underlying32, underlying0, be4, bn4, e2, e3]
    exact h _ rfl (fun _ _ => rfl) (fun e => by cases e)
  · have w1 : IntKind.i64.wrap ((xs.length : Int) - 1) = (xs.length : Int) - 1 := wrap_i64 (by omega)
    simp -implicitDefEqProofs only [↓Zd, (Zp), if_true, if_false, ne_eq, implies_true, forall_const, Nat.reduceEqDiff, reduceIte, reduceCtorEq, Int.reduceEq, Int.reduceNeg, Int.reduceLE, Int.reduceLT, Nat.reduceAdd, Nat.reduceLeDiff, Int.reduceToNat, Nat.reduceMul, Nat.reduceBEq, okPart, Value.cells, cut, okCell, cld2, underlying3, underlying4, underlying9, underlying5, underlying32, underlying0, be4, bn4, underlying78, w1]
    refine wloop_fix hmix [7, 8, 9, 14, 15, 16, 17, 18, 19, 20, 21, 22, 23, 24, 25, 26, 27, 10, 11, 12, 13, 2, 3] (fun fuel env s1 => ∃ (i : Nat) (ys : List Nat), fuel = xs.length - i ∧ i ≤ xs.length ∧ env 2 = .int .i64 (i : Int) ∧ env 3 = .int .i64 ((xs.length : Int) - 1 - (i : Int)) ∧ Half xs ys i ∧ s1.next = s.next ∧ (∀ c, c ≠ b → s1.at' c = s.at' c) ∧ s1.at' b = some (.cells (ints ys ++ junk) 3 true)) xs.length
      ⟨0, xs, rfl, by omega, rfl, by show Value.int .i64 _ = _; congr 1; omega, .start xs, rfl, fun _ _ => rfl, hb⟩ ?_
    rintro fuel env s1 hFx ⟨i, ys, rfl, hi, e2, e3, hH, hn, hk, hbs⟩
    have e0 : env 0 = .slice (some ⟨b, 0, none⟩) xs.length UNK := by rw [hFx 0 rfl]; rfl
    by_cases hlt : (i : Int) < (xs.length : Int) - 1 - (i : Int)
    · obtain ⟨j, hj⟩ : ∃ j : Nat, i + j + 1 = xs.length := ⟨xs.length - 1 - i, by omega⟩
      have ej : (xs.length : Int) - 1 - (i : Int) = (j : Int) := by omega
      rw [ej] at e3 hlt
      have hl := hH.len
      have g1 := ints_get (l := ys) (k := i) junk (by omega)
      have g2 := ints_get (l := ys) (k := j) junk (by omega)
      have hle1 : i + 1 ≤ (ints ys ++ junk).length := by rw [List.length_append, ints_len]; omega
      have hle2 : j + 1 ≤ (ints ys ++ junk).length := by rw [List.length_append, ints_len]; omega
      have hi1 : (0 : Int) ≤ (i : Int) ∧ (i : Int) < (xs.length : Int) := by omega
      have hj1 : (0 : Int) ≤ (j : Int) ∧ (j : Int) < (xs.length : Int) := by omega
      have w2 : IntKind.i64.wrap ((i : Int) + 1) = ((i + 1 : Nat) : Int) := by rw [wrap_i64 (by omega)]; omega
      have w3 : IntKind.i64.wrap ((j : Int) - 1) = (xs.length : Int) - 1 - ((i + 1 : Nat) : Int) := by rw [wrap_i64 (by omega)]; omega
      simp -implicitDefEqProofs only [↓Zd, (Zp), if_true, if_false, ne_eq, implies_true, forall_const, Nat.reduceEqDiff, reduceIte, reduceCtorEq, Int.reduceEq, Int.reduceNeg, Int.reduceLE, Int.reduceLT, Nat.reduceAdd, Nat.reduceLeDiff, Int.reduceToNat, Nat.reduceMul, Nat.reduceBEq, okPart, Value.cells, cut, okCell, cld2, underlying3, underlying4, underlying9, underlying5, underlying32, underlying0, be4, bn4, underlying78, ord94, e0, e2, e3, hlt, hi1, hj1, Int.toNat_natCast, Nat.zero_add, Nat.mul_one, Nat.add_zero, hbs, g1, g2, ag3, sz3, ce3, w2, w3, hle1, hle2, List.length_set]
      refine ⟨by repeat (first | exact hFx | refine Fix.upd (by decide) ?_), xs.length - (i + 1), by omega, i + 1, (ys.set i ys[j]).set j ys[i], rfl, by omega, rfl, rfl, hH.step hj (by omega) (by omega) (by omega), hn, fun c hc => ?_, ?_⟩
      · rw [if_neg hc, if_neg hc, hk c hc]
      · rw [ints_set junk (by omega), ints_set junk (by rw [List.length_set]; omega)]
    · simp -implicitDefEqProofs only [↓Zd, (Zp), if_true, if_false, ne_eq, implies_true, forall_const, Nat.reduceEqDiff, reduceIte, reduceCtorEq, Int.reduceEq, Int.reduceNeg, Int.reduceLE, Int.reduceLT, Nat.reduceAdd, Nat.reduceLeDiff, Int.reduceToNat, Nat.reduceMul, Nat.reduceBEq, okPart, Value.cells, cut, okCell, cld2, underlying3, underlying4, underlying9, underlying5, underlying32, underlying0, be4, bn4, e2, e3, hlt]
      have := hH.done (by omega)
      subst this
      exact h _ hn.symm hk (fun _ => hbs)
end
end Go.Proofs.Try
set_option linter.unusedSimpArgs false
set_option linter.unusedVariables false
set_option linter.unusedSectionVars false
namespace Go.Proofs.Try
open Go.Cs
open Go.RowKit (Below)
set_option maxRecDepth 100000
attribute [local irreducible] CCalls WLoop WScope CRound WRange
section
variable {M : Type} [Mem M] {w0 : World} {s : St M} {R : Value → St M → Prop}
theorem wch_app_int {s : St M} {sl : Value} {l : List Nat} {x : Nat} {K : Value → St M → Prop} (hlen : l.length ≤ 1000000) (hsl : SlU 3 1 s sl (ints l) l.length) (hfr : ∀ q m c, sl = .slice (some q) m c → q.block < s.next)
    (h : ∀ s', s'.next = s.next + 2 → s'.at' (s.next + 1) = some (.cells (ints (l ++ [x])) 3 true) → (∀ b, b < s.next → (∀ q n c, sl = .slice (some q) n c → b ≠ q.block) → s'.at' b = s.at' b) → K (.slice (some ⟨s.next + 1, 0, none⟩) (l.length + 1) UNK) s') :
    wch (capp Try.prog #[78, 78] #[sl, .slice (some ⟨s.next, 0, none⟩) 1 1] (s.new (.cells [.int .i64 (x : Int)] 3 true))) K := by
  obtain ⟨s', h1, h2, h3, h4⟩ := app_int (x := x) hlen hsl hfr
  exact ⟨_, _, h1, h s' h2 h3 h4⟩
theorem namesOf_len {F : List Sh} (h : FOk F) (i : Int) : (namesOf F i).length ≤ 12 := by
  unfold namesOf shAt
  split
  · rename_i t ht
    split at ht
    · exact (h.names _ t.1 t.2 ht).2
    · cases ht
  · simp
set_option maxHeartbeats 4000000 in
theorem fnames_spec {lo p : Nat} {F : List Sh} {most : Nat} {O : Nat → Prop} {i : Int} (hF : FAt lo s p F most O) (hi : -9223372036854775808 ≤ i ∧ i ≤ 9223372036854775807)
    (h : ∀ s' sl', s.le s' → SlU 3 1 s' sl' (ints (namesOf F i).reverse) (namesOf F i).length → (∀ q n c, sl' = .slice (some q) n c → s.next ≤ q.block ∧ q.block < s'.next) → R sl' s') :
    CCalls Try.prog w0 87 #[.pointer (some ⟨p, 0, none⟩), .int .i64 i] s R := by
  refine wfun2 hmix ok87 (l := [.pointer (some ⟨p, 0, none⟩), .int .i64 i]) func87 rfl ntmps87 results87 (by simp) ?_
  obtain ⟨h1, h2, h3, h4, m, sl, es, clock, nx, h5, h6, h7, h8, h9, h10, h11, h12⟩ := hF
  have hlen12 := namesOf_len h3 i
  simp -implicitDefEqProofs only [↓Zd, (Zp), if_true, if_false, ne_eq, implies_true, forall_const, Nat.reduceEqDiff, reduceIte, reduceCtorEq, Int.reduceEq, Int.reduceNeg, Int.reduceLE, Int.reduceLT, Nat.reduceAdd, Nat.reduceLeDiff, Int.reduceToNat, Nat.reduceMul, Nat.reduceBEq, okPart, Value.cells, cut, okCell, cld2, (FOx), is78, ze78, underlying78, co83]
  refine fupf_spec fun s1 a1 a2 hs1 ha1 ha2 => ?_
  simp only [St.next_new] at hs1 ha1 ha2
  simp -implicitDefEqProofs only [↓Zd, (Zp), if_true, if_false, ne_eq, implies_true, forall_const, Nat.reduceEqDiff, reduceIte, reduceCtorEq, Int.reduceEq, Int.reduceNeg, Int.reduceLE, Int.reduceLT, Nat.reduceAdd, Nat.reduceLeDiff, Int.reduceToNat, Nat.reduceMul, Nat.reduceBEq, okPart, Value.cells, cut, okCell, cld2, (FOx), underlying162]
  refine wrange_rule (f := 93) (a := #[]) (b := #[.pointer (some ⟨a1, 0, none⟩), .pointer (some ⟨a2, 0, none⟩)]) (args := #[.func (.yield (s1.next + 1)) #[] #[], .pointer (some ⟨a1, 0, none⟩), .pointer (some ⟨a2, 0, none⟩)]) rfl co93 rfl fun env asg bd hE hA hB hcode henv => ?_
  have hn1 : s1.next = s.next + 3 := by rw [hs1]; rfl
  have hold : ∀ c, c < s.next → s1.at' c = s.at' c := fun c hc => by
    rw [hs1]
    rw [St.at_new, if_neg (by simp only [St.next_new]; omega), St.at_new, if_neg (by simp only [St.next_new]; omega), St.at_new, if_neg (by omega)]
  have e5 : env 5 = .pointer (some ⟨s.next, 0, none⟩) := by rw [hE]; rfl
  have hb5 : s1.at' s.next = some (.cells [.slice none 0 0] 78 true) := by
    rw [hs1]
    rw [St.at_new, if_neg (by simp only [St.next_new]; omega), St.at_new, if_neg (by simp only [St.next_new]; omega), St.at_new, if_pos rfl]
  have hb1 : s1.at' a1 = some (.cells [.pointer (some ⟨p, 0, none⟩)] 55 true) := by
    rw [hs1, ha1]
    rw [St.at_new, if_neg (by simp only [St.next_new]; omega), St.at_new, if_pos (by simp only [St.next_new])]
  have hb2 : s1.at' a2 = some (.cells [.int .i64 i] 3 true) := by
    rw [hs1, ha2]
    rw [St.at_new, if_pos (by simp only [St.next_new])]
  obtain ⟨junk, hjunk⟩ : ∃ junk, ∀ b, sl = .slice (some ⟨b, 0, none⟩) F.length UNK → s.at' b = some (.cells (rows (oneC F nx) F.length ++ junk) 138 true) := by
    rcases h10 with ⟨_, _, rfl⟩ | ⟨b, junk, rfl, hb, _⟩
    · exact ⟨[], fun b e => by cases e⟩
    · exact ⟨junk, fun b e => by cases e; exact hb⟩
  have hpn := (h1 p h2).2
  refine fup_spec (p := p) (m := m) (most := most) (F := F) (nx := nx) (junk := junk) (fun l s2 => ∃ seen sl', namesOf F i = seen ++ l ∧ s1.next + 2 ≤ s2.next ∧ (∀ c, c < s1.next → c ≠ s.next → s2.at' c = s1.at' c) ∧ s2.at' s.next = some (.cells [sl'] 78 true) ∧ SlU 3 1 s2 sl' (ints seen) seen.length ∧
      (∀ q n c, sl' = .slice (some q) n c → s1.next + 2 ≤ q.block ∧ q.block < s2.next) ∧ s2.at' (s1.next + 1) = some (.loop .ready none #[10] (arr 19 env) asg bd))
    h3 hi (by omega) h10.form (fun l s2 hJ => ?_) ?_ (fun s2 hJ => ?_) (fun j q y r s2 hFj hJ => ?_)
  · obtain ⟨seen, sl', j1, jn, j2, j3, j4, j5, j6⟩ := hJ
    refine ⟨by rw [j2 a1 (by omega) (by omega)]; exact hb1, by rw [j2 a2 (by omega) (by omega)]; exact hb2, by rw [j2 p (by omega) (by omega), hold p hpn]; exact h5, fun b e => ?_⟩
    have hbn := (h1 _ (h11 _ _ _ e).1).2
    simp only at hbn
    rw [j2 b (by omega) (by omega), hold b hbn]
    exact hjunk b e
  · refine ⟨[], .slice none 0 0, rfl, by simp only [St.next_new, St.next_skip]; omega, fun c hc _ => ?_, ?_, .inl ⟨rfl, rfl, rfl⟩, (fun q n c e => by cases e), ?_⟩
    · rw [St.at_new, if_neg (by simp only [St.next_skip]; omega)]; rfl
    · rw [St.at_new, if_neg (by simp only [St.next_skip]; omega)]; exact hb5
    · rw [St.at_new, if_pos (by simp only [St.next_skip])]
  · obtain ⟨seen, sl', j1, jn, j2, j3, j4, j5, j6⟩ := hJ
    refine end_go j6 (by simp) ?_
    rw [List.append_nil] at j1
    rw [j1] at h hlen12
    subst hA hB
    simp only [wpend]
    have hne : ¬ s.next = s1.next + 1 := by omega
    simp -implicitDefEqProofs only [↓Zd, (Zp), if_true, if_false, ne_eq, implies_true, forall_const, Nat.reduceEqDiff, reduceIte, reduceCtorEq, Int.reduceEq, Int.reduceNeg, Int.reduceLE, Int.reduceLT, Nat.reduceAdd, Nat.reduceLeDiff, Int.reduceToNat, Nat.reduceMul, Nat.reduceBEq, okPart, Value.cells, cut, okCell, cld2, (FOx), underlying78, ag78, e5, j3, hne, co94]
    have hsl2 : (seen = [] ∧ sl' = .slice none 0 0) ∨ ∃ b junk2, sl' = .slice (some ⟨b, 0, none⟩) seen.length UNK ∧ s2.at' b = some (.cells (ints seen ++ junk2) 3 true) := by
      rcases j4 with ⟨e1, _, e3⟩ | ⟨b, junk2, e1, e2, _⟩
      · exact .inl ⟨List.eq_nil_of_length_eq_zero e1, e3⟩
      · exact .inr ⟨b, junk2, e1, e2⟩
    rcases hsl2 with ⟨rfl, rfl⟩ | ⟨b, junk2, rfl, hb⟩
    · refine rev_spec (xs := []) (b := s2.next) (junk := []) (by simp) (.inl ⟨rfl, rfl⟩) fun s3 hn3 hk3 _ => ?_
      have hn3' := hn3
      simp only [St.next_put] at hn3'
      have hr : s3.at' s.next = some (.cells [.slice none 0 0] 78 true) := by rw [hk3 _ (by omega), St.at_put, if_neg hne]; exact j3
      simp -implicitDefEqProofs only [↓Zd, (Zp), if_true, if_false, ne_eq, implies_true, forall_const, Nat.reduceEqDiff, reduceIte, reduceCtorEq, Int.reduceEq, Int.reduceNeg, Int.reduceLE, Int.reduceLT, Nat.reduceAdd, Nat.reduceLeDiff, Int.reduceToNat, Nat.reduceMul, Nat.reduceBEq, okPart, Value.cells, cut, okCell, cld2, (FOx), underlying78, ag78, e5, hr]
      refine h _ _ ⟨by omega, fun c hc => ?_⟩ (.inl ⟨rfl, rfl, rfl⟩) (fun q n c e => by cases e)
      rw [hk3 c (by omega), St.at_put, if_neg (by omega), j2 c (by omega) (by omega), hold c hc]
    · have hbn := j5 _ _ _ rfl
      simp only at hbn
      refine rev_spec (xs := seen) (b := b) (junk := junk2) (by omega) (.inr ⟨rfl, ?_⟩) fun s3 hn3 hk3 hb3 => ?_
      · rw [St.at_put, if_neg (by omega)]; exact hb
      have hn3' := hn3
      simp only [St.next_put] at hn3'
      have hr : s3.at' s.next = some (.cells [.slice (some ⟨b, 0, none⟩) seen.length UNK] 78 true) := by rw [hk3 _ (by omega), St.at_put, if_neg hne]; exact j3
      simp -implicitDefEqProofs only [↓Zd, (Zp), if_true, if_false, ne_eq, implies_true, forall_const, Nat.reduceEqDiff, reduceIte, reduceCtorEq, Int.reduceEq, Int.reduceNeg, Int.reduceLE, Int.reduceLT, Nat.reduceAdd, Nat.reduceLeDiff, Int.reduceToNat, Nat.reduceMul, Nat.reduceBEq, okPart, Value.cells, cut, okCell, cld2, (FOx), underlying78, ag78, e5, hr]
      refine h _ _ ⟨by omega, fun c hc => ?_⟩ (.inr ⟨b, junk2, rfl, hb3 rfl, by rw [ints_len, List.length_reverse]; omega⟩) (fun q n c e => by cases e; simp only; omega)
      rw [hk3 c (by omega), St.at_put, if_neg (by omega), j2 c (by omega) (by omega), hold c hc]
  · obtain ⟨seen, sl', j1, jn, j2, j3, j4, j5, j6⟩ := hJ
    refine wround hmix hcode j6 henv rfl ?_
    show wvc _ _ _ _ _ _ (upd env 10 _) s2
    subst hA hB
    simp -implicitDefEqProofs only [↓Zd, (Zp), if_true, if_false, ne_eq, implies_true, forall_const, Nat.reduceEqDiff, reduceIte, reduceCtorEq, Int.reduceEq, Int.reduceNeg, Int.reduceLE, Int.reduceLT, Nat.reduceAdd, Nat.reduceLeDiff, Int.reduceToNat, Nat.reduceMul, Nat.reduceBEq, okPart, Value.cells, cut, okCell, cld2, (FOx), underlying138, is138, ze138, ce138, ag138]
    have hl2 : ¬ s1.next + 1 = s2.next := by omega
    rw [assign_go (by rw [St.at_put, if_neg hl2, St.at_new, if_neg hl2]; exact j6)]
    have n1 : ¬ s2.next = s1.next + 1 := by omega
    have n2 : ¬ s.next = s1.next + 1 := by omega
    have n3 : ¬ s.next = s2.next := by omega
    simp -implicitDefEqProofs only [↓Zd, (Zp), if_true, if_false, ne_eq, implies_true, forall_const, Nat.reduceEqDiff, reduceIte, reduceCtorEq, Int.reduceEq, Int.reduceNeg, Int.reduceLE, Int.reduceLT, Nat.reduceAdd, Nat.reduceLeDiff, Int.reduceToNat, Nat.reduceMul, Nat.reduceBEq, okPart, Value.cells, cut, okCell, cld2, (FOx), underlying78, ag78, sz78, e5, j3, n1, n2, n3, rowInt]
    have hseen : seen.length ≤ 12 := by rw [j1, List.length_append] at hlen12; omega
    have hj5 : ∀ q n c, sl' = .slice (some q) n c → q.block ≠ s1.next + 1 ∧ q.block ≠ s2.next := fun q n c e => by have := j5 q n c e; omega
    refine wch_app_int (l := seen) (x := y) (by omega) (j4.same fun q n c e => by rw [St.at_put, if_neg (hj5 q n c e).1, St.at_put, if_neg (hj5 q n c e).2, St.at_new, if_neg (hj5 q n c e).2]) (fun q n c e => by have := j5 q n c e; simp only [St.next_put, St.next_new]; omega) fun s5 hn5 hb5' hk5 => ?_
    simp only [St.next_put, St.next_new] at hn5 hb5' hk5
    have hr5 : s5.at' s.next = some (.cells [sl'] 78 true) := by
      rw [hk5 _ (by omega) (fun q n c e e2 => by have := j5 q n c e; omega), St.at_put, if_neg n2, St.at_put, if_neg n3, St.at_new, if_neg n3]; exact j3
    simp -implicitDefEqProofs only [↓Zd, (Zp), if_true, if_false, ne_eq, implies_true, forall_const, Nat.reduceEqDiff, reduceIte, reduceCtorEq, Int.reduceEq, Int.reduceNeg, Int.reduceLE, Int.reduceLT, Nat.reduceAdd, Nat.reduceLeDiff, Int.reduceToNat, Nat.reduceMul, Nat.reduceBEq, okPart, Value.cells, cut, okCell, cld2, (FOx), underlying78, ag78, sz78, e5, hr5]
    rw [round_norm (st := .busy) (by rw [St.at_put, if_neg (by omega), hk5 _ (by omega) (fun q n c e e2 => by have := j5 q n c e; omega), St.at_put, if_pos rfl])]
    refine .inl ⟨rfl, seen ++ [y], .slice (some ⟨s2.next + 1 + 1, 0, none⟩) (seen.length + 1) UNK, by rw [j1]; simp, by simp only [St.next_put]; omega, fun c hc hcn => ?_, ?_, .inr ⟨s2.next + 1 + 1, [], by simp, ?_, by rw [ints_len, Nat.mul_one]⟩, (fun q n c e => by cases e; simp only [St.next_put]; omega), ?_⟩
    · rw [St.at_put, if_neg (by omega), St.at_put, if_neg (by omega), hk5 c (by omega) (fun q n k e e2 => by have := j5 q n k e; omega), St.at_put, if_neg (by omega), St.at_put, if_neg (by omega), St.at_new, if_neg (by omega), j2 c hc hcn]
    · rw [St.at_put, if_neg n2, St.at_put, if_pos rfl]
    · rw [St.at_put, if_neg (by omega), St.at_put, if_neg (by omega), List.append_nil]; exact hb5'
    · rw [St.at_put, if_pos rfl]
end
end Go.Proofs.Try
set_option linter.unusedSimpArgs false
set_option linter.unusedVariables false
set_option linter.unusedSectionVars false
namespace Go.Proofs.Try
open Go.Cs
open Go.RowKit (Below)
set_option maxRecDepth 100000
attribute [local irreducible] CCalls WLoop WScope CRound WRange
theorem slotL_neg : ∀ (l : List Nat) (x : Nat), slotL l x < 0 ↔ x ∉ l := by
  intro l x
  induction l with
  | nil => simp [slotL]
  | cons y r ih =>
    unfold slotL
    by_cases e : y = x
    · subst e; rw [if_pos rfl]; simp
    · rw [if_neg e, ih]
      constructor
      · intro h h2
        rcases List.mem_cons.1 h2 with h3 | h3
        · exact e h3.symm
        · exact h h3
      · intro h h2; exact h (List.mem_cons_of_mem _ h2)
theorem slotL_le (l : List Nat) (x : Nat) : slotL l x < l.length := by
  induction l with
  | nil => simp [slotL]
  | cons y r ih =>
    unfold slotL
    simp only [List.length_cons]
    split <;> omega
def addF (F : List Sh) (most : Nat) (i : Int) (x : Nat) : List Sh := match shAt F i with
  | none => F
  | some t => if 12 ≤ t.2.length ∨ x ∈ t.2 then F else growF F most (t.1, x :: t.2)
def addN (F : List Sh) (most : Nat) (i : Int) (x : Nat) : Nat := match shAt F i with
  | none => 0
  | some t => if 12 ≤ t.2.length ∨ x ∈ t.2 then 0 else growN F most (t.1, x :: t.2)
section
variable {M : Type} [Mem M] {w0 : World} {s : St M} {R : Value → St M → Prop}
theorem Kids.add {s s' : St M} {F : List Sh} {O O' : Nat → Prop} {p m q x j bm : Nat} {l : List Nat} {nx : Nat → Option Nat} (h : Kids s F O p m nx) (hF : FOk F) (hj : F[j]? = some (q, l)) (ht : (q, x :: l) ∉ F)
    (hk : ∀ i b, nx i = some b → b ≠ bm → s'.at' b = s.at' b) (hbm : ∃ es c, s'.at' bm = some (.map es c) ∧ MI es (fun y => shIs (F ++ [(q, x :: l)]) (q, y :: l))) (hO : ∀ b, O b → O' b) (hb1 : O' bm) (hb2 : bm ≠ p) (hb3 : bm ≠ m) (hb4 : ∀ i, nx i = some bm → i = j) :
    Kids s' (F ++ [(q, x :: l)]) O' p m (fun i => if i = j then some bm else nx i) := by
  have hjl := (List.getElem?_eq_some_iff.1 hj).1
  have hs : ∀ (i : Nat) (t : Sh) (y : Nat), i ≠ j → F[i]? = some t → shIs (F ++ [(q, x :: l)]) (t.1, y :: t.2) = shIs F (t.1, y :: t.2) := fun i t y hij hi => by
    rw [shIs_app ht, if_neg]
    intro e
    simp only [Prod.mk.injEq, List.cons.injEq] at e
    have : t = (q, l) := by obtain ⟨a, b⟩ := t; simp only at e; rw [e.1, e.2.2]
    subst this
    exact hij (hF.one hi hj)
  refine ⟨fun i hi t hti y => ?_, fun i b hb => ?_⟩
  · have hij : i ≠ j := by intro e; simp only [if_pos e] at hi; cases hi
    simp only [if_neg hij] at hi
    by_cases h1 : i < F.length
    · rw [List.getElem?_append_left h1] at hti
      rw [hs i t y hij hti]
      exact h.1 i hi t hti y
    · rw [List.getElem?_append_right (by omega)] at hti
      have h0 : i - F.length = 0 := by
        have := (List.getElem?_eq_some_iff.1 hti).1
        simp at this; omega
      rw [h0] at hti
      simp at hti
      subst hti
      rw [shIs_app ht, if_neg (by simp), shIs_none]
      intro hm
      obtain ⟨k, hk, e⟩ := List.getElem_of_mem hm
      obtain ⟨k2, _, hk2⟩ := hF.up k q y (x :: l) (by rw [List.getElem?_eq_getElem hk, e])
      exact ht (List.mem_of_getElem? hk2)
  · by_cases hij : i = j
    · subst hij
      simp only [if_true, Option.some.injEq] at hb
      subst hb
      obtain ⟨es, c, g1, g2⟩ := hbm
      refine ⟨hb1, hb2, hb3, fun k hk2 => ?_, (q, l), by rw [List.getElem?_append_left hjl]; exact hj, es, c, g1, g2⟩
      by_cases e : k = i
      · exact e
      · simp only [if_neg e] at hk2; exact hb4 k hk2
    · simp only [if_neg hij] at hb
      have hne : b ≠ bm := fun e => hij (hb4 i (e ▸ hb))
      obtain ⟨g1, g2, g3, g4, t, g5, es, c, g6, g7⟩ := h.2 i b hb
      refine ⟨hO b g1, g2, g3, fun k hk2 => ?_, t, by rw [List.getElem?_append_left (List.getElem?_eq_some_iff.1 g5).1]; exact g5, es, c, by rw [hk i b hb hne]; exact g6, ?_⟩
      · by_cases e : k = j
        · simp only [if_pos e, Option.some.injEq] at hk2; exact absurd hk2.symm hne
        · simp only [if_neg e] at hk2; exact g4 k hk2
      · have : (fun y => shIs (F ++ [(q, x :: l)]) (t.1, y :: t.2)) = fun y => shIs F (t.1, y :: t.2) := by funext y; exact hs i t y hij g5
        rw [this]; exact g7
theorem bOneA (a b c d : Nat) : cbuild Try.prog 138 #[(0, .int .i64 (a : Int)), (1, .int .i64 (b : Int)), (2, .int .i64 (c : Int)), (3, .int .i64 (d : Int))] = some (.agg #[.int .i64 (a : Int), .int .i64 (b : Int), .int .i64 (c : Int), .int .i64 (d : Int), .map none]) := by kernel_rfl
theorem cfindI_nil (x : Nat) : cfind Try.prog 3 (.int .i64 (x : Int)) [] = some none := by
  unfold cfind; rw [if_pos (show plain 6 (Value.int .i64 (x : Int)) = true from rfl), underlying3]; rfl
theorem parId_app {F : List Sh} (h : FOk F) {j q x : Nat} {l : List Nat} (hj : F[j]? = some (q, l)) : parId (F ++ [(q, x :: l)]) (q, x :: l) = j + 1 := by
  have := h.is hj
  unfold shIs at this
  rw [if_pos (List.mem_of_getElem? hj)] at this
  unfold parId
  simp only
  rw [List.idxOf_append, if_pos (List.mem_of_getElem? hj)]
  exact Option.some.inj this
set_option maxHeartbeats 4000000 in
theorem fadd_spec {lo p : Nat} {F : List Sh} {most x : Nat} {O : Nat → Prop} {i : Int} (hF : FAt lo s p F most O) (hlo : lo ≤ s.next) (hi : -9223372036854775808 ≤ i ∧ i ≤ 9223372036854775807)
    (h : ∀ s' O', FAt lo s' p (addF F most i x) most O' → Upd s s' O O' → R (.int .i64 (addN F most i x : Int)) s') :
    CCalls Try.prog w0 69 #[.pointer (some ⟨p, 0, none⟩), .int .i64 i, .int .i64 (x : Int)] s R := by
  refine wfun2 hmix ok69 (l := [.pointer (some ⟨p, 0, none⟩), .int .i64 i, .int .i64 (x : Int)]) func69 rfl ntmps69 results69 (by simp) ?_
  have hF0 := hF
  obtain ⟨h1, h2, h3, h4, m, sl, es, clock, nx, h5, h6, h7, h8, h9, h10, h11, h12⟩ := hF
  have hpn := (h1 p h2).2
  simp -implicitDefEqProofs only [↓Zd, (Zp), if_true, if_false, ne_eq, implies_true, forall_const, Nat.reduceEqDiff, reduceIte, reduceCtorEq, Int.reduceEq, Int.reduceNeg, Int.reduceLE, Int.reduceLT, Nat.reduceAdd, Nat.reduceLeDiff, Int.reduceToNat, Nat.reduceMul, Nat.reduceBEq, okPart, Value.cells, cut, okCell, cld2, (FOx), co81]
  refine ffind_spec h5 h10.form hi (fun hno => ?_) (fun b j hij hj hsl => ?_)
  · have hf : addF F most i x = F := by unfold addF; rw [shAt_out hno]
    have hg : addN F most i x = 0 := by unfold addN; rw [shAt_out hno]
    rw [hf, hg] at h
    simp -implicitDefEqProofs only [↓Zd, (Zp), if_true, if_false, ne_eq, implies_true, forall_const, Nat.reduceEqDiff, reduceIte, reduceCtorEq, Int.reduceEq, Int.reduceNeg, Int.reduceLE, Int.reduceLT, Nat.reduceAdd, Nat.reduceLeDiff, Int.reduceToNat, Nat.reduceMul, Nat.reduceBEq, okPart, Value.cells, cut, okCell, cld2, (FOx)]
    exact h _ O hF0 .refl
  · rcases h10 with ⟨e0, _⟩ | ⟨b', junk, hs', hb, hl⟩
    · omega
    cases hsl.symm.trans hs'
    subst hsl
    subst hij
    obtain ⟨q, l, hFj⟩ : ∃ q l, F[j]? = some (q, l) := ⟨F[j].1, F[j].2, by simp [hj]⟩
    have hsh : shAt F ((j + 1 : Nat) : Int) = some (q, l) := by rw [shAt_in, hFj]
    have hno : namesOf F ((j + 1 : Nat) : Int) = l := by unfold namesOf; rw [hsh]
    have hf : addF F most ((j + 1 : Nat) : Int) x = if 12 ≤ l.length ∨ x ∈ l then F else growF F most (q, x :: l) := by unfold addF; rw [hsh]
    have hg : addN F most ((j + 1 : Nat) : Int) x = if 12 ≤ l.length ∨ x ∈ l then 0 else growN F most (q, x :: l) := by unfold addN; rw [hsh]
    rw [hf, hg] at h
    have f2 := rows_get (oneC_len F nx) (n := F.length) junk hj (show 2 < 5 by omega)
    have f3 := rows_get (oneC_len F nx) (n := F.length) junk hj (show 3 < 5 by omega)
    have f4 := rows_get (oneC_len F nx) (n := F.length) junk hj (show 4 < 5 by omega)
    rw [oneC_at hFj] at f2 f3 f4
    by_cases h12' : (12 : Int) ≤ (l.length : Int)
    · rw [if_pos (.inl (by omega)), if_pos (.inl (by omega))] at h
      simp -implicitDefEqProofs only [↓Zd, (Zp), if_true, if_false, ne_eq, implies_true, forall_const, Nat.reduceEqDiff, reduceIte, reduceCtorEq, Int.reduceEq, Int.reduceNeg, Int.reduceLE, Int.reduceLT, Nat.reduceAdd, Nat.reduceLeDiff, Int.reduceToNat, Nat.reduceMul, Nat.reduceBEq, okPart, Value.cells, cut, okCell, cld2, (FOx), hb, f2, h12']
      exact h _ O hF0 .refl
    · simp -implicitDefEqProofs only [↓Zd, (Zp), if_true, if_false, ne_eq, implies_true, forall_const, Nat.reduceEqDiff, reduceIte, reduceCtorEq, Int.reduceEq, Int.reduceNeg, Int.reduceLE, Int.reduceLT, Nat.reduceAdd, Nat.reduceLeDiff, Int.reduceToNat, Nat.reduceMul, Nat.reduceBEq, okPart, Value.cells, cut, okCell, cld2, (FOx), hb, f2, h12', co61]
      refine fslot_spec hF0 hi fun s1 hs1 => ?_
      rw [hno]
      have hF1 := hF0.same hs1.1 fun b hb => hs1.2 b (h1 b hb).2
      by_cases hx : (0 : Int) ≤ slotL l x
      · have hm : x ∈ l := by
          by_cases hm : x ∈ l
          · exact hm
          · have := (slotL_neg l x).2 hm; omega
        rw [if_pos (.inr hm), if_pos (.inr hm)] at h
        simp -implicitDefEqProofs only [↓Zd, (Zp), if_true, if_false, ne_eq, implies_true, forall_const, Nat.reduceEqDiff, reduceIte, reduceCtorEq, Int.reduceEq, Int.reduceNeg, Int.reduceLE, Int.reduceLT, Nat.reduceAdd, Nat.reduceLeDiff, Int.reduceToNat, Nat.reduceMul, Nat.reduceBEq, okPart, Value.cells, cut, okCell, cld2, (FOx), hx]
        exact h _ O hF1 (.of_le hs1)
      · have hm : x ∉ l := (slotL_neg l x).1 (by omega)
        have hor : ¬ (12 ≤ l.length ∨ x ∈ l) := by rintro (g | g); omega; exact hm g
        rw [if_neg hor, if_neg hor] at h
        have hb1 : s1.at' b = some (.cells (rows (oneC F nx) F.length ++ junk) 138 true) := by rw [hs1.2 b (h1 b (h11 _ _ _ rfl).1).2]; exact hb
        have hsl1 : SlU 138 5 s1 (.slice (some ⟨b, 0, none⟩) F.length UNK) (rows (oneC F nx) F.length) F.length := .inr ⟨b, junk, rfl, hb1, hl⟩
        have hp1 : s1.at' p = some (.cells [.slice (some ⟨b, 0, none⟩) F.length UNK, .map (some m), .int .i64 (most : Int)] 127 true) := by rw [hs1.2 p hpn]; exact h5
        have w1 : IntKind.i64.wrap (((l.length : Nat) : Int) + 1) = ((l.length + 1 : Nat) : Int) := by rw [wrap_i64 (by omega)]; omega
        cases hnx : nx j with
        | some bm =>
          rw [hnx] at f4
          obtain ⟨g1, g2, g3, g4, t, g5, es2, c2, g6, g7⟩ := h12.2 j bm hnx
          cases hFj.symm.trans g5
          have hbm1 : s1.at' bm = some (.map es2 c2) := by rw [hs1.2 bm (h1 bm g1).2]; exact g6
          obtain ⟨i0, hc⟩ := g7 x
          simp only at hc
          cases hsk : shIs F (q, x :: l) with
          | some k =>
            have hin : (q, x :: l) ∈ F := by
              by_cases hin : (q, x :: l) ∈ F
              · exact hin
              · rw [shIs_none.2 hin] at hsk; cases hsk
            have hkk : F.idxOf (q, x :: l) + 1 = k := by
              have := hsk
              unfold shIs at this
              rw [if_pos hin] at this
              exact Option.some.inj this
            have hf2 : growF F most (q, x :: l) = F := by unfold growF; rw [if_pos hin]
            have hg2 : growN F most (q, x :: l) = k := by unfold growN; rw [if_pos hin, hkk]
            rw [hf2, hg2] at h
            rw [hsk] at hc
            simp -implicitDefEqProofs only [↓Zd, (Zp), if_true, if_false, ne_eq, implies_true, forall_const, Nat.reduceEqDiff, reduceIte, reduceCtorEq, Int.reduceEq, Int.reduceNeg, Int.reduceLE, Int.reduceLT, Nat.reduceAdd, Nat.reduceLeDiff, Int.reduceToNat, Nat.reduceMul, Nat.reduceBEq, okPart, Value.cells, cut, okCell, cld2, (FOx), underlying135, hx, hb1, f2, f3, f4, hbm1, hc]
            exact h _ O hF1 (.of_le hs1)
          | none =>
            have hin : (q, x :: l) ∉ F := shIs_none.1 hsk
            rw [hsk] at hc
            simp only [Option.map_none] at hc
            simp -implicitDefEqProofs only [↓Zd, (Zp), if_true, if_false, ne_eq, implies_true, forall_const, Nat.reduceEqDiff, reduceIte, reduceCtorEq, Int.reduceEq, Int.reduceNeg, Int.reduceLE, Int.reduceLT, Nat.reduceAdd, Nat.reduceLeDiff, Int.reduceToNat, Nat.reduceMul, Nat.reduceBEq, okPart, Value.cells, cut, okCell, cld2, (FOx), underlying135, underlying138, ord69, hx, hb1, f2, f3, f4, hbm1, hc, w1, bOneA, co55]
            refine fgrow_spec (a := j + 1) (b := x) (c := l.length + 1) (d := q) hp1 hsl1 (fun q a c e => by have := h11 q a c e; have := h1 _ this.1; have := hs1.1; exact ⟨by omega, by omega⟩) (by have := hs1.1; omega) (by omega) (fun s' hmo hs' => ?_) (fun s' b2 hlt hb21 hb22 hn' hp' hb' hk' => ?_)
            · have hg2 : growN F most (q, x :: l) = 0 := by unfold growN; rw [if_neg hin, if_neg (by omega)]
              have hf2 : growF F most (q, x :: l) = F := by unfold growF; rw [if_neg hin, if_neg (by omega)]
              rw [hf2, hg2] at h
              simp -implicitDefEqProofs only [↓Zd, (Zp), if_true, if_false, ne_eq, implies_true, forall_const, Nat.reduceEqDiff, reduceIte, reduceCtorEq, Int.reduceEq, Int.reduceNeg, Int.reduceLE, Int.reduceLT, Nat.reduceAdd, Nat.reduceLeDiff, Int.reduceToNat, Nat.reduceMul, Nat.reduceBEq, okPart, Value.cells, cut, okCell, cld2, (FOx), ord69]
              exact h _ O (hF1.same hs'.1 fun b hb => hs'.2 b (by have := (h1 b hb).2; have := hs1.1; omega)) (.of_le (St.le_trans hs1 hs'))
            · have hg2 : growN F most (q, x :: l) = F.length + 1 := by unfold growN; rw [if_neg hin, if_pos hlt]
              have hf2 : growF F most (q, x :: l) = F ++ [(q, x :: l)] := by unfold growF; rw [if_neg hin, if_pos hlt]
              rw [hf2, hg2] at h
              have hz : ¬ ((F.length + 1 : Nat) : Int) = 0 := by omega
              have hb2' : s'.at' b2 = some (.cells (rows (oneC (F ++ [(q, x :: l)]) nx) (F.length + 1)) 138 true) := by
                rw [rows_app h3 (h12.last (Nat.le_refl _)), parId_app h3 hFj]; exact hb'
              have hFj' : (F ++ [(q, x :: l)])[j]? = some (q, l) := by rw [List.getElem?_append_left hj]; exact hFj
              have f4' := rows_get (oneC_len (F ++ [(q, x :: l)]) nx) (n := F.length + 1) [] (show j < F.length + 1 by omega) (show 4 < 5 by omega)
              rw [List.append_nil, oneC_at hFj', hnx] at f4'
              have hs1n := hs1.1
              have hbO := (h11 _ _ _ rfl).1
              have hbb := h1 _ hbO
              simp only at hbb
              have hbmb : bm ≠ b := fun e => (h11 _ _ _ rfl).2.2.2 j (by rw [hnx, e])
              have hbm' : s'.at' bm = some (.map es2 c2) := by
                rw [hk' bm (by have := (h1 bm g1).2; omega) g2 (fun a n k e => by cases e; exact hbmb)]; exact hbm1
              simp -implicitDefEqProofs only [↓Zd, (Zp), if_true, if_false, ne_eq, implies_true, forall_const, Nat.reduceEqDiff, reduceIte, reduceCtorEq, Int.reduceEq, Int.reduceNeg, Int.reduceLE, Int.reduceLT, Nat.reduceAdd, Nat.reduceLeDiff, Int.reduceToNat, Nat.reduceMul, Nat.reduceBEq, okPart, Value.cells, cut, okCell, cld2, (FOx), ord69, hz, co81]
              refine ffind_spec (n := F.length + 1) hp' (.inr ⟨b2, rfl⟩) hi (fun hno => by omega) (fun b3 j3 hij3 hj3 hs3 => ?_)
              cases hs3
              have : j3 = j := by omega
              subst this
              simp -implicitDefEqProofs only [↓Zd, (Zp), if_true, if_false, ne_eq, implies_true, forall_const, Nat.reduceEqDiff, reduceIte, reduceCtorEq, Int.reduceEq, Int.reduceNeg, Int.reduceLE, Int.reduceLT, Nat.reduceAdd, Nat.reduceLeDiff, Int.reduceToNat, Nat.reduceMul, Nat.reduceBEq, okPart, Value.cells, cut, okCell, cld2, (FOx), hb2', f4', hbm', hc]
              have hl2 : (F ++ [(q, x :: l)]).length = F.length + 1 := by simp
              have hnxe : (fun i => if i = j3 then some bm else nx i) = nx := by
                funext k
                by_cases e : k = j3
                · rw [if_pos e, e, hnx]
                · rw [if_neg e]
              have hMI : MI (es2 ++ [{ key := .int .i64 (x : Int), val := .int .i64 ((F.length + 1 : Nat) : Int), born := c2 }]) (fun y => shIs (F ++ [(q, x :: l)]) (q, y :: l)) := by
                have := g7.app (x := x) (j := F.length + 1) (c := c2) hsk
                have e : (fun y => shIs (F ++ [(q, x :: l)]) (q, y :: l)) = fun y => if y = x then some (F.length + 1) else shIs F (q, y :: l) := by
                  funext y
                  rw [shIs_app hin]
                  by_cases e : y = x
                  · subst e; simp
                  · rw [if_neg e, if_neg (by simp [e])]
                rw [e]; exact this
              have hKids := Kids.add (s' := s'.put bm (.map (es2 ++ [{ key := .int .i64 (x : Int), val := .int .i64 ((F.length + 1 : Nat) : Int), born := c2 }]) (c2 + 1))) (O' := fun c => O c ∨ c = b2) h12 h3 hFj hin
                (fun i c hc hne => by
                  obtain ⟨k1, k2, k3, _⟩ := h12.2 i c hc
                  rw [St.at_put, if_neg hne, hk' c (by have := (h1 c k1).2; omega) k2 (fun a n k e => by cases e; exact fun e2 => (h11 _ _ _ rfl).2.2.2 i (by rw [hc, e2])), hs1.2 c (h1 c k1).2])
                ⟨_, _, by rw [St.at_put, if_pos rfl], hMI⟩ (fun c hc => .inl hc) (.inl g1) g2 g3 g4
              rw [hnxe] at hKids
              refine h _ (fun c => O c ∨ c = b2) ⟨?_, .inl h2, h3.app hin (List.nodup_cons.2 ⟨hm, (h3.names _ _ _ hFj).1⟩) (by simp only [List.length_cons]; omega) (fun y r e => by cases e; exact List.mem_of_getElem? hFj), ⟨by rw [hl2]; omega, h4.2⟩, m, .slice (some ⟨b2, 0, none⟩) (F.length + 1) UNK, es, clock, nx, ?_, ?_, ?_, .inl h8, h9, .inr ⟨b2, [], by simp, ?_, rows_len (oneC_len _ _) _⟩, ?_, hKids⟩ ⟨?_, ?_, ?_⟩
              · rintro c (hc | rfl)
                · exact ⟨(h1 c hc).1, by have := (h1 c hc).2; simp only [St.next_put]; omega⟩
                · exact ⟨by omega, by simp only [St.next_put]; omega⟩
              · rw [St.at_put, if_neg (fun e => g2 e.symm)]; exact hp'
              · rw [St.at_put, if_neg (fun e => g3 e.symm), hk' m (by have := (h1 m h8).2; omega) h9 (fun a n k e => by cases e; exact fun e2 => (h11 _ _ _ rfl).2.2.1 e2.symm), hs1.2 m (h1 m h8).2]; exact h6
              · have e : (fun y => shIs (F ++ [(q, x :: l)]) (y, [])) = fun y => shIs F (y, []) := by
                  funext y; rw [shIs_app hin, if_neg (by simp)]
                rw [e]; exact h7
              · rw [St.at_put, if_neg (by have := (h1 bm g1).2; omega), hl2, List.append_nil]; exact hb2'
              · intro a n k e
                cases e
                refine ⟨.inr rfl, by show b2 ≠ p; omega, by have := (h1 m h8).2; show b2 ≠ m; omega, fun i hi => by have := (h1 _ (h12.2 i _ hi).1).2; simp only at this; omega⟩
              · simp only [St.next_put]; omega
              · intro c hc ho
                rw [St.at_put, if_neg (fun e : c = bm => ho (e ▸ g1)), hk' c (by omega) (fun e => ho (e ▸ h2)) (fun a n k e => by cases e; exact fun e2 => ho (e2 ▸ hbO)), hs1.2 c hc]
              · rintro c (hc | rfl)
                · exact .inl hc
                · exact .inr (by omega)
        | none =>
          rw [hnx] at f4
          have hsk := h12.1 j hnx (q, l) hFj x
          simp only at hsk
          have hin : (q, x :: l) ∉ F := shIs_none.1 hsk
          simp -implicitDefEqProofs only [↓Zd, (Zp), if_true, if_false, ne_eq, implies_true, forall_const, Nat.reduceEqDiff, reduceIte, reduceCtorEq, Int.reduceEq, Int.reduceNeg, Int.reduceLE, Int.reduceLT, Nat.reduceAdd, Nat.reduceLeDiff, Int.reduceToNat, Nat.reduceMul, Nat.reduceBEq, okPart, Value.cells, cut, okCell, cld2, (FOx), underlying135, underlying138, ord69, hx, hb1, f2, f3, f4, cfindI_nil, w1, bOneA, co55]
          refine fgrow_spec (a := j + 1) (b := x) (c := l.length + 1) (d := q) hp1 hsl1 (fun q a c e => by have := h11 q a c e; have := h1 _ this.1; have := hs1.1; exact ⟨by omega, by omega⟩) (by have := hs1.1; omega) (by omega) (fun s' hmo hs' => ?_) (fun s' b2 hlt hb21 hb22 hn' hp' hb' hk' => ?_)
          · have hg2 : growN F most (q, x :: l) = 0 := by unfold growN; rw [if_neg hin, if_neg (by omega)]
            have hf2 : growF F most (q, x :: l) = F := by unfold growF; rw [if_neg hin, if_neg (by omega)]
            rw [hf2, hg2] at h
            simp -implicitDefEqProofs only [↓Zd, (Zp), if_true, if_false, ne_eq, implies_true, forall_const, Nat.reduceEqDiff, reduceIte, reduceCtorEq, Int.reduceEq, Int.reduceNeg, Int.reduceLE, Int.reduceLT, Nat.reduceAdd, Nat.reduceLeDiff, Int.reduceToNat, Nat.reduceMul, Nat.reduceBEq, okPart, Value.cells, cut, okCell, cld2, (FOx), ord69]
            exact h _ O (hF1.same hs'.1 fun b hb => hs'.2 b (by have := (h1 b hb).2; have := hs1.1; omega)) (.of_le (St.le_trans hs1 hs'))
          · have hg2 : growN F most (q, x :: l) = F.length + 1 := by unfold growN; rw [if_neg hin, if_pos hlt]
            have hf2 : growF F most (q, x :: l) = F ++ [(q, x :: l)] := by unfold growF; rw [if_neg hin, if_pos hlt]
            rw [hf2, hg2] at h
            have hz : ¬ ((F.length + 1 : Nat) : Int) = 0 := by omega
            have hb2' : s'.at' b2 = some (.cells (rows (oneC (F ++ [(q, x :: l)]) nx) (F.length + 1)) 138 true) := by
              rw [rows_app h3 (h12.last (Nat.le_refl _)), parId_app h3 hFj]; exact hb'
            have hFj' : (F ++ [(q, x :: l)])[j]? = some (q, l) := by rw [List.getElem?_append_left hj]; exact hFj
            have f4' := rows_get (oneC_len (F ++ [(q, x :: l)]) nx) (n := F.length + 1) [] (show j < F.length + 1 by omega) (show 4 < 5 by omega)
            rw [List.append_nil, oneC_at hFj', hnx] at f4'
            have hs1n := hs1.1
            have hbO := (h11 _ _ _ rfl).1
            have hbb := h1 _ hbO
            simp only at hbb
            simp -implicitDefEqProofs only [↓Zd, (Zp), if_true, if_false, ne_eq, implies_true, forall_const, Nat.reduceEqDiff, reduceIte, reduceCtorEq, Int.reduceEq, Int.reduceNeg, Int.reduceLE, Int.reduceLT, Nat.reduceAdd, Nat.reduceLeDiff, Int.reduceToNat, Nat.reduceMul, Nat.reduceBEq, okPart, Value.cells, cut, okCell, cld2, (FOx), ord69, hz, co81]
            refine ffind_spec (n := F.length + 1) hp' (.inr ⟨b2, rfl⟩) hi (fun hno => by omega) (fun b3 j3 hij3 hj3 hs3 => ?_)
            cases hs3
            have : j3 = j := by omega
            subst this
            have hset := rows_set (oneC_len (F ++ [(q, x :: l)]) nx) (oneC_len (F ++ [(q, x :: l)]) (fun i => if i = j3 then some s'.next else nx i)) (n := F.length + 1) (i := j3) (j := 4) (v := .map (some s'.next)) [] (by omega) (by omega) (fun k hk => by unfold oneC; simp only [if_neg hk]) (by rw [oneC_at hFj', oneC_at hFj']; simp)
            rw [List.append_nil, List.append_nil] at hset
            have f5 := rows_get (oneC_len (F ++ [(q, x :: l)]) (fun i => if i = j3 then some s'.next else nx i)) (n := F.length + 1) [] (show j3 < F.length + 1 by omega) (show 4 < 5 by omega)
            rw [List.append_nil, oneC_at hFj', if_pos rfl] at f5
            have hle5 : j3 * 5 + 4 + 1 ≤ (rows (oneC (F ++ [(q, x :: l)]) nx) (F.length + 1)).length := by rw [rows_len (oneC_len _ _)]; omega
            have hne : ¬ b2 = s'.next := by omega
            have hne' : ¬ s'.next = b2 := by omega
            simp -implicitDefEqProofs only [↓Zd, (Zp), if_true, if_false, ne_eq, implies_true, forall_const, Nat.reduceEqDiff, reduceIte, reduceCtorEq, Int.reduceEq, Int.reduceNeg, Int.reduceLE, Int.reduceLT, Nat.reduceAdd, Nat.reduceLeDiff, Int.reduceToNat, Nat.reduceMul, Nat.reduceBEq, okPart, Value.cells, cut, okCell, cld2, (FOx), hb2', f4', f5, hset, hle5, hne, hne', cfindI_nil, Nat.add_assoc]
            have hl2 : (F ++ [(q, x :: l)]).length = F.length + 1 := by simp
            have hMI : MI [{ key := .int .i64 (x : Int), val := .int .i64 ((F.length + 1 : Nat) : Int), born := 0 }] (fun y => shIs (F ++ [(q, x :: l)]) (q, y :: l)) := by
              have := MI.nil.app (x := x) (j := F.length + 1) (c := 0) rfl
              have e : (fun y => shIs (F ++ [(q, x :: l)]) (q, y :: l)) = fun y => if y = x then some (F.length + 1) else none := by
                funext y
                rw [shIs_app hin]
                by_cases e : y = x
                · subst e; simp
                · rw [if_neg e, if_neg (by simp [e])]
                  exact h12.1 j3 hnx (q, l) hFj y
              rw [e]; exact this
            have hKids := Kids.add (bm := s'.next) (s' := ((s'.new (.map [] 0)).put b2 (.cells (rows (oneC (F ++ [(q, x :: l)]) fun i => if i = j3 then some s'.next else nx i) (F.length + 1)) 138 true)).put s'.next (.map [{ key := .int .i64 (x : Int), val := .int .i64 ((F.length + 1 : Nat) : Int), born := 0 }] 1)) (O' := fun c => O c ∨ c = b2 ∨ c = s'.next) h12 h3 hFj hin
              (fun i c hc hne => by
                obtain ⟨k1, k2, k3, _⟩ := h12.2 i c hc
                have := (h1 c k1).2
                rw [St.at_put, if_neg hne, St.at_put, if_neg (by omega), St.at_new, if_neg hne, hk' c (by omega) k2 (fun a n k e => by cases e; exact fun e2 => (h11 _ _ _ rfl).2.2.2 i (by rw [hc, e2])), hs1.2 c this])
              ⟨_, _, by rw [St.at_put, if_pos rfl], hMI⟩ (fun c hc => .inl hc) (.inr (.inr rfl)) (by omega) (by have := (h1 m h8).2; omega) (fun i hi => by have := (h1 _ (h12.2 i _ hi).1).2; omega)
            refine h _ (fun c => O c ∨ c = b2 ∨ c = s'.next) ⟨?_, .inl h2, h3.app hin (List.nodup_cons.2 ⟨hm, (h3.names _ _ _ hFj).1⟩) (by simp only [List.length_cons]; omega) (fun y r e => by cases e; exact List.mem_of_getElem? hFj), ⟨by rw [hl2]; omega, h4.2⟩, m, .slice (some ⟨b2, 0, none⟩) (F.length + 1) UNK, es, clock, (fun i => if i = j3 then some s'.next else nx i), ?_, ?_, ?_, .inl h8, h9, .inr ⟨b2, [], by simp, ?_, rows_len (oneC_len _ _) _⟩, ?_, hKids⟩ ⟨?_, ?_, ?_⟩
            · rintro c (hc | rfl | rfl)
              · exact ⟨(h1 c hc).1, by have := (h1 c hc).2; simp only [St.next_put, St.next_new]; omega⟩
              · exact ⟨by omega, by simp only [St.next_put, St.next_new]; omega⟩
              · exact ⟨by omega, by simp only [St.next_put, St.next_new]; omega⟩
            · rw [St.at_put, if_neg (by omega), St.at_put, if_neg (by omega), St.at_new, if_neg (by omega)]; exact hp'
            · have := (h1 m h8).2
              rw [St.at_put, if_neg (by omega), St.at_put, if_neg (by omega), St.at_new, if_neg (by omega), hk' m (by omega) h9 (fun a n k e => by cases e; exact fun e2 => (h11 _ _ _ rfl).2.2.1 e2.symm), hs1.2 m this]; exact h6
            · have e : (fun y => shIs (F ++ [(q, x :: l)]) (y, [])) = fun y => shIs F (y, []) := by
                funext y; rw [shIs_app hin, if_neg (by simp)]
              rw [e]; exact h7
            · rw [St.at_put, if_neg (by omega), St.at_put, if_pos rfl, hl2, List.append_nil]
            · intro a n k e
              cases e
              refine ⟨.inr (.inl rfl), by show b2 ≠ p; omega, by have := (h1 m h8).2; show b2 ≠ m; omega, fun i hi => ?_⟩
              simp only at hi
              split at hi
              · have := Option.some.inj hi; omega
              · have := (h1 _ (h12.2 i _ hi).1).2; omega
            · simp only [St.next_put, St.next_new]; omega
            · intro c hc ho
              rw [St.at_put, if_neg (by omega), St.at_put, if_neg (by omega), St.at_new, if_neg (by omega), hk' c (by omega) (fun e => ho (e ▸ h2)) (fun a n k e => by cases e; exact fun e2 => ho (e2 ▸ hbO)), hs1.2 c hc]
            · rintro c (hc | rfl | rfl)
              · exact .inl hc
              · exact .inr (by omega)
              · exact .inr (by omega)
end
end Go.Proofs.Try
set_option linter.unusedSimpArgs false
set_option linter.unusedVariables false
set_option linter.unusedSectionVars false
namespace Go.Proofs.Try
open Go.Cs
open Go.RowKit (Below)
set_option maxRecDepth 100000
attribute [local irreducible] CCalls WLoop WScope CRound WRange
section
variable {M : Type} [Mem M] {w0 : World} {s : St M} {R : Value → St M → Prop}
theorem fnew_spec {n : Int} (h : ∀ s' p, FAt s.next s' p [] (max 0 (min n 150)).toNat (fun b => s.next ≤ b ∧ b < s'.next) → s.le s' → R (.pointer (some ⟨p, 0, none⟩)) s') : CCalls Try.prog w0 18 #[.int .i64 n] s R := by
  refine wfun2 hmix ok18 (l := [.int .i64 n]) func18 rfl ntmps18 results18 (by simp) ?_
  have hb : ∀ (m : Nat) (v : Int), cbuild Try.prog 127 #[(1, .map (some m)), (2, .int .i64 v)] = some (.agg #[.slice none 0 0, .map (some m), .int .i64 v]) := fun m v => by kernel_rfl
  have hmx : (if (if (150 : Int) < n then (150 : Int) else n) > 0 then (if (150 : Int) < n then (150 : Int) else n) else 0) = (((max 0 (min n 150)).toNat : Nat) : Int) := by omega
  simp -implicitDefEqProofs only [↓Zd, (Zp), if_true, if_false, ne_eq, implies_true, forall_const, Nat.reduceEqDiff, reduceIte, reduceCtorEq, Int.reduceEq, Int.reduceNeg, Int.reduceLE, Int.reduceLT, Nat.reduceAdd, Nat.reduceLeDiff, Int.reduceToNat, Nat.reduceMul, Nat.reduceBEq, okPart, Value.cells, cut, okCell, cld2, (FOx), underlying127, sz127, is127, ce127, ag127, ze127, fa127x0, fa127x1, fa127x2, underlying124, sz124, is124, ce124, ag124, ze124, nt124, nn124, nf124, ng124, hb, o_min, o_max, bi_min, bi_max, hmx]
  refine h _ _ ⟨fun b hb => hb, by simp, .nil, ⟨by simp, by omega⟩, s.next, .slice none 0 0, [], 0, fun _ => none, by simp, by simp, ?_, ⟨by omega, by simp only [St.next_new]; omega⟩, by simp, .inl ⟨rfl, rfl, rfl⟩, (fun q n c e => by cases e), ?_⟩ (by repeat (first | exact St.le_refl _ | assumption | refine St.le_new ?_ | refine St.le_put ?_ (by first | omega | (simp only [St.next_new, St.next_put, St.next_kill]; omega)) | refine St.le_trans ?_ (by assumption)))
  · have : (fun x => shIs [] (x, ([] : List Nat))) = fun _ => none := by funext x; simp [shIs]
    rw [this]; exact .nil
  · exact ⟨fun i _ t ht => by simp at ht, fun i b hb => by cases hb⟩
end
end Go.Proofs.Try
