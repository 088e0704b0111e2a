/- The walk of the law on states that are not there: the kernel reckons it whole, both ways at the tests that its argument decides. A lemma file: no statement of its own. -/
import Derived.Test.YtmjaocgpdbppnaaGreatVal1
import Derived.Test.YtmjaocgpdbppnaaGreatFwF
import Derived.Test.YtmjaocgpdbppnaaGreatW18
set_option linter.unusedSimpArgs false
set_option linter.unusedVariables false
set_option linter.unusedSectionVars false
set_option maxRecDepth 100000
namespace Go.Proofs.Tryz
open Go.Cs
open Go.RowKit (Below)

/-- An act, as the law has it. -/
abbrev vAct18 (a0 a1 a2 : Int) (a3 : ByteArray) (k4 n4 : Int) (x4 : ByteArray) (k5 n5 : Int) (x5 : ByteArray) (k6 n6 : Int) (x6 : ByteArray) : Value :=
  .agg #[.int .i64 a0, .int .i64 a1, .int .i64 a2, .string a3, .int .i64 k4, .int .i64 n4, .string x4, .int .i64 k5, .int .i64 n5, .string x5, .int .i64 k6, .int .i64 n6, .string x6]

def long18 (a b c d : ByteArray) : Bool := decide ((300 : Int) < a.size) || decide ((300 : Int) < b.size) || decide ((300 : Int) < c.size) || decide ((300 : Int) < d.size)

/-- The cells of a state that no call made. -/
def zState : List Value := [.pointer none, .pointer none, .int .i64 0, .int .i64 0, .int .i64 0, .int .i64 0, .slice none 0 0, .int .i64 0, .int .i64 0, .int .i64 0, .slice none 0 0, .slice none 0 0, .int .i64 0, .int .i64 0, .int .i64 0, .int .i64 0, .string (ByteArray.mk #[])]

section
variable {M : Type} [Mem M] {w0 : World} {s : St M} {R : Value → St M → Prop}

section
attribute [local irreducible] CCalls WLoop WScope
theorem long18_spec {a0 a1 a2 : Int} {a3 : ByteArray} {k4 n4 : Int} {x4 : ByteArray} {k5 n5 : Int} {x5 : ByteArray} {k6 n6 : Int} {x6 : ByteArray} (h : ∀ s', R (.bool (long18 a3 x4 x5 x6)) s') :
    CCalls Tryz.prog w0 10 #[vAct18 a0 a1 a2 a3 k4 n4 x4 k5 n5 x5 k6 n6 x6] s R := by
  refine wfun2 hmix ok10 (l := [vAct18 a0 a1 a2 a3 k4 n4 x4 k5 n5 x5 k6 n6 x6]) func10 rfl ntmps10 results10 (by simp) ?_
  unfold long18 at h
  by_cases h1 : (300 : Int) < a3.size
  · simp only [h1, decide_true, Bool.true_or] at h
    simp -implicitDefEqProofs only [↓Zd, (Zp), if_true, if_false, ne_eq, implies_true, forall_const, Nat.reduceEqDiff, reduceIte, reduceCtorEq, Int.reduceEq, Int.reduceNeg, Int.reduceLE, Int.reduceLT, Nat.reduceAdd, Nat.reduceLeDiff, Int.reduceToNat, Nat.reduceMul, Nat.reduceBEq, okPart, Value.cells, cut, okCell, cld2, underlying3, underlying4, underlying9, underlying42, vA, is42, ag42, ce42, fa42x0, fa42x1, fa42x2, ag3, ce3, ag9, ce9, underlying3, underlying4, underlying9, underlying5, underlying25, underlying0, be4, bn4, underlying44, is44, ag44, ce44, fa44x0, fa44x1, fa44x2, fa44x3, fa44x4, fa44x5, fa44x6, h1]
    exact h _
  · by_cases h2 : (300 : Int) < x4.size
    · simp only [h1, h2, decide_true, decide_false, Bool.false_or, Bool.true_or] at h
      simp -implicitDefEqProofs only [↓Zd, (Zp), if_true, if_false, ne_eq, implies_true, forall_const, Nat.reduceEqDiff, reduceIte, reduceCtorEq, Int.reduceEq, Int.reduceNeg, Int.reduceLE, Int.reduceLT, Nat.reduceAdd, Nat.reduceLeDiff, Int.reduceToNat, Nat.reduceMul, Nat.reduceBEq, okPart, Value.cells, cut, okCell, cld2, underlying3, underlying4, underlying9, underlying42, vA, is42, ag42, ce42, fa42x0, fa42x1, fa42x2, ag3, ce3, ag9, ce9, underlying3, underlying4, underlying9, underlying5, underlying25, underlying0, be4, bn4, underlying44, is44, ag44, ce44, fa44x0, fa44x1, fa44x2, fa44x3, fa44x4, fa44x5, fa44x6, h1, h2]
      exact h _
    · by_cases h3 : (300 : Int) < x5.size
      · simp only [h1, h2, h3, decide_true, decide_false, Bool.false_or, Bool.true_or] at h
        simp -implicitDefEqProofs only [↓Zd, (Zp), if_true, if_false, ne_eq, implies_true, forall_const, Nat.reduceEqDiff, reduceIte, reduceCtorEq, Int.reduceEq, Int.reduceNeg, Int.reduceLE, Int.reduceLT, Nat.reduceAdd, Nat.reduceLeDiff, Int.reduceToNat, Nat.reduceMul, Nat.reduceBEq, okPart, Value.cells, cut, okCell, cld2, underlying3, underlying4, underlying9, underlying42, vA, is42, ag42, ce42, fa42x0, fa42x1, fa42x2, ag3, ce3, ag9, ce9, underlying3, underlying4, underlying9, underlying5, underlying25, underlying0, be4, bn4, underlying44, is44, ag44, ce44, fa44x0, fa44x1, fa44x2, fa44x3, fa44x4, fa44x5, fa44x6, h1, h2, h3]
        exact h _
      · simp only [h1, h2, h3, decide_false, Bool.false_or] at h
        simp -implicitDefEqProofs only [↓Zd, (Zp), if_true, if_false, ne_eq, implies_true, forall_const, Nat.reduceEqDiff, reduceIte, reduceCtorEq, Int.reduceEq, Int.reduceNeg, Int.reduceLE, Int.reduceLT, Nat.reduceAdd, Nat.reduceLeDiff, Int.reduceToNat, Nat.reduceMul, Nat.reduceBEq, okPart, Value.cells, cut, okCell, cld2, underlying3, underlying4, underlying9, underlying42, vA, is42, ag42, ce42, fa42x0, fa42x1, fa42x2, ag3, ce3, ag9, ce9, underlying3, underlying4, underlying9, underlying5, underlying25, underlying0, be4, bn4, underlying44, is44, ag44, ce44, fa44x0, fa44x1, fa44x2, fa44x3, fa44x4, fa44x5, fa44x6, h1, h2, h3]
        exact h _
end

/-- Where both ways are gone by a sign's work. -/
def bothUn (f : FuncId) (t : Nat) : Bool := (Nat.beq f 60 && (Nat.beq t 7 || Nat.beq t 11 || Nat.beq t 17)) || (Nat.beq f 123 && (Nat.beq t 6 || Nat.beq t 10)) || (Nat.beq f 122 && Nat.beq t 3)

def noUn : Value := .tuple #[.agg #[.int .i64 0, .int .i64 0, .string (ByteArray.mk #[])], .bool false]
def trialUnP (P : Program) (p : Value) (s : St AL) (op k n : Int) (x : ByteArray) : Res := ecallT P ⟨fun _ _ _ => none, bothUn⟩ 400 (.fn 14) #[p, .int .i64 op, vA k n x] s fun v _ => .of (eqV 6 v noUn)
theorem trialUn_spec {p : Value} {s : St AL} {op k n : Int} {x : ByteArray} (h : trialUnP Tryz.prog p s op k n x = (trialUnP Tryz.prog p s op k n x).dup) (w0 : World) : CCalls Tryz.prog w0 14 #[p, .int .i64 op, vA k n x] s fun v _ => v = noUn :=
  CCalls.mono (ecallT_sound (w0 := w0) hmix (orc := ⟨fun _ _ _ => none, bothUn⟩) (fun _ _ _ _ h => by cases h) 400 (.fn 14) _ _ _ (Res.holds_dup _ h)) fun v s' hk => by rw [Res.of_holds] at hk; exact eqV_sound 6 _ _ hk
theorem un_nil (op k n : Int) (x : ByteArray) : trialUnP Tryz.prog (.pointer none) St.empty op k n x = (trialUnP Tryz.prog (.pointer none) St.empty op k n x).dup := by kernel_rfl
theorem un_zero (op k n : Int) (x : ByteArray) : trialUnP Tryz.prog (.pointer (some ⟨0, 0, none⟩)) (St.empty.new (.cells zState 57 false)) op k n x = (trialUnP Tryz.prog (.pointer (some ⟨0, 0, none⟩)) (St.empty.new (.cells zState 57 false)) op k n x).dup := by kernel_rfl

/-- What is known: whether an act is long; that a sign makes nothing where there is no state. -/
def orc18 (both : FuncId → Nat → Bool) : Orc M := ⟨fun f args s => match Nat.beq f 11 with
  | true => (match args.toList with
    | [] => some (.bool true)
    | _ => none)
  | false => match Nat.beq f 10 with
  | true => (match args.toList with
    | [.agg cs] => (match cs.toList with
      | [.int .i64 _, .int .i64 _, .int .i64 _, .string a3, .int .i64 _, .int .i64 _, .string x4, .int .i64 _, .int .i64 _, .string x5, .int .i64 _, .int .i64 _, .string x6] => some (.bool (long18 a3 x4 x5 x6))
      | _ => none)
    | _ => none)
  | false => match Nat.beq f 14 with
    | false => none
    | true => (match args.toList with
      | [.pointer none, .int .i64 _, .agg cs] => (match cs.toList with
        | [.int .i64 _, .int .i64 _, .string _] => some noUn
        | _ => none)
      | [.pointer (some p), .int .i64 _, .agg cs] => (match cs.toList with
        | [.int .i64 _, .int .i64 _, .string _] => if p.off = 0 ∧ p.spot = none then (match s.at' p.block with
          | some (.cells vs t _) => if (Nat.beq t 57 && Nat.beq vs.length zState.length && (vs.zip zState).all fun x => eqV 6 x.1 x.2) = true then some noUn else none
          | _ => none) else none
        | _ => none)
      | _ => none), both⟩

theorem orc18_ok (both : FuncId → Nat → Bool) : OrcOk (M := M) Tryz.prog w0 (orc18 both) := by
  intro f args s v h
  unfold orc18 at h
  simp only at h
  split at h
  · rename_i hf
    have hf := Nat.eq_of_beq_eq_true hf
    subst hf
    split at h
    case h_2 => cases h
    rename_i ha
    cases h
    have : args = #[] := Array.ext' ha
    subst this
    exact works18_spec ⟨rfl, rfl⟩
  split at h
  · rename_i hf
    have hf := Nat.eq_of_beq_eq_true hf
    subst hf
    split at h
    case h_2 => cases h
    rename_i cs ha
    split at h
    case h_2 => cases h
    rename_i a0 a1 a2 a3 k4 n4 x4 k5 n5 x5 k6 n6 x6 hc
    cases h
    have hcs : cs = #[.int .i64 a0, .int .i64 a1, .int .i64 a2, .string a3, .int .i64 k4, .int .i64 n4, .string x4, .int .i64 k5, .int .i64 n5, .string x5, .int .i64 k6, .int .i64 n6, .string x6] := Array.ext' hc
    subst hcs
    have : args = ⟨[vAct18 a0 a1 a2 a3 k4 n4 x4 k5 n5 x5 k6 n6 x6]⟩ := Array.ext' ha
    subst this
    exact ccalls_ro0 (l0 := [vAct18 a0 a1 a2 a3 k4 n4 x4 k5 n5 x5 k6 n6 x6]) (fun w0 => long18_spec fun _ => rfl) rfl ⟨.inl ⟨rfl, rfl⟩, trivial⟩
  · split at h
    · cases h
    · rename_i hf
      have hf := Nat.eq_of_beq_eq_true hf
      subst hf
      split at h
      · rename_i op cs ha
        split at h
        case h_2 => cases h
        rename_i k n x hc
        cases h
        have hcs : cs = #[.int .i64 k, .int .i64 n, .string x] := Array.ext' hc
        subst hcs
        have : args = ⟨[.pointer none, .int .i64 op, vA k n x]⟩ := Array.ext' ha
        subst this
        exact ccalls_ro0 (l0 := [.pointer none, .int .i64 op, vA k n x]) (trialUn_spec (un_nil op k n x)) (by kernel_rfl) ⟨.inl ⟨rfl, rfl⟩, .inl ⟨rfl, rfl⟩, .inl ⟨rfl, rfl⟩, trivial⟩
      · rename_i p op cs ha
        split at h
        case h_2 => cases h
        rename_i k n x hc
        split at h
        case isFalse => cases h
        rename_i hp
        split at h
        case h_2 => cases h
        rename_i vs t own hat
        split at h
        case isFalse => cases h
        rename_i hz
        cases h
        simp only [Bool.and_eq_true] at hz
        obtain ⟨⟨h1, h2⟩, h3⟩ := hz
        have h1 := Nat.eq_of_beq_eq_true h1
        have h2 := Nat.eq_of_beq_eq_true h2
        subst h1
        have hvs : vs = zState := zip_eq (eqV_sound 6) vs zState h2 h3
        subst hvs
        have hcs : cs = #[.int .i64 k, .int .i64 n, .string x] := Array.ext' hc
        subst hcs
        obtain ⟨b, off, spot⟩ := p
        obtain ⟨rfl, rfl⟩ := hp
        have : args = ⟨[.pointer (some ⟨b, 0, none⟩), .int .i64 op, vA k n x]⟩ := Array.ext' ha
        subst this
        exact ccalls_ro1 (l0 := [.int .i64 op, vA k n x]) hat (trialUn_spec (un_zero op k n x)) (by kernel_rfl) (by kernel_rfl) ⟨.inl ⟨rfl, rfl⟩, .inl ⟨rfl, rfl⟩, trivial⟩
      · cases h
end

end Go.Proofs.Tryz
