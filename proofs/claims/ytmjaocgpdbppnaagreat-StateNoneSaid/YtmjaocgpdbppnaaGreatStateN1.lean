/- The walk of the law on states that are not there, put together. A lemma file: no statement of its own. -/
import Derived.Test.YtmjaocgpdbppnaaGreatStateN0
set_option linter.unusedSimpArgs false
set_option linter.unusedVariables false
set_option maxRecDepth 100000
namespace Go.Proofs.Tryz
open Go.Cs
open Go.RowKit (Below)

/-- Where both ways are gone. -/
def both18 (f : FuncId) (t : Nat) : Bool := (Nat.beq f 4 && Nat.beq t 18) || (Nat.beq f 16 && Nat.beq t 6)

def trial18P (P : Program) (v : Value) : Res := ecallT (M := AL) P (orc18 both18) 400 (.fn 4) #[v] St.empty fun v _ => match v with | .bool b => .of b | _ => .no

theorem stateNone_run (a0 a1 a2 : Int) (a3 : ByteArray) (k4 n4 : Int) (x4 : ByteArray) (k5 n5 : Int) (x5 : ByteArray) (k6 n6 : Int) (x6 : ByteArray) :
    trial18P Tryz.prog (vAct18 a0 a1 a2 a3 k4 n4 x4 k5 n5 x5 k6 n6 x6) = (trial18P Tryz.prog (vAct18 a0 a1 a2 a3 k4 n4 x4 k5 n5 x5 k6 n6 x6)).dup := by kernel_rfl

theorem stateNone_walk {a0 a1 a2 : Int} {a3 : ByteArray} {k4 n4 : Int} {x4 : ByteArray} {k5 n5 : Int} {x5 : ByteArray} {k6 n6 : Int} {x6 : ByteArray}
    (_ : (Lit.int .i64 a0).wf = true) (_ : (Lit.int .i64 a1).wf = true) (_ : (Lit.int .i64 a2).wf = true) (_ : a3.size ≤ maxLen) (_ : (Lit.int .i64 k4).wf = true) (_ : (Lit.int .i64 n4).wf = true) (_ : x4.size ≤ maxLen)
    (_ : (Lit.int .i64 k5).wf = true) (_ : (Lit.int .i64 n5).wf = true) (_ : x5.size ≤ maxLen) (_ : (Lit.int .i64 k6).wf = true) (_ : (Lit.int .i64 n6).wf = true) (_ : x6.size ≤ maxLen) (w : World) :
    Calls Tryz.prog 4 #[vAct18 a0 a1 a2 a3 k4 n4 x4 k5 n5 x5 k6 n6 x6] w fun e w' => e = .returned (.bool true) ∧ Below w.heap.size w w' := by
  refine calls_plain (by kernel_rfl) (CCalls.mono (ecallT_sound (w0 := w) hmix (orc18_ok (M := AL) both18) 400 (.fn 4) _ _ _ (Res.holds_dup _ (stateNone_run a0 a1 a2 a3 k4 n4 x4 k5 n5 x5 k6 n6 x6))) fun v s' hk => ?_)
  split at hk
  · rw [Res.of_holds] at hk; rw [hk]
  · exact hk.elim
end Go.Proofs.Tryz
