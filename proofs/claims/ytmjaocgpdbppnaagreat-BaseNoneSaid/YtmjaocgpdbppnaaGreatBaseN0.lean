/- The walk of the law on machines that are not there: the kernel reckons it whole, both ways where its argument decides. A lemma file: no statement of its own. -/
import Derived.Test.YtmjaocgpdbppnaaGreatFacts
import Derived.Test.YtmjaocgpdbppnaaGreatTypes
import Derived.Test.YtmjaocgpdbppnaaGreatFwF
set_option linter.unusedSimpArgs false
set_option linter.unusedVariables false
set_option maxRecDepth 100000
namespace Go.Proofs.Tryz
open Go.Cs
open Go.RowKit (Below)

/-- Where both ways are gone. -/
def both19 (f : FuncId) (t : Nat) : Bool := Nat.beq f 5 && Nat.beq t 56

theorem baseNone_run (g : Int) (a1 a2 : Option Addr) (n1 c1 n2 c2 : Nat) :
    trialF Tryz.prog both19 2 5 #[.agg #[.int .i64 g, .slice a1 n1 c1, .slice a2 n2 c2]] = (trialF Tryz.prog both19 2 5 #[.agg #[.int .i64 g, .slice a1 n1 c1, .slice a2 n2 c2]]).dup := by kernel_rfl

theorem cells19 : Tryz.prog.cellTypes Tryz.prog.depth 78 = some [3, 26, 76] := by kernel_rfl

theorem baseNone_walk {W : World} {b0 : Nat} {v : Value} (hval : Value.okWide Tryz.prog W .any b0 78 v) : Calls Tryz.prog 5 #[v] W fun e w' => e = .returned (.bool true) ∧ Below W.heap.size W w' := by
  have hval : ∃ cs, v = .agg cs ∧ cs.size = Tryz.prog.cellsOf 78 ∧ Row.okWide Tryz.prog W .any b0 78 cs := by
    unfold Value.okWide at hval
    rw [underlying78] at hval
    exact hval
  obtain ⟨cs, rfl, hsz, ts, hts, _, hcell⟩ := hval
  rw [cells19] at hts
  cases hts
  have hsz : cs.size = 3 := hsz.trans ce78
  obtain ⟨l⟩ := cs
  match l, hsz with
  | [v0, v1, v2], _ =>
    obtain ⟨u0, e0, h0⟩ := hcell 0 v0 rfl
    obtain ⟨u1, e1, h1⟩ := hcell 1 v1 rfl
    obtain ⟨u2, e2, h2⟩ := hcell 2 v2 rfl
    cases e0; cases e1; cases e2
    obtain ⟨g, rfl⟩ : ∃ g, v0 = .int .i64 g := by
      unfold Cell.okWide at h0
      rw [underlying3] at h0
      unfold Cell.ok at h0
      rw [underlying3] at h0
      cases v0 with
      | int k n => exact ⟨n, by rw [show k = .i64 from h0.1]⟩
      | _ => exact h0.elim
    obtain ⟨a1, n1, c1, o1, hb1, hr1⟩ := open_far underlying26 h1
    obtain ⟨a2, n2, c2, o2, hb2, hr2⟩ := open_far underlying76 h2
    refine calls_trialF hmix (L := [o1, o2]) ?_ ?_ (baseNone_run g (a1 0) (a2 1) n1 c1 n2 c2)
    · intro b hb
      simp only [List.mem_cons, List.mem_nil_iff, or_false] at hb
      rcases hb with hb | hb
      · exact hb1 b hb.symm
      · exact hb2 b hb.symm
    · have q1 := hr1 (farRen [o1, o2]) 0 (fun b hb => by subst hb; rfl)
      have q2 := hr2 (farRen [o1, o2]) 1 (fun b hb => by subst hb; rfl)
      refine ⟨rfl, fun i hi => ?_⟩
      have : i = 0 := by simp at hi; exact hi
      subst this
      refine .agg rfl fun k hk => ?_
      have : k = 0 ∨ k = 1 ∨ k = 2 := by simp at hk; omega
      rcases this with rfl | rfl | rfl
      · exact .int _ _
      · exact q1
      · exact q2
end Go.Proofs.Tryz
