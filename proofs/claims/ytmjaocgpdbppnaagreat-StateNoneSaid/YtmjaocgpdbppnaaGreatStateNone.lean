/- Proved here: the law StateNone returns true at all its inputs, and leaves its arguments as they are. No conditions. -/
import Derived.Test.YtmjaocgpdbppnaaGreatRows
import Derived.WalkKit
import Derived.ProofKit
import Derived.OpenShut
import Derived.ChangeMaps5
import Derived.Test.YtmjaocgpdbppnaaGreatStateN1
import Derived.Test.YtmjaocgpdbppnaaGreatAct18
set_option linter.unusedSimpArgs false
set_option linter.unusedVariables false
namespace Go.Proofs.YtmjaocgpdbppnaaGreat.stateNone
open Go.ChangeShapes Go.WideShapes Go.ChangeAt Go.RowKit Go.ChangeMaps

theorem own : ownKnob Tryz.prog.godebug = none := by kernel_rfl

set_option maxRecDepth 100000 in
theorem lifted (os : Os) (started : os.Started) (H : Type) (enc : TypeId × Value → H) :
    ReturnsInHanded {} Tryz.checked os 4 .any (Rows.stateNoneSpec.pre6 enc Tryz.prog Tryz.f4 Rows.stateNoneRow.domain false) (Rows.stateNoneSpec.post enc Tryz.prog Tryz.f4 false true false false) := by
  refine returnsInHanded_of_change (C := Tryz.checked) own started (by kernel_rfl) Tryz.func4
    (ChangeSpec.witness6 (enc := enc) (C := Tryz.checked) false ⟨#[], #[.agg #[.int .i64 0, .int .i64 0, .int .i64 0, .string (ByteArray.mk #[]), .int .i64 0, .int .i64 0, .string (ByteArray.mk #[]), .int .i64 0, .int .i64 0, .string (ByteArray.mk #[]), .int .i64 0, .int .i64 0, .string (ByteArray.mk #[])]], []⟩ 8 (by kernel_rfl) (by kernel_rfl) (by kernel_rfl) (by kernel_rfl)) ?_
  intro W base args ds gs before hval0 hW hcnd _
  have hval : ∀ (j : Nat) t v, Tryz.f4.params[j]? = some t → args[j]? = some v → Value.okWide Tryz.prog W .any base t v := hval0
  have hW' := hW
  obtain ⟨p, q, hA0, hV, rfl, hfz, hnd⟩ := hW
  have hA : DataW.TrodAll enc Tryz.prog W 0 (fun _ => true) true Tryz.f4.params.toList args.toList ds p := hA0
  rw [Tryz.params4] at hA hval
  obtain ⟨v0, vs0, d0, ds0, p0, q0, hargs, rfl, rfl, h0, r0⟩ := trodAll_cons hA
  obtain ⟨rfl, rfl, rfl⟩ := trodAll_nil r0
  obtain rfl : args = #[v0] := by cases args; simp_all
  obtain ⟨rfl, rfl⟩ := trodVars_none hV
  obtain ⟨b0_0, b0_1, b0_2, b0_3, b0_4k, b0_4n, b0_4x, b0_5k, b0_5n, b0_5x, b0_6k, b0_6n, b0_6x, rfl, rfl, rfl, w0_0, w0_1, w0_2, w0_3, w0_4k, w0_4n, w0_4x, w0_5k, w0_5n, w0_5x, w0_6k, w0_6n, w0_6x⟩ := Tryz.open_Act18 (hval 0 44 v0 rfl rfl) h0
  clear hA0 hval0
  simp only [List.append_nil] at hW'
  refine (Tryz.stateNone_walk w0_0 w0_1 w0_2 w0_3 w0_4k w0_4n w0_4x w0_5k w0_5n w0_5x w0_6k w0_6n w0_6x W).mono fun e W' ⟨he, hB⟩ => ?_
  subst he
  exact ⟨_, rfl, Go.Cs.post_of_below (pa := []) (pv := []) hW' (fun _ _ _ => (trodAll_cons_mk (shut_bool Tryz.underlying4 _) trodAll_mk0)) (fun sp _ => (trodAll_cons_mk (Tryz.shut_Act18 w0_0 w0_1 w0_2 w0_3 w0_4k w0_4n w0_4x w0_5k w0_5n w0_5x w0_6k w0_6n w0_6x) trodAll_mk0)) (fun _ _ => rfl) rfl (hB.frame _)⟩

theorem over : Rows.stateNoneRow.holds Tryz.pinned (OpenSpec.ofChange Rows.stateNoneSpec) :=
  OpenClaim.holds_of_wide 4 Tryz.f4 rfl rfl rfl rfl rfl rfl rfl ⟨rfl, rfl, rfl, rfl, rfl⟩ rfl rfl rfl rfl rfl (by kernel_rfl) Tryz.func4 (by kernel_rfl)
    (of_decide_eq_true (by kernel_rfl)) (by unfold Func.isWrapper; first | (rw [if_pos (by decide +kernel)]; kernel_rfl) | (rw [if_neg (by decide +kernel)]; exact ⟨rfl, rfl⟩))
    (fun os started H enc _ => lifted os started H enc)

/-- The statement. -/
theorem proved : Rows.StateNoneSaid := over
#print axioms proved
end Go.Proofs.YtmjaocgpdbppnaaGreat.stateNone
