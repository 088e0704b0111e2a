/- Proved here: the law HeapSets returns true at all its inputs, and leaves its arguments as they are. No conditions. -/
import Derived.Test.YtakgfhdaimeafaaGreatRows
import Derived.WalkKit
import Derived.ProofKit
import Derived.OpenShut
import Derived.ChangeMaps5
import Derived.Test.YtakgfhdaimeafaaGreatqHT1
import Derived.WideKeyArgs
import Derived.Test.YtakgfhdaimeafaaGreatqAct12
import Derived.Test.YtakgfhdaimeafaaGreatqRowA12
set_option linter.unusedSimpArgs false
set_option linter.unusedVariables false
namespace Go.Proofs.YtakgfhdaimeafaaGreat.heapSets
open Go.ChangeShapes Go.WideShapes Go.ChangeAt Go.RowKit Go.ChangeMaps
theorem own : ownKnob Tryz.prog.godebug = none := by kernel_rfl
set_option maxRecDepth 100000 in
theorem lifted (os : Os) (started : os.Started) (H : Type) (enc : TypeId × Value → H) :
    ReturnsInHanded {} Tryz.checked os 4 .any (Rows.heapSetsSpec.pre6 enc Tryz.prog Tryz.f4 Rows.heapSetsRow.domain false) (Rows.heapSetsSpec.post enc Tryz.prog Tryz.f4 false true false false) := by
  refine returnsInHanded_of_change (C := Tryz.checked) own started (by kernel_rfl) Tryz.func4
    (ChangeSpec.witness6 (enc := enc) (C := Tryz.checked) false ⟨#[], #[.slice none 0 0, .agg #[.int .i64 0, .int .i64 0, .int .i64 0, .string (ByteArray.mk #[]), .int .i64 0, .int .i64 0, .string (ByteArray.mk #[])], .agg #[.int .i64 0, .int .i64 0, .int .i64 0, .string (ByteArray.mk #[]), .int .i64 0, .int .i64 0, .string (ByteArray.mk #[])]], []⟩ 8 (by kernel_rfl) (by kernel_rfl) (by kernel_rfl) (by kernel_rfl)) ?_
  intro W base args ds gs before hval0 hW hcnd _
  have hval : ∀ (j : Nat) t v, Tryz.f4.params[j]? = some t → args[j]? = some v → Value.okWide Tryz.prog W .any base t v := hval0
  have hW' := hW
  obtain ⟨p, q, hA0, hV, rfl, hfz, hnd⟩ := hW
  have hA : DataW.TrodAll enc Tryz.prog W 0 (fun _ => true) true Tryz.f4.params.toList args.toList ds p := hA0
  rw [Tryz.params4] at hA hval
  obtain ⟨v0, vs0, d0, ds0, p0, q0, hargs, rfl, rfl, h0, r0⟩ := trodAll_cons hA
  obtain ⟨v1, vs1, d1, ds1, p1, q1, rfl, rfl, rfl, h1, r1⟩ := trodAll_cons r0
  obtain ⟨v2, vs2, d2, ds2, p2, q2, rfl, rfl, rfl, h2, r2⟩ := trodAll_cons r1
  obtain ⟨rfl, rfl, rfl⟩ := trodAll_nil r2
  obtain rfl : args = #[v0, v1, v2] := by cases args; simp_all
  obtain ⟨rfl, rfl⟩ := trodVars_none hV
  obtain ⟨A0, us0, c0, oi0, a0, hr0, hv0, hk0, ht0, hl0⟩ := Tryz.open_acts (hval 0 22 v0 rfl rfl) h0
  obtain ⟨b1_0, b1_1, b1_2, b1_3, b1_4k, b1_4n, b1_4x, rfl, rfl, rfl, w1_0, w1_1, w1_2, w1_3, w1_4k, w1_4n, w1_4x⟩ := Tryz.open_Act12 (hval 1 32 v1 rfl rfl) h1
  obtain ⟨b2_0, b2_1, b2_2, b2_3, b2_4k, b2_4n, b2_4x, rfl, rfl, rfl, w2_0, w2_1, w2_2, w2_3, w2_4k, w2_4n, w2_4x⟩ := Tryz.open_Act12 (hval 2 32 v2 rfl rfl) h2
  clear hA0 hval0
  refine (Tryz.heapSets_walk hr0 hv0 hk0 ht0 hl0 w1_0 w1_1 w1_2 w1_3 w1_4k w1_4n w1_4x w2_0 w2_1 w2_2 w2_3 w2_4k w2_4n w2_4x).mono fun e W' ⟨he, hB⟩ => ?_
  subst he
  exact ⟨_, rfl, Go.Cs.post_of_below (pa := _) (pv := []) hW' (fun _ _ _ => (trodAll_cons_mk (shut_bool Tryz.underlying4 _) trodAll_mk0)) (fun sp hsp => (trodAll_cons_mk (WideElems.Trod_stays (by kernel_rfl) (by kernel_rfl) (of_decide_eq_true (by kernel_rfl)) h0 (fun z hz => hB.same (hW'.lt z (by simp [hz]))) (fun z hz => hsp z (by simp [hz]))) (trodAll_cons_mk (Tryz.shut_Act12 w1_0 w1_1 w1_2 w1_3 w1_4k w1_4n w1_4x) (trodAll_cons_mk (Tryz.shut_Act12 w2_0 w2_1 w2_2 w2_3 w2_4k w2_4n w2_4x) trodAll_mk0)))) (fun _ _ => rfl) (by simp) (hB.frame _)⟩
theorem over : Rows.heapSetsRow.holds Tryz.pinned (OpenSpec.ofChange Rows.heapSetsSpec) :=
  OpenClaim.holds_of_wide 4 Tryz.f4 rfl rfl rfl rfl rfl rfl rfl ⟨rfl, rfl, rfl, rfl, rfl⟩ rfl rfl rfl rfl rfl (by kernel_rfl) Tryz.func4 (by kernel_rfl)
    (of_decide_eq_true (by kernel_rfl)) (by unfold Func.isWrapper; first | (rw [if_pos (by decide +kernel)]; kernel_rfl) | (rw [if_neg (by decide +kernel)]; exact ⟨rfl, rfl⟩))
    (fun os started H enc _ => lifted os started H enc)
theorem proved : Rows.HeapSetsSaid := over
#print axioms proved
end Go.Proofs.YtakgfhdaimeafaaGreat.heapSets
