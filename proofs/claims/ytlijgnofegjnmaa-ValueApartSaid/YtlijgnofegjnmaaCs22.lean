/- From the clean memory to the program's own world. A lemma file: no statement of its own. -/
import Derived.Test.YtlijgnofegjnmaaCs21
import Derived.ProofKit
import Derived.OpenShut
set_option linter.unusedSimpArgs false
set_option linter.unusedVariables false
namespace Go.Cs
open Go.RowKit (Below)

theorem rel_plain {ρ : Ren} {args : Array Value} (hp : (args.toList.all (plain 6)) = true) : VsRel ρ args args :=
  ⟨rfl, fun i hi => VRel.of_plain 6 (List.all_eq_true.1 hp _ (by simp [Array.mem_toList_iff, Array.getD, hi]))⟩

/-- A law of plain arguments that holds over the empty clean memory holds in any world. -/
theorem calls_plain {P : Program} {f : FuncId} {args : Array Value} (hp : (args.toList.all (plain 6)) = true) {w : World} (h : CCalls (M := AL) P w f args St.empty fun v _ => v = .bool true) :
    Calls P f args w fun e w' => e = .returned (.bool true) ∧ Below w.heap.size w w' := by
  refine (h _ w args (Rel.empty w) (rel_plain hp)).mono ?_
  rintro e w' ⟨v, s', ρ', v', rfl, rfl, hv, hR, _⟩
  exact ⟨by rw [hv.bool_inv], hR.below⟩

open Go.ChangeShapes Go.WideShapes Go.ChangeAt in
/-- What a law's call leaves: a true word, and all that was there as it was. -/
theorem post_of_below {H : Type} {enc : TypeId × Value → H} {P : Program} {f : Func} {s : ChangeSpec} {apart fresh handsOn : Bool} {W W' : World} {args : Array Value} {v : Value} {ds gs : List (DataW H)} {before pa pv : List MemPlace}
    (hW : DataW.Whole enc P f.params.toList s.vars apart W args.toList ds gs before)
    (hres : ∀ (b : Nat) (sp : Nat → Bool) (hd : Bool), DataW.TrodAll enc P W' b sp hd f.resultTypes.toList (v.resultList f.resultTypes.size) (s.fn H (ds ++ gs)).results [])
    (hargs : ∀ sp : Nat → Bool, (∀ p ∈ before, sp p.block = true) → DataW.TrodAll enc P W' 0 sp true f.params.toList args.toList (s.fn H (ds ++ gs)).args pa)
    (hvars : ∀ sp : Nat → Bool, (∀ p ∈ before, sp p.block = true) → DataW.TrodVars enc P W' sp s.vars (s.fn H (ds ++ gs)).vars pv)
    (hps : before = pa ++ pv) (hk : W.keptBut W' (· ∈ before)) : s.post enc P f apart fresh handsOn false W args v W' := by
  have hold : ∀ p ∈ before, (fun b => decide (b < W.heap.size)) p.block = true := fun p hp => by simpa using hW.lt p hp
  refine ⟨ds, gs, before, [], pa, pv, hW, hres _ _ _, hargs _ hold, hvars _ hold, World.keptBut_mono (fun p hp => ⟨hp, ?_⟩) hk, fun h => by cases h⟩
  rw [hps, List.mem_append] at hp
  exact Or.inr hp

theorem fits_i64 {n : Int} (h : (Lit.int .i64 n).wf = true) : -9223372036854775808 ≤ n ∧ n ≤ 9223372036854775807 := by
  simp only [Lit.wf, Bool.and_eq_true, decide_eq_true_eq] at h
  exact h
end Go.Cs
