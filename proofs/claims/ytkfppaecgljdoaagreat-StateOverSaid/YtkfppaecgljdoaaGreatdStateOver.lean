/- Proved here: the law StateOver returns true at all its inputs, and leaves its arguments as they are. No conditions. -/
import Derived.Test.YtkfppaecgljdoaaGreatdG
import Derived.Test.YtkfppaecgljdoaaGreatRows
import Derived.WalkKit
import Derived.ProofKit
import Derived.OpenShut
import Derived.ChangeMaps5
import Derived.WideKeyArgs
set_option linter.unusedSimpArgs false
set_option linter.unusedVariables false
set_option linter.unusedSectionVars false
set_option linter.defProp false
section
namespace Go.Proofs.YtkfppaecgljdoaaGreat.stateOver
open Go.ChangeShapes Go.WideShapes Go.ChangeAt Go.RowKit Go.ChangeMaps
theorem own:ownKnob Tryz.prog.godebug=none:=by kernel_rfl
set_option maxRecDepth 100000 in
theorem lifted(os:Os)(started:os.Started)(H:Type)(enc:TypeId×Value→H) :
  ReturnsInHanded {} Tryz.checked os 3 .any (Rows.stateOverSpec.pre6 enc Tryz.prog Tryz.f3 Rows.stateOverRow.domain false) (Rows.stateOverSpec.post enc Tryz.prog Tryz.f3 false true false false):=by
 refine returnsInHanded_of_change (C:=Tryz.checked) own started (by kernel_rfl) Tryz.func3
  (ChangeSpec.witness6 (enc:=enc) (C:=Tryz.checked) false ⟨#[],#[.slice none 0 0,.slice none 0 0],[]⟩ 8 (by kernel_rfl) (by kernel_rfl) (by kernel_rfl) (by kernel_rfl)) ?_
 intro W base args ds gs before hval0 hW hcnd _
 have hval:∀ (j:Nat) t v,Tryz.f3.params[j]?=some t→args[j]?=some v→Value.okWide Tryz.prog W .any base t v:=hval0
 have hW':=hW
 obtain⟨p,q,hA0,hV,rfl,hfz,hnd⟩:=hW
 have hA:DataW.TrodAll enc Tryz.prog W 0 (fun _=>true) true Tryz.f3.params.toList args.toList ds p:=hA0
 rw[Tryz.params3]at hA hval
 obtain⟨v0,vs0,d0,ds0,p0,q0,hargs,rfl,rfl,h0,r0⟩:=trodAll_cons hA
 obtain⟨v1,vs1,d1,ds1,p1,q1,rfl,rfl,rfl,h1,r1⟩:=trodAll_cons r0
 obtain⟨rfl,rfl,rfl⟩:=trodAll_nil r1
 obtain rfl:args=#[v0,v1]:=by cases args;simp_all
 obtain⟨rfl,rfl⟩:=trodVars_none hV
 obtain⟨A0,us0,c0,oi0,a0,hr0,hv0,hk0,ht0,hl0⟩:=Tryz.open_acts18 (hval 0 22 v0 rfl rfl) h0
 obtain⟨A1,us1,c1,oi1,a1,hr1,hv1,hk1,ht1,hl1⟩:=Tryz.open_acts18 (hval 1 22 v1 rfl rfl) h1
 clear hA0 hval0
 refine (Tryz.stateOver_walk hr0 hv0 hk0 ht0 hl0 hr1 hv1 hk1 ht1 hl1).mono fun e W' ⟨he,hB⟩=>?_
 subst he
 exact⟨_,rfl,Go.Cs.post_of_below (pa:=_) (pv:=[]) hW' (fun _ _ _=>(trodAll_cons_mk (shut_bool Tryz.underlying4 _) trodAll_mk0)) (fun sp hsp=>(trodAll_cons_mk (WideElems.Trod_stays (by kernel_rfl) (by kernel_rfl) (of_decide_eq_true (by kernel_rfl)) h0 (fun z hz=>hB.same (hW'.lt z (by simp[hz]))) (fun z hz=>hsp z (by simp[hz]))) (trodAll_cons_mk (WideElems.Trod_stays (by kernel_rfl) (by kernel_rfl) (of_decide_eq_true (by kernel_rfl)) h1 (fun z hz=>hB.same (hW'.lt z (by simp[hz]))) (fun z hz=>hsp z (by simp[hz]))) trodAll_mk0))) (fun _ _=>rfl) (by simp) (hB.frame _)⟩
theorem over:Rows.stateOverRow.holds Tryz.pinned (OpenSpec.ofChange Rows.stateOverSpec):=
 OpenClaim.holds_of_wide 3 Tryz.f3 rfl rfl rfl rfl rfl rfl rfl ⟨rfl,rfl,rfl,rfl,rfl⟩ rfl rfl rfl rfl rfl (by kernel_rfl) Tryz.func3 (by kernel_rfl)
  (of_decide_eq_true (by kernel_rfl)) (by unfold Func.isWrapper;first|(rw[if_pos (by decide +kernel)];kernel_rfl)|(rw[if_neg (by decide +kernel)];exact⟨rfl,rfl⟩))
  (fun os started H enc _=>lifted os started H enc)
theorem proved:Rows.StateOverSaid:=over
#print axioms proved
end Go.Proofs.YtkfppaecgljdoaaGreat.stateOver
end
