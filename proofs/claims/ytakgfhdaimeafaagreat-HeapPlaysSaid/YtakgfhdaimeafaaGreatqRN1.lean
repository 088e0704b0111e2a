/- An act on a heap, beside the document's heap that has no objects. A lemma file: no statement of its own. -/
import Derived.Test.YtakgfhdaimeafaaGreatqFwF
import Derived.Test.YtakgfhdaimeafaaGreatqRN0
import Derived.Test.YtakgfhdaimeafaaGreatqHH0
import Derived.Test.YtakgfhdaimeafaaGreatqRowA12
import Derived.Test.YtakgfhdaimeafaaGreatqVEq
import Derived.Test.YtakgfhdaimeafaaGreatqHeap0
set_option linter.unusedSimpArgs false
set_option linter.unusedVariables false
set_option linter.unusedSectionVars false
namespace Go.Proofs.Tryz
open Go.Cs
open Go.RowKit (Below)
set_option maxRecDepth 100000
attribute [local irreducible] CCalls WLoop WScope CRound WRange
noncomputable def doneH (H : Hp) (x : ActD) : Hp := if x.d = 0 then makeH H else if x.d = 1 then setH H x.a x.name x.v else if x.d = 2 then delH H x.a x.name else if x.d = 3 then protoH H x.a x.b else if x.d = 4 then putH H x.a x.b x.v else if x.d = 5 then growH H x.a x.b x.v else if x.d = 6 then nextH H x.b x.name else H
theorem HSz.put0 {B : Nat} {H : Hp} (h : HSz B H) (i k : Int) {v : V3} (hv : v.2.2.size ≤ B ∧ -9223372036854775808 ≤ v.2.1 ∧ v.2.1 ≤ 9223372036854775807) : HSz B (putH H i k v) := by
  unfold putH
  cases ha : obAt H i with
  | none => exact h
  | some a =>
    simp only
    split
    · exact h
    · split
      · split
        · rename_i x w hk
          refine h.put rfl fun p hp => ?_
          rcases List.mem_or_eq_of_mem_set hp with hp | rfl
          · exact h.at ha p hp
          · exact ⟨(h.at ha _ (List.mem_of_getElem? hk)).1, hv⟩
        · exact h
      · exact h
def TSz (B : Nat) (H : Hp) : Prop := ∀ x ∈ H.T, x.size ≤ B
theorem txt_sz {B : Nat} {T : List ByteArray} (h : ∀ x ∈ T, x.size ≤ B) (i : Nat) : (txt T i).size ≤ B := by
  unfold txt
  rw [List.getD_eq_getElem?_getD]
  cases hx : T[i - 1]? with
  | none => exact Nat.zero_le _
  | some x => exact h x (List.mem_of_getElem? hx)
theorem HSz.grow {B : Nat} {H : Hp} (h : HSz B H) (ht : TSz B H) (i to : Int) {v : V3} (hv : v.2.2.size ≤ B ∧ -9223372036854775808 ≤ v.2.1 ∧ v.2.1 ≤ 9223372036854775807) : HSz B (growH H i to v) := by
  unfold growH
  cases ha : obAt H i with
  | none => exact h
  | some a =>
    simp only
    split
    · refine h.put rfl fun p hp => ?_
      rcases List.mem_append.1 hp with hp | hp
      · exact h.at ha p hp
      · simp only [List.mem_cons, List.not_mem_nil, or_false] at hp
        subst hp
        exact ⟨txt_sz ht _, hv⟩
    · exact h
theorem ofT_sz {B : Nat} {T : List ByteArray} {x : ByteArray} (h : ∀ y ∈ T, y.size ≤ B) (hx : x.size ≤ B) : ∀ y ∈ ofT T x, y.size ≤ B := by
  intro y hy
  cases hi : idxOf T x with
  | some j => rw [ofT_some hi] at hy; exact h y hy
  | none =>
    rw [ofT_none hi] at hy
    rcases List.mem_append.1 hy with hy | hy
    · exact h y hy
    · simp only [List.mem_cons, List.not_mem_nil, or_false] at hy
      subst hy; exact hx
theorem TSz.next {B : Nat} {H : Hp} (h : TSz B H) (i : Int) {x : ByteArray} (hx : x.size ≤ B) : TSz B (nextH H i x) := by
  unfold nextH
  split
  · exact ofT_sz h hx
  · exact h
theorem TSz.set {B : Nat} {H : Hp} (h : TSz B H) (i : Int) {x : ByteArray} (v : V3) (hx : x.size ≤ B) : TSz B (setH H i x v) := by
  unfold setH
  cases ha : obAt H i with
  | none => exact h
  | some a =>
    simp only
    split
    · exact h
    · split
      · exact h
      · split
        · exact h
        · exact h.next _ hx
theorem TSz.same {B : Nat} {H G : Hp} (h : TSz B H) (hT : G.T = H.T) : TSz B G := by unfold TSz; rw [hT]; exact h
theorem del_T (H : Hp) (i : Int) (x : ByteArray) : (delH H i x).T = H.T := by
  unfold delH
  split
  · rfl
  · split <;> rfl
theorem proto_T (H : Hp) (i q : Int) : (protoH H i q).T = H.T := by
  unfold protoH
  split
  · split
    · rfl
    · split <;> rfl
  · rfl
theorem put_T (H : Hp) (i q : Int) (v : V3) : (putH H i q v).T = H.T := by
  unfold putH
  split
  · rfl
  · split
    · rfl
    · split
      · split <;> rfl
      · rfl
theorem grow_T (H : Hp) (i q : Int) (v : V3) : (growH H i q v).T = H.T := by
  unfold growH
  split
  · rfl
  · split <;> rfl
theorem make_T (H : Hp) : (makeH H).T = H.T := by unfold makeH; split <;> rfl
theorem next_obs1 (H : Hp) (i : Int) (x : ByteArray) : (nextH H i x).obs = H.obs := (next_obs H i x).1
theorem done_sz {B : Nat} {H : Hp} {x : ActD} (h : HSz B H) (ht : TSz B H) (hx : x.name.size ≤ B) (hv : x.v.2.2.size ≤ B) (ho : ActOk x) : HSz B (doneH H x) ∧ TSz B (doneH H x) := by
  obtain ⟨_, _, _, _, h1, h2⟩ := ho
  unfold doneH
  split
  · exact ⟨h.make, ht.same (make_T H)⟩
  · split
    · exact ⟨h.set _ ⟨hx, hv, h1, h2⟩, ht.set _ _ hx⟩
    · split
      · exact ⟨h.del _ _, ht.same (del_T _ _ _)⟩
      · split
        · exact ⟨h.protoH _ _, ht.same (proto_T _ _ _)⟩
        · split
          · exact ⟨h.put0 _ _ ⟨hv, h1, h2⟩, ht.same (put_T _ _ _ _)⟩
          · split
            · exact ⟨h.grow ht _ _ ⟨hv, h1, h2⟩, ht.same (grow_T _ _ _ _)⟩
            · split
              · exact ⟨fun i o hi => h i o (by rw [next_obs1] at hi; exact hi), ht.next _ hx⟩
              · exact ⟨h, ht⟩
section
variable {M : Type} [Mem M] {w0 : World} {s : St M} {R : Value → St M → Prop} {lo p N r f : Nat} {H : Hp} {O : Nat → Prop}
end
end Go.Proofs.Tryz
