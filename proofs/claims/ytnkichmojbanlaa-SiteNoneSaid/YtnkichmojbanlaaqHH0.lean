/- Heaps that differ in shapes alone, in plain Lean. A lemma file: no statement of its own. -/
import Derived.Test.YtnkichmojbanlaaqHPN
set_option linter.unusedSimpArgs false
set_option linter.unusedVariables false
set_option linter.unusedSectionVars false
namespace Go.Proofs.Try
open Go.Cs
set_option maxRecDepth 100000
structure Sim (H G : Hp) : Prop where
  len : H.obs.length = G.obs.length
  obs : ∀ (i : Nat) (a b : Ob), H.obs[i]? = some a → G.obs[i]? = some b → a.L = b.L ∧ a.proto = b.proto ∧ a.epoch = b.epoch
  mo : H.maxO = G.maxO
  mp : H.maxP = G.maxP
theorem Sim.so {H G : Hp} (h : Sim H G) {i : Int} {a : Ob} (ha : obAt H i = some a) : ∃ b, obAt G i = some b ∧ a.L = b.L ∧ a.proto = b.proto ∧ a.epoch = b.epoch := by
  obtain ⟨j, rfl, hj, hoj⟩ := obAt_some ha
  have hb : G.obs[j]? = some (G.obs[j]'(by have := h.len; omega)) := List.getElem?_eq_getElem _
  exact ⟨_, by rw [obAt_get]; exact hb, h.obs j a _ hoj hb⟩
theorem Sim.no {H G : Hp} (h : Sim H G) {i : Int} (ha : obAt H i = none) : obAt G i = none := by
  rw [obAt_none] at ha ⊢
  rw [← h.len]; exact ha
theorem Sim.proto {H G : Hp} (h : Sim H G) (i : Int) : protoV H i = protoV G i := by
  unfold protoV
  cases ha : obAt H i with
  | none => rw [h.no ha]
  | some a => obtain ⟨b, hb, _, h2, _⟩ := h.so ha; rw [hb]; simp only; rw [h2]
theorem Sim.epoch {H G : Hp} (h : Sim H G) (i : Int) : epochV H i = epochV G i := by
  unfold epochV
  cases ha : obAt H i with
  | none => rw [h.no ha]
  | some a => obtain ⟨b, hb, _, _, h2⟩ := h.so ha; rw [hb]; simp only; rw [h2]
theorem Sim.get {H G : Hp} (h : Sim H G) {x : ByteArray} {i : Int} {v : V3} (hg : GetR H x i v) : GetR G x i v := by
  induction hg with
  | none ha => exact .none (h.no ha)
  | own ha hv => obtain ⟨b, hb, h1, _⟩ := h.so ha; exact .own hb (by rw [← h1]; exact hv)
  | up ha hv _ ih => obtain ⟨b, hb, h1, h2, _⟩ := h.so ha; exact .up hb (by rw [← h1]; exact hv) (by rw [← h2]; exact ih)
theorem Sim.symm {H G : Hp} (h : Sim H G) : Sim G H :=
  ⟨h.len.symm, fun i a b ha hb => by obtain ⟨h1, h2, h3⟩ := h.obs i b a hb ha; exact ⟨h1.symm, h2.symm, h3.symm⟩, h.mo.symm, h.mp.symm⟩
theorem Sim.on {H G : Hp} (h : Sim H G) {o p : Int} {b : Bool} (hr : OnR H o p b) : OnR G o p b := by
  induction hr with
  | here => exact .here
  | zero h0 => exact .zero h0
  | up h0 h1 _ ih => rw [h.proto] at ih; exact .up h0 h1 ih
theorem Sim.onB {H G : Hp} (h : Sim H G) (o p : Int) : onB H o p = onB G o p := by
  unfold Try.onB
  by_cases h1 : OnR H o p true
  · rw [if_pos h1, if_pos (h.on h1)]
  · rw [if_neg h1, if_neg (fun h2 => h1 (h.symm.on h2))]
theorem Sim.put {H G : Hp} (h : Sim H G) {H' G' : Hp} {i : Int} {a b : Ob} (hH : H'.obs = H.obs ∧ H'.maxO = H.maxO ∧ H'.maxP = H.maxP) (hG : G'.obs = G.obs ∧ G'.maxO = G.maxO ∧ G'.maxP = G.maxP) (hab : a.L = b.L ∧ a.proto = b.proto ∧ a.epoch = b.epoch) : Sim (putO H' i a) (putO G' i b) := by
  refine ⟨by simp only [putO, List.length_set, hH.1, hG.1]; exact h.len, fun j u w hu hw => ?_, by simp only [putO, hH.2.1, hG.2.1]; exact h.mo, by simp only [putO, hH.2.2, hG.2.2]; exact h.mp⟩
  simp only [putO, hH.1, hG.1, List.getElem?_set] at hu hw
  by_cases e : i.toNat - 1 = j
  · simp only [e, if_true] at hu hw
    split at hu
    · split at hw
      · cases hu; cases hw; exact hab
      · cases hw
    · cases hu
  · simp only [e, if_false] at hu hw
    exact h.obs j u w hu hw
theorem same3 (H : Hp) : H.obs = H.obs ∧ H.maxO = H.maxO ∧ H.maxP = H.maxP := ⟨rfl, rfl, rfl⟩
theorem next3 (H : Hp) (k : Int) (x : ByteArray) : (nextH H k x).obs = H.obs ∧ (nextH H k x).maxO = H.maxO ∧ (nextH H k x).maxP = H.maxP := by
  have := next_obs H k x
  exact ⟨this.1, this.2.2.2, this.2.1⟩
theorem Sim.setE {H G : Hp} (h : Sim H G) (i : Int) (x : ByteArray) : setE H i x = setE G i x := by
  unfold Try.setE
  cases ha : obAt H i with
  | none => rw [h.no ha]
  | some a => obtain ⟨b, hb, h1, _⟩ := h.so ha; rw [hb]; simp only; rw [h1, h.mp]
theorem Sim.set {H G : Hp} (h : Sim H G) (i : Int) (x : ByteArray) (v : V3) : Sim (setH H i x v) (setH G i x v) := by
  unfold setH
  cases ha : obAt H i with
  | none => rw [h.no ha]; exact h
  | some a =>
    obtain ⟨b, hb, h1, h2, h3⟩ := h.so ha
    rw [hb]
    simp only
    rw [h1, h.mp]
    split
    · exact h.put (same3 H) (same3 G) ⟨by simp only [h1], h2, h3⟩
    · split
      · exact h
      · split <;> split
        · exact h.put (same3 H) (same3 G) ⟨rfl, h2, by simp only [h3]⟩
        · exact h.put (same3 H) (next3 G _ _) ⟨rfl, h2, by simp only [h3]⟩
        · exact h.put (next3 H _ _) (same3 G) ⟨rfl, h2, by simp only [h3]⟩
        · exact h.put (next3 H _ _) (next3 G _ _) ⟨rfl, h2, by simp only [h3]⟩
theorem Sim.makeV {H G : Hp} (h : Sim H G) : makeV H = makeV G := by
  unfold Try.makeV
  rw [h.mo, h.len]
theorem Sim.make {H G : Hp} (h : Sim H G) : Sim (makeH H) (makeH G) := by
  unfold makeH
  rw [h.mo, h.len]
  split
  · exact h
  · refine ⟨by simp [h.len], fun i a b ha hb => ?_, by first | rfl | exact h.mo, h.mp⟩
    simp only at ha hb
    by_cases hi : i < H.obs.length
    · rw [List.getElem?_append_left hi] at ha
      rw [List.getElem?_append_left (by rw [← h.len]; exact hi)] at hb
      exact h.obs i a b ha hb
    · rw [List.getElem?_append_right (by omega)] at ha
      rw [List.getElem?_append_right (by rw [← h.len]; omega)] at hb
      have h0 : i - H.obs.length = 0 := by
        have := (List.getElem?_eq_some_iff.1 ha).1
        simp at this; omega
      rw [← h.len] at hb
      rw [h0] at ha hb
      simp at ha hb
      subst ha hb
      exact ⟨rfl, rfl, rfl⟩
theorem Sim.dump {H G : Hp} (h : Sim H G) : dumpB H = dumpB G := by
  have : ∀ k, lineL H k = lineL G k := by
    intro k
    unfold lineL
    cases ha : H.obs[k]? with
    | none =>
      have : G.obs[k]? = none := by rw [List.getElem?_eq_none_iff] at ha ⊢; rw [← h.len]; exact ha
      rw [this]
    | some a =>
      have hb : G.obs[k]? = some (G.obs[k]'(by have := (List.getElem?_eq_some_iff.1 ha).1; rw [← h.len]; exact this)) := List.getElem?_eq_getElem _
      rw [hb]
      obtain ⟨h1, h2, _⟩ := h.obs k a _ ha hb
      simp only
      rw [h1, h2]
  unfold dumpB linesL
  rw [h.len]
  congr 2
  congr 1
  funext k
  exact this k
theorem Sim.new (a c n m : Int) : Sim (newH a c n) (newH a c m) := ⟨rfl, fun i a b h => by simp [newH] at h, rfl, rfl⟩
theorem HSz.put {B : Nat} {H H' : Hp} (h : HSz B H) (hH : H'.obs = H.obs) {i : Int} {a : Ob} (ha : ∀ p ∈ a.L, PSz B p) : HSz B (putO H' i a) := by
  intro j u hu
  simp only [putO, hH, List.getElem?_set] at hu
  split at hu
  · split at hu
    · cases hu; exact ha
    · cases hu
  · exact h j u hu
theorem HSz.mono {B C : Nat} {H : Hp} (h : HSz B H) (hBC : B ≤ C) : HSz C H := fun i o ho p hp => by
  obtain ⟨h1, h2, h3⟩ := h i o ho p hp
  exact ⟨by omega, by omega, h3⟩
theorem setP_mem : ∀ {L : List (ByteArray × V3)} {x : ByteArray} {v : V3} {p : ByteArray × V3}, p ∈ setP L x v → p ∈ L ∨ p = (x, v) := by
  intro L
  induction L with
  | nil => intro x v p h; simp only [setP, List.mem_cons, List.not_mem_nil, or_false] at h; exact .inr h
  | cons q L ih =>
    intro x v p h
    obtain ⟨y, w⟩ := q
    unfold setP at h
    split at h
    · rcases List.mem_cons.1 h with h | h
      · exact .inr h
      · exact .inl (List.mem_cons_of_mem _ h)
    · rcases List.mem_cons.1 h with h | h
      · exact .inl (by rw [h]; exact List.mem_cons_self)
      · rcases ih h with h | h
        · exact .inl (List.mem_cons_of_mem _ h)
        · exact .inr h
theorem HSz.at {B : Nat} {H : Hp} (h : HSz B H) {i : Int} {a : Ob} (ha : obAt H i = some a) : ∀ p ∈ a.L, PSz B p := by
  obtain ⟨j, rfl, hj, hoj⟩ := obAt_some ha
  exact h j a hoj
theorem HSz.set {B : Nat} {H : Hp} (h : HSz B H) (i : Int) {x : ByteArray} {v : V3} (hx : PSz B (x, v)) : HSz B (setH H i x v) := by
  unfold setH
  cases ha : obAt H i with
  | none => exact h
  | some a =>
    have hs : ∀ p ∈ setP a.L x v, PSz B p := fun p hp => by
      rcases setP_mem hp with hp | rfl
      · exact h.at ha p hp
      · exact hx
    simp only
    split
    · exact h.put rfl hs
    · split
      · exact h
      · split
        · exact h.put rfl hs
        · exact h.put (next_obs _ _ _).1 hs
theorem HSz.make {B : Nat} {H : Hp} (h : HSz B H) : HSz B (makeH H) := by
  unfold makeH
  split
  · exact h
  · intro j u hu
    simp only at hu
    by_cases hi : j < H.obs.length
    · rw [List.getElem?_append_left hi] at hu; exact h j u hu
    · rw [List.getElem?_append_right (by omega)] at hu
      have h0 : j - H.obs.length = 0 := by
        have := (List.getElem?_eq_some_iff.1 hu).1
        simp at this; omega
      rw [h0] at hu
      simp at hu
      subst hu
      intro p hp; cases hp
theorem HSz.new (B : Nat) (a c n : Int) : HSz B (newH a c n) := fun i o h => by simp [newH] at h
end Go.Proofs.Try
