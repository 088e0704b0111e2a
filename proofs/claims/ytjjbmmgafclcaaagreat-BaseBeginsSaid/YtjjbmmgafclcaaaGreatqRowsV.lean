/- A row of values as an argument, and where it lies. A lemma file: no statement of its own. -/
import Derived.Test.YtjjbmmgafclcaaaGreatqRowP
set_option linter.unusedSimpArgs false
set_option linter.unusedVariables false
set_option linter.unusedSectionVars false
set_option maxRecDepth 100000
namespace Go.Proofs.Tryz
open Go.Cs Go.ChangeShapes Go.WideShapes Go.ChangeAt Go.RowKit Go.ChangeMaps
theorem open_in2 {α H : Type} {enc : TypeId × Value → H} {W : World} {c m0 : Nat} {t e : TypeId} {v : Value} {y0 : DataW H × List MemPlace} (cellsA : α → List Value) (good : α → Prop) (hu : Tryz.prog.underlying t = some (.slice e)) (hc : Tryz.prog.cellsOf e = c) (hlen : ∀ a, (cellsA a).length = c)
    (hpl : ∀ a, ∀ x ∈ cellsA a, plain 6 x = true) (hc0 : 0 < c) (hel : ∀ (n : Nat) (cs : List Value) y, DataW.trod enc Tryz.prog W 0 (fun _ => true) true n e cs = some y → ∃ a, cs = cellsA a ∧ good a)
    (hf : DataW.trod enc Tryz.prog W 0 (fun _ => true) true m0 t [v] = some y0) :
    ∃ (A us : List α) (cp : Nat) (oi : Option BI) (ad : Nat → Option Addr), (∀ ρ, QIn ρ W oi (us.flatMap cellsA)) ∧ (∀ (ρ : Ren) j, ρ j = oi → VRel ρ (.slice (ad j) A.length cp) v) ∧ (∀ a ∈ A, good a) ∧ (A = [] ∨ (ad = fun j => some ⟨j, 0, none⟩) ∧ ∀ k, k < A.length → us[k]? = A[k]?) ∧ A.length ≤ 9223372036854775807 ∧ (ad = (fun _ => none) ∧ A = [] ∧ cp = 0 ∨ ad = fun j => some ⟨j, 0, none⟩) ∧ A.length ≤ cp ∧ cp < UNK := by
  have hmx : maxLen = 9223372036854775807 := by decide
  rcases DataW.trod_slice hu hf with ⟨hcs, hx⟩ | ⟨a, len, cap, elems, rest, n, _, hcs, hx, hb, hl, hm, hlen', hel', hsp, hns⟩
  · simp only [List.cons.injEq, and_true] at hcs
    subst hcs
    exact ⟨[], [], 0, none, fun _ => none, (by intro ρ i hi; cases hi), (fun ρ j _ => .nilSlice), (by simp), .inl rfl, Nat.zero_le _, .inl ⟨rfl, rfl, rfl⟩, Nat.le_refl _, by unfold UNK; omega⟩
  · simp only [List.cons.injEq, and_true] at hcs
    subst hcs
    obtain ⟨hrl, hr⟩ := hsp rfl
    have hU : cap < UNK := by unfold UNK; omega
    by_cases h0 : cap = 0
    · have hl0 : len = 0 := by omega
      subst hl0 h0
      exact ⟨[], [], 0, none, fun j => some ⟨j, 0, none⟩, (by intro ρ i hi; cases hi), (fun ρ j _ => .void), (by simp), .inl rfl, Nat.zero_le _, .inr rfl, Nat.le_refl _, by unfold UNK; omega⟩
    have hb' : ∀ i, i < cap → ∃ y, (W.cells? 0 (a.add (i * c)) c).bind (DataW.trod enc Tryz.prog W 0 (fun _ => true) true n e) = some y := by
      intro i hi
      by_cases h1 : i < len
      · have := hel' i h1
        rw [hc] at this
        exact ⟨elems[i]'(by omega), by rw [this]; simp [hlen', h1]⟩
      · have := hr (i - len) (by omega)
        rw [hc, show len + (i - len) = i by omega] at this
        exact ⟨rest[i - len]'(by omega), by rw [this]; simp⟩
    have hfirst : a.spot = none ∧ ∃ cs e' fr, W.heap[a.block]? = some (.cells cs e' fr) := by
      obtain ⟨y, hy⟩ := hb' 0 (by omega)
      obtain ⟨cs', hcs', _⟩ := Option.bind_eq_some_iff.1 hy
      obtain ⟨_, _, hcell⟩ := World.cells?_some hcs'
      have := hcell 0 hc0
      have e1 : (a.add (0 * c)).add 0 = a := by rw [Nat.zero_mul]; unfold Addr.add; simp
      rw [e1] at this
      unfold World.cell? at this
      split at this
      · rename_i cs e' fr hh
        split at this
        · rename_i hs
          exfalso
          have h5 : cs'[0]? = none := this.symm
          rw [List.getElem?_eq_none_iff] at h5
          have h6 := World.cells?_some hcs'
          omega
        · rename_i hs
          exact ⟨by simpa using hs, cs, e', fr, hh⟩
      · exfalso
        have h5 : cs'[0]? = none := this.symm
        rw [List.getElem?_eq_none_iff] at h5
        have h6 := World.cells?_some hcs'
        omega
    obtain ⟨hs1, cs, e', fr, hh⟩ := hfirst
    have ha : a = ⟨a.block, a.off, none⟩ := by cases a; simp at hs1; simp [hs1]
    have hadd : ∀ i, a.add i = ⟨a.block, a.off + i, none⟩ := by
      intro i
      unfold Addr.add
      split
      · subst_vars; exact ha
      · rfl
    have hadd2 : ∀ i k, (a.add i).add k = ⟨a.block, a.off + i + k, none⟩ := by
      intro i k
      rw [hadd]
      unfold Addr.add
      split
      · subst_vars; simp
      · rfl
    have each : ∀ i, i < cap → ∃ x, good x ∧ ∀ k, k < c → cs[a.off + i * c + k]? = (cellsA x)[k]? := by
      intro i hi
      obtain ⟨y, hy⟩ := hb' i hi
      obtain ⟨cs', hcs', hy'⟩ := Option.bind_eq_some_iff.1 hy
      obtain ⟨x, rfl, hg⟩ := hel n cs' y hy'
      obtain ⟨_, _, hcell⟩ := World.cells?_some hcs'
      refine ⟨x, hg, fun k hk => ?_⟩
      have := hcell k hk
      rw [hadd2] at this
      unfold World.cell? at this
      simp only [hh, Option.isSome_none, Bool.false_eq_true, if_false] at this
      exact this
    obtain ⟨us, hal, has⟩ : ∃ us : List α, us.length = cap ∧ ∀ i x, us[i]? = some x → good x ∧ ∀ k, k < c → cs[a.off + i * c + k]? = (cellsA x)[k]? := by
      clear hrl hr hel' hf hx hb hl hm hlen' hsp hns hU hb' h0
      induction cap with
      | zero => exact ⟨[], rfl, fun i x h => by simp at h⟩
      | succ m ih =>
        obtain ⟨us, h1, h2⟩ := ih (fun i hi => each i (by omega))
        obtain ⟨x, h3⟩ := each m (by omega)
        refine ⟨us ++ [x], by simp [h1], fun i y hy => ?_⟩
        by_cases hi : i < us.length
        · rw [List.getElem?_append_left hi] at hy; exact h2 i y hy
        · rw [List.getElem?_append_right (by omega)] at hy
          have h0 : i - us.length = 0 := by
            have := (List.getElem?_eq_some_iff.1 hy).1
            simp at this; omega
          rw [h0] at hy
          simp at hy
          subst hy
          have : i = m := by omega
          subst this; exact h3
    have hfl : ∀ (l : List α), (l.flatMap cellsA).length = l.length * c := by
      intro l
      induction l with
      | nil => simp
      | cons x l ih => rw [List.flatMap_cons, List.length_append, ih, hlen, List.length_cons, Nat.succ_mul]; omega
    have hget : ∀ (l : List α) (i k : Nat) (x : α), l[i]? = some x → k < c → (l.flatMap cellsA)[i * c + k]? = (cellsA x)[k]? := by
      intro l
      induction l with
      | nil => intro i k x h; simp at h
      | cons y l ih =>
        intro i k x h hk
        rw [List.flatMap_cons]
        cases i with
        | zero =>
          simp at h; subst h
          rw [Nat.zero_mul, Nat.zero_add, List.getElem?_append_left (by rw [hlen]; exact hk)]
        | succ i =>
          have : c ≤ (i + 1) * c + k := by rw [Nat.succ_mul]; omega
          rw [List.getElem?_append_right (by rw [hlen]; exact this), hlen, show (i + 1) * c + k - c = i * c + k by rw [Nat.succ_mul]; omega]
          exact ih i k x (by simpa using h) hk
    refine ⟨us.take len, us, cap, some ⟨a.block, a.off, 0, 0, 0⟩, fun j => some ⟨j, 0, none⟩, ?_, ?_, ?_, .inr ⟨rfl, ?_⟩, by simp; omega, .inr rfl, by simp; omega, hU⟩
    · rintro ρ i ⟨⟩
      have hsz : a.off + cap * c ≤ cs.size := by
        have h1 : us[cap - 1]? = some (us[cap - 1]'(by omega)) := List.getElem?_eq_getElem _
        have h2 := (has _ _ h1).2 (c - 1) (by omega)
        rw [List.getElem?_eq_getElem (by rw [hlen]; omega)] at h2
        have := (Array.getElem?_eq_some_iff.1 h2).1
        have e : cap * c = (cap - 1) * c + c := by
          conv => lhs; rw [show cap = (cap - 1) + 1 by omega, Nat.succ_mul]
        omega
      refine ⟨rfl, rfl, cs, e', fr, hh, by rw [hfl, hal]; exact hsz, fun k hk => ?_⟩
      rw [hfl, hal] at hk
      have hi : k / c < cap := by rw [Nat.div_lt_iff_lt_mul hc0]; exact hk
      have hk2 : k % c < c := Nat.mod_lt _ hc0
      have e : k / c * c + k % c = k := Nat.div_add_mod' k c
      have h1 : us[k / c]? = some (us[k / c]'(by omega)) := List.getElem?_eq_getElem _
      have h2 := (has _ _ h1).2 (k % c) hk2
      have h3 := hget us _ _ _ h1 hk2
      have hlt : k % c < (cellsA (us[k / c]'(by omega))).length := by rw [hlen]; exact hk2
      rw [List.getElem?_eq_getElem hlt] at h2 h3
      show VRel ρ _ (cs.getD (a.off + k) Go.undef)
      rw [show a.off + k / c * c + k % c = a.off + k by omega] at h2
      rw [e] at h3
      rw [Array.getD_eq_getD_getElem?, h2, List.getD_eq_getElem?_getD, h3]
      exact VRel.of_plain 6 (hpl _ _ (List.getElem_mem _))
    · intro ρ j hj
      have : (us.take len).length = len := by simp; omega
      rw [this]
      exact .slice ⟨_, hj, rfl, by show a = ⟨a.block, 0 + a.off, none⟩; rw [Nat.zero_add]; exact ha⟩ (.inl ⟨rfl, hU⟩)
    · intro x hx
      obtain ⟨i, hi⟩ := List.getElem?_of_mem (List.mem_of_mem_take hx)
      exact (has i x hi).1
    · intro k hk
      simp only [List.length_take] at hk
      rw [List.getElem?_take, if_pos (by omega)]
theorem open_vals2 {H : Type} {enc : TypeId × Value → H} {W : World} {r : Reach} {b0 : Nat} {v : Value} {d : DataW H} {ps : List MemPlace} (hval : Value.okWide Tryz.prog W r b0 28 v) (hd : DataW.Trod enc Tryz.prog W 0 (fun _ => true) true 28 v d ps) :
    ∃ (A us : List (Int × Int × ByteArray)) (cp : Nat) (oi : Option BI) (ad : Nat → Option Addr), (∀ ρ, QIn ρ W oi (us.flatMap valC)) ∧ (∀ (ρ : Ren) j, ρ j = oi → VRel ρ (.slice (ad j) A.length cp) v) ∧ (∀ a ∈ A, ValOk a) ∧ (A = [] ∨ (ad = fun j => some ⟨j, 0, none⟩) ∧ ∀ k, k < A.length → us[k]? = A[k]?) ∧ A.length ≤ 9223372036854775807 ∧ (ad = (fun _ => none) ∧ A = [] ∧ cp = 0 ∨ ad = fun j => some ⟨j, 0, none⟩) ∧ A.length ≤ cp ∧ cp < UNK := by
  obtain ⟨fuel, hf⟩ := hd
  obtain ⟨a, n, c, rfl⟩ := okWide_slice underlying28 hval
  exact open_in2 (c := 3) valC ValOk underlying28 ce27 (fun _ => rfl) (fun a x hx => by
    simp only [valC, List.mem_cons, List.not_mem_nil, or_false] at hx
    rcases hx with rfl | rfl | rfl <;> rfl) (by omega) el_val hf
end Go.Proofs.Tryz
