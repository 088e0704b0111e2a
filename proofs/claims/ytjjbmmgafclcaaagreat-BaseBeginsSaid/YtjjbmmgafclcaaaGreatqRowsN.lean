/- Rows of structs that hold rows themselves, as arguments. A lemma file: no statement of its own. -/
import Derived.Test.YtjjbmmgafclcaaaGreatqRowsC
set_option linter.unusedSimpArgs false
set_option linter.unusedVariables false
set_option linter.unusedSectionVars false
set_option maxRecDepth 100000
namespace Go.Proofs.Tryz
open Go.Cs Go.ChangeShapes Go.WideShapes Go.ChangeAt Go.RowKit
def rowsN (c : Nat → List Value) (n : Nat) : List Value := (List.range n).flatMap c
theorem rowsN_succ (c : Nat → List Value) (n : Nat) : rowsN c (n + 1) = rowsN c n ++ c n := by
  unfold rowsN; rw [List.range_succ]; simp
theorem rowsN_len {c : Nat → List Value} {k : Nat} (hc : ∀ i, (c i).length = k) (n : Nat) : (rowsN c n).length = n * k := by
  induction n with
  | zero => simp [rowsN]
  | succ n ih => rw [rowsN_succ, List.length_append, ih, hc, Nat.succ_mul]
theorem rowsN_get {c : Nat → List Value} {k : Nat} (hc : ∀ i, (c i).length = k) {n i j : Nat} (hi : i < n) (hj : j < k) : (rowsN c n)[i * k + j]? = (c i)[j]? := by
  induction n with
  | zero => omega
  | succ n ih =>
    rw [rowsN_succ]
    by_cases h : i < n
    · have : (i + 1) * k ≤ n * k := Nat.mul_le_mul_right k h
      rw [Nat.succ_mul] at this
      rw [List.getElem?_append_left (by rw [rowsN_len hc]; omega)]
      exact ih h
    · have e : i = n := by omega
      subst e
      rw [List.getElem?_append_right (by rw [rowsN_len hc]; omega), rowsN_len hc, Nat.add_sub_cancel_left]
theorem rowsN_cut {c : Nat → List Value} {k : Nat} (hc : ∀ i, (c i).length = k) {n i : Nat} (hi : i < n) : i * k + k ≤ (rowsN c n).length ∧ List.take k (List.drop (i * k) (rowsN c n)) = c i := by
  have hb : (i + 1) * k ≤ n * k := Nat.mul_le_mul_right k hi
  rw [Nat.succ_mul] at hb
  refine ⟨by rw [rowsN_len hc]; exact hb, List.ext_getElem? fun j => ?_⟩
  rw [List.getElem?_take]
  split
  · rename_i hj
    rw [List.getElem?_drop, rowsN_get hc hi hj]
  · rename_i hj
    rw [List.getElem?_eq_none (by rw [hc]; omega)]
theorem open_rowsN {α H : Type} {enc : TypeId × Value → H} {W : World} {r : Reach} {b0 c : Nat} {t e : TypeId} {v : Value} {d : DataW H} {ps : List MemPlace} (rel : α → List Value → Prop) (hu : Tryz.prog.underlying t = some (.slice e)) (hc : Tryz.prog.cellsOf e = c) (hc0 : 0 < c)
    (hel : ∀ (n : Nat) (cs : List Value) y, DataW.trod enc Tryz.prog W 0 (fun _ => true) true n e cs = some y → ∃ a, rel a cs)
    (hval : Value.okWide Tryz.prog W r b0 t v) (hd : DataW.Trod enc Tryz.prog W 0 (fun _ => true) true t v d ps) :
    ∃ (len cp : Nat) (us : List α) (oi : Option BI) (ad : Nat → Option Addr), (∀ (ρ : Ren) (cl : Nat → List Value), (∀ i, (cl i).length = c) → (∀ i u, us[i]? = some u → ∀ cs, cs.length = c → rel u cs → ∀ k, k < c → VRel ρ ((cl i).getD k Go.undef) (cs.getD k Go.undef)) → QIn ρ W oi (rowsN cl us.length)) ∧ (∀ (ρ : Ren) j, ρ j = oi → VRel ρ (.slice (ad j) len cp) v) ∧ (len = 0 ∨ ad = fun j => some ⟨j, 0, none⟩) ∧ len ≤ us.length ∧ len ≤ 9223372036854775807 ∧ ∀ u ∈ us, ∃ cs, cs.length = c ∧ rel u cs := by
  have hmx : maxLen = 9223372036854775807 := by decide
  obtain ⟨a0, len, cap, rfl⟩ := okWide_slice hu hval
  obtain ⟨fuel, hf⟩ := hd
  rcases DataW.trod_slice hu hf with ⟨hcs, hx⟩ | ⟨a, len', cap', elems, rest, n, _, hcs, hx, hb, hl, hm, hlen', hel', hsp, hns⟩
  · have hcs : [Value.slice a0 len cap] = [.slice none 0 0] := hcs
    simp only [List.cons.injEq, Value.slice.injEq, and_true] at hcs
    obtain ⟨rfl, rfl, rfl⟩ := hcs
    exact ⟨0, 0, [], none, fun _ => none, (by intro ρ cl _ _ i hi; cases hi), (fun ρ j _ => .nilSlice), .inl rfl, Nat.zero_le _, Nat.zero_le _, fun u h => by cases h⟩
  · have hcs : [Value.slice a0 len cap] = [.slice (some a) len' cap'] := hcs
    simp only [List.cons.injEq, Value.slice.injEq, and_true] at hcs
    obtain ⟨rfl, rfl, rfl⟩ := hcs
    obtain ⟨hrl, hr⟩ := hsp rfl
    have hU : cap < UNK := by unfold UNK; have : maxLen = 9223372036854775807 := by decide
                              omega
    have hspot : a.spot = none ∧ ∃ row cells, W.shape? a.block = some (row, cells) := by
      simp only [Value.okWide, hu, Cell.okWide] at hval
      simp only [Cell.ok, hu] at hval
      obtain ⟨_, _, _, h1, row, cells, h2, _⟩ := hval
      exact ⟨h1, row, cells, h2⟩
    obtain ⟨hs1, row, cells, hs2⟩ := hspot
    have hblk : ∃ cs e' fr, W.heap[a.block]? = some (.cells cs e' fr) := by
      unfold World.shape? at hs2
      split at hs2
      · rename_i c el fr hh; exact ⟨c, el, fr, hh⟩
      · cases hs2
    obtain ⟨cs, e', fr, hh⟩ := hblk
    have ha : a = ⟨a.block, a.off, none⟩ := by cases a; simp at hs1; simp [hs1]
    have hadd : ∀ i, a.add i = ⟨a.block, a.off + i, none⟩ := by
      intro i
      unfold Addr.add
      split
      · subst_vars; exact ha
      · rfl
    have hadd2 : ∀ i k, (a.add i).add k = ⟨a.block, a.off + i + k, none⟩ := by
      intro i k
      rw [hadd]
      unfold Addr.add
      split
      · subst_vars; simp
      · rfl
    have each : ∀ i, i < cap → ∃ x l, rel x l ∧ l.length = c ∧ ∀ k, k < c → cs[a.off + i * c + k]? = l[k]? := by
      intro i hi
      have hb' : ∃ y, (W.cells? 0 (a.add (i * c)) c).bind (DataW.trod enc Tryz.prog W 0 (fun _ => true) true n e) = some y := by
        by_cases h1 : i < len
        · have := hel' i h1
          rw [hc] at this
          exact ⟨elems[i]'(by omega), by rw [this]; simp [hlen', h1]⟩
        · have := hr (i - len) (by omega)
          rw [hc, show len + (i - len) = i by omega] at this
          exact ⟨rest[i - len]'(by omega), by rw [this]; simp⟩
      obtain ⟨y, hy⟩ := hb'
      obtain ⟨cs', hcs', hy'⟩ := Option.bind_eq_some_iff.1 hy
      obtain ⟨x, hg⟩ := hel n cs' y hy'
      obtain ⟨_, hln, hcell⟩ := World.cells?_some hcs'
      refine ⟨x, cs', hg, by simpa using hln, fun k hk => ?_⟩
      have := hcell k hk
      rw [hadd2] at this
      unfold World.cell? at this
      simp only [hh, Option.isSome_none, Bool.false_eq_true, if_false] at this
      exact this
    have hall : ∃ us : List α, us.length = cap ∧ ∀ i x, us[i]? = some x → ∃ l, rel x l ∧ l.length = c ∧ ∀ k, k < c → cs[a.off + i * c + k]? = l[k]? := by
      clear hcs hrl hr hel' hval hf hx hb hl hm hlen' hsp hns hU
      induction cap with
      | zero => exact ⟨[], rfl, fun i x h => by simp at h⟩
      | succ m ih =>
        obtain ⟨us, h1, h2⟩ := ih (fun i hi => each i (by omega))
        obtain ⟨x, h3⟩ := each m (by omega)
        refine ⟨us ++ [x], by simp [h1], fun i y hy => ?_⟩
        by_cases hi : i < us.length
        · rw [List.getElem?_append_left hi] at hy; exact h2 i y hy
        · rw [List.getElem?_append_right (by omega)] at hy
          have h0 : i - us.length = 0 := by
            have := (List.getElem?_eq_some_iff.1 hy).1
            simp at this; omega
          rw [h0] at hy
          simp at hy
          subst hy
          have : i = m := by omega
          subst this; exact h3
    obtain ⟨us, hal, has⟩ := hall
    by_cases h0 : cap = 0
    · have hl0 : len = 0 := by omega
      subst hl0
      have hus : us = [] := by cases us with
        | nil => rfl
        | cons _ _ => simp at hal; omega
      subst hus
      refine ⟨0, cap, [], some ⟨a.block, 0, 0, 0, 0⟩, fun j => some ⟨j, a.off, none⟩, ?_, ?_, .inl rfl, Nat.zero_le _, Nat.zero_le _, fun u h => by cases h⟩
      · rintro ρ cl _ _ i ⟨⟩
        exact ⟨rfl, rfl, cs, e', fr, hh, by simp [rowsN], fun k hk => by simp [rowsN] at hk⟩
      · intro ρ j hj
        exact .slice ⟨_, hj, rfl, ha⟩ (.inl ⟨rfl, hU⟩)
    · refine ⟨len, cap, us, some ⟨a.block, a.off, 0, 0, 0⟩, fun j => some ⟨j, 0, none⟩, ?_, ?_, .inr rfl, by omega, by omega, fun u hu => ?_⟩
      · rintro ρ cl hcl hrel i ⟨⟩
        have hsz : a.off + cap * c ≤ cs.size := by
          have h1 : us[cap - 1]? = some (us[cap - 1]'(by omega)) := List.getElem?_eq_getElem _
          obtain ⟨l, _, hl2, h2⟩ := has _ _ h1
          have h2 := h2 (c - 1) (by omega)
          rw [List.getElem?_eq_getElem (by omega : c - 1 < l.length)] at h2
          have := (Array.getElem?_eq_some_iff.1 h2).1
          have e : cap * c = (cap - 1) * c + c := by
            conv => lhs; rw [show cap = (cap - 1) + 1 by omega, Nat.succ_mul]
          omega
        refine ⟨rfl, rfl, cs, e', fr, hh, by rw [rowsN_len hcl, hal]; exact hsz, fun k hk => ?_⟩
        rw [rowsN_len hcl, hal] at hk
        have hi : k / c < cap := by rw [Nat.div_lt_iff_lt_mul hc0]; exact hk
        have hk2 : k % c < c := Nat.mod_lt _ hc0
        have e : k / c * c + k % c = k := Nat.div_add_mod' k c
        have h1 : us[k / c]? = some (us[k / c]'(by omega)) := List.getElem?_eq_getElem _
        obtain ⟨l, hl1, hl2, h2⟩ := has _ _ h1
        have h2 := h2 (k % c) hk2
        have h3 := rowsN_get hcl (n := us.length) (i := k / c) (j := k % c) (by omega) hk2
        have h4 := hrel _ _ h1 l hl2 hl1 (k % c) hk2
        show VRel ρ _ (cs.getD (a.off + k) Go.undef)
        rw [show a.off + k / c * c + k % c = a.off + k by omega] at h2
        rw [e] at h3
        rw [Array.getD_eq_getD_getElem?, h2, List.getD_eq_getElem?_getD, h3, ← List.getD_eq_getElem?_getD, ← List.getD_eq_getElem?_getD]
        exact h4
      · intro ρ j hj
        exact .slice ⟨_, hj, rfl, by show a = ⟨a.block, 0 + a.off, none⟩; rw [Nat.zero_add]; exact ha⟩ (.inl ⟨rfl, hU⟩)
      · obtain ⟨i, hi⟩ := List.getElem?_of_mem hu
        obtain ⟨l, h1, h2, _⟩ := has i u hi
        exact ⟨l, h2, h1⟩
theorem open_in {α H : Type} {enc : TypeId × Value → H} {W : World} {c m0 : Nat} {t e : TypeId} {v : Value} {y0 : DataW H × List MemPlace} (cellsA : α → List Value) (good : α → Prop) (hu : Tryz.prog.underlying t = some (.slice e)) (hc : Tryz.prog.cellsOf e = c) (hlen : ∀ a, (cellsA a).length = c)
    (hpl : ∀ a, ∀ x ∈ cellsA a, plain 6 x = true) (hc0 : 0 < c) (hel : ∀ (n : Nat) (cs : List Value) y, DataW.trod enc Tryz.prog W 0 (fun _ => true) true n e cs = some y → ∃ a, cs = cellsA a ∧ good a)
    (hf : DataW.trod enc Tryz.prog W 0 (fun _ => true) true m0 t [v] = some y0) :
    ∃ (A us : List α) (cp : Nat) (oi : Option BI) (ad : Nat → Option Addr), (∀ ρ, QIn ρ W oi (us.flatMap cellsA)) ∧ (∀ (ρ : Ren) j, ρ j = oi → VRel ρ (.slice (ad j) A.length cp) v) ∧ (∀ a ∈ A, good a) ∧ (A = [] ∨ (ad = fun j => some ⟨j, 0, none⟩) ∧ ∀ k, k < A.length → us[k]? = A[k]?) ∧ A.length ≤ 9223372036854775807 := by
  have hmx : maxLen = 9223372036854775807 := by decide
  rcases DataW.trod_slice hu hf with ⟨hcs, hx⟩ | ⟨a, len, cap, elems, rest, n, _, hcs, hx, hb, hl, hm, hlen', hel', hsp, hns⟩
  · simp only [List.cons.injEq, and_true] at hcs
    subst hcs
    exact ⟨[], [], 0, none, fun _ => none, (by intro ρ i hi; cases hi), (fun ρ j _ => .nilSlice), (by simp), .inl rfl, Nat.zero_le _⟩
  · simp only [List.cons.injEq, and_true] at hcs
    subst hcs
    obtain ⟨hrl, hr⟩ := hsp rfl
    have hU : cap < UNK := by unfold UNK; omega
    by_cases h0 : cap = 0
    · have hl0 : len = 0 := by omega
      subst hl0 h0
      exact ⟨[], [], 0, none, fun j => some ⟨j, 0, none⟩, (by intro ρ i hi; cases hi), (fun ρ j _ => .void), (by simp), .inl rfl, Nat.zero_le _⟩
    have hb' : ∀ i, i < cap → ∃ y, (W.cells? 0 (a.add (i * c)) c).bind (DataW.trod enc Tryz.prog W 0 (fun _ => true) true n e) = some y := by
      intro i hi
      by_cases h1 : i < len
      · have := hel' i h1
        rw [hc] at this
        exact ⟨elems[i]'(by omega), by rw [this]; simp [hlen', h1]⟩
      · have := hr (i - len) (by omega)
        rw [hc, show len + (i - len) = i by omega] at this
        exact ⟨rest[i - len]'(by omega), by rw [this]; simp⟩
    have hfirst : a.spot = none ∧ ∃ cs e' fr, W.heap[a.block]? = some (.cells cs e' fr) := by
      obtain ⟨y, hy⟩ := hb' 0 (by omega)
      obtain ⟨cs', hcs', _⟩ := Option.bind_eq_some_iff.1 hy
      obtain ⟨_, _, hcell⟩ := World.cells?_some hcs'
      have := hcell 0 hc0
      have e1 : (a.add (0 * c)).add 0 = a := by rw [Nat.zero_mul]; unfold Addr.add; simp
      rw [e1] at this
      unfold World.cell? at this
      split at this
      · rename_i cs e' fr hh
        split at this
        · rename_i hs
          exfalso
          have h5 : cs'[0]? = none := this.symm
          rw [List.getElem?_eq_none_iff] at h5
          have h6 := World.cells?_some hcs'
          omega
        · rename_i hs
          exact ⟨by simpa using hs, cs, e', fr, hh⟩
      · exfalso
        have h5 : cs'[0]? = none := this.symm
        rw [List.getElem?_eq_none_iff] at h5
        have h6 := World.cells?_some hcs'
        omega
    obtain ⟨hs1, cs, e', fr, hh⟩ := hfirst
    have ha : a = ⟨a.block, a.off, none⟩ := by cases a; simp at hs1; simp [hs1]
    have hadd : ∀ i, a.add i = ⟨a.block, a.off + i, none⟩ := by
      intro i
      unfold Addr.add
      split
      · subst_vars; exact ha
      · rfl
    have hadd2 : ∀ i k, (a.add i).add k = ⟨a.block, a.off + i + k, none⟩ := by
      intro i k
      rw [hadd]
      unfold Addr.add
      split
      · subst_vars; simp
      · rfl
    have each : ∀ i, i < cap → ∃ x, good x ∧ ∀ k, k < c → cs[a.off + i * c + k]? = (cellsA x)[k]? := by
      intro i hi
      obtain ⟨y, hy⟩ := hb' i hi
      obtain ⟨cs', hcs', hy'⟩ := Option.bind_eq_some_iff.1 hy
      obtain ⟨x, rfl, hg⟩ := hel n cs' y hy'
      obtain ⟨_, _, hcell⟩ := World.cells?_some hcs'
      refine ⟨x, hg, fun k hk => ?_⟩
      have := hcell k hk
      rw [hadd2] at this
      unfold World.cell? at this
      simp only [hh, Option.isSome_none, Bool.false_eq_true, if_false] at this
      exact this
    obtain ⟨us, hal, has⟩ : ∃ us : List α, us.length = cap ∧ ∀ i x, us[i]? = some x → good x ∧ ∀ k, k < c → cs[a.off + i * c + k]? = (cellsA x)[k]? := by
      clear hrl hr hel' hf hx hb hl hm hlen' hsp hns hU hb' h0
      induction cap with
      | zero => exact ⟨[], rfl, fun i x h => by simp at h⟩
      | succ m ih =>
        obtain ⟨us, h1, h2⟩ := ih (fun i hi => each i (by omega))
        obtain ⟨x, h3⟩ := each m (by omega)
        refine ⟨us ++ [x], by simp [h1], fun i y hy => ?_⟩
        by_cases hi : i < us.length
        · rw [List.getElem?_append_left hi] at hy; exact h2 i y hy
        · rw [List.getElem?_append_right (by omega)] at hy
          have h0 : i - us.length = 0 := by
            have := (List.getElem?_eq_some_iff.1 hy).1
            simp at this; omega
          rw [h0] at hy
          simp at hy
          subst hy
          have : i = m := by omega
          subst this; exact h3
    have hfl : ∀ (l : List α), (l.flatMap cellsA).length = l.length * c := by
      intro l
      induction l with
      | nil => simp
      | cons x l ih => rw [List.flatMap_cons, List.length_append, ih, hlen, List.length_cons, Nat.succ_mul]; omega
    have hget : ∀ (l : List α) (i k : Nat) (x : α), l[i]? = some x → k < c → (l.flatMap cellsA)[i * c + k]? = (cellsA x)[k]? := by
      intro l
      induction l with
      | nil => intro i k x h; simp at h
      | cons y l ih =>
        intro i k x h hk
        rw [List.flatMap_cons]
        cases i with
        | zero =>
          simp at h; subst h
          rw [Nat.zero_mul, Nat.zero_add, List.getElem?_append_left (by rw [hlen]; exact hk)]
        | succ i =>
          have : c ≤ (i + 1) * c + k := by rw [Nat.succ_mul]; omega
          rw [List.getElem?_append_right (by rw [hlen]; exact this), hlen, show (i + 1) * c + k - c = i * c + k by rw [Nat.succ_mul]; omega]
          exact ih i k x (by simpa using h) hk
    refine ⟨us.take len, us, cap, some ⟨a.block, a.off, 0, 0, 0⟩, fun j => some ⟨j, 0, none⟩, ?_, ?_, ?_, .inr ⟨rfl, ?_⟩, by simp; omega⟩
    · rintro ρ i ⟨⟩
      have hsz : a.off + cap * c ≤ cs.size := by
        have h1 : us[cap - 1]? = some (us[cap - 1]'(by omega)) := List.getElem?_eq_getElem _
        have h2 := (has _ _ h1).2 (c - 1) (by omega)
        rw [List.getElem?_eq_getElem (by rw [hlen]; omega)] at h2
        have := (Array.getElem?_eq_some_iff.1 h2).1
        have e : cap * c = (cap - 1) * c + c := by
          conv => lhs; rw [show cap = (cap - 1) + 1 by omega, Nat.succ_mul]
        omega
      refine ⟨rfl, rfl, cs, e', fr, hh, by rw [hfl, hal]; exact hsz, fun k hk => ?_⟩
      rw [hfl, hal] at hk
      have hi : k / c < cap := by rw [Nat.div_lt_iff_lt_mul hc0]; exact hk
      have hk2 : k % c < c := Nat.mod_lt _ hc0
      have e : k / c * c + k % c = k := Nat.div_add_mod' k c
      have h1 : us[k / c]? = some (us[k / c]'(by omega)) := List.getElem?_eq_getElem _
      have h2 := (has _ _ h1).2 (k % c) hk2
      have h3 := hget us _ _ _ h1 hk2
      have hlt : k % c < (cellsA (us[k / c]'(by omega))).length := by rw [hlen]; exact hk2
      rw [List.getElem?_eq_getElem hlt] at h2 h3
      show VRel ρ _ (cs.getD (a.off + k) Go.undef)
      rw [show a.off + k / c * c + k % c = a.off + k by omega] at h2
      rw [e] at h3
      rw [Array.getD_eq_getD_getElem?, h2, List.getD_eq_getElem?_getD, h3]
      exact VRel.of_plain 6 (hpl _ _ (List.getElem_mem _))
    · intro ρ j hj
      have : (us.take len).length = len := by simp; omega
      rw [this]
      exact .slice ⟨_, hj, rfl, by show a = ⟨a.block, 0 + a.off, none⟩; rw [Nat.zero_add]; exact ha⟩ (.inl ⟨rfl, hU⟩)
    · intro x hx
      obtain ⟨i, hi⟩ := List.getElem?_of_mem (List.mem_of_mem_take hx)
      exact (has i x hi).1
    · intro k hk
      simp only [List.length_take] at hk
      rw [List.getElem?_take, if_pos (by omega)]
end Go.Proofs.Tryz
