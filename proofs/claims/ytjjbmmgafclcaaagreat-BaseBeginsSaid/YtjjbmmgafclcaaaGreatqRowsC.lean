/- Rows of plain structs as arguments: a clean memory that holds them, and how such an argument is opened. A lemma file: no statement of its own. -/
import Derived.Test.YtjjbmmgafclcaaaGreatqFacts
import Derived.Test.YtjjbmmgafclcaaaGreatqTypes
import Derived.Test.YtjjbmmgafclcaaaGreatqFwF
import Derived.SliceStrings
import Derived.Carry
set_option linter.unusedSimpArgs false
set_option linter.unusedVariables false
set_option linter.unusedSectionVars false
set_option maxRecDepth 100000
namespace Go.Proofs.Tryz
open Go.Cs Go.ChangeShapes Go.WideShapes Go.ChangeAt Go.RowKit
abbrev QMem := Nat → Option Blk
def qSt (L : List (TypeId × List Value)) : St QMem := ⟨fun j => (L[j]?).map fun r => .cells r.2 r.1 false, L.length⟩
def qRen (B : List (Option BI)) : Ren := fun j => (B[j]?).join
def QIn (ρ : Ren) (w : World) (oi : Option BI) (r : List Value) : Prop :=
  ∀ i, oi = some i → i.esz = 0 ∧ i.kd = 0 ∧ ∃ cs e' fr, w.heap[i.blk]? = some (.cells cs e' fr) ∧ i.sh + r.length ≤ cs.size ∧ ∀ k, k < r.length → VRel ρ (r.getD k Go.undef) (cs.getD (i.sh + k) Go.undef)
theorem q_at (L : List (TypeId × List Value)) (b : Nat) : (qSt L).at' b = (L[b]?).map fun r => Blk.cells r.2 r.1 false := rfl
theorem rel_q {w : World} {L : List (TypeId × List Value)} {B : List (Option BI)} (hn : B.length = L.length) (h : ∀ (j : Nat) (oi : Option BI) (r : TypeId × List Value), B[j]? = some oi → L[j]? = some r → QIn (qRen B) w oi r.2) : Rel Tryz.prog w (qRen B) (qSt L) w := by
  have hget : ∀ b i, qRen B b = some i → b < L.length ∧ B[b]? = some (some i) := by
    intro b i hb
    unfold qRen at hb
    cases hc : B[b]? with
    | none => rw [hc] at hb; cases hb
    | some o =>
      rw [hc] at hb
      have := (List.getElem?_eq_some_iff.1 hc).1
      exact ⟨by omega, by cases hb; rfl⟩
  have hq : ∀ b i, qRen B b = some i → ∃ r, L[b]? = some r ∧ QIn (qRen B) w (some i) r.2 := by
    intro b i hb
    obtain ⟨h1, h2⟩ := hget b i hb
    exact ⟨L[b], by simp [h1], h b _ L[b] h2 (by simp [h1])⟩
  have hown : ∀ b B', (qSt L).at' b = some B' → B'.owned = false := by
    intro b B' hb
    rw [q_at] at hb
    obtain ⟨ss, _, rfl⟩ := Option.map_eq_some_iff.1 hb
    rfl
  refine ⟨fun b i hb => (hget b i hb).1, fun b i hb => ?_, fun b i B' hb hs => ?_, fun b i B' hb hs ho => ?_, fun b i B' b2 i2 B2 hb hs _ _ _ ho => ?_, Below.refl _ _, fun b hb => ?_, fun b i hb hk => ?_, fun b i hb hk => ?_⟩
  · obtain ⟨r, _, h2⟩ := hq b i hb
    obtain ⟨_, _, cs, e', fr, h3, _⟩ := h2 i rfl
    exact (Array.getElem?_eq_some_iff.1 h3).1
  · obtain ⟨r, h1, h2⟩ := hq b i hb
    rw [q_at, h1] at hs
    cases hs
    obtain ⟨hz, _, cs, e', fr, h3, h4, h5⟩ := h2 i rfl
    exact ⟨_, h3, cs, e', fr, rfl, h4, h5, .inl hz, fun e => by cases e⟩
  · rw [hown b B' hs] at ho; cases ho
  · rw [hown b B' hs] at ho; cases ho
  · rw [q_at, List.getElem?_eq_none (show L.length ≤ b from hb)]; rfl
  · obtain ⟨r, _, h2⟩ := hq b i hb
    rw [(h2 i rfl).2.1] at hk; cases hk
  · obtain ⟨r, _, h2⟩ := hq b i hb
    rw [(h2 i rfl).2.1] at hk; cases hk
theorem calls_q {f : FuncId} {args args' : Array Value} {w : World} {L : List (TypeId × List Value)} {B : List (Option BI)} (hn : B.length = L.length) (hr : ∀ (j : Nat) (oi : Option BI) (r : TypeId × List Value), B[j]? = some oi → L[j]? = some r → QIn (qRen B) w oi r.2)
    (hv : VsRel (qRen B) args args') (h : CCalls (M := QMem) Tryz.prog w f args (qSt L) fun v _ => v = .bool true) :
    Calls Tryz.prog f args' w fun e w' => e = .returned (.bool true) ∧ Below w.heap.size w w' := by
  refine (h _ w args' (rel_q hn hr) hv).mono ?_
  rintro e w' ⟨v, s', ρ', v', rfl, rfl, hv, hR, _⟩
  exact ⟨by rw [hv.bool_inv], hR.below⟩
theorem open_rows {α H : Type} {enc : TypeId × Value → H} {W : World} {r : Reach} {b0 c : Nat} {t e : TypeId} {v : Value} {d : DataW H} {ps : List MemPlace} (cellsA : α → List Value) (good : α → Prop) (hu : Tryz.prog.underlying t = some (.slice e)) (hc : Tryz.prog.cellsOf e = c) (hlen : ∀ a, (cellsA a).length = c)
    (hpl : ∀ a, ∀ x ∈ cellsA a, plain 6 x = true) (hc0 : 0 < c) (hel : ∀ (n : Nat) (cs : List Value) y, DataW.trod enc Tryz.prog W 0 (fun _ => true) true n e cs = some y → ∃ a, cs = cellsA a ∧ good a)
    (hval : Value.okWide Tryz.prog W r b0 t v) (hd : DataW.Trod enc Tryz.prog W 0 (fun _ => true) true t v d ps) :
    ∃ (A us : List α) (cp : Nat) (oi : Option BI) (ad : Nat → Option Addr), (∀ ρ, QIn ρ W oi (us.flatMap cellsA)) ∧ (∀ (ρ : Ren) j, ρ j = oi → VRel ρ (.slice (ad j) A.length cp) v) ∧ (∀ a ∈ A, good a) ∧ (A = [] ∨ (ad = fun j => some ⟨j, 0, none⟩) ∧ ∀ k, k < A.length → us[k]? = A[k]?) ∧ A.length ≤ 9223372036854775807 := by
  have hmx : maxLen = 9223372036854775807 := by decide
  obtain ⟨a0, len, cap, rfl⟩ := okWide_slice hu hval
  obtain ⟨fuel, hf⟩ := hd
  rcases DataW.trod_slice hu hf with ⟨hcs, hx⟩ | ⟨a, len', cap', elems, rest, n, _, hcs, hx, hb, hl, hm, hlen', hel', hsp, hns⟩
  · have hcs : [Value.slice a0 len cap] = [.slice none 0 0] := hcs
    simp only [List.cons.injEq, Value.slice.injEq, and_true] at hcs
    obtain ⟨rfl, rfl, rfl⟩ := hcs
    exact ⟨[], [], 0, none, fun _ => none, (by intro ρ i hi; cases hi), (fun ρ j _ => .nilSlice), (by simp), .inl rfl, Nat.zero_le _⟩
  · have hcs : [Value.slice a0 len cap] = [.slice (some a) len' cap'] := hcs
    simp only [List.cons.injEq, Value.slice.injEq, and_true] at hcs
    obtain ⟨rfl, rfl, rfl⟩ := hcs
    obtain ⟨hrl, hr⟩ := hsp rfl
    have hU : cap < UNK := by unfold UNK; have : maxLen = 9223372036854775807 := by decide
                              omega
    have hspot : a.spot = none ∧ ∃ row cells, W.shape? a.block = some (row, cells) := by
      simp only [Value.okWide, hu, Cell.okWide] at hval
      simp only [Cell.ok, hu] at hval
      obtain ⟨_, _, _, h1, row, cells, h2, _⟩ := hval
      exact ⟨h1, row, cells, h2⟩
    obtain ⟨hs1, row, cells, hs2⟩ := hspot
    have hblk : ∃ cs e' fr, W.heap[a.block]? = some (.cells cs e' fr) := by
      unfold World.shape? at hs2
      split at hs2
      · rename_i c el fr hh; exact ⟨c, el, fr, hh⟩
      · cases hs2
    obtain ⟨cs, e', fr, hh⟩ := hblk
    have ha : a = ⟨a.block, a.off, none⟩ := by cases a; simp at hs1; simp [hs1]
    have hadd : ∀ i, a.add i = ⟨a.block, a.off + i, none⟩ := by
      intro i
      unfold Addr.add
      split
      · subst_vars; exact ha
      · rfl
    have hadd2 : ∀ i k, (a.add i).add k = ⟨a.block, a.off + i + k, none⟩ := by
      intro i k
      rw [hadd]
      unfold Addr.add
      split
      · subst_vars; simp
      · rfl
    have each : ∀ i, i < cap → ∃ x, good x ∧ ∀ k, k < c → cs[a.off + i * c + k]? = (cellsA x)[k]? := by
      intro i hi
      have hb' : ∃ y, (W.cells? 0 (a.add (i * c)) c).bind (DataW.trod enc Tryz.prog W 0 (fun _ => true) true n e) = some y := by
        by_cases h1 : i < len
        · have := hel' i h1
          rw [hc] at this
          exact ⟨elems[i]'(by omega), by rw [this]; simp [hlen', h1]⟩
        · have := hr (i - len) (by omega)
          rw [hc, show len + (i - len) = i by omega] at this
          exact ⟨rest[i - len]'(by omega), by rw [this]; simp⟩
      obtain ⟨y, hy⟩ := hb'
      obtain ⟨cs', hcs', hy'⟩ := Option.bind_eq_some_iff.1 hy
      obtain ⟨x, rfl, hg⟩ := hel n cs' y hy'
      obtain ⟨_, _, hcell⟩ := World.cells?_some hcs'
      refine ⟨x, hg, fun k hk => ?_⟩
      have := hcell k hk
      rw [hadd2] at this
      unfold World.cell? at this
      simp only [hh, Option.isSome_none, Bool.false_eq_true, if_false] at this
      exact this
    have hall : ∃ us : List α, us.length = cap ∧ ∀ i x, us[i]? = some x → good x ∧ ∀ k, k < c → cs[a.off + i * c + k]? = (cellsA x)[k]? := by
      clear hcs hrl hr hel' hval hf hx hb hl hm hlen' hsp hns hU
      induction cap with
      | zero => exact ⟨[], rfl, fun i x h => by simp at h⟩
      | succ m ih =>
        obtain ⟨us, h1, h2⟩ := ih (fun i hi => each i (by omega))
        obtain ⟨x, h3⟩ := each m (by omega)
        refine ⟨us ++ [x], by simp [h1], fun i y hy => ?_⟩
        by_cases hi : i < us.length
        · rw [List.getElem?_append_left hi] at hy; exact h2 i y hy
        · rw [List.getElem?_append_right (by omega)] at hy
          have h0 : i - us.length = 0 := by
            have := (List.getElem?_eq_some_iff.1 hy).1
            simp at this; omega
          rw [h0] at hy
          simp at hy
          subst hy
          have : i = m := by omega
          subst this; exact h3
    obtain ⟨us, hal, has⟩ := hall
    have hfl : ∀ (l : List α), (l.flatMap cellsA).length = l.length * c := by
      intro l
      induction l with
      | nil => simp
      | cons x l ih => rw [List.flatMap_cons, List.length_append, ih, hlen, List.length_cons, Nat.succ_mul]; omega
    have hget : ∀ (l : List α) (i k : Nat) (x : α), l[i]? = some x → k < c → (l.flatMap cellsA)[i * c + k]? = (cellsA x)[k]? := by
      intro l
      induction l with
      | nil => intro i k x h; simp at h
      | cons y l ih =>
        intro i k x h hk
        rw [List.flatMap_cons]
        cases i with
        | zero =>
          simp at h; subst h
          rw [Nat.zero_mul, Nat.zero_add, List.getElem?_append_left (by rw [hlen]; exact hk)]
        | succ i =>
          have : c ≤ (i + 1) * c + k := by rw [Nat.succ_mul]; omega
          rw [List.getElem?_append_right (by rw [hlen]; exact this), hlen, show (i + 1) * c + k - c = i * c + k by rw [Nat.succ_mul]; omega]
          exact ih i k x (by simpa using h) hk
    by_cases h0 : cap = 0
    · have hl0 : len = 0 := by omega
      subst hl0
      refine ⟨[], [], cap, some ⟨a.block, 0, 0, 0, 0⟩, fun j => some ⟨j, a.off, none⟩, ?_, ?_, (by simp), .inl rfl, Nat.zero_le _⟩
      · rintro ρ i ⟨⟩
        exact ⟨rfl, rfl, cs, e', fr, hh, by simp, fun k hk => by simp at hk⟩
      · intro ρ j hj
        exact .slice ⟨_, hj, rfl, ha⟩ (.inl ⟨rfl, hU⟩)
    · refine ⟨us.take len, us, cap, some ⟨a.block, a.off, 0, 0, 0⟩, fun j => some ⟨j, 0, none⟩, ?_, ?_, ?_, .inr ⟨rfl, ?_⟩, by simp; omega⟩
      · rintro ρ i ⟨⟩
        have hlast : cap - 1 < cap := by omega
        have hsz : a.off + cap * c ≤ cs.size := by
          have h1 : us[cap - 1]? = some (us[cap - 1]'(by omega)) := List.getElem?_eq_getElem _
          have h2 := (has _ _ h1).2 (c - 1) (by omega)
          rw [List.getElem?_eq_getElem (by rw [hlen]; omega)] at h2
          have := (Array.getElem?_eq_some_iff.1 h2).1
          have e : cap * c = (cap - 1) * c + c := by
            conv => lhs; rw [show cap = (cap - 1) + 1 by omega, Nat.succ_mul]
          omega
        refine ⟨rfl, rfl, cs, e', fr, hh, by rw [hfl, hal]; exact hsz, fun k hk => ?_⟩
        rw [hfl, hal] at hk
        have hi : k / c < cap := by rw [Nat.div_lt_iff_lt_mul hc0]; exact hk
        have hk2 : k % c < c := Nat.mod_lt _ hc0
        have e : k / c * c + k % c = k := Nat.div_add_mod' k c
        have h1 : us[k / c]? = some (us[k / c]'(by omega)) := List.getElem?_eq_getElem _
        have h2 := (has _ _ h1).2 (k % c) hk2
        have h3 := hget us _ _ _ h1 hk2
        have hlt : k % c < (cellsA (us[k / c]'(by omega))).length := by rw [hlen]; exact hk2
        rw [List.getElem?_eq_getElem hlt] at h2 h3
        show VRel ρ _ (cs.getD (a.off + k) Go.undef)
        rw [show a.off + k / c * c + k % c = a.off + k by omega] at h2
        rw [e] at h3
        rw [Array.getD_eq_getD_getElem?, h2, List.getD_eq_getElem?_getD, h3]
        exact VRel.of_plain 6 (hpl _ _ (List.getElem_mem _))
      · intro ρ j hj
        have : (us.take len).length = len := by simp; omega
        rw [this]
        exact .slice ⟨_, hj, rfl, by show a = ⟨a.block, 0 + a.off, none⟩; rw [Nat.zero_add]; exact ha⟩ (.inl ⟨rfl, hU⟩)
      · intro x hx
        obtain ⟨i, hi⟩ := List.getElem?_of_mem (List.mem_of_mem_take hx)
        exact (has i x hi).1
      · intro k hk
        simp only [List.length_take] at hk
        rw [List.getElem?_take, if_pos (by omega)]
def QRow {α M : Type} [Mem M] (e : TypeId) (cellsA : α → List Value) (s : St M) (a : Option Addr) (A : List α) : Prop :=
  A = [] ∨ ∃ (j : Nat) (us : List α), a = some ⟨j, 0, none⟩ ∧ j < s.next ∧ s.at' j = some (.cells (us.flatMap cellsA) e false) ∧ ∀ k, k < A.length → us[k]? = A[k]?
end Go.Proofs.Tryz
