/- Rows of strings as arguments: a clean memory that holds them, and how such an argument is opened and handed back. A lemma file: no statement of its own. -/
import Derived.Test.YtiachndgldjbfaaFacts
import Derived.Test.YtiachndgldjbfaaTypes
import Derived.Test.YtiachndgldjbfaaFwF
import Derived.SliceStrings
import Derived.Carry
set_option linter.unusedSimpArgs false
set_option linter.unusedVariables false
set_option linter.unusedSectionVars false
namespace Go.Proofs.Try
open Go.Cs Go.ChangeShapes Go.WideShapes Go.ChangeAt Go.RowKit

abbrev RMem := Nat → Option Blk
/-- The clean memory of rows of strings. -/
def rowsSt (L : List (List ByteArray)) : St RMem := ⟨fun j => (L[j]?).map fun ss => .cells (ss.map .string) 9 false, L.length⟩
def rowsRen (B : List (Option BI)) : Ren := fun j => (B[j]?).join

/-- What a row is in the world. -/
def RowIn (w : World) (oi : Option BI) (ss : List ByteArray) : Prop :=
  ∀ i, oi = some i → i.esz = 0 ∧ ∃ cs e' fr, w.heap[i.blk]? = some (.cells cs e' fr) ∧ i.sh + ss.length ≤ cs.size ∧ ∀ k, k < ss.length → cs.getD (i.sh + k) Go.undef = .string (ss.getD k ByteArray.empty)

theorem rel_rows {w : World} {L : List (List ByteArray)} {B : List (Option BI)} (hn : B.length = L.length) (h : ∀ (j : Nat) (oi : Option BI) (ss : List ByteArray), B[j]? = some oi → L[j]? = some ss → RowIn w oi ss) : Rel Try.prog w (rowsRen B) (rowsSt L) w := by
  have hget : ∀ b i, rowsRen B b = some i → b < L.length ∧ B[b]? = some (some i) := by
    intro b i hb
    unfold rowsRen at hb
    cases hc : B[b]? with
    | none => rw [hc] at hb; cases hb
    | some o =>
      rw [hc] at hb
      have := (List.getElem?_eq_some_iff.1 hc).1
      exact ⟨by omega, by cases hb; rfl⟩
  have hat : ∀ b, (rowsSt L).at' b = (L[b]?).map fun ss => Blk.cells (ss.map .string) 9 false := fun b => rfl
  have hown : ∀ b B', (rowsSt L).at' b = some B' → B'.owned = false := by
    intro b B' hb
    rw [hat] at hb
    obtain ⟨ss, _, rfl⟩ := Option.map_eq_some_iff.1 hb
    rfl
  refine ⟨fun b i hb => (hget b i hb).1, ?_, ?_, ?_, ?_, Below.refl _ _, ?_⟩
  · intro b i hb
    obtain ⟨h1, h2⟩ := hget b i hb
    obtain ⟨_, cs, e', fr, h3, _⟩ := h b _ L[b] h2 (by simp [h1]) i rfl
    exact (Array.getElem?_eq_some_iff.1 h3).1
  · intro b i B' hb hs
    obtain ⟨h1, h2⟩ := hget b i hb
    rw [hat] at hs
    obtain ⟨ss, hss, rfl⟩ := Option.map_eq_some_iff.1 hs
    obtain ⟨hz, cs, e', fr, h3, h4, h5⟩ := h b _ ss h2 hss i rfl
    refine ⟨_, h3, cs, e', fr, rfl, by simpa using h4, fun k hk => ?_, .inl hz, fun e => by cases e⟩
    have hk' : k < ss.length := by simpa using hk
    rw [h5 k hk', show (ss.map Value.string).getD k Go.undef = .string (ss.getD k ByteArray.empty) by simp [hk']]
    exact .string _
  · intro b i B' hb hs ho
    rw [hown b B' hs] at ho; cases ho
  · intro b i B' b2 i2 B2 hb hs _ _ _ ho
    rw [hown b B' hs] at ho; cases ho
  · intro b hb
    rw [hat, List.getElem?_eq_none (show L.length ≤ b from hb)]; rfl

theorem calls_rows {f : FuncId} {args args' : Array Value} {w : World} {L : List (List ByteArray)} {B : List (Option BI)} (hn : B.length = L.length) (hr : ∀ (j : Nat) (oi : Option BI) (ss : List ByteArray), B[j]? = some oi → L[j]? = some ss → RowIn w oi ss)
    (hv : VsRel (rowsRen B) args args') (h : CCalls (M := RMem) Try.prog w f args (rowsSt L) fun v _ => v = .bool true) :
    Calls Try.prog f args' w fun e w' => e = .returned (.bool true) ∧ Below w.heap.size w w' := by
  refine (h _ w args' (rel_rows hn hr) hv).mono ?_
  rintro e w' ⟨v, s', ρ', v', rfl, rfl, hv, hR, _⟩
  exact ⟨by rw [hv.bool_inv], hR.below⟩

/-- A row of texts as an argument of a walk. -/
def RowV {M : Type} [Mem M] (s : St M) (a : Option Addr) (T : List ByteArray) : Prop :=
  T = [] ∨ ∃ (j : Nat) (ss : List ByteArray), a = some ⟨j, 0, none⟩ ∧ j < s.next ∧ s.at' j = some (.cells (ss.map .string) 9 false) ∧ ∀ k, k < T.length → ss[k]? = T[k]?

/-- A []string as it lies in the world, opened: the walk's argument is '.slice (a j) T.length c', its row the j-th. -/
theorem open_strs {H : Type} {enc : TypeId × Value → H} {W : World} {r : Reach} {b0 : Nat} {v : Value} {d : DataW H} {ps : List MemPlace} (hval : Value.okWide Try.prog W r b0 22 v) (hd : DataW.Trod enc Try.prog W 0 (fun _ => true) true 22 v d ps) :
    ∃ (T ss : List ByteArray) (c : Nat) (oi : Option BI) (a : Nat → Option Addr), RowIn W oi ss ∧ (∀ (ρ : Ren) j, ρ j = oi → VRel ρ (.slice (a j) T.length c) v) ∧ (T = [] ∨ (a = fun j => some ⟨j, 0, none⟩) ∧ ∀ k, k < T.length → ss[k]? = T[k]?) := by
  obtain ⟨a0, len, cap, rfl⟩ := okWide_slice underlying22 hval
  obtain ⟨fuel, hf⟩ := hd
  rcases open_strings underlying22 underlying9 ce9 hf with ⟨hcs, hx⟩ | ⟨a, len', cap', ss, hcs, _, hl, hm, hz, hx, hcell, hsz⟩
  · have hcs : [Value.slice a0 len cap] = [.slice none 0 0] := hcs
    simp only [List.cons.injEq, Value.slice.injEq, and_true] at hcs
    obtain ⟨rfl, rfl, rfl⟩ := hcs
    exact ⟨[], [], 0, none, fun _ => none, (by intro i hi; cases hi), (fun ρ j _ => .nilSlice), .inl rfl⟩
  · have hcs : [Value.slice a0 len cap] = [.slice (some a) len' cap'] := hcs
    simp only [List.cons.injEq, Value.slice.injEq, and_true] at hcs
    obtain ⟨rfl, rfl, rfl⟩ := hcs
    have hz : ss.length = cap := by simpa using hz
    have hU : cap < UNK := by unfold UNK; have : maxLen = 9223372036854775807 := by decide
                              omega
    have hspot : a.spot = none ∧ ∃ row cells, W.shape? a.block = some (row, cells) := by
      simp only [Value.okWide, underlying22, Cell.okWide] at hval
      simp only [Cell.ok, underlying22] at hval
      obtain ⟨_, _, _, h1, row, cells, h2, _⟩ := hval
      exact ⟨h1, row, cells, h2⟩
    obtain ⟨hs1, row, cells, hs2⟩ := hspot
    have hblk : ∃ cs e' fr, W.heap[a.block]? = some (.cells cs e' fr) := by
      unfold World.shape? at hs2
      split at hs2
      · rename_i c el fr hh; exact ⟨c, el, fr, hh⟩
      · cases hs2
    obtain ⟨cs, e', fr, hh⟩ := hblk
    have ha : a = ⟨a.block, a.off, none⟩ := by cases a; simp at hs1; simp [hs1]
    have hadd : ∀ i, a.add i = ⟨a.block, a.off + i, none⟩ := by
      intro i
      unfold Addr.add
      split
      · subst_vars; exact ha
      · rfl
    have hget : ∀ i, i < cap → cs[a.off + i]? = some (.string (ss.getD i ByteArray.empty)) := by
      intro i hi
      have := hcell i (by omega)
      rw [hadd i] at this
      unfold World.cell? at this
      simp only [hh, Option.isSome_none, Bool.false_eq_true, if_false] at this
      exact this
    by_cases h0 : cap = 0
    · have hl0 : len = 0 := by omega
      subst hl0
      refine ⟨[], [], cap, some ⟨a.block, 0, 0, 0⟩, fun j => some ⟨j, a.off, none⟩, ?_, ?_, .inl rfl⟩
      · rintro i ⟨⟩
        exact ⟨rfl, cs, e', fr, hh, by simp, fun k hk => by simp at hk⟩
      · intro ρ j hj
        exact .slice ⟨_, hj, rfl, ha⟩ (.inl ⟨rfl, hU⟩)
    · refine ⟨ss.take len, ss, cap, some ⟨a.block, a.off, 0, 0⟩, fun j => some ⟨j, 0, none⟩, ?_, ?_, .inr ⟨rfl, ?_⟩⟩
      · rintro i ⟨⟩
        refine ⟨rfl, cs, e', fr, hh, ?_, ?_⟩
        · have := (Array.getElem?_eq_some_iff.1 (hget (cap - 1) (by omega))).1
          show a.off + ss.length ≤ cs.size
          omega
        · intro k hk
          have := hget k (by omega)
          show cs.getD (a.off + k) Go.undef = _
          rw [Array.getD_eq_getD_getElem?, this]; rfl
      · intro ρ j hj
        have : (ss.take len).length = len := by simp; omega
        rw [this]
        exact .slice ⟨_, hj, rfl, by show a = ⟨a.block, 0 + a.off, none⟩; rw [Nat.zero_add]; exact ha⟩ (.inl ⟨rfl, hU⟩)
      · intro k hk
        simp only [List.length_take] at hk
        rw [List.getElem?_take, if_pos (by omega)]
end Go.Proofs.Try
