/- Operations that write the clean memory: stores. A lemma file: no statement of its own. -/
import Derived.Test.YtlijgnofegjnmaaCs9
set_option linter.unusedSimpArgs false
set_option linter.unusedVariables false
namespace Go.Cs
section
variable {M : Type} [Mem M] {P : Program} {w0 : World} {ρ : Ren} {s : St M} {w : World}

/-- Values of two lists, one by one. -/
inductive LRel (ρ : Ren) : List Value → List Value → Prop
  | nil : LRel ρ [] []
  | cons {v v' : Value} {l l' : List Value} (h : VRel ρ v v') (t : LRel ρ l l') : LRel ρ (v :: l) (v' :: l')

theorem LRel.length {l l' : List Value} (h : LRel ρ l l') : l.length = l'.length := by
  induction h with
  | nil => rfl
  | cons _ _ ih => simp [ih]

theorem LRel.mono {ρ ρ' : Ren} (hle : ρ.le ρ') {l l' : List Value} (h : LRel ρ l l') : LRel ρ' l l' := by
  induction h with
  | nil => exact .nil
  | cons h _ ih => exact .cons (h.mono hle) ih

theorem VsRel.toL : ∀ {l l' : List Value}, VsRel ρ l.toArray l'.toArray → LRel ρ l l' := by
  intro l
  induction l with
  | nil => intro l' h; have := h.1; simp at this; rw [List.eq_nil_of_length_eq_zero this.symm]; exact .nil
  | cons v l ih =>
    intro l' h
    cases l' with
    | nil => have := h.1; simp at this
    | cons v' l' =>
      refine .cons (by simpa using h.2 0 (by simp)) (ih ⟨by have := h.1; simpa using this, fun i hi => ?_⟩)
      have := h.2 (i + 1) (by simpa using hi)
      simpa [Array.getD_eq_getD_getElem?] using this

theorem VsRel.ofL {l l' : List Value} (h : LRel ρ l l') : VsRel ρ l.toArray l'.toArray := by
  induction h with
  | nil => exact ⟨rfl, fun i hi => by simp at hi⟩
  | cons h _ ih =>
    refine ⟨by have := ih.1; simpa using this, fun i hi => ?_⟩
    cases i with
    | zero => simpa using h
    | succ i =>
      have := ih.2 i (by simpa using hi)
      simpa [Array.getD_eq_getD_getElem?] using this

theorem LRel.append {a a' b b' : List Value} (h : LRel ρ a a') (h' : LRel ρ b b') : LRel ρ (a ++ b) (a' ++ b') := by
  induction h with
  | nil => exact h'
  | cons h _ ih => exact .cons h ih

theorem okCell_one {v v' : Value} (h : VRel ρ v v') (hk : okCell v = true) : oneCell v' = true := by
  cases h <;> first
    | rfl
    | assumption
    | (simp [okCell] at hk; done)
    | (rename_i h1 _ _; simp [okCell] at hk; exact (h1 hk).elim)

def setA : Array Value → Nat → List Value → Array Value
  | cs, _, [] => cs
  | cs, o, v :: l => setA (cs.setIfInBounds o v) (o + 1) l

theorem setA_size : ∀ (l : List Value) (cs : Array Value) (o : Nat), (setA cs o l).size = cs.size := by
  intro l
  induction l with
  | nil => intro cs o; rfl
  | cons v l ih => intro cs o; simp [setA, ih]

theorem setCells_length : ∀ (l : List Value) (vs : List Value) (o : Nat), (setCells vs o l).length = vs.length := by
  intro l
  induction l with
  | nil => intro vs o; rfl
  | cons v l ih => intro vs o; simp [setCells, ih]

/-- A row of cells, from some cell on. -/
def CRel (ρ : Ren) (sh : Nat) (vs : List Value) (cs : Array Value) : Prop := sh + vs.length ≤ cs.size ∧ ∀ k, k < vs.length → VRel ρ (vs.getD k undef) (cs.getD (sh + k) undef)

theorem CRel.set {sh : Nat} {vs : List Value} {cs : Array Value} (h : CRel ρ sh vs cs) (o : Nat) {v v' : Value} (hv : VRel ρ v v') : CRel ρ sh (vs.set o v) (cs.setIfInBounds (sh + o) v') := by
  refine ⟨by simpa using h.1, fun k hk => ?_⟩
  simp only [List.length_set] at hk
  have h0 := h.2 k hk
  have hk' : sh + k < cs.size := by have := h.1; omega
  rw [List.getD_eq_getElem?_getD, List.getElem?_set, Array.getD_eq_getD_getElem?, Array.getElem?_setIfInBounds]
  by_cases e : o = k
  · subst e; simp [hk, hk', hv]
  · rw [if_neg e, if_neg (by omega), ← List.getD_eq_getElem?_getD, ← Array.getD_eq_getD_getElem?]; exact h0

theorem CRel.setCells {sh : Nat} : ∀ {l l' : List Value}, LRel ρ l l' → ∀ {vs : List Value} {cs : Array Value} (o : Nat), CRel ρ sh vs cs → CRel ρ sh (setCells vs o l) (setA cs (sh + o) l') := by
  intro l l' hl
  induction hl with
  | nil => intro vs cs o h; exact h
  | cons hv _ ih =>
    intro vs cs o h
    exact ih (o + 1) (h.set o hv)

theorem run_store {w : World} {b o : Nat} {cs : Array Value} {e : TypeId} {fr : Nat × Nat} {v : Value} (hb : w.heap[b]? = some (.cells cs e fr)) (ho : o < cs.size) (hfr : ¬ (fr.1 ≤ o ∧ o < fr.2)) (hv : oneCell v = true) :
    (store ⟨b, o, none⟩ v).run P w = .ok () { w with heap := w.heap.setIfInBounds b (.cells (cs.setIfInBounds o v) e fr) } := by
  have hc : w.cell? ⟨b, o, none⟩ = some cs[o] := by simp [World.cell?, hb]
  have hf : w.frozen? ⟨b, o, none⟩ = false := by
    simp only [World.frozen?, hb]
    simpa using hfr
  have hs : w.setCell ⟨b, o, none⟩ v = { w with heap := w.heap.setIfInBounds b (.cells (cs.setIfInBounds o v) e fr) } := by
    simp only [World.setCell]
    congr 1
    apply Array.ext_getElem?
    intro i
    rw [Array.getElem?_modify, Array.getElem?_setIfInBounds]
    split
    · subst_vars
      have hlt : i < w.heap.size := by
        rcases Nat.lt_or_ge i w.heap.size with h' | h'
        · exact h'
        · rw [Array.getElem?_eq_none h'] at hb; cases hb
      rw [hb]
      simp [hlt]
    · rfl
  rw [← hs]
  cases v <;> first | (simp [oneCell] at hv; done) | simp [store, Sem.run, hc, hf]

theorem run_storeCells : ∀ (l : List Value) {w : World} {b o i : Nat} {cs : Array Value} {e : TypeId} {fr : Nat × Nat}, w.heap[b]? = some (.cells cs e fr) → (∀ j, j < cs.size → ¬ (fr.1 ≤ j ∧ j < fr.2)) → o + i + l.length ≤ cs.size →
    (∀ v ∈ l, oneCell v = true) → (storeCells ⟨b, o, none⟩ l i).run P w = .ok () { w with heap := w.heap.setIfInBounds b (.cells (setA cs (o + i) l) e fr) } := by
  intro l
  induction l with
  | nil =>
    intro w b o i cs e fr hb _ _ _
    simp only [storeCells, Sem.run_pure, setA]
    congr 1
    have : w.heap.setIfInBounds b (.cells cs e fr) = w.heap := by
      apply Array.ext
      · simp
      · intro j h1 h2
        rw [Array.getElem_setIfInBounds]
        split
        · subst_vars
          rw [Array.getElem?_eq_getElem h2] at hb
          exact (Option.some.inj hb).symm
        · rfl
    rw [this]
  | cons v l ih =>
    intro w b o i cs e fr hb hfr hsz hv
    simp only [List.length_cons] at hsz
    simp only [storeCells, Sem.run_bind, addr_add_mk]
    rw [run_store hb (by omega) (hfr _ (by omega)) (hv v (by simp))]
    simp only [Result.andThen_ok]
    have hlt : b < w.heap.size := by
      rcases Nat.lt_or_ge b w.heap.size with h' | h'
      · exact h'
      · rw [Array.getElem?_eq_none h'] at hb; cases hb
    rw [ih (w := { w with heap := w.heap.setIfInBounds b (.cells (cs.setIfInBounds (o + i) v) e fr) }) (cs := cs.setIfInBounds (o + i) v) (e := e) (fr := fr)
      (by simp [hlt]) (by simpa using hfr) (by simp; omega) (fun u hu => hv u (by simp [hu]))]
    simp only [setA, Array.setIfInBounds_setIfInBounds]
    rfl

/-- What an operation that writes has come to. -/
def EffOk (P : Program) (w0 : World) (ρ : Ren) (s : St M) (s' : St M) (v : Value) (r : Result Next) : Prop :=
  ∃ n w' ρ', r = .ok n w' ∧ ((∃ v', n = .value v' ∧ VRel ρ' v v') ∨ (n = .skip ∧ v = undef)) ∧ Rel P w0 ρ' s' w' ∧ Ext ρ s ρ' s'

theorem cstoreCells_sound {a a' : Addr} {l l' : List Value} {s' : St M} (h : cstoreCells a l s = some s') (hR : Rel P w0 ρ s w) (ha : ARel ρ a a') (hl : LRel ρ l l') :
    ∃ w', (storeCells a' l').run P w = .ok () w' ∧ Rel P w0 ρ s' w' ∧ Ext ρ s ρ s' := by
  unfold cstoreCells at h
  split at h
  · rename_i vs e hat
    split at h
    · rename_i hc
      cases h
      obtain ⟨i, hi, hsp, rfl⟩ := ha
      obtain ⟨o, ho, hbr⟩ := hR.blk _ _ _ hi hat
      obtain ⟨cs, e', fr, rfl, hsz, hv, hesz, hown⟩ := hbr
      obtain ⟨rfl, hfr, hn, hes, hsh⟩ := hown rfl
      have hll := hl.length
      refine ⟨_, run_storeCells l' ho hfr (by have := hc.1; omega) (fun v hv => ?_), ?_⟩
      · have : ∀ {l l' : List Value}, LRel ρ l l' → l.all okCell = true → ∀ v ∈ l', oneCell v = true := by
          intro l l' h
          induction h with
          | nil => intro _ v hv; cases hv
          | cons h _ ih =>
            intro hk v hv
            simp only [List.all_cons, Bool.and_eq_true] at hk
            rcases List.mem_cons.1 hv with rfl | hv
            · exact okCell_one h hk.1
            · exact ih hk.2 v hv
        exact this hl hc.2 v hv
      · refine hR.write hi hat rfl ⟨setA cs (a.off + i.sh + 0) l', e', fr, rfl, ?_, ?_, hesz, fun _ => ⟨rfl, by rw [setA_size]; exact hfr, by rw [setA_size]; exact hn, hes, hsh⟩⟩
        · rw [setA_size, setCells_length]; exact hsz
        · have := CRel.setCells hl (a.off) (⟨hsz, hv⟩ : CRel ρ i.sh vs cs)
          rw [Nat.add_zero, Nat.add_comm a.off]
          exact this.2
    · cases h
  · cases h

theorem cstore_sound {t : TypeId} {a a' : Addr} {v v' : Value} {s' : St M} (h : cstore P t a v s = some s') (hR : Rel P w0 ρ s w) (ha : ARel ρ a a') (hv : VRel ρ v v') (hok : okPart v = true) :
    ∃ w', (storeVar t a' v').run P w = .ok () w' ∧ Rel P w0 ρ s' w' ∧ Ext ρ s ρ s' := by
  unfold cstore at h
  split at h
  · rename_i i hi
    split at h
    · rename_i hsz
      have hc := okPart_cells hv hok
      obtain ⟨w', h1, h2⟩ := cstoreCells_sound (l' := v'.cells.toList) h hR ha (VsRel.toL (by simpa using hc))
      refine ⟨w', ?_, h2⟩
      simp only [storeVar, Sem.run_bind, run_sizeOf' hi, Result.andThen_ok]
      rw [if_neg (by rw [← hc.1]; simpa using hsz)]
      exact h1
    · cases h
  · cases h
end
end Go.Cs
