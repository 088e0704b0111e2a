/- Operations that write the clean memory: append. A lemma file: no statement of its own. -/
import Derived.Test.YtlijgnofegjnmaaCs10
import Derived.Laws.Append
set_option linter.unusedSimpArgs false
set_option linter.unusedVariables false
namespace Go.Cs
section
variable {M : Type} [Mem M] (P : Program)

/-- The cells of what is appended: how many elements, and the cells. -/
def cmore (size : Nat) (x : Value) (s : St M) : Option (Nat × List Value) :=
  match x with
  | .slice none _ _ => some (0, [])
  | .slice (some b) n _ => match s.at' b.block with
    | some (.cells vs _ _) => (cut vs b.off (n * size)).map fun l => (n, l)
    | _ => none
  | .string str => if size = 1 then some (str.size, str.data.toList.map fun b => .int .u8 b.toNat) else none
  | _ => none

def cgrow (e : TypeId) (ie : TypeInfo) (need : Nat) (l : List Value) (s : St M) : Option (Value × St M) :=
  match czero P e with
  | some z => if z.cells.size = ie.size ∧ 0 < ie.bytes ∧ need * ie.bytes ≤ 140737488355328 then some (.slice (some ⟨s.next, 0, none⟩) need UNK, s.new (.cells l e true)) else none
  | none => none

def capp (ts : Array TypeId) (args : Array Value) (s : St M) : Option (Value × St M) :=
  match ts[0]?.bind P.underlying, ts[1]?.bind P.underlying, (args[0]? : Option Value), (args[1]? : Option Value) with
  | some (.slice _), some (.int _), _, _ => none
  | some (.slice e), some _, some sl, some x =>
    match P.info? e with
    | none => none
    | some ie => match cmore ie.size x s with
      | none => none
      | some (n, new) =>
        if new.all okCell = false then none else
        match sl with
        | .slice none _ _ => if n = 0 then some (.slice none 0 0, s) else cgrow P e ie n new s
        | .slice (some a) k c =>
          if c = UNK then
            if n = 0 then some (.slice (some a) k c, s)
            else match s.at' a.block with
              | some (.cells vs et true) => if et = e ∧ a.off % ie.size = 0 then (match cut vs a.off (k * ie.size) with
                | some old => cgrow P e ie (k + n) (old ++ new) (s.kill a.block)
                | none => none) else none
              | _ => none
          else if k + n ≤ c then
            if n = 0 then some (.slice (some a) k c, s) else (cstoreCells (a.add (k * ie.size)) new s).map fun s' => (.slice (some a) (k + n) c, s')
          else match s.at' a.block with
            | some (.cells vs _ _) => match cut vs a.off (k * ie.size) with
              | some old => cgrow P e ie (k + n) (old ++ new) s
              | none => none
            | _ => none
        | _ => none
  | _, _, _, _ => none
end

section
variable {M : Type} [Mem M] {P : Program} {w0 : World} {ρ : Ren} {s : St M} {w : World}

theorem cut_length {vs l : List Value} {o n : Nat} (h : cut vs o n = some l) : l.length = n := by
  unfold cut at h
  split at h
  · cases h; simp; omega
  · cases h

theorem run_firstCells {size n k c' : Nat} {a : Addr} {vs l : List Value} {et : TypeId} {own : Bool} {a' : Addr} (hR : Rel P w0 ρ s w) (hat : s.at' a.block = some (.cells vs et own)) (ha : ARel ρ a a') (hc : cut vs a.off (n * size) = some l) :
    ∃ l' : Array Value, (Builtin.firstCells size n (.slice (some a') k c')).run P w = .ok l' w ∧ LRel ρ l l'.toList := by
  obtain ⟨i, hi, hsp, rfl⟩ := ha
  obtain ⟨o, ho, hbr⟩ := hR.blk _ _ _ hi hat
  obtain ⟨cs, e', fr, rfl, hsz, hv, hesz, hown⟩ := hbr
  obtain ⟨h1, h2⟩ := cut_rel hc hsz hv
  exact ⟨_, run_loadCells ho h1, VsRel.toL (by rw [Array.toArray_toList]; exact h2)⟩

theorem cmore_sound {size n : Nat} {x x' : Value} {new : List Value} (h : cmore size x s = some (n, new)) (hR : Rel P w0 ρ s w) (hx : VRel ρ x x') :
    (Builtin.lenOf x').run P w = .ok n w ∧ ∃ new' : Array Value, (Builtin.firstCells size n x').run P w = .ok new' w ∧ LRel ρ new new'.toList ∧ new.length = n * size := by
  unfold cmore at h
  split at h
  · obtain ⟨rfl, _, _⟩ := hx.nilSlice_inv
    cases h
    exact ⟨rfl, #[], rfl, .nil, by simp⟩
  · rename_i b m c
    obtain ⟨b', c', rfl, hb, _⟩ := hx.slice_inv
    split at h
    · rename_i vs et own hat
      obtain ⟨l, hl, he⟩ := Option.map_eq_some_iff.1 h
      cases he
      obtain ⟨l', h1, h2⟩ := run_firstCells (k := n) (c' := c') hR hat hb hl
      exact ⟨rfl, l', h1, h2, cut_length hl⟩
    · cases h
  · rename_i str
    obtain rfl := hx.string_inv
    split at h
    · rename_i h1
      cases h
      subst h1
      refine ⟨rfl, str.data.map fun b => .int .u8 b.toNat, ?_, ?_, by simp⟩
      · have : str.extract 0 str.size = str := by
          simp
        simp only [Builtin.firstCells, this]
        rfl
      · refine VsRel.toL ⟨by simp, fun i hi => ?_⟩
        simp only [List.size_toArray, List.length_map, Array.length_toList] at hi
        have hi2 : i < str.size := by simpa using hi
        have : ((str.data.map fun b => Value.int .u8 b.toNat).toList.toArray).getD i undef = .int .u8 (str.data[i]'hi).toNat := by
          simp [Array.getD, hi2]
        rw [this, show (str.data.toList.map fun b => Value.int .u8 b.toNat).toArray.getD i undef = .int .u8 (str.data[i]'hi).toNat from by simp only [Array.getD_eq_getD_getElem?, List.getElem?_toArray, List.getElem?_map, Array.getElem?_toList, Array.getElem?_eq_getElem hi]; rfl]
        exact .int _ _
    · cases h
  · cases h

theorem okCells_one : ∀ {l l' : List Value}, LRel ρ l l' → l.all okCell = true → ∀ v ∈ l', oneCell v = true := by
  intro l l' h
  induction h with
  | nil => intro _ v hv; cases hv
  | cons h _ ih =>
    intro hk v hv
    simp only [List.all_cons, Bool.and_eq_true] at hk
    rcases List.mem_cons.1 hv with rfl | hv
    · exact okCell_one h hk.1
    · exact ih hk.2 v hv

theorem run_append_room' {t t2 e : TypeId} {d2 : TypeDesc} {ie : TypeInfo} {x : Value} {base : Option Addr} {k c n : Nat} {new : Array Value} {ty : TypeId} {ts : Array TypeId} {args : Array Value}
    (ht0 : ts[0]? = some t) (ht1 : ts[1]? = some t2) (ha0 : args[0]? = some (.slice base k c)) (ha1 : args[1]? = some x) (ht : P.underlying t = some (.slice e)) (ht2 : P.underlying t2 = some d2) (hd2 : ∀ i, d2 ≠ .int i) (hie : P.info? e = some ie)
    (hlen : (Builtin.lenOf x).run P w = .ok n w) (hnew : (Builtin.firstCells ie.size n x).run P w = .ok new w) (hle : k + n ≤ c) :
    (Builtin.append_ ts ty args).run P w = ((match base with | some a => storeCells (a.add (k * ie.size)) new.toList | none => pure () : Sem Unit).run P w).andThen fun _ w' => .ok (.slice base (k + n) c) w' := by
  have hd : (d2 matches .int _) = false := by cases d2 <;> first | rfl | exact absurd rfl (hd2 _)
  simp only [Builtin.append_, ht0, ha0, ha1, ht1, Sem.run_bind, run_underlying' ht, run_underlying' ht2, Result.andThen_ok, run_sizeOf' hie, Sem.run_pure]
  cases d2 <;> first | exact absurd rfl (hd2 _) | skip
  all_goals
    simp only [Bool.false_eq_true, if_false, Sem.run_bind, hlen, Result.andThen_ok, Bool.not_false, if_true, hle, hnew]
    cases base <;> simp only [Sem.run_bind, Sem.run_pure, Result.andThen_ok]

theorem setA_getD : ∀ (l : List Value) (cs : Array Value) (o m : Nat), o + l.length ≤ cs.size → (setA cs o l).getD m undef = if o ≤ m ∧ m < o + l.length then l.getD (m - o) undef else cs.getD m undef := by
  intro l
  induction l with
  | nil => intro cs o m _; rw [if_neg (by simp)]; rfl
  | cons v l ih =>
    intro cs o m h
    simp only [List.length_cons] at h
    rw [setA, ih _ _ _ (by simp; omega)]
    simp only [List.length_cons]
    by_cases e : m = o
    · subst e
      rw [if_neg (by omega), if_pos (by omega)]
      rw [Array.getD_eq_getD_getElem?, Array.getElem?_setIfInBounds, if_pos rfl, if_pos (by omega)]
      simp
    · have e0 : (cs.setIfInBounds o v).getD m undef = cs.getD m undef := by
        rw [Array.getD_eq_getD_getElem?, Array.getElem?_setIfInBounds, if_neg (fun h => e h.symm), ← Array.getD_eq_getD_getElem?]
      rw [e0]
      by_cases e2 : o + 1 ≤ m ∧ m < o + 1 + l.length
      · rw [if_pos e2, if_pos (by omega), show m - o = (m - (o + 1)) + 1 from by omega, List.getD_cons_succ]
      · rw [if_neg e2, if_neg (by omega)]

theorem LRel.getD {l l' : List Value} (h : LRel ρ l l') (q : Nat) (hq : q < l.length) : VRel ρ (l.getD q undef) (l'.getD q undef) := by
  have := (VsRel.ofL h).2 q (by simpa using hq)
  simpa [Array.getD_eq_getD_getElem?, List.getD_eq_getElem?_getD] using this

theorem run_append_grow' {t t2 e : TypeId} {d2 : TypeDesc} {ie : TypeInfo} {x z : Value} {base : Option Addr} {k c n : Nat} {old new : Array Value} {ty : TypeId} {ts : Array TypeId} {args : Array Value}
    (ht0 : ts[0]? = some t) (ht1 : ts[1]? = some t2) (ha0 : args[0]? = some (.slice base k c)) (ha1 : args[1]? = some x) (ht : P.underlying t = some (.slice e)) (ht2 : P.underlying t2 = some d2) (hd2 : ∀ i, d2 ≠ .int i) (hie : P.info? e = some ie)
    (hlen : (Builtin.lenOf x).run P w = .ok n w) (hnew : (Builtin.firstCells ie.size n x).run P { w with drawn := w.drawn + 1 } = .ok new { w with drawn := w.drawn + 1 }) (hold : (Builtin.firstCells ie.size k (.slice base k c)).run P { w with drawn := w.drawn + 1 } = .ok old { w with drawn := w.drawn + 1 })
    (hz : ∀ w, (zeroValue e).run P w = .ok z w) (hb0 : 0 < ie.bytes) (hb : (k + n) * ie.bytes ≤ 140737488355328) (hgt : c < k + n) :
    ∃ cap, k + n ≤ cap ∧ cap < UNK ∧ (Builtin.append_ ts ty args).run P w = .ok (.slice (some ⟨w.heap.size, 0, none⟩) (k + n) cap)
      { w with heap := w.heap.push (.cells (old ++ new ++ Builtin.zeroCells z.cells (cap - (k + n))) e), drawn := w.drawn + 1 } := by
  have hneed : k + n ≤ 140737488355328 := by
    have : (k + n) * 1 ≤ (k + n) * ie.bytes := Nat.mul_le_mul_left _ hb0
    omega
  refine ⟨(Question.appendCap (k + n) c e).cut (w.tape w.drawn (.appendCap (k + n) c e)), ?_, ?_, ?_⟩
  · simp only [Question.cut]; omega
  · simp only [Question.cut]
    have : 0 < 2 ^ 63 - (k + n) := by omega
    have := Nat.mod_lt (w.tape w.drawn (.appendCap (k + n) c e)) this
    unfold UNK; omega
  · have h48 : ¬ (Builtin.nextslicecap (k + n) c * ie.bytes > 2 ^ 48) := by have := growslice_fits hgt hb; omega
    have h63 : ¬ (((k + n : Nat) : Int) > IntKind.i64.max) := by simp [IntKind.max, IntKind.bits, IntKind.signed]; omega
    have hroom : ∀ (b : Nat) (w : World), (askRoom b).run P w = .ok () w := by intro b w; unfold askRoom; split <;> rfl
    simp only [Builtin.append_, ht0, ha0, ha1, ht1, Sem.run_bind, run_underlying' ht, run_underlying' ht2, Result.andThen_ok, run_sizeOf' hie, Sem.run_pure]
    cases d2 <;> first | exact absurd rfl (hd2 _) | skip
    all_goals
      simp only [Bool.false_eq_true, if_false, Sem.run_bind, hlen, Result.andThen_ok, Bool.not_false, if_true, show ¬ (k + n ≤ c) from by omega, run_typeInfo' hie, h63, false_and, false_or, and_false, if_false, h48, Sem.run_pure]
      simp only [choose, Sem.run, Question.forced, Bool.false_eq_true, if_false, Result.andThen_ok, hroom, hold, hnew, hz, Sem.run_bind, run_newRow, Sem.run_pure]

theorem cgrow_sound {e : TypeId} {ie : TypeInfo} {need : Nat} {l : List Value} {v : Value} {s1 s' : St M} {cs : Array Value} {c : Nat} {z : Value} (h : cgrow P e ie need l s1 = some (v, s')) (hie : P.info? e = some ie) (hz : czero P e = some z) (hR : Rel P w0 ρ s1 w) (hl : LRel ρ l cs.toList) (hlen : l.length = need * ie.size) (hc : need ≤ c) (hc2 : c < UNK) :
    ∃ ρ' v', v' = .slice (some ⟨w.heap.size, 0, none⟩) need c ∧ VRel ρ' v v' ∧ Rel P w0 ρ' s' { w with heap := w.heap.push (.cells (cs ++ Builtin.zeroCells z.cells (c - need)) e), drawn := w.drawn + 1 } ∧ Ext ρ s1 ρ' s' := by
  unfold cgrow at h
  rw [hz] at h
  simp only at h
  split at h
  · rename_i hcond
    cases h
    have hsz : cs.size = need * ie.size := by have := hl.length; simp at this; omega
    have hmore : (cs ++ Builtin.zeroCells z.cells (c - need)).size = c * ie.size := by
      simp only [Array.size_append, Builtin.zeroCells, Array.size_map, Array.size_range, hsz, hcond.1]
      rw [← Nat.add_mul]; congr 1; omega
    have hn := hR.none_next (Nat.le_refl s1.next)
    let i : BI := ⟨w.heap.size, 0, c * ie.size, P.cellsOf e⟩
    obtain ⟨h1, h2⟩ := (hR.drew (w.drawn + 1)).alloc (B := .cells l e true) (o := .cells (cs ++ Builtin.zeroCells z.cells (c - need)) e) (i := i) rfl (brel_cells_more hn (by simpa using VsRel.ofL hl) (fun j _ => by simp) rfl hmore.symm rfl)
    refine ⟨ρ.add s1.next i, _, rfl, .slice ⟨i, by simp, rfl, by simp [i]⟩ (.inr ⟨rfl, hc, hc2, fun j hj => ?_⟩), h1, h2⟩
    simp only [Ren.add_same, Option.some.injEq] at hj
    subst hj
    right
    simp [i, cellsOf_info hie]
  · cases h

theorem capp_sound {ts : Array TypeId} {ty : TypeId} {args args' : Array Value} {v : Value} {s' : St M} (h : capp P ts args s = some (v, s')) (hR : Rel P w0 ρ s w) (ha : VsRel ρ args args') :
    ∃ v' w' ρ', (Builtin.append_ ts ty args').run P w = .ok v' w' ∧ VRel ρ' v v' ∧ Rel P w0 ρ' s' w' ∧ Ext ρ s ρ' s' := by
  unfold capp at h
  split at h
  · cases h
  · rename_i e d2 sl x hnint hu hu2 hsl hx
    obtain ⟨t, ht0, hu⟩ := Option.bind_eq_some_iff.1 hu
    obtain ⟨t2, ht1, hu2⟩ := Option.bind_eq_some_iff.1 hu2
    have hd2 : ∀ i, d2 ≠ .int i := by
      intro i he
      exact hnint i he
    obtain ⟨sl', hsl', hslr⟩ := ha.getElem? hsl
    obtain ⟨x', hx', hxr⟩ := ha.getElem? hx
    split at h
    · cases h
    · rename_i ie hie
      split at h
      · cases h
      · rename_i n new hmore
        obtain ⟨hlen, new', hnew, hnl, hnlen⟩ := cmore_sound hmore hR hxr
        obtain ⟨hlenD, newD, hnewD, hnlD, _⟩ := cmore_sound hmore (hR.drew (w.drawn + 1)) hxr
        split at h
        · cases h
        · rename_i hok
          have hok : new.all okCell = true := by simpa using hok
          split at h
          · -- nil
            obtain ⟨rfl, rfl, rfl⟩ := hslr.nilSlice_inv
            split at h
            · rename_i h0
              cases h
              subst h0
              refine ⟨_, w, ρ, ?_, .nilSlice, hR, Ext.refl _ _⟩
              rw [run_append_room' ht0 ht1 hsl' hx' hu hu2 hd2 hie hlen hnew (by omega)]
              rfl
            · rename_i h0
              have h1 := h
              unfold cgrow at h1
              split at h1
              · rename_i z hz
                split at h1
                · rename_i hcond
                  have hold : (Builtin.firstCells ie.size 0 (.slice none 0 0)).run P { w with drawn := w.drawn + 1 } = .ok #[] { w with drawn := w.drawn + 1 } := rfl
                  obtain ⟨cap, hc1, hc2, hrun⟩ := run_append_grow' (k := 0) (c := 0) ht0 ht1 hsl' hx' hu hu2 hd2 hie hlen hnewD hold (fun w => (czero_run hz w).1) hcond.2.1 (by simpa using hcond.2.2) (by omega)
                  obtain ⟨ρ', v', e1, h3, h4, h5⟩ := cgrow_sound (cs := #[] ++ newD) (c := cap) h hie hz hR (by simpa using hnlD) hnlen (by omega) hc2
                  refine ⟨v', { w with heap := w.heap.push (.cells (#[] ++ newD ++ Builtin.zeroCells z.cells (cap - n)) e), drawn := w.drawn + 1 }, ρ', ?_, h3, h4, h5⟩
                  rw [hrun, e1]; simp only [Nat.zero_add]
                · cases h1
              · cases h1
          · rename_i a k c
            obtain ⟨a', c', rfl, har, hcr⟩ := hslr.slice_inv
            have hgrowAny : ∀ {vs old : List Value} {et : TypeId} {own : Bool} (s1 : St M), s.at' a.block = some (.cells vs et own) → cut vs a.off (k * ie.size) = some old → Rel P w0 ρ s1 w → Ext ρ s ρ s1 → cgrow P e ie (k + n) (old ++ new) s1 = some (v, s') → c' < k + n →
                ∃ v' w' ρ', (Builtin.append_ ts ty args').run P w = .ok v' w' ∧ VRel ρ' v v' ∧ Rel P w0 ρ' s' w' ∧ Ext ρ s ρ' s' := by
              intro vs old et own s1 hat hcut hR1 hE1 h hlt
              have h1 := h
              unfold cgrow at h1
              split at h1
              · rename_i z hz
                split at h1
                · rename_i hcond
                  obtain ⟨oldD, hold, hol⟩ := run_firstCells (k := k) (c' := c') (hR.drew (w.drawn + 1)) hat har hcut
                  obtain ⟨cap, hc1, hc2, hrun⟩ := run_append_grow' ht0 ht1 hsl' hx' hu hu2 hd2 hie hlen hnewD hold (fun w => (czero_run hz w).1) hcond.2.1 hcond.2.2 hlt
                  obtain ⟨ρ', v', e1, h3, h4, h5⟩ := cgrow_sound (cs := oldD ++ newD) (c := cap) h hie hz hR1 (by simpa using hol.append hnlD) (by rw [List.length_append, cut_length hcut, hnlen, Nat.add_mul]) hc1 hc2
                  exact ⟨v', _, ρ', by rw [hrun, e1], h3, h4, hE1.trans h5⟩
                · cases h1
              · cases h1
            split at h
            · -- the capacity is not known
              rename_i hcu
              obtain ⟨h1, h2⟩ | ⟨_, h2, h3, h4⟩ := hcr
              · omega
              split at h
              · rename_i h0
                cases h
                subst h0
                refine ⟨_, w, ρ, ?_, .slice har (.inr ⟨hcu, h2, h3, h4⟩), hR, Ext.refl _ _⟩
                rw [run_append_room' ht0 ht1 hsl' hx' hu hu2 hd2 hie hlen hnew (by omega)]
                have : new = [] := List.eq_nil_of_length_eq_zero (by omega)
                subst this
                have hn0 : new'.toList = [] := List.eq_nil_of_length_eq_zero (by rw [← hnl.length]; rfl)
                simp only [hn0, storeCells, Sem.run_pure, Result.andThen_ok]
                rfl
              · rename_i h0
                split at h
                · rename_i vs et hat
                  split at h
                  · rename_i het
                    obtain ⟨rfl, hal⟩ := het
                    split at h
                    · rename_i old hcut
                      obtain ⟨i, hi, hsp, rfl⟩ := har
                      obtain ⟨hRk, hEk⟩ := hR.kill hi
                      by_cases hroom : k + n ≤ c'
                      · -- in place
                        obtain ⟨o, ho, hbr⟩ := hR.blk _ _ _ hi hat
                        obtain ⟨cs, e', fr, rfl, hsz, hv, hesz, hown⟩ := hbr
                        obtain ⟨rfl, hfr, hn, hes, hsh⟩ := hown rfl
                        have hes' : i.esz = ie.size := by rw [hes, cellsOf_info hie]
                        have hlim : a.off + i.sh + c' * ie.size ≤ cs.size := by
                          rcases h4 i hi with h5 | h5
                          · rw [hes'] at h5
                            have h6 := cut_rel hcut hsz hv
                            rw [h5] at h6 ⊢
                            simp at h6 ⊢
                            omega
                          · rw [hes', ← hn] at h5; exact h5
                        have hkn : (k + n) * ie.size ≤ c' * ie.size := Nat.mul_le_mul_right _ hroom
                        have hnl2 : new'.toList.length = n * ie.size := by rw [← hnl.length]; exact hnlen
                        have hone := okCells_one hnl hok
                        unfold cgrow at h
                        split at h
                        · rename_i z hz
                          split at h
                          · rename_i hcond
                            cases h
                            have hrun := run_append_room' (ty := ty) ht0 ht1 hsl' hx' hu hu2 hd2 hie hlen hnew hroom
                            simp only [addr_add_mk] at hrun
                            rw [run_storeCells (P := P) new'.toList ho hfr (by rw [Nat.add_mul] at hkn; omega) hone] at hrun
                            simp only [Result.andThen_ok] at hrun
                            let j : BI := ⟨i.blk, a.off + i.sh, i.n, i.esz⟩
                            have hnx : ρ s.next = none := hR.none_next (Nat.le_refl _)
                            refine ⟨_, _, ρ.add s.next j, hrun, .slice ⟨j, by simp, rfl, by simp [j]⟩ (.inr ⟨rfl, hroom, h3, fun q hq => ?_⟩), ?_, ?_⟩
                            · simp only [Ren.add_same, St.next_kill, Option.some.injEq] at hq
                              subst hq
                              right
                              simp only [j, hes', ← hn]
                              omega
                            · refine hR.takeOver hi hat rfl rfl ⟨_, _, fr, rfl, ?_, fun q hq => ?_, .inr hes, fun _ => ⟨rfl, by rw [setA_size]; exact hfr, by rw [setA_size]; exact hn, hes, by rw [cellsOf_info hie] at hsh ⊢; rw [Nat.add_mod, hal, hsh]; simp⟩⟩
                              · rw [setA_size, List.length_append, cut_length hcut, hnlen]
                                have : c' * ie.size ≥ (k + n) * ie.size := hkn
                                rw [Nat.add_mul] at this
                                simp only [j]
                                omega
                              · have hle2 := Ren.le_add (ρ := ρ) (b := s.next) (i := j) hnx
                                obtain ⟨_, hco⟩ := cut_rel hcut hsz hv
                                rw [List.length_append, cut_length hcut, hnlen] at hq
                                have hbig : a.off + i.sh + k * ie.size + 0 + new'.toList.length ≤ cs.size := by rw [hnl2]; rw [Nat.add_mul] at hkn; omega
                                rw [setA_getD _ _ _ _ hbig]
                                simp only [j]
                                by_cases e : q < k * ie.size
                                · rw [if_neg (by omega)]
                                  have h6 := hco.2 q (by simp [cut_length hcut, e])
                                  have e1 : (old ++ new).getD q undef = old.toArray.getD q undef := by
                                    rw [List.getD_eq_getElem?_getD, List.getElem?_append_left (by rw [cut_length hcut]; exact e), Array.getD_eq_getD_getElem?, List.getElem?_toArray]
                                  have e2 : cs.getD (a.off + i.sh + q) undef = (cs.extract (a.off + i.sh) (a.off + i.sh + k * ie.size)).getD q undef := by
                                    rw [Array.getD_eq_getD_getElem?, Array.getD_eq_getD_getElem?, Array.getElem?_extract, if_pos (by omega)]
                                  rw [e1, e2]
                                  exact h6.mono hle2
                                · rw [if_pos (by rw [hnl2]; omega)]
                                  have e1 : (old ++ new).getD q undef = new.getD (q - k * ie.size) undef := by
                                    rw [List.getD_eq_getElem?_getD, List.getElem?_append_right (by rw [cut_length hcut]; omega), cut_length hcut, ← List.getD_eq_getElem?_getD]
                                  rw [e1, show a.off + i.sh + q - (a.off + i.sh + k * ie.size + 0) = q - k * ie.size from by omega]
                                  exact (hnl.getD _ (by rw [hnlen]; omega)).mono hle2
                            · exact hEk.trans (Ext.place j hnx (s.kill a.block) (by simp) (Ext.new ρ (s.kill a.block) _))
                          · cases h
                        · cases h
                      · exact hgrowAny (s.kill a.block) hat hcut hRk hEk h (by omega)
                    · cases h
                  · cases h
                · cases h
            · rename_i hcu
              have hcc : c' = c := by
                obtain ⟨h1, _⟩ | ⟨h1, _⟩ := hcr
                · exact h1.symm
                · exact (hcu h1).elim
              subst hcc
              split at h
              · rename_i hroom
                have hrun := run_append_room' (ty := ty) ht0 ht1 hsl' hx' hu hu2 hd2 hie hlen hnew hroom
                split at h
                · rename_i h0
                  cases h
                  subst h0
                  refine ⟨_, w, ρ, ?_, .slice har (.inl ⟨rfl, ?_⟩), hR, Ext.refl _ _⟩
                  · rw [hrun]
                    have : new = [] := List.eq_nil_of_length_eq_zero (by omega)
                    subst this
                    have hn0 : new'.toList = [] := List.eq_nil_of_length_eq_zero (by rw [← hnl.length]; rfl)
                    simp only [hn0, storeCells, Sem.run_pure, Result.andThen_ok]
                    rfl
                  · obtain ⟨_, h2⟩ | ⟨h1, _⟩ := hcr
                    · exact h2
                    · exact (hcu h1).elim
                · obtain ⟨s1, hs1, h⟩ := Option.map_eq_some_iff.1 h
                  cases h
                  obtain ⟨w', h1, h2, h3⟩ := cstoreCells_sound (P := P) (l' := new'.toList) hs1 hR (har.add _) hnl
                  refine ⟨_, w', ρ, by rw [hrun]; simp only [h1, Result.andThen_ok], .slice har (.inl ⟨rfl, ?_⟩), h2, h3⟩
                  obtain ⟨_, h2⟩ | ⟨h1, _⟩ := hcr
                  · exact h2
                  · exact (hcu h1).elim
              · rename_i hroom
                split at h
                · rename_i vs et own hat
                  split at h
                  · rename_i old hcut
                    exact hgrowAny s hat hcut hR (Ext.refl _ _) h (by omega)
                  · cases h
                · cases h
          · cases h
  · cases h
end
end Go.Cs
