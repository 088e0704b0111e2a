/- Operations that write the clean memory: maps, copies; and all of them at once. A lemma file: no statement of its own. -/
import Derived.Test.YtlijgnofegjnmaaCs11
set_option linter.unusedSimpArgs false
set_option linter.unusedVariables false
namespace Go.Cs
section
variable {M : Type} [Mem M] (P : Program)

def cmapset (t : TypeId) (m k v : Value) (s : St M) : Option (St M) :=
  match P.underlying t, m with
  | some (.map kt _), .map (some r) => match s.at' r with
    | some (.map es clock) => match cfind P kt k es with
      | some (some (i, _)) => some (s.put r (.map (es.modify i fun e => { e with key := k, val := v }) clock))
      | some none => some (s.put r (.map (es ++ [{ key := k, val := v, born := clock }]) (clock + 1)))
      | none => none
    | _ => none
  | _, _ => none

/-- Keys that are numbers, strings, or bools. -/
def keyKind (t : TypeId) : Bool :=
  match P.underlying t with
  | some (.int _) => true
  | some .string => true
  | some .bool => true
  | _ => false

def cdelete (t : TypeId) (m k : Value) (s : St M) : Option (St M) :=
  match P.underlying t, m with
  | some (.map kt _), .map (some r) => match s.at' r with
    | some (.map es clock) => match cfind P kt k es with
      | some (some (i, _)) => some (s.put r (.map (es.eraseIdx i) clock))
      | some none => some s
      | none => none
    | _ => none
  | some (.map kt _), .map none => if plain 6 k = true ∧ keyKind P kt = true then some s else none
  | _, _ => none

/-- A function without a body that the model knows. -/
def cextern (f : FuncId) (args : Array Value) : Option Value := match P.funcs[f]? with
  | some fn => if fn.body.isNone = true ∧ (fn.origin == "" || fn.origin == fn.name) = true then
      (if fn.name = "internal/abi.NoEscape" then (match args.toList with | [x] => some x | _ => none)
       else if fn.name = "internal/bytealg.abigen_runtime_cmpstring" then (match args.toList with | [.string a, .string b] => some (.int .i64 (Extern.BytealgCompare.cmp a b)) | _ => none) else none)
    else none
  | none => none

/-- An operation that writes. -/
def ceff (ev : Operand → Value) (s : St M) : Op → Option (Value × St M)
  | .store t a x => match ev a with
    | .pointer (some a) => if okPart (ev x) = true then (cstore P t a (ev x) s).map fun s' => (undef, s') else none
    | _ => none
  | .mapUpdate t m k x => (cmapset P t (ev m) (ev k) (ev x) s).map fun s' => (undef, s')
  | .insert t m k x => (cmapset P t (ev m) (ev k) (ev x) s).map fun s' => (undef, s')
  | .call c => match c.callee with
    | .builtin .append => capp P c.argTypes (c.args.map ev) s
    | .builtin .delete => match (c.argTypes[0]? : Option TypeId), (c.args[0]?).map ev, (c.args[1]?).map ev with
      | some t, some m, some k => (cdelete P t m k s).map fun s' => (undef, s')
      | _, _, _ => none
    | .builtin .unsafeString => match (c.argTypes[0]? : Option TypeId).bind P.underlying, (c.args[0]?).map ev, (c.args[1]?).map ev with
      | some (.pointer u), some (.pointer p), some (.int _ n) =>
        if (c.args.size == 2) = false then none
        else if n = 0 then some (.string .empty, s)
        else match p with
          | some a => match s.at' a.block with
            | some (.cells vs e true) => if 0 < n ∧ n ≤ 9223372036854775807 ∧ upOk P e u = true ∧ P.cellsOf e = 1 then
                (match (cut vs a.off n.toNat).bind fun l => l.mapM byteOf? with
                  | some bs => some (.string ⟨bs.toArray⟩, s.put a.block (.cells vs e false))
                  | none => none)
              else none
            | _ => none
          | none => none
      | _, _, _ => none
    | .value f => match ev f with
      | .func (.func f) first captured => (cextern P f (first ++ c.args.map ev ++ captured)).map fun v => (v, s)
      | _ => none
    | _ => none
  | _ => none
end

section
variable {M : Type} [Mem M] {P : Program} {w0 : World} {ρ : Ren} {s : St M} {w : World}

theorem run_setObj {b : Nat} {o o' : Obj} (h : w.heap[b]? = some o) (hc : ∀ c e f, o ≠ .cells c e f) : (setObj b o').run P w = .ok () { w with heap := w.heap.setIfInBounds b o' } := by
  unfold setObj
  simp only [Sem.run, h]

theorem findNow_bound (kd : TypeDesc) (k : Value) : ∀ (es : List MapEntry) (i j : Nat) (v : Value), Instr.findNow kd k es i = some (some (j, v)) → i ≤ j ∧ ∃ (h : j - i < es.length), Instr.sameNow kd k es[j - i].key = some true := by
  intro es
  induction es with
  | nil => intro i j v h; simp [Instr.findNow] at h
  | cons e es ih =>
    intro i j v h
    simp only [Instr.findNow] at h
    split at h
    · rename_i hs
      simp only [Option.some.injEq, Prod.mk.injEq] at h
      obtain ⟨rfl, _⟩ := h
      exact ⟨Nat.le_refl _, by simp, by simpa using hs⟩
    · obtain ⟨h1, h2, h3⟩ := ih _ _ _ h
      refine ⟨by omega, by simp; omega, ?_⟩
      have : j - i = (j - (i + 1)) + 1 := by omega
      simp only [this, List.getElem_cons_succ]
      exact h3
    · cases h

theorem ba_beq_iff {a b : ByteArray} : (a == b) = true ↔ a = b := by
  show (a.data == b.data) = true ↔ a = b
  rw [beq_iff_eq]
  exact ⟨fun h => ByteArray.ext h, fun h => by rw [h]⟩

theorem sameNow_bits {kd : TypeDesc} {k k' : Value} (h : Instr.sameNow kd k k' = some true) : Instr.sameBits 10000 k' k = true := by
  unfold Instr.sameNow at h
  split at h
  · split at h
    · rename_i hk
      subst hk
      simp only [Option.some.injEq, beq_iff_eq] at h
      subst h
      simp [Instr.sameBits]
    · cases h
  · simp only [Option.some.injEq, ba_beq_iff] at h
    subst h
    simp only [Instr.sameBits, ba_beq_iff]
  · simp only [Option.some.injEq, beq_iff_eq] at h
    subst h
    simp [Instr.sameBits]
  · cases h

theorem run_keyThatStays {old new : Value} (h : Instr.sameBits 10000 old new = true) (w : World) : (Instr.keyThatStays old new).run P w = .ok new w := by
  simp only [Instr.keyThatStays, h, if_true, Sem.run_pure]

theorem EsRel.modify {es : List MapEntry} {es' : Array MapEntry} (h : EsRel ρ es es') (i : Nat) {k v v' : Value} (hp : plain 6 k = true) (hv : VRel ρ v v') :
    EsRel ρ (es.modify i fun e => { e with key := k, val := v }) (es'.modify i fun e => { e with key := k, val := v' }) := by
  refine ⟨by simp [h.1], fun j hj hj' => ?_⟩
  simp only [List.length_modify] at hj
  simp only [Array.size_modify] at hj'
  obtain ⟨h1, h2, h3, h4⟩ := h.2 j hj hj'
  simp only [List.getElem_modify, Array.getElem_modify]
  by_cases e : i = j
  · simp only [if_pos e]; exact ⟨trivial, h2, hp, hv⟩
  · simp only [if_neg e]; exact ⟨h1, h2, h3, h4⟩

theorem EsRel.push {es : List MapEntry} {es' : Array MapEntry} (h : EsRel ρ es es') {k v v' : Value} {n : Nat} (hp : plain 6 k = true) (hv : VRel ρ v v') :
    EsRel ρ (es ++ [{ key := k, val := v, born := n }]) (es'.push { key := k, val := v', born := n }) := by
  refine ⟨by simp [h.1], fun j hj hj' => ?_⟩
  simp only [List.length_append, List.length_cons, List.length_nil] at hj
  have hsz := h.1
  simp only [List.getElem_append, Array.getElem_push]
  by_cases e : j < es.length
  · have e' : j < es'.size := by omega
    simp only [dif_pos e, dif_pos e']
    exact h.2 j e e'
  · have e' : ¬ j < es'.size := by omega
    simp only [dif_neg e, dif_neg e']
    have : j - es.length = 0 := by omega
    simp only [this, List.getElem_cons_zero]
    exact ⟨trivial, trivial, hp, hv⟩

theorem EsRel.erase {es : List MapEntry} {es' : Array MapEntry} (h : EsRel ρ es es') (i : Nat) (hi : i < es.length) : EsRel ρ (es.eraseIdx i) (es'.eraseIdxIfInBounds i) := by
  have hsz := h.1
  have hi' : i < es'.size := by omega
  rw [Array.eraseIdxIfInBounds, dif_pos hi']
  refine ⟨by simp [List.length_eraseIdx, hi, hsz], fun j hj hj' => ?_⟩
  simp only [List.length_eraseIdx, hi, if_true] at hj
  simp only [List.getElem_eraseIdx, Array.getElem_eraseIdx]
  by_cases e : j < i
  · simp only [dif_pos e]; exact h.2 j (by omega) (by omega)
  · simp only [dif_neg e]; exact h.2 (j + 1) (by omega) (by omega)

theorem cmapset_sound {t : TypeId} {m k v m' k' v' : Value} {s' : St M} (h : cmapset P t m k v s = some s') (hR : Rel P w0 ρ s w) (hm : VRel ρ m m') (hk : VRel ρ k k') (hv : VRel ρ v v') :
    ∃ w', (Instr.mapUpdate t m' k' v').run P w = .ok () w' ∧ Rel P w0 ρ s' w' ∧ Ext ρ s ρ s' := by
  unfold cmapset at h
  split at h
  · rename_i kt et r hu
    obtain ⟨i, rfl, hi⟩ := hm.map_inv
    split at h
    · rename_i es clock hat
      obtain ⟨o, ho, hbr⟩ := hR.blk _ _ _ hi hat
      obtain ⟨es', rfl, hes⟩ := hbr
      have hes : EsRel ρ es es' := hes
      split at h
      · rename_i j u hf
        cases h
        obtain ⟨hp, kd, hkd, hfn, hck⟩ := cfind_kind hf
        obtain ⟨u', hu1, hu2⟩ := (findNow_rel kd k es es'.toList 0 _ (by rw [Array.toArray_toList]; exact hes) hfn).2 j u rfl
        obtain ⟨_, hjl, hsame⟩ := findNow_bound kd k es 0 j u hfn
        have hjl : j < es.length := hjl
        have hj' : j < es'.size := by have := hes.1; omega
        obtain ⟨hkey, _⟩ := hes.2 j hjl hj'
        have hbits : Instr.sameBits 10000 (((es'[j]?).map (·.key)).getD k) k = true := by
          rw [Array.getElem?_eq_getElem hj']
          simp only [Option.map_some, Option.getD_some]
          rw [hkey]
          exact sameNow_bits hsame
        rw [VRel.eq_of_plain 6 hp hk]
        refine ⟨_, ?_, hR.write hi hat rfl ⟨_, rfl, hes.modify j hp hv⟩⟩
        simp only [Instr.mapUpdate, Sem.run_bind, run_underlying' hu, Result.andThen_ok, run_getObj ho (by simp), run_checkKey hck, run_findKey hkd hu1, run_keyThatStays hbits, run_setObj ho (by simp)]
      · rename_i hf
        cases h
        obtain ⟨hp, kd, hkd, hfn, hck⟩ := cfind_kind hf
        have hu1 := (findNow_rel kd k es es'.toList 0 _ (by rw [Array.toArray_toList]; exact hes) hfn).1 rfl
        rw [VRel.eq_of_plain 6 hp hk]
        refine ⟨_, ?_, hR.write hi hat rfl ⟨_, rfl, hes.push hp hv⟩⟩
        simp only [Instr.mapUpdate, Sem.run_bind, run_underlying' hu, Result.andThen_ok, run_getObj ho (by simp), run_checkKey hck, run_findKey hkd hu1, run_setObj ho (by simp)]
      · cases h
    · cases h
  · cases h

theorem setObj_same {b : Nat} {o : Obj} (h : w.heap[b]? = some o) : { w with heap := w.heap.setIfInBounds b o } = w := by
  have : w.heap.setIfInBounds b o = w.heap := by
    apply Array.ext_getElem?
    intro j
    rw [Array.getElem?_setIfInBounds]
    split
    · subst_vars
      have hlt : j < w.heap.size := by
        rcases Nat.lt_or_ge j w.heap.size with h' | h'
        · exact h'
        · rw [Array.getElem?_eq_none h'] at h; cases h
      rw [if_pos hlt]; exact h.symm
    · rfl
  rw [this]

theorem cdelete_sound {t : TypeId} {m k m' k' : Value} {s' : St M} {ts : Array TypeId} {args' : Array Value} {ty : TypeId} (h : cdelete P t m k s = some s') (hR : Rel P w0 ρ s w) (hm : VRel ρ m m') (hk : VRel ρ k k')
    (ht : ts[0]? = some t) (ha0 : args'[0]? = some m') (ha1 : args'[1]? = some k') :
    ∃ w', (Builtin.delete_ ts ty args').run P w = .ok undef w' ∧ Rel P w0 ρ s' w' ∧ Ext ρ s ρ s' := by
  unfold cdelete at h
  split at h
  · rename_i kt et r hu
    obtain ⟨i, rfl, hi⟩ := hm.map_inv
    split at h
    · rename_i es clock hat
      obtain ⟨o, ho, hbr⟩ := hR.blk _ _ _ hi hat
      obtain ⟨es', rfl, hes⟩ := hbr
      have hes : EsRel ρ es es' := hes
      split at h
      · rename_i j u hf
        cases h
        obtain ⟨hp, kd, hkd, hfn, hck⟩ := cfind_kind hf
        obtain ⟨u', hu1, hu2⟩ := (findNow_rel kd k es es'.toList 0 _ (by rw [Array.toArray_toList]; exact hes) hfn).2 j u rfl
        obtain ⟨_, hjl, _⟩ := findNow_bound kd k es 0 j u hfn
        rw [VRel.eq_of_plain 6 hp hk] at ha1
        refine ⟨_, ?_, hR.write hi hat rfl ⟨_, rfl, hes.erase j hjl⟩⟩
        simp only [Builtin.delete_, ht, ha0, ha1, Sem.run_bind, run_underlying' hu, Result.andThen_ok, run_getObj ho (by simp), run_checkKey hck, run_findKey hkd hu1, run_setObj ho (by simp), Sem.run_pure]
        rfl
      · rename_i hf
        cases h
        obtain ⟨hp, kd, hkd, hfn, hck⟩ := cfind_kind hf
        have hu1 := (findNow_rel kd k es es'.toList 0 _ (by rw [Array.toArray_toList]; exact hes) hfn).1 rfl
        rw [VRel.eq_of_plain 6 hp hk] at ha1
        refine ⟨w, ?_, hR, Ext.refl _ _⟩
        simp only [Builtin.delete_, ht, ha0, ha1, Sem.run_bind, run_underlying' hu, Result.andThen_ok, run_getObj ho (by simp), run_checkKey hck, run_findKey hkd hu1, run_setObj ho (by simp), Sem.run_pure, setObj_same ho]
        rfl
      · cases h
    · cases h
  · rename_i kt et hu
    split at h
    · rename_i hc
      cases h
      obtain rfl := hm.nilMap_inv
      have hck : (∃ i, P.underlying kt = some (.int i)) ∨ P.underlying kt = some .string ∨ P.underlying kt = some .bool := by
        have h2 := hc.2
        unfold keyKind at h2
        split at h2
        · rename_i i hi; exact .inl ⟨i, hi⟩
        · exact .inr (.inl (by assumption))
        · exact .inr (.inr (by assumption))
        · cases h2
      refine ⟨w, ?_, hR, Ext.refl _ _⟩
      simp only [Builtin.delete_, ht, ha0, ha1, Sem.run_bind, run_underlying' hu, Result.andThen_ok, run_checkKey hck, Sem.run_pure]
      rfl
    · cases h
  · cases h

theorem runSkip {α : Type} {x : Sem Unit} {w' : World} (h : x.run P w = .ok () w') : (do x; pure Next.skip : Sem Next).run P w = .ok .skip w' := by simp [h]

theorem append_rel {a a' b b' : Array Value} (h : VsRel ρ a a') (h' : VsRel ρ b b') : VsRel ρ (a ++ b) (a' ++ b') := by
  have h1 := VsRel.toL (l := a.toList) (l' := a'.toList) (by simpa using h)
  have h2 := VsRel.toL (l := b.toList) (l' := b'.toList) (by simpa using h')
  have := VsRel.ofL (h1.append h2)
  rw [show (a.toList ++ b.toList).toArray = a ++ b from by apply Array.ext'; simp, show (a'.toList ++ b'.toList).toArray = a' ++ b' from by apply Array.ext'; simp] at this
  exact this

theorem find_noEscape {fn : Func} (h : fn.name = "internal/abi.NoEscape") : Extern.find fn = some Extern.AbiNoEscape.same := by
  unfold Extern.find
  rw [h]
  rfl
theorem find_cmpstring {fn : Func} (h : fn.name = "internal/bytealg.abigen_runtime_cmpstring") : Extern.find fn = some Extern.BytealgCompare.compare := by
  unfold Extern.find
  rw [h]
  rfl
theorem findNext_none {fn : Func} (h : fn.name = "internal/abi.NoEscape" ∨ fn.name = "internal/bytealg.abigen_runtime_cmpstring") (ho : (fn.origin == "" || fn.origin == fn.name) = true) : Extern.findNext fn = none := by
  simp only [Bool.or_eq_true, beq_iff_eq] at ho
  unfold Extern.findNext
  rcases h with h | h <;> rcases ho with ho | ho <;> rw [ho, h] <;> rfl

theorem cextern_sound {f : FuncId} {args args' : Array Value} {v : Value} (h : cextern P f args = some v) (ha : VsRel ρ args args') : ∃ v', (callFunc f args').run P w = .ok (.value v') w ∧ VRel ρ v v' := by
  unfold cextern at h
  split at h
  · rename_i fn hfn
    split at h
    · rename_i hc
      have hnum : ∀ {nm : String}, fn.name = nm → (nm == "runtime.NumGoroutine") = false → (fn.name == "runtime.NumGoroutine") = false := fun e h => by rw [e]; exact h
      split at h
      · rename_i hn
        split at h
        · rename_i x he
          cases h
          have he : args = #[v] := by apply Array.ext'; exact he
          subst he
          have hsz : args'.size = 1 := by have := ha.1; simpa using this.symm
          have hx := ha.2 0 (by simp)
          have e : args' = #[args'.getD 0 undef] := by
            apply Array.ext
            · simp [hsz]
            · intro i h1 h2
              have : i = 0 := by simp at h2; omega
              subst this
              simp [Array.getD, hsz]
          generalize args'.getD 0 undef = x' at e hx
          subst e
          refine ⟨x', ?_, by simpa [Array.getD] using hx⟩
          have hsame : ∀ w : World, (Extern.AbiNoEscape.same #[x']).run P w = .ok x' w := fun w => rfl
          simp only [callFunc, program, Sem.run_bind, Sem.run, Result.andThen_ok, hfn, hnum hn rfl, hc.1, Bool.false_eq_true, if_false, if_true, mark, findNext_none (.inl hn) hc.2, find_noEscape hn, hsame, Sem.run_pure]
        · cases h
      · split at h
        · rename_i hn
          split at h
          · rename_i a b he
            cases h
            have he : args = #[.string a, .string b] := by apply Array.ext'; exact he
            subst he
            have hsz : args'.size = 2 := by have := ha.1; simpa using this.symm
            have hx := ha.2 0 (by simp)
            have hy := ha.2 1 (by simp)
            have e : args' = #[.string a, .string b] := by
              have e0 : args'.getD 0 undef = .string a := by simpa [Array.getD] using hx.string_inv
              have e1 : args'.getD 1 undef = .string b := by simpa [Array.getD] using hy.string_inv
              apply Array.ext
              · simp [hsz]
              · intro i h1 h2
                have : i = 0 ∨ i = 1 := by simp at h2; omega
                rcases this with rfl | rfl
                · simpa [Array.getD, hsz] using e0
                · simpa [Array.getD, hsz] using e1
            subst e
            refine ⟨_, ?_, .int _ _⟩
            have hcmp : ∀ w : World, (Extern.BytealgCompare.compare #[.string a, .string b]).run P w = .ok (.int .i64 (Extern.BytealgCompare.cmp a b)) w := fun w => rfl
            simp only [callFunc, program, Sem.run_bind, Sem.run, Result.andThen_ok, hfn, hnum hn rfl, hc.1, Bool.false_eq_true, if_false, if_true, mark, findNext_none (.inr hn) hc.2, find_cmpstring hn, hcmp, Sem.run_pure]
          · cases h
        · cases h
    · cases h
  · cases h

theorem run_loadBytes {b : Nat} {cs : Array Value} {e : TypeId} {fr : Nat × Nat} (hb : w.heap[b]? = some (.cells cs e fr)) : ∀ (l : List Value) (bs : List UInt8) (o : Nat) (acc : ByteArray),
    l.mapM byteOf? = some bs → o + l.length ≤ cs.size → (∀ k, k < l.length → VRel ρ (l.getD k undef) (cs.getD (o + k) undef)) → (Go.loadBytes ⟨b, o, none⟩ acc l.length).run P w = .ok ⟨acc.data ++ bs.toArray⟩ w := by
  intro l
  induction l with
  | nil => intro bs o acc h _ _; simp at h; subst h; simp [Go.loadBytes]
  | cons v l ih =>
    intro bs o acc h ho hv
    simp only [List.mapM_cons, Option.bind_eq_bind, Option.bind_eq_some_iff] at h
    obtain ⟨x, hx, bs', hbs, h⟩ := h
    cases h
    have h0 := hv 0 (by simp)
    simp only [List.length_cons] at ho
    have hlt : o < cs.size := by omega
    simp only [List.getD_cons_zero, Nat.add_zero, Array.getD, hlt, dif_pos] at h0
    have hcell : cs[o]? = some cs[o] := by simp
    unfold byteOf? at hx
    split at hx
    · rename_i m
      cases hx
      have h1 : cs[o] = .int .u8 m := h0.int_inv
      simp only [List.length_cons, Go.loadBytes, Sem.run_bind, run_load_at hb hcell, Result.andThen_ok, h1, addr_add_mk]
      rw [ih bs' (o + 1) _ hbs (by omega) (fun k hk => by have := hv (k + 1) (by simp; omega); rw [List.getD_cons_succ] at this; rw [show o + 1 + k = o + (k + 1) from by omega]; exact this)]
      congr 1
      apply ByteArray.ext
      simp [ByteArray.push]
    · cases hx

theorem freeze_eq {b o n : Nat} {cs : Array Value} {e : TypeId} {fr : Nat × Nat} (hb : w.heap[b]? = some (.cells cs e fr)) : ∃ fr', w.freeze ⟨b, o, none⟩ n = { w with heap := w.heap.setIfInBounds b (.cells cs e fr') } := by
  unfold World.freeze
  by_cases hn : n = 0
  · rw [if_pos hn]
    refine ⟨fr, ?_⟩
    have : w.heap.setIfInBounds b (.cells cs e fr) = w.heap := by
      apply Array.ext_getElem?
      intro i
      rw [Array.getElem?_setIfInBounds]
      split
      · rename_i h; subst h; split
        · exact hb.symm
        · rename_i h2; rw [Array.getElem?_eq_none (by omega)] at hb; cases hb
      · rfl
    rw [this]
  · rw [if_neg hn]
    refine ⟨if fr.1 == fr.2 then (o, o + n) else (min fr.1 o, max fr.2 (o + n)), ?_⟩
    congr 1
    apply Array.ext_getElem?
    intro i
    rw [Array.getElem?_setIfInBounds, Array.getElem?_modify]
    split
    · rename_i h; subst h
      rw [hb]
      have hlt : b < w.heap.size := by
        rcases Nat.lt_or_ge b w.heap.size with h | h
        · exact h
        · rw [Array.getElem?_eq_none h] at hb; cases hb
      simp [hlt]
    · rfl

theorem unsafeString_sound {ts : Array TypeId} {ty t u e : TypeId} {a a' : Addr} {k : IntKind} {n : Int} {vs l : List Value} {bs : List UInt8} (hR : Rel P w0 ρ s w) (ht : ts[0]? = some t) (hu : P.underlying t = some (.pointer u)) (ha : ARel ρ a a') (hat : s.at' a.block = some (.cells vs e true))
    (h0 : 0 < n) (h1 : n ≤ 9223372036854775807) (hup : upOk P e u = true) (hce : P.cellsOf e = 1) (hl : cut vs a.off n.toNat = some l) (hbs : l.mapM byteOf? = some bs) :
    (Builtin.unsafeString_ ts ty #[.pointer (some a'), .int k n]).run P w = .ok (.string ⟨bs.toArray⟩) (w.freeze a' n.toNat) ∧ Rel P w0 ρ (s.put a.block (.cells vs e false)) (w.freeze a' n.toNat) ∧ Ext ρ s ρ (s.put a.block (.cells vs e false)) := by
  obtain ⟨i, hi, hsp, rfl⟩ := ha
  obtain ⟨o, hob, hbr⟩ := hR.blk _ _ _ hi hat
  obtain ⟨cs, e', fr, rfl, hsz, hv, hesz, hown⟩ := hbr
  obtain ⟨rfl, _, _, _, hsh⟩ := hown rfl
  unfold upOk at hup
  simp only [Bool.and_eq_true, bne_iff_ne, ne_eq] at hup
  obtain ⟨⟨⟨_, h2⟩, h3⟩, _⟩ := hup
  obtain ⟨hle, hvr⟩ := cut_rel hl hsz hv
  have hlen := cut_length hl
  have hlies := liesAt_of (P := P) (e := e') (u := u) (count := cs.size / P.cellsOf e') (off := a.off + i.sh) (n := n.toNat) h3 (by rw [hce]; omega) h2 (by rw [hce]; exact Nat.mod_one _) (by rw [hce]; simpa using hle)
  have hload := run_loadBytes (P := P) (ρ := ρ) hob l bs (a.off + i.sh) .empty hbs (by rw [hlen]; exact hle) (fun k hk => by
    have := hvr.2 k (by simpa using hk)
    have e1 : (cs.extract (a.off + i.sh) (a.off + i.sh + n.toNat)).getD k undef = cs.getD (a.off + i.sh + k) undef := by
      rw [Array.getD_eq_getD_getElem?, Array.getD_eq_getD_getElem?, Array.getElem?_extract, if_pos (by omega)]
    rw [e1] at this
    simpa [Array.getD_eq_getD_getElem?] using this)
  rw [hlen] at hload
  have hn0 : ¬ n < 0 := by omega
  have hn1 : ¬ n > IntKind.i64.max := by simp [IntKind.max, IntKind.bits, IntKind.signed]; omega
  have hn2 : ¬ n = 0 := by omega
  obtain ⟨fr', hfz⟩ := freeze_eq (n := n.toNat) (o := a.off + i.sh) hob
  refine ⟨?_, ?_⟩
  · have helem : (elemOf t).run P w = .ok u w := by
      simp only [elemOf, Sem.run_bind, run_underlying' hu, Result.andThen_ok, Sem.run_pure]
    have hdef : Builtin.unsafeString_ ts ty #[.pointer (some ⟨i.blk, a.off + i.sh, none⟩), .int k n] = (do
      let m ← asInt (.int k n)
      let some pt := ts[0]? | stuck _
      if m < 0 then runtimePanic (.error _)
      if m > IntKind.i64.max then unsupported (.unsafePointer _)
      if m = 0 then pure (.string .empty)
      else if ← variablesAt ⟨i.blk, a.off + i.sh, none⟩ (← elemOf pt) m.toNat then do
        let x ← Go.loadBytes ⟨i.blk, a.off + i.sh, none⟩ .empty m.toNat
        freeze ⟨i.blk, a.off + i.sh, none⟩ m.toNat
        pure (.string x)
      else unsupported (.unsafePointer _)) := rfl
    rw [hdef]
    simp only [asInt, asIntOf, Sem.run_bind, Sem.run_pure, Result.andThen_ok, ht, hn0, hn1, hn2, if_false, helem, run_variablesAt hob, hlies, if_true, hload, freeze, Sem.run]
    simp
  · rw [hfz]
    exact hR.write hi hat rfl ⟨cs, e', fr', rfl, hsz, hv, hesz, fun h => by cases h⟩

theorem ceff_sound {o : Oper} {ev ev' : Operand → Value} {v : Value} {s' : St M} (h : ceff P ev s o.op = some (v, s')) (hR : Rel P w0 ρ s w) (hev : ∀ x ∈ o.op.operands, VRel ρ (ev x) (ev' x)) :
    EffOk P w0 ρ s s' v ((execOp ev' o).run P w) := by
  obtain ⟨dst, op, ty, pos, after, guard⟩ := o
  simp only at h hev
  cases op <;> (try (simp only [ceff] at h; cases h; done)) <;> simp only [execOp]
  case store t a x =>
    simp only [ceff] at h
    have ha := hev a (by simp [Op.operands])
    split at h
    · rename_i ad had
      rw [had] at ha
      obtain ⟨a', e, har⟩ := ha.ptr_inv
      split at h
      · rename_i hok
        obtain ⟨s1, hs1, h⟩ := Option.map_eq_some_iff.1 h
        cases h
        obtain ⟨w', h1, h2, h3⟩ := cstore_sound hs1 hR har (hev x (by simp [Op.operands])) hok
        exact ⟨.skip, w', ρ, runSkip (α := Unit) (by rw [e]; simp only [Instr.storeAt, Instr.sureAddr, Sem.run_bind, Sem.run_pure, Result.andThen_ok, h1]), .inr ⟨rfl, rfl⟩, h2, h3⟩
      · cases h
    · cases h
  case mapUpdate t m k x =>
    simp only [ceff] at h
    obtain ⟨s1, hs1, h⟩ := Option.map_eq_some_iff.1 h
    cases h
    obtain ⟨w', h1, h2, h3⟩ := cmapset_sound hs1 hR (hev m (by simp [Op.operands])) (hev k (by simp [Op.operands])) (hev x (by simp [Op.operands]))
    exact ⟨.skip, w', ρ, runSkip (α := Unit) h1, .inr ⟨rfl, rfl⟩, h2, h3⟩
  case insert t m k x =>
    simp only [ceff] at h
    obtain ⟨s1, hs1, h⟩ := Option.map_eq_some_iff.1 h
    cases h
    obtain ⟨w', h1, h2, h3⟩ := cmapset_sound hs1 hR (hev m (by simp [Op.operands])) (hev k (by simp [Op.operands])) (hev x (by simp [Op.operands]))
    exact ⟨.skip, w', ρ, runSkip (α := Unit) h1, .inr ⟨rfl, rfl⟩, h2, h3⟩
  case call c =>
    simp only [ceff] at h
    have ha := VsRel.map (ρ := ρ) c.args ev ev' (fun x hx => hev x (by simp [Op.operands, Call.operands, hx]))
    have harg : ∀ {i : Nat} {x : Value}, (c.args[i]?).map ev = some x → ∃ x', (c.args.map ev')[i]? = some x' ∧ VRel ρ x x' := by
      intro i x hx
      exact ha.getElem? (by rw [Array.getElem?_map]; exact hx)
    have hrun : ∀ {b : Builtin} {x : Sem Value} {v' : Value} {w' : World}, c.callee = .builtin b → (∀ cs, Go.builtin b c.argTypes ty cs (c.args.map ev') = do pure (.value (← x))) → x.run P w = .ok v' w' →
        (do let d ← resolve ev' c ty; invoke d.target d.args : Sem Next).run P w = .ok (.value v') w' := by
      intro b x v' w' hc hb hx
      simp only [resolve, hc, Sem.run_bind, Sem.run_pure, Result.andThen_ok, invoke, hb, hx]
    split at h
    · rename_i hb
      obtain ⟨v', w', ρ', h1, h2, h3, h4⟩ := capp_sound (ty := ty) h hR ha
      exact ⟨.value v', w', ρ', hrun hb (fun _ => rfl) h1, .inl ⟨v', rfl, h2⟩, h3, h4⟩
    · rename_i hb
      split at h
      · rename_i t m k ht hm hk
        obtain ⟨s1, hs1, h⟩ := Option.map_eq_some_iff.1 h
        cases h
        obtain ⟨m', hm1, hm2⟩ := harg hm
        obtain ⟨k', hk1, hk2⟩ := harg hk
        obtain ⟨w', h1, h2, h3⟩ := cdelete_sound (ty := ty) hs1 hR hm2 hk2 ht hm1 hk1
        exact ⟨.value undef, w', ρ, hrun hb (fun _ => rfl) h1, .inl ⟨_, rfl, VRel.undef ρ⟩, h2, h3⟩
      · cases h
    · rename_i hb
      split at h
      · rename_i u p k n hu hp hn
        obtain ⟨t, ht, hu⟩ := Option.bind_eq_some_iff.1 hu
        obtain ⟨p', hp1, hp2⟩ := harg hp
        obtain ⟨n', hn1, hn2⟩ := harg hn
        obtain rfl := hn2.int_inv
        have hsz : (c.args.map ev').size = 2 := by
          split at h
          · cases h
          · rename_i h2; simpa using h2
        have hargs : c.args.map ev' = #[p', .int k n] := by
          apply Array.ext
          · simpa using hsz
          · intro i h1 h2
            have : i = 0 ∨ i = 1 := by simp at h2; omega
            rcases this with rfl | rfl
            · rw [Array.getElem?_eq_getElem h1] at hp1; simpa using hp1
            · rw [Array.getElem?_eq_getElem h1] at hn1; simpa using hn1
        split at h
        · cases h
        split at h
        · rename_i h0
          cases h
          subst h0
          refine ⟨.value (.string .empty), w, ρ, hrun hb (fun _ => rfl) (x := Builtin.unsafeString_ c.argTypes ty (c.args.map ev')) ?_, .inl ⟨_, rfl, .string _⟩, hR, Ext.refl _ _⟩
          rw [hargs]
          have hdef : ∀ q : Option Addr, (Builtin.unsafeString_ c.argTypes ty #[.pointer q, .int k 0]).run P w = .ok (.string .empty) w := by
            intro q
            have hdef : ∀ q : Option Addr, Builtin.unsafeString_ c.argTypes ty #[.pointer q, .int k 0] = (do
                let m ← asInt (.int k 0)
                let some pt := c.argTypes[0]? | stuck _
                if m < 0 then runtimePanic (.error _)
                if m > IntKind.i64.max then unsupported (.unsafePointer _)
                match q with
                | none => if m = 0 then pure (.string .empty) else runtimePanic (.error _)
                | some a =>
                  if m = 0 then pure (.string .empty)
                  else if ← variablesAt a (← elemOf pt) m.toNat then do
                    let x ← Go.loadBytes a .empty m.toNat
                    freeze a m.toNat
                    pure (.string x)
                  else unsupported (.unsafePointer _)) := fun q => by cases q <;> rfl
            rw [hdef]
            simp only [asInt, asIntOf, Sem.run_bind, Sem.run_pure, Result.andThen_ok, ht, IntKind.max]
            cases q <;> rfl
          cases p with
          | none =>
            obtain rfl := (show p' = .pointer none by cases hp2; rfl)
            exact hdef none
          | some a =>
            obtain ⟨a', rfl, _⟩ := hp2.ptr_inv
            exact hdef (some a')
        · split at h
          · rename_i a
            obtain ⟨a', rfl, har⟩ := hp2.ptr_inv
            split at h
            · rename_i vs e hat
              split at h
              · rename_i hc
                split at h
                · rename_i bs hbs
                  cases h
                  obtain ⟨l, hl, hbs⟩ := Option.bind_eq_some_iff.1 hbs
                  obtain ⟨h1, h2, h3⟩ := unsafeString_sound (ts := c.argTypes) (ty := ty) (k := k) hR ht hu har hat hc.1 hc.2.1 hc.2.2.1 hc.2.2.2 hl hbs
                  exact ⟨.value (.string ⟨bs.toArray⟩), _, ρ, hrun hb (fun _ => rfl) (by rw [hargs]; exact h1), .inl ⟨_, rfl, .string _⟩, h2, h3⟩
                · cases h
              · cases h
            · cases h
          · cases h
      · cases h
    · rename_i f hb
      split at h
      · rename_i f0 first captured hfv
        obtain ⟨v1, hv1, h⟩ := Option.map_eq_some_iff.1 h
        cases h
        have hx := hev f (by simp [Op.operands, Call.operands, hb])
        rw [hfv] at hx
        obtain ⟨first', captured', e, h1, h2⟩ := hx.func_inv
        obtain ⟨v', h3, h4⟩ := cextern_sound (w := w) hv1 (append_rel (append_rel h1 ha) h2)
        refine ⟨.value v', w, ρ, ?_, .inl ⟨v', rfl, h4⟩, hR, Ext.refl _ _⟩
        simp only [resolve, hb, e, Deferred.ofValue, Sem.run_bind, Sem.run_pure, Result.andThen_ok, invoke, h3]
      · cases h
    · cases h
end
end Go.Cs
