/- That the model does what the clean memory does: operations that read, and that make a block. A lemma file: no statement of its own. -/
import Derived.Test.YtlijgnofegjnmaaCs7
set_option linter.unusedSimpArgs false
set_option linter.unusedVariables false
namespace Go.Cs
section
variable {M : Type} [Mem M] {P : Program} {w0 : World} {ρ : Ren} {s : St M} {w : World}

theorem sameNow_eq (kd : TypeDesc) (k a b : Value) (h : a = b) : Instr.sameNow kd k a = Instr.sameNow kd k b := by rw [h]

/-- Maps alike. -/
def EsRel (ρ : Ren) (es : List MapEntry) (es' : Array MapEntry) : Prop :=
  es'.size = es.length ∧ ∀ k (h : k < es.length) (h' : k < es'.size), es'[k].key = es[k].key ∧ es'[k].born = es[k].born ∧ plain 6 es[k].key = true ∧ VRel ρ es[k].val es'[k].val

theorem EsRel.cons {e : MapEntry} {es : List MapEntry} {e' : MapEntry} {es' : List MapEntry} (h : EsRel ρ (e :: es) (e' :: es').toArray) : e'.key = e.key ∧ VRel ρ e.val e'.val ∧ EsRel ρ es es'.toArray := by
  obtain ⟨h1, h2⟩ := h
  have h0 := h2 0 (by simp) (by simp)
  simp only [List.getElem_toArray, List.getElem_cons_zero] at h0
  refine ⟨h0.1, h0.2.2.2, by simpa using h1, fun k hk hk' => ?_⟩
  have := h2 (k + 1) (by simp; omega) (by simp at hk' ⊢; omega)
  simpa using this

theorem findNow_rel (kd : TypeDesc) (k : Value) : ∀ (es : List MapEntry) (es' : List MapEntry) (i : Nat) (r : Option (Nat × Value)), EsRel ρ es es'.toArray → Instr.findNow kd k es i = some r →
    (r = none → Instr.findNow kd k es' i = some none) ∧ (∀ j v, r = some (j, v) → ∃ v', Instr.findNow kd k es' i = some (some (j, v')) ∧ VRel ρ v v') := by
  intro es
  induction es with
  | nil =>
    intro es' i r h hf
    have : es' = [] := by have := h.1; simp at this; exact this
    subst this
    simp only [Instr.findNow, Option.some.injEq] at hf
    subst hf
    exact ⟨fun _ => rfl, fun j v e => by cases e⟩
  | cons e es ih =>
    intro es' i r h hf
    cases es' with
    | nil => have := h.1; simp at this
    | cons e' es' =>
      obtain ⟨h1, h2, h3⟩ := h.cons
      simp only [Instr.findNow] at hf ⊢
      rw [sameNow_eq kd k _ _ h1]
      split at hf
      · cases hf
        refine ⟨fun e => (by cases e), fun j v e => ?_⟩
        cases e
        exact ⟨_, rfl, h2⟩
      · exact ih es' (i + 1) r h3 hf
      · cases hf

theorem run_checkKey {b : Bool} {t : TypeId} {k : Value} (h : (∃ i, P.underlying t = some (.int i)) ∨ P.underlying t = some .string ∨ P.underlying t = some .bool) (w : World) :
    (Instr.checkKey b 10000 t k).run P w = .ok () w := by
  show (Instr.checkKey b (9999 + 1) t k).run P w = _
  rw [Instr.checkKey]
  rcases h with ⟨i, h⟩ | h | h <;> simp only [Sem.run_bind, run_underlying' h, Result.andThen_ok] <;> rfl

/-- Which kind of key a look-up goes by. -/
theorem cfind_kind {t : TypeId} {k : Value} {es : List MapEntry} {r : Option (Nat × Value)} (h : cfind P t k es = some r) :
    plain 6 k = true ∧ ∃ kd, P.underlying t = some kd ∧ Instr.findNow kd k es 0 = some r ∧ ((∃ i, P.underlying t = some (.int i)) ∨ P.underlying t = some .string ∨ P.underlying t = some .bool) := by
  unfold cfind at h
  split at h
  · rename_i hp
    refine ⟨hp, ?_⟩
    split at h
    · rename_i i hu; exact ⟨_, hu, h, .inl ⟨i, hu⟩⟩
    · rename_i hu; exact ⟨_, hu, h, .inr (.inl hu)⟩
    · rename_i hu; exact ⟨_, hu, h, .inr (.inr hu)⟩
    · cases h
  · cases h

theorem run_findKey {t : TypeId} {kd : TypeDesc} {k : Value} {es : List MapEntry} {r : Option (Nat × Value)} (hu : P.underlying t = some kd) (h : Instr.findNow kd k es 0 = some r) (w : World) :
    (Instr.findKey t k es).run P w = .ok r w := by
  simp only [Instr.findKey, Sem.run_bind, run_underlying' hu, Result.andThen_ok, h, Sem.run_pure]

theorem run_getObj {b : Nat} {o : Obj} (h : w.heap[b]? = some o) (hc : ∀ c e f, o ≠ .cells c e f) : (getObj b).run P w = .ok o w := by
  unfold getObj
  simp only [Sem.run, h]

theorem czero_run {t : TypeId} {z : Value} (h : czero P t = some z) (w : World) : (zeroValue t).run P w = .ok z w ∧ plain 6 z = true := by
  unfold czero at h
  obtain ⟨z', hz, h⟩ := Option.bind_eq_some_iff.1 h
  obtain ⟨i, hi, hz⟩ := Option.bind_eq_some_iff.1 hz
  split at h
  · cases h
    exact ⟨by simp only [zeroValue, Sem.run_bind, run_typeInfo' hi, Result.andThen_ok, hz, Sem.run_pure], by assumption⟩
  · cases h

theorem clookup_sound {t : TypeId} {m k m' k' v : Value} {ok : Bool} (h : clookup P t m k ok s = some v) (hR : Rel P w0 ρ s w) (hm : VRel ρ m m') (hk : VRel ρ k k') :
    ∃ v', (Instr.lookup t m' k' ok).run P w = .ok v' w ∧ VRel ρ v v' := by
  unfold clookup at h
  split at h
  · rename_i kt et hu
    simp only at h
    have hlook : ∀ (es : List MapEntry) (es' : Array MapEntry) (m' : Value), EsRel ρ es es' →
        ((m' = .map none ∧ es' = #[]) ∨ ∃ r clock, m' = .map (some r) ∧ w.heap[r]? = some (.map es' clock)) →
        (match cfind P kt k es with | some (some (_, v)) => some (if ok then .tuple #[v, .bool true] else v) | some none => (czero P et).map fun z => if ok then .tuple #[z, .bool false] else z | none => none) = some v →
        ∃ v', (Instr.lookup t m' k' ok).run P w = .ok v' w ∧ VRel ρ v v' := by
      intro es es' m' hes hrun hv
      have hpair : ∀ {u u' : Value} (b : Bool), VRel ρ u u' → VRel ρ (if ok then .tuple #[u, .bool b] else u) (if ok then .tuple #[u', .bool b] else u') := by
        intro u u' b hu
        cases ok
        · exact hu
        · refine .tuple (by simp) rfl fun i hi => ?_
          simp at hi
          match i, hi with
          | 0, _ => exact hu
          | 1, _ => exact .bool b
      split at hv
      · rename_i j u hf
        cases hv
        obtain ⟨hp, kd, hkd, hfn, hck⟩ := cfind_kind hf
        obtain ⟨u', hu1, hu2⟩ := (findNow_rel kd k es es'.toList 0 _ (by simpa using hes) hfn).2 j u rfl
        refine ⟨_, ?_, hpair true hu2⟩
        rw [VRel.eq_of_plain 6 hp hk]
        rcases hrun with ⟨rfl, rfl⟩ | ⟨r, clock, rfl, hr⟩
        · simp only [Instr.lookup, Sem.run_bind, run_underlying' hu, Result.andThen_ok, run_checkKey hck, run_findKey hkd hu1, Sem.run_pure]
        · simp only [Instr.lookup, Sem.run_bind, run_underlying' hu, Result.andThen_ok, run_getObj hr (by simp), run_checkKey hck, run_findKey hkd hu1, Sem.run_pure]
      · rename_i hf
        obtain ⟨z, hz, rfl⟩ := Option.map_eq_some_iff.1 hv
        obtain ⟨hp, kd, hkd, hfn, hck⟩ := cfind_kind hf
        have hu1 := (findNow_rel kd k es es'.toList 0 _ (by simpa using hes) hfn).1 rfl
        obtain ⟨hz1, hz2⟩ := czero_run hz w
        refine ⟨_, ?_, hpair false (VRel.of_plain 6 hz2)⟩
        rw [VRel.eq_of_plain 6 hp hk]
        rcases hrun with ⟨rfl, rfl⟩ | ⟨r, clock, rfl, hr⟩
        · simp only [Instr.lookup, Sem.run_bind, run_underlying' hu, Result.andThen_ok, run_checkKey hck, run_findKey hkd hu1, hz1, Sem.run_pure]
        · simp only [Instr.lookup, Sem.run_bind, run_underlying' hu, Result.andThen_ok, run_getObj hr (by simp), run_checkKey hck, run_findKey hkd hu1, hz1, Sem.run_pure]
      · cases hv
    split at h
    · obtain rfl := hm.nilMap_inv
      exact hlook [] #[] _ ⟨rfl, fun k hk => by simp at hk⟩ (.inl ⟨rfl, rfl⟩) h
    · rename_i r
      obtain ⟨i, rfl, hi⟩ := hm.map_inv
      split at h
      · rename_i es clock hat
        obtain ⟨o, ho, hb⟩ := hR.blk _ _ _ hi hat
        obtain ⟨es', rfl, hes⟩ := hb
        exact hlook es es' _ hes (.inr ⟨_, _, rfl, ho⟩) h
      · cases h
    · cases h
  · cases h

/-- The round of a conversion of bytes to a string. -/
def byteStep : Value → ByteArray → Sem (ForInStep ByteArray) := fun c s => match c with
  | .int .u8 n => pure (.yield (s.push (UInt8.ofNat n.toNat)))
  | _ => do
    (stuck "bytesToString: byte expected" : Sem PUnit)
    pure (.yield s)

theorem run_byteSteps : ∀ (l : List Value) (bs : List UInt8) (acc : ByteArray), l.mapM byteOf? = some bs → (forIn l acc byteStep : Sem ByteArray).run P w = .ok ⟨acc.data ++ bs.toArray⟩ w := by
  intro l
  induction l with
  | nil => intro bs acc h; simp at h; subst h; simp
  | cons v l ih =>
    intro bs acc h
    simp only [List.mapM_cons, Option.bind_eq_bind, Option.bind_eq_some_iff] at h
    obtain ⟨b, hb, bs', hbs, h⟩ := h
    cases h
    unfold byteOf? at hb
    split at hb
    · cases hb
      rename_i n
      simp only [List.forIn_cons, byteStep, Sem.run_bind, Sem.run_pure, Result.andThen_ok]
      rw [ih bs' _ hbs]
      simp [ByteArray.push]
    · cases hb

theorem ints_of_bytes : ∀ (l : List Value) (bs : List UInt8) (l' : List Value), l.mapM byteOf? = some bs → VsRel ρ l.toArray l'.toArray → l' = l := by
  intro l
  induction l with
  | nil => intro bs l' _ h; have := h.1; simp at this; exact List.eq_nil_of_length_eq_zero this.symm
  | cons v l ih =>
    intro bs l' h hr
    simp only [List.mapM_cons, Option.bind_eq_bind, Option.bind_eq_some_iff] at h
    obtain ⟨b, hb, bs', hbs, h⟩ := h
    cases l' with
    | nil => have := hr.1; simp at this
    | cons v' l' =>
      have h0 := hr.2 0 (by simp)
      have h1 : v' = v := by
        unfold byteOf? at hb
        split at hb
        · simpa using h0.int_inv
        · cases hb
      rw [h1, ih bs' l' hbs ⟨by have := hr.1; simpa using this, fun i hi => by have := hr.2 (i + 1) (by simpa using hi); simpa [Array.getD_eq_getD_getElem?] using this⟩]

theorem cbytes_sound {src dst e : TypeId} {a a' : Addr} {n c' : Nat} {vs l : List Value} {et : TypeId} {own : Bool} {bs : List UInt8} (hR : Rel P w0 ρ s w) (hs : P.underlying src = some (.slice e)) (hd : P.underlying dst = some .string)
    (he : P.underlying e = some (.int .u8)) (ha : ARel ρ a a') (hat : s.at' a.block = some (.cells vs et own)) (hc : cut vs a.off n = some l) (hb : l.mapM byteOf? = some bs) :
    (Go.convert src dst (.slice (some a') n c')).run P w = .ok (.string ⟨bs.toArray⟩) w := by
  obtain ⟨i, hi, hsp, rfl⟩ := ha
  obtain ⟨o, ho, hbr⟩ := hR.blk _ _ _ hi hat
  obtain ⟨cs, e', fr, rfl, hsz, hv, _⟩ := hbr
  obtain ⟨h1, h2⟩ := cut_rel hc hsz hv
  have hl := ints_of_bytes (ρ := ρ) l bs (cs.extract (a.off + i.sh) (a.off + i.sh + n)).toList hb (by rw [Array.toArray_toList]; exact h2)
  simp only [Go.convert, Sem.run_bind, run_underlying' hs, run_underlying' hd, run_underlying' he, Result.andThen_ok, Conv.bytesToString, run_loadCells ho h1]
  have := run_byteSteps (P := P) (w := w) l bs ByteArray.empty hb
  rw [← hl, Array.forIn_toList] at this
  change ((forIn (cs.extract (a.off + i.sh) (a.off + i.sh + n)) ByteArray.empty byteStep : Sem ByteArray).run P w).andThen _ = _
  rw [this]
  simp [ByteArray.empty, ByteArray.emptyWithCapacity]
  rfl

theorem run_shapeAt {b : Nat} {cs : Array Value} {e : TypeId} {fr : Nat × Nat} (hb : w.heap[b]? = some (.cells cs e fr)) : (Go.shape b).run P w = .ok (some (e, cs.size)) w := by
  simp [Go.shape, Sem.run, World.shape?, hb]
theorem run_viewAt {b : Nat} {cs : Array Value} {e : TypeId} {fr : Nat × Nat} (hb : w.heap[b]? = some (.cells cs e fr)) : (viewAt b).run P w = .ok none w := by
  simp only [viewAt, Sem.run_bind, run_shapeAt hb, Result.andThen_ok, Option.isSome_some, if_true, Sem.run_pure]
theorem run_seenAt {b o : Nat} {cs : Array Value} {e : TypeId} {fr : Nat × Nat} (hb : w.heap[b]? = some (.cells cs e fr)) : (Conv.seenAt ⟨b, o, none⟩).run P w = .ok ⟨b, o, none⟩ w := by
  simp only [Conv.seenAt, Sem.run_bind, run_viewAt hb, Result.andThen_ok, Sem.run_pure]
theorem run_cellsIn {b : Nat} {cs : Array Value} {e : TypeId} {fr : Nat × Nat} (hb : w.heap[b]? = some (.cells cs e fr)) : (cellsIn b).run P w = .ok (some cs.size) w := by
  simp only [cellsIn, Sem.run_bind, run_shapeAt hb, Result.andThen_ok, Sem.run_pure]
theorem run_variablesAt {b o n : Nat} {u : TypeId} {cs : Array Value} {e : TypeId} {fr : Nat × Nat} (hb : w.heap[b]? = some (.cells cs e fr)) : (variablesAt ⟨b, o, none⟩ u n).run P w = .ok (liesAt P P.depth e (cs.size / P.cellsOf e) o u n) w := by
  simp only [variablesAt, program, Sem.run_bind, Sem.run, run_shapeAt hb, Result.andThen_ok, Sem.run_pure]

theorem liesAt_of {e u : TypeId} {count off n : Nat} (hd : P.depth ≠ 0) (hs : P.cellsOf e ≠ 0) (hl : sameLayout P P.depth e u = true) (ho : off % P.cellsOf e = 0) (hn : off / P.cellsOf e + n ≤ count) : liesAt P P.depth e count off u n = true := by
  obtain ⟨d, hd⟩ : ∃ d, P.depth = d + 1 := ⟨P.depth - 1, by omega⟩
  rw [hd] at hl ⊢
  rw [liesAt, hd, rowAt]
  simp only [hs, if_false, ho, beq_self_eq_true, Bool.true_and, hl, Bool.and_true]
  simp [hn]

theorem run_toUnsafe {src dst t e : TypeId} {a a' : Addr} {vs : List Value} {own : Bool} (hR : Rel P w0 ρ s w) (hs : P.underlying src = some (.pointer t)) (hd : P.underlying dst = some .unsafePointer) (ht : (P.info? t).any (fun i => i.size != 0) = true)
    (ha : ARel ρ a a') (hat : s.at' a.block = some (.cells vs e own)) (ho : a.off < vs.length) : (Go.convert src dst (.pointer (some a'))).run P w = .ok (.pointer (some a')) w := by
  obtain ⟨i, hi, hsp, rfl⟩ := ha
  obtain ⟨o, hob, hbr⟩ := hR.blk _ _ _ hi hat
  obtain ⟨cs, e', fr, rfl, hsz, _⟩ := hbr
  obtain ⟨ti, hti, hts⟩ : ∃ ti, P.info? t = some ti ∧ ti.size ≠ 0 := by
    cases h : P.info? t with
    | none => rw [h] at ht; cases ht
    | some ti => rw [h] at ht; exact ⟨ti, rfl, by simpa using ht⟩
  simp only [Go.convert, Sem.run_bind, run_underlying' hs, run_underlying' hd, Result.andThen_ok, Conv.unsafePointer, run_seenAt hob, run_cellsIn hob, run_sizeOf' hti, Sem.run_pure]
  rw [if_neg]
  · rfl
  · simp only [hts, Bool.or_eq_true, decide_eq_true_eq, false_or]
    simp
    omega

theorem run_ofUnsafe {src dst u e : TypeId} {a a' : Addr} {vs : List Value} (hR : Rel P w0 ρ s w) (hs : P.underlying src = some .unsafePointer) (hd : P.underlying dst = some (.pointer u)) (hu : upOk P e u = true)
    (ha : ARel ρ a a') (hat : s.at' a.block = some (.cells vs e true)) (hal : a.off % P.cellsOf e = 0) (ho : a.off + P.cellsOf e ≤ vs.length) : (Go.convert src dst (.pointer (some a'))).run P w = .ok (.pointer (some a')) w := by
  obtain ⟨i, hi, hsp, rfl⟩ := ha
  obtain ⟨o, hob, hbr⟩ := hR.blk _ _ _ hi hat
  obtain ⟨cs, e', fr, rfl, hsz, _, _, hown⟩ := hbr
  obtain ⟨rfl, _, _, _, hsh⟩ := hown rfl
  unfold upOk at hu
  simp only [Bool.and_eq_true, bne_iff_ne, ne_eq] at hu
  obtain ⟨⟨⟨h1, h2⟩, h3⟩, h4⟩ := hu
  obtain ⟨ei, hei, hes⟩ : ∃ ti, P.info? e' = some ti ∧ ti.size ≠ 0 := by
    cases h : P.info? e' with
    | none => rw [h] at h1; cases h1
    | some ti => rw [h] at h1; exact ⟨ti, rfl, by simpa using h1⟩
  obtain ⟨ui, hui, hus⟩ : ∃ ti, P.info? u = some ti ∧ ti.size ≠ 0 := by
    cases h : P.info? u with
    | none => rw [h] at h4; cases h4
    | some ti => rw [h] at h4; exact ⟨ti, rfl, by simpa using h4⟩
  have hce : P.cellsOf e' ≠ 0 := by rw [cellsOf_info hei]; exact hes
  have hlies := liesAt_of (P := P) (e := e') (u := u) (count := cs.size / P.cellsOf e') (off := a.off + i.sh) (n := 1) h3 hce h2 (by rw [Nat.add_mod, hal, hsh]; simp) (by
    rw [← Nat.add_div_right _ (by omega)]
    exact Nat.div_le_div_right (by omega))
  simp only [Go.convert, Sem.run_bind, run_underlying' hs, run_underlying' hd, Result.andThen_ok, Conv.unsafePointer, run_seenAt hob, run_sizeOf' hui, run_variablesAt hob, hlies, Sem.run_pure]
  simp

theorem cread_sound {o : Oper} {ev ev' : Operand → Value} {v : Value} (h : cread P ev s o.op = some v) (hR : Rel P w0 ρ s w) (hev : ∀ x ∈ o.op.operands, VRel ρ (ev x) (ev' x)) :
    ∃ v', (execOp ev' o).run P w = .ok (.value v') w ∧ VRel ρ v v' := by
  obtain ⟨dst, op, ty, pos, after, guard⟩ := o
  simp only at h hev
  cases op <;> (try (simp only [cread] at h; cases h; done)) <;> simp only [execOp]
  case load t x =>
    simp only [cread] at h
    have hx := hev x (by simp [Op.operands])
    split at h
    · rename_i a ha
      rw [ha] at hx
      obtain ⟨a', e, har⟩ := hx.ptr_inv
      obtain ⟨v', h1, h2⟩ := cload_sound h hR har
      rw [e]
      exact ⟨v', by simp only [Instr.loadAt, Instr.sureAddr, Sem.run_bind, Sem.run_pure, Result.andThen_ok, h1], h2⟩
    · cases h
  case lookup t m k ok =>
    simp only [cread] at h
    obtain ⟨v', h1, h2⟩ := clookup_sound h hR (hev m (by simp [Op.operands])) (hev k (by simp [Op.operands]))
    exact ⟨v', by simp only [Sem.run_bind, h1, Result.andThen_ok, Sem.run_pure], h2⟩
  case binOp op t x y yt =>
    simp only [cread] at h
    have hx := hev x (by simp [Op.operands])
    have hy := hev y (by simp [Op.operands])
    split at h
    · rename_i a b e hxa hyb hu
      rw [hxa] at hx; rw [hyb] at hy
      obtain ⟨a', e1, i, hi, hsa, rfl⟩ := hx.ptr_inv
      obtain ⟨b', e2, j, hj, hsb, rfl⟩ := hy.ptr_inv
      split at h
      · rename_i ie hie
        split at h
        · rename_i hc
          obtain ⟨hc1, hc2, _, _⟩ := hc
          have hij : j = i := by rw [hc1, hj] at hi; exact Option.some.inj hi
          subst hij
          have heq : (Op.equal t (.pointer (some ⟨j.blk, a.off + j.sh, none⟩)) (.pointer (some ⟨j.blk, b.off + j.sh, none⟩))).run P w = .ok (a.off == b.off) w := by
            show (Op.equalIn (9999 + 1) t _ _).run P w = _
            rw [Op.equalIn]
            simp only [Sem.run_bind, run_underlying' hu, Result.andThen_ok, run_sizeOf' hie, hc2, ne_eq, not_false_eq_true, if_true, sameAddr, beq_self_eq_true, Sem.run_pure]
            congr 1
            rw [Bool.eq_iff_iff]
            simp
          rw [e1, e2]
          split at h
          · cases h
            refine ⟨_, ?_, .bool _⟩
            simp only [eqGuard, Go.binOp, Sem.run_bind, Sem.run_pure, Result.andThen_ok, Bool.not_true, Bool.false_eq_true, if_false, heq]
          · cases h
            refine ⟨_, ?_, .bool _⟩
            simp only [eqGuard, Go.binOp, Sem.run_bind, Sem.run_pure, Result.andThen_ok, Bool.not_true, Bool.false_eq_true, if_false, heq]
          · cases h
        · cases h
      · cases h
    · cases h
  case convert src d x =>
    simp only [cread] at h
    have hx := hev x (by simp [Op.operands])
    split at h
    · rename_i e a n c hs hd hxa
      rw [hxa] at hx
      obtain ⟨a', c', e1, har, _⟩ := hx.slice_inv
      split at h
      · rename_i vs et own he hat
        split at h
        · rename_i l hl
          obtain ⟨bs, hbs, rfl⟩ := Option.map_eq_some_iff.1 h
          rw [e1]
          exact ⟨_, by rw [Sem.run_bind, cbytes_sound hR hs hd he har hat hl hbs]; rfl, .string _⟩
        · cases h
      · cases h
    · rename_i e n c hs hd hxa
      rw [hxa] at hx
      obtain ⟨e1, _, _⟩ := hx.nilSlice_inv
      split at h
      · rename_i he
        cases h
        rw [e1]
        exact ⟨_, by simp only [Go.convert, Sem.run_bind, run_underlying' hs, run_underlying' hd, run_underlying' he, Result.andThen_ok, Conv.bytesToString, Sem.run_pure], .string _⟩
      · cases h
    · rename_i t a hs hd hxa
      rw [hxa] at hx
      obtain ⟨a', e1, har⟩ := hx.ptr_inv
      split at h
      · rename_i vs e own hat
        split at h
        · rename_i hc
          cases h
          rw [e1]
          exact ⟨_, by rw [Sem.run_bind, run_toUnsafe hR hs hd hc.1 har hat hc.2]; rfl, .ptr har⟩
        · cases h
      · cases h
    · rename_i u a hs hd hxa
      rw [hxa] at hx
      obtain ⟨a', e1, har⟩ := hx.ptr_inv
      split at h
      · rename_i vs e hat
        split at h
        · rename_i hc
          cases h
          rw [e1]
          exact ⟨_, by rw [Sem.run_bind, run_ofUnsafe hR hs hd hc.1 har hat hc.2.1 hc.2.2]; rfl, .ptr har⟩
        · cases h
      · cases h
    · cases h
  case slice t x lo hi mx =>
    cases mx with
    | some _ => simp only [cread] at h; cases h
    | none =>
      simp only [cread] at h
      have hx := hev x (by simp [Op.operands])
      split at h
      · rename_i e a n c hu hxa
        rw [hxa] at hx
        obtain ⟨a', c', e1, har, hcr⟩ := hx.slice_inv
        split at h
        · rename_i ie hh hie hch
          split at h
          · rename_i l vs et own hcl hat
            split at h
            · rename_i hcond
              cases h
              obtain ⟨rfl, hln, hes⟩ := hcond
              obtain ⟨h1, h2⟩ | ⟨_, h2, h3, h4⟩ := hcr
              · omega
              obtain ⟨i, hi', hsp, rfl⟩ := har
              obtain ⟨o, ho, hbr⟩ := hR.blk _ _ _ hi' hat
              obtain ⟨cs, e'', fr, rfl, hsz, hv, hesz, _⟩ := hbr
              have hb : ∀ {o : Option Operand} {d most most' m : Nat}, (∀ u, o = some u → VRel ρ (ev u) (ev' u)) → cbound (o.map ev) d most = some m → most ≤ most' →
                  (o = none ∧ m = d) ∨ (∃ u, o = some u ∧ m ≤ most ∧ ∀ code w, (Instr.sliceBound (ev' u) most' code).run P w = .ok m w) := by
                intro o d most most' m ho hc hm
                cases o with
                | none => simp only [Option.map_none, cbound, Option.some.injEq] at hc; exact .inl ⟨rfl, hc.symm⟩
                | some u =>
                  have := cbound_sound (P := P) (v' := some (ev' u)) hc (fun x hx => by simp only [Option.map_some, Option.some.injEq] at hx; subst hx; exact ⟨_, rfl, ho u rfl⟩) (by simp) hm
                  rcases this with ⟨h1, _⟩ | ⟨x', h1, h2, h3⟩
                  · simp at h1
                  · cases h1; exact .inr ⟨u, rfl, h2, h3⟩
              have hhn : hh ≤ n := by
                rcases hb (fun u hu => hev u (by simp [Op.operands, hu])) hch (Nat.le_refl _) with ⟨_, rfl⟩ | ⟨_, _, h5, _⟩ <;> omega
              rw [e1]
              refine ⟨.slice (some ((⟨i.blk, a.off + i.sh, none⟩ : Addr).add (l * ie.size))) (hh - l) (c' - l), ?_, .slice (ARel.add ⟨i, hi', hsp, rfl⟩ _) (.inr ⟨rfl, by omega, by omega, ?_⟩)⟩
              · simp only [Instr.sliceAt, Sem.run_bind, run_underlying' hu, Result.andThen_ok, Instr.slice, Instr.sliceBounds, Sem.run_pure, Option.map_none]
                rcases hb (o := hi) (fun u hu => hev u (by simp [Op.operands, hu])) hch h2 with ⟨rfl, rfl⟩ | ⟨u1, rfl, hh0, hr1⟩ <;> rcases hb (o := lo) (fun u hu => hev u (by simp [Op.operands, hu])) hcl (Nat.le_refl _) with ⟨rfl, rfl⟩ | ⟨u2, rfl, hl0, hr2⟩ <;>
                  simp only [Option.map_none, Option.map_some, Option.isSome_none, Bool.false_eq_true, if_false, Sem.run_bind, Sem.run_pure, Result.andThen_ok, run_sizeOf' hie, *] <;>
                  (rw [if_neg (by omega)])
              · intro i2 hi2
                have hb2 : (a.add (l * ie.size)).block = a.block := by unfold Addr.add; split <;> rfl
                have ho2 : (a.add (l * ie.size)).off = a.off + l * ie.size := by unfold Addr.add; split <;> simp_all
                rw [hb2, hi'] at hi2
                cases hi2
                rcases h4 i hi' with h5 | h5
                · exact .inl h5
                · rcases hesz with h6 | h6
                  · exact .inl h6
                  · right
                    rw [ho2, h6, hes]
                    rw [h6, hes] at h5
                    have : (c' - l) * ie.size + l * ie.size = c' * ie.size := by rw [← Nat.add_mul]; congr 1; omega
                    omega
            · cases h
          · cases h
        · cases h
      · cases h
  case call c =>
    simp only [cread] at h
    split at h
    · rename_i hb
      split at h
      · rename_i kt et r hu hx
        obtain ⟨t, ht, hu⟩ := Option.bind_eq_some_iff.1 hu
        obtain ⟨x, hx0, hx1⟩ := Option.map_eq_some_iff.1 hx
        have hxr := hev x (by simp only [Op.operands, Call.operands, hb]; simp; exact Array.mem_of_getElem? hx0)
        rw [hx1] at hxr
        obtain ⟨i, e, hi⟩ := hxr.map_inv
        split at h
        · rename_i es clock hat
          cases h
          obtain ⟨o, ho, hbr⟩ := hR.blk _ _ _ hi hat
          obtain ⟨es', rfl, hes⟩ := hbr
          refine ⟨_, ?_, .int _ _⟩
          have hx' : (c.args.map ev')[0]? = some (.map (some i.blk)) := by rw [Array.getElem?_map, hx0]; simp [e]
          simp only [resolve, hb, Sem.run_bind, Sem.run_pure, Result.andThen_ok, invoke, Go.builtin, Builtin.len_, ht, hx', run_underlying' hu, run_getObj ho (by simp), hes.1]
          rfl
        · cases h
      · cases h
    · cases h
end
end Go.Cs
