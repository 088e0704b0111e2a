/- The clean memory, part B. A lemma file: no statement of its own. -/
import Derived.Test.YtjjbmmgafclcaaaGreatqFwA
import Derived.Laws.Append
set_option linter.unusedSimpArgs false
set_option linter.unusedVariables false
namespace Go.Cs
section
variable {M : Type} [Mem M] (P : Program)
def byteOf? : Value → Option UInt8
  | .int .u8 n => some (UInt8.ofNat n.toNat)
  | _ => none
def cfind (t : TypeId) (k : Value) (es : List MapEntry) : Option (Option (Nat × Value)) :=
  if plain 6 k = true then
    match P.underlying t with
    | some (.int i) => Instr.findNow (.int i) k es 0
    | some .string => Instr.findNow .string k es 0
    | some .bool => Instr.findNow .bool k es 0
    | _ => none
  else none
def czero (t : TypeId) : Option Value := ((P.info? t).bind (·.zero)).bind fun z => if plain 6 z = true then some z else none
def clookup (t : TypeId) (m k : Value) (ok : Bool) (s : St M) : Option Value :=
  match P.underlying t with
  | some (.map kt et) =>
    let look (es : List MapEntry) : Option Value :=
      match cfind P kt k es with
      | some (some (_, v)) => some (if ok then .tuple #[v, .bool true] else v)
      | some none => (czero P et).map fun z => if ok then .tuple #[z, .bool false] else z
      | none => none
    match m with
    | .map none => look []
    | .map (some r) => match s.at' r with
      | some (.map es _) => look es
      | _ => none
    | _ => none
  | _ => none
def upOk (e u : TypeId) : Bool := (P.info? e).any (fun i => i.size != 0) && sameLayout P P.depth e u && P.depth != 0 && (P.info? u).any (fun i => i.size != 0)
def cread (ev : Operand → Value) (s : St M) : Op → Option Value
  | .load t x => match ev x with
    | .pointer (some a) => cload P t a s
    | _ => none
  | .lookup t m k ok => clookup P t (ev m) (ev k) ok s
  | .binOp op t x y _ => match ev x, ev y, P.underlying t with
    | .pointer (some a), .pointer (some b), some (.pointer e) => match P.info? e with
      | some ie =>
        if a.block = b.block ∧ ie.size ≠ 0 ∧ a.spot = none ∧ b.spot = none then
          match op with
          | .eql => some (.bool (a.off == b.off))
          | .neq => some (.bool (!(a.off == b.off)))
          | _ => none
        else none
      | none => none
    | _, _, _ => none
  | .convert src dst x => match P.underlying src, P.underlying dst, ev x with
    | some (.slice e), some .string, .slice (some a) n _ => match P.underlying e, s.at' a.block with
      | some (.int .u8), some (.cells vs _ _) => match cut vs a.off n with
        | some l => (l.mapM byteOf?).map fun bs => .string ⟨bs.toArray⟩
        | none => none
      | _, _ => none
    | some (.slice e), some .string, .slice none _ _ => match P.underlying e with
      | some (.int .u8) => some (.string .empty)
      | _ => none
    | some (.pointer t), some .unsafePointer, .pointer (some a) => match s.at' a.block with
      | some (.cells vs _ _) => if (P.info? t).any (fun i => i.size != 0) = true ∧ a.off < vs.length then some (.pointer (some a)) else none
      | _ => none
    | some .unsafePointer, some (.pointer u), .pointer (some a) => match s.at' a.block with
      | some (.cells vs e true) => if upOk P e u = true ∧ a.off % P.cellsOf e = 0 ∧ a.off + P.cellsOf e ≤ vs.length then some (.pointer (some a)) else none
      | _ => none
    | _, _, _ => none
  | .slice t x lo hi none => match P.underlying t, ev x with
    | some (.slice e), .slice (some a) n c => match P.info? e, cbound (hi.map ev) n n with
      | some ie, some h => match cbound (lo.map ev) 0 h, s.at' a.block with
        | some l, some (.cells _ e' _) => if c = UNK ∧ l < n ∧ P.cellsOf e' = ie.size then some (.slice (some (a.add (l * ie.size))) (h - l) UNK) else none
        | _, _ => none
      | _, _ => none
    | _, _ => none
  | .call c => match c.callee with
    | .builtin .len => match c.argTypes[0]?.bind P.underlying, (c.args[0]?).map ev with
      | some (.map _ _), some (.map (some r)) => match s.at' r with
        | some (.map es _) => some (.int .i64 es.length)
        | _ => none
      | _, _ => none
    | _ => none
  | _ => none
def czeros (z : Value) (n : Nat) : List Value := ((Array.range n).map (z.cells[· % z.cells.size]!)).toList
def zerosOf (e : TypeId) (n : Nat) : Option (List Value) :=
  if n = 0 then some []
  else match czero P e with
    | some z => if z.cells.size = 0 then none else some (czeros z n)
    | none => none
def calloc (ev : Operand → Value) : Op → Option (Blk × (Nat → Value))
  | .alloc t => (czero P t).map fun z => (.cells z.cells.toList t true, fun b => .pointer (some ⟨b, 0, none⟩))
  | .box t x => if okPart (ev x) = true ∧ (P.info? t).isSome then some (.cells (ev x).cells.toList t true, fun b => .pointer (some ⟨b, 0, none⟩)) else none
  | .buildSlice t len parts => match P.underlying t with
    | some (.slice e) => match P.info? e with
      | some ie => if len * ie.size ≤ 65536 ∧ len < UNK ∧ (parts.toList.all fun x => okPart (ev x.2)) = true then
          match zerosOf P e (len * ie.size) with
          | some z => match Instr.fill (fun i => some (i * ie.size, ie.size)) z.toArray (parts.map fun x => (x.1, ev x.2)).toList with
            | some cells => some (.cells cells.toList e true, fun b => .slice (some ⟨b, 0, none⟩) len len)
            | none => none
          | none => none
        else none
      | none => none
    | _ => none
  | .makeMap _ none => some (.map [] 0, fun b => .map (some b))
  | .makeSlice t l c => match P.underlying t, ev l, ev c with
    | some (.slice e), .int _ l, .int _ c => match P.info? e with
      | some ie => if 0 ≤ l ∧ l ≤ c ∧ c ≤ 4294967296 ∧ c * ie.bytes ≤ 281474976710656 then
          match zerosOf P e (c.toNat * ie.size) with
          | some z => some (.cells z e true, fun b => .slice (some ⟨b, 0, none⟩) l.toNat c.toNat)
          | none => none
        else none
      | none => none
    | _, _, _ => none
  | .range t x => match P.underlying t, ev x with
    | some .string, .string s => some (.strIter s 0, fun b => .pointer (some ⟨b, 0, none⟩))
    | _, _ => none
  | .convert src dst x => match P.underlying src, P.underlying dst, ev x with
    | some .string, some (.slice e), .string s => match P.underlying e with
      | some (.int .u8) => if s.size < UNK ∧ (P.info? e).any (fun i => i.size == 1) then some (.cells (s.data.toList.map fun b => .int .u8 b.toNat) e true, fun b => .slice (some ⟨b, 0, none⟩) s.size UNK) else none
      | _ => none
    | _, _, _ => none
  | _ => none
end
section
variable {M : Type} [Mem M] {P : Program} {w0 : World} {ρ : Ren} {s : St M} {w : World}
theorem run_load_at {w : World} {b o : Nat} {cs : Array Value} {e : TypeId} {fr : Nat × Nat} {v : Value} (hb : w.heap[b]? = some (.cells cs e fr)) (h : cs[o]? = some v) :
    (load ⟨b, o, none⟩).run P w = .ok v w := by
  simp [load, Sem.run, World.cell?, hb, h]
theorem addr_add_mk (b o i : Nat) : (⟨b, o, none⟩ : Addr).add i = ⟨b, o + i, none⟩ := by
  unfold Addr.add
  split
  · simp [*]
  · rfl
theorem run_loadCellsFrom {w : World} {b o : Nat} {cs : Array Value} {e : TypeId} {fr : Nat × Nat} (hb : w.heap[b]? = some (.cells cs e fr)) :
    ∀ (n i : Nat) (acc : Array Value), o + i + n ≤ cs.size → (loadCellsFrom ⟨b, o, none⟩ i n acc).run P w = .ok (acc ++ cs.extract (o + i) (o + i + n)) w := by
  intro n
  induction n with
  | zero => intro i acc _; simp [loadCellsFrom]; omega
  | succ n ih =>
    intro i acc h
    have hv : cs[o + i]? = some cs[o + i] := by simp
    simp only [loadCellsFrom, Sem.run_bind, addr_add_mk, run_load_at hb hv, Result.andThen_ok]
    rw [ih (i + 1) _ (by omega)]
    congr 1
    rw [Array.push_eq_append, Array.append_assoc]
    congr 1
    apply Array.ext'
    have hl : o + i < cs.toList.length := by simp; omega
    simp only [Array.toList_append, Array.toList_extract, List.extract_eq_take_drop]
    rw [show o + i + (n + 1) - (o + i) = n + 1 from by omega, show o + (i + 1) + n - (o + (i + 1)) = n from by omega]
    rw [show o + (i + 1) = o + i + 1 from by omega, List.drop_eq_getElem_cons hl]
    simp
theorem run_loadCells {w : World} {b o n : Nat} {cs : Array Value} {e : TypeId} {fr : Nat × Nat} (hb : w.heap[b]? = some (.cells cs e fr)) (h : o + n ≤ cs.size) :
    (loadCells ⟨b, o, none⟩ n).run P w = .ok (cs.extract o (o + n)) w := by
  have := run_loadCellsFrom (P := P) hb n 0 #[] (by simpa using h)
  simpa [loadCells] using this
theorem cut_rel {vs l : List Value} {cs : Array Value} {sh off n : Nat} (h : cut vs off n = some l) (hsz : sh + vs.length ≤ cs.size) (hv : ∀ k, k < vs.length → VRel ρ (vs.getD k undef) (cs.getD (sh + k) undef)) :
    off + sh + n ≤ cs.size ∧ VsRel ρ l.toArray (cs.extract (off + sh) (off + sh + n)) := by
  unfold cut at h
  split at h
  · rename_i hle
    cases h
    refine ⟨by omega, ⟨by simp; omega, fun i hi => ?_⟩⟩
    simp only [List.size_toArray, List.length_take, List.length_drop] at hi
    have h0 := hv (off + i) (by omega)
    have e1 : (((vs.drop off).take n).toArray).getD i undef = vs.getD (off + i) undef := by
      rw [Array.getD_eq_getD_getElem?, List.getElem?_toArray, List.getElem?_take, if_pos (by omega), List.getElem?_drop, ← List.getD_eq_getElem?_getD]
    have e2 : (cs.extract (off + sh) (off + sh + n)).getD i undef = cs.getD (sh + (off + i)) undef := by
      rw [Array.getD_eq_getD_getElem?, Array.getD_eq_getD_getElem?, Array.getElem?_extract, if_pos (by omega)]
      congr 2; omega
    rw [e1, e2]
    exact h0
  · cases h
theorem cload_sound {t : TypeId} {a : Addr} {a' : Addr} {v : Value} (h : cload P t a s = some v) (hR : Rel P w0 ρ s w) (ha : ARel ρ a a') :
    ∃ v', (loadVar t a').run P w = .ok v' w ∧ VRel ρ v v' := by
  unfold cload at h
  obtain ⟨i, hi, hsp, rfl⟩ := ha
  split at h
  · rename_i vs e own hat
    obtain ⟨o, ho, hb⟩ := hR.blk _ _ _ hi hat
    obtain ⟨cs, e', fr, rfl, hsz, hv, _⟩ := hb
    split at h
    · rename_i hagg
      obtain ⟨ti, hti⟩ := info_of_agg hagg
      obtain ⟨l, hl, rfl⟩ := Option.map_eq_some_iff.1 h
      obtain ⟨h1, h2⟩ := cut_rel hl hsz hv
      rw [cellsOf_info hti] at h1 h2
      refine ⟨_, ?_, .agg h2.1 h2.2⟩
      simp only [loadVar, Sem.run_bind, run_isAgg hagg, Result.andThen_ok, if_true, run_sizeOf' hti, run_loadCells ho h1, Sem.run_pure]
    · rename_i hagg
      have hlt : a.off < vs.length := by
        rcases Nat.lt_or_ge a.off vs.length with h' | h'
        · exact h'
        · rw [List.getElem?_eq_none h'] at h; cases h
      have hc : a.off + i.sh < cs.size := by omega
      have hr := hv a.off hlt
      rw [List.getD_eq_getElem?_getD, h, Nat.add_comm i.sh] at hr
      have hcv : cs[a.off + i.sh]? = some cs[a.off + i.sh] := by simp
      refine ⟨cs[a.off + i.sh], ?_, by simpa [Array.getD, hc] using hr⟩
      simp only [loadVar, Sem.run_bind, run_isAgg hagg, Result.andThen_ok, Bool.false_eq_true, if_false]
      exact run_load_at ho hcv
    · cases h
  · cases h
end
end Go.Cs
namespace Go.Cs
section
variable {M : Type} [Mem M] {P : Program} {w0 : World} {ρ : Ren} {s : St M} {w : World}
theorem sameNow_eq (kd : TypeDesc) (k a b : Value) (h : a = b) : Instr.sameNow kd k a = Instr.sameNow kd k b := by rw [h]
def EsRel (ρ : Ren) (es : List MapEntry) (es' : Array MapEntry) : Prop :=
  es'.size = es.length ∧ ∀ k (h : k < es.length) (h' : k < es'.size), es'[k].key = es[k].key ∧ es'[k].born = es[k].born ∧ plain 6 es[k].key = true ∧ VRel ρ es[k].val es'[k].val
theorem EsRel.cons {e : MapEntry} {es : List MapEntry} {e' : MapEntry} {es' : List MapEntry} (h : EsRel ρ (e :: es) (e' :: es').toArray) : e'.key = e.key ∧ VRel ρ e.val e'.val ∧ EsRel ρ es es'.toArray := by
  obtain ⟨h1, h2⟩ := h
  have h0 := h2 0 (by simp) (by simp)
  simp only [List.getElem_toArray, List.getElem_cons_zero] at h0
  refine ⟨h0.1, h0.2.2.2, by simpa using h1, fun k hk hk' => ?_⟩
  have := h2 (k + 1) (by simp; omega) (by simp at hk' ⊢; omega)
  simpa using this
theorem findNow_rel (kd : TypeDesc) (k : Value) : ∀ (es : List MapEntry) (es' : List MapEntry) (i : Nat) (r : Option (Nat × Value)), EsRel ρ es es'.toArray → Instr.findNow kd k es i = some r →
    (r = none → Instr.findNow kd k es' i = some none) ∧ (∀ j v, r = some (j, v) → ∃ v', Instr.findNow kd k es' i = some (some (j, v')) ∧ VRel ρ v v') := by
  intro es
  induction es with
  | nil =>
    intro es' i r h hf
    have : es' = [] := by have := h.1; simp at this; exact this
    subst this
    simp only [Instr.findNow, Option.some.injEq] at hf
    subst hf
    exact ⟨fun _ => rfl, fun j v e => by cases e⟩
  | cons e es ih =>
    intro es' i r h hf
    cases es' with
    | nil => have := h.1; simp at this
    | cons e' es' =>
      obtain ⟨h1, h2, h3⟩ := h.cons
      simp only [Instr.findNow] at hf ⊢
      rw [sameNow_eq kd k _ _ h1]
      split at hf
      · cases hf
        refine ⟨fun e => (by cases e), fun j v e => ?_⟩
        cases e
        exact ⟨_, rfl, h2⟩
      · exact ih es' (i + 1) r h3 hf
      · cases hf
theorem run_checkKey {b : Bool} {t : TypeId} {k : Value} (h : (∃ i, P.underlying t = some (.int i)) ∨ P.underlying t = some .string ∨ P.underlying t = some .bool) (w : World) :
    (Instr.checkKey b 10000 t k).run P w = .ok () w := by
  show (Instr.checkKey b (9999 + 1) t k).run P w = _
  rw [Instr.checkKey]
  rcases h with ⟨i, h⟩ | h | h <;> simp only [Sem.run_bind, run_underlying' h, Result.andThen_ok] <;> rfl
theorem cfind_kind {t : TypeId} {k : Value} {es : List MapEntry} {r : Option (Nat × Value)} (h : cfind P t k es = some r) :
    plain 6 k = true ∧ ∃ kd, P.underlying t = some kd ∧ Instr.findNow kd k es 0 = some r ∧ ((∃ i, P.underlying t = some (.int i)) ∨ P.underlying t = some .string ∨ P.underlying t = some .bool) := by
  unfold cfind at h
  split at h
  · rename_i hp
    refine ⟨hp, ?_⟩
    split at h
    · rename_i i hu; exact ⟨_, hu, h, .inl ⟨i, hu⟩⟩
    · rename_i hu; exact ⟨_, hu, h, .inr (.inl hu)⟩
    · rename_i hu; exact ⟨_, hu, h, .inr (.inr hu)⟩
    · cases h
  · cases h
theorem run_findKey {t : TypeId} {kd : TypeDesc} {k : Value} {es : List MapEntry} {r : Option (Nat × Value)} (hu : P.underlying t = some kd) (h : Instr.findNow kd k es 0 = some r) (w : World) :
    (Instr.findKey t k es).run P w = .ok r w := by
  simp only [Instr.findKey, Sem.run_bind, run_underlying' hu, Result.andThen_ok, h, Sem.run_pure]
theorem run_getObj {b : Nat} {o : Obj} (h : w.heap[b]? = some o) (hc : ∀ c e f, o ≠ .cells c e f) : (getObj b).run P w = .ok o w := by
  unfold getObj
  simp only [Sem.run, h]
theorem czero_run {t : TypeId} {z : Value} (h : czero P t = some z) (w : World) : (zeroValue t).run P w = .ok z w ∧ plain 6 z = true := by
  unfold czero at h
  obtain ⟨z', hz, h⟩ := Option.bind_eq_some_iff.1 h
  obtain ⟨i, hi, hz⟩ := Option.bind_eq_some_iff.1 hz
  split at h
  · cases h
    exact ⟨by simp only [zeroValue, Sem.run_bind, run_typeInfo' hi, Result.andThen_ok, hz, Sem.run_pure], by assumption⟩
  · cases h
theorem clookup_sound {t : TypeId} {m k m' k' v : Value} {ok : Bool} (h : clookup P t m k ok s = some v) (hR : Rel P w0 ρ s w) (hm : VRel ρ m m') (hk : VRel ρ k k') :
    ∃ v', (Instr.lookup t m' k' ok).run P w = .ok v' w ∧ VRel ρ v v' := by
  unfold clookup at h
  split at h
  · rename_i kt et hu
    simp only at h
    have hlook : ∀ (es : List MapEntry) (es' : Array MapEntry) (m' : Value), EsRel ρ es es' →
        ((m' = .map none ∧ es' = #[]) ∨ ∃ r clock, m' = .map (some r) ∧ w.heap[r]? = some (.map es' clock)) →
        (match cfind P kt k es with | some (some (_, v)) => some (if ok then .tuple #[v, .bool true] else v) | some none => (czero P et).map fun z => if ok then .tuple #[z, .bool false] else z | none => none) = some v →
        ∃ v', (Instr.lookup t m' k' ok).run P w = .ok v' w ∧ VRel ρ v v' := by
      intro es es' m' hes hrun hv
      have hpair : ∀ {u u' : Value} (b : Bool), VRel ρ u u' → VRel ρ (if ok then .tuple #[u, .bool b] else u) (if ok then .tuple #[u', .bool b] else u') := by
        intro u u' b hu
        cases ok
        · exact hu
        · refine .tuple (by simp) rfl fun i hi => ?_
          simp at hi
          match i, hi with
          | 0, _ => exact hu
          | 1, _ => exact .bool b
      split at hv
      · rename_i j u hf
        cases hv
        obtain ⟨hp, kd, hkd, hfn, hck⟩ := cfind_kind hf
        obtain ⟨u', hu1, hu2⟩ := (findNow_rel kd k es es'.toList 0 _ (by simpa using hes) hfn).2 j u rfl
        refine ⟨_, ?_, hpair true hu2⟩
        rw [VRel.eq_of_plain 6 hp hk]
        rcases hrun with ⟨rfl, rfl⟩ | ⟨r, clock, rfl, hr⟩
        · simp only [Instr.lookup, Sem.run_bind, run_underlying' hu, Result.andThen_ok, run_checkKey hck, run_findKey hkd hu1, Sem.run_pure]
        · simp only [Instr.lookup, Sem.run_bind, run_underlying' hu, Result.andThen_ok, run_getObj hr (by simp), run_checkKey hck, run_findKey hkd hu1, Sem.run_pure]
      · rename_i hf
        obtain ⟨z, hz, rfl⟩ := Option.map_eq_some_iff.1 hv
        obtain ⟨hp, kd, hkd, hfn, hck⟩ := cfind_kind hf
        have hu1 := (findNow_rel kd k es es'.toList 0 _ (by simpa using hes) hfn).1 rfl
        obtain ⟨hz1, hz2⟩ := czero_run hz w
        refine ⟨_, ?_, hpair false (VRel.of_plain 6 hz2)⟩
        rw [VRel.eq_of_plain 6 hp hk]
        rcases hrun with ⟨rfl, rfl⟩ | ⟨r, clock, rfl, hr⟩
        · simp only [Instr.lookup, Sem.run_bind, run_underlying' hu, Result.andThen_ok, run_checkKey hck, run_findKey hkd hu1, hz1, Sem.run_pure]
        · simp only [Instr.lookup, Sem.run_bind, run_underlying' hu, Result.andThen_ok, run_getObj hr (by simp), run_checkKey hck, run_findKey hkd hu1, hz1, Sem.run_pure]
      · cases hv
    split at h
    · obtain rfl := hm.nilMap_inv
      exact hlook [] #[] _ ⟨rfl, fun k hk => by simp at hk⟩ (.inl ⟨rfl, rfl⟩) h
    · rename_i r
      obtain ⟨i, rfl, hi⟩ := hm.map_inv
      split at h
      · rename_i es clock hat
        obtain ⟨o, ho, hb⟩ := hR.blk _ _ _ hi hat
        obtain ⟨es', rfl, hes⟩ := hb
        exact hlook es es' _ hes (.inr ⟨_, _, rfl, ho⟩) h
      · cases h
    · cases h
  · cases h
def byteStep : Value → ByteArray → Sem (ForInStep ByteArray) := fun c s => match c with
  | .int .u8 n => pure (.yield (s.push (UInt8.ofNat n.toNat)))
  | _ => do
    (stuck "bytesToString: byte expected" : Sem PUnit)
    pure (.yield s)
theorem run_byteSteps : ∀ (l : List Value) (bs : List UInt8) (acc : ByteArray), l.mapM byteOf? = some bs → (forIn l acc byteStep : Sem ByteArray).run P w = .ok ⟨acc.data ++ bs.toArray⟩ w := by
  intro l
  induction l with
  | nil => intro bs acc h; simp at h; subst h; simp
  | cons v l ih =>
    intro bs acc h
    simp only [List.mapM_cons, Option.bind_eq_bind, Option.bind_eq_some_iff] at h
    obtain ⟨b, hb, bs', hbs, h⟩ := h
    cases h
    unfold byteOf? at hb
    split at hb
    · cases hb
      rename_i n
      simp only [List.forIn_cons, byteStep, Sem.run_bind, Sem.run_pure, Result.andThen_ok]
      rw [ih bs' _ hbs]
      simp [ByteArray.push]
    · cases hb
theorem ints_of_bytes : ∀ (l : List Value) (bs : List UInt8) (l' : List Value), l.mapM byteOf? = some bs → VsRel ρ l.toArray l'.toArray → l' = l := by
  intro l
  induction l with
  | nil => intro bs l' _ h; have := h.1; simp at this; exact List.eq_nil_of_length_eq_zero this.symm
  | cons v l ih =>
    intro bs l' h hr
    simp only [List.mapM_cons, Option.bind_eq_bind, Option.bind_eq_some_iff] at h
    obtain ⟨b, hb, bs', hbs, h⟩ := h
    cases l' with
    | nil => have := hr.1; simp at this
    | cons v' l' =>
      have h0 := hr.2 0 (by simp)
      have h1 : v' = v := by
        unfold byteOf? at hb
        split at hb
        · simpa using h0.int_inv
        · cases hb
      rw [h1, ih bs' l' hbs ⟨by have := hr.1; simpa using this, fun i hi => by have := hr.2 (i + 1) (by simpa using hi); simpa [Array.getD_eq_getD_getElem?] using this⟩]
theorem cbytes_sound {src dst e : TypeId} {a a' : Addr} {n c' : Nat} {vs l : List Value} {et : TypeId} {own : Bool} {bs : List UInt8} (hR : Rel P w0 ρ s w) (hs : P.underlying src = some (.slice e)) (hd : P.underlying dst = some .string)
    (he : P.underlying e = some (.int .u8)) (ha : ARel ρ a a') (hat : s.at' a.block = some (.cells vs et own)) (hc : cut vs a.off n = some l) (hb : l.mapM byteOf? = some bs) :
    (Go.convert src dst (.slice (some a') n c')).run P w = .ok (.string ⟨bs.toArray⟩) w := by
  obtain ⟨i, hi, hsp, rfl⟩ := ha
  obtain ⟨o, ho, hbr⟩ := hR.blk _ _ _ hi hat
  obtain ⟨cs, e', fr, rfl, hsz, hv, _⟩ := hbr
  obtain ⟨h1, h2⟩ := cut_rel hc hsz hv
  have hl := ints_of_bytes (ρ := ρ) l bs (cs.extract (a.off + i.sh) (a.off + i.sh + n)).toList hb (by rw [Array.toArray_toList]; exact h2)
  simp only [Go.convert, Sem.run_bind, run_underlying' hs, run_underlying' hd, run_underlying' he, Result.andThen_ok, Conv.bytesToString, run_loadCells ho h1]
  have := run_byteSteps (P := P) (w := w) l bs ByteArray.empty hb
  rw [← hl, Array.forIn_toList] at this
  change ((forIn (cs.extract (a.off + i.sh) (a.off + i.sh + n)) ByteArray.empty byteStep : Sem ByteArray).run P w).andThen _ = _
  rw [this]
  simp [ByteArray.empty, ByteArray.emptyWithCapacity]
  rfl
theorem run_shapeAt {b : Nat} {cs : Array Value} {e : TypeId} {fr : Nat × Nat} (hb : w.heap[b]? = some (.cells cs e fr)) : (Go.shape b).run P w = .ok (some (e, cs.size)) w := by
  simp [Go.shape, Sem.run, World.shape?, hb]
theorem run_viewAt {b : Nat} {cs : Array Value} {e : TypeId} {fr : Nat × Nat} (hb : w.heap[b]? = some (.cells cs e fr)) : (viewAt b).run P w = .ok none w := by
  simp only [viewAt, Sem.run_bind, run_shapeAt hb, Result.andThen_ok, Option.isSome_some, if_true, Sem.run_pure]
theorem run_seenAt {b o : Nat} {cs : Array Value} {e : TypeId} {fr : Nat × Nat} (hb : w.heap[b]? = some (.cells cs e fr)) : (Conv.seenAt ⟨b, o, none⟩).run P w = .ok ⟨b, o, none⟩ w := by
  simp only [Conv.seenAt, Sem.run_bind, run_viewAt hb, Result.andThen_ok, Sem.run_pure]
theorem run_cellsIn {b : Nat} {cs : Array Value} {e : TypeId} {fr : Nat × Nat} (hb : w.heap[b]? = some (.cells cs e fr)) : (cellsIn b).run P w = .ok (some cs.size) w := by
  simp only [cellsIn, Sem.run_bind, run_shapeAt hb, Result.andThen_ok, Sem.run_pure]
theorem run_variablesAt {b o n : Nat} {u : TypeId} {cs : Array Value} {e : TypeId} {fr : Nat × Nat} (hb : w.heap[b]? = some (.cells cs e fr)) : (variablesAt ⟨b, o, none⟩ u n).run P w = .ok (liesAt P P.depth e (cs.size / P.cellsOf e) o u n) w := by
  simp only [variablesAt, program, Sem.run_bind, Sem.run, run_shapeAt hb, Result.andThen_ok, Sem.run_pure]
theorem liesAt_of {e u : TypeId} {count off n : Nat} (hd : P.depth ≠ 0) (hs : P.cellsOf e ≠ 0) (hl : sameLayout P P.depth e u = true) (ho : off % P.cellsOf e = 0) (hn : off / P.cellsOf e + n ≤ count) : liesAt P P.depth e count off u n = true := by
  obtain ⟨d, hd⟩ : ∃ d, P.depth = d + 1 := ⟨P.depth - 1, by omega⟩
  rw [hd] at hl ⊢
  rw [liesAt, hd, rowAt]
  simp only [hs, if_false, ho, beq_self_eq_true, Bool.true_and, hl, Bool.and_true]
  simp [hn]
theorem run_toUnsafe {src dst t e : TypeId} {a a' : Addr} {vs : List Value} {own : Bool} (hR : Rel P w0 ρ s w) (hs : P.underlying src = some (.pointer t)) (hd : P.underlying dst = some .unsafePointer) (ht : (P.info? t).any (fun i => i.size != 0) = true)
    (ha : ARel ρ a a') (hat : s.at' a.block = some (.cells vs e own)) (ho : a.off < vs.length) : (Go.convert src dst (.pointer (some a'))).run P w = .ok (.pointer (some a')) w := by
  obtain ⟨i, hi, hsp, rfl⟩ := ha
  obtain ⟨o, hob, hbr⟩ := hR.blk _ _ _ hi hat
  obtain ⟨cs, e', fr, rfl, hsz, _⟩ := hbr
  obtain ⟨ti, hti, hts⟩ : ∃ ti, P.info? t = some ti ∧ ti.size ≠ 0 := by
    cases h : P.info? t with
    | none => rw [h] at ht; cases ht
    | some ti => rw [h] at ht; exact ⟨ti, rfl, by simpa using ht⟩
  simp only [Go.convert, Sem.run_bind, run_underlying' hs, run_underlying' hd, Result.andThen_ok, Conv.unsafePointer, run_seenAt hob, run_cellsIn hob, run_sizeOf' hti, Sem.run_pure]
  rw [if_neg]
  · rfl
  · simp only [hts, Bool.or_eq_true, decide_eq_true_eq, false_or]
    simp
    omega
theorem run_ofUnsafe {src dst u e : TypeId} {a a' : Addr} {vs : List Value} (hR : Rel P w0 ρ s w) (hs : P.underlying src = some .unsafePointer) (hd : P.underlying dst = some (.pointer u)) (hu : upOk P e u = true)
    (ha : ARel ρ a a') (hat : s.at' a.block = some (.cells vs e true)) (hal : a.off % P.cellsOf e = 0) (ho : a.off + P.cellsOf e ≤ vs.length) : (Go.convert src dst (.pointer (some a'))).run P w = .ok (.pointer (some a')) w := by
  obtain ⟨i, hi, hsp, rfl⟩ := ha
  obtain ⟨o, hob, hbr⟩ := hR.blk _ _ _ hi hat
  obtain ⟨cs, e', fr, rfl, hsz, _, _, hown⟩ := hbr
  obtain ⟨rfl, _, _, _, hsh⟩ := hown rfl
  unfold upOk at hu
  simp only [Bool.and_eq_true, bne_iff_ne, ne_eq] at hu
  obtain ⟨⟨⟨h1, h2⟩, h3⟩, h4⟩ := hu
  obtain ⟨ei, hei, hes⟩ : ∃ ti, P.info? e' = some ti ∧ ti.size ≠ 0 := by
    cases h : P.info? e' with
    | none => rw [h] at h1; cases h1
    | some ti => rw [h] at h1; exact ⟨ti, rfl, by simpa using h1⟩
  obtain ⟨ui, hui, hus⟩ : ∃ ti, P.info? u = some ti ∧ ti.size ≠ 0 := by
    cases h : P.info? u with
    | none => rw [h] at h4; cases h4
    | some ti => rw [h] at h4; exact ⟨ti, rfl, by simpa using h4⟩
  have hce : P.cellsOf e' ≠ 0 := by rw [cellsOf_info hei]; exact hes
  have hlies := liesAt_of (P := P) (e := e') (u := u) (count := cs.size / P.cellsOf e') (off := a.off + i.sh) (n := 1) h3 hce h2 (by rw [Nat.add_mod, hal, hsh]; simp) (by
    rw [← Nat.add_div_right _ (by omega)]
    exact Nat.div_le_div_right (by omega))
  simp only [Go.convert, Sem.run_bind, run_underlying' hs, run_underlying' hd, Result.andThen_ok, Conv.unsafePointer, run_seenAt hob, run_sizeOf' hui, run_variablesAt hob, hlies, Sem.run_pure]
  simp
theorem cread_sound {o : Oper} {ev ev' : Operand → Value} {v : Value} (h : cread P ev s o.op = some v) (hR : Rel P w0 ρ s w) (hev : ∀ x ∈ o.op.operands, VRel ρ (ev x) (ev' x)) :
    ∃ v', (execOp ev' o).run P w = .ok (.value v') w ∧ VRel ρ v v' := by
  obtain ⟨dst, op, ty, pos, after, guard⟩ := o
  simp only at h hev
  cases op <;> (try (simp only [cread] at h; cases h; done)) <;> simp only [execOp]
  case load t x =>
    simp only [cread] at h
    have hx := hev x (by simp [Op.operands])
    split at h
    · rename_i a ha
      rw [ha] at hx
      obtain ⟨a', e, har⟩ := hx.ptr_inv
      obtain ⟨v', h1, h2⟩ := cload_sound h hR har
      rw [e]
      exact ⟨v', by simp only [Instr.loadAt, Instr.sureAddr, Sem.run_bind, Sem.run_pure, Result.andThen_ok, h1], h2⟩
    · cases h
  case lookup t m k ok =>
    simp only [cread] at h
    obtain ⟨v', h1, h2⟩ := clookup_sound h hR (hev m (by simp [Op.operands])) (hev k (by simp [Op.operands]))
    exact ⟨v', by simp only [Sem.run_bind, h1, Result.andThen_ok, Sem.run_pure], h2⟩
  case binOp op t x y yt =>
    simp only [cread] at h
    have hx := hev x (by simp [Op.operands])
    have hy := hev y (by simp [Op.operands])
    split at h
    · rename_i a b e hxa hyb hu
      rw [hxa] at hx; rw [hyb] at hy
      obtain ⟨a', e1, i, hi, hsa, rfl⟩ := hx.ptr_inv
      obtain ⟨b', e2, j, hj, hsb, rfl⟩ := hy.ptr_inv
      split at h
      · rename_i ie hie
        split at h
        · rename_i hc
          obtain ⟨hc1, hc2, _, _⟩ := hc
          have hij : j = i := by rw [hc1, hj] at hi; exact Option.some.inj hi
          subst hij
          have heq : (Op.equal t (.pointer (some ⟨j.blk, a.off + j.sh, none⟩)) (.pointer (some ⟨j.blk, b.off + j.sh, none⟩))).run P w = .ok (a.off == b.off) w := by
            show (Op.equalIn (9999 + 1) t _ _).run P w = _
            rw [Op.equalIn]
            simp only [Sem.run_bind, run_underlying' hu, Result.andThen_ok, run_sizeOf' hie, hc2, ne_eq, not_false_eq_true, if_true, sameAddr, beq_self_eq_true, Sem.run_pure]
            congr 1
            rw [Bool.eq_iff_iff]
            simp
          rw [e1, e2]
          split at h
          · cases h
            refine ⟨_, ?_, .bool _⟩
            simp only [eqGuard, Go.binOp, Sem.run_bind, Sem.run_pure, Result.andThen_ok, Bool.not_true, Bool.false_eq_true, if_false, heq]
          · cases h
            refine ⟨_, ?_, .bool _⟩
            simp only [eqGuard, Go.binOp, Sem.run_bind, Sem.run_pure, Result.andThen_ok, Bool.not_true, Bool.false_eq_true, if_false, heq]
          · cases h
        · cases h
      · cases h
    · cases h
  case convert src d x =>
    simp only [cread] at h
    have hx := hev x (by simp [Op.operands])
    split at h
    · rename_i e a n c hs hd hxa
      rw [hxa] at hx
      obtain ⟨a', c', e1, har, _⟩ := hx.slice_inv
      split at h
      · rename_i vs et own he hat
        split at h
        · rename_i l hl
          obtain ⟨bs, hbs, rfl⟩ := Option.map_eq_some_iff.1 h
          rw [e1]
          rcases har with har | ⟨rfl, _, _⟩
          rotate_left
          · obtain rfl : l = [] := by
              unfold cut at hl
              split at hl
              · cases hl; simp
              · cases hl
            obtain rfl : bs = [] := by simpa using hbs.symm
            exact ⟨_, by simp only [Go.convert, Sem.run_bind, run_underlying' hs, run_underlying' hd, run_underlying' he, Result.andThen_ok, Conv.bytesToString]; rfl, .string _⟩
          exact ⟨_, by rw [Sem.run_bind, cbytes_sound hR hs hd he har hat hl hbs]; rfl, .string _⟩
        · cases h
      · cases h
    · rename_i e n c hs hd hxa
      rw [hxa] at hx
      obtain ⟨e1, _, _⟩ := hx.nilSlice_inv
      split at h
      · rename_i he
        cases h
        rw [e1]
        exact ⟨_, by simp only [Go.convert, Sem.run_bind, run_underlying' hs, run_underlying' hd, run_underlying' he, Result.andThen_ok, Conv.bytesToString, Sem.run_pure], .string _⟩
      · cases h
    · rename_i t a hs hd hxa
      rw [hxa] at hx
      obtain ⟨a', e1, har⟩ := hx.ptr_inv
      split at h
      · rename_i vs e own hat
        split at h
        · rename_i hc
          cases h
          rw [e1]
          exact ⟨_, by rw [Sem.run_bind, run_toUnsafe hR hs hd hc.1 har hat hc.2]; rfl, .ptr har⟩
        · cases h
      · cases h
    · rename_i u a hs hd hxa
      rw [hxa] at hx
      obtain ⟨a', e1, har⟩ := hx.ptr_inv
      split at h
      · rename_i vs e hat
        split at h
        · rename_i hc
          cases h
          rw [e1]
          exact ⟨_, by rw [Sem.run_bind, run_ofUnsafe hR hs hd hc.1 har hat hc.2.1 hc.2.2]; rfl, .ptr har⟩
        · cases h
      · cases h
    · cases h
  case slice t x lo hi mx =>
    cases mx with
    | some _ => simp only [cread] at h; cases h
    | none =>
      simp only [cread] at h
      have hx := hev x (by simp [Op.operands])
      split at h
      · rename_i e a n c hu hxa
        rw [hxa] at hx
        obtain ⟨a', c', e1, har, hcr⟩ := hx.slice_inv
        split at h
        · rename_i ie hh hie hch
          split at h
          · rename_i l vs et own hcl hat
            split at h
            · rename_i hcond
              cases h
              obtain ⟨rfl, hln, hes⟩ := hcond
              obtain ⟨h1, h2⟩ | ⟨_, h2, h3, h4⟩ := hcr
              · omega
              obtain ⟨i, hi', hsp, rfl⟩ := har.resolve_right fun hz => by unfold UNK at hz; omega
              obtain ⟨o, ho, hbr⟩ := hR.blk _ _ _ hi' hat
              obtain ⟨cs, e'', fr, rfl, hsz, hv, hesz, _⟩ := hbr
              have hb : ∀ {o : Option Operand} {d most most' m : Nat}, (∀ u, o = some u → VRel ρ (ev u) (ev' u)) → cbound (o.map ev) d most = some m → most ≤ most' →
                  (o = none ∧ m = d) ∨ (∃ u, o = some u ∧ m ≤ most ∧ ∀ code w, (Instr.sliceBound (ev' u) most' code).run P w = .ok m w) := by
                intro o d most most' m ho hc hm
                cases o with
                | none => simp only [Option.map_none, cbound, Option.some.injEq] at hc; exact .inl ⟨rfl, hc.symm⟩
                | some u =>
                  have := cbound_sound (P := P) (v' := some (ev' u)) hc (fun x hx => by simp only [Option.map_some, Option.some.injEq] at hx; subst hx; exact ⟨_, rfl, ho u rfl⟩) (by simp) hm
                  rcases this with ⟨h1, _⟩ | ⟨x', h1, h2, h3⟩
                  · simp at h1
                  · cases h1; exact .inr ⟨u, rfl, h2, h3⟩
              have hhn : hh ≤ n := by
                rcases hb (fun u hu => hev u (by simp [Op.operands, hu])) hch (Nat.le_refl _) with ⟨_, rfl⟩ | ⟨_, _, h5, _⟩ <;> omega
              rw [e1]
              refine ⟨.slice (some ((⟨i.blk, a.off + i.sh, none⟩ : Addr).add (l * ie.size))) (hh - l) (c' - l), ?_, .slice (ARel.add ⟨i, hi', hsp, rfl⟩ _) (.inr ⟨rfl, by omega, by omega, ?_⟩)⟩
              · simp only [Instr.sliceAt, Sem.run_bind, run_underlying' hu, Result.andThen_ok, Instr.slice, Instr.sliceBounds, Sem.run_pure, Option.map_none]
                rcases hb (o := hi) (fun u hu => hev u (by simp [Op.operands, hu])) hch h2 with ⟨rfl, rfl⟩ | ⟨u1, rfl, hh0, hr1⟩ <;> rcases hb (o := lo) (fun u hu => hev u (by simp [Op.operands, hu])) hcl (Nat.le_refl _) with ⟨rfl, rfl⟩ | ⟨u2, rfl, hl0, hr2⟩ <;>
                  simp only [Option.map_none, Option.map_some, Option.isSome_none, Bool.false_eq_true, if_false, Sem.run_bind, Sem.run_pure, Result.andThen_ok, run_sizeOf' hie, *] <;>
                  (rw [if_neg (by omega)])
              · intro i2 hi2
                have hb2 : (a.add (l * ie.size)).block = a.block := by unfold Addr.add; split <;> rfl
                have ho2 : (a.add (l * ie.size)).off = a.off + l * ie.size := by unfold Addr.add; split <;> simp_all
                rw [hb2, hi'] at hi2
                cases hi2
                rcases h4 i hi' with h5 | h5
                · exact .inl h5
                · rcases hesz with h6 | h6
                  · exact .inl h6
                  · right
                    rw [ho2, h6, hes]
                    rw [h6, hes] at h5
                    have : (c' - l) * ie.size + l * ie.size = c' * ie.size := by rw [← Nat.add_mul]; congr 1; omega
                    omega
            · cases h
          · cases h
        · cases h
      · cases h
  case call c =>
    simp only [cread] at h
    split at h
    · rename_i hb
      split at h
      · rename_i kt et r hu hx
        obtain ⟨t, ht, hu⟩ := Option.bind_eq_some_iff.1 hu
        obtain ⟨x, hx0, hx1⟩ := Option.map_eq_some_iff.1 hx
        have hxr := hev x (by simp only [Op.operands, Call.operands, hb]; simp; exact Array.mem_of_getElem? hx0)
        rw [hx1] at hxr
        obtain ⟨i, e, hi⟩ := hxr.map_inv
        split at h
        · rename_i es clock hat
          cases h
          obtain ⟨o, ho, hbr⟩ := hR.blk _ _ _ hi hat
          obtain ⟨es', rfl, hes⟩ := hbr
          refine ⟨_, ?_, .int _ _⟩
          have hx' : (c.args.map ev')[0]? = some (.map (some i.blk)) := by rw [Array.getElem?_map, hx0]; simp [e]
          simp only [resolve, hb, Sem.run_bind, Sem.run_pure, Result.andThen_ok, invoke, Go.builtin, Builtin.len_, ht, hx', run_underlying' hu, run_getObj ho (by simp), hes.1]
          rfl
        · cases h
      · cases h
    · cases h
end
end Go.Cs
namespace Go.Cs
section
variable {P : Program} {ρ : Ren} {w : World}
theorem brel_cells {i : BI} {b : Nat} {l : List Value} {t : TypeId} {cs : Array Value} {fr : Nat × Nat} (hb : ρ b = none) (h : VsRel ρ l.toArray cs) (hfr : ∀ j, j < cs.size → ¬ (fr.1 ≤ j ∧ j < fr.2)) (hsh : i.sh = 0) (hn : i.n = cs.size) (he : i.esz = P.cellsOf t) :
    BRel P (ρ.add b i) i (.cells l t true) (.cells cs t fr) := by
  have hle := Ren.le_add (i := i) hb
  have hsz : l.length = cs.size := by simpa using h.1
  refine ⟨cs, t, fr, rfl, by omega, fun k hk => ?_, .inr he, fun _ => ⟨rfl, hfr, hn.symm, he, by rw [hsh]; exact Nat.zero_mod _⟩⟩
  have := (h.2 k (by simpa using hk)).mono hle
  rw [hsh, Nat.zero_add]
  simpa [Array.getD_eq_getD_getElem?] using this
theorem brel_cells_more {i : BI} {b : Nat} {l : List Value} {t : TypeId} {cs more : Array Value} {fr : Nat × Nat} (hb : ρ b = none) (h : VsRel ρ l.toArray cs) (hfr : ∀ j, j < (cs ++ more).size → ¬ (fr.1 ≤ j ∧ j < fr.2)) (hsh : i.sh = 0) (hn : i.n = (cs ++ more).size) (he : i.esz = P.cellsOf t) :
    BRel P (ρ.add b i) i (.cells l t true) (.cells (cs ++ more) t fr) := by
  have hle := Ren.le_add (i := i) hb
  have hsz : l.length = cs.size := by simpa using h.1
  refine ⟨cs ++ more, t, fr, rfl, by simp; omega, fun k hk => ?_, .inr he, fun _ => ⟨rfl, hfr, hn.symm, he, by rw [hsh]; exact Nat.zero_mod _⟩⟩
  have := (h.2 k (by simpa using hk)).mono hle
  rw [hsh, Nat.zero_add]
  have e1 : (cs ++ more).getD k undef = cs.getD k undef := by
    rw [Array.getD_eq_getD_getElem?, Array.getD_eq_getD_getElem?, Array.getElem?_append_left (by omega)]
  rw [e1]
  simpa [Array.getD_eq_getD_getElem?] using this
theorem plain_cells {z : Value} (h : plain 6 z = true) : VsRel ρ z.cells z.cells :=
  okPart_cells (VRel.of_plain 6 h) (by cases z <;> first | rfl | (simp [plain] at h))
theorem czeros_rel {z : Value} (h : VsRel ρ z.cells z.cells) (n : Nat) (hz : n = 0 ∨ z.cells.size ≠ 0) : VsRel ρ (czeros z n).toArray ((Array.range n).map (z.cells[· % z.cells.size]!)) := by
  unfold czeros
  rw [Array.toArray_toList]
  refine ⟨rfl, fun i hi => ?_⟩
  simp only [Array.size_map, Array.size_range] at hi
  have hz' : z.cells.size ≠ 0 := by omega
  have hm : i % z.cells.size < z.cells.size := Nat.mod_lt _ (by omega)
  have := h.2 _ hm
  simp [Array.getD, hi, hm] at this ⊢
  exact this
theorem zerosOf_run {e : TypeId} {n : Nat} {l : List Value} (h : zerosOf P e n = some l) (w : World) :
    ∃ zs : Array Value, ((n = 0 ∧ zs = #[]) ∨ (n ≠ 0 ∧ ∃ z, (zeroValue e).run P w = .ok z w ∧ zs = z.cells)) ∧ VsRel ρ l.toArray ((Array.range n).map (zs[· % zs.size]!)) := by
  unfold zerosOf at h
  split at h
  · rename_i h0
    cases h
    subst h0
    exact ⟨#[], .inl ⟨rfl, rfl⟩, by simp, fun i hi => by simp at hi⟩
  · rename_i h0
    split at h
    · rename_i z hz
      split at h
      · cases h
      · rename_i hne
        cases h
        obtain ⟨h1, h2⟩ := czero_run hz w
        exact ⟨z.cells, .inr ⟨h0, z, h1, rfl⟩, czeros_rel (plain_cells h2) n (.inr hne)⟩
    · cases h
theorem run_newRow {t : TypeId} {cs : Array Value} : (newRow t cs).run P w = .ok ⟨w.heap.size, 0, none⟩ { w with heap := w.heap.push (.cells cs t) } := rfl
theorem push_modify (h : Array Obj) (x : Obj) (f : Obj → Obj) : (h.push x).modify h.size f = h.push (f x) := by
  apply Array.ext
  · simp
  · intro i h1 h2
    rw [Array.getElem_modify]
    simp only [Array.getElem_push]
    split
    · subst_vars; simp
    · split
      · rfl
      · simp at h2; omega
theorem run_markStringish (w : World) (C : Array Value) (t : TypeId) : (markStringish ⟨w.heap.size, 0, none⟩).run P { w with heap := w.heap.push (.cells C t) } = .ok () { w with heap := w.heap.push (.cells C t (C.size, C.size + 1)) } := by
  simp only [markStringish, shape, freeze, Sem.run_bind, Sem.run, World.shape?, Array.getElem?_push, if_true, Result.andThen_ok, World.freeze, Nat.one_ne_zero, if_false, push_modify]
  simp
theorem ptr_new {b : Nat} (hb : ρ b = none) {i : BI} (hi : i.blk = w.heap.size) (hs : i.sh = 0) : VRel (ρ.add b i) (.pointer (some ⟨b, 0, none⟩)) (.pointer (some ⟨w.heap.size, 0, none⟩)) :=
  .ptr ⟨i, by simp, rfl, by simp [hi, hs]⟩
theorem calloc_sound {o : Oper} {ev ev' : Operand → Value} {B : Blk} {f : Nat → Value} (h : calloc P ev o.op = some (B, f)) (hev : ∀ x ∈ o.op.operands, VRel ρ (ev x) (ev' x)) (hw : ∀ z : Value, True) :
    ∃ (obj : Obj) (i : BI) (n : Nat) (v' : Value), (execOp ev' o).run P w = .ok (.value v') { w with heap := w.heap.push obj, drawn := n } ∧ i.blk = w.heap.size ∧ i.kd = 0 ∧
      ∀ b, ρ b = none → BRel P (ρ.add b i) i B obj ∧ VRel (ρ.add b i) (f b) v' := by
  obtain ⟨dst, op, ty, pos, after, guard⟩ := o
  simp only at h hev
  cases op <;> (try (simp only [calloc] at h; cases h; done)) <;> simp only [execOp]
  case alloc t =>
    simp only [calloc] at h
    obtain ⟨z, hz, h⟩ := Option.map_eq_some_iff.1 h
    cases h
    obtain ⟨h1, h2⟩ := czero_run hz w
    refine ⟨.cells z.cells t, ⟨w.heap.size, 0, z.cells.size, P.cellsOf t, 0⟩, w.drawn, .pointer (some ⟨w.heap.size, 0, none⟩), ?_, rfl, rfl, fun b hb => ⟨?_, ptr_new hb rfl rfl⟩⟩
    · simp only [Instr.alloc, newVar, Sem.run_bind, h1, Result.andThen_ok, run_newRow, Sem.run_pure]
    exact brel_cells hb (by simpa using plain_cells h2) (fun j _ => by simp) rfl rfl rfl
  case box t x =>
    simp only [calloc] at h
    split at h
    · rename_i hc
      cases h
      have hx := okPart_cells (hev x (by simp [Op.operands])) hc.1
      refine ⟨.cells (ev' x).cells t, ⟨w.heap.size, 0, (ev' x).cells.size, P.cellsOf t, 0⟩, w.drawn, .pointer (some ⟨w.heap.size, 0, none⟩), ?_, rfl, rfl, fun b hb => ⟨?_, ptr_new hb rfl rfl⟩⟩
      · simp only [Instr.box, newVar, Sem.run_bind, Result.andThen_ok, run_newRow, Sem.run_pure]
      exact brel_cells hb (by simpa using hx) (fun j _ => by simp) rfl rfl rfl
    · cases h
  case buildSlice t len parts =>
    simp only [calloc] at h
    split at h
    · rename_i e hu
      split at h
      · rename_i ie hie
        split at h
        · rename_i hc
          split at h
          · rename_i z hz
            split at h
            · rename_i cells hf
              cases h
              obtain ⟨zs, hz1, hz2⟩ := zerosOf_run (ρ := ρ) hz w
              obtain ⟨r', hr', hrel⟩ := fill_rel (ρ := ρ) (fun i => some (i * ie.size, ie.size)) parts.toList ev ev' _ _ cells (fun x hx => hev x.2 (by simp only [Op.operands, List.mem_toArray, List.mem_map]; exact ⟨x, by simpa using hx, rfl⟩)) hc.2.2 hz2 (by simpa using hf)
              refine ⟨.cells r' e, ⟨w.heap.size, 0, r'.size, P.cellsOf e, 0⟩, w.drawn, .slice (some ⟨w.heap.size, 0, none⟩) len len, ?_, rfl, rfl, fun b hb => ⟨?_, .slice ⟨⟨w.heap.size, 0, r'.size, P.cellsOf e, 0⟩, by simp, rfl, by simp⟩ (.inl ⟨rfl, ?_⟩)⟩⟩
              · have hr2 : Instr.fill (fun i => some (i * ie.size, ie.size)) ((Array.range (len * ie.size)).map (zs[· % zs.size]!)) (parts.map fun x => (x.1, ev' x.2)).toList = some r' := by simpa using hr'
                simp only [Instr.buildSlice, Sem.run_bind, run_underlying' hu, Result.andThen_ok, run_sizeOf' hie]
                rw [if_neg (by have := hc.1; omega)]
                rcases hz1 with ⟨h0, rfl⟩ | ⟨h0, zv, hzv, rfl⟩
                · simp only [h0, if_true, Sem.run_bind, Sem.run_pure, Result.andThen_ok]
                  rw [h0] at hr2
                  rw [hr2]
                  simp only [Sem.run_bind, run_newRow, Result.andThen_ok, Sem.run_pure]
                · simp only [h0, if_false, Sem.run_bind, Sem.run_pure, Result.andThen_ok, hzv]
                  rw [hr2]
                  simp only [Sem.run_bind, run_newRow, Result.andThen_ok, Sem.run_pure]
              · exact brel_cells hb (by simpa using hrel) (fun j _ => by simp) rfl rfl rfl
              · exact hc.2.1
            · cases h
          · cases h
        · cases h
      · cases h
    · cases h
  case makeMap t r =>
    cases r with
    | some _ => simp only [calloc] at h; cases h
    | none =>
      simp only [calloc] at h
      cases h
      refine ⟨.map #[] 0, ⟨w.heap.size, 0, 0, 0, 0⟩, w.drawn, .map (some w.heap.size), rfl, rfl, rfl, fun b hb => ⟨⟨#[], rfl, rfl, fun k hk => by simp at hk⟩, ?_⟩⟩
      exact .map (i := ⟨w.heap.size, 0, 0, 0, 0⟩) (by simp)
  case makeSlice t ol oc =>
    simp only [calloc] at h
    split at h
    · rename_i e k l k' c hu hl hc
      have hxl := hev ol (by simp [Op.operands])
      have hxc := hev oc (by simp [Op.operands])
      rw [hl] at hxl; rw [hc] at hxc
      rw [hxl.int_inv, hxc.int_inv]
      split at h
      · rename_i ie hie
        split at h
        · rename_i hcond
          obtain ⟨h0, h1, h2, h3⟩ := hcond
          split at h
          · rename_i z hz
            cases h
            obtain ⟨zs, hz1, hz2⟩ := zerosOf_run (ρ := ρ) hz w
            have hwl : IntKind.i64.wrap l = l := by simp [IntKind.wrap, IntKind.bits, IntKind.signed]; omega
            have hwc : IntKind.i64.wrap c = c := by simp [IntKind.wrap, IntKind.bits, IntKind.signed]; omega
            refine ⟨.cells ((Array.range (c.toNat * ie.size)).map (zs[· % zs.size]!)) e, ⟨w.heap.size, 0, ((Array.range (c.toNat * ie.size)).map (zs[· % zs.size]!)).size, P.cellsOf e, 0⟩, w.drawn, .slice (some ⟨w.heap.size, 0, none⟩) l.toNat c.toNat, ?_, rfl, rfl,
              fun b hb => ⟨brel_cells hb (by simpa using hz2) (fun j _ => by simp) rfl rfl rfl, .slice ⟨⟨w.heap.size, 0, ((Array.range (c.toNat * ie.size)).map (zs[· % zs.size]!)).size, P.cellsOf e, 0⟩, by simp, rfl, by simp⟩ (.inl ⟨rfl, by unfold UNK; omega⟩)⟩⟩
            have hb2 : (ie.bytes : Int) * c ≤ 281474976710656 := by rw [Int.mul_comm]; exact h3
            simp only [Instr.makeSlice, Sem.run_bind, run_underlying' hu, Result.andThen_ok, asInt, asIntOf, Sem.run_pure, run_typeInfo' hie, hwl, hwc]
            rw [if_neg (by simp only [Bool.or_eq_true, decide_eq_true_eq]; omega)]
            have hroom : (askRoom (c.toNat * ie.bytes)).run P w = .ok () w := by unfold askRoom; split <;> rfl
            simp only [Sem.run_bind, hroom, Result.andThen_ok, run_sizeOf' hie]
            rcases hz1 with ⟨h0, rfl⟩ | ⟨h0, zv, hzv, rfl⟩
            · simp only [h0, if_true, Sem.run_bind, Sem.run_pure, Result.andThen_ok, run_newRow]
            · simp only [h0, if_false, Sem.run_bind, Sem.run_pure, Result.andThen_ok, hzv, run_newRow]
          · cases h
        · cases h
      · cases h
    · cases h
  case range t x =>
    simp only [calloc] at h
    split at h
    · rename_i str hu hs
      cases h
      have hx := hev x (by simp [Op.operands])
      rw [hs] at hx
      rw [hx.string_inv]
      refine ⟨.stringIter str 0, ⟨w.heap.size, 0, 0, 0, 0⟩, w.drawn, .pointer (some ⟨w.heap.size, 0, none⟩), ?_, rfl, rfl, fun b hb => ⟨⟨rfl, rfl⟩, ptr_new hb rfl rfl⟩⟩
      simp only [Instr.range, Sem.run_bind, run_underlying' hu, Result.andThen_ok, Sem.run_pure]
      rfl
    · cases h
  case convert src d x =>
    simp only [calloc] at h
    split at h
    · rename_i e str hs hd hx0
      have hx := hev x (by simp [Op.operands])
      rw [hx0] at hx
      rw [hx.string_inv]
      split at h
      · rename_i he
        split at h
        · rename_i hsz
          cases h
          obtain ⟨hs1, hs2⟩ := hsz
          obtain ⟨ie, hie, hie1⟩ : ∃ ie, P.info? e = some ie ∧ ie.size = 1 := by
            cases hq : P.info? e with
            | none => rw [hq] at hs2; simp at hs2
            | some ie => rw [hq] at hs2; exact ⟨ie, rfl, by simpa using hs2⟩
          have hcap := Nat.le_add_right str.size (w.tape w.drawn (.appendCap str.size 0 e) % (2 ^ 63 - str.size))
          have hcap2 : str.size + w.tape w.drawn (.appendCap str.size 0 e) % (2 ^ 63 - str.size) < UNK := by
            have : 0 < 2 ^ 63 - str.size := by unfold UNK at hs1; omega
            have := Nat.mod_lt (w.tape w.drawn (.appendCap str.size 0 e)) this
            unfold UNK at *; omega
          generalize hcp : str.size + w.tape w.drawn (.appendCap str.size 0 e) % (2 ^ 63 - str.size) = cap at hcap hcap2
          let cs : Array Value := str.data.map fun b => .int .u8 b.toNat
          let more : Array Value := Array.replicate (cap - str.size) (.int .u8 0)
          have hcs : cs.size = str.size := by simp [cs]
          have hms : (cs ++ more).size = cap := by simp [cs, more]; omega
          refine ⟨.cells (cs ++ more) e (cap, cap + 1), ⟨w.heap.size, 0, cap, P.cellsOf e, 0⟩, w.drawn + 1, .slice (some ⟨w.heap.size, 0, none⟩) str.size cap, ?_, rfl, rfl, fun b hb => ⟨?_, .slice ⟨⟨w.heap.size, 0, cap, P.cellsOf e, 0⟩, by simp, rfl, by simp⟩ (.inr ⟨rfl, hcap, hcap2, ?_⟩)⟩⟩
          · simp only [Go.convert, Sem.run_bind, run_underlying' hs, run_underlying' hd, run_underlying' he, Result.andThen_ok, Conv.stringToBytes, choose, Sem.run, Question.forced, Question.cut, Bool.false_eq_true, if_false, hcp]
            rw [run_newRow]
            simp only [Result.andThen_ok]
            rw [run_markStringish { w with drawn := w.drawn + 1 }]
            simp only [Result.andThen_ok, Sem.run_pure]
            rw [show (str.data.map fun b => Value.int .u8 b.toNat) ++ Array.replicate (cap - str.size) (Value.int .u8 0) = cs ++ more from rfl, hms]
          · refine brel_cells_more hb ⟨by simp [cs], fun i hi => ?_⟩ (fun j hj => by rw [hms] at hj; simp; omega) rfl hms.symm rfl
            simp only [List.size_toArray, List.length_map, Array.length_toList] at hi
            have : cs.getD i undef = (str.data.toList.map fun b => Value.int .u8 b.toNat).toArray.getD i undef := by
              simp [cs, Array.getD, hi]
            rw [this, show (str.data.toList.map fun b => Value.int .u8 b.toNat).toArray.getD i undef = .int .u8 (str.data[i]'hi).toNat from by simp only [Array.getD_eq_getD_getElem?, List.getElem?_toArray, List.getElem?_map, Array.getElem?_toList, Array.getElem?_eq_getElem hi]; rfl]
            exact .int _ _
          · intro i hi
            simp only [Ren.add_same, Option.some.injEq] at hi
            subst hi
            right
            simp [cellsOf_info hie, hie1]
        · cases h
      · cases h
    · cases h
end
end Go.Cs
namespace Go.Cs
section
variable {M : Type} [Mem M] {P : Program} {w0 : World} {ρ : Ren} {s : St M} {w : World}
inductive LRel (ρ : Ren) : List Value → List Value → Prop
  | nil : LRel ρ [] []
  | cons {v v' : Value} {l l' : List Value} (h : VRel ρ v v') (t : LRel ρ l l') : LRel ρ (v :: l) (v' :: l')
theorem LRel.length {l l' : List Value} (h : LRel ρ l l') : l.length = l'.length := by
  induction h with
  | nil => rfl
  | cons _ _ ih => simp [ih]
theorem LRel.mono {ρ ρ' : Ren} (hle : ρ.le ρ') {l l' : List Value} (h : LRel ρ l l') : LRel ρ' l l' := by
  induction h with
  | nil => exact .nil
  | cons h _ ih => exact .cons (h.mono hle) ih
theorem VsRel.toL : ∀ {l l' : List Value}, VsRel ρ l.toArray l'.toArray → LRel ρ l l' := by
  intro l
  induction l with
  | nil => intro l' h; have := h.1; simp at this; rw [List.eq_nil_of_length_eq_zero this.symm]; exact .nil
  | cons v l ih =>
    intro l' h
    cases l' with
    | nil => have := h.1; simp at this
    | cons v' l' =>
      refine .cons (by simpa using h.2 0 (by simp)) (ih ⟨by have := h.1; simpa using this, fun i hi => ?_⟩)
      have := h.2 (i + 1) (by simpa using hi)
      simpa [Array.getD_eq_getD_getElem?] using this
theorem VsRel.ofL {l l' : List Value} (h : LRel ρ l l') : VsRel ρ l.toArray l'.toArray := by
  induction h with
  | nil => exact ⟨rfl, fun i hi => by simp at hi⟩
  | cons h _ ih =>
    refine ⟨by have := ih.1; simpa using this, fun i hi => ?_⟩
    cases i with
    | zero => simpa using h
    | succ i =>
      have := ih.2 i (by simpa using hi)
      simpa [Array.getD_eq_getD_getElem?] using this
theorem LRel.append {a a' b b' : List Value} (h : LRel ρ a a') (h' : LRel ρ b b') : LRel ρ (a ++ b) (a' ++ b') := by
  induction h with
  | nil => exact h'
  | cons h _ ih => exact .cons h ih
theorem okCell_one {v v' : Value} (h : VRel ρ v v') (hk : okCell v = true) : oneCell v' = true := by
  cases h <;> first
    | rfl
    | assumption
    | (simp [okCell] at hk; done)
    | (cases hk; done)
    | (rename_i h1 _ _; exact (h1 (isUnk_size hk)).elim)
def setA : Array Value → Nat → List Value → Array Value
  | cs, _, [] => cs
  | cs, o, v :: l => setA (cs.setIfInBounds o v) (o + 1) l
theorem setA_size : ∀ (l : List Value) (cs : Array Value) (o : Nat), (setA cs o l).size = cs.size := by
  intro l
  induction l with
  | nil => intro cs o; rfl
  | cons v l ih => intro cs o; simp [setA, ih]
theorem setCells_length : ∀ (l : List Value) (vs : List Value) (o : Nat), (setCells vs o l).length = vs.length := by
  intro l
  induction l with
  | nil => intro vs o; rfl
  | cons v l ih => intro vs o; simp [setCells, ih]
def CRel (ρ : Ren) (sh : Nat) (vs : List Value) (cs : Array Value) : Prop := sh + vs.length ≤ cs.size ∧ ∀ k, k < vs.length → VRel ρ (vs.getD k undef) (cs.getD (sh + k) undef)
theorem CRel.set {sh : Nat} {vs : List Value} {cs : Array Value} (h : CRel ρ sh vs cs) (o : Nat) {v v' : Value} (hv : VRel ρ v v') : CRel ρ sh (vs.set o v) (cs.setIfInBounds (sh + o) v') := by
  refine ⟨by simpa using h.1, fun k hk => ?_⟩
  simp only [List.length_set] at hk
  have h0 := h.2 k hk
  have hk' : sh + k < cs.size := by have := h.1; omega
  rw [List.getD_eq_getElem?_getD, List.getElem?_set, Array.getD_eq_getD_getElem?, Array.getElem?_setIfInBounds]
  by_cases e : o = k
  · subst e; simp [hk, hk', hv]
  · rw [if_neg e, if_neg (by omega), ← List.getD_eq_getElem?_getD, ← Array.getD_eq_getD_getElem?]; exact h0
theorem CRel.setCells {sh : Nat} : ∀ {l l' : List Value}, LRel ρ l l' → ∀ {vs : List Value} {cs : Array Value} (o : Nat), CRel ρ sh vs cs → CRel ρ sh (setCells vs o l) (setA cs (sh + o) l') := by
  intro l l' hl
  induction hl with
  | nil => intro vs cs o h; exact h
  | cons hv _ ih =>
    intro vs cs o h
    exact ih (o + 1) (h.set o hv)
theorem run_store {w : World} {b o : Nat} {cs : Array Value} {e : TypeId} {fr : Nat × Nat} {v : Value} (hb : w.heap[b]? = some (.cells cs e fr)) (ho : o < cs.size) (hfr : ¬ (fr.1 ≤ o ∧ o < fr.2)) (hv : oneCell v = true) :
    (store ⟨b, o, none⟩ v).run P w = .ok () { w with heap := w.heap.setIfInBounds b (.cells (cs.setIfInBounds o v) e fr) } := by
  have hc : w.cell? ⟨b, o, none⟩ = some cs[o] := by simp [World.cell?, hb]
  have hf : w.frozen? ⟨b, o, none⟩ = false := by
    simp only [World.frozen?, hb]
    simpa using hfr
  have hs : w.setCell ⟨b, o, none⟩ v = { w with heap := w.heap.setIfInBounds b (.cells (cs.setIfInBounds o v) e fr) } := by
    simp only [World.setCell]
    congr 1
    apply Array.ext_getElem?
    intro i
    rw [Array.getElem?_modify, Array.getElem?_setIfInBounds]
    split
    · subst_vars
      have hlt : i < w.heap.size := by
        rcases Nat.lt_or_ge i w.heap.size with h' | h'
        · exact h'
        · rw [Array.getElem?_eq_none h'] at hb; cases hb
      rw [hb]
      simp [hlt]
    · rfl
  rw [← hs]
  cases v <;> first | (simp [oneCell] at hv; done) | simp [store, Sem.run, hc, hf]
theorem run_storeCells : ∀ (l : List Value) {w : World} {b o i : Nat} {cs : Array Value} {e : TypeId} {fr : Nat × Nat}, w.heap[b]? = some (.cells cs e fr) → (∀ j, j < cs.size → ¬ (fr.1 ≤ j ∧ j < fr.2)) → o + i + l.length ≤ cs.size →
    (∀ v ∈ l, oneCell v = true) → (storeCells ⟨b, o, none⟩ l i).run P w = .ok () { w with heap := w.heap.setIfInBounds b (.cells (setA cs (o + i) l) e fr) } := by
  intro l
  induction l with
  | nil =>
    intro w b o i cs e fr hb _ _ _
    simp only [storeCells, Sem.run_pure, setA]
    congr 1
    have : w.heap.setIfInBounds b (.cells cs e fr) = w.heap := by
      apply Array.ext
      · simp
      · intro j h1 h2
        rw [Array.getElem_setIfInBounds]
        split
        · subst_vars
          rw [Array.getElem?_eq_getElem h2] at hb
          exact (Option.some.inj hb).symm
        · rfl
    rw [this]
  | cons v l ih =>
    intro w b o i cs e fr hb hfr hsz hv
    simp only [List.length_cons] at hsz
    simp only [storeCells, Sem.run_bind, addr_add_mk]
    rw [run_store hb (by omega) (hfr _ (by omega)) (hv v (by simp))]
    simp only [Result.andThen_ok]
    have hlt : b < w.heap.size := by
      rcases Nat.lt_or_ge b w.heap.size with h' | h'
      · exact h'
      · rw [Array.getElem?_eq_none h'] at hb; cases hb
    rw [ih (w := { w with heap := w.heap.setIfInBounds b (.cells (cs.setIfInBounds (o + i) v) e fr) }) (cs := cs.setIfInBounds (o + i) v) (e := e) (fr := fr)
      (by simp [hlt]) (by simpa using hfr) (by simp; omega) (fun u hu => hv u (by simp [hu]))]
    simp only [setA, Array.setIfInBounds_setIfInBounds]
    rfl
def EffOk (P : Program) (w0 : World) (ρ : Ren) (s : St M) (s' : St M) (v : Value) (r : Result Next) : Prop :=
  ∃ n w' ρ', r = .ok n w' ∧ ((∃ v', n = .value v' ∧ VRel ρ' v v') ∨ (n = .skip ∧ v = undef)) ∧ Rel P w0 ρ' s' w' ∧ Ext ρ s ρ' s'
theorem cstoreCells_nil {ρ : Ren} {w : World} {a : Addr} {s s1 : St M} (h : cstoreCells a [] s = some s1) (hR : Rel P w0 ρ s w) : Rel P w0 ρ s1 w ∧ Ext ρ s ρ s1 := by
  unfold cstoreCells at h
  split at h
  · rename_i vs e hat
    split at h
    · cases h
      exact hR.noput hat
    · cases h
  · cases h
theorem cstoreCells_sound {a a' : Addr} {l l' : List Value} {s' : St M} (h : cstoreCells a l s = some s') (hR : Rel P w0 ρ s w) (ha : ARel ρ a a') (hl : LRel ρ l l') :
    ∃ w', (storeCells a' l').run P w = .ok () w' ∧ Rel P w0 ρ s' w' ∧ Ext ρ s ρ s' := by
  unfold cstoreCells at h
  split at h
  · rename_i vs e hat
    split at h
    · rename_i hc
      cases h
      obtain ⟨i, hi, hsp, rfl⟩ := ha
      obtain ⟨o, ho, hbr⟩ := hR.blk _ _ _ hi hat
      obtain ⟨cs, e', fr, rfl, hsz, hv, hesz, hown⟩ := hbr
      obtain ⟨rfl, hfr, hn, hes, hsh⟩ := hown rfl
      have hll := hl.length
      refine ⟨_, run_storeCells l' ho hfr (by have := hc.1; omega) (fun v hv => ?_), ?_⟩
      · have : ∀ {l l' : List Value}, LRel ρ l l' → l.all okCell = true → ∀ v ∈ l', oneCell v = true := by
          intro l l' h
          induction h with
          | nil => intro _ v hv; cases hv
          | cons h _ ih =>
            intro hk v hv
            simp only [List.all_cons, Bool.and_eq_true] at hk
            rcases List.mem_cons.1 hv with rfl | hv
            · exact okCell_one h hk.1
            · exact ih hk.2 v hv
        exact this hl hc.2 v hv
      · refine hR.write hi hat rfl ⟨setA cs (a.off + i.sh + 0) l', e', fr, rfl, ?_, ?_, hesz, fun _ => ⟨rfl, by rw [setA_size]; exact hfr, by rw [setA_size]; exact hn, hes, hsh⟩⟩
        · rw [setA_size, setCells_length]; exact hsz
        · have := CRel.setCells hl (a.off) (⟨hsz, hv⟩ : CRel ρ i.sh vs cs)
          rw [Nat.add_zero, Nat.add_comm a.off]
          exact this.2
    · cases h
  · cases h
theorem cstore_sound {t : TypeId} {a a' : Addr} {v v' : Value} {s' : St M} (h : cstore P t a v s = some s') (hR : Rel P w0 ρ s w) (ha : ARel ρ a a') (hv : VRel ρ v v') (hok : okPart v = true) :
    ∃ w', (storeVar t a' v').run P w = .ok () w' ∧ Rel P w0 ρ s' w' ∧ Ext ρ s ρ s' := by
  unfold cstore at h
  split at h
  · rename_i i hi
    split at h
    · rename_i hsz
      have hc := okPart_cells hv hok
      obtain ⟨w', h1, h2⟩ := cstoreCells_sound (l' := v'.cells.toList) h hR ha (VsRel.toL (by simpa using hc))
      refine ⟨w', ?_, h2⟩
      simp only [storeVar, Sem.run_bind, run_sizeOf' hi, Result.andThen_ok]
      rw [if_neg (by rw [← hc.1]; simpa using hsz)]
      exact h1
    · cases h
  · cases h
end
end Go.Cs
namespace Go.Cs
section
variable {M : Type} [Mem M] (P : Program)
def cmore (size : Nat) (x : Value) (s : St M) : Option (Nat × List Value) :=
  match x with
  | .slice none _ _ => some (0, [])
  | .slice (some b) n _ => match s.at' b.block with
    | some (.cells vs _ _) => (cut vs b.off (n * size)).map fun l => (n, l)
    | _ => none
  | .string str => if size = 1 then some (str.size, str.data.toList.map fun b => .int .u8 b.toNat) else none
  | _ => none
def cgrow (e : TypeId) (ie : TypeInfo) (need : Nat) (l : List Value) (s : St M) : Option (Value × St M) :=
  match czero P e with
  | some z => if z.cells.size = ie.size ∧ 0 < ie.bytes ∧ need * ie.bytes ≤ 140737488355328 then some (.slice (some ⟨s.next, 0, none⟩) need UNK, s.new (.cells l e true)) else none
  | none => none
def capp (ts : Array TypeId) (args : Array Value) (s : St M) : Option (Value × St M) :=
  match ts[0]?.bind P.underlying, ts[1]?.bind P.underlying, (args[0]? : Option Value), (args[1]? : Option Value) with
  | some (.slice _), some (.int _), _, _ => none
  | some (.slice e), some _, some sl, some x =>
    match P.info? e with
    | none => none
    | some ie => match cmore ie.size x s with
      | none => none
      | some (n, new) =>
        if new.all okCell = false then none else
        match sl with
        | .slice none _ _ => if n = 0 then some (.slice none 0 0, s) else cgrow P e ie n new s
        | .slice (some a) k c =>
          if c = UNK then
            if n = 0 then some (.slice (some a) k c, s)
            else match s.at' a.block with
              | some (.cells vs et true) => if et = e ∧ a.off % ie.size = 0 then (match cut vs a.off (k * ie.size) with
                | some old => cgrow P e ie (k + n) (old ++ new) (s.kill a.block)
                | none => none) else none
              | _ => none
          else if k + n ≤ c then
            if n = 0 then some (.slice (some a) k c, s) else (cstoreCells (a.add (k * ie.size)) new s).map fun s' => (.slice (some a) (k + n) c, s')
          else match s.at' a.block with
            | some (.cells vs _ _) => match cut vs a.off (k * ie.size) with
              | some old => cgrow P e ie (k + n) (old ++ new) s
              | none => none
            | _ => none
        | _ => none
  | _, _, _, _ => none
end
section
variable {M : Type} [Mem M] {P : Program} {w0 : World} {ρ : Ren} {s : St M} {w : World}
theorem cut_length {vs l : List Value} {o n : Nat} (h : cut vs o n = some l) : l.length = n := by
  unfold cut at h
  split at h
  · cases h; simp; omega
  · cases h
theorem run_firstCells {size n k c' : Nat} {a : Addr} {vs l : List Value} {et : TypeId} {own : Bool} {a' : Addr} (hR : Rel P w0 ρ s w) (hat : s.at' a.block = some (.cells vs et own)) (ha : ARel ρ a a') (hc : cut vs a.off (n * size) = some l) :
    ∃ l' : Array Value, (Builtin.firstCells size n (.slice (some a') k c')).run P w = .ok l' w ∧ LRel ρ l l'.toList := by
  obtain ⟨i, hi, hsp, rfl⟩ := ha
  obtain ⟨o, ho, hbr⟩ := hR.blk _ _ _ hi hat
  obtain ⟨cs, e', fr, rfl, hsz, hv, hesz, hown⟩ := hbr
  obtain ⟨h1, h2⟩ := cut_rel hc hsz hv
  exact ⟨_, run_loadCells ho h1, VsRel.toL (by rw [Array.toArray_toList]; exact h2)⟩
theorem cmore_sound {size n : Nat} {x x' : Value} {new : List Value} (h : cmore size x s = some (n, new)) (hR : Rel P w0 ρ s w) (hx : VRel ρ x x') :
    (Builtin.lenOf x').run P w = .ok n w ∧ ∃ new' : Array Value, (Builtin.firstCells size n x').run P w = .ok new' w ∧ LRel ρ new new'.toList ∧ new.length = n * size := by
  unfold cmore at h
  split at h
  · obtain ⟨rfl, _, _⟩ := hx.nilSlice_inv
    cases h
    exact ⟨rfl, #[], rfl, .nil, by simp⟩
  · rename_i b m c
    obtain ⟨b', c', rfl, hb, _⟩ := hx.slice_inv
    split at h
    · rename_i vs et own hat
      obtain ⟨l, hl, he⟩ := Option.map_eq_some_iff.1 h
      cases he
      rcases hb with hb | ⟨rfl, _, _⟩
      rotate_left
      · obtain rfl : new = [] := List.eq_nil_of_length_eq_zero (by rw [cut_length hl, Nat.zero_mul])
        exact ⟨rfl, #[], by simp only [Builtin.firstCells, Nat.zero_mul]; rfl, .nil, by simp⟩
      obtain ⟨l', h1, h2⟩ := run_firstCells (k := n) (c' := c') hR hat hb hl
      exact ⟨rfl, l', h1, h2, cut_length hl⟩
    · cases h
  · rename_i str
    obtain rfl := hx.string_inv
    split at h
    · rename_i h1
      cases h
      subst h1
      refine ⟨rfl, str.data.map fun b => .int .u8 b.toNat, ?_, ?_, by simp⟩
      · have : str.extract 0 str.size = str := by
          simp
        simp only [Builtin.firstCells, this]
        rfl
      · refine VsRel.toL ⟨by simp, fun i hi => ?_⟩
        simp only [List.size_toArray, List.length_map, Array.length_toList] at hi
        have hi2 : i < str.size := by simpa using hi
        have : ((str.data.map fun b => Value.int .u8 b.toNat).toList.toArray).getD i undef = .int .u8 (str.data[i]'hi).toNat := by
          simp [Array.getD, hi2]
        rw [this, show (str.data.toList.map fun b => Value.int .u8 b.toNat).toArray.getD i undef = .int .u8 (str.data[i]'hi).toNat from by simp only [Array.getD_eq_getD_getElem?, List.getElem?_toArray, List.getElem?_map, Array.getElem?_toList, Array.getElem?_eq_getElem hi]; rfl]
        exact .int _ _
    · cases h
  · cases h
theorem okCells_one : ∀ {l l' : List Value}, LRel ρ l l' → l.all okCell = true → ∀ v ∈ l', oneCell v = true := by
  intro l l' h
  induction h with
  | nil => intro _ v hv; cases hv
  | cons h _ ih =>
    intro hk v hv
    simp only [List.all_cons, Bool.and_eq_true] at hk
    rcases List.mem_cons.1 hv with rfl | hv
    · exact okCell_one h hk.1
    · exact ih hk.2 v hv
theorem run_append_room' {t t2 e : TypeId} {d2 : TypeDesc} {ie : TypeInfo} {x : Value} {base : Option Addr} {k c n : Nat} {new : Array Value} {ty : TypeId} {ts : Array TypeId} {args : Array Value}
    (ht0 : ts[0]? = some t) (ht1 : ts[1]? = some t2) (ha0 : args[0]? = some (.slice base k c)) (ha1 : args[1]? = some x) (ht : P.underlying t = some (.slice e)) (ht2 : P.underlying t2 = some d2) (hd2 : ∀ i, d2 ≠ .int i) (hie : P.info? e = some ie)
    (hlen : (Builtin.lenOf x).run P w = .ok n w) (hnew : (Builtin.firstCells ie.size n x).run P w = .ok new w) (hle : k + n ≤ c) :
    (Builtin.append_ ts ty args).run P w = ((match base with | some a => storeCells (a.add (k * ie.size)) new.toList | none => pure () : Sem Unit).run P w).andThen fun _ w' => .ok (.slice base (k + n) c) w' := by
  have hd : (d2 matches .int _) = false := by cases d2 <;> first | rfl | exact absurd rfl (hd2 _)
  simp only [Builtin.append_, ht0, ha0, ha1, ht1, Sem.run_bind, run_underlying' ht, run_underlying' ht2, Result.andThen_ok, run_sizeOf' hie, Sem.run_pure]
  cases d2 <;> first | exact absurd rfl (hd2 _) | skip
  all_goals
    simp only [Bool.false_eq_true, if_false, Sem.run_bind, hlen, Result.andThen_ok, Bool.not_false, if_true, hle, hnew]
    cases base <;> simp only [Sem.run_bind, Sem.run_pure, Result.andThen_ok]
theorem setA_getD : ∀ (l : List Value) (cs : Array Value) (o m : Nat), o + l.length ≤ cs.size → (setA cs o l).getD m undef = if o ≤ m ∧ m < o + l.length then l.getD (m - o) undef else cs.getD m undef := by
  intro l
  induction l with
  | nil => intro cs o m _; rw [if_neg (by simp)]; rfl
  | cons v l ih =>
    intro cs o m h
    simp only [List.length_cons] at h
    rw [setA, ih _ _ _ (by simp; omega)]
    simp only [List.length_cons]
    by_cases e : m = o
    · subst e
      rw [if_neg (by omega), if_pos (by omega)]
      rw [Array.getD_eq_getD_getElem?, Array.getElem?_setIfInBounds, if_pos rfl, if_pos (by omega)]
      simp
    · have e0 : (cs.setIfInBounds o v).getD m undef = cs.getD m undef := by
        rw [Array.getD_eq_getD_getElem?, Array.getElem?_setIfInBounds, if_neg (fun h => e h.symm), ← Array.getD_eq_getD_getElem?]
      rw [e0]
      by_cases e2 : o + 1 ≤ m ∧ m < o + 1 + l.length
      · rw [if_pos e2, if_pos (by omega), show m - o = (m - (o + 1)) + 1 from by omega, List.getD_cons_succ]
      · rw [if_neg e2, if_neg (by omega)]
theorem LRel.getD {l l' : List Value} (h : LRel ρ l l') (q : Nat) (hq : q < l.length) : VRel ρ (l.getD q undef) (l'.getD q undef) := by
  have := (VsRel.ofL h).2 q (by simpa using hq)
  simpa [Array.getD_eq_getD_getElem?, List.getD_eq_getElem?_getD] using this
theorem run_append_grow' {t t2 e : TypeId} {d2 : TypeDesc} {ie : TypeInfo} {x z : Value} {base : Option Addr} {k c n : Nat} {old new : Array Value} {ty : TypeId} {ts : Array TypeId} {args : Array Value}
    (ht0 : ts[0]? = some t) (ht1 : ts[1]? = some t2) (ha0 : args[0]? = some (.slice base k c)) (ha1 : args[1]? = some x) (ht : P.underlying t = some (.slice e)) (ht2 : P.underlying t2 = some d2) (hd2 : ∀ i, d2 ≠ .int i) (hie : P.info? e = some ie)
    (hlen : (Builtin.lenOf x).run P w = .ok n w) (hnew : (Builtin.firstCells ie.size n x).run P { w with drawn := w.drawn + 1 } = .ok new { w with drawn := w.drawn + 1 }) (hold : (Builtin.firstCells ie.size k (.slice base k c)).run P { w with drawn := w.drawn + 1 } = .ok old { w with drawn := w.drawn + 1 })
    (hz : ∀ w, (zeroValue e).run P w = .ok z w) (hb0 : 0 < ie.bytes) (hb : (k + n) * ie.bytes ≤ 140737488355328) (hgt : c < k + n) :
    ∃ cap, k + n ≤ cap ∧ cap < UNK ∧ (Builtin.append_ ts ty args).run P w = .ok (.slice (some ⟨w.heap.size, 0, none⟩) (k + n) cap)
      { w with heap := w.heap.push (.cells (old ++ new ++ Builtin.zeroCells z.cells (cap - (k + n))) e), drawn := w.drawn + 1 } := by
  have hneed : k + n ≤ 140737488355328 := by
    have : (k + n) * 1 ≤ (k + n) * ie.bytes := Nat.mul_le_mul_left _ hb0
    omega
  refine ⟨(Question.appendCap (k + n) c e).cut (w.tape w.drawn (.appendCap (k + n) c e)), ?_, ?_, ?_⟩
  · simp only [Question.cut]; omega
  · simp only [Question.cut]
    have : 0 < 2 ^ 63 - (k + n) := by omega
    have := Nat.mod_lt (w.tape w.drawn (.appendCap (k + n) c e)) this
    unfold UNK; omega
  · have h48 : ¬ (Builtin.nextslicecap (k + n) c * ie.bytes > 2 ^ 48) := by have := growslice_fits hgt hb; omega
    have h63 : ¬ (((k + n : Nat) : Int) > IntKind.i64.max) := by simp [IntKind.max, IntKind.bits, IntKind.signed]; omega
    have hroom : ∀ (b : Nat) (w : World), (askRoom b).run P w = .ok () w := by intro b w; unfold askRoom; split <;> rfl
    simp only [Builtin.append_, ht0, ha0, ha1, ht1, Sem.run_bind, run_underlying' ht, run_underlying' ht2, Result.andThen_ok, run_sizeOf' hie, Sem.run_pure]
    cases d2 <;> first | exact absurd rfl (hd2 _) | skip
    all_goals
      simp only [Bool.false_eq_true, if_false, Sem.run_bind, hlen, Result.andThen_ok, Bool.not_false, if_true, show ¬ (k + n ≤ c) from by omega, run_typeInfo' hie, h63, false_and, false_or, and_false, if_false, h48, Sem.run_pure]
      simp only [choose, Sem.run, Question.forced, Bool.false_eq_true, if_false, Result.andThen_ok, hroom, hold, hnew, hz, Sem.run_bind, run_newRow, Sem.run_pure]
theorem cgrow_sound {e : TypeId} {ie : TypeInfo} {need : Nat} {l : List Value} {v : Value} {s1 s' : St M} {cs : Array Value} {c : Nat} {z : Value} (h : cgrow P e ie need l s1 = some (v, s')) (hie : P.info? e = some ie) (hz : czero P e = some z) (hR : Rel P w0 ρ s1 w) (hl : LRel ρ l cs.toList) (hlen : l.length = need * ie.size) (hc : need ≤ c) (hc2 : c < UNK) :
    ∃ ρ' v', v' = .slice (some ⟨w.heap.size, 0, none⟩) need c ∧ VRel ρ' v v' ∧ Rel P w0 ρ' s' { w with heap := w.heap.push (.cells (cs ++ Builtin.zeroCells z.cells (c - need)) e), drawn := w.drawn + 1 } ∧ Ext ρ s1 ρ' s' := by
  unfold cgrow at h
  rw [hz] at h
  simp only at h
  split at h
  · rename_i hcond
    cases h
    have hsz : cs.size = need * ie.size := by have := hl.length; simp at this; omega
    have hmore : (cs ++ Builtin.zeroCells z.cells (c - need)).size = c * ie.size := by
      simp only [Array.size_append, Builtin.zeroCells, Array.size_map, Array.size_range, hsz, hcond.1]
      rw [← Nat.add_mul]; congr 1; omega
    have hn := hR.none_next (Nat.le_refl s1.next)
    let i : BI := ⟨w.heap.size, 0, c * ie.size, P.cellsOf e, 0⟩
    obtain ⟨h1, h2⟩ := (hR.drew (w.drawn + 1)).alloc (B := .cells l e true) (o := .cells (cs ++ Builtin.zeroCells z.cells (c - need)) e) (i := i) rfl (brel_cells_more hn (by simpa using VsRel.ofL hl) (fun j _ => by simp) rfl hmore.symm rfl) (.inl rfl)
    refine ⟨ρ.add s1.next i, _, rfl, .slice ⟨i, by simp, rfl, by simp [i]⟩ (.inr ⟨rfl, hc, hc2, fun j hj => ?_⟩), h1, h2⟩
    simp only [Ren.add_same, Option.some.injEq] at hj
    subst hj
    right
    simp [i, cellsOf_info hie]
  · cases h
theorem capp_sound {ts : Array TypeId} {ty : TypeId} {args args' : Array Value} {v : Value} {s' : St M} (h : capp P ts args s = some (v, s')) (hR : Rel P w0 ρ s w) (ha : VsRel ρ args args') :
    ∃ v' w' ρ', (Builtin.append_ ts ty args').run P w = .ok v' w' ∧ VRel ρ' v v' ∧ Rel P w0 ρ' s' w' ∧ Ext ρ s ρ' s' := by
  unfold capp at h
  split at h
  · cases h
  · rename_i e d2 sl x hnint hu hu2 hsl hx
    obtain ⟨t, ht0, hu⟩ := Option.bind_eq_some_iff.1 hu
    obtain ⟨t2, ht1, hu2⟩ := Option.bind_eq_some_iff.1 hu2
    have hd2 : ∀ i, d2 ≠ .int i := by
      intro i he
      exact hnint i he
    obtain ⟨sl', hsl', hslr⟩ := ha.getElem? hsl
    obtain ⟨x', hx', hxr⟩ := ha.getElem? hx
    split at h
    · cases h
    · rename_i ie hie
      split at h
      · cases h
      · rename_i n new hmore
        obtain ⟨hlen, new', hnew, hnl, hnlen⟩ := cmore_sound hmore hR hxr
        obtain ⟨hlenD, newD, hnewD, hnlD, _⟩ := cmore_sound hmore (hR.drew (w.drawn + 1)) hxr
        split at h
        · cases h
        · rename_i hok
          have hok : new.all okCell = true := by simpa using hok
          split at h
          · -- nil
            obtain ⟨rfl, rfl, rfl⟩ := hslr.nilSlice_inv
            split at h
            · rename_i h0
              cases h
              subst h0
              refine ⟨_, w, ρ, ?_, .nilSlice, hR, Ext.refl _ _⟩
              rw [run_append_room' ht0 ht1 hsl' hx' hu hu2 hd2 hie hlen hnew (by omega)]
              rfl
            · rename_i h0
              have h1 := h
              unfold cgrow at h1
              split at h1
              · rename_i z hz
                split at h1
                · rename_i hcond
                  have hold : (Builtin.firstCells ie.size 0 (.slice none 0 0)).run P { w with drawn := w.drawn + 1 } = .ok #[] { w with drawn := w.drawn + 1 } := rfl
                  obtain ⟨cap, hc1, hc2, hrun⟩ := run_append_grow' (k := 0) (c := 0) ht0 ht1 hsl' hx' hu hu2 hd2 hie hlen hnewD hold (fun w => (czero_run hz w).1) hcond.2.1 (by simpa using hcond.2.2) (by omega)
                  obtain ⟨ρ', v', e1, h3, h4, h5⟩ := cgrow_sound (cs := #[] ++ newD) (c := cap) h hie hz hR (by simpa using hnlD) hnlen (by omega) hc2
                  refine ⟨v', { w with heap := w.heap.push (.cells (#[] ++ newD ++ Builtin.zeroCells z.cells (cap - n)) e), drawn := w.drawn + 1 }, ρ', ?_, h3, h4, h5⟩
                  rw [hrun, e1]; simp only [Nat.zero_add]
                · cases h1
              · cases h1
          · rename_i a k c
            obtain ⟨a', c', rfl, har, hcr⟩ := hslr.slice_inv
            have hgrowAny : ∀ {vs old : List Value} {et : TypeId} {own : Bool} (s1 : St M), s.at' a.block = some (.cells vs et own) → cut vs a.off (k * ie.size) = some old → Rel P w0 ρ s1 w → Ext ρ s ρ s1 → cgrow P e ie (k + n) (old ++ new) s1 = some (v, s') → c' < k + n →
                ∃ v' w' ρ', (Builtin.append_ ts ty args').run P w = .ok v' w' ∧ VRel ρ' v v' ∧ Rel P w0 ρ' s' w' ∧ Ext ρ s ρ' s' := by
              intro vs old et own s1 hat hcut hR1 hE1 h hlt
              have h1 := h
              unfold cgrow at h1
              split at h1
              · rename_i z hz
                split at h1
                · rename_i hcond
                  obtain ⟨oldD, hold, hol⟩ : ∃ oldD : Array Value, (Builtin.firstCells ie.size k (.slice (some a') k c')).run P { w with drawn := w.drawn + 1 } = .ok oldD { w with drawn := w.drawn + 1 } ∧ LRel ρ old oldD.toList := by
                    rcases har with har | ⟨rfl, _, _⟩
                    · exact run_firstCells (k := k) (c' := c') (hR.drew (w.drawn + 1)) hat har hcut
                    · obtain rfl : old = [] := List.eq_nil_of_length_eq_zero (by rw [cut_length hcut, Nat.zero_mul])
                      exact ⟨#[], by simp only [Builtin.firstCells, Nat.zero_mul]; rfl, .nil⟩
                  obtain ⟨cap, hc1, hc2, hrun⟩ := run_append_grow' ht0 ht1 hsl' hx' hu hu2 hd2 hie hlen hnewD hold (fun w => (czero_run hz w).1) hcond.2.1 hcond.2.2 hlt
                  obtain ⟨ρ', v', e1, h3, h4, h5⟩ := cgrow_sound (cs := oldD ++ newD) (c := cap) h hie hz hR1 (by simpa using hol.append hnlD) (by rw [List.length_append, cut_length hcut, hnlen, Nat.add_mul]) hc1 hc2
                  exact ⟨v', _, ρ', by rw [hrun, e1], h3, h4, hE1.trans h5⟩
                · cases h1
              · cases h1
            split at h
            · -- the capacity is not known
              rename_i hcu
              obtain ⟨h1, h2⟩ | ⟨_, h2, h3, h4⟩ := hcr
              · omega
              have har := har.resolve_right fun hz => by rw [hcu] at hz; unfold UNK at hz; omega
              split at h
              · rename_i h0
                cases h
                subst h0
                refine ⟨_, w, ρ, ?_, .slice har (.inr ⟨hcu, h2, h3, h4⟩), hR, Ext.refl _ _⟩
                rw [run_append_room' ht0 ht1 hsl' hx' hu hu2 hd2 hie hlen hnew (by omega)]
                have : new = [] := List.eq_nil_of_length_eq_zero (by omega)
                subst this
                have hn0 : new'.toList = [] := List.eq_nil_of_length_eq_zero (by rw [← hnl.length]; rfl)
                simp only [hn0, storeCells, Sem.run_pure, Result.andThen_ok]
                rfl
              · rename_i h0
                split at h
                · rename_i vs et hat
                  split at h
                  · rename_i het
                    obtain ⟨rfl, hal⟩ := het
                    split at h
                    · rename_i old hcut
                      obtain ⟨i, hi, hsp, rfl⟩ := har
                      obtain ⟨hRk, hEk⟩ := hR.kill hi
                      by_cases hroom : k + n ≤ c'
                      · -- in place
                        obtain ⟨o, ho, hbr⟩ := hR.blk _ _ _ hi hat
                        obtain ⟨cs, e', fr, rfl, hsz, hv, hesz, hown⟩ := hbr
                        obtain ⟨rfl, hfr, hn, hes, hsh⟩ := hown rfl
                        have hes' : i.esz = ie.size := by rw [hes, cellsOf_info hie]
                        have hlim : a.off + i.sh + c' * ie.size ≤ cs.size := by
                          rcases h4 i hi with h5 | h5
                          · rw [hes'] at h5
                            have h6 := cut_rel hcut hsz hv
                            rw [h5] at h6 ⊢
                            simp at h6 ⊢
                            omega
                          · rw [hes', ← hn] at h5; exact h5
                        have hkn : (k + n) * ie.size ≤ c' * ie.size := Nat.mul_le_mul_right _ hroom
                        have hnl2 : new'.toList.length = n * ie.size := by rw [← hnl.length]; exact hnlen
                        have hone := okCells_one hnl hok
                        unfold cgrow at h
                        split at h
                        · rename_i z hz
                          split at h
                          · rename_i hcond
                            cases h
                            have hrun := run_append_room' (ty := ty) ht0 ht1 hsl' hx' hu hu2 hd2 hie hlen hnew hroom
                            simp only [addr_add_mk] at hrun
                            rw [run_storeCells (P := P) new'.toList ho hfr (by rw [Nat.add_mul] at hkn; omega) hone] at hrun
                            simp only [Result.andThen_ok] at hrun
                            let j : BI := ⟨i.blk, a.off + i.sh, i.n, i.esz, 0⟩
                            have hnx : ρ s.next = none := hR.none_next (Nat.le_refl _)
                            refine ⟨_, _, ρ.add s.next j, hrun, .slice ⟨j, by simp, rfl, by simp [j]⟩ (.inr ⟨rfl, hroom, h3, fun q hq => ?_⟩), ?_, ?_⟩
                            · simp only [Ren.add_same, St.next_kill, Option.some.injEq] at hq
                              subst hq
                              right
                              simp only [j, hes', ← hn]
                              omega
                            · refine hR.takeOver (j := j) hi hat rfl rfl (C := .cells (old ++ new) _ true) ⟨_, _, fr, rfl, ?_, fun q hq => ?_, .inr hes, fun _ => ⟨rfl, by rw [setA_size]; exact hfr, by rw [setA_size]; exact hn, hes, by rw [cellsOf_info hie] at hsh ⊢; rw [Nat.add_mod, hal, hsh]; simp⟩⟩ rfl rfl
                              · rw [setA_size, List.length_append, cut_length hcut, hnlen]
                                have : c' * ie.size ≥ (k + n) * ie.size := hkn
                                rw [Nat.add_mul] at this
                                simp only [j]
                                omega
                              · have hle2 := Ren.le_add (ρ := ρ) (b := s.next) (i := j) hnx
                                obtain ⟨_, hco⟩ := cut_rel hcut hsz hv
                                rw [List.length_append, cut_length hcut, hnlen] at hq
                                have hbig : a.off + i.sh + k * ie.size + 0 + new'.toList.length ≤ cs.size := by rw [hnl2]; rw [Nat.add_mul] at hkn; omega
                                rw [setA_getD _ _ _ _ hbig]
                                simp only [j]
                                by_cases e : q < k * ie.size
                                · rw [if_neg (by omega)]
                                  have h6 := hco.2 q (by simp [cut_length hcut, e])
                                  have e1 : (old ++ new).getD q undef = old.toArray.getD q undef := by
                                    rw [List.getD_eq_getElem?_getD, List.getElem?_append_left (by rw [cut_length hcut]; exact e), Array.getD_eq_getD_getElem?, List.getElem?_toArray]
                                  have e2 : cs.getD (a.off + i.sh + q) undef = (cs.extract (a.off + i.sh) (a.off + i.sh + k * ie.size)).getD q undef := by
                                    rw [Array.getD_eq_getD_getElem?, Array.getD_eq_getD_getElem?, Array.getElem?_extract, if_pos (by omega)]
                                  rw [e1, e2]
                                  exact h6.mono hle2
                                · rw [if_pos (by rw [hnl2]; omega)]
                                  have e1 : (old ++ new).getD q undef = new.getD (q - k * ie.size) undef := by
                                    rw [List.getD_eq_getElem?_getD, List.getElem?_append_right (by rw [cut_length hcut]; omega), cut_length hcut, ← List.getD_eq_getElem?_getD]
                                  rw [e1, show a.off + i.sh + q - (a.off + i.sh + k * ie.size + 0) = q - k * ie.size from by omega]
                                  exact (hnl.getD _ (by rw [hnlen]; omega)).mono hle2
                            · exact hEk.trans (Ext.place j hnx (s.kill a.block) (by simp) (Ext.new ρ (s.kill a.block) _))
                          · cases h
                        · cases h
                      · exact hgrowAny (s.kill a.block) hat hcut hRk hEk h (by omega)
                    · cases h
                  · cases h
                · cases h
            · rename_i hcu
              have hcc : c' = c := by
                obtain ⟨h1, _⟩ | ⟨h1, _⟩ := hcr
                · exact h1.symm
                · exact (hcu h1).elim
              subst hcc
              split at h
              · rename_i hroom
                have hrun := run_append_room' (ty := ty) ht0 ht1 hsl' hx' hu hu2 hd2 hie hlen hnew hroom
                split at h
                · rename_i h0
                  cases h
                  subst h0
                  rcases har with har | ⟨rfl, rfl, _⟩
                  rotate_left
                  · refine ⟨.slice (some a') 0 0, w, ρ, ?_, .void, hR, Ext.refl _ _⟩
                    rw [hrun]
                    have : new = [] := List.eq_nil_of_length_eq_zero (by omega)
                    subst this
                    have hn0 : new'.toList = [] := List.eq_nil_of_length_eq_zero (by rw [← hnl.length]; rfl)
                    simp only [hn0, storeCells, Sem.run_pure, Result.andThen_ok]
                  refine ⟨_, w, ρ, ?_, .slice har (.inl ⟨rfl, ?_⟩), hR, Ext.refl _ _⟩
                  · rw [hrun]
                    have : new = [] := List.eq_nil_of_length_eq_zero (by omega)
                    subst this
                    have hn0 : new'.toList = [] := List.eq_nil_of_length_eq_zero (by rw [← hnl.length]; rfl)
                    simp only [hn0, storeCells, Sem.run_pure, Result.andThen_ok]
                    rfl
                  · obtain ⟨_, h2⟩ | ⟨h1, _⟩ := hcr
                    · exact h2
                    · exact (hcu h1).elim
                · rename_i hn0
                  have har := har.resolve_right fun hz => by omega
                  obtain ⟨s1, hs1, h⟩ := Option.map_eq_some_iff.1 h
                  cases h
                  obtain ⟨w', h1, h2, h3⟩ := cstoreCells_sound (P := P) (l' := new'.toList) hs1 hR (har.add _) hnl
                  refine ⟨_, w', ρ, by rw [hrun]; simp only [h1, Result.andThen_ok], .slice har (.inl ⟨rfl, ?_⟩), h2, h3⟩
                  obtain ⟨_, h2⟩ | ⟨h1, _⟩ := hcr
                  · exact h2
                  · exact (hcu h1).elim
              · rename_i hroom
                split at h
                · rename_i vs et own hat
                  split at h
                  · rename_i old hcut
                    exact hgrowAny s hat hcut hR (Ext.refl _ _) h (by omega)
                  · cases h
                · cases h
          · cases h
  · cases h
end
end Go.Cs
namespace Go.Cs
section
variable {M : Type} [Mem M] (P : Program)
def cmapset (t : TypeId) (m k v : Value) (s : St M) : Option (St M) :=
  match P.underlying t, m with
  | some (.map kt _), .map (some r) => match s.at' r with
    | some (.map es clock) => match cfind P kt k es with
      | some (some (i, _)) => some (s.put r (.map (es.modify i fun e => { e with key := k, val := v }) clock))
      | some none => some (s.put r (.map (es ++ [{ key := k, val := v, born := clock }]) (clock + 1)))
      | none => none
    | _ => none
  | _, _ => none
def keyKind (t : TypeId) : Bool :=
  match P.underlying t with
  | some (.int _) => true
  | some .string => true
  | some .bool => true
  | _ => false
def cdelete (t : TypeId) (m k : Value) (s : St M) : Option (St M) :=
  match P.underlying t, m with
  | some (.map kt _), .map (some r) => match s.at' r with
    | some (.map es clock) => match cfind P kt k es with
      | some (some (i, _)) => some (s.put r (.map (es.eraseIdx i) clock))
      | some none => some s
      | none => none
    | _ => none
  | some (.map kt _), .map none => if plain 6 k = true ∧ keyKind P kt = true then some s else none
  | _, _ => none
def cextern (f : FuncId) (args : Array Value) : Option Value := match P.funcs[f]? with
  | some fn => if fn.body.isNone = true ∧ (fn.origin == "" || fn.origin == fn.name) = true then
      (if fn.name = "internal/abi.NoEscape" then (match args.toList with | [x] => some x | _ => none)
       else if fn.name = "internal/bytealg.abigen_runtime_cmpstring" then (match args.toList with | [.string a, .string b] => some (.int .i64 (Extern.BytealgCompare.cmp a b)) | _ => none) else none)
    else none
  | none => none
def cnumAt (a : Addr) (s : St M) : Option Int := match s.at' a.block with
  | some (.cells vs _ _) => match vs[a.off]? with
    | some (.int .i64 n) => some n
    | _ => none
  | _ => none
def catom (f : FuncId) (args : Array Value) (s : St M) : Option (Value × St M) := match P.funcs[f]? with
  | some fn => if fn.body.isNone = true ∧ (fn.origin == "" || fn.origin == fn.name) = true then
      (if fn.name = "sync/atomic.LoadInt64" then (match args.toList with
        | [.pointer (some a)] => (cnumAt a s).map fun n => (.int .i64 n, s)
        | _ => none)
       else if fn.name = "sync/atomic.StoreInt64" then (match args.toList with
        | [.pointer (some a), .int .i64 n] => (cstoreCells a [.int .i64 n] s).map fun s' => (undef, s')
        | _ => none)
       else if fn.name = "sync/atomic.AddInt64" then (match args.toList with
        | [.pointer (some a), .int .i64 d] => match cnumAt a s with
          | some n => (cstoreCells a [.int .i64 (IntKind.i64.wrap (n + d))] s).map fun s' => (.int .i64 (IntKind.i64.wrap (n + d)), s')
          | none => none
        | _ => none)
       else none)
    else none
  | none => none
def ceff (ev : Operand → Value) (s : St M) : Op → Option (Value × St M)
  | .store t a x => match ev a with
    | .pointer (some a) => if okPart (ev x) = true then (cstore P t a (ev x) s).map fun s' => (undef, s') else none
    | _ => none
  | .mapUpdate t m k x => (cmapset P t (ev m) (ev k) (ev x) s).map fun s' => (undef, s')
  | .insert t m k x => (cmapset P t (ev m) (ev k) (ev x) s).map fun s' => (undef, s')
  | .next it str => match str, ev it with
    | true, .pointer (some a) => if a.off = 0 ∧ a.spot = none then (match s.at' a.block with
      | some (.strIter x pos) =>
        if pos < x.size then some (.tuple #[.bool true, .int .i64 pos, .int .i32 (Utf8.decode x pos).1], s.put a.block (.strIter x (pos + (Utf8.decode x pos).2)))
        else some (.tuple #[.bool false], s)
      | _ => none) else none
    | _, _ => none
  | .call c => match c.callee with
    | .builtin .append => capp P c.argTypes (c.args.map ev) s
    | .builtin .delete => match (c.argTypes[0]? : Option TypeId), (c.args[0]?).map ev, (c.args[1]?).map ev with
      | some t, some m, some k => (cdelete P t m k s).map fun s' => (undef, s')
      | _, _, _ => none
    | .builtin .unsafeString => match (c.argTypes[0]? : Option TypeId).bind P.underlying, (c.args[0]?).map ev, (c.args[1]?).map ev with
      | some (.pointer u), some (.pointer p), some (.int _ n) =>
        if (c.args.size == 2) = false then none
        else if n = 0 then some (.string .empty, s)
        else match p with
          | some a => match s.at' a.block with
            | some (.cells vs e true) => if 0 < n ∧ n ≤ 9223372036854775807 ∧ upOk P e u = true ∧ P.cellsOf e = 1 then
                (match (cut vs a.off n.toNat).bind fun l => l.mapM byteOf? with
                  | some bs => some (.string ⟨bs.toArray⟩, s.put a.block (.cells vs e false))
                  | none => none)
              else none
            | _ => none
          | none => none
      | _, _, _ => none
    | .value f => match ev f with
      | .func (.func f) first captured => match cextern P f (first ++ c.args.map ev ++ captured) with
        | some v => some (v, s)
        | none => catom P f (first ++ c.args.map ev ++ captured) s
      | _ => none
    | .builtin .clear => match (c.argTypes[0]? : Option TypeId).bind P.underlying, (c.args[0]?).map ev with
      | some (.map _ _), some (.map none) => some (undef, s)
      | some (.slice _), some (.slice none _ _) => some (undef, s)
      | some (.slice e), some (.slice (some a) n _) =>
        if n = 0 then some (undef, s)
        else match czero P e with
          | some z => if z.cells.size = 0 then none else (cstoreCells a (czeros z (n * z.cells.size)) s).map fun s' => (undef, s')
          | none => none
      | _, _ => none
    | .builtin .copy => match (c.argTypes[0]? : Option TypeId).bind P.underlying, (c.args[0]?).map ev, (c.args[1]?).map ev with
      | some (.slice e), some (.slice d n _), some (.slice x m _) => match P.info? e with
        | some ie => match x with
          | none => some (.int .i64 (Nat.min m n), s)
          | some b => match s.at' b.block with
            | some (.cells vs _ _) => match cut vs b.off (Nat.min m n * ie.size) with
              | some l => match d with
                | none => some (.int .i64 (Nat.min m n), s)
                | some a => (cstoreCells a l s).map fun s' => (.int .i64 (Nat.min m n), s')
              | none => none
            | _ => none
        | none => none
      | _, _, _ => none
    | _ => none
  | _ => none
end
section
variable {M : Type} [Mem M] {P : Program} {w0 : World} {ρ : Ren} {s : St M} {w : World}
theorem run_setObj {b : Nat} {o o' : Obj} (h : w.heap[b]? = some o) (hc : ∀ c e f, o ≠ .cells c e f) : (setObj b o').run P w = .ok () { w with heap := w.heap.setIfInBounds b o' } := by
  unfold setObj
  simp only [Sem.run, h]
theorem findNow_bound (kd : TypeDesc) (k : Value) : ∀ (es : List MapEntry) (i j : Nat) (v : Value), Instr.findNow kd k es i = some (some (j, v)) → i ≤ j ∧ ∃ (h : j - i < es.length), Instr.sameNow kd k es[j - i].key = some true := by
  intro es
  induction es with
  | nil => intro i j v h; simp [Instr.findNow] at h
  | cons e es ih =>
    intro i j v h
    simp only [Instr.findNow] at h
    split at h
    · rename_i hs
      simp only [Option.some.injEq, Prod.mk.injEq] at h
      obtain ⟨rfl, _⟩ := h
      exact ⟨Nat.le_refl _, by simp, by simpa using hs⟩
    · obtain ⟨h1, h2, h3⟩ := ih _ _ _ h
      refine ⟨by omega, by simp; omega, ?_⟩
      have : j - i = (j - (i + 1)) + 1 := by omega
      simp only [this, List.getElem_cons_succ]
      exact h3
    · cases h
theorem ba_beq_iff {a b : ByteArray} : (a == b) = true ↔ a = b := by
  show (a.data == b.data) = true ↔ a = b
  rw [beq_iff_eq]
  exact ⟨fun h => ByteArray.ext h, fun h => by rw [h]⟩
theorem sameNow_bits {kd : TypeDesc} {k k' : Value} (h : Instr.sameNow kd k k' = some true) : Instr.sameBits 10000 k' k = true := by
  unfold Instr.sameNow at h
  split at h
  · split at h
    · rename_i hk
      subst hk
      simp only [Option.some.injEq, beq_iff_eq] at h
      subst h
      simp [Instr.sameBits]
    · cases h
  · simp only [Option.some.injEq, ba_beq_iff] at h
    subst h
    simp only [Instr.sameBits, ba_beq_iff]
  · simp only [Option.some.injEq, beq_iff_eq] at h
    subst h
    simp [Instr.sameBits]
  · cases h
theorem run_keyThatStays {old new : Value} (h : Instr.sameBits 10000 old new = true) (w : World) : (Instr.keyThatStays old new).run P w = .ok new w := by
  simp only [Instr.keyThatStays, h, if_true, Sem.run_pure]
theorem EsRel.modify {es : List MapEntry} {es' : Array MapEntry} (h : EsRel ρ es es') (i : Nat) {k v v' : Value} (hp : plain 6 k = true) (hv : VRel ρ v v') :
    EsRel ρ (es.modify i fun e => { e with key := k, val := v }) (es'.modify i fun e => { e with key := k, val := v' }) := by
  refine ⟨by simp [h.1], fun j hj hj' => ?_⟩
  simp only [List.length_modify] at hj
  simp only [Array.size_modify] at hj'
  obtain ⟨h1, h2, h3, h4⟩ := h.2 j hj hj'
  simp only [List.getElem_modify, Array.getElem_modify]
  by_cases e : i = j
  · simp only [if_pos e]; exact ⟨trivial, h2, hp, hv⟩
  · simp only [if_neg e]; exact ⟨h1, h2, h3, h4⟩
theorem EsRel.push {es : List MapEntry} {es' : Array MapEntry} (h : EsRel ρ es es') {k v v' : Value} {n : Nat} (hp : plain 6 k = true) (hv : VRel ρ v v') :
    EsRel ρ (es ++ [{ key := k, val := v, born := n }]) (es'.push { key := k, val := v', born := n }) := by
  refine ⟨by simp [h.1], fun j hj hj' => ?_⟩
  simp only [List.length_append, List.length_cons, List.length_nil] at hj
  have hsz := h.1
  simp only [List.getElem_append, Array.getElem_push]
  by_cases e : j < es.length
  · have e' : j < es'.size := by omega
    simp only [dif_pos e, dif_pos e']
    exact h.2 j e e'
  · have e' : ¬ j < es'.size := by omega
    simp only [dif_neg e, dif_neg e']
    have : j - es.length = 0 := by omega
    simp only [this, List.getElem_cons_zero]
    exact ⟨trivial, trivial, hp, hv⟩
theorem EsRel.erase {es : List MapEntry} {es' : Array MapEntry} (h : EsRel ρ es es') (i : Nat) (hi : i < es.length) : EsRel ρ (es.eraseIdx i) (es'.eraseIdxIfInBounds i) := by
  have hsz := h.1
  have hi' : i < es'.size := by omega
  rw [Array.eraseIdxIfInBounds, dif_pos hi']
  refine ⟨by simp [List.length_eraseIdx, hi, hsz], fun j hj hj' => ?_⟩
  simp only [List.length_eraseIdx, hi, if_true] at hj
  simp only [List.getElem_eraseIdx, Array.getElem_eraseIdx]
  by_cases e : j < i
  · simp only [dif_pos e]; exact h.2 j (by omega) (by omega)
  · simp only [dif_neg e]; exact h.2 (j + 1) (by omega) (by omega)
theorem cmapset_sound {t : TypeId} {m k v m' k' v' : Value} {s' : St M} (h : cmapset P t m k v s = some s') (hR : Rel P w0 ρ s w) (hm : VRel ρ m m') (hk : VRel ρ k k') (hv : VRel ρ v v') :
    ∃ w', (Instr.mapUpdate t m' k' v').run P w = .ok () w' ∧ Rel P w0 ρ s' w' ∧ Ext ρ s ρ s' := by
  unfold cmapset at h
  split at h
  · rename_i kt et r hu
    obtain ⟨i, rfl, hi⟩ := hm.map_inv
    split at h
    · rename_i es clock hat
      obtain ⟨o, ho, hbr⟩ := hR.blk _ _ _ hi hat
      obtain ⟨es', rfl, hes⟩ := hbr
      have hes : EsRel ρ es es' := hes
      split at h
      · rename_i j u hf
        cases h
        obtain ⟨hp, kd, hkd, hfn, hck⟩ := cfind_kind hf
        obtain ⟨u', hu1, hu2⟩ := (findNow_rel kd k es es'.toList 0 _ (by rw [Array.toArray_toList]; exact hes) hfn).2 j u rfl
        obtain ⟨_, hjl, hsame⟩ := findNow_bound kd k es 0 j u hfn
        have hjl : j < es.length := hjl
        have hj' : j < es'.size := by have := hes.1; omega
        obtain ⟨hkey, _⟩ := hes.2 j hjl hj'
        have hbits : Instr.sameBits 10000 (((es'[j]?).map (·.key)).getD k) k = true := by
          rw [Array.getElem?_eq_getElem hj']
          simp only [Option.map_some, Option.getD_some]
          rw [hkey]
          exact sameNow_bits hsame
        rw [VRel.eq_of_plain 6 hp hk]
        refine ⟨_, ?_, hR.write hi hat rfl ⟨_, rfl, hes.modify j hp hv⟩⟩
        simp only [Instr.mapUpdate, Sem.run_bind, run_underlying' hu, Result.andThen_ok, run_getObj ho (by simp), run_checkKey hck, run_findKey hkd hu1, run_keyThatStays hbits, run_setObj ho (by simp)]
      · rename_i hf
        cases h
        obtain ⟨hp, kd, hkd, hfn, hck⟩ := cfind_kind hf
        have hu1 := (findNow_rel kd k es es'.toList 0 _ (by rw [Array.toArray_toList]; exact hes) hfn).1 rfl
        rw [VRel.eq_of_plain 6 hp hk]
        refine ⟨_, ?_, hR.write hi hat rfl ⟨_, rfl, hes.push hp hv⟩⟩
        simp only [Instr.mapUpdate, Sem.run_bind, run_underlying' hu, Result.andThen_ok, run_getObj ho (by simp), run_checkKey hck, run_findKey hkd hu1, run_setObj ho (by simp)]
      · cases h
    · cases h
  · cases h
theorem setObj_same {b : Nat} {o : Obj} (h : w.heap[b]? = some o) : { w with heap := w.heap.setIfInBounds b o } = w := by
  have : w.heap.setIfInBounds b o = w.heap := by
    apply Array.ext_getElem?
    intro j
    rw [Array.getElem?_setIfInBounds]
    split
    · subst_vars
      have hlt : j < w.heap.size := by
        rcases Nat.lt_or_ge j w.heap.size with h' | h'
        · exact h'
        · rw [Array.getElem?_eq_none h'] at h; cases h
      rw [if_pos hlt]; exact h.symm
    · rfl
  rw [this]
theorem cdelete_sound {t : TypeId} {m k m' k' : Value} {s' : St M} {ts : Array TypeId} {args' : Array Value} {ty : TypeId} (h : cdelete P t m k s = some s') (hR : Rel P w0 ρ s w) (hm : VRel ρ m m') (hk : VRel ρ k k')
    (ht : ts[0]? = some t) (ha0 : args'[0]? = some m') (ha1 : args'[1]? = some k') :
    ∃ w', (Builtin.delete_ ts ty args').run P w = .ok undef w' ∧ Rel P w0 ρ s' w' ∧ Ext ρ s ρ s' := by
  unfold cdelete at h
  split at h
  · rename_i kt et r hu
    obtain ⟨i, rfl, hi⟩ := hm.map_inv
    split at h
    · rename_i es clock hat
      obtain ⟨o, ho, hbr⟩ := hR.blk _ _ _ hi hat
      obtain ⟨es', rfl, hes⟩ := hbr
      have hes : EsRel ρ es es' := hes
      split at h
      · rename_i j u hf
        cases h
        obtain ⟨hp, kd, hkd, hfn, hck⟩ := cfind_kind hf
        obtain ⟨u', hu1, hu2⟩ := (findNow_rel kd k es es'.toList 0 _ (by rw [Array.toArray_toList]; exact hes) hfn).2 j u rfl
        obtain ⟨_, hjl, _⟩ := findNow_bound kd k es 0 j u hfn
        rw [VRel.eq_of_plain 6 hp hk] at ha1
        refine ⟨_, ?_, hR.write hi hat rfl ⟨_, rfl, hes.erase j hjl⟩⟩
        simp only [Builtin.delete_, ht, ha0, ha1, Sem.run_bind, run_underlying' hu, Result.andThen_ok, run_getObj ho (by simp), run_checkKey hck, run_findKey hkd hu1, run_setObj ho (by simp), Sem.run_pure]
        rfl
      · rename_i hf
        cases h
        obtain ⟨hp, kd, hkd, hfn, hck⟩ := cfind_kind hf
        have hu1 := (findNow_rel kd k es es'.toList 0 _ (by rw [Array.toArray_toList]; exact hes) hfn).1 rfl
        rw [VRel.eq_of_plain 6 hp hk] at ha1
        refine ⟨w, ?_, hR, Ext.refl _ _⟩
        simp only [Builtin.delete_, ht, ha0, ha1, Sem.run_bind, run_underlying' hu, Result.andThen_ok, run_getObj ho (by simp), run_checkKey hck, run_findKey hkd hu1, run_setObj ho (by simp), Sem.run_pure, setObj_same ho]
        rfl
      · cases h
    · cases h
  · rename_i kt et hu
    split at h
    · rename_i hc
      cases h
      obtain rfl := hm.nilMap_inv
      have hck : (∃ i, P.underlying kt = some (.int i)) ∨ P.underlying kt = some .string ∨ P.underlying kt = some .bool := by
        have h2 := hc.2
        unfold keyKind at h2
        split at h2
        · rename_i i hi; exact .inl ⟨i, hi⟩
        · exact .inr (.inl (by assumption))
        · exact .inr (.inr (by assumption))
        · cases h2
      refine ⟨w, ?_, hR, Ext.refl _ _⟩
      simp only [Builtin.delete_, ht, ha0, ha1, Sem.run_bind, run_underlying' hu, Result.andThen_ok, run_checkKey hck, Sem.run_pure]
      rfl
    · cases h
  · cases h
theorem runSkip {α : Type} {x : Sem Unit} {w' : World} (h : x.run P w = .ok () w') : (do x; pure Next.skip : Sem Next).run P w = .ok .skip w' := by simp [h]
theorem append_rel {a a' b b' : Array Value} (h : VsRel ρ a a') (h' : VsRel ρ b b') : VsRel ρ (a ++ b) (a' ++ b') := by
  have h1 := VsRel.toL (l := a.toList) (l' := a'.toList) (by simpa using h)
  have h2 := VsRel.toL (l := b.toList) (l' := b'.toList) (by simpa using h')
  have := VsRel.ofL (h1.append h2)
  rw [show (a.toList ++ b.toList).toArray = a ++ b from by apply Array.ext'; simp, show (a'.toList ++ b'.toList).toArray = a' ++ b' from by apply Array.ext'; simp] at this
  exact this
theorem find_noEscape {fn : Func} (h : fn.name = "internal/abi.NoEscape") : Extern.find fn = some Extern.AbiNoEscape.same := by
  unfold Extern.find
  rw [h]
  rfl
theorem find_cmpstring {fn : Func} (h : fn.name = "internal/bytealg.abigen_runtime_cmpstring") : Extern.find fn = some Extern.BytealgCompare.compare := by
  unfold Extern.find
  rw [h]
  rfl
theorem findNext_none {fn : Func} (h : fn.name = "internal/abi.NoEscape" ∨ fn.name = "internal/bytealg.abigen_runtime_cmpstring") (ho : (fn.origin == "" || fn.origin == fn.name) = true) : Extern.findNext fn = none := by
  simp only [Bool.or_eq_true, beq_iff_eq] at ho
  unfold Extern.findNext
  rcases h with h | h <;> rcases ho with ho | ho <;> rw [ho, h] <;> rfl
theorem cextern_sound {f : FuncId} {args args' : Array Value} {v : Value} (h : cextern P f args = some v) (ha : VsRel ρ args args') : ∃ v', (callFunc f args').run P w = .ok (.value v') w ∧ VRel ρ v v' := by
  unfold cextern at h
  split at h
  · rename_i fn hfn
    split at h
    · rename_i hc
      have hnum : ∀ {nm : String}, fn.name = nm → (nm == "runtime.NumGoroutine") = false → (fn.name == "runtime.NumGoroutine") = false := fun e h => by rw [e]; exact h
      split at h
      · rename_i hn
        split at h
        · rename_i x he
          cases h
          have he : args = #[v] := by apply Array.ext'; exact he
          subst he
          have hsz : args'.size = 1 := by have := ha.1; simpa using this.symm
          have hx := ha.2 0 (by simp)
          have e : args' = #[args'.getD 0 undef] := by
            apply Array.ext
            · simp [hsz]
            · intro i h1 h2
              have : i = 0 := by simp at h2; omega
              subst this
              simp [Array.getD, hsz]
          generalize args'.getD 0 undef = x' at e hx
          subst e
          refine ⟨x', ?_, by simpa [Array.getD] using hx⟩
          have hsame : ∀ w : World, (Extern.AbiNoEscape.same #[x']).run P w = .ok x' w := fun w => rfl
          simp only [callFunc, program, Sem.run_bind, Sem.run, Result.andThen_ok, hfn, hnum hn rfl, hc.1, Bool.false_eq_true, if_false, if_true, mark, findNext_none (.inl hn) hc.2, find_noEscape hn, hsame, Sem.run_pure]
        · cases h
      · split at h
        · rename_i hn
          split at h
          · rename_i a b he
            cases h
            have he : args = #[.string a, .string b] := by apply Array.ext'; exact he
            subst he
            have hsz : args'.size = 2 := by have := ha.1; simpa using this.symm
            have hx := ha.2 0 (by simp)
            have hy := ha.2 1 (by simp)
            have e : args' = #[.string a, .string b] := by
              have e0 : args'.getD 0 undef = .string a := by simpa [Array.getD] using hx.string_inv
              have e1 : args'.getD 1 undef = .string b := by simpa [Array.getD] using hy.string_inv
              apply Array.ext
              · simp [hsz]
              · intro i h1 h2
                have : i = 0 ∨ i = 1 := by simp at h2; omega
                rcases this with rfl | rfl
                · simpa [Array.getD, hsz] using e0
                · simpa [Array.getD, hsz] using e1
            subst e
            refine ⟨_, ?_, .int _ _⟩
            have hcmp : ∀ w : World, (Extern.BytealgCompare.compare #[.string a, .string b]).run P w = .ok (.int .i64 (Extern.BytealgCompare.cmp a b)) w := fun w => rfl
            simp only [callFunc, program, Sem.run_bind, Sem.run, Result.andThen_ok, hfn, hnum hn rfl, hc.1, Bool.false_eq_true, if_false, if_true, mark, findNext_none (.inr hn) hc.2, find_cmpstring hn, hcmp, Sem.run_pure]
          · cases h
        · cases h
    · cases h
  · cases h
theorem run_loadBytes {b : Nat} {cs : Array Value} {e : TypeId} {fr : Nat × Nat} (hb : w.heap[b]? = some (.cells cs e fr)) : ∀ (l : List Value) (bs : List UInt8) (o : Nat) (acc : ByteArray),
    l.mapM byteOf? = some bs → o + l.length ≤ cs.size → (∀ k, k < l.length → VRel ρ (l.getD k undef) (cs.getD (o + k) undef)) → (Go.loadBytes ⟨b, o, none⟩ acc l.length).run P w = .ok ⟨acc.data ++ bs.toArray⟩ w := by
  intro l
  induction l with
  | nil => intro bs o acc h _ _; simp at h; subst h; simp [Go.loadBytes]
  | cons v l ih =>
    intro bs o acc h ho hv
    simp only [List.mapM_cons, Option.bind_eq_bind, Option.bind_eq_some_iff] at h
    obtain ⟨x, hx, bs', hbs, h⟩ := h
    cases h
    have h0 := hv 0 (by simp)
    simp only [List.length_cons] at ho
    have hlt : o < cs.size := by omega
    simp only [List.getD_cons_zero, Nat.add_zero, Array.getD, hlt, dif_pos] at h0
    have hcell : cs[o]? = some cs[o] := by simp
    unfold byteOf? at hx
    split at hx
    · rename_i m
      cases hx
      have h1 : cs[o] = .int .u8 m := h0.int_inv
      simp only [List.length_cons, Go.loadBytes, Sem.run_bind, run_load_at hb hcell, Result.andThen_ok, h1, addr_add_mk]
      rw [ih bs' (o + 1) _ hbs (by omega) (fun k hk => by have := hv (k + 1) (by simp; omega); rw [List.getD_cons_succ] at this; rw [show o + 1 + k = o + (k + 1) from by omega]; exact this)]
      congr 1
      apply ByteArray.ext
      simp [ByteArray.push]
    · cases hx
theorem freeze_eq {b o n : Nat} {cs : Array Value} {e : TypeId} {fr : Nat × Nat} (hb : w.heap[b]? = some (.cells cs e fr)) : ∃ fr', w.freeze ⟨b, o, none⟩ n = { w with heap := w.heap.setIfInBounds b (.cells cs e fr') } := by
  unfold World.freeze
  by_cases hn : n = 0
  · rw [if_pos hn]
    refine ⟨fr, ?_⟩
    have : w.heap.setIfInBounds b (.cells cs e fr) = w.heap := by
      apply Array.ext_getElem?
      intro i
      rw [Array.getElem?_setIfInBounds]
      split
      · rename_i h; subst h; split
        · exact hb.symm
        · rename_i h2; rw [Array.getElem?_eq_none (by omega)] at hb; cases hb
      · rfl
    rw [this]
  · rw [if_neg hn]
    refine ⟨if fr.1 == fr.2 then (o, o + n) else (min fr.1 o, max fr.2 (o + n)), ?_⟩
    congr 1
    apply Array.ext_getElem?
    intro i
    rw [Array.getElem?_setIfInBounds, Array.getElem?_modify]
    split
    · rename_i h; subst h
      rw [hb]
      have hlt : b < w.heap.size := by
        rcases Nat.lt_or_ge b w.heap.size with h | h
        · exact h
        · rw [Array.getElem?_eq_none h] at hb; cases hb
      simp [hlt]
    · rfl
theorem unsafeString_sound {ts : Array TypeId} {ty t u e : TypeId} {a a' : Addr} {k : IntKind} {n : Int} {vs l : List Value} {bs : List UInt8} (hR : Rel P w0 ρ s w) (ht : ts[0]? = some t) (hu : P.underlying t = some (.pointer u)) (ha : ARel ρ a a') (hat : s.at' a.block = some (.cells vs e true))
    (h0 : 0 < n) (h1 : n ≤ 9223372036854775807) (hup : upOk P e u = true) (hce : P.cellsOf e = 1) (hl : cut vs a.off n.toNat = some l) (hbs : l.mapM byteOf? = some bs) :
    (Builtin.unsafeString_ ts ty #[.pointer (some a'), .int k n]).run P w = .ok (.string ⟨bs.toArray⟩) (w.freeze a' n.toNat) ∧ Rel P w0 ρ (s.put a.block (.cells vs e false)) (w.freeze a' n.toNat) ∧ Ext ρ s ρ (s.put a.block (.cells vs e false)) := by
  obtain ⟨i, hi, hsp, rfl⟩ := ha
  obtain ⟨o, hob, hbr⟩ := hR.blk _ _ _ hi hat
  obtain ⟨cs, e', fr, rfl, hsz, hv, hesz, hown⟩ := hbr
  obtain ⟨rfl, _, _, _, hsh⟩ := hown rfl
  unfold upOk at hup
  simp only [Bool.and_eq_true, bne_iff_ne, ne_eq] at hup
  obtain ⟨⟨⟨_, h2⟩, h3⟩, _⟩ := hup
  obtain ⟨hle, hvr⟩ := cut_rel hl hsz hv
  have hlen := cut_length hl
  have hlies := liesAt_of (P := P) (e := e') (u := u) (count := cs.size / P.cellsOf e') (off := a.off + i.sh) (n := n.toNat) h3 (by rw [hce]; omega) h2 (by rw [hce]; exact Nat.mod_one _) (by rw [hce]; simpa using hle)
  have hload := run_loadBytes (P := P) (ρ := ρ) hob l bs (a.off + i.sh) .empty hbs (by rw [hlen]; exact hle) (fun k hk => by
    have := hvr.2 k (by simpa using hk)
    have e1 : (cs.extract (a.off + i.sh) (a.off + i.sh + n.toNat)).getD k undef = cs.getD (a.off + i.sh + k) undef := by
      rw [Array.getD_eq_getD_getElem?, Array.getD_eq_getD_getElem?, Array.getElem?_extract, if_pos (by omega)]
    rw [e1] at this
    simpa [Array.getD_eq_getD_getElem?] using this)
  rw [hlen] at hload
  have hn0 : ¬ n < 0 := by omega
  have hn1 : ¬ n > IntKind.i64.max := by simp [IntKind.max, IntKind.bits, IntKind.signed]; omega
  have hn2 : ¬ n = 0 := by omega
  obtain ⟨fr', hfz⟩ := freeze_eq (n := n.toNat) (o := a.off + i.sh) hob
  refine ⟨?_, ?_⟩
  · have helem : (elemOf t).run P w = .ok u w := by
      simp only [elemOf, Sem.run_bind, run_underlying' hu, Result.andThen_ok, Sem.run_pure]
    have hdef : Builtin.unsafeString_ ts ty #[.pointer (some ⟨i.blk, a.off + i.sh, none⟩), .int k n] = (do
      let m ← asInt (.int k n)
      let some pt := ts[0]? | stuck _
      if m < 0 then runtimePanic (.error _)
      if m > IntKind.i64.max then unsupported (.unsafePointer _)
      if m = 0 then pure (.string .empty)
      else if ← variablesAt ⟨i.blk, a.off + i.sh, none⟩ (← elemOf pt) m.toNat then do
        let x ← Go.loadBytes ⟨i.blk, a.off + i.sh, none⟩ .empty m.toNat
        freeze ⟨i.blk, a.off + i.sh, none⟩ m.toNat
        pure (.string x)
      else unsupported (.unsafePointer _)) := rfl
    rw [hdef]
    simp only [asInt, asIntOf, Sem.run_bind, Sem.run_pure, Result.andThen_ok, ht, hn0, hn1, hn2, if_false, helem, run_variablesAt hob, hlies, if_true, hload, freeze, Sem.run]
    simp
  · rw [hfz]
    exact hR.write hi hat rfl ⟨cs, e', fr', rfl, hsz, hv, hesz, fun h => by cases h⟩
theorem find_loadInt64 {fn : Func} (h : fn.name = "sync/atomic.LoadInt64") : Extern.find fn = some (Extern.Atomic.loadT (.int .i64)) := by
  unfold Extern.find
  rw [h]
  rfl
theorem find_storeInt64 {fn : Func} (h : fn.name = "sync/atomic.StoreInt64") : Extern.find fn = some Extern.Atomic.storeT := by
  unfold Extern.find
  rw [h]
  rfl
theorem find_addInt64 {fn : Func} (h : fn.name = "sync/atomic.AddInt64") : Extern.find fn = some (Extern.Atomic.update (Op.intArith .add) .i64 true) := by
  unfold Extern.find
  rw [h]
  rfl
theorem findNext_atomic {fn : Func} (h : fn.name = "sync/atomic.LoadInt64" ∨ fn.name = "sync/atomic.StoreInt64" ∨ fn.name = "sync/atomic.AddInt64") (ho : (fn.origin == "" || fn.origin == fn.name) = true) : Extern.findNext fn = none := by
  simp only [Bool.or_eq_true, beq_iff_eq] at ho
  unfold Extern.findNext
  rcases h with h | h | h <;> rcases ho with ho | ho <;> rw [ho, h] <;> rfl
theorem cnumAt_sound {a a' : Addr} {n : Int} (h : cnumAt a s = some n) (hR : Rel P w0 ρ s w) (ha : ARel ρ a a') : w.cell? a' = some (.int .i64 n) := by
  unfold cnumAt at h
  obtain ⟨i, hi, hsp, rfl⟩ := ha
  split at h
  · rename_i vs e own hat
    obtain ⟨o, ho, hb⟩ := hR.blk _ _ _ hi hat
    obtain ⟨cs, e', fr, rfl, hsz, hv, _⟩ := hb
    split at h
    · rename_i m hm
      cases h
      have hlt : a.off < vs.length := by
        rcases Nat.lt_or_ge a.off vs.length with h' | h'
        · exact h'
        · rw [List.getElem?_eq_none h'] at hm; cases hm
      have hr := hv a.off hlt
      rw [List.getD_eq_getElem?_getD, hm] at hr
      have := hr.int_inv
      have hc : i.sh + a.off < cs.size := by omega
      simp only [Array.getD, hc, dif_pos] at this
      simp only [World.cell?, ho]
      rw [Nat.add_comm, Array.getElem?_eq_getElem hc]
      exact congrArg some this
    · cases h
  · cases h
theorem run_load_mode {w : World} {a : Addr} {v : Value} (h : w.cell? a = some v) (m : Mode) : (load a m).run P w = .ok v w := by
  simp [load, Sem.run, h]
theorem store_mode {w : World} {a : Addr} {u v : Value} (h : w.cell? a = some u) (m : Mode) : (store a v m).run P w = (store a v).run P w := by
  cases v <;> simp [store, Sem.run, h]
theorem storeCells_one {w w' : World} {a : Addr} {v : Value} (h : (storeCells a [v]).run P w = .ok () w') : (store a v).run P w = .ok () w' := by
  have e : a.add 0 = a := by cases a; simp [Addr.add]
  unfold storeCells at h
  rw [e] at h
  simpa [Sem.run_bind, storeCells] using h
theorem cell_of_cstore {a a' : Addr} {v : Value} {l : List Value} {s1 : St M} (h : cstoreCells a (v :: l) s = some s1) (hR : Rel P w0 ρ s w) (ha : ARel ρ a a') : ∃ u, w.cell? a' = some u := by
  unfold cstoreCells at h
  obtain ⟨i, hi, hsp, rfl⟩ := ha
  split at h
  · rename_i vs e hat
    split at h
    · rename_i hc
      obtain ⟨o, ho, hb⟩ := hR.blk _ _ _ hi hat
      obtain ⟨cs, e', fr, rfl, hsz, hv, _⟩ := hb
      have h1 := hc.1
      simp only [List.length_cons] at h1
      have hlt : a.off + i.sh < cs.size := by omega
      exact ⟨cs[a.off + i.sh], by simp only [World.cell?, ho]; simp [hlt]⟩
    · cases h
  · cases h
theorem run_read {a : Addr} {n : Int} (h : w.cell? a = some (.int .i64 n)) : (Extern.Atomic.read (.int .i64) a).run P w = .ok (.int .i64 n) w := by
  simp only [Extern.Atomic.read, Sem.run_bind, run_load_mode h, Result.andThen_ok]
  rfl
theorem args_of {l : List Value} {args args' : Array Value} (he : args.toList = l) (ha : VsRel ρ args args') : ∃ l', args' = ⟨l'⟩ ∧ LRel ρ l l' :=
  ⟨args'.toList, rfl, by
    have : args = ⟨l⟩ := by apply Array.ext'; exact he
    subst this
    exact VsRel.toL (by simpa using ha)⟩
theorem catom_sound {f : FuncId} {args args' : Array Value} {v : Value} {s' : St M} (h : catom P f args s = some (v, s')) (hR : Rel P w0 ρ s w) (ha : VsRel ρ args args') :
    ∃ v' w', (callFunc f args').run P w = .ok (.value v') w' ∧ VRel ρ v v' ∧ Rel P w0 ρ s' w' ∧ Ext ρ s ρ s' := by
  unfold catom at h
  split at h
  case h_2 => cases h
  rename_i fn hfn
  split at h
  case isFalse => cases h
  rename_i hc
  have hnum : ∀ {nm : String}, fn.name = nm → (nm == "runtime.NumGoroutine") = false → (fn.name == "runtime.NumGoroutine") = false := fun e h => by rw [e]; exact h
  split at h
  · rename_i hn
    split at h
    case h_2 => cases h
    rename_i a he
    obtain ⟨n, hcn, h⟩ := Option.map_eq_some_iff.1 h
    cases h
    obtain ⟨l', rfl, hl⟩ := args_of he ha
    cases hl with
    | cons hx ht =>
      cases ht
      obtain ⟨a', rfl, har⟩ := hx.ptr_inv
      have hcell := cnumAt_sound hcn hR har
      have hsame : (Extern.Atomic.loadT (.int .i64) #[.pointer (some a')]).run P w = .ok (.int .i64 n) w := by
        have hdef : Extern.Atomic.loadT (.int .i64) #[.pointer (some a')] = (do Extern.Atomic.read (.int .i64) (← asAddr (.pointer (some a')))) := rfl
        rw [hdef]
        simp only [asAddr, Sem.run_bind, Sem.run_pure, Result.andThen_ok, run_read hcell]
      refine ⟨_, w, ?_, .int _ _, hR, Ext.refl _ _⟩
      simp only [callFunc, program, Sem.run_bind, Sem.run, Result.andThen_ok, hfn, hnum hn rfl, hc.1, Bool.false_eq_true, if_false, if_true, mark, findNext_atomic (.inl hn) hc.2, find_loadInt64 hn, hsame, Sem.run_pure]
  · split at h
    · rename_i hn
      split at h
      case h_2 => cases h
      rename_i a n he
      obtain ⟨s1, hs1, h⟩ := Option.map_eq_some_iff.1 h
      cases h
      obtain ⟨l', rfl, hl⟩ := args_of he ha
      cases hl with
      | cons hx ht =>
        cases ht with
        | cons hy ht =>
          cases ht
          obtain ⟨a', rfl, har⟩ := hx.ptr_inv
          obtain rfl := hy.int_inv
          obtain ⟨w', h1, h2, h3⟩ := cstoreCells_sound hs1 hR har (.cons (.int .i64 n) .nil)
          have h1 := storeCells_one h1
          obtain ⟨u, hu⟩ := cell_of_cstore hs1 hR har
          have hsame : (Extern.Atomic.storeT #[.pointer (some a'), .int .i64 n]).run P w = .ok undef w' := by
            have hdef : Extern.Atomic.storeT #[.pointer (some a'), .int .i64 n] = (do store (← asAddr (.pointer (some a'))) (.int .i64 n) .atomic; pure Extern.Atomic.none_) := rfl
            rw [hdef]
            simp only [asAddr, Sem.run_bind, Sem.run_pure, Result.andThen_ok, store_mode hu, h1]
            rfl
          refine ⟨_, w', ?_, VRel.undef _, h2, h3⟩
          simp only [callFunc, program, Sem.run_bind, Sem.run, Result.andThen_ok, hfn, hnum hn rfl, hc.1, Bool.false_eq_true, if_false, if_true, mark, findNext_atomic (.inr (.inl hn)) hc.2, find_storeInt64 hn, hsame, Sem.run_pure]
    · split at h
      case isFalse => cases h
      rename_i hn
      split at h
      case h_2 => cases h
      rename_i a d he
      split at h
      case h_2 => cases h
      rename_i n hcn
      obtain ⟨s1, hs1, h⟩ := Option.map_eq_some_iff.1 h
      cases h
      obtain ⟨l', rfl, hl⟩ := args_of he ha
      cases hl with
      | cons hx ht =>
        cases ht with
        | cons hy ht =>
          cases ht
          obtain ⟨a', rfl, har⟩ := hx.ptr_inv
          obtain rfl := hy.int_inv
          have hcell := cnumAt_sound hcn hR har
          obtain ⟨w', h1, h2, h3⟩ := cstoreCells_sound hs1 hR har (.cons (.int .i64 (IntKind.i64.wrap (n + d))) .nil)
          have h1 := storeCells_one h1
          have hsame : (Extern.Atomic.update (Op.intArith .add) .i64 true #[.pointer (some a'), .int .i64 d]).run P w = .ok (.int .i64 (IntKind.i64.wrap (n + d))) w' := by
            have hdef : Extern.Atomic.update (Op.intArith .add) .i64 true #[.pointer (some a'), .int .i64 d] = (do
                let a ← asAddr (.pointer (some a'))
                let old ← Extern.Atomic.read (.int .i64) a
                let new ← Op.intArith .add .i64 (← asInt old) (← asInt (.int .i64 d))
                store a new .atomic
                pure (if true = true then new else old)) := rfl
            rw [hdef]
            simp only [asAddr, Sem.run_bind, Sem.run_pure, Result.andThen_ok, run_read hcell, asInt, asIntOf, Op.intArith, store_mode hcell]
            simp only [if_true, h1, Result.andThen_ok]
          refine ⟨_, w', ?_, .int _ _, h2, h3⟩
          simp only [callFunc, program, Sem.run_bind, Sem.run, Result.andThen_ok, hfn, hnum hn rfl, hc.1, Bool.false_eq_true, if_false, if_true, mark, findNext_atomic (.inr (.inr hn)) hc.2, find_addInt64 hn, hsame, Sem.run_pure]
theorem ceff_sound {o : Oper} {ev ev' : Operand → Value} {v : Value} {s' : St M} (h : ceff P ev s o.op = some (v, s')) (hR : Rel P w0 ρ s w) (hev : ∀ x ∈ o.op.operands, VRel ρ (ev x) (ev' x)) :
    EffOk P w0 ρ s s' v ((execOp ev' o).run P w) := by
  obtain ⟨dst, op, ty, pos, after, guard⟩ := o
  simp only at h hev
  cases op <;> (try (simp only [ceff] at h; cases h; done)) <;> simp only [execOp]
  case store t a x =>
    simp only [ceff] at h
    have ha := hev a (by simp [Op.operands])
    split at h
    · rename_i ad had
      rw [had] at ha
      obtain ⟨a', e, har⟩ := ha.ptr_inv
      split at h
      · rename_i hok
        obtain ⟨s1, hs1, h⟩ := Option.map_eq_some_iff.1 h
        cases h
        obtain ⟨w', h1, h2, h3⟩ := cstore_sound hs1 hR har (hev x (by simp [Op.operands])) hok
        exact ⟨.skip, w', ρ, runSkip (α := Unit) (by rw [e]; simp only [Instr.storeAt, Instr.sureAddr, Sem.run_bind, Sem.run_pure, Result.andThen_ok, h1]), .inr ⟨rfl, rfl⟩, h2, h3⟩
      · cases h
    · cases h
  case mapUpdate t m k x =>
    simp only [ceff] at h
    obtain ⟨s1, hs1, h⟩ := Option.map_eq_some_iff.1 h
    cases h
    obtain ⟨w', h1, h2, h3⟩ := cmapset_sound hs1 hR (hev m (by simp [Op.operands])) (hev k (by simp [Op.operands])) (hev x (by simp [Op.operands]))
    exact ⟨.skip, w', ρ, runSkip (α := Unit) h1, .inr ⟨rfl, rfl⟩, h2, h3⟩
  case insert t m k x =>
    simp only [ceff] at h
    obtain ⟨s1, hs1, h⟩ := Option.map_eq_some_iff.1 h
    cases h
    obtain ⟨w', h1, h2, h3⟩ := cmapset_sound hs1 hR (hev m (by simp [Op.operands])) (hev k (by simp [Op.operands])) (hev x (by simp [Op.operands]))
    exact ⟨.skip, w', ρ, runSkip (α := Unit) h1, .inr ⟨rfl, rfl⟩, h2, h3⟩
  case next it str =>
    simp only [ceff] at h
    have hi := hev it (by simp [Op.operands])
    split at h
    case h_2 => cases h
    rename_i a hit
    rw [hit] at hi
    obtain ⟨a', e, har⟩ := hi.ptr_inv
    split at h
    case isFalse => cases h
    rename_i ha0
    obtain ⟨b, off, spot⟩ := a
    obtain ⟨rfl, rfl⟩ := ha0
    obtain ⟨i, hib, _, rfl⟩ := har
    split at h
    case h_2 => cases h
    rename_i x pos hat
    obtain ⟨o, ho, hbr⟩ := hR.blk _ _ _ hib hat
    obtain ⟨rfl, hsh⟩ : o = .stringIter x pos ∧ i.sh = 0 := hbr
    have hget := run_getObj (P := P) ho (by intro c e f hc; cases hc)
    rw [e]
    split at h
    · rename_i hlt
      cases h
      obtain ⟨h2, h3⟩ := hR.write (C := .strIter x (pos + (Utf8.decode x pos).2)) (o := .stringIter x (pos + (Utf8.decode x pos).2)) hib hat rfl ⟨rfl, hsh⟩
      refine ⟨.value (.tuple #[.bool true, .int .i64 pos, .int .i32 (Utf8.decode x pos).1]), _, ρ, ?_, .inl ⟨_, rfl, .tuple (by simp) rfl fun k hk => ?_⟩, h2, h3⟩
      · simp only [Instr.next, hsh, Nat.add_zero, Sem.run_bind, hget, Result.andThen_ok, hlt, if_true, run_setObj ho (by intro c e f hc; cases hc), Sem.run_pure]
        rfl
      · simp at hk
        have : k = 0 ∨ k = 1 ∨ k = 2 := by omega
        rcases this with rfl | rfl | rfl
        · exact .bool true
        · exact .int _ _
        · exact .int _ _
    · rename_i hlt
      cases h
      refine ⟨.value (.tuple #[.bool false]), w, ρ, ?_, .inl ⟨_, rfl, .over⟩, hR, Ext.refl _ _⟩
      simp only [Instr.next, hsh, Nat.add_zero, Sem.run_bind, hget, Result.andThen_ok, hlt, if_false, Sem.run_pure]
  case call c =>
    simp only [ceff] at h
    have ha := VsRel.map (ρ := ρ) c.args ev ev' (fun x hx => hev x (by simp [Op.operands, Call.operands, hx]))
    have harg : ∀ {i : Nat} {x : Value}, (c.args[i]?).map ev = some x → ∃ x', (c.args.map ev')[i]? = some x' ∧ VRel ρ x x' := by
      intro i x hx
      exact ha.getElem? (by rw [Array.getElem?_map]; exact hx)
    have hrun : ∀ {b : Builtin} {x : Sem Value} {v' : Value} {w' : World}, c.callee = .builtin b → (∀ cs, Go.builtin b c.argTypes ty cs (c.args.map ev') = do pure (.value (← x))) → x.run P w = .ok v' w' →
        (do let d ← resolve ev' c ty; invoke d.target d.args : Sem Next).run P w = .ok (.value v') w' := by
      intro b x v' w' hc hb hx
      simp only [resolve, hc, Sem.run_bind, Sem.run_pure, Result.andThen_ok, invoke, hb, hx]
    split at h
    · rename_i hb
      obtain ⟨v', w', ρ', h1, h2, h3, h4⟩ := capp_sound (ty := ty) h hR ha
      exact ⟨.value v', w', ρ', hrun hb (fun _ => rfl) h1, .inl ⟨v', rfl, h2⟩, h3, h4⟩
    · rename_i hb
      split at h
      · rename_i t m k ht hm hk
        obtain ⟨s1, hs1, h⟩ := Option.map_eq_some_iff.1 h
        cases h
        obtain ⟨m', hm1, hm2⟩ := harg hm
        obtain ⟨k', hk1, hk2⟩ := harg hk
        obtain ⟨w', h1, h2, h3⟩ := cdelete_sound (ty := ty) hs1 hR hm2 hk2 ht hm1 hk1
        exact ⟨.value undef, w', ρ, hrun hb (fun _ => rfl) h1, .inl ⟨_, rfl, VRel.undef ρ⟩, h2, h3⟩
      · cases h
    · rename_i hb
      split at h
      · rename_i u p k n hu hp hn
        obtain ⟨t, ht, hu⟩ := Option.bind_eq_some_iff.1 hu
        obtain ⟨p', hp1, hp2⟩ := harg hp
        obtain ⟨n', hn1, hn2⟩ := harg hn
        obtain rfl := hn2.int_inv
        have hsz : (c.args.map ev').size = 2 := by
          split at h
          · cases h
          · rename_i h2; simpa using h2
        have hargs : c.args.map ev' = #[p', .int k n] := by
          apply Array.ext
          · simpa using hsz
          · intro i h1 h2
            have : i = 0 ∨ i = 1 := by simp at h2; omega
            rcases this with rfl | rfl
            · rw [Array.getElem?_eq_getElem h1] at hp1; simpa using hp1
            · rw [Array.getElem?_eq_getElem h1] at hn1; simpa using hn1
        split at h
        · cases h
        split at h
        · rename_i h0
          cases h
          subst h0
          refine ⟨.value (.string .empty), w, ρ, hrun hb (fun _ => rfl) (x := Builtin.unsafeString_ c.argTypes ty (c.args.map ev')) ?_, .inl ⟨_, rfl, .string _⟩, hR, Ext.refl _ _⟩
          rw [hargs]
          have hdef : ∀ q : Option Addr, (Builtin.unsafeString_ c.argTypes ty #[.pointer q, .int k 0]).run P w = .ok (.string .empty) w := by
            intro q
            have hdef : ∀ q : Option Addr, Builtin.unsafeString_ c.argTypes ty #[.pointer q, .int k 0] = (do
                let m ← asInt (.int k 0)
                let some pt := c.argTypes[0]? | stuck _
                if m < 0 then runtimePanic (.error _)
                if m > IntKind.i64.max then unsupported (.unsafePointer _)
                match q with
                | none => if m = 0 then pure (.string .empty) else runtimePanic (.error _)
                | some a =>
                  if m = 0 then pure (.string .empty)
                  else if ← variablesAt a (← elemOf pt) m.toNat then do
                    let x ← Go.loadBytes a .empty m.toNat
                    freeze a m.toNat
                    pure (.string x)
                  else unsupported (.unsafePointer _)) := fun q => by cases q <;> rfl
            rw [hdef]
            simp only [asInt, asIntOf, Sem.run_bind, Sem.run_pure, Result.andThen_ok, ht, IntKind.max]
            cases q <;> rfl
          cases p with
          | none =>
            obtain rfl := (show p' = .pointer none by cases hp2; rfl)
            exact hdef none
          | some a =>
            obtain ⟨a', rfl, _⟩ := hp2.ptr_inv
            exact hdef (some a')
        · split at h
          · rename_i a
            obtain ⟨a', rfl, har⟩ := hp2.ptr_inv
            split at h
            · rename_i vs e hat
              split at h
              · rename_i hc
                split at h
                · rename_i bs hbs
                  cases h
                  obtain ⟨l, hl, hbs⟩ := Option.bind_eq_some_iff.1 hbs
                  obtain ⟨h1, h2, h3⟩ := unsafeString_sound (ts := c.argTypes) (ty := ty) (k := k) hR ht hu har hat hc.1 hc.2.1 hc.2.2.1 hc.2.2.2 hl hbs
                  exact ⟨.value (.string ⟨bs.toArray⟩), _, ρ, hrun hb (fun _ => rfl) (by rw [hargs]; exact h1), .inl ⟨_, rfl, .string _⟩, h2, h3⟩
                · cases h
              · cases h
            · cases h
          · cases h
      · cases h
    · rename_i f hb
      split at h
      · rename_i f0 first captured hfv
        have hx := hev f (by simp [Op.operands, Call.operands, hb])
        rw [hfv] at hx
        obtain ⟨first', captured', e, h1, h2⟩ := hx.func_inv
        split at h
        · rename_i v1 hv1
          cases h
          obtain ⟨v', h3, h4⟩ := cextern_sound (w := w) hv1 (append_rel (append_rel h1 ha) h2)
          refine ⟨.value v', w, ρ, ?_, .inl ⟨v', rfl, h4⟩, hR, Ext.refl _ _⟩
          simp only [resolve, hb, e, Deferred.ofValue, Sem.run_bind, Sem.run_pure, Result.andThen_ok, invoke, h3]
        · obtain ⟨v', w', h3, h4, h5, h6⟩ := catom_sound h hR (append_rel (append_rel h1 ha) h2)
          refine ⟨.value v', w', ρ, ?_, .inl ⟨v', rfl, h4⟩, h5, h6⟩
          simp only [resolve, hb, e, Deferred.ofValue, Sem.run_bind, Sem.run_pure, Result.andThen_ok, invoke, h3]
      · cases h
    · rename_i hb
      have hone : ∀ {x : Value}, (c.args[0]?).map ev = some x → ∃ x', (c.args.map ev')[0]? = some x' ∧ VRel ρ x x' := harg
      split at h
      · rename_i kt et ht hx
        cases h
        obtain ⟨t, ht1, hu⟩ := Option.bind_eq_some_iff.1 ht
        obtain ⟨x', hx1, hx2⟩ := harg hx
        obtain rfl := (show x' = .map none by cases hx2; rfl)
        exact ⟨.value undef, w, ρ, hrun hb (fun _ => rfl) (x := Builtin.clear_ c.argTypes ty (c.args.map ev')) (by simp only [Builtin.clear_, ht1, hx1, Sem.run_bind, run_underlying' hu, Result.andThen_ok, Sem.run_pure]; rfl), .inl ⟨_, rfl, VRel.undef ρ⟩, hR, Ext.refl _ _⟩
      · rename_i et n cp ht hx
        cases h
        obtain ⟨t, ht1, hu⟩ := Option.bind_eq_some_iff.1 ht
        obtain ⟨x', hx1, hx2⟩ := harg hx
        obtain ⟨n', cp', rfl⟩ : ∃ n' cp', x' = .slice none n' cp' := by cases hx2; exact ⟨_, _, rfl⟩
        exact ⟨.value undef, w, ρ, hrun hb (fun _ => rfl) (x := Builtin.clear_ c.argTypes ty (c.args.map ev')) (by simp only [Builtin.clear_, ht1, hx1, Sem.run_bind, run_underlying' hu, Result.andThen_ok, Sem.run_pure]; rfl), .inl ⟨_, rfl, VRel.undef ρ⟩, hR, Ext.refl _ _⟩
      · rename_i et a n cp ht hx
        obtain ⟨t, ht1, hu⟩ := Option.bind_eq_some_iff.1 ht
        obtain ⟨x', hx1, hx2⟩ := harg hx
        obtain ⟨a', cp', rfl, har⟩ : ∃ a' cp', x' = .slice (some a') n cp' ∧ (ARel ρ a a' ∨ n = 0) := by
          cases hx2 with
          | slice h1 h2 => exact ⟨_, _, rfl, .inl h1⟩
          | void => exact ⟨_, _, rfl, .inr rfl⟩
        split at h
        · rename_i h0
          cases h
          subst h0
          exact ⟨.value undef, w, ρ, hrun hb (fun _ => rfl) (x := Builtin.clear_ c.argTypes ty (c.args.map ev')) (by simp only [Builtin.clear_, ht1, hx1, Sem.run_bind, run_underlying' hu, Result.andThen_ok, Sem.run_pure]; rfl), .inl ⟨_, rfl, VRel.undef ρ⟩, hR, Ext.refl _ _⟩
        · rename_i h0
          have har := har.resolve_right h0
          split at h
          case h_2 => cases h
          rename_i z hz
          split at h
          · cases h
          rename_i hz0
          obtain ⟨s1, hs1, h⟩ := Option.map_eq_some_iff.1 h
          cases h
          obtain ⟨hzr, hzp⟩ := czero_run hz w
          have hcz := czeros_rel (ρ := ρ) (plain_cells hzp) (n * z.cells.size) (.inr hz0)
          obtain ⟨w', h1, h2, h3⟩ := cstoreCells_sound hs1 hR har (VsRel.toL (l' := (Builtin.zeroCells z.cells n).toList) (by rw [Array.toArray_toList]; exact hcz))
          obtain ⟨k, rfl⟩ : ∃ k, n = k + 1 := ⟨n - 1, by omega⟩
          exact ⟨.value undef, w', ρ, hrun hb (fun _ => rfl) (x := Builtin.clear_ c.argTypes ty (c.args.map ev')) (by
            simp only [Builtin.clear_, ht1, hx1, Sem.run_bind, run_underlying' hu, Result.andThen_ok, hzr, h1, Sem.run_pure]; rfl), .inl ⟨_, rfl, VRel.undef ρ⟩, h2, h3⟩
      · cases h
    · rename_i hb
      split at h
      · rename_i et d n cd x m cx ht hd hx
        obtain ⟨t, ht1, hu⟩ := Option.bind_eq_some_iff.1 ht
        obtain ⟨d', hd1, hd2⟩ := harg hd
        obtain ⟨x', hx1, hx2⟩ := harg hx
        split at h
        case h_2 => cases h
        rename_i ie hie
        obtain ⟨dc, cd', rfl, hdr⟩ : ∃ dc cd', d' = .slice dc n cd' ∧ ((d = none ∧ dc = none) ∨ ∃ a a', d = some a ∧ dc = some a' ∧ (ARel ρ a a' ∨ n = 0)) := by
          cases hd2 with
          | nilSlice => exact ⟨_, _, rfl, .inl ⟨rfl, rfl⟩⟩
          | void => exact ⟨_, _, rfl, .inr ⟨_, _, rfl, rfl, .inr rfl⟩⟩
          | slice h1 h2 => exact ⟨_, _, rfl, .inr ⟨_, _, rfl, rfl, .inl h1⟩⟩
        obtain ⟨xc, cx', rfl, hxr⟩ : ∃ xc cx', x' = .slice xc m cx' ∧ ((x = none ∧ xc = none ∧ m = 0) ∨ ∃ a a', x = some a ∧ xc = some a' ∧ (ARel ρ a a' ∨ m = 0)) := by
          cases hx2 with
          | nilSlice => exact ⟨_, _, rfl, .inl ⟨rfl, rfl, rfl⟩⟩
          | void => exact ⟨_, _, rfl, .inr ⟨_, _, rfl, rfl, .inr rfl⟩⟩
          | slice h1 h2 => exact ⟨_, _, rfl, .inr ⟨_, _, rfl, rfl, .inl h1⟩⟩
        have hdef : ∀ (cells : Array Value) (w1 : World), (Builtin.firstCells ie.size (Nat.min m n) (.slice xc m cx')).run P w = .ok cells w → (match dc with | some a => storeCells a cells.toList | none => pure () : Sem Unit).run P w = .ok () w1 →
            (Builtin.copy_ c.argTypes ty (c.args.map ev')).run P w = .ok (.int .i64 (Nat.min m n)) w1 := by
          intro cells w1 h1 h2
          simp only [Builtin.copy_, ht1, hd1, hx1, Sem.run_bind, run_underlying' hu, Result.andThen_ok, run_sizeOf' hie, Builtin.lenOf, Sem.run_pure]
          rw [show (Builtin.firstCells ie.size (Nat.min m n) (.slice xc m cx')).run P w = .ok cells w from h1]
          simp only [Result.andThen_ok]
          cases dc with
          | none => simp only [Sem.run_pure, Result.ok.injEq] at h2; rw [← h2.2]; rfl
          | some a => simp only at h2; simp only [Sem.run_bind, h2, Result.andThen_ok]; rfl
        split at h
        · cases h
          rcases hxr with ⟨_, rfl, _⟩ | ⟨a, a', e, _⟩
          · refine ⟨.value _, w, ρ, hrun hb (fun _ => rfl) (hdef #[] w rfl ?_), .inl ⟨_, rfl, .int _ _⟩, hR, Ext.refl _ _⟩
            cases dc with
            | none => rfl
            | some a => rfl
          · cases e
        · rename_i b
          rcases hxr with ⟨e, _⟩ | ⟨b0, b', e, rfl, har⟩
          · cases e
          cases e
          split at h
          case h_2 => cases h
          rename_i vs e own hat
          split at h
          case h_2 => cases h
          rename_i l hl
          obtain ⟨cells, hload, hvr⟩ : ∃ cells : Array Value, (Builtin.firstCells ie.size (Nat.min m n) (.slice (some b') m cx')).run P w = .ok cells w ∧ VsRel ρ l.toArray cells := by
            rcases har with ⟨i, hi, hsp, rfl⟩ | h0
            · obtain ⟨o, ho, cs, e', fr, rfl, hsz, hv, _⟩ := hR.blk _ _ _ hi hat
              obtain ⟨hle, hvr⟩ := cut_rel hl hsz hv
              exact ⟨_, run_loadCells ho hle, hvr⟩
            · subst h0
              have e0 : Nat.min 0 n = 0 := Nat.zero_min n
              obtain rfl : l = [] := List.eq_nil_of_length_eq_zero (by rw [cut_length hl, e0, Nat.zero_mul])
              exact ⟨#[], by simp only [Builtin.firstCells, e0, Nat.zero_mul]; rfl, rfl, fun q hq => by simp at hq⟩
          rcases hdr with ⟨rfl, rfl⟩ | ⟨a, a', rfl, rfl, hda⟩
          · cases h
            exact ⟨.value _, w, ρ, hrun hb (fun _ => rfl) (hdef _ w hload rfl), .inl ⟨_, rfl, .int _ _⟩, hR, Ext.refl _ _⟩
          · obtain ⟨s1, hs1, h⟩ := Option.map_eq_some_iff.1 h
            cases h
            rcases hda with hda | h0
            rotate_left
            · subst h0
              have e0 : Nat.min m 0 = 0 := Nat.min_zero m
              obtain rfl : l = [] := List.eq_nil_of_length_eq_zero (by rw [cut_length hl, e0, Nat.zero_mul])
              have hc0 : cells.toList = [] := List.eq_nil_of_length_eq_zero (by have := hvr.1; simp at this; simpa using this.symm)
              obtain ⟨h2, h3⟩ := cstoreCells_nil hs1 hR
              exact ⟨.value _, w, ρ, hrun hb (fun _ => rfl) (hdef _ w hload (by rw [hc0]; rfl)), .inl ⟨_, rfl, .int _ _⟩, h2, h3⟩
            obtain ⟨w', h1, h2, h3⟩ := cstoreCells_sound hs1 hR hda (VsRel.toL (l' := cells.toList) (by rw [Array.toArray_toList]; exact hvr))
            exact ⟨.value _, w', ρ, hrun hb (fun _ => rfl) (hdef _ w' hload h1), .inl ⟨_, rfl, .int _ _⟩, h2, h3⟩
      · cases h
    · cases h
end
end Go.Cs
