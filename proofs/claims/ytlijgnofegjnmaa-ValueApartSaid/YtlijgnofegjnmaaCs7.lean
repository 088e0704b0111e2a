/- Operations that read the clean memory, or make a block. A lemma file: no statement of its own. -/
import Derived.Test.YtlijgnofegjnmaaCs6
set_option linter.unusedSimpArgs false
set_option linter.unusedVariables false
namespace Go.Cs
section
variable {M : Type} [Mem M] (P : Program)

/-- The byte of a cell. -/
def byteOf? : Value → Option UInt8
  | .int .u8 n => some (UInt8.ofNat n.toNat)
  | _ => none

/-- A key's number in a map. -/
def cfind (t : TypeId) (k : Value) (es : List MapEntry) : Option (Option (Nat × Value)) :=
  if plain 6 k = true then
    match P.underlying t with
    | some (.int i) => Instr.findNow (.int i) k es 0
    | some .string => Instr.findNow .string k es 0
    | some .bool => Instr.findNow .bool k es 0
    | _ => none
  else none

/-- What a map's elements are where there is none. -/
def czero (t : TypeId) : Option Value := ((P.info? t).bind (·.zero)).bind fun z => if plain 6 z = true then some z else none

def clookup (t : TypeId) (m k : Value) (ok : Bool) (s : St M) : Option Value :=
  match P.underlying t with
  | some (.map kt et) =>
    let look (es : List MapEntry) : Option Value :=
      match cfind P kt k es with
      | some (some (_, v)) => some (if ok then .tuple #[v, .bool true] else v)
      | some none => (czero P et).map fun z => if ok then .tuple #[z, .bool false] else z
      | none => none
    match m with
    | .map none => look []
    | .map (some r) => match s.at' r with
      | some (.map es _) => look es
      | _ => none
    | _ => none
  | _ => none

/-- A variable of type e may be seen as one of type u. -/
def upOk (e u : TypeId) : Bool := (P.info? e).any (fun i => i.size != 0) && sameLayout P P.depth e u && P.depth != 0 && (P.info? u).any (fun i => i.size != 0)

/-- An operation that reads the memory. -/
def cread (ev : Operand → Value) (s : St M) : Op → Option Value
  | .load t x => match ev x with
    | .pointer (some a) => cload P t a s
    | _ => none
  | .lookup t m k ok => clookup P t (ev m) (ev k) ok s
  | .binOp op t x y _ => match ev x, ev y, P.underlying t with
    | .pointer (some a), .pointer (some b), some (.pointer e) => match P.info? e with
      | some ie =>
        if a.block = b.block ∧ ie.size ≠ 0 ∧ a.spot = none ∧ b.spot = none then
          match op with
          | .eql => some (.bool (a.off == b.off))
          | .neq => some (.bool (!(a.off == b.off)))
          | _ => none
        else none
      | none => none
    | _, _, _ => none
  | .convert src dst x => match P.underlying src, P.underlying dst, ev x with
    | some (.slice e), some .string, .slice (some a) n _ => match P.underlying e, s.at' a.block with
      | some (.int .u8), some (.cells vs _ _) => match cut vs a.off n with
        | some l => (l.mapM byteOf?).map fun bs => .string ⟨bs.toArray⟩
        | none => none
      | _, _ => none
    | some (.slice e), some .string, .slice none _ _ => match P.underlying e with
      | some (.int .u8) => some (.string .empty)
      | _ => none
    | some (.pointer t), some .unsafePointer, .pointer (some a) => match s.at' a.block with
      | some (.cells vs _ _) => if (P.info? t).any (fun i => i.size != 0) = true ∧ a.off < vs.length then some (.pointer (some a)) else none
      | _ => none
    | some .unsafePointer, some (.pointer u), .pointer (some a) => match s.at' a.block with
      | some (.cells vs e true) => if upOk P e u = true ∧ a.off % P.cellsOf e = 0 ∧ a.off + P.cellsOf e ≤ vs.length then some (.pointer (some a)) else none
      | _ => none
    | _, _, _ => none
  | .slice t x lo hi none => match P.underlying t, ev x with
    | some (.slice e), .slice (some a) n c => match P.info? e, cbound (hi.map ev) n n with
      | some ie, some h => match cbound (lo.map ev) 0 h, s.at' a.block with
        | some l, some (.cells _ e' _) => if c = UNK ∧ l < n ∧ P.cellsOf e' = ie.size then some (.slice (some (a.add (l * ie.size))) (h - l) UNK) else none
        | _, _ => none
      | _, _ => none
    | _, _ => none
  | .call c => match c.callee with
    | .builtin .len => match c.argTypes[0]?.bind P.underlying, (c.args[0]?).map ev with
      | some (.map _ _), some (.map (some r)) => match s.at' r with
        | some (.map es _) => some (.int .i64 es.length)
        | _ => none
      | _, _ => none
    | _ => none
  | _ => none

/-- So many zero values. -/
def czeros (z : Value) (n : Nat) : List Value := ((Array.range n).map (z.cells[· % z.cells.size]!)).toList

/-- The cells of a new row. -/
def zerosOf (e : TypeId) (n : Nat) : Option (List Value) :=
  if n = 0 then some []
  else match czero P e with
    | some z => if z.cells.size = 0 then none else some (czeros z n)
    | none => none

/-- An operation that makes a block: the block, and the value once its number is known. -/
def calloc (ev : Operand → Value) : Op → Option (Blk × (Nat → Value))
  | .alloc t => (czero P t).map fun z => (.cells z.cells.toList t true, fun b => .pointer (some ⟨b, 0, none⟩))
  | .box t x => if okPart (ev x) = true ∧ (P.info? t).isSome then some (.cells (ev x).cells.toList t true, fun b => .pointer (some ⟨b, 0, none⟩)) else none
  | .buildSlice t len parts => match P.underlying t with
    | some (.slice e) => match P.info? e with
      | some ie => if len * ie.size ≤ 65536 ∧ len < UNK ∧ (parts.toList.all fun x => okPart (ev x.2)) = true then
          match zerosOf P e (len * ie.size) with
          | some z => match Instr.fill (fun i => some (i * ie.size, ie.size)) z.toArray (parts.map fun x => (x.1, ev x.2)).toList with
            | some cells => some (.cells cells.toList e true, fun b => .slice (some ⟨b, 0, none⟩) len len)
            | none => none
          | none => none
        else none
      | none => none
    | _ => none
  | .makeMap _ none => some (.map [] 0, fun b => .map (some b))
  | .makeSlice t l c => match P.underlying t, ev l, ev c with
    | some (.slice e), .int _ l, .int _ c => match P.info? e with
      | some ie => if 0 ≤ l ∧ l ≤ c ∧ c ≤ 4294967296 ∧ c * ie.bytes ≤ 281474976710656 then
          match zerosOf P e (c.toNat * ie.size) with
          | some z => some (.cells z e true, fun b => .slice (some ⟨b, 0, none⟩) l.toNat c.toNat)
          | none => none
        else none
      | none => none
    | _, _, _ => none
  | .range t x => match P.underlying t, ev x with
    | some .string, .string s => some (.strIter s 0, fun b => .pointer (some ⟨b, 0, none⟩))
    | _, _ => none
  | .convert src dst x => match P.underlying src, P.underlying dst, ev x with
    | some .string, some (.slice e), .string s => match P.underlying e with
      | some (.int .u8) => if s.size < UNK ∧ (P.info? e).any (fun i => i.size == 1) then some (.cells (s.data.toList.map fun b => .int .u8 b.toNat) e true, fun b => .slice (some ⟨b, 0, none⟩) s.size UNK) else none
      | _ => none
    | _, _, _ => none
  | _ => none
end

section
variable {M : Type} [Mem M] {P : Program} {w0 : World} {ρ : Ren} {s : St M} {w : World}

theorem run_load_at {w : World} {b o : Nat} {cs : Array Value} {e : TypeId} {fr : Nat × Nat} {v : Value} (hb : w.heap[b]? = some (.cells cs e fr)) (h : cs[o]? = some v) :
    (load ⟨b, o, none⟩).run P w = .ok v w := by
  simp [load, Sem.run, World.cell?, hb, h]

theorem addr_add_mk (b o i : Nat) : (⟨b, o, none⟩ : Addr).add i = ⟨b, o + i, none⟩ := by
  unfold Addr.add
  split
  · simp [*]
  · rfl

theorem run_loadCellsFrom {w : World} {b o : Nat} {cs : Array Value} {e : TypeId} {fr : Nat × Nat} (hb : w.heap[b]? = some (.cells cs e fr)) :
    ∀ (n i : Nat) (acc : Array Value), o + i + n ≤ cs.size → (loadCellsFrom ⟨b, o, none⟩ i n acc).run P w = .ok (acc ++ cs.extract (o + i) (o + i + n)) w := by
  intro n
  induction n with
  | zero => intro i acc _; simp [loadCellsFrom]; omega
  | succ n ih =>
    intro i acc h
    have hv : cs[o + i]? = some cs[o + i] := by simp
    simp only [loadCellsFrom, Sem.run_bind, addr_add_mk, run_load_at hb hv, Result.andThen_ok]
    rw [ih (i + 1) _ (by omega)]
    congr 1
    rw [Array.push_eq_append, Array.append_assoc]
    congr 1
    apply Array.ext'
    have hl : o + i < cs.toList.length := by simp; omega
    simp only [Array.toList_append, Array.toList_extract, List.extract_eq_take_drop]
    rw [show o + i + (n + 1) - (o + i) = n + 1 from by omega, show o + (i + 1) + n - (o + (i + 1)) = n from by omega]
    rw [show o + (i + 1) = o + i + 1 from by omega, List.drop_eq_getElem_cons hl]
    simp

theorem run_loadCells {w : World} {b o n : Nat} {cs : Array Value} {e : TypeId} {fr : Nat × Nat} (hb : w.heap[b]? = some (.cells cs e fr)) (h : o + n ≤ cs.size) :
    (loadCells ⟨b, o, none⟩ n).run P w = .ok (cs.extract o (o + n)) w := by
  have := run_loadCellsFrom (P := P) hb n 0 #[] (by simpa using h)
  simpa [loadCells] using this

/-- A part of a row of cells, both ways at once. -/
theorem cut_rel {vs l : List Value} {cs : Array Value} {sh off n : Nat} (h : cut vs off n = some l) (hsz : sh + vs.length ≤ cs.size) (hv : ∀ k, k < vs.length → VRel ρ (vs.getD k undef) (cs.getD (sh + k) undef)) :
    off + sh + n ≤ cs.size ∧ VsRel ρ l.toArray (cs.extract (off + sh) (off + sh + n)) := by
  unfold cut at h
  split at h
  · rename_i hle
    cases h
    refine ⟨by omega, ⟨by simp; omega, fun i hi => ?_⟩⟩
    simp only [List.size_toArray, List.length_take, List.length_drop] at hi
    have h0 := hv (off + i) (by omega)
    have e1 : (((vs.drop off).take n).toArray).getD i undef = vs.getD (off + i) undef := by
      rw [Array.getD_eq_getD_getElem?, List.getElem?_toArray, List.getElem?_take, if_pos (by omega), List.getElem?_drop, ← List.getD_eq_getElem?_getD]
    have e2 : (cs.extract (off + sh) (off + sh + n)).getD i undef = cs.getD (sh + (off + i)) undef := by
      rw [Array.getD_eq_getD_getElem?, Array.getD_eq_getD_getElem?, Array.getElem?_extract, if_pos (by omega)]
      congr 2; omega
    rw [e1, e2]
    exact h0
  · cases h

theorem cload_sound {t : TypeId} {a : Addr} {a' : Addr} {v : Value} (h : cload P t a s = some v) (hR : Rel P w0 ρ s w) (ha : ARel ρ a a') :
    ∃ v', (loadVar t a').run P w = .ok v' w ∧ VRel ρ v v' := by
  unfold cload at h
  obtain ⟨i, hi, hsp, rfl⟩ := ha
  split at h
  · rename_i vs e own hat
    obtain ⟨o, ho, hb⟩ := hR.blk _ _ _ hi hat
    obtain ⟨cs, e', fr, rfl, hsz, hv, _⟩ := hb
    split at h
    · rename_i hagg
      obtain ⟨ti, hti⟩ := info_of_agg hagg
      obtain ⟨l, hl, rfl⟩ := Option.map_eq_some_iff.1 h
      obtain ⟨h1, h2⟩ := cut_rel hl hsz hv
      rw [cellsOf_info hti] at h1 h2
      refine ⟨_, ?_, .agg h2.1 h2.2⟩
      simp only [loadVar, Sem.run_bind, run_isAgg hagg, Result.andThen_ok, if_true, run_sizeOf' hti, run_loadCells ho h1, Sem.run_pure]
    · rename_i hagg
      have hlt : a.off < vs.length := by
        rcases Nat.lt_or_ge a.off vs.length with h' | h'
        · exact h'
        · rw [List.getElem?_eq_none h'] at h; cases h
      have hc : a.off + i.sh < cs.size := by omega
      have hr := hv a.off hlt
      rw [List.getD_eq_getElem?_getD, h, Nat.add_comm i.sh] at hr
      have hcv : cs[a.off + i.sh]? = some cs[a.off + i.sh] := by simp
      refine ⟨cs[a.off + i.sh], ?_, by simpa [Array.getD, hc] using hr⟩
      simp only [loadVar, Sem.run_bind, run_isAgg hagg, Result.andThen_ok, Bool.false_eq_true, if_false]
      exact run_load_at ho hcv
    · cases h
  · cases h
end
end Go.Cs
