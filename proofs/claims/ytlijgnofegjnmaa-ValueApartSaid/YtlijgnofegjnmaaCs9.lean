/- That the model does what the clean memory does: operations that make a block. A lemma file: no statement of its own. -/
import Derived.Test.YtlijgnofegjnmaaCs8
set_option linter.unusedSimpArgs false
set_option linter.unusedVariables false
namespace Go.Cs
section
variable {P : Program} {ρ : Ren} {w : World}

theorem brel_cells {i : BI} {b : Nat} {l : List Value} {t : TypeId} {cs : Array Value} {fr : Nat × Nat} (hb : ρ b = none) (h : VsRel ρ l.toArray cs) (hfr : ∀ j, j < cs.size → ¬ (fr.1 ≤ j ∧ j < fr.2)) (hsh : i.sh = 0) (hn : i.n = cs.size) (he : i.esz = P.cellsOf t) :
    BRel P (ρ.add b i) i (.cells l t true) (.cells cs t fr) := by
  have hle := Ren.le_add (i := i) hb
  have hsz : l.length = cs.size := by simpa using h.1
  refine ⟨cs, t, fr, rfl, by omega, fun k hk => ?_, .inr he, fun _ => ⟨rfl, hfr, hn.symm, he, by rw [hsh]; exact Nat.zero_mod _⟩⟩
  have := (h.2 k (by simpa using hk)).mono hle
  rw [hsh, Nat.zero_add]
  simpa [Array.getD_eq_getD_getElem?] using this

/-- .. where the model's block has more cells than are known. -/
theorem brel_cells_more {i : BI} {b : Nat} {l : List Value} {t : TypeId} {cs more : Array Value} {fr : Nat × Nat} (hb : ρ b = none) (h : VsRel ρ l.toArray cs) (hfr : ∀ j, j < (cs ++ more).size → ¬ (fr.1 ≤ j ∧ j < fr.2)) (hsh : i.sh = 0) (hn : i.n = (cs ++ more).size) (he : i.esz = P.cellsOf t) :
    BRel P (ρ.add b i) i (.cells l t true) (.cells (cs ++ more) t fr) := by
  have hle := Ren.le_add (i := i) hb
  have hsz : l.length = cs.size := by simpa using h.1
  refine ⟨cs ++ more, t, fr, rfl, by simp; omega, fun k hk => ?_, .inr he, fun _ => ⟨rfl, hfr, hn.symm, he, by rw [hsh]; exact Nat.zero_mod _⟩⟩
  have := (h.2 k (by simpa using hk)).mono hle
  rw [hsh, Nat.zero_add]
  have e1 : (cs ++ more).getD k undef = cs.getD k undef := by
    rw [Array.getD_eq_getD_getElem?, Array.getD_eq_getD_getElem?, Array.getElem?_append_left (by omega)]
  rw [e1]
  simpa [Array.getD_eq_getD_getElem?] using this

theorem plain_cells {z : Value} (h : plain 6 z = true) : VsRel ρ z.cells z.cells :=
  okPart_cells (VRel.of_plain 6 h) (by cases z <;> first | rfl | (simp [plain] at h))

theorem czeros_rel {z : Value} (h : VsRel ρ z.cells z.cells) (n : Nat) (hz : n = 0 ∨ z.cells.size ≠ 0) : VsRel ρ (czeros z n).toArray ((Array.range n).map (z.cells[· % z.cells.size]!)) := by
  unfold czeros
  rw [Array.toArray_toList]
  refine ⟨rfl, fun i hi => ?_⟩
  simp only [Array.size_map, Array.size_range] at hi
  have hz' : z.cells.size ≠ 0 := by omega
  have hm : i % z.cells.size < z.cells.size := Nat.mod_lt _ (by omega)
  have := h.2 _ hm
  simp [Array.getD, hi, hm] at this ⊢
  exact this

theorem zerosOf_run {e : TypeId} {n : Nat} {l : List Value} (h : zerosOf P e n = some l) (w : World) :
    ∃ zs : Array Value, ((n = 0 ∧ zs = #[]) ∨ (n ≠ 0 ∧ ∃ z, (zeroValue e).run P w = .ok z w ∧ zs = z.cells)) ∧ VsRel ρ l.toArray ((Array.range n).map (zs[· % zs.size]!)) := by
  unfold zerosOf at h
  split at h
  · rename_i h0
    cases h
    subst h0
    exact ⟨#[], .inl ⟨rfl, rfl⟩, by simp, fun i hi => by simp at hi⟩
  · rename_i h0
    split at h
    · rename_i z hz
      split at h
      · cases h
      · rename_i hne
        cases h
        obtain ⟨h1, h2⟩ := czero_run hz w
        exact ⟨z.cells, .inr ⟨h0, z, h1, rfl⟩, czeros_rel (plain_cells h2) n (.inr hne)⟩
    · cases h

theorem run_newRow {t : TypeId} {cs : Array Value} : (newRow t cs).run P w = .ok ⟨w.heap.size, 0, none⟩ { w with heap := w.heap.push (.cells cs t) } := rfl

theorem push_modify (h : Array Obj) (x : Obj) (f : Obj → Obj) : (h.push x).modify h.size f = h.push (f x) := by
  apply Array.ext
  · simp
  · intro i h1 h2
    rw [Array.getElem_modify]
    simp only [Array.getElem_push]
    split
    · subst_vars; simp
    · split
      · rfl
      · simp at h2; omega

theorem run_markStringish (w : World) (C : Array Value) (t : TypeId) : (markStringish ⟨w.heap.size, 0, none⟩).run P { w with heap := w.heap.push (.cells C t) } = .ok () { w with heap := w.heap.push (.cells C t (C.size, C.size + 1)) } := by
  simp only [markStringish, shape, freeze, Sem.run_bind, Sem.run, World.shape?, Array.getElem?_push, if_true, Result.andThen_ok, World.freeze, Nat.one_ne_zero, if_false, push_modify]
  simp

theorem ptr_new {b : Nat} (hb : ρ b = none) {i : BI} (hi : i.blk = w.heap.size) (hs : i.sh = 0) : VRel (ρ.add b i) (.pointer (some ⟨b, 0, none⟩)) (.pointer (some ⟨w.heap.size, 0, none⟩)) :=
  .ptr ⟨i, by simp, rfl, by simp [hi, hs]⟩

theorem calloc_sound {o : Oper} {ev ev' : Operand → Value} {B : Blk} {f : Nat → Value} (h : calloc P ev o.op = some (B, f)) (hev : ∀ x ∈ o.op.operands, VRel ρ (ev x) (ev' x)) (hw : ∀ z : Value, True) :
    ∃ (obj : Obj) (i : BI) (n : Nat) (v' : Value), (execOp ev' o).run P w = .ok (.value v') { w with heap := w.heap.push obj, drawn := n } ∧ i.blk = w.heap.size ∧
      ∀ b, ρ b = none → BRel P (ρ.add b i) i B obj ∧ VRel (ρ.add b i) (f b) v' := by
  obtain ⟨dst, op, ty, pos, after, guard⟩ := o
  simp only at h hev
  cases op <;> (try (simp only [calloc] at h; cases h; done)) <;> simp only [execOp]
  case alloc t =>
    simp only [calloc] at h
    obtain ⟨z, hz, h⟩ := Option.map_eq_some_iff.1 h
    cases h
    obtain ⟨h1, h2⟩ := czero_run hz w
    refine ⟨.cells z.cells t, ⟨w.heap.size, 0, z.cells.size, P.cellsOf t⟩, w.drawn, .pointer (some ⟨w.heap.size, 0, none⟩), ?_, rfl, fun b hb => ⟨?_, ptr_new hb rfl rfl⟩⟩
    · simp only [Instr.alloc, newVar, Sem.run_bind, h1, Result.andThen_ok, run_newRow, Sem.run_pure]
    exact brel_cells hb (by simpa using plain_cells h2) (fun j _ => by simp) rfl rfl rfl
  case box t x =>
    simp only [calloc] at h
    split at h
    · rename_i hc
      cases h
      have hx := okPart_cells (hev x (by simp [Op.operands])) hc.1
      refine ⟨.cells (ev' x).cells t, ⟨w.heap.size, 0, (ev' x).cells.size, P.cellsOf t⟩, w.drawn, .pointer (some ⟨w.heap.size, 0, none⟩), ?_, rfl, fun b hb => ⟨?_, ptr_new hb rfl rfl⟩⟩
      · simp only [Instr.box, newVar, Sem.run_bind, Result.andThen_ok, run_newRow, Sem.run_pure]
      exact brel_cells hb (by simpa using hx) (fun j _ => by simp) rfl rfl rfl
    · cases h
  case buildSlice t len parts =>
    simp only [calloc] at h
    split at h
    · rename_i e hu
      split at h
      · rename_i ie hie
        split at h
        · rename_i hc
          split at h
          · rename_i z hz
            split at h
            · rename_i cells hf
              cases h
              obtain ⟨zs, hz1, hz2⟩ := zerosOf_run (ρ := ρ) hz w
              obtain ⟨r', hr', hrel⟩ := fill_rel (ρ := ρ) (fun i => some (i * ie.size, ie.size)) parts.toList ev ev' _ _ cells (fun x hx => hev x.2 (by simp only [Op.operands, List.mem_toArray, List.mem_map]; exact ⟨x, by simpa using hx, rfl⟩)) hc.2.2 hz2 (by simpa using hf)
              refine ⟨.cells r' e, ⟨w.heap.size, 0, r'.size, P.cellsOf e⟩, w.drawn, .slice (some ⟨w.heap.size, 0, none⟩) len len, ?_, rfl, fun b hb => ⟨?_, .slice ⟨⟨w.heap.size, 0, r'.size, P.cellsOf e⟩, by simp, rfl, by simp⟩ (.inl ⟨rfl, ?_⟩)⟩⟩
              · have hr2 : Instr.fill (fun i => some (i * ie.size, ie.size)) ((Array.range (len * ie.size)).map (zs[· % zs.size]!)) (parts.map fun x => (x.1, ev' x.2)).toList = some r' := by simpa using hr'
                simp only [Instr.buildSlice, Sem.run_bind, run_underlying' hu, Result.andThen_ok, run_sizeOf' hie]
                rw [if_neg (by have := hc.1; omega)]
                rcases hz1 with ⟨h0, rfl⟩ | ⟨h0, zv, hzv, rfl⟩
                · simp only [h0, if_true, Sem.run_bind, Sem.run_pure, Result.andThen_ok]
                  rw [h0] at hr2
                  rw [hr2]
                  simp only [Sem.run_bind, run_newRow, Result.andThen_ok, Sem.run_pure]
                · simp only [h0, if_false, Sem.run_bind, Sem.run_pure, Result.andThen_ok, hzv]
                  rw [hr2]
                  simp only [Sem.run_bind, run_newRow, Result.andThen_ok, Sem.run_pure]
              · exact brel_cells hb (by simpa using hrel) (fun j _ => by simp) rfl rfl rfl
              · exact hc.2.1
            · cases h
          · cases h
        · cases h
      · cases h
    · cases h
  case makeMap t r =>
    cases r with
    | some _ => simp only [calloc] at h; cases h
    | none =>
      simp only [calloc] at h
      cases h
      refine ⟨.map #[] 0, ⟨w.heap.size, 0, 0, 0⟩, w.drawn, .map (some w.heap.size), rfl, rfl, fun b hb => ⟨⟨#[], rfl, rfl, fun k hk => by simp at hk⟩, ?_⟩⟩
      exact .map (i := ⟨w.heap.size, 0, 0, 0⟩) (by simp)
  case makeSlice t ol oc =>
    simp only [calloc] at h
    split at h
    · rename_i e k l k' c hu hl hc
      have hxl := hev ol (by simp [Op.operands])
      have hxc := hev oc (by simp [Op.operands])
      rw [hl] at hxl; rw [hc] at hxc
      rw [hxl.int_inv, hxc.int_inv]
      split at h
      · rename_i ie hie
        split at h
        · rename_i hcond
          obtain ⟨h0, h1, h2, h3⟩ := hcond
          split at h
          · rename_i z hz
            cases h
            obtain ⟨zs, hz1, hz2⟩ := zerosOf_run (ρ := ρ) hz w
            have hwl : IntKind.i64.wrap l = l := by simp [IntKind.wrap, IntKind.bits, IntKind.signed]; omega
            have hwc : IntKind.i64.wrap c = c := by simp [IntKind.wrap, IntKind.bits, IntKind.signed]; omega
            refine ⟨.cells ((Array.range (c.toNat * ie.size)).map (zs[· % zs.size]!)) e, ⟨w.heap.size, 0, ((Array.range (c.toNat * ie.size)).map (zs[· % zs.size]!)).size, P.cellsOf e⟩, w.drawn, .slice (some ⟨w.heap.size, 0, none⟩) l.toNat c.toNat, ?_, rfl,
              fun b hb => ⟨brel_cells hb (by simpa using hz2) (fun j _ => by simp) rfl rfl rfl, .slice ⟨⟨w.heap.size, 0, ((Array.range (c.toNat * ie.size)).map (zs[· % zs.size]!)).size, P.cellsOf e⟩, by simp, rfl, by simp⟩ (.inl ⟨rfl, by unfold UNK; omega⟩)⟩⟩
            have hb2 : (ie.bytes : Int) * c ≤ 281474976710656 := by rw [Int.mul_comm]; exact h3
            simp only [Instr.makeSlice, Sem.run_bind, run_underlying' hu, Result.andThen_ok, asInt, asIntOf, Sem.run_pure, run_typeInfo' hie, hwl, hwc]
            rw [if_neg (by simp only [Bool.or_eq_true, decide_eq_true_eq]; omega)]
            have hroom : (askRoom (c.toNat * ie.bytes)).run P w = .ok () w := by unfold askRoom; split <;> rfl
            simp only [Sem.run_bind, hroom, Result.andThen_ok, run_sizeOf' hie]
            rcases hz1 with ⟨h0, rfl⟩ | ⟨h0, zv, hzv, rfl⟩
            · simp only [h0, if_true, Sem.run_bind, Sem.run_pure, Result.andThen_ok, run_newRow]
            · simp only [h0, if_false, Sem.run_bind, Sem.run_pure, Result.andThen_ok, hzv, run_newRow]
          · cases h
        · cases h
      · cases h
    · cases h
  case range t x =>
    simp only [calloc] at h
    split at h
    · rename_i str hu hs
      cases h
      have hx := hev x (by simp [Op.operands])
      rw [hs] at hx
      rw [hx.string_inv]
      refine ⟨.stringIter str 0, ⟨w.heap.size, 0, 0, 0⟩, w.drawn, .pointer (some ⟨w.heap.size, 0, none⟩), ?_, rfl, fun b hb => ⟨rfl, ptr_new hb rfl rfl⟩⟩
      simp only [Instr.range, Sem.run_bind, run_underlying' hu, Result.andThen_ok, Sem.run_pure]
      rfl
    · cases h
  case convert src d x =>
    simp only [calloc] at h
    split at h
    · rename_i e str hs hd hx0
      have hx := hev x (by simp [Op.operands])
      rw [hx0] at hx
      rw [hx.string_inv]
      split at h
      · rename_i he
        split at h
        · rename_i hsz
          cases h
          obtain ⟨hs1, hs2⟩ := hsz
          obtain ⟨ie, hie, hie1⟩ : ∃ ie, P.info? e = some ie ∧ ie.size = 1 := by
            cases hq : P.info? e with
            | none => rw [hq] at hs2; simp at hs2
            | some ie => rw [hq] at hs2; exact ⟨ie, rfl, by simpa using hs2⟩
          have hcap := Nat.le_add_right str.size (w.tape w.drawn (.appendCap str.size 0 e) % (2 ^ 63 - str.size))
          have hcap2 : str.size + w.tape w.drawn (.appendCap str.size 0 e) % (2 ^ 63 - str.size) < UNK := by
            have : 0 < 2 ^ 63 - str.size := by unfold UNK at hs1; omega
            have := Nat.mod_lt (w.tape w.drawn (.appendCap str.size 0 e)) this
            unfold UNK at *; omega
          generalize hcp : str.size + w.tape w.drawn (.appendCap str.size 0 e) % (2 ^ 63 - str.size) = cap at hcap hcap2
          let cs : Array Value := str.data.map fun b => .int .u8 b.toNat
          let more : Array Value := Array.replicate (cap - str.size) (.int .u8 0)
          have hcs : cs.size = str.size := by simp [cs]
          have hms : (cs ++ more).size = cap := by simp [cs, more]; omega
          refine ⟨.cells (cs ++ more) e (cap, cap + 1), ⟨w.heap.size, 0, cap, P.cellsOf e⟩, w.drawn + 1, .slice (some ⟨w.heap.size, 0, none⟩) str.size cap, ?_, rfl, fun b hb => ⟨?_, .slice ⟨⟨w.heap.size, 0, cap, P.cellsOf e⟩, by simp, rfl, by simp⟩ (.inr ⟨rfl, hcap, hcap2, ?_⟩)⟩⟩
          · simp only [Go.convert, Sem.run_bind, run_underlying' hs, run_underlying' hd, run_underlying' he, Result.andThen_ok, Conv.stringToBytes, choose, Sem.run, Question.forced, Question.cut, Bool.false_eq_true, if_false, hcp]
            rw [run_newRow]
            simp only [Result.andThen_ok]
            rw [run_markStringish { w with drawn := w.drawn + 1 }]
            simp only [Result.andThen_ok, Sem.run_pure]
            rw [show (str.data.map fun b => Value.int .u8 b.toNat) ++ Array.replicate (cap - str.size) (Value.int .u8 0) = cs ++ more from rfl, hms]
          · refine brel_cells_more hb ⟨by simp [cs], fun i hi => ?_⟩ (fun j hj => by rw [hms] at hj; simp; omega) rfl hms.symm rfl
            simp only [List.size_toArray, List.length_map, Array.length_toList] at hi
            have : cs.getD i undef = (str.data.toList.map fun b => Value.int .u8 b.toNat).toArray.getD i undef := by
              simp [cs, Array.getD, hi]
            rw [this, show (str.data.toList.map fun b => Value.int .u8 b.toNat).toArray.getD i undef = .int .u8 (str.data[i]'hi).toNat from by simp only [Array.getD_eq_getD_getElem?, List.getElem?_toArray, List.getElem?_map, Array.getElem?_toList, Array.getElem?_eq_getElem hi]; rfl]
            exact .int _ _
          · intro i hi
            simp only [Ren.add_same, Option.some.injEq] at hi
            subst hi
            right
            simp [cellsOf_info hie, hie1]
        · cases h
      · cases h
    · cases h
end
end Go.Cs
