/- That the model does what the clean memory does: the operations that ask nothing of the memory. A lemma file: no statement of its own. -/
import Derived.Test.YtlijgnofegjnmaaCs2
import Derived.Laws.Sem
set_option linter.unusedSimpArgs false
set_option linter.unusedVariables false
namespace Go.Cs
section
variable {P : Program} {ρ : Ren}

theorem run_underlying' {t : TypeId} {d : TypeDesc} (h : P.underlying t = some d) (w : World) : (underlying t).run P w = .ok d w := by
  simp [underlying, program, Sem.run, h]

theorem run_typeInfo' {t : TypeId} {i : TypeInfo} (h : P.info? t = some i) (w : World) : (typeInfo t).run P w = .ok i w := by
  simp [typeInfo, program, Sem.run, h]

theorem run_sizeOf' {t : TypeId} {i : TypeInfo} (h : P.info? t = some i) (w : World) : (sizeOf t).run P w = .ok i.size w := by
  simp [sizeOf, run_typeInfo' h]

theorem info_of_underlying {t : TypeId} {d : TypeDesc} (h : P.underlying t = some d) : ∃ i, P.info? t = some i := by
  unfold Program.underlying at h
  split at h
  · exact ⟨_, by assumption⟩
  · exact ⟨_, by assumption⟩
  · cases h

theorem cellsOf_info {t : TypeId} {i : TypeInfo} (h : P.info? t = some i) : P.cellsOf t = i.size := by simp [Program.cellsOf, h]

theorem run_isAgg {t : TypeId} {b : Bool} (h : aggT P t = some b) (w : World) : (isAgg t).run P w = .ok b w := by
  unfold aggT at h
  split at h <;> (try cases h) <;> rename_i hu <;> simp only [isAgg, Sem.run_bind, run_underlying' hu, Result.andThen_ok] <;> first | rfl | skip

theorem info_of_agg {t : TypeId} {b : Bool} (h : aggT P t = some b) : ∃ i, P.info? t = some i := by
  unfold aggT at h
  split at h
  · exact info_of_underlying (by assumption)
  · exact info_of_underlying (by assumption)
  · exact info_of_underlying (by assumption)
  · cases h

theorem extract_rel {c c' : Array Value} (h : VsRel ρ c c') (i j : Nat) : VsRel ρ (c.extract i j) (c'.extract i j) := by
  refine ⟨by simp [h.1], fun k hk => ?_⟩
  simp only [Array.size_extract] at hk
  have hk' : i + k < c.size := by omega
  have h0 := h.2 (i + k) hk'
  have hk2 : i + k < c'.size := h.1 ▸ hk'
  have e1 : (c.extract i j).getD k undef = c.getD (i + k) undef := by
    rw [Array.getD_eq_getD_getElem?, Array.getD_eq_getD_getElem?, Array.getElem?_extract, if_pos (by omega)]
  have e2 : (c'.extract i j).getD k undef = c'.getD (i + k) undef := by
    rw [Array.getD_eq_getD_getElem?, Array.getD_eq_getD_getElem?, Array.getElem?_extract, if_pos (by rw [← h.1]; omega)]
  rw [e1, e2]
  exact h0

theorem VsRel.getElem? {c c' : Array Value} (h : VsRel ρ c c') {i : Nat} {v : Value} (hv : c[i]? = some v) : ∃ v', c'[i]? = some v' ∧ VRel ρ v v' := by
  obtain ⟨hi, rfl⟩ := Array.getElem?_eq_some_iff.1 hv
  have hi' : i < c'.size := h.1 ▸ hi
  refine ⟨c'[i], by simp [hi'], ?_⟩
  have := h.2 i hi
  simpa [Array.getD, hi, hi'] using this

theorem cpart_sound {t : TypeId} {cs cs' : Array Value} {off : Nat} {v : Value} (h : cpart P t cs off = some v) (hc : VsRel ρ cs cs') (w : World) :
    ∃ v', (part t cs' off).run P w = .ok v' w ∧ VRel ρ v v' := by
  unfold cpart at h
  split at h
  · rename_i ha
    obtain ⟨i, hi⟩ := info_of_agg ha
    split at h
    · cases h
      refine ⟨_, by simp only [part, Sem.run_bind, run_isAgg ha, Result.andThen_ok, if_true, run_sizeOf' hi]; rfl, ?_⟩
      rw [cellsOf_info hi]
      have := extract_rel hc off (off + i.size)
      exact .agg this.1 this.2
    · cases h
  · rename_i ha
    obtain ⟨v', hv', hr⟩ := hc.getElem? h
    refine ⟨v', ?_, hr⟩
    simp only [part, Sem.run_bind, run_isAgg ha, Result.andThen_ok, Bool.false_eq_true, if_false, hv']
    rfl
  · cases h

theorem VRel.agg_inv {cs : Array Value} {v' : Value} (h : VRel ρ (.agg cs) v') : ∃ cs', v' = .agg cs' ∧ VsRel ρ cs cs' := by
  cases h with
  | agg hc hcv => exact ⟨_, rfl, hc, hcv⟩

theorem VRel.ptr_inv {a : Addr} {v' : Value} (h : VRel ρ (.pointer (some a)) v') : ∃ a', v' = .pointer (some a') ∧ ARel ρ a a' := by
  cases h with
  | ptr h => exact ⟨_, rfl, h⟩

theorem VRel.int_inv {k : IntKind} {n : Int} {v' : Value} (h : VRel ρ (.int k n) v') : v' = .int k n := by cases h; rfl
theorem VRel.bool_inv {b : Bool} {v' : Value} (h : VRel ρ (.bool b) v') : v' = .bool b := by cases h; rfl
theorem VRel.string_inv {b : ByteArray} {v' : Value} (h : VRel ρ (.string b) v') : v' = .string b := by cases h; rfl
theorem VRel.iface_inv {t : TypeId} {v v' : Value} (h : VRel ρ (.iface t v) v') : ∃ u, v' = .iface t u ∧ VRel ρ v u := by
  cases h with
  | iface _ h => exact ⟨_, rfl, h⟩
theorem VRel.nilIface_inv {v' : Value} (h : VRel ρ .nilIface v') : v' = .nilIface := by cases h; rfl
theorem VRel.slice_inv {a : Addr} {n c : Nat} {v' : Value} (h : VRel ρ (.slice (some a) n c) v') : ∃ a' c', v' = .slice (some a') n c' ∧ ARel ρ a a' ∧ CapRel ρ a n c c' := by
  cases h with
  | slice h hc => exact ⟨_, _, rfl, h, hc⟩
theorem VRel.nilSlice_inv {n c : Nat} {v' : Value} (h : VRel ρ (.slice none n c) v') : v' = .slice none 0 0 ∧ n = 0 ∧ c = 0 := by cases h; exact ⟨rfl, rfl, rfl⟩
theorem VRel.map_inv {r : Nat} {v' : Value} (h : VRel ρ (.map (some r)) v') : ∃ i, v' = .map (some i.blk) ∧ ρ r = some i := by
  cases h with
  | map h => exact ⟨_, rfl, h⟩
theorem VRel.nilMap_inv {v' : Value} (h : VRel ρ (.map none) v') : v' = .map none := by cases h; rfl
theorem VRel.func_inv {f : FuncId} {a b : Array Value} {v' : Value} (h : VRel ρ (.func (.func f) a b) v') : ∃ a' b', v' = .func (.func f) a' b' ∧ VsRel ρ a a' ∧ VsRel ρ b b' := by
  cases h with
  | func _ _ hf hfv hc hcv => exact ⟨_, _, rfl, ⟨hf, hfv⟩, ⟨hc, hcv⟩⟩
theorem VRel.tuple_inv {cs : Array Value} {v' : Value} (h : VRel ρ (.tuple cs) v') (hu : cs.size ≠ 1) : ∃ cs', v' = .tuple cs' ∧ VsRel ρ cs cs' := by
  generalize hx : Value.tuple cs = x at h
  cases h with
  | unk => cases hx; simp at hu
  | tuple _ hc hcv => cases hx; exact ⟨_, rfl, hc, hcv⟩
  | _ => cases hx

theorem okPart_cells {v v' : Value} (h : VRel ρ v v') (hk : okPart v = true) : VsRel ρ v.cells v'.cells := by
  cases h with
  | unk _ hu => cases v' <;> first | (simp [oneCell] at hu; done) | exact ⟨rfl, fun i hi => by simp [Value.cells, Cs.unk] at hi ⊢; subst hi; exact .unk _ hu⟩
  | agg hc hcv => exact ⟨hc, hcv⟩
  | tuple h1 => simp [okPart] at hk; exact (h1 hk).elim
  | bool b => exact ⟨rfl, fun i hi => by simp [Value.cells] at hi ⊢; subst hi; exact .bool b⟩
  | int k n => exact ⟨rfl, fun i hi => by simp [Value.cells] at hi ⊢; subst hi; exact .int k n⟩
  | string s => exact ⟨rfl, fun i hi => by simp [Value.cells] at hi ⊢; subst hi; exact .string s⟩
  | nilPtr => exact ⟨rfl, fun i hi => by simp [Value.cells] at hi ⊢; subst hi; exact .nilPtr⟩
  | ptr h => exact ⟨rfl, fun i hi => by simp [Value.cells] at hi ⊢; subst hi; exact .ptr h⟩
  | nilSlice => exact ⟨rfl, fun i hi => by simp [Value.cells] at hi ⊢; subst hi; exact .nilSlice⟩
  | slice h hc => exact ⟨rfl, fun i hi => by simp [Value.cells] at hi ⊢; subst hi; exact .slice h hc⟩
  | nilMap => exact ⟨rfl, fun i hi => by simp [Value.cells] at hi ⊢; subst hi; exact .nilMap⟩
  | map h => exact ⟨rfl, fun i hi => by simp [Value.cells] at hi ⊢; subst hi; exact .map h⟩
  | func fn h1 h2 h3 h4 h5 => exact ⟨rfl, fun i hi => by simp [Value.cells] at hi ⊢; subst hi; exact .func fn h1 h2 h3 h4 h5⟩
  | yield h => exact ⟨rfl, fun i hi => by simp [Value.cells] at hi ⊢; subst hi; exact .yield h⟩
  | nilFunc => exact ⟨rfl, fun i hi => by simp [Value.cells] at hi ⊢; subst hi; exact .nilFunc⟩
  | nilIface => exact ⟨rfl, fun i hi => by simp [Value.cells] at hi ⊢; subst hi; exact .nilIface⟩
  | iface t h => exact ⟨rfl, fun i hi => by simp [Value.cells] at hi ⊢; subst hi; exact .iface t h⟩

theorem ARel.add {a a' : Addr} (h : ARel ρ a a') (n : Nat) : ARel ρ (a.add n) (a'.add n) := by
  obtain ⟨i, hi, hs, rfl⟩ := h
  unfold Addr.add
  by_cases e : n = 0
  · simp only [e, if_true]; exact ⟨i, hi, hs, rfl⟩
  · simp only [e, if_false]
    exact ⟨i, hi, rfl, by simp; omega⟩

theorem nilCmp_sound {d : TypeDesc} {t : TypeId} {x y x' y' : Value} {b : Bool} (hd : P.underlying t = some d) (h : nilCmp d x y = some b) (hx : VRel ρ x x') (hy : VRel ρ y y') (w : World) :
    (Op.equal t x' y').run P w = .ok b w := by
  unfold nilCmp at h
  split at h <;> (try cases h) <;> (split at h <;> cases h) <;> cases hx <;> cases hy <;>
    (show (Op.equalIn (9999 + 1) t _ _).run P w = _) <;> rw [Op.equalIn] <;> simp only [Sem.run_bind, run_underlying' hd, Result.andThen_ok] <;> rfl

theorem eqGuard_nil {d : TypeDesc} {op : BinOp} {t : TypeId} {ox oy : Operand} {x y x' y' : Value} {b : Bool} (h : nilCmp d x y = some b) (hx : VRel ρ x x') (hy : VRel ρ y y') (w : World) :
    (eqGuard op t ox oy x' y').run P w = .ok () w := by
  unfold nilCmp at h
  split at h <;> (try cases h) <;> (split at h <;> cases h) <;> cases hx <;> cases hy <;> cases op <;> rfl

theorem binOp_nil {d : TypeDesc} {op : BinOp} {t : TypeId} {x y x' y' : Value} {b : Bool} (h : nilCmp d x y = some b) (hx : VRel ρ x x') (hy : VRel ρ y y') :
    (op = .eql → Go.binOp op t x' y' = (do pure (.bool (← Op.equal t x' y')))) ∧ (op = .neq → Go.binOp op t x' y' = (do pure (.bool (!(← Op.equal t x' y'))))) := by
  unfold nilCmp at h
  split at h <;> (try cases h) <;> (split at h <;> cases h) <;> cases hx <;> cases hy <;> exact ⟨fun e => by subst e; rfl, fun e => by subst e; rfl⟩

theorem eqGuard_int {op : BinOp} {t : TypeId} {ox oy : Operand} {k k' : IntKind} {a b : Int} (w : World) : (eqGuard op t ox oy (.int k a) (.int k' b)).run P w = .ok () w := by
  cases op <;> rfl

theorem pure6_sound {s : Sem Value} {v : Value} (h : pure6 P s = some v) (w : World) : s.run P w = .ok v w ∧ VRel ρ v v := by
  unfold pure6 at h
  split at h
  · rename_i u hu
    split at h
    · cases h
      exact ⟨run_of_pureRun hu w, VRel.of_plain 6 (by assumption)⟩
    · cases h
  · cases h

theorem cbin_sound {op : BinOp} {t : TypeId} {ox oy : Operand} {x y x' y' v : Value} (h : cbin P op t ox oy x y = some v) (hx : VRel ρ x x') (hy : VRel ρ y y') (w : World) :
    ∃ v', (do eqGuard op t ox oy x' y'; Go.binOp op t x' y' : Sem Value).run P w = .ok v' w ∧ VRel ρ v v' := by
  unfold cbin at h
  split at h
  · rename_i k a k' b
    cases hx; cases hy
    simp only [Sem.run_bind, eqGuard_int, Result.andThen_ok]
    have hpl : ∀ u, pure6 P (Go.binOp op t (.int k a) (.int k' b)) = some u → ∃ v', (Go.binOp op t (.int k a) (.int k' b)).run P w = .ok v' w ∧ VRel ρ u v' :=
      fun u hu => ⟨u, pure6_sound hu w⟩
    split at h
    · rename_i hk
      subst hk
      split at h <;> first
        | exact hpl _ h
        | (cases h; exact ⟨_, by simp only [Go.binOp, ne_eq, not_true_eq_false, if_false, Op.intArith, Op.intCmp]; rfl, VRel.of_plain 1 rfl⟩)
    · exact hpl _ h
  · rename_i hni
    split at h
    · rename_i hp
      rw [VRel.eq_of_plain 6 hp.1 hx, VRel.eq_of_plain 6 hp.2 hy]
      exact ⟨v, pure6_sound h w⟩
    · split at h
      · cases h
      · rename_i d hd
        split at h <;> (try cases h) <;> rename_i b hb
        · refine ⟨.bool b, ?_, .bool b⟩
          simp only [Sem.run_bind, eqGuard_nil hb hx hy, Result.andThen_ok, (binOp_nil hb hx hy).1 rfl, nilCmp_sound hd hb hx hy]
          rfl
        · refine ⟨.bool !b, ?_, .bool _⟩
          simp only [Sem.run_bind, eqGuard_nil hb hx hy, Result.andThen_ok, (binOp_nil hb hx hy).2 rfl, nilCmp_sound hd hb hx hy]
          rfl
end
end Go.Cs
