/- Regions that draw their order, over the clean memory: the theorem. A lemma file: no statement of its own. -/
import Derived.Test.YtlijgnofegjnmaaCs16
set_option linter.unusedSimpArgs false
set_option linter.unusedVariables false
namespace Go.Cs

/-- How many are not done. -/
def cnt (D : Array Bool) : Nat → Nat
  | 0 => 0
  | n + 1 => cnt D n + (if D.getD n false then 0 else 1)

theorem cnt_le {D D' : Array Bool} (h : ∀ j, D.getD j false = true → D'.getD j false = true) : ∀ n, cnt D' n ≤ cnt D n := by
  intro n
  induction n with
  | zero => simp [cnt]
  | succ n ih =>
    simp only [cnt]
    have := h n
    cases h1 : D.getD n false <;> cases h2 : D'.getD n false <;> simp_all <;> omega

theorem cnt_lt {D D' : Array Bool} (h : ∀ j, D.getD j false = true → D'.getD j false = true) {i : Nat} (hi : D.getD i false = false) (hi' : D'.getD i false = true) : ∀ n, i < n → cnt D' n < cnt D n := by
  intro n
  induction n with
  | zero => intro hn; omega
  | succ n ih =>
    intro hn
    simp only [cnt]
    by_cases e : i = n
    · subst e
      rw [hi, hi']
      have := cnt_le h i
      simp; omega
    · have := ih (by omega)
      have := h n
      cases h1 : D.getD n false <;> cases h2 : D'.getD n false <;> simp_all <;> omega

theorem cnt_zero {D : Array Bool} : ∀ n, cnt D n = 0 → ∀ j, j < n → D.getD j false = true := by
  intro n
  induction n with
  | zero => intro _ j hj; omega
  | succ n ih =>
    intro h j hj
    simp only [cnt] at h
    by_cases e : j = n
    · subst e
      cases h1 : D.getD j false with
      | true => rfl
      | false => rw [h1] at h; simp at h
    · exact ih (by omega) j (by omega)

theorem getD_set_same {D : Array Bool} {i : Nat} (h : i < D.size) : (D.setIfInBounds i true).getD i false = true := by
  rw [Array.getD_eq_getD_getElem?, Array.getElem?_setIfInBounds, if_pos rfl, if_pos h]; rfl

section
variable {M : Type} [Mem M] {P : Program} {w0 : World}

/-- What a region that draws its order comes to. -/
def DPost (P : Program) (w0 : World) (ρ0 : Ren) (s0 : St M) (Q : Act → St M → Prop) : Exit → Act → World → Prop := fun e a2' w2 =>
  e = .normal ∧ ∃ a2 s2 ρ2, Q a2 s2 ∧ Rel P w0 ρ2 s2 w2 ∧ ActRel ρ2 a2 a2' ∧ Ext ρ0 s0 ρ2 s2

theorem draw_any {ops : Array Oper} {bf : Array Nat} {canon : List Nat} (S : Stat P ops bf canon) {ρ0 : Ren} {s0 : St M} {Q : Act → St M → Prop} :
    ∀ (fuel : Nat) (D : Array Bool) (pre rest : List Nat) (fl : List (Fl M)) (β : Nat → Option Nat) (ρ : Ren) (a : Act) (s : St M) (a' : Act) (w : World),
      canon = pre ++ rest → D.size = ops.size → cnt D ops.size ≤ fuel → Down ops D → (∀ i, D.getD i false = true → i ∈ pre) → (∀ i r o, rest = i :: r → ops[i]? = some o → acts P o = true) →
      cregionD P w0 ops bf Q rest fl a s → DInv P w0 ops D pre fl β ρ a s a' w → Ext ρ0 s0 ρ s → (∀ i b, β i = some b → s0.next ≤ b) → wpAny P .any ops (DPost P w0 ρ0 s0 Q) fuel D a' w := by
  -- all is done: the end
  have hend : ∀ (D : Array Bool) (pre rest : List Nat) (fl : List (Fl M)) (β : Nat → Option Nat) (ρ : Ren) (a : Act) (s : St M) (a' : Act) (w : World),
      canon = pre ++ rest → (∀ i, D.getD i false = true → i ∈ pre) → cregionD P w0 ops bf Q rest fl a s → DInv P w0 ops D pre fl β ρ a s a' w → Ext ρ0 s0 ρ s → (∀ i, i < ops.size → D.getD i false = true) →
      DPost P w0 ρ0 s0 Q .normal a' w := by
    intro D pre rest fl β ρ a s a' w hc hD h hI hE hall
    have hr : rest = [] := by
      cases rest with
      | nil => rfl
      | cons k r =>
        have hk : k ∈ canon := by rw [hc]; simp
        have h1 := hD k (hall k ((S.mem k).1 hk))
        have h2 := S.nodup
        rw [hc, List.nodup_append] at h2
        exact absurd rfl (h2.2.2 k h1 k (by simp))
    subst hr
    refine ⟨rfl, a, s, ρ, h, hI.rel, ⟨⟨hI.size, fun t ht => hI.tm t fun i hi o ho hun => ?_⟩, hI.d, hI.d'⟩, hE⟩
    have hi2 : i ∈ canon := by rw [hc]; simp [hi]
    have := hall i ((S.mem i).1 hi2)
    rw [this] at hun; cases hun
  intro fuel
  induction fuel with
  | zero =>
    intro D pre rest fl β ρ a s a' w hc hsz hcnt hDown hD hhead h hI hE hβ
    have hall := cnt_zero ops.size (by omega : cnt D ops.size = 0)
    refine ⟨?_, hend D pre rest fl β ρ a s a' w hc hD h hI hE hall⟩
    cases hr : Region.ready .any ops D with
    | nil => rfl
    | cons j l =>
      have hj : j ∈ Region.ready .any ops D := by rw [hr]; simp
      obtain ⟨h1, o, ho, _⟩ := mem_ready.1 hj
      have hjlt : j < ops.size := by
        rcases Nat.lt_or_ge j ops.size with h' | h'
        · exact h'
        · rw [Array.getElem?_eq_none h'] at ho; cases ho
      have h2 := hall j hjlt
      have : j < D.size := by omega
      simp only [Array.getD, this, dif_pos] at h1 h2
      rw [h2] at h1; cases h1
  | succ fuel ih =>
    intro D pre rest fl β ρ a s a' w hc hsz hcnt hDown hD hhead h hI hE hβ
    refine ⟨fun hr => ?_, fun i hi => ?_⟩
    · -- nothing is ready: all is done
      refine hend D pre rest fl β ρ a s a' w hc hD h hI hE ?_
      have key : ∀ n, ∀ i ∈ canon.take n, D.getD i false = true := by
        intro n
        induction n with
        | zero => intro i hi; simp at hi
        | succ n ihn =>
          intro i hi
          rcases Nat.lt_or_ge n canon.length with hn | hn
          · rw [List.take_succ_eq_append_getElem hn, List.mem_append, List.mem_singleton] at hi
            rcases hi with hi | hi
            · exact ihn i hi
            · subst hi
              cases hun : D.getD canon[n] false with
              | true => rfl
              | false =>
                have hlt : canon[n] < ops.size := (S.mem _).1 (List.getElem_mem hn)
                have ho : ops[canon[n]]? = some ops[canon[n]] := by simp
                have : canon[n] ∈ Region.ready .any ops D := by
                  rw [mem_ready]
                  refine ⟨?_, ops[canon[n]], ho, fun e he hb => ?_⟩
                  · have : canon[n] < D.size := by omega
                    simp only [Array.getD, this, dif_pos] at hun ⊢
                    exact hun
                  · refine ihn _ (S.before (canon.take n) canon[n] (canon.drop (n + 1)) _ ?_ ho _ ?_)
                    · rw [← List.drop_eq_getElem_cons hn, List.take_append_drop]
                    · simp only [bindsAll, List.mem_map, List.mem_filter]
                      exact ⟨e, ⟨by simpa using he, hb⟩, rfl⟩
                rw [hr] at this; cases this
          · rw [List.take_of_length_le (by omega)] at hi
            exact ihn i (by rw [List.take_of_length_le hn]; exact hi)
      intro i hi
      exact key canon.length i (by rw [List.take_length]; exact (S.mem i).2 hi)
    · -- an operation that is ready
      obtain ⟨hun0, o, ho, hall0⟩ := mem_ready.1 hi
      have hilt : i < ops.size := by
        rcases Nat.lt_or_ge i ops.size with h' | h'
        · exact h'
        · rw [Array.getElem?_eq_none h'] at ho; cases ho
      have hiD : i < D.size := by omega
      have hun : D.getD i false = false := by
        simp only [Array.getD, hiD, dif_pos] at hun0 ⊢; exact hun0
      have hall : ∀ k ∈ bindsAll o, D.getD k false = true := by
        intro k hk
        simp only [bindsAll, List.mem_map, List.mem_filter] at hk
        obtain ⟨e, ⟨he, hb⟩, rfl⟩ := hk
        exact hall0 e (by simpa using he) hb
      have hchain : ∀ j, (bf.getD i 0).testBit j = true → j < ops.size → D.getD j false = true := fun j hb hj => S.chain hDown i j o ho hall hb hj
      -- none that is pending writes what i looks at
      have hlooks : ∀ t, t ∈ o.looksAt ops → VRel ρ (a.tmps.getD t undef) (a'.tmps.getD t undef) := by
        intro t ht
        refine hI.tm t fun j hj oj hoj hunj he => ?_
        obtain ⟨oj', hoj', hactj, _⟩ := hI.pend j hj hunj
        rw [hoj] at hoj'; cases hoj'
        have hjlt : j < ops.size := (S.mem j).1 (by rw [hc]; simp [hj])
        by_cases e : i = j
        · subst e
          rw [ho] at hoj; cases hoj
          exact S.self i o t ho he hactj ht
        · rcases S.looks i j o oj t ho hoj e he ht with h1 | ⟨h1, _⟩
          · rw [hchain j h1 hjlt] at hunj; cases hunj
          · rw [hactj] at h1; cases h1
      have hops : o.op.operands.all opOk = true → ∀ x ∈ o.op.operands, VRel ρ (a.eval x) (a'.eval x) := by
        intro hk x hx
        rw [Array.all_eq_true_iff_forall_mem] at hk
        cases x with
        | tmp t => exact hlooks t (mem_looks_op hx)
        | const v => exact VRel.of_plain 6 (hk _ hx)
        | global g => have := hk _ hx; simp [opOk] at this
        | func f => exact .func _ (by simp) rfl (fun i hi => by simp at hi) rfl (fun i hi => by simp at hi)
      have hwant : ∀ b, cwanted ops o a.tmps = some b → Region.wanted o (yielded ops a'.tmps) = b := by
        intro b hb
        exact cwanted_sound hb (fun j want d hg hd _ => hlooks d (mem_looks_guard hg hd)) hI.size
      -- the array of what is done, with i
      have hmono : ∀ j, D.getD j false = true → (D.setIfInBounds i true).getD j false = true := by
        intro j hj
        by_cases e : i = j
        · subst e; exact getD_set_same hiD
        · rw [getD_set_ne false e]; exact hj
      have hself : (D.setIfInBounds i true).getD i false = true := getD_set_same hiD
      have hne : ∀ j, i ≠ j → (D.setIfInBounds i true).getD j false = D.getD j false := fun j e => getD_set_ne false e
      have hcnt' : cnt (D.setIfInBounds i true) ops.size ≤ fuel := by
        have := cnt_lt hmono hun hself ops.size hilt
        omega
      have hDown' : Down ops (D.setIfInBounds i true) := by
        intro j oj hoj hj k hk
        by_cases e : i = j
        · subst e; rw [ho] at hoj; cases hoj; exact hmono k (hall k hk)
        · rw [hne j e] at hj; exact hmono k (hDown j oj hoj hj k hk)
      have hsz' : (D.setIfInBounds i true).size = ops.size := by simpa using hsz
      unfold wpOp
      rw [ho]
      simp only
      by_cases hact : acts P o = true
      · -- it acts: it is the next one
        have hirest : ∃ r, rest = i :: r := by
          have hic : i ∈ canon := (S.mem i).2 hilt
          rw [hc, List.mem_append] at hic
          rcases hic with hic | hic
          · obtain ⟨oi, hoi, ha, _⟩ := hI.pend i hic hun
            rw [ho] at hoi; cases hoi
            rw [hact] at ha; cases ha
          · cases rest with
            | nil => cases hic
            | cons k r =>
              rcases List.mem_cons.1 hic with rfl | hic
              · exact ⟨r, rfl⟩
              · -- k acts, and goes ahead of i
                have hk : k < ops.size := (S.mem k).1 (by rw [hc]; simp)
                have hok : ops[k]? = some ops[k] := by simp
                have hka := hhead k r _ rfl hok
                have hb := S.later pre k r _ hc hok hka i hic
                have hkD := hchain k hb hk
                have h2 := S.nodup
                rw [hc, List.nodup_append] at h2
                exact absurd rfl (h2.2.2 k (hD k hkD) k (by simp))
        obtain ⟨r, rfl⟩ := hirest
        simp only [cregionD, ho] at h
        have hinot : i ∉ pre := by
          intro h1
          have h2 := S.nodup
          rw [hc, List.nodup_append] at h2
          exact absurd rfl (h2.2.2 i h1 i (by simp))
        have hnext : ∀ (v v' : Value) (s' : St M) (w' : World) (ρ' : Ren), cregionD P w0 ops bf Q r fl (a.put o.dst v) s' → (∀ f ∈ fl, (bf.getD i 0).testBit f.i = false → f.still P s → f.still P s') → VRel ρ' v v' → Rel P w0 ρ' s' w' → Ext ρ s ρ' s' →
            wpAny P .any ops (DPost P w0 ρ0 s0 Q) fuel (D.setIfInBounds i true) (a'.put o.dst v') w' := by
          intro v v' s' w' ρ' h2 hstill hv hR2 hE2
          have hI2 : DInv P w0 ops (D.setIfInBounds i true) (pre ++ [i]) fl β ρ' (a.put o.dst v) s' (a'.put o.dst v') w' := by
            refine ⟨hR2, by rw [put_size, put_size]; exact hI.size, ?_, ?_, fun t ht => ?_, fun j hj hunj => ?_, hI.inj, fun j b hb => Nat.lt_of_lt_of_le (hI.blt j b hb) hE2.next, fun j b hb => by simp [hI.bpre j b hb]⟩
            · unfold Act.put; split <;> exact hI.d
            · unfold Act.put; split <;> exact hI.d'
            · have hold : o.dst ≠ some t → VRel ρ' ((a.put o.dst v).tmps.getD t undef) ((a'.put o.dst v').tmps.getD t undef) := by
                intro hdt
                have h3 := (hI.tm t (fun j hj oj hoj hunj => ht j (by simp [hj]) oj hoj (by
                  rw [hne j]
                  · exact hunj
                  · intro e; subst e; exact hinot hj))).mono hE2.le
                cases hd : o.dst with
                | none => exact h3
                | some d =>
                  have : d ≠ t := fun e => hdt (by rw [hd, e])
                  rw [put_getD this, put_getD this]; exact h3
              by_cases e : o.dst = some t
              · rw [e]
                simp only [Act.put]
                rw [Array.getD_eq_getD_getElem?, Array.getElem?_setIfInBounds, if_pos rfl, Array.getD_eq_getD_getElem?, Array.getElem?_setIfInBounds, if_pos rfl, hI.size]
                split
                · exact hv
                · exact VRel.undef _
              · exact hold e
            · rcases List.mem_append.1 hj with hj | hj
              · have hji : i ≠ j := fun e => hinot (e ▸ hj)
                rw [hne j hji] at hunj
                obtain ⟨oj, hoj, haj, hp⟩ := hI.pend j hj hunj
                have hjlt : j < ops.size := (S.mem j).1 (by rw [hc]; simp [hj])
                have hbij : (bf.getD i 0).testBit j = false := by
                  cases hb : (bf.getD i 0).testBit j with
                  | false => rfl
                  | true => rw [hchain j hb hjlt] at hunj; cases hunj
                refine ⟨oj, hoj, haj, ?_⟩
                have hp2 : Pend P ops oj j fl β ρ' a s' := by
                  obtain ⟨ev0, val, h1, h2, h3⟩ := hp
                  refine ⟨ev0, val, h1, h2, ?_⟩
                  rcases h3 with h3 | ⟨h3, h4, h5⟩
                  · exact .inl h3
                  · refine .inr ⟨h3, h4, ?_⟩
                    rcases h5 with h5 | ⟨h5, f, hf, h6, h7, h8, h9⟩ | ⟨B, g, b, h5, h6, h7, h8, h9⟩
                    · exact .inl h5
                    · have := hstill f hf (by rw [h6]; exact hbij) (by unfold Fl.still; rw [h9, h8, h7]; exact h5)
                      unfold Fl.still at this
                      rw [h9, h8, h7] at this
                      exact .inr (.inl ⟨this, f, hf, h6, h7, h8, h9⟩)
                    · exact .inr (.inr ⟨B, g, b, h5, h6, by rw [hE2.unr b (hI.blt j b h6) h8]; exact h7, by rw [hE2.old b (hI.blt j b h6)]; exact h8, h9⟩)
                cases hd : o.dst with
                | none => exact hp2
                | some d =>
                  refine hp2.put (fun hl => ?_) (fun he => ?_)
                  · rcases S.looks j i oj o d hoj ho (Ne.symm hji) hd hl with h1 | ⟨_, h1⟩
                    · exact S.noLater hc hilt j oj hoj hj h1
                    · rw [hbij] at h1; cases h1
                  · have := (S.dsts j i oj o d hoj ho (Ne.symm hji) hd he).1
                    rw [haj] at this; cases this
              · simp only [List.mem_singleton] at hj
                subst hj
                rw [hself] at hunj; cases hunj
          have hD2 : ∀ j, (D.setIfInBounds i true).getD j false = true → j ∈ pre ++ [i] := by
            intro j hj
            by_cases e : i = j
            · subst e; simp
            · rw [hne j e] at hj; simp [hD j hj]
          obtain ⟨pre2, rest2, fl2, β2, a2, s2, g1, g2, g3, g4, g5, g6, g7, g8⟩ := dinv_advance S hsz' hDown' r (pre ++ [i]) fl β (a.put o.dst v) s' (by rw [hc]; simp) h2 hI2 hD2
          refine ih (D.setIfInBounds i true) pre2 rest2 fl2 β2 ρ' a2 s2 _ w' g1 hsz' hcnt' hDown' g4 g5 g2 g3 ((hE.trans hE2).trans g6) (fun j b hb => ?_)
          rcases g8 j b hb with g8 | g8
          · exact hβ j b g8
          · have := hE.next; have := hE2.next; omega
        split at h
        · exact h.elim
        · rename_i hw
          rw [hwant _ hw]
          simp only [Bool.false_eq_true, if_false]
          rw [hact] at h
          simp only [if_true] at h
          exact hnext undef undef s w ρ h (fun f hf hb hs => hs) (VRel.undef _) hI.rel (Ext.refl _ _)
        · rename_i hw
          rw [hwant _ hw]
          simp only [if_true]
          split at h
          case h_2 => exact h.elim
          rename_i hop
          rw [hact] at h
          simp only [if_true] at h
          left
          refine cstep_sound h hI.rel (hops hop) hI.d' ?_
          intro v s' v' w' ρ' hk hv hR2 hE2
          obtain ⟨hk1, hk2⟩ := stillAll_spec _ hk
          exact hnext v v' s' w' ρ' hk1 (fun f hf hb _ => hk2 f (List.mem_filter.2 ⟨hf, by rw [hb]; rfl⟩)) hv hR2 hE2
      · -- it does not act: the clean run has done it
        have hact : acts P o = false := by simpa using hact
        have hipre : i ∈ pre := by
          have hic : i ∈ canon := (S.mem i).2 hilt
          rw [hc, List.mem_append] at hic
          rcases hic with hic | hic
          · exact hic
          · exfalso
            cases rest with
            | nil => cases hic
            | cons k r =>
              have hk : k < ops.size := (S.mem k).1 (by rw [hc]; simp)
              have hok : ops[k]? = some ops[k] := by simp
              have hka := hhead k r _ rfl hok
              rcases List.mem_cons.1 hic with e | hic
              · subst e
                rw [ho] at hok; cases hok
                rw [hka] at hact; cases hact
              · have hb := S.later pre k r _ hc hok hka i hic
                have hkD := hchain k hb hk
                have h2 := S.nodup
                rw [hc, List.nodup_append] at h2
                exact absurd rfl (h2.2.2 k (hD k hkD) k (by simp))
        obtain ⟨oi, hoi, _, ev0, val, g1, g2, g3⟩ := hI.pend i hipre hun
        rw [ho] at hoi; cases hoi
        have hnext : ∀ (v' : Value) (w' : World) (ρ' : Ren), VRel ρ' val v' → Rel P w0 ρ' s w' → ρ.le ρ' → Ext ρ0 s0 ρ' s → (∀ j b, j ≠ i → β j = some b → ρ b = none → ρ' b = none) →
            wpAny P .any ops (DPost P w0 ρ0 s0 Q) fuel (D.setIfInBounds i true) (a'.put o.dst v') w' := by
          intro v' w' ρ' hv hR2 hle hE2 hnone
          refine ih (D.setIfInBounds i true) pre rest fl β ρ' a s (a'.put o.dst v') w' hc hsz' hcnt' hDown' (fun j hj => ?_) hhead h ⟨hR2, by rw [put_size]; exact hI.size, hI.d, ?_, fun t ht => ?_, fun j hj hunj => ?_, hI.inj, hI.blt, hI.bpre⟩ hE2 hβ
          · by_cases e : i = j
            · subst e; exact hipre
            · rw [hne j e] at hj; exact hD j hj
          · unfold Act.put; split <;> exact hI.d'
          · by_cases e : o.dst = some t
            · rw [e]
              simp only [Act.put]
              rw [Array.getD_eq_getD_getElem? (xs := a'.tmps.setIfInBounds t v'), Array.getElem?_setIfInBounds, if_pos rfl]
              by_cases hlt : t < a.tmps.size
              · rw [if_pos (by rw [← hI.size]; exact hlt), g2 t e hlt]; exact hv
              · rw [if_neg (by rw [← hI.size]; exact hlt)]
                have : a.tmps.getD t undef = undef := by simp [Array.getD, hlt]
                rw [this]; exact VRel.undef _
            · have h3 := (hI.tm t (fun j hj oj hoj hunj => by
                by_cases e2 : i = j
                · subst e2; rw [ho] at hoj; cases hoj; exact e
                · exact ht j hj oj hoj (by rw [hne j e2]; exact hunj))).mono hle
              cases hd : o.dst with
              | none => exact h3
              | some d =>
                have : d ≠ t := fun e2 => e (by rw [hd, e2])
                rw [put_getD this]; exact h3
          · have hji : i ≠ j := by intro e; subst e; rw [hself] at hunj; cases hunj
            rw [hne j hji] at hunj
            obtain ⟨oj, hoj, haj, ev1, val1, f1, f2, f3⟩ := hI.pend j hj hunj
            refine ⟨oj, hoj, haj, ev1, val1, f1, f2, ?_⟩
            rcases f3 with f3 | ⟨f3, f4, f5⟩
            · exact .inl f3
            · refine .inr ⟨f3, f4, ?_⟩
              rcases f5 with f5 | f5 | ⟨B, g, b, f5, f6, f7, f8, f9⟩
              · exact .inl f5
              · exact .inr (.inl f5)
              · exact .inr (.inr ⟨B, g, b, f5, f6, f7, hnone j b (Ne.symm hji) f6 f8, f9⟩)
        rcases g3 with ⟨hw, rfl⟩ | ⟨hw, hop, g3⟩
        · rw [hwant _ hw]
          simp only [Bool.false_eq_true, if_false]
          exact hnext undef w ρ (VRel.undef _) hI.rel ρ.le_refl hE (fun _ _ _ _ h => h)
        · rw [hwant _ hw]
          simp only [if_true]
          left
          have hev : ∀ x ∈ o.op.operands, VRel ρ (ev0 x) (a'.eval x) := by
            intro x hx
            rw [← g1 x hx]
            exact hops hop x hx
          unfold Oper.wp
          rcases g3 with g3 | ⟨g3, _⟩ | ⟨B, g, b, g3, g4, g5, g6, rfl⟩
          · obtain ⟨v', h1, h2⟩ := cpure_sound (ev' := a'.eval) g3 hev w
            rw [h1]
            exact hnext v' w ρ h2 hI.rel ρ.le_refl hE (fun _ _ _ _ h => h)
          · obtain ⟨v', h1, h2⟩ := cread_sound (ev' := a'.eval) g3 hI.rel hev
            rw [h1]
            exact hnext v' w ρ h2 hI.rel ρ.le_refl hE (fun _ _ _ _ h => h)
          · obtain ⟨obj, bi, n, v', h1, h2, h3⟩ := calloc_sound (ev' := a'.eval) (w := w) g3 hev (fun _ => trivial)
            obtain ⟨h4, h5⟩ := h3 b g6
            have hR2 := (hI.rel.drew n).place (hI.blt i b g4) g6 g5 h2 h4
            rw [h1]
            refine hnext v' _ (ρ.add b bi) h5 hR2 (Ren.le_add g6) ?_ (fun j b' hji hb' hn => ?_)
            · have hb0 := hβ i b g4
              exact ⟨fun x y hx => Ren.le_add g6 _ _ (hE.le _ _ hx), fun x hx => by unfold Ren.add; rw [if_neg (by omega)]; exact hE.old x hx, hE.next, hE.unr⟩
            · unfold Ren.add
              rw [if_neg]
              · exact hn
              · intro e; subst e; exact hji (hI.inj _ _ _ hb' g4)

/-- A region that draws its order. -/
theorem cwp_regionD {id : Nat} {ops : Array Oper} {canon : List Nat} {Q : Exit → Act → St M → Prop} {a : Act} {s : St M} (hm : P.follows .mixedOrders = true) (hc : drawOk P ops canon = true)
    (h : cregionD P w0 ops (Region.before ops) (fun a s => Q .normal a s) canon [] a s) : CWp P w0 (.region id ops true) Q a s := by
  intro ρ a' w hR ha
  have S := stat_of hc
  refine wp_mono (wp_region_any hm (Q := DPost P w0 ρ s (fun a s => Q .normal a s)) ?_) ?_
  · have hRd := hR.drew (w.drawn + 1)
    have hfalse : ∀ i, (Array.replicate ops.size false).getD i false = false := by
      intro i
      rw [Array.getD_eq_getD_getElem?, Array.getElem?_replicate]
      split <;> rfl
    have hI : DInv P w0 ops (Array.replicate ops.size false) [] [] (fun _ => none) ρ a s a' { w with drawn := w.drawn + 1 } :=
      ⟨hRd, ha.tmps.1, ha.d, ha.d', fun t _ => ha.tmps.getD t, fun i hi => (by cases hi), fun _ _ _ h => (by cases h), fun _ _ h => (by cases h), fun _ _ h => (by cases h)⟩
    have hdown : Down ops (Array.replicate ops.size false) := fun i o _ hi => by rw [hfalse i] at hi; cases hi
    have hD : ∀ i, (Array.replicate ops.size false).getD i false = true → i ∈ ([] : List Nat) := fun i hi => by rw [hfalse i] at hi; cases hi
    obtain ⟨pre2, rest2, fl2, β2, a2, s2, g1, g2, g3, g4, g5, g6, g7, g8⟩ := dinv_advance S (by simp) hdown canon [] [] (fun _ => none) a s rfl h hI hD
    refine draw_any S ops.size (Array.replicate ops.size false) pre2 rest2 fl2 β2 ρ a2 s2 a' _ g1 (by simp) ?_ hdown g4 g5 g2 g3 g6 (fun j b hb => ?_)
    · have : ∀ (D : Array Bool) n, cnt D n ≤ n := by
        intro D n
        induction n with
        | zero => simp [cnt]
        | succ n ih => simp only [cnt]; split <;> omega
      exact this _ _
    · rcases g8 j b hb with g8 | g8
      · cases g8
      · exact g8
  · rintro e a2' w2 ⟨rfl, a2, s2, ρ2, h1, h2, h3, h4⟩
    exact ⟨a2, s2, ρ2, h1, by simp, by simp, h2, h3, h4⟩
end
end Go.Cs
