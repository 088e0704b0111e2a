/- HP0, HP1, HP2, HP3, HP4, HP5, HP6, HP7, HP8, laid one behind the other. A lemma file: no statement of its own. -/
import Derived.Test.YtnkichmojbanlaaqFwF
import Derived.Test.YtnkichmojbanlaaqFOM
import Derived.Test.YtnkichmojbanlaaqNamesA
import Derived.Test.YtnkichmojbanlaaqEx0
set_option linter.unusedSimpArgs false
set_option linter.unusedVariables false
set_option linter.unusedSectionVars false
namespace Go.Proofs.Try
open Go.Cs
open Go.RowKit (Below)
set_option maxRecDepth 100000
structure Ob where
  L : List (ByteArray × V3)
  shape : Nat
  proto : Nat
  epoch : Nat
structure Hp where
  obs : List Ob
  F : List Sh
  T : List ByteArray
  most : Nat
  maxO : Nat
  maxP : Nat
def HPro (H : Hp) : Prop := ∀ (i : Nat) (o : Ob), H.obs[i]? = some o → 0 < o.shape → ∃ l, H.F[o.shape - 1]? = some (o.proto, l)
def obAt (H : Hp) (o : Int) : Option Ob := if 1 ≤ o then H.obs[o.toNat - 1]? else none
def txt (T : List ByteArray) (i : Nat) : ByteArray := T.getD (i - 1) ⟨#[]⟩
def ofI (T : List ByteArray) (x : ByteArray) : Nat := match idxOf T x with
  | some j => j + 1
  | none => T.length + 1
theorem obAt_get {H : Hp} {j : Nat} : obAt H ((j + 1 : Nat) : Int) = H.obs[j]? := by
  unfold obAt
  rw [if_pos (by omega)]
  congr 1
theorem obAt_none {H : Hp} {o : Int} : obAt H o = none ↔ ¬ (1 ≤ o ∧ o ≤ H.obs.length) := by
  unfold obAt
  split
  · rw [List.getElem?_eq_none_iff]; omega
  · simp; omega
theorem obAt_some {H : Hp} {o : Int} {ob : Ob} (h : obAt H o = some ob) : ∃ j : Nat, o = ((j + 1 : Nat) : Int) ∧ j < H.obs.length ∧ H.obs[j]? = some ob := by
  unfold obAt at h
  split at h
  · refine ⟨o.toNat - 1, by omega, (List.getElem?_eq_some_iff.1 h).1, h⟩
  · cases h
structure HOk (H : Hp) : Prop where
  nodup : H.T.Nodup
  ids : ∀ (i : Nat) (t : Sh), H.F[i]? = some t → ∀ x ∈ t.2, 1 ≤ x ∧ x ≤ H.T.length
  fits : ∀ (i : Nat) (o : Ob), H.obs[i]? = some o → 0 < o.shape → ∃ q l, H.F[o.shape - 1]? = some (q, l) ∧ l.reverse.map (txt H.T) = o.L.map (·.1)
  keys : ∀ (i : Nat) (o : Ob), H.obs[i]? = some o → (o.L.map (·.1)).Nodup
  lens : ∀ (i : Nat) (o : Ob), H.obs[i]? = some o → o.L.length ≤ H.maxP
  up : ∃ d : Nat → Nat, ∀ (i : Nat) (o : Ob), H.obs[i]? = some o → o.proto = 0 ∨ o.proto ≤ H.obs.length ∧ d o.proto < d (i + 1)
  lim : H.maxP ≤ 32 ∧ H.obs.length ≤ H.maxO ∧ H.maxO ≤ 200
theorem idx_of_get : ∀ {T : List ByteArray}, T.Nodup → ∀ {j : Nat} {x : ByteArray}, T[j]? = some x → idxOf T x = some j := by
  intro T
  induction T with
  | nil => intro _ j x h; simp at h
  | cons y T ih =>
    intro hn j x h
    simp only [List.nodup_cons] at hn
    unfold idxOf
    cases j with
    | zero => simp at h; rw [if_pos h]
    | succ j =>
      have h : T[j]? = some x := by simpa using h
      rw [if_neg (fun e => hn.1 (by rw [e]; exact List.mem_of_getElem? h)), ih hn.2 h]
      rfl
theorem idx_none : ∀ {T : List ByteArray} {x : ByteArray}, idxOf T x = none → x ∉ T := by
  intro T
  induction T with
  | nil => intro x _; simp
  | cons y T ih =>
    intro x h
    unfold idxOf at h
    split at h
    · cases h
    · rename_i e
      have h := Option.map_eq_none_iff.1 h
      intro hm
      rcases List.mem_cons.1 hm with e2 | hm
      · exact e e2.symm
      · exact ih h hm
theorem txt_get {T : List ByteArray} {i : Nat} (h1 : 1 ≤ i) (h2 : i ≤ T.length) : T[i - 1]? = some (txt T i) := by
  unfold txt
  rw [List.getElem?_eq_getElem (by omega), List.getD_eq_getElem?_getD, List.getElem?_eq_getElem (by omega)]; rfl
theorem ofT_some {T : List ByteArray} {x : ByteArray} {j : Nat} (h : idxOf T x = some j) : ofT T x = T := by unfold ofT; rw [h]
theorem ofT_none {T : List ByteArray} {x : ByteArray} (h : idxOf T x = none) : ofT T x = T ++ [x] := by unfold ofT; rw [h]
theorem ofN_eq (T : List ByteArray) (x : ByteArray) : ofN T x = (ofI T x : Int) := by
  unfold ofN ofI
  cases idxOf T x <;> simp
theorem ofT_nodup {T : List ByteArray} (h : T.Nodup) (x : ByteArray) : (ofT T x).Nodup := by
  cases hi : idxOf T x with
  | some j => rw [ofT_some hi]; exact h
  | none =>
    rw [ofT_none hi, List.nodup_append]
    refine ⟨h, by simp, fun a ha b hb e => ?_⟩
    simp at hb
    subst hb; subst e
    exact idx_none hi ha
theorem ofT_len (T : List ByteArray) (x : ByteArray) : T.length ≤ (ofT T x).length ∧ (ofT T x).length ≤ T.length + 1 := by
  cases hi : idxOf T x with
  | some j => rw [ofT_some hi]; omega
  | none => rw [ofT_none hi]; simp
theorem ofT_get {T : List ByteArray} {j : Nat} {y : ByteArray} (x : ByteArray) (h : T[j]? = some y) : (ofT T x)[j]? = some y := by
  cases hi : idxOf T x with
  | some j => rw [ofT_some hi]; exact h
  | none => rw [ofT_none hi, List.getElem?_append_left (List.getElem?_eq_some_iff.1 h).1]; exact h
theorem ofT_txt {T : List ByteArray} {i : Nat} (x : ByteArray) (h1 : 1 ≤ i) (h2 : i ≤ T.length) : txt (ofT T x) i = txt T i := by
  have := txt_get (T := ofT T x) h1 (by have := ofT_len T x; omega)
  rw [ofT_get x (txt_get h1 h2)] at this
  exact (Option.some.inj this).symm
theorem ofI_ok (T : List ByteArray) (x : ByteArray) : 1 ≤ ofI T x ∧ ofI T x ≤ (ofT T x).length ∧ txt (ofT T x) (ofI T x) = x := by
  unfold ofI
  cases hi : idxOf T x with
  | some j =>
    rw [ofT_some hi]
    have := idx_lt hi
    refine ⟨by simp, by simp only; omega, ?_⟩
    unfold txt
    simp only [Nat.add_sub_cancel]
    rw [List.getD_eq_getElem?_getD, this.2]; rfl
  | none =>
    rw [ofT_none hi]
    refine ⟨by simp, by simp, ?_⟩
    unfold txt
    simp
theorem getP_some : ∀ {L : List (ByteArray × V3)} {x : ByteArray} {v : V3}, getP L x = some v → ∃ k : Nat, L[k]? = some (x, v) := by
  intro L
  induction L with
  | nil => intro x v h; cases h
  | cons p L ih =>
    intro x v h
    obtain ⟨y, w⟩ := p
    unfold getP at h
    split at h
    · rename_i e; cases h; exact ⟨0, by simp [e]⟩
    · obtain ⟨k, hk⟩ := ih h
      exact ⟨k + 1, by simpa using hk⟩
theorem getP_get : ∀ {L : List (ByteArray × V3)}, (L.map (·.1)).Nodup → ∀ {k : Nat} {x : ByteArray} {v : V3}, L[k]? = some (x, v) → getP L x = some v := by
  intro L
  induction L with
  | nil => intro _ k x v h; simp at h
  | cons p L ih =>
    intro hn k x v h
    obtain ⟨y, w⟩ := p
    simp only [List.map_cons, List.nodup_cons] at hn
    unfold getP
    cases k with
    | zero => simp at h; rw [if_pos h.1, h.2]
    | succ k =>
      have h : L[k]? = some (x, v) := by simpa using h
      rw [if_neg (fun e => hn.1 (by rw [e]; exact List.mem_map_of_mem (f := (·.1)) (List.mem_of_getElem? h)))]
      exact ih hn.2 h
theorem getP_none {L : List (ByteArray × V3)} {x : ByteArray} : getP L x = none ↔ x ∉ L.map (·.1) := by
  induction L with
  | nil => simp [getP]
  | cons p L ih =>
    obtain ⟨y, w⟩ := p
    unfold getP
    by_cases e : y = x
    · simp [e]
    · rw [if_neg e, ih]
      simp only [List.map_cons, List.mem_cons, not_or]
      exact ⟨fun h => ⟨fun e2 => e e2.symm, h⟩, fun h => h.2⟩
theorem setP_some : ∀ {L : List (ByteArray × V3)} {x : ByteArray} {v w : V3} {k : Nat}, (L.map (·.1)).Nodup → L[k]? = some (x, w) → setP L x v = L.set k (x, v) := by
  intro L
  induction L with
  | nil => intro x v w k _ h; simp at h
  | cons p L ih =>
    intro x v w k hn h
    obtain ⟨y, u⟩ := p
    simp only [List.map_cons, List.nodup_cons] at hn
    unfold setP
    cases k with
    | zero => simp at h; rw [if_pos h.1]; rfl
    | succ k =>
      have h : L[k]? = some (x, w) := by simpa using h
      rw [if_neg (fun e => hn.1 (by rw [e]; exact List.mem_map_of_mem (f := (·.1)) (List.mem_of_getElem? h))), ih hn.2 h]
      rfl
theorem keys_set {L : List (ByteArray × V3)} {k : Nat} {x : ByteArray} {w v : V3} (h : L[k]? = some (x, w)) : (L.set k (x, v)).map (·.1) = L.map (·.1) := by
  rw [List.map_set]
  apply List.ext_getElem?
  intro i
  rw [List.getElem?_set]
  split
  · rename_i e
    subst e
    have := (List.getElem?_eq_some_iff.1 h).1
    rw [List.getElem?_map, h]
    simp [this]
  · rfl
theorem slotL_get : ∀ {l : List Nat} {x k : Nat}, slotL l x = (k : Int) → l.reverse[k]? = some x := by
  intro l
  induction l with
  | nil => intro x k h; simp only [slotL] at h; omega
  | cons y r ih =>
    intro x k h
    unfold slotL at h
    rw [List.reverse_cons]
    split at h
    · rename_i e
      have : k = r.length := by omega
      subst this
      rw [List.getElem?_append_right (by simp)]
      simp [e]
    · have := ih h
      rw [List.getElem?_append_left (List.getElem?_eq_some_iff.1 this).1]
      exact this
theorem slotL_ge (l : List Nat) (x : Nat) : -1 ≤ slotL l x := by
  induction l with
  | nil => simp [slotL]
  | cons y r ih => unfold slotL; split <;> omega
def slotOf (H : Hp) (id : Int) (x : ByteArray) : Int := match idxOf H.T x with
  | none => -1
  | some j => slotL (namesOf H.F id) (j + 1)
theorem namesOf_at {F : List Sh} {n : Nat} {t : Sh} (hn : 0 < n) (h : F[n - 1]? = some t) : namesOf F (n : Int) = t.2 := by
  unfold namesOf shAt
  rw [if_pos (by omega), Int.toNat_natCast, h]
theorem shAt_at {F : List Sh} {n : Nat} (hn : 0 < n) : shAt F (n : Int) = F[n - 1]? := by
  unfold shAt
  rw [if_pos (by omega), Int.toNat_natCast]
theorem slot_fits {H : Hp} (h : HOk H) {i : Nat} {o : Ob} (ho : H.obs[i]? = some o) (hs : 0 < o.shape) (x : ByteArray) :
    (slotOf H o.shape x = -1 ∧ getP o.L x = none) ∨ ∃ (k : Nat) (v : V3), slotOf H o.shape x = (k : Int) ∧ o.L[k]? = some (x, v) ∧ getP o.L x = some v := by
  obtain ⟨q0, l, h1, h2⟩ := h.fits i o ho hs
  have hl : namesOf H.F (o.shape : Int) = l := namesOf_at hs h1
  have hno : ∀ (k : Nat) (v : V3), o.L[k]? = some (x, v) → ∃ n, l.reverse[k]? = some n ∧ idxOf H.T x = some (n - 1) ∧ 1 ≤ n := by
    intro k v hk
    have : (l.reverse.map (txt H.T))[k]? = some x := by rw [h2, List.getElem?_map, hk]; rfl
    rw [List.getElem?_map] at this
    obtain ⟨n, hn, e⟩ := Option.map_eq_some_iff.1 this
    have hm : n ∈ l := by
      have := List.mem_of_getElem? hn
      simpa using this
    obtain ⟨g1, g2⟩ := h.ids _ _ h1 n hm
    refine ⟨n, hn, idx_of_get h.nodup ?_, g1⟩
    rw [txt_get g1 g2, e]
  unfold slotOf
  cases hi : idxOf H.T x with
  | none =>
    left
    refine ⟨rfl, ?_⟩
    cases hg : getP o.L x with
    | none => rfl
    | some v =>
      obtain ⟨k, hk⟩ := getP_some hg
      obtain ⟨n, _, h3, _⟩ := hno k v hk
      rw [hi] at h3; cases h3
  | some j =>
    simp only
    rw [hl]
    by_cases hneg : slotL l (j + 1) < 0
    · left
      refine ⟨by have := slotL_ge l (j + 1); omega, ?_⟩
      cases hg : getP o.L x with
      | none => rfl
      | some v =>
        obtain ⟨k, hk⟩ := getP_some hg
        obtain ⟨n, h3, h4, h5⟩ := hno k v hk
        rw [hi] at h4
        have : n = j + 1 := by have := Option.some.inj h4; omega
        have hm : n ∈ l := by
          have := List.mem_of_getElem? h3
          simpa using this
        exact absurd (this ▸ hm) ((slotL_neg l (j + 1)).1 hneg)
    · right
      obtain ⟨k, hk⟩ : ∃ k : Nat, slotL l (j + 1) = (k : Int) := ⟨(slotL l (j + 1)).toNat, by omega⟩
      have h3 := slotL_get hk
      have h4 : (o.L.map (·.1))[k]? = some x := by
        rw [← h2, List.getElem?_map, h3]
        show some (txt H.T (j + 1)) = some x
        have := idx_lt hi
        rw [← txt_get (T := H.T) (by omega) (by omega), Nat.add_sub_cancel, this.2]
      rw [List.getElem?_map] at h4
      obtain ⟨⟨y, v⟩, h5, h6⟩ := Option.map_eq_some_iff.1 h4
      simp only at h6
      subst h6
      exact ⟨k, v, hk, h5, getP_get (h.keys i o ho) h5⟩
theorem up_same {l : List Ob} {i : Nat} {o o' : Ob} (hi : l[i]? = some o) (hp : o'.proto = o.proto) (h : ∃ d : Nat → Nat, ∀ (j : Nat) (o : Ob), l[j]? = some o → o.proto = 0 ∨ o.proto ≤ l.length ∧ d o.proto < d (j + 1)) :
    ∃ d : Nat → Nat, ∀ (j : Nat) (u : Ob), (l.set i o')[j]? = some u → u.proto = 0 ∨ u.proto ≤ (l.set i o').length ∧ d u.proto < d (j + 1) := by
  obtain ⟨d, h⟩ := h
  refine ⟨d, fun j u hu => ?_⟩
  rw [List.length_set]
  rw [List.getElem?_set] at hu
  split at hu
  · rename_i e
    subst e
    split at hu
    · cases hu; rw [hp]; exact h i o hi
    · cases hu
  · exact h j u hu
theorem HOk.upd {H : Hp} (h : HOk H) {i : Nat} {o o' : Ob} (hi : H.obs[i]? = some o) {F' : List Sh} {T' : List ByteArray} (hF : ∀ (j : Nat) (t : Sh), H.F[j]? = some t → F'[j]? = some t) (hT : ∀ (j : Nat), 1 ≤ j → j ≤ H.T.length → txt T' j = txt H.T j) (hTl : H.T.length ≤ T'.length) (hTn : T'.Nodup)
    (hids : ∀ (i : Nat) (t : Sh), F'[i]? = some t → ∀ x ∈ t.2, 1 ≤ x ∧ x ≤ T'.length) (hfit : 0 < o'.shape → ∃ q l, F'[o'.shape - 1]? = some (q, l) ∧ l.reverse.map (txt T') = o'.L.map (·.1)) (hkeys : (o'.L.map (·.1)).Nodup) (hlen : o'.L.length ≤ H.maxP)
    (hup : ∃ d : Nat → Nat, ∀ (j : Nat) (u : Ob), (H.obs.set i o')[j]? = some u → u.proto = 0 ∨ u.proto ≤ (H.obs.set i o').length ∧ d u.proto < d (j + 1)) :
    HOk { H with obs := H.obs.set i o', F := F', T := T' } := by
  refine ⟨hTn, hids, fun j u hu hs => ?_, fun j u hu => ?_, fun j u hu => ?_, hup, by simpa using h.lim⟩
  · simp only [List.getElem?_set] at hu
    split at hu
    · split at hu
      · cases hu; exact hfit hs
      · cases hu
    · obtain ⟨q0, l, h1, h2⟩ := h.fits j u hu hs
      refine ⟨q0, l, hF _ _ h1, ?_⟩
      rw [← h2]
      apply List.map_congr_left
      intro n hn
      have := h.ids _ _ h1 n (by simpa using hn)
      exact hT n this.1 this.2
  · simp only [List.getElem?_set] at hu
    split at hu
    · split at hu
      · cases hu; exact hkeys
      · cases hu
    · exact h.keys j u hu
  · simp only [List.getElem?_set] at hu
    split at hu
    · split at hu
      · cases hu; exact hlen
      · cases hu
    · exact h.lens j u hu
theorem HOk.more {H : Hp} (h : HOk H) {F' : List Sh} {T' : List ByteArray} (hF : ∀ (j : Nat) (t : Sh), H.F[j]? = some t → F'[j]? = some t) (hT : ∀ (j : Nat), 1 ≤ j → j ≤ H.T.length → txt T' j = txt H.T j) (hTl : H.T.length ≤ T'.length) (hTn : T'.Nodup)
    (hids : ∀ (i : Nat) (t : Sh), F'[i]? = some t → ∀ x ∈ t.2, 1 ≤ x ∧ x ≤ T'.length) : HOk { H with F := F', T := T' } := by
  refine ⟨hTn, hids, fun j u hu hs => ?_, h.keys, h.lens, h.up, h.lim⟩
  obtain ⟨q0, l, h1, h2⟩ := h.fits j u hu hs
  refine ⟨q0, l, hF _ _ h1, ?_⟩
  rw [← h2]
  apply List.map_congr_left
  intro n hn
  have := h.ids _ _ h1 n (by simpa using hn)
  exact hT n this.1 this.2
theorem growF_get {F : List Sh} {most : Nat} {t u : Sh} {j : Nat} (h : F[j]? = some u) : (growF F most t)[j]? = some u := by
  unfold growF
  split
  · exact h
  · split
    · rw [List.getElem?_append_left (List.getElem?_eq_some_iff.1 h).1]; exact h
    · exact h
theorem growF_mem {F : List Sh} {most : Nat} {t u : Sh} {j : Nat} (h : (growF F most t)[j]? = some u) : F[j]? = some u ∨ u = t := by
  unfold growF at h
  split at h
  · exact .inl h
  · split at h
    · by_cases hj : j < F.length
      · rw [List.getElem?_append_left hj] at h; exact .inl h
      · rw [List.getElem?_append_right (by omega)] at h
        have h0 : j - F.length = 0 := by
          have := (List.getElem?_eq_some_iff.1 h).1
          simp at this; omega
        rw [h0] at h
        simp at h
        exact .inr h.symm
    · exact .inl h
theorem growN_get {F : List Sh} {most : Nat} {t : Sh} (h : 0 < growN F most t) : (growF F most t)[growN F most t - 1]? = some t := by
  unfold growN growF at *
  by_cases hm : t ∈ F
  · simp only [if_pos hm, Nat.add_sub_cancel]
    have := List.idxOf_lt_length_of_mem hm
    rw [List.getElem?_eq_getElem this, List.getElem_idxOf this]
  · simp only [if_neg hm] at h ⊢
    split at h
    · rename_i hl; simp [hl]
    · omega
theorem addF_get {F : List Sh} {most x : Nat} {i : Int} {u : Sh} {j : Nat} (h : F[j]? = some u) : (addF F most i x)[j]? = some u := by
  unfold addF
  split
  · exact h
  · split
    · exact h
    · exact growF_get h
theorem addF_mem {F : List Sh} {most x : Nat} {i : Int} {u : Sh} {j : Nat} (h : (addF F most i x)[j]? = some u) : F[j]? = some u ∨ ∃ t, shAt F i = some t ∧ u = (t.1, x :: t.2) := by
  unfold addF at h
  split at h
  · exact .inl h
  · rename_i t ht
    split at h
    · exact .inl h
    · rcases growF_mem h with h | h
      · exact .inl h
      · exact .inr ⟨t, ht, h⟩
theorem addN_get {F : List Sh} {most x : Nat} {i : Int} (h : 0 < addN F most i x) : ∃ t, shAt F i = some t ∧ (addF F most i x)[addN F most i x - 1]? = some (t.1, x :: t.2) := by
  unfold addN addF at *
  split at h
  · omega
  · rename_i t ht
    split at h
    · omega
    · rename_i hc
      refine ⟨t, by first | rfl | exact ht, ?_⟩
      simp only [if_neg hc]
      exact growN_get h
theorem shAt_mem {F : List Sh} {i : Int} {t : Sh} (h : shAt F i = some t) : ∃ j : Nat, F[j]? = some t := by
  unfold shAt at h
  split at h
  · exact ⟨_, h⟩
  · cases h
theorem addF_ids {F : List Sh} {most x m : Nat} {i : Int} (h : ∀ (j : Nat) (t : Sh), F[j]? = some t → ∀ y ∈ t.2, 1 ≤ y ∧ y ≤ m) (hx : 1 ≤ x ∧ x ≤ m) : ∀ (j : Nat) (t : Sh), (addF F most i x)[j]? = some t → ∀ y ∈ t.2, 1 ≤ y ∧ y ≤ m := by
  intro j t ht y hy
  rcases addF_mem ht with h1 | ⟨u, hu, rfl⟩
  · exact h j t h1 y hy
  · rcases List.mem_cons.1 hy with rfl | hy
    · exact hx
    · obtain ⟨k, hk⟩ := shAt_mem hu
      exact h k u hk y hy
end Go.Proofs.Try
set_option linter.unusedSimpArgs false
set_option linter.unusedVariables false
set_option linter.unusedSectionVars false
namespace Go.Proofs.Try
open Go.Cs
open Go.RowKit (Below)
set_option maxRecDepth 100000
attribute [local irreducible] CCalls WLoop WScope CRound WRange
theorem as_ss (v : Value) : cassert Try.prog (.iface 73 v) 73 true = some (.tuple #[v, .bool true]) := by kernel_rfl
theorem as_sl (v : Value) : cassert Try.prog (.iface 73 v) 67 true = some (.tuple #[.agg #[.pointer none], .bool false]) := by kernel_rfl
theorem as_ls (v : Value) : cassert Try.prog (.iface 67 v) 73 true = some (.tuple #[.pointer none, .bool false]) := by kernel_rfl
theorem as_ll (v : Value) : cassert Try.prog (.iface 67 v) 67 true = some (.tuple #[v, .bool true]) := by kernel_rfl
theorem bVal0 : cbuild Try.prog 37 #[] = some (.agg #[.int .i64 0, .int .i64 0, .string ⟨#[]⟩]) := by kernel_rfl
set_option linter.defProp false in
def HEx := (And.intro (And.intro (And.intro (And.intro (And.intro (And.intro (And.intro @underlying3 (And.intro @underlying4 @underlying9)) (And.intro @underlying37 (And.intro @is37 @ag37))) (And.intro (And.intro @ce37 (And.intro @fa37x0 @fa37x1)) (And.intro (And.intro @fa37x2 @ag3) (And.intro @ce3 @ag9)))) (And.intro (And.intro (And.intro @ce9 (And.intro @underlying5 @underlying32)) (And.intro @underlying0 (And.intro @be4 @bn4))) (And.intro (And.intro @sz3 (And.intro @sz124 @ce124)) (And.intro (And.intro @ze3 @sz138) (And.intro @underlying159 @underlying125))))) (And.intro (And.intro (And.intro (And.intro @underlying124 (And.intro @underlying55 @ag55)) (And.intro @ag125 (And.intro @ag124 @nf159))) (And.intro (And.intro @nt159 (And.intro @ng159 @nn159)) (And.intro (And.intro @nf55 @nf124) (And.intro @nt124 @fa127x0)))) (And.intro (And.intro (And.intro @fa127x1 (And.intro @fa127x2 @fa138x0)) (And.intro @fa138x1 (And.intro @fa138x2 @fa138x3))) (And.intro (And.intro @fa138x4 (And.intro @is3 @sz9)) (And.intro (And.intro @is9 @ze9) (And.intro @sz4 @is4)))))) (And.intro (And.intro (And.intro (And.intro (And.intro @ce4 (And.intro @ag4 @ze4)) (And.intro @sz32 (And.intro @is32 @ce32))) (And.intro (And.intro @ag32 (And.intro @ze32 @sz37)) (And.intro (And.intro @ze37 @underlying62) (And.intro @sz62 @is62)))) (And.intro (And.intro (And.intro @ce62 (And.intro @ag62 @ze62)) (And.intro @fa62x0 (And.intro @fa62x1 @fa62x2))) (And.intro (And.intro @fa62x3 (And.intro @fa62x4 @underlying28)) (And.intro (And.intro @sz28 @is28) (And.intro @ce28 @ag28))))) (And.intro (And.intro (And.intro (And.intro @ze28 (And.intro @nt28 @nn28)) (And.intro @nf28 (And.intro @ng28 @underlying60))) (And.intro (And.intro @sz60 (And.intro @is60 @ce60)) (And.intro (And.intro @ag60 @ze60) (And.intro @underlying63 @sz63)))) (And.intro (And.intro (And.intro @is63 (And.intro @ce63 @ag63)) (And.intro (And.intro @ze63 @nt63) (And.intro @nn63 @nf63))) (And.intro (And.intro @ng63 (And.intro @underlying71 @sz71)) (And.intro (And.intro @is71 @ce71) (And.intro @ag71 @ze71))))))) (And.intro (And.intro (And.intro (And.intro (And.intro (And.intro @fa71x0 (And.intro @fa71x1 @fa71x2)) (And.intro @underlying69 (And.intro @sz69 @is69))) (And.intro (And.intro @ce69 (And.intro @ag69 @ze69)) (And.intro (And.intro @underlying73 @sz73) (And.intro @is73 @ce73)))) (And.intro (And.intro (And.intro @ag73 (And.intro @ze73 @nt73)) (And.intro @nn73 (And.intro @nf73 @ng73))) (And.intro (And.intro @underlying76 (And.intro @sz76 @is76)) (And.intro (And.intro @ce76 @ag76) (And.intro @ze76 @fa76x0))))) (And.intro (And.intro (And.intro (And.intro @fa76x1 (And.intro @underlying67 @sz67)) (And.intro @is67 (And.intro @ce67 @ag67))) (And.intro (And.intro @ze67 (And.intro @fa67x0 @underlying74)) (And.intro (And.intro @sz74 @is74) (And.intro @ce74 @ag74)))) (And.intro (And.intro (And.intro @ze74 (And.intro @underlying64 @sz64)) (And.intro (And.intro @is64 @ce64) (And.intro @ag64 @ze64))) (And.intro (And.intro @nt64 (And.intro @nn64 @nf64)) (And.intro (And.intro @ng64 @sz55) (And.intro @is55 @ce55)))))) (And.intro (And.intro (And.intro (And.intro (And.intro @ze55 (And.intro @nt55 @nn55)) (And.intro @ng55 (And.intro @underlying57 @sz57))) (And.intro (And.intro @is57 (And.intro @ce57 @ag57)) (And.intro (And.intro @ze57 @nt57) (And.intro @nn57 @nf57)))) (And.intro (And.intro (And.intro @ng57 (And.intro @underlying99 @sz99)) (And.intro @is99 (And.intro @ce99 @ag99))) (And.intro (And.intro @underlying148 (And.intro @sz148 @is148)) (And.intro (And.intro @ce148 @ag148) (And.intro @underlying95 @sz95))))) (And.intro (And.intro (And.intro (And.intro @is95 (And.intro @ce95 @ag95)) (And.intro @underlying119 (And.intro @sz119 @is119))) (And.intro (And.intro @ce119 (And.intro @ag119 @underlying135)) (And.intro (And.intro @sz135 @is135) (And.intro @ce135 @ag135)))) (And.intro (And.intro (And.intro @underlying33 (And.intro @sz33 @is33)) (And.intro (And.intro @ce33 @ag33) (And.intro @o_assert @f_assert))) (And.intro (And.intro @o_mkIface (And.intro @f_mkIface @as_ss)) (And.intro (And.intro @as_sl @as_ls) (And.intro @as_ll @bVal0))))))))
def valC (p : ByteArray × V3) : List Value := [.int .i64 p.2.1, .int .i64 p.2.2.1, .string p.2.2.2]
def valsC (L : List (ByteArray × V3)) : List Value := L.flatMap valC
theorem valsC_len (L : List (ByteArray × V3)) : (valsC L).length = L.length * 3 := by
  induction L with
  | nil => rfl
  | cons p L ih =>
    show (valC p ++ valsC L).length = _
    rw [List.length_append, ih, List.length_cons]; show 3 + _ = _; omega
theorem valsC_app (L L2 : List (ByteArray × V3)) : valsC (L ++ L2) = valsC L ++ valsC L2 := by unfold valsC; simp
theorem valsC_cut : ∀ (L : List (ByteArray × V3)) (k : Nat) (x : ByteArray) (v : V3) (junk : List Value), L[k]? = some (x, v) → k * 3 + 3 ≤ (valsC L ++ junk).length ∧ List.take 3 (List.drop (k * 3) (valsC L ++ junk)) = [.int .i64 v.1, .int .i64 v.2.1, .string v.2.2] := by
  intro L
  induction L with
  | nil => intro k x v junk h; simp at h
  | cons p L ih =>
    intro k x v junk h
    cases k with
    | zero =>
      simp at h
      subst h
      exact ⟨by show 3 ≤ _; rw [List.length_append, valsC_len]; simp; omega, rfl⟩
    | succ k =>
      have h : L[k]? = some (x, v) := by simpa using h
      obtain ⟨h1, h2⟩ := ih k x v junk h
      have e : valsC (p :: L) ++ junk = valC p ++ (valsC L ++ junk) := by show (valC p ++ valsC L) ++ junk = _; rw [List.append_assoc]
      rw [e]
      refine ⟨by rw [List.length_append]; show _ ≤ 3 + _; omega, ?_⟩
      rw [show (k + 1) * 3 = 3 + k * 3 from by omega, ← List.drop_drop]
      exact h2
theorem valsC_set : ∀ (L : List (ByteArray × V3)) (k : Nat) (x : ByteArray) (v w : V3) (junk : List Value), L[k]? = some (x, w) → setCells (valsC L ++ junk) (k * 3) [.int .i64 v.1, .int .i64 v.2.1, .string v.2.2] = valsC (L.set k (x, v)) ++ junk := by
  intro L k x v w junk h
  have hl := (List.getElem?_eq_some_iff.1 h).1
  rw [setCells_eq _ _ _ (by rw [List.length_append, valsC_len]; simp; omega)]
  have e : L = L.take k ++ (x, w) :: L.drop (k + 1) := by
    rw [← (List.getElem?_eq_some_iff.1 h).2]; simp
  have e2 : L.set k (x, v) = L.take k ++ (x, v) :: L.drop (k + 1) := by rw [List.set_eq_take_append_cons_drop, if_pos hl]
  have hk : (valsC (L.take k)).length = k * 3 := by rw [valsC_len, List.length_take]; congr 1; omega
  have e3 : valsC L ++ junk = valsC (L.take k) ++ (valC (x, w) ++ (valsC (L.drop (k + 1)) ++ junk)) := by
    conv => lhs; rw [e]
    rw [valsC_app]
    show valsC (L.take k) ++ (valC (x, w) ++ valsC (L.drop (k + 1))) ++ junk = _
    simp only [List.append_assoc]
  rw [e2, valsC_app, e3]
  show _ = valsC (L.take k) ++ (valC (x, v) ++ valsC (L.drop (k + 1))) ++ junk
  rw [List.take_append_of_le_length (by omega), List.take_of_length_le (by omega), show k * 3 + [Value.int .i64 v.1, .int .i64 v.2.1, .string v.2.2].length = (valsC (L.take k)).length + 3 from by rw [hk]; rfl, List.drop_append]
  have hd : List.drop ((valsC (L.take k)).length + 3) (valsC (L.take k)) = [] := List.drop_eq_nil_of_le (by omega)
  rw [hd, Nat.add_sub_cancel_left, List.nil_append]
  simp only [List.append_assoc]
  rfl
section
variable {M : Type} [Mem M] {w0 : World} {s : St M} {R : Value → St M → Prop}
theorem DictAt.mono {lo : Nat} {s : St M} {p : Nat} {L : List (ByteArray × V3)} {N N' : Nat} {O : Nat → Prop} (h : DictAt lo s p L N O) (hN : N ≤ N') : DictAt lo s p L N' O := by
  obtain ⟨h1, h2, P, m, sl, es, clock, kv, h3, hP, h⟩ := h
  exact ⟨h1, h2, P, m, sl, es, clock, kv, h3, by omega, h⟩
structure ObAt (lo : Nat) (s : St M) (N : Nat) (b : Nat) (o : Ob) (O : Nat → Prop) : Prop where
  own : ∀ c, O c → lo ≤ c ∧ c < s.next
  pin : O b
  ep : o.epoch ≤ N
  bl : (o.shape = 0 ∧ ∃ pd OD, s.at' b = some (.cells [.iface 67 (.agg #[.pointer (some ⟨pd, 0, none⟩)]), .int .i64 (o.proto : Int), .int .i64 (o.epoch : Int)] 71 true) ∧ DictAt lo s pd o.L N OD ∧ (∀ c, OD c → O c ∧ c ≠ b)) ∨
    (0 < o.shape ∧ ∃ ps sl, s.at' b = some (.cells [.iface 73 (.pointer (some ⟨ps, 0, none⟩)), .int .i64 (o.proto : Int), .int .i64 (o.epoch : Int)] 71 true) ∧ s.at' ps = some (.cells [.int .i64 (o.shape : Int), sl] 76 true) ∧ O ps ∧ ps ≠ b ∧
      SlU 37 3 s sl (valsC o.L) o.L.length ∧ (∀ q n c, sl = .slice (some q) n c → O q.block ∧ q.block ≠ b ∧ q.block ≠ ps))
theorem ObAt.same {lo : Nat} {s s' : St M} {N b : Nat} {o : Ob} {O : Nat → Prop} (h : ObAt lo s N b o O) (hn : s.next ≤ s'.next) (hs : ∀ c, O c → s'.at' c = s.at' c) : ObAt lo s' N b o O := by
  obtain ⟨h1, h2, h3, h4⟩ := h
  refine ⟨fun c hc => ⟨(h1 c hc).1, by have := (h1 c hc).2; omega⟩, h2, h3, ?_⟩
  rcases h4 with ⟨h5, pd, OD, h6, h7, h8⟩ | ⟨h5, ps, sl, h6, h7, h8, h9, h10, h11⟩
  · exact .inl ⟨h5, pd, OD, by rw [hs _ h2]; exact h6, h7.same hn fun c hc => hs c (h8 c hc).1, h8⟩
  · exact .inr ⟨h5, ps, sl, by rw [hs _ h2]; exact h6, by rw [hs _ h8]; exact h7, h8, h9, h10.same fun q n c e => hs _ (h11 q n c e).1, h11⟩
theorem ObAt.mono {lo : Nat} {s : St M} {N N' b : Nat} {o : Ob} {O : Nat → Prop} (h : ObAt lo s N b o O) (hN : N ≤ N') : ObAt lo s N' b o O := by
  obtain ⟨h1, h2, h3, h4⟩ := h
  refine ⟨h1, h2, by omega, ?_⟩
  rcases h4 with ⟨h5, pd, OD, h6, h7, h8⟩ | h
  · exact .inl ⟨h5, pd, OD, h6, h7.mono hN, h8⟩
  · exact .inr h
def ptrs (l : List Nat) : List Value := l.map fun b => .pointer (some ⟨b, 0, none⟩)
theorem ptrs_len (l : List Nat) : (ptrs l).length = l.length := by simp [ptrs]
theorem ptrs_get {l : List Nat} {k b : Nat} (junk : List Value) (h : l[k]? = some b) : (ptrs l ++ junk)[k]? = some (.pointer (some ⟨b, 0, none⟩)) := by
  rw [List.getElem?_append_left (by rw [ptrs_len]; exact (List.getElem?_eq_some_iff.1 h).1)]
  simp [ptrs, h]
structure HpIn (lo : Nat) (s : St M) (p : Nat) (H : Hp) (N : Nat) (O : Nat → Prop) (tg : Nat → Nat) (pf pn : Nat) (sl : Value) (bs : List Nat) : Prop where
  own : ∀ b, O b → lo ≤ b ∧ b < s.next
  ok : HOk H
  tn : H.T.length ≤ N
  pin : O p ∧ tg p = 0
  bl : s.at' p = some (.cells [sl, .pointer (some ⟨pf, 0, none⟩), .pointer (some ⟨pn, 0, none⟩), .int .i64 (H.maxO : Int), .int .i64 (H.maxP : Int)] 62 true)
  row : SlU 63 1 s sl (ptrs bs) bs.length
  rowO : ∀ q n c, sl = .slice (some q) n c → O q.block ∧ tg q.block = 0 ∧ q.block ≠ p
  fo : FAt lo s pf H.F H.most (fun b => O b ∧ tg b = 1)
  ta : TabAt lo s pn H.T (fun b => O b ∧ tg b = 2)
  len : bs.length = H.obs.length
  obj : ∀ (i b : Nat) (o : Ob), bs[i]? = some b → H.obs[i]? = some o → ObAt lo s N b o (fun c => O c ∧ tg c = i + 3)
def HpAt (lo : Nat) (s : St M) (p : Nat) (H : Hp) (N : Nat) (O : Nat → Prop) : Prop := HPro H ∧ ∃ tg pf pn sl bs, HpIn lo s p H N O tg pf pn sl bs
theorem HpIn.same {lo : Nat} {s s' : St M} {p : Nat} {H : Hp} {N : Nat} {O : Nat → Prop} {tg : Nat → Nat} {pf pn : Nat} {sl : Value} {bs : List Nat} (h : HpIn lo s p H N O tg pf pn sl bs) (hn : s.next ≤ s'.next) (hs : ∀ c, O c → s'.at' c = s.at' c) : HpIn lo s' p H N O tg pf pn sl bs :=
  ⟨fun b hb => ⟨(h.own b hb).1, by have := (h.own b hb).2; omega⟩, h.ok, h.tn, h.pin, by rw [hs _ h.pin.1]; exact h.bl, h.row.same fun q n c e => hs _ (h.rowO q n c e).1, h.rowO, h.fo.same hn fun b hb => hs b hb.1, h.ta.same hn fun b hb => hs b hb.1, h.len, fun i b o h1 h2 => (h.obj i b o h1 h2).same hn fun c hc => hs c hc.1⟩
theorem HpIn.le {lo : Nat} {s s' : St M} {p : Nat} {H : Hp} {N : Nat} {O : Nat → Prop} {tg : Nat → Nat} {pf pn : Nat} {sl : Value} {bs : List Nat} (h : HpIn lo s p H N O tg pf pn sl bs) (hs : s.le s') : HpIn lo s' p H N O tg pf pn sl bs := h.same hs.1 fun c hc => hs.2 c (h.own c hc).2
theorem HpIn.mono {lo : Nat} {s : St M} {p : Nat} {H : Hp} {N N' : Nat} {O : Nat → Prop} {tg : Nat → Nat} {pf pn : Nat} {sl : Value} {bs : List Nat} (h : HpIn lo s p H N O tg pf pn sl bs) (hN : N ≤ N') : HpIn lo s p H N' O tg pf pn sl bs :=
  ⟨h.own, h.ok, by have := h.tn; omega, h.pin, h.bl, h.row, h.rowO, h.fo, h.ta, h.len, fun i b o h1 h2 => (h.obj i b o h1 h2).mono hN⟩
theorem HpAt.same {lo : Nat} {s s' : St M} {p : Nat} {H : Hp} {N : Nat} {O : Nat → Prop} (h : HpAt lo s p H N O) (hn : s.next ≤ s'.next) (hs : ∀ c, O c → s'.at' c = s.at' c) : HpAt lo s' p H N O := by
  obtain ⟨hp, tg, pf, pn, sl, bs, h⟩ := h
  exact ⟨hp, tg, pf, pn, sl, bs, h.same hn hs⟩
theorem HpAt.own {lo : Nat} {s : St M} {p : Nat} {H : Hp} {N : Nat} {O : Nat → Prop} (h : HpAt lo s p H N O) : ∀ b, O b → lo ≤ b ∧ b < s.next := by
  obtain ⟨hp, tg, pf, pn, sl, bs, h⟩ := h
  exact h.own
theorem HpAt.ok {lo : Nat} {s : St M} {p : Nat} {H : Hp} {N : Nat} {O : Nat → Prop} (h : HpAt lo s p H N O) : HOk H := by
  obtain ⟨hp, tg, pf, pn, sl, bs, h⟩ := h
  exact h.ok
theorem HpAt.le {lo : Nat} {s s' : St M} {p : Nat} {H : Hp} {N : Nat} {O : Nat → Prop} (h : HpAt lo s p H N O) (hs : s.le s') : HpAt lo s' p H N O := h.same hs.1 fun c hc => hs.2 c (h.own c hc).2
theorem HpAt.mono {lo : Nat} {s : St M} {p : Nat} {H : Hp} {N N' : Nat} {O : Nat → Prop} (h : HpAt lo s p H N O) (hN : N ≤ N') : HpAt lo s p H N' O := by
  obtain ⟨hp, tg, pf, pn, sl, bs, h⟩ := h
  exact ⟨hp, tg, pf, pn, sl, bs, h.mono hN⟩
def reO (O : Nat → Prop) (tg : Nat → Nat) (k : Nat) (O' : Nat → Prop) : Nat → Prop := fun b => (O b ∧ tg b ≠ k) ∨ O' b
open Classical in
noncomputable def reT (tg : Nat → Nat) (k : Nat) (O' : Nat → Prop) : Nat → Nat := fun b => if O' b then k else tg b
theorem re_same (O : Nat → Prop) (tg : Nat → Nat) (k : Nat) (O' : Nat → Prop) : (fun b => reO O tg k O' b ∧ reT tg k O' b = k) = O' := by
  funext b
  apply propext
  unfold reO reT
  by_cases h : O' b
  · simp [h]
  · simp only [h, if_false, or_false, iff_false]
    rintro ⟨⟨_, h2⟩, h3⟩
    exact h2 h3
theorem re_other {O : Nat → Prop} {tg : Nat → Nat} {k j n : Nat} {O' : Nat → Prop} (hO : ∀ b, O b → b < n) (h : ∀ b, O' b → (O b ∧ tg b = k) ∨ n ≤ b) (hjk : j ≠ k) : (fun b => reO O tg k O' b ∧ reT tg k O' b = j) = fun b => O b ∧ tg b = j := by
  funext b
  apply propext
  unfold reO reT
  by_cases hb : O' b
  · simp only [hb, or_true, if_true, true_and]
    constructor
    · intro e; exact absurd e.symm hjk
    · rintro ⟨h1, h2⟩
      rcases h b hb with ⟨_, h3⟩ | h3
      · rw [h2] at h3; exact absurd h3 hjk
      · have := hO b h1; omega
  · simp only [hb, or_false, if_false]
    constructor
    · rintro ⟨⟨h1, _⟩, h2⟩; exact ⟨h1, h2⟩
    · rintro ⟨h1, h2⟩; exact ⟨⟨h1, by rw [h2]; exact hjk⟩, h2⟩
theorem re_own {O : Nat → Prop} {tg : Nat → Nat} {k lo n n' : Nat} {O' : Nat → Prop} (hO : ∀ b, O b → lo ≤ b ∧ b < n) (hn : n ≤ n') (h : ∀ b, O' b → lo ≤ b ∧ b < n') : ∀ b, reO O tg k O' b → lo ≤ b ∧ b < n' := by
  intro b hb
  rcases hb with ⟨h1, _⟩ | h1
  · have := hO b h1; omega
  · exact h b h1
theorem re_upd {s s' : St M} {O : Nat → Prop} {tg : Nat → Nat} {k : Nat} {O' : Nat → Prop} (hU : Upd s s' (fun b => O b ∧ tg b = k) O') : Upd s s' O (reO O tg k O') := by
  refine ⟨hU.next, fun b hb ho => hU.keep b hb fun h => ho h.1, fun b hb => ?_⟩
  rcases hb with ⟨h1, _⟩ | h1
  · exact .inl h1
  · rcases hU.own b h1 with h | h
    · exact .inl h.1
    · exact .inr h
theorem re_keep {s s' : St M} {O : Nat → Prop} {tg : Nat → Nat} {k : Nat} {O' : Nat → Prop} {lo : Nat} (hO : ∀ b, O b → lo ≤ b ∧ b < s.next) (hU : Upd s s' (fun b => O b ∧ tg b = k) O') : ∀ b, O b → tg b ≠ k → s'.at' b = s.at' b :=
  fun b hb ht => hU.keep b (hO b hb).2 fun h => ht h.2
theorem re_tag {O : Nat → Prop} {tg : Nat → Nat} {k j n b : Nat} {O' : Nat → Prop} (hO : ∀ b, O b → b < n) (h : ∀ b, O' b → (O b ∧ tg b = k) ∨ n ≤ b) (hjk : j ≠ k) (hb : O b ∧ tg b = j) : reO O tg k O' b ∧ reT tg k O' b = j := by
  have := congrFun (re_other hO h hjk) b
  exact this.mpr hb
theorem HpIn.newF {lo : Nat} {s s' : St M} {p : Nat} {H : Hp} {N : Nat} {O O' : Nat → Prop} {tg : Nat → Nat} {pf pn : Nat} {sl : Value} {bs : List Nat} {F' : List Sh} (h : HpIn lo s p H N O tg pf pn sl bs) (hU : Upd s s' (fun b => O b ∧ tg b = 1) O') (hF : FAt lo s' pf F' H.most O') (hok : HOk { H with F := F' }) :
    HpIn lo s' p { H with F := F' } N (reO O tg 1 O') (reT tg 1 O') pf pn sl bs := by
  have hO : ∀ b, O b → b < s.next := fun b hb => (h.own b hb).2
  have hw : ∀ b, O' b → (O b ∧ tg b = 1) ∨ s.next ≤ b := hU.own
  have hk := re_keep h.own hU
  refine ⟨re_own h.own hU.next hF.own, hok, h.tn, re_tag hO hw (by omega) h.pin, ?_, h.row.same fun q n c e => ?_, fun q n c e => ?_, ?_, ?_, h.len, fun i b o h1 h2 => ?_⟩
  · rw [hk p h.pin.1 (by rw [h.pin.2]; omega)]; exact h.bl
  · have := h.rowO q n c e
    exact hk _ this.1 (by rw [this.2.1]; omega)
  · have := h.rowO q n c e
    have h2 := re_tag hO hw (j := 0) (by omega) ⟨this.1, this.2.1⟩
    exact ⟨h2.1, h2.2, this.2.2⟩
  · rw [re_same]; exact hF
  · rw [re_other hO hw (by omega)]
    exact h.ta.same hU.next fun b hb => hk b hb.1 (by rw [hb.2]; omega)
  · rw [re_other hO hw (by omega)]
    exact (h.obj i b o h1 h2).same hU.next fun c hc => hk c hc.1 (by rw [hc.2]; omega)
theorem HpIn.newT {lo : Nat} {s s' : St M} {p : Nat} {H : Hp} {N : Nat} {O O' : Nat → Prop} {tg : Nat → Nat} {pf pn : Nat} {sl : Value} {bs : List Nat} {T' : List ByteArray} (h : HpIn lo s p H N O tg pf pn sl bs) (hU : Upd s s' (fun b => O b ∧ tg b = 2) O') (hT : TabAt lo s' pn T' O') (hok : HOk { H with T := T' }) (hTN : T'.length ≤ N) :
    HpIn lo s' p { H with T := T' } N (reO O tg 2 O') (reT tg 2 O') pf pn sl bs := by
  have hO : ∀ b, O b → b < s.next := fun b hb => (h.own b hb).2
  have hw : ∀ b, O' b → (O b ∧ tg b = 2) ∨ s.next ≤ b := hU.own
  have hk := re_keep h.own hU
  refine ⟨re_own h.own hU.next hT.own, hok, hTN, re_tag hO hw (by omega) h.pin, ?_, h.row.same fun q n c e => ?_, fun q n c e => ?_, ?_, ?_, h.len, fun i b o h1 h2 => ?_⟩
  · rw [hk p h.pin.1 (by rw [h.pin.2]; omega)]; exact h.bl
  · have := h.rowO q n c e
    exact hk _ this.1 (by rw [this.2.1]; omega)
  · have := h.rowO q n c e
    have h2 := re_tag hO hw (j := 0) (by omega) ⟨this.1, this.2.1⟩
    exact ⟨h2.1, h2.2, this.2.2⟩
  · rw [re_other hO hw (by omega)]
    exact h.fo.same hU.next fun b hb => hk b hb.1 (by rw [hb.2]; omega)
  · rw [re_same]; exact hT
  · rw [re_other hO hw (by omega)]
    exact (h.obj i b o h1 h2).same hU.next fun c hc => hk c hc.1 (by rw [hc.2]; omega)
theorem HpIn.newO {lo : Nat} {s s' : St M} {p : Nat} {H : Hp} {N : Nat} {O O' : Nat → Prop} {tg : Nat → Nat} {pf pn : Nat} {sl : Value} {bs : List Nat} {j b : Nat} {o' : Ob} (h : HpIn lo s p H N O tg pf pn sl bs) (hj : j < H.obs.length) (hb : bs[j]? = some b) (hU : Upd s s' (fun b => O b ∧ tg b = j + 3) O') (hB : ObAt lo s' N b o' O') (hok : HOk { H with obs := H.obs.set j o' }) :
    HpIn lo s' p { H with obs := H.obs.set j o' } N (reO O tg (j + 3) O') (reT tg (j + 3) O') pf pn sl bs := by
  have hO : ∀ b, O b → b < s.next := fun b hb => (h.own b hb).2
  have hw : ∀ b, O' b → (O b ∧ tg b = j + 3) ∨ s.next ≤ b := hU.own
  have hk := re_keep h.own hU
  refine ⟨re_own h.own hU.next hB.own, hok, h.tn, re_tag hO hw (by omega) h.pin, ?_, h.row.same fun q n c e => ?_, fun q n c e => ?_, ?_, ?_, by simpa using h.len, fun i b2 o h1 h2 => ?_⟩
  · rw [hk p h.pin.1 (by rw [h.pin.2]; omega)]; exact h.bl
  · have := h.rowO q n c e
    exact hk _ this.1 (by rw [this.2.1]; omega)
  · have := h.rowO q n c e
    have h2 := re_tag hO hw (j := 0) (by omega) ⟨this.1, this.2.1⟩
    exact ⟨h2.1, h2.2, this.2.2⟩
  · rw [re_other hO hw (by omega)]
    exact h.fo.same hU.next fun b hb => hk b hb.1 (by rw [hb.2]; omega)
  · rw [re_other hO hw (by omega)]
    exact h.ta.same hU.next fun b hb => hk b hb.1 (by rw [hb.2]; omega)
  · by_cases e : j = i
    · subst e
      rw [hb] at h1
      cases h1
      simp only [List.getElem?_set, if_true, hj] at h2
      cases h2
      rw [re_same]; exact hB
    · simp only [List.getElem?_set, e, if_false] at h2
      rw [re_other hO hw (by omega)]
      exact (h.obj i b2 o h1 h2).same hU.next fun c hc => hk c hc.1 (by rw [hc.2]; omega)
theorem HpIn.at {lo : Nat} {s : St M} {p : Nat} {H : Hp} {N : Nat} {O : Nat → Prop} {tg : Nat → Nat} {pf pn : Nat} {sl : Value} {bs : List Nat} (h : HpIn lo s p H N O tg pf pn sl bs) {j : Nat} {o : Ob} (ho : H.obs[j]? = some o) : ∃ b, bs[j]? = some b ∧ ObAt lo s N b o (fun c => O c ∧ tg c = j + 3) := by
  have hj := (List.getElem?_eq_some_iff.1 ho).1
  have hb : bs[j]? = some (bs[j]'(by have := h.len; omega)) := List.getElem?_eq_getElem _
  exact ⟨_, hb, h.obj j _ o hb ho⟩
end
end Go.Proofs.Try
set_option linter.unusedSimpArgs false
set_option linter.unusedVariables false
set_option linter.unusedSectionVars false
namespace Go.Proofs.Try
open Go.Cs
open Go.RowKit (Below)
set_option maxRecDepth 100000
attribute [local irreducible] CCalls WLoop WScope CRound WRange
section
variable {M : Type} [Mem M] {w0 : World} {s : St M} {R : Value → St M → Prop} {lo p N pf pn : Nat} {H : Hp} {O : Nat → Prop} {tg : Nat → Nat} {sl : Value} {bs : List Nat}
theorem hdead_spec (h : HpIn lo s p H N O tg pf pn sl bs) (hR : R (.bool false) s) : CCalls Try.prog w0 21 #[.pointer (some ⟨p, 0, none⟩)] s R := by
  refine wfun2 hmix ok21 (l := [.pointer (some ⟨p, 0, none⟩)]) func21 rfl ntmps21 results21 (by simp) ?_
  have hb := h.bl
  simp -implicitDefEqProofs only [↓Zd, (Zp), if_true, if_false, ne_eq, implies_true, forall_const, Nat.reduceEqDiff, reduceIte, reduceCtorEq, Int.reduceEq, Int.reduceNeg, Int.reduceLE, Int.reduceLT, Nat.reduceAdd, Nat.reduceLeDiff, Int.reduceToNat, Nat.reduceMul, Nat.reduceBEq, okPart, Value.cells, cut, okCell, cld2, (HEx), vA, hb]
  exact hR
theorem hfind_spec (h : HpIn lo s p H N O tg pf pn sl bs) {i : Int} (hi : -9223372036854775808 ≤ i ∧ i ≤ 9223372036854775807)
    (hno : obAt H i = none → R (.pointer none) s) (hyes : ∀ (j b : Nat) (o : Ob), i = ((j + 1 : Nat) : Int) → bs[j]? = some b → H.obs[j]? = some o → obAt H i = some o → R (.pointer (some ⟨b, 0, none⟩)) s) :
    CCalls Try.prog w0 34 #[.pointer (some ⟨p, 0, none⟩), .int .i64 i] s R := by
  refine wfun2 hmix ok34 (l := [.pointer (some ⟨p, 0, none⟩), .int .i64 i]) func34 rfl ntmps34 results34 (by simp) ?_
  have hb := h.bl
  have hl := h.len
  by_cases i1 : i < 1
  · simp -implicitDefEqProofs only [↓Zd, (Zp), if_true, if_false, ne_eq, implies_true, forall_const, Nat.reduceEqDiff, reduceIte, reduceCtorEq, Int.reduceEq, Int.reduceNeg, Int.reduceLE, Int.reduceLT, Nat.reduceAdd, Nat.reduceLeDiff, Int.reduceToNat, Nat.reduceMul, Nat.reduceBEq, okPart, Value.cells, cut, okCell, cld2, (HEx), vA, i1]
    exact hno (obAt_none.2 (by omega))
  · have i2 : 0 < i := by omega
    rcases h.row with ⟨h0, _, rfl⟩ | ⟨b0, junk, rfl, hb0, _⟩
    · simp -implicitDefEqProofs only [↓Zd, (Zp), if_true, if_false, ne_eq, implies_true, forall_const, Nat.reduceEqDiff, reduceIte, reduceCtorEq, Int.reduceEq, Int.reduceNeg, Int.reduceLE, Int.reduceLT, Nat.reduceAdd, Nat.reduceLeDiff, Int.reduceToNat, Nat.reduceMul, Nat.reduceBEq, okPart, Value.cells, cut, okCell, cld2, (HEx), vA, hb, i1, i2]
      exact hno (obAt_none.2 (by omega))
    · by_cases i3 : (bs.length : Int) < i
      · simp -implicitDefEqProofs only [↓Zd, (Zp), if_true, if_false, ne_eq, implies_true, forall_const, Nat.reduceEqDiff, reduceIte, reduceCtorEq, Int.reduceEq, Int.reduceNeg, Int.reduceLE, Int.reduceLT, Nat.reduceAdd, Nat.reduceLeDiff, Int.reduceToNat, Nat.reduceMul, Nat.reduceBEq, okPart, Value.cells, cut, okCell, cld2, (HEx), vA, hb, i1, i2, i3]
        exact hno (obAt_none.2 (by omega))
      · obtain ⟨j, rfl⟩ : ∃ j : Nat, i = ((j + 1 : Nat) : Int) := ⟨(i - 1).toNat, by omega⟩
        have w1 : IntKind.i64.wrap (((j + 1 : Nat) : Int) - 1) = (j : Int) := by rw [wrap_i64 (by omega)]; omega
        have hj : (0 : Int) ≤ (j : Int) ∧ (j : Int) < (bs.length : Int) := by omega
        have hg : bs[j]? = some (bs[j]'(by omega)) := List.getElem?_eq_getElem _
        have ho : H.obs[j]? = some (H.obs[j]'(by omega)) := List.getElem?_eq_getElem _
        have hgc := ptrs_get junk hg
        simp -implicitDefEqProofs only [↓Zd, (Zp), if_true, if_false, ne_eq, implies_true, forall_const, Nat.reduceEqDiff, reduceIte, reduceCtorEq, Int.reduceEq, Int.reduceNeg, Int.reduceLE, Int.reduceLT, Nat.reduceAdd, Nat.reduceLeDiff, Int.reduceToNat, Nat.reduceMul, Nat.reduceBEq, okPart, Value.cells, cut, okCell, cld2, (HEx), vA, hb, i1, i2, i3, w1, hj, hb0, hgc, Nat.mul_one]
        exact hyes j _ _ rfl hg ho (by rw [obAt_get, ho])
theorem hlen_spec (h : HpIn lo s p H N O tg pf pn sl bs) (hR : R (.int .i64 (H.obs.length : Int)) s) : CCalls Try.prog w0 45 #[.pointer (some ⟨p, 0, none⟩)] s R := by
  refine wfun2 hmix ok45 (l := [.pointer (some ⟨p, 0, none⟩)]) func45 rfl ntmps45 results45 (by simp) ?_
  have hb := h.bl
  have hl := h.len
  rcases h.row with ⟨h0, _, rfl⟩ | ⟨b0, junk, rfl, hb0, _⟩
  · have : H.obs.length = 0 := by omega
    rw [this] at hR
    simp -implicitDefEqProofs only [↓Zd, (Zp), if_true, if_false, ne_eq, implies_true, forall_const, Nat.reduceEqDiff, reduceIte, reduceCtorEq, Int.reduceEq, Int.reduceNeg, Int.reduceLE, Int.reduceLT, Nat.reduceAdd, Nat.reduceLeDiff, Int.reduceToNat, Nat.reduceMul, Nat.reduceBEq, okPart, Value.cells, cut, okCell, cld2, (HEx), vA, hb]
    exact hR
  · rw [← hl] at hR
    simp -implicitDefEqProofs only [↓Zd, (Zp), if_true, if_false, ne_eq, implies_true, forall_const, Nat.reduceEqDiff, reduceIte, reduceCtorEq, Int.reduceEq, Int.reduceNeg, Int.reduceLE, Int.reduceLT, Nat.reduceAdd, Nat.reduceLeDiff, Int.reduceToNat, Nat.reduceMul, Nat.reduceBEq, okPart, Value.cells, cut, okCell, cld2, (HEx), vA, hb]
    exact hR
theorem ObAt.cells {b : Nat} {o : Ob} {OO : Nat → Prop} (h : ObAt lo s N b o OO) : ∃ t v, s.at' b = some (.cells [.iface t v, .int .i64 (o.proto : Int), .int .i64 (o.epoch : Int)] 71 true) := by
  rcases h.bl with ⟨_, pd, OD, h1, _⟩ | ⟨_, ps, sl, h1, _⟩
  · exact ⟨_, _, h1⟩
  · exact ⟨_, _, h1⟩
def protoV (H : Hp) (i : Int) : Int := match obAt H i with
  | some o => (o.proto : Int)
  | none => 0
def epochV (H : Hp) (i : Int) : Int := match obAt H i with
  | some o => (o.epoch : Int)
  | none => 0
def shapeV (H : Hp) (i : Int) : Int := match obAt H i with
  | some o => (o.shape : Int)
  | none => 0
def countV (H : Hp) (i : Int) : Int := match obAt H i with
  | some o => (o.L.length : Int)
  | none => 0
theorem hproto_spec (h : HpIn lo s p H N O tg pf pn sl bs) {i : Int} (hi : -9223372036854775808 ≤ i ∧ i ≤ 9223372036854775807) (hR : R (.int .i64 (protoV H i)) s) : CCalls Try.prog w0 48 #[.pointer (some ⟨p, 0, none⟩), .int .i64 i] s R := by
  refine wfun2 hmix ok48 (l := [.pointer (some ⟨p, 0, none⟩), .int .i64 i]) func48 rfl ntmps48 results48 (by simp) ?_
  unfold protoV at hR
  simp -implicitDefEqProofs only [↓Zd, (Zp), if_true, if_false, ne_eq, implies_true, forall_const, Nat.reduceEqDiff, reduceIte, reduceCtorEq, Int.reduceEq, Int.reduceNeg, Int.reduceLE, Int.reduceLT, Nat.reduceAdd, Nat.reduceLeDiff, Int.reduceToNat, Nat.reduceMul, Nat.reduceBEq, okPart, Value.cells, cut, okCell, cld2, (HEx), vA, co34]
  refine hfind_spec h hi (fun hno => ?_) (fun j b o hij hb ho hat => ?_)
  · rw [hno] at hR
    simp -implicitDefEqProofs only [↓Zd, (Zp), if_true, if_false, ne_eq, implies_true, forall_const, Nat.reduceEqDiff, reduceIte, reduceCtorEq, Int.reduceEq, Int.reduceNeg, Int.reduceLE, Int.reduceLT, Nat.reduceAdd, Nat.reduceLeDiff, Int.reduceToNat, Nat.reduceMul, Nat.reduceBEq, okPart, Value.cells, cut, okCell, cld2, (HEx), vA]
    exact hR
  · rw [hat] at hR
    obtain ⟨t, v, hc⟩ := (h.obj j b o hb ho).cells
    simp -implicitDefEqProofs only [↓Zd, (Zp), if_true, if_false, ne_eq, implies_true, forall_const, Nat.reduceEqDiff, reduceIte, reduceCtorEq, Int.reduceEq, Int.reduceNeg, Int.reduceLE, Int.reduceLT, Nat.reduceAdd, Nat.reduceLeDiff, Int.reduceToNat, Nat.reduceMul, Nat.reduceBEq, okPart, Value.cells, cut, okCell, cld2, (HEx), vA, hc]
    exact hR
theorem hslotof_spec (h : HpIn lo s p H N O tg pf pn sl bs) {i : Int} {x : ByteArray} (hi : -9223372036854775808 ≤ i ∧ i ≤ 9223372036854775807) (hR : ∀ s', s.le s' → R (.int .i64 (slotOf H i x)) s') :
    CCalls Try.prog w0 32 #[.pointer (some ⟨p, 0, none⟩), .int .i64 i, .string x] s R := by
  refine wfun2 hmix ok32 (l := [.pointer (some ⟨p, 0, none⟩), .int .i64 i, .string x]) func32 rfl ntmps32 results32 (by simp) ?_
  have hb := h.bl
  unfold slotOf at hR
  simp -implicitDefEqProofs only [↓Zd, (Zp), if_true, if_false, ne_eq, implies_true, forall_const, Nat.reduceEqDiff, reduceIte, reduceCtorEq, Int.reduceEq, Int.reduceNeg, Int.reduceLE, Int.reduceLT, Nat.reduceAdd, Nat.reduceLeDiff, Int.reduceToNat, Nat.reduceMul, Nat.reduceBEq, okPart, Value.cells, cut, okCell, cld2, (HEx), vA, co21]
  refine hdead_spec h ?_
  simp -implicitDefEqProofs only [↓Zd, (Zp), if_true, if_false, ne_eq, implies_true, forall_const, Nat.reduceEqDiff, reduceIte, reduceCtorEq, Int.reduceEq, Int.reduceNeg, Int.reduceLE, Int.reduceLT, Nat.reduceAdd, Nat.reduceLeDiff, Int.reduceToNat, Nat.reduceMul, Nat.reduceBEq, okPart, Value.cells, cut, okCell, cld2, (HEx), vA, hb, co60]
  refine find_spec h.ta ?_
  cases hx : idxOf H.T x with
  | none =>
    rw [hx] at hR
    simp -implicitDefEqProofs only [↓Zd, (Zp), if_true, if_false, ne_eq, implies_true, forall_const, Nat.reduceEqDiff, reduceIte, reduceCtorEq, Int.reduceEq, Int.reduceNeg, Int.reduceLE, Int.reduceLT, Nat.reduceAdd, Nat.reduceLeDiff, Int.reduceToNat, Nat.reduceMul, Nat.reduceBEq, okPart, Value.cells, cut, okCell, cld2, (HEx), vA]
    exact hR _ (St.le_refl _)
  | some j =>
    rw [hx] at hR
    simp -implicitDefEqProofs only [↓Zd, (Zp), if_true, if_false, ne_eq, implies_true, forall_const, Nat.reduceEqDiff, reduceIte, reduceCtorEq, Int.reduceEq, Int.reduceNeg, Int.reduceLE, Int.reduceLT, Nat.reduceAdd, Nat.reduceLeDiff, Int.reduceToNat, Nat.reduceMul, Nat.reduceBEq, okPart, Value.cells, cut, okCell, cld2, (HEx), vA, hb, co61]
    refine fslot_spec h.fo hi fun s1 hs1 => ?_
    simp -implicitDefEqProofs only [↓Zd, (Zp), if_true, if_false, ne_eq, implies_true, forall_const, Nat.reduceEqDiff, reduceIte, reduceCtorEq, Int.reduceEq, Int.reduceNeg, Int.reduceLE, Int.reduceLT, Nat.reduceAdd, Nat.reduceLeDiff, Int.reduceToNat, Nat.reduceMul, Nat.reduceBEq, okPart, Value.cells, cut, okCell, cld2, (HEx), vA]
    exact hR _ hs1
theorem sget_spec (h : HpIn lo s p H N O tg pf pn sl bs) {j ps : Nat} {o : Ob} {sv : Value} {x : ByteArray} (ho : H.obs[j]? = some o) (hs0 : 0 < o.shape) (hps : s.at' ps = some (.cells [.int .i64 (o.shape : Int), sv] 76 true)) (hpn : ps < s.next) (hsv : SlU 37 3 s sv (valsC o.L) o.L.length) (hsn : ∀ q n c, sv = .slice (some q) n c → q.block < s.next)
    (hR : ∀ s', s.le s' → R (gotV (getP o.L x)) s') : CCalls Try.prog w0 64 #[.pointer (some ⟨ps, 0, none⟩), .pointer (some ⟨p, 0, none⟩), .string x] s R := by
  refine wfun2 hmix ok64 (l := [.pointer (some ⟨ps, 0, none⟩), .pointer (some ⟨p, 0, none⟩), .string x]) func64 rfl ntmps64 results64 (by simp) ?_
  have hne : ¬ ps = s.next := by omega
  have hF12 : o.shape ≤ 150 := by
    obtain ⟨q0, l, h1, _⟩ := h.ok.fits j o ho hs0
    have := (List.getElem?_eq_some_iff.1 h1).1
    have := h.fo.le
    omega
  have hm : o.L.length ≤ 32 := by have := h.ok.lens j o ho; have := h.ok.lim; omega
  simp -implicitDefEqProofs only [↓Zd, (Zp), if_true, if_false, ne_eq, implies_true, forall_const, Nat.reduceEqDiff, reduceIte, reduceCtorEq, Int.reduceEq, Int.reduceNeg, Int.reduceLE, Int.reduceLT, Nat.reduceAdd, Nat.reduceLeDiff, Int.reduceToNat, Nat.reduceMul, Nat.reduceBEq, okPart, Value.cells, cut, okCell, cld2, (HEx), vA, hps, hne, co32]
  refine hslotof_spec (i := (o.shape : Int)) (h.le (St.le_new (St.le_refl _))) (by omega) fun s1 hs1 => ?_
  have hn1 := hs1.1
  simp only [St.next_new] at hn1
  have k1 : ∀ c, c < s.next → s1.at' c = s.at' c := fun c hc => by rw [hs1.2 c (by simp only [St.next_new]; omega), St.at_new, if_neg (by omega)]
  have e1 : s1.at' s.next = some (.cells [.int .i64 0, .int .i64 0, .string ⟨#[]⟩] 37 true) := by rw [hs1.2 _ (by simp only [St.next_new]; omega), St.at_new, if_pos rfl]
  rcases slot_fits h.ok ho hs0 x with ⟨g1, g2⟩ | ⟨k, v, g1, g2, g3⟩
  · rw [g2] at hR
    rw [g1]
    simp -implicitDefEqProofs only [↓Zd, (Zp), if_true, if_false, ne_eq, implies_true, forall_const, Nat.reduceEqDiff, reduceIte, reduceCtorEq, Int.reduceEq, Int.reduceNeg, Int.reduceLE, Int.reduceLT, Nat.reduceAdd, Nat.reduceLeDiff, Int.reduceToNat, Nat.reduceMul, Nat.reduceBEq, okPart, Value.cells, cut, okCell, cld2, (HEx), vA, e1]
    exact hR _ (St.le_put (St.le_trans (St.le_new (St.le_refl _)) hs1) (by omega))
  · rw [g3] at hR
    rw [g1]
    have hk0 : ¬ (k : Int) < 0 := by omega
    have hkl := (List.getElem?_eq_some_iff.1 g2).1
    rcases hsv with ⟨e0, _⟩ | ⟨b, junk, rfl, hb, _⟩
    · omega
    have hps1 : s1.at' ps = some (.cells [.int .i64 (o.shape : Int), .slice (some ⟨b, 0, none⟩) o.L.length UNK] 76 true) := by rw [k1 ps hpn]; exact hps
    have hb1 : s1.at' b = some (.cells (valsC o.L ++ junk) 37 true) := by rw [k1 b (hsn _ _ _ rfl)]; exact hb
    have hbn : ¬ b = s.next := by have := hsn _ _ _ rfl; simp only at this; omega
    obtain ⟨c1, c2⟩ := valsC_cut o.L k x v junk g2
    have hkk : (0 : Int) ≤ (k : Int) ∧ (k : Int) < (o.L.length : Int) := by omega
    simp -implicitDefEqProofs only [↓Zd, (Zp), if_true, if_false, ne_eq, implies_true, forall_const, Nat.reduceEqDiff, reduceIte, reduceCtorEq, Int.reduceEq, Int.reduceNeg, Int.reduceLE, Int.reduceLT, Nat.reduceAdd, Nat.reduceLeDiff, Int.reduceToNat, Nat.reduceMul, Nat.reduceBEq, okPart, Value.cells, cut, okCell, cld2, (HEx), vA, e1, hk0, hps1, hkk, hb1, c1, c2]
    exact hR _ (St.le_put (St.le_trans (St.le_new (St.le_refl _)) hs1) (by omega))
theorem lget_spec {pd : Nat} {L : List (ByteArray × V3)} {OD : Nat → Prop} {hp : Value} {x : ByteArray} (hD : DictAt lo s pd L N OD) (hR : ∀ s', s.le s' → R (gotV (getP L x)) s') :
    CCalls Try.prog w0 65 #[.agg #[.pointer (some ⟨pd, 0, none⟩)], hp, .string x] s R := by
  refine wfun2 hmix ok65 (l := [.agg #[.pointer (some ⟨pd, 0, none⟩)], hp, .string x]) func65 rfl ntmps65 results65 (by simp) ?_
  have hn : ¬ s.next = s.next + 1 := by omega
  simp -implicitDefEqProofs only [↓Zd, (Zp), if_true, if_false, ne_eq, implies_true, forall_const, Nat.reduceEqDiff, reduceIte, reduceCtorEq, Int.reduceEq, Int.reduceNeg, Int.reduceLE, Int.reduceLT, Nat.reduceAdd, Nat.reduceLeDiff, Int.reduceToNat, Nat.reduceMul, Nat.reduceBEq, okPart, Value.cells, cut, okCell, cld2, (HEx), vA, hn, co85]
  refine dget_spec (hD.same (s' := ((s.new _).new _)) (by simp only [St.next_new]; omega) fun b hb => by have := (hD.own b hb).2; rw [St.at_new, if_neg (by simp only [St.next_new]; omega), St.at_new, if_neg (by omega)]) fun s1 hs1 => ?_
  have hn1 := hs1.1
  simp only [St.next_new] at hn1
  have e1 : s1.at' (s.next + 1) = some (.cells [.int .i64 0, .int .i64 0, .string ⟨#[]⟩] 37 true) := by rw [hs1.2 _ (by simp only [St.next_new]; omega), St.at_new, if_pos (by simp only [St.next_new])]
  cases hg : getP L x with
  | none =>
    rw [hg] at hR
    unfold gotV at *
    simp -implicitDefEqProofs only [↓Zd, (Zp), if_true, if_false, ne_eq, implies_true, forall_const, Nat.reduceEqDiff, reduceIte, reduceCtorEq, Int.reduceEq, Int.reduceNeg, Int.reduceLE, Int.reduceLT, Nat.reduceAdd, Nat.reduceLeDiff, Int.reduceToNat, Nat.reduceMul, Nat.reduceBEq, okPart, Value.cells, cut, okCell, cld2, (HEx), vA, e1]
    exact hR _ (St.le_put (St.le_trans (St.le_new (St.le_new (St.le_refl _))) hs1) (by omega))
  | some v =>
    rw [hg] at hR
    obtain ⟨a, b, c⟩ := v
    unfold gotV vOf at *
    simp -implicitDefEqProofs only [↓Zd, (Zp), if_true, if_false, ne_eq, implies_true, forall_const, Nat.reduceEqDiff, reduceIte, reduceCtorEq, Int.reduceEq, Int.reduceNeg, Int.reduceLE, Int.reduceLT, Nat.reduceAdd, Nat.reduceLeDiff, Int.reduceToNat, Nat.reduceMul, Nat.reduceBEq, okPart, Value.cells, cut, okCell, cld2, (HEx), vA, e1]
    exact hR _ (St.le_put (St.le_trans (St.le_new (St.le_new (St.le_refl _))) hs1) (by omega))
theorem hown0_spec (h : HpIn lo s p H N O tg pf pn sl bs) {j b : Nat} {o : Ob} {x : ByteArray} (hb : bs[j]? = some b) (ho : H.obs[j]? = some o)
    (hR : ∀ s', s.le s' → R (gotV (getP o.L x)) s') : CCalls Try.prog w0 35 #[.pointer (some ⟨p, 0, none⟩), .pointer (some ⟨b, 0, none⟩), .string x] s R := by
  refine wfun2 hmix ok35 (l := [.pointer (some ⟨p, 0, none⟩), .pointer (some ⟨b, 0, none⟩), .string x]) func35 rfl ntmps35 results35 (by simp) ?_
  have hB := h.obj j b o hb ho
  have hbn := (hB.own b hB.pin).2
  have hne : ¬ b = s.next := by omega
  rcases hB.bl with ⟨h0, pd, OD, h1, h2, h3⟩ | ⟨h0, ps, sv, h1, h2, h3, h4, h5, h6⟩
  · have hn : ¬ s.next = s.next + 1 := by omega
    simp -implicitDefEqProofs only [↓Zd, (Zp), if_true, if_false, ne_eq, implies_true, forall_const, Nat.reduceEqDiff, reduceIte, reduceCtorEq, Int.reduceEq, Int.reduceNeg, Int.reduceLE, Int.reduceLT, Nat.reduceAdd, Nat.reduceLeDiff, Int.reduceToNat, Nat.reduceMul, Nat.reduceBEq, okPart, Value.cells, cut, okCell, cld2, (HEx), vA, h1, hne, hn, co65]
    refine lget_spec (h2.same (s' := ((s.new _).new _).put (s.next + 1) _) (by simp only [St.next_new, St.next_put]; omega) fun b hb => by have := (h2.own b hb).2; rw [St.at_put, if_neg (by omega), St.at_new, if_neg (by simp only [St.next_new]; omega), St.at_new, if_neg (by omega)]) fun s1 hs1 => ?_
    have hn1 := hs1.1
    simp only [St.next_new, St.next_put] at hn1
    have e1 : s1.at' s.next = some (.cells [.int .i64 0, .int .i64 0, .string ⟨#[]⟩] 37 true) := by rw [hs1.2 _ (by simp only [St.next_new, St.next_put]; omega), St.at_put, if_neg (by omega), St.at_new, if_neg (by simp only [St.next_new]; omega), St.at_new, if_pos rfl]
    have hle : s.le s1 := St.le_trans (St.le_put (St.le_new (St.le_new (St.le_refl _))) (by omega)) hs1
    cases hg : getP o.L x with
    | none =>
      rw [hg] at hR
      unfold gotV at *
      simp -implicitDefEqProofs only [↓Zd, (Zp), if_true, if_false, ne_eq, implies_true, forall_const, Nat.reduceEqDiff, reduceIte, reduceCtorEq, Int.reduceEq, Int.reduceNeg, Int.reduceLE, Int.reduceLT, Nat.reduceAdd, Nat.reduceLeDiff, Int.reduceToNat, Nat.reduceMul, Nat.reduceBEq, okPart, Value.cells, cut, okCell, cld2, (HEx), vA, e1]
      exact hR _ (St.le_put hle (by omega))
    | some v =>
      rw [hg] at hR
      obtain ⟨a, b, c⟩ := v
      unfold gotV vOf at *
      simp -implicitDefEqProofs only [↓Zd, (Zp), if_true, if_false, ne_eq, implies_true, forall_const, Nat.reduceEqDiff, reduceIte, reduceCtorEq, Int.reduceEq, Int.reduceNeg, Int.reduceLE, Int.reduceLT, Nat.reduceAdd, Nat.reduceLeDiff, Int.reduceToNat, Nat.reduceMul, Nat.reduceBEq, okPart, Value.cells, cut, okCell, cld2, (HEx), vA, e1]
      exact hR _ (St.le_put hle (by omega))
  · simp -implicitDefEqProofs only [↓Zd, (Zp), if_true, if_false, ne_eq, implies_true, forall_const, Nat.reduceEqDiff, reduceIte, reduceCtorEq, Int.reduceEq, Int.reduceNeg, Int.reduceLE, Int.reduceLT, Nat.reduceAdd, Nat.reduceLeDiff, Int.reduceToNat, Nat.reduceMul, Nat.reduceBEq, okPart, Value.cells, cut, okCell, cld2, (HEx), vA, h1, hne, co64]
    have hpsn := (hB.own ps h3).2
    refine sget_spec (ps := ps) (h.le (St.le_new (St.le_refl _))) ho h0 (by rw [St.at_new, if_neg (by omega)]; exact h2) (by simp only [St.next_new]; omega) (h5.same fun q n c e => by have := (hB.own _ (h6 q n c e).1).2; rw [St.at_new, if_neg (by omega)]) (fun q n c e => by have := (hB.own _ (h6 q n c e).1).2; simp only [St.next_new]; omega) fun s1 hs1 => ?_
    have hn1 := hs1.1
    simp only [St.next_new] at hn1
    have e1 : s1.at' s.next = some (.cells [.int .i64 0, .int .i64 0, .string ⟨#[]⟩] 37 true) := by rw [hs1.2 _ (by simp only [St.next_new]; omega), St.at_new, if_pos rfl]
    have hle : s.le s1 := St.le_trans (St.le_new (St.le_refl _)) hs1
    cases hg : getP o.L x with
    | none =>
      rw [hg] at hR
      unfold gotV at *
      simp -implicitDefEqProofs only [↓Zd, (Zp), if_true, if_false, ne_eq, implies_true, forall_const, Nat.reduceEqDiff, reduceIte, reduceCtorEq, Int.reduceEq, Int.reduceNeg, Int.reduceLE, Int.reduceLT, Nat.reduceAdd, Nat.reduceLeDiff, Int.reduceToNat, Nat.reduceMul, Nat.reduceBEq, okPart, Value.cells, cut, okCell, cld2, (HEx), vA, e1]
      exact hR _ (St.le_put hle (by omega))
    | some v =>
      rw [hg] at hR
      obtain ⟨a, b, c⟩ := v
      unfold gotV vOf at *
      simp -implicitDefEqProofs only [↓Zd, (Zp), if_true, if_false, ne_eq, implies_true, forall_const, Nat.reduceEqDiff, reduceIte, reduceCtorEq, Int.reduceEq, Int.reduceNeg, Int.reduceLE, Int.reduceLT, Nat.reduceAdd, Nat.reduceLeDiff, Int.reduceToNat, Nat.reduceMul, Nat.reduceBEq, okPart, Value.cells, cut, okCell, cld2, (HEx), vA, e1]
      exact hR _ (St.le_put hle (by omega))
end
end Go.Proofs.Try
set_option linter.unusedSimpArgs false
set_option linter.unusedVariables false
set_option linter.unusedSectionVars false
namespace Go.Proofs.Try
open Go.Cs
open Go.RowKit (Below)
set_option maxRecDepth 100000
attribute [local irreducible] CCalls WLoop WScope CRound WRange
inductive GetR (H : Hp) (x : ByteArray) : Int → V3 → Prop
  | none {i : Int} (h : obAt H i = none) : GetR H x i (0, 0, ⟨#[]⟩)
  | own {i : Int} {o : Ob} {v : V3} (h : obAt H i = some o) (hv : getP o.L x = some v) : GetR H x i v
  | up {i : Int} {o : Ob} {v : V3} (h : obAt H i = some o) (hv : getP o.L x = none) (hu : GetR H x o.proto v) : GetR H x i v
theorem GetR.one {H : Hp} {x : ByteArray} {i : Int} {v w : V3} (h1 : GetR H x i v) (h2 : GetR H x i w) : v = w := by
  induction h1 with
  | none h => cases h2 with
    | none _ => rfl
    | own h' _ => rw [h] at h'; cases h'
    | up h' _ _ => rw [h] at h'; cases h'
  | own h hv => cases h2 with
    | none h' => rw [h] at h'; cases h'
    | own h' hv' => rw [h] at h'; cases h'; rw [hv] at hv'; cases hv'; rfl
    | up h' hv' _ => rw [h] at h'; cases h'; rw [hv] at hv'; cases hv'
  | up h hv _ ih => cases h2 with
    | none h' => rw [h] at h'; cases h'
    | own h' hv' => rw [h] at h'; cases h'; rw [hv] at hv'; cases hv'
    | up h' _ hu' => rw [h] at h'; cases h'; exact ih hu'
def slotG (H : Hp) (i k : Int) : Option V3 := match obAt H i with
  | none => none
  | some o => if o.shape = 0 then none else if 0 ≤ k then (o.L[k.toNat]?).map (·.2) else none
section
variable {M : Type} [Mem M] {w0 : World} {s : St M} {R : Value → St M → Prop} {lo p N pf pn : Nat} {H : Hp} {O : Nat → Prop} {tg : Nat → Nat} {sl : Value} {bs : List Nat}
theorem hcount0_spec {b : Nat} {o : Ob} {OO : Nat → Prop} (hB : ObAt lo s N b o OO)
    (hR : ∀ s', s.le s' → R (.int .i64 (o.L.length : Int)) s') : CCalls Try.prog w0 37 #[.pointer (some ⟨b, 0, none⟩)] s R := by
  refine wfun2 hmix ok37 (l := [.pointer (some ⟨b, 0, none⟩)]) func37 rfl ntmps37 results37 (by simp) ?_
  have hbn := (hB.own b hB.pin).2
  have hne : ¬ b = s.next := by omega
  rcases hB.bl with ⟨h0, pd, OD, h1, h2, h3⟩ | ⟨h0, ps, sv, h1, h2, h3, h4, h5, h6⟩
  · simp -implicitDefEqProofs only [↓Zd, (Zp), if_true, if_false, ne_eq, implies_true, forall_const, Nat.reduceEqDiff, reduceIte, reduceCtorEq, Int.reduceEq, Int.reduceNeg, Int.reduceLE, Int.reduceLT, Nat.reduceAdd, Nat.reduceLeDiff, Int.reduceToNat, Nat.reduceMul, Nat.reduceBEq, okPart, Value.cells, cut, okCell, cld2, (HEx), vA, h1, hne, co67]
    refine wfun2 hmix ok67 (l := [.agg #[.pointer (some ⟨pd, 0, none⟩)]]) func67 rfl ntmps67 results67 (by simp) ?_
    have hn : ¬ s.next + 1 = s.next := by omega
    simp -implicitDefEqProofs only [↓Zd, (Zp), if_true, if_false, ne_eq, implies_true, forall_const, Nat.reduceEqDiff, reduceIte, reduceCtorEq, Int.reduceEq, Int.reduceNeg, Int.reduceLE, Int.reduceLT, Nat.reduceAdd, Nat.reduceLeDiff, Int.reduceToNat, Nat.reduceMul, Nat.reduceBEq, okPart, Value.cells, cut, okCell, cld2, (HEx), vA, hn, co86]
    refine dlen_spec (h2.same (s' := ((s.new _).put s.next _).new _) (by simp only [St.next_new, St.next_put]; omega) fun b hb => by have := (h2.own b hb).2; rw [St.at_new, if_neg (by simp only [St.next_new, St.next_put]; omega), St.at_put, if_neg (by omega), St.at_new, if_neg (by omega)]) ?_
    simp -implicitDefEqProofs only [↓Zd, (Zp), if_true, if_false, ne_eq, implies_true, forall_const, Nat.reduceEqDiff, reduceIte, reduceCtorEq, Int.reduceEq, Int.reduceNeg, Int.reduceLE, Int.reduceLT, Nat.reduceAdd, Nat.reduceLeDiff, Int.reduceToNat, Nat.reduceMul, Nat.reduceBEq, okPart, Value.cells, cut, okCell, cld2, (HEx), vA]
    exact hR _ (by repeat (first | exact St.le_refl _ | assumption | refine St.le_new ?_ | refine St.le_put ?_ (by first | omega | (simp only [St.next_new, St.next_put, St.next_kill]; omega)) | refine St.le_trans ?_ (by assumption)))
  · simp -implicitDefEqProofs only [↓Zd, (Zp), if_true, if_false, ne_eq, implies_true, forall_const, Nat.reduceEqDiff, reduceIte, reduceCtorEq, Int.reduceEq, Int.reduceNeg, Int.reduceLE, Int.reduceLT, Nat.reduceAdd, Nat.reduceLeDiff, Int.reduceToNat, Nat.reduceMul, Nat.reduceBEq, okPart, Value.cells, cut, okCell, cld2, (HEx), vA, h1, hne, co66]
    refine wfun2 hmix ok66 (l := [.pointer (some ⟨ps, 0, none⟩)]) func66 rfl ntmps66 results66 (by simp) ?_
    rcases h5 with ⟨e0, _, rfl⟩ | ⟨b2, junk, rfl, _⟩
    · rw [e0] at hR
      simp -implicitDefEqProofs only [↓Zd, (Zp), if_true, if_false, ne_eq, implies_true, forall_const, Nat.reduceEqDiff, reduceIte, reduceCtorEq, Int.reduceEq, Int.reduceNeg, Int.reduceLE, Int.reduceLT, Nat.reduceAdd, Nat.reduceLeDiff, Int.reduceToNat, Nat.reduceMul, Nat.reduceBEq, okPart, Value.cells, cut, okCell, cld2, (HEx), vA, h2]
      exact hR _ (St.le_refl _)
    · simp -implicitDefEqProofs only [↓Zd, (Zp), if_true, if_false, ne_eq, implies_true, forall_const, Nat.reduceEqDiff, reduceIte, reduceCtorEq, Int.reduceEq, Int.reduceNeg, Int.reduceLE, Int.reduceLT, Nat.reduceAdd, Nat.reduceLeDiff, Int.reduceToNat, Nat.reduceMul, Nat.reduceBEq, okPart, Value.cells, cut, okCell, cld2, (HEx), vA, h2]
      exact hR _ (St.le_refl _)
theorem hcount_spec (h : HpIn lo s p H N O tg pf pn sl bs) {i : Int} (hi : -9223372036854775808 ≤ i ∧ i ≤ 9223372036854775807) (hR : ∀ s', s.le s' → R (.int .i64 (countV H i)) s') : CCalls Try.prog w0 49 #[.pointer (some ⟨p, 0, none⟩), .int .i64 i] s R := by
  refine wfun2 hmix ok49 (l := [.pointer (some ⟨p, 0, none⟩), .int .i64 i]) func49 rfl ntmps49 results49 (by simp) ?_
  unfold countV at hR
  simp -implicitDefEqProofs only [↓Zd, (Zp), if_true, if_false, ne_eq, implies_true, forall_const, Nat.reduceEqDiff, reduceIte, reduceCtorEq, Int.reduceEq, Int.reduceNeg, Int.reduceLE, Int.reduceLT, Nat.reduceAdd, Nat.reduceLeDiff, Int.reduceToNat, Nat.reduceMul, Nat.reduceBEq, okPart, Value.cells, cut, okCell, cld2, (HEx), vA, co34]
  refine hfind_spec h hi (fun hno => ?_) (fun j b o hij hb ho hat => ?_)
  · rw [hno] at hR
    simp -implicitDefEqProofs only [↓Zd, (Zp), if_true, if_false, ne_eq, implies_true, forall_const, Nat.reduceEqDiff, reduceIte, reduceCtorEq, Int.reduceEq, Int.reduceNeg, Int.reduceLE, Int.reduceLT, Nat.reduceAdd, Nat.reduceLeDiff, Int.reduceToNat, Nat.reduceMul, Nat.reduceBEq, okPart, Value.cells, cut, okCell, cld2, (HEx), vA]
    exact hR _ (St.le_refl _)
  · rw [hat] at hR
    simp -implicitDefEqProofs only [↓Zd, (Zp), if_true, if_false, ne_eq, implies_true, forall_const, Nat.reduceEqDiff, reduceIte, reduceCtorEq, Int.reduceEq, Int.reduceNeg, Int.reduceLE, Int.reduceLT, Nat.reduceAdd, Nat.reduceLeDiff, Int.reduceToNat, Nat.reduceMul, Nat.reduceBEq, okPart, Value.cells, cut, okCell, cld2, (HEx), vA, co37]
    refine hcount0_spec (h.obj j b o hb ho) fun s1 hs1 => ?_
    simp -implicitDefEqProofs only [↓Zd, (Zp), if_true, if_false, ne_eq, implies_true, forall_const, Nat.reduceEqDiff, reduceIte, reduceCtorEq, Int.reduceEq, Int.reduceNeg, Int.reduceLE, Int.reduceLT, Nat.reduceAdd, Nat.reduceLeDiff, Int.reduceToNat, Nat.reduceMul, Nat.reduceBEq, okPart, Value.cells, cut, okCell, cld2, (HEx), vA]
    exact hR _ hs1
theorem keyV_fits (h : HOk H) (hF : FOk H.F) {j : Nat} {o : Ob} (ho : H.obs[j]? = some o) (hs : 0 < o.shape) {k : Nat} (hk : k < o.L.length) :
    (namesOf H.F (o.shape : Int)).length = o.L.length ∧ ∃ n, (namesOf H.F (o.shape : Int)).reverse[k]? = some n ∧ txtV H.T (n : Int) = keyV o.L (k : Int) := by
  obtain ⟨q0, l, h1, h2⟩ := h.fits j o ho hs
  rw [namesOf_at hs h1]
  have hl : l.length = o.L.length := by
    have := congrArg List.length h2
    simpa using this
  refine ⟨hl, l.reverse[k]'(by simp; omega), List.getElem?_eq_getElem _, ?_⟩
  generalize hn : l.reverse[k]'(by simp; omega) = n
  have hm : n ∈ l := by
    have : n ∈ l.reverse := by rw [← hn]; exact List.getElem_mem _
    simpa using this
  obtain ⟨g1, g2⟩ := h.ids _ _ h1 n hm
  have hx : txt H.T n = (o.L[k]).1 := by
    have : (l.reverse.map (txt H.T))[k]? = (o.L.map (·.1))[k]? := by rw [h2]
    rw [List.getElem?_map, List.getElem?_map, List.getElem?_eq_getElem (by simp; omega), List.getElem?_eq_getElem hk, hn] at this
    simpa using this
  unfold txtV keyV
  rw [if_pos (by omega), if_pos (by omega)]
  simp only [Int.toNat_natCast]
  rw [List.getD_eq_getElem?_getD (l := o.L), List.getElem?_eq_getElem hk]
  simp only [Option.getD_some]
  rw [← hx]
  rfl
theorem hkey_spec (h : HpIn lo s p H N O tg pf pn sl bs) {i k : Int} (hN : N ≤ 1000000) (hi : -9223372036854775808 ≤ i ∧ i ≤ 9223372036854775807) (hk : -9223372036854775808 ≤ k ∧ k ≤ 9223372036854775807)
    (hR : ∀ s', s.le s' → R (match obAt H i with | some o => keyV o.L k | none => .tuple #[.string ⟨#[]⟩, .bool false]) s') : CCalls Try.prog w0 50 #[.pointer (some ⟨p, 0, none⟩), .int .i64 i, .int .i64 k] s R := by
  refine wfun2 hmix ok50 (l := [.pointer (some ⟨p, 0, none⟩), .int .i64 i, .int .i64 k]) func50 rfl ntmps50 results50 (by simp) ?_
  simp -implicitDefEqProofs only [↓Zd, (Zp), if_true, if_false, ne_eq, implies_true, forall_const, Nat.reduceEqDiff, reduceIte, reduceCtorEq, Int.reduceEq, Int.reduceNeg, Int.reduceLE, Int.reduceLT, Nat.reduceAdd, Nat.reduceLeDiff, Int.reduceToNat, Nat.reduceMul, Nat.reduceBEq, okPart, Value.cells, cut, okCell, cld2, (HEx), vA, co34]
  refine hfind_spec h hi (fun hno => ?_) (fun j b o hij hb ho hat => ?_)
  · rw [hno] at hR
    simp -implicitDefEqProofs only [↓Zd, (Zp), if_true, if_false, ne_eq, implies_true, forall_const, Nat.reduceEqDiff, reduceIte, reduceCtorEq, Int.reduceEq, Int.reduceNeg, Int.reduceLE, Int.reduceLT, Nat.reduceAdd, Nat.reduceLeDiff, Int.reduceToNat, Nat.reduceMul, Nat.reduceBEq, okPart, Value.cells, cut, okCell, cld2, (HEx), vA]
    exact hR _ (St.le_refl _)
  · rw [hat] at hR
    simp only at hR
    have hB := h.obj j b o hb ho
    have hbn := (hB.own b hB.pin).2
    have hne : ¬ b = s.next := by omega
    rcases hB.bl with ⟨h0, pd, OD, h1, h2, h3⟩ | ⟨h0, ps, sv, h1, h2, h3, h4, h5, h6⟩
    · simp -implicitDefEqProofs only [↓Zd, (Zp), if_true, if_false, ne_eq, implies_true, forall_const, Nat.reduceEqDiff, reduceIte, reduceCtorEq, Int.reduceEq, Int.reduceNeg, Int.reduceLE, Int.reduceLT, Nat.reduceAdd, Nat.reduceLeDiff, Int.reduceToNat, Nat.reduceMul, Nat.reduceBEq, okPart, Value.cells, cut, okCell, cld2, (HEx), vA, h1, hne, co78]
      refine wfun2 hmix ok78 (l := [.agg #[.pointer (some ⟨pd, 0, none⟩)], .pointer (some ⟨p, 0, none⟩), .int .i64 k]) func78 rfl ntmps78 results78 (by simp) ?_
      have hn : ¬ s.next + 1 = s.next := by omega
      simp -implicitDefEqProofs only [↓Zd, (Zp), if_true, if_false, ne_eq, implies_true, forall_const, Nat.reduceEqDiff, reduceIte, reduceCtorEq, Int.reduceEq, Int.reduceNeg, Int.reduceLE, Int.reduceLT, Nat.reduceAdd, Nat.reduceLeDiff, Int.reduceToNat, Nat.reduceMul, Nat.reduceBEq, okPart, Value.cells, cut, okCell, cld2, (HEx), vA, hn, co91]
      refine dkey_spec (h2.same (s' := ((s.new _).put s.next _).new _) (by simp only [St.next_new, St.next_put]; omega) fun b hb => by have := (h2.own b hb).2; rw [St.at_new, if_neg (by simp only [St.next_new, St.next_put]; omega), St.at_put, if_neg (by omega), St.at_new, if_neg (by omega)]) hN hk fun s1 hs1 => ?_
      have hle : s.le s1 := St.le_trans (St.le_new (St.le_put (St.le_new (St.le_refl _)) (by omega))) hs1
      unfold keyV at *
      split at hR
      · rename_i hc
        simp only [if_pos hc]
        simp -implicitDefEqProofs only [↓Zd, (Zp), if_true, if_false, ne_eq, implies_true, forall_const, Nat.reduceEqDiff, reduceIte, reduceCtorEq, Int.reduceEq, Int.reduceNeg, Int.reduceLE, Int.reduceLT, Nat.reduceAdd, Nat.reduceLeDiff, Int.reduceToNat, Nat.reduceMul, Nat.reduceBEq, okPart, Value.cells, cut, okCell, cld2, (HEx), vA]
        exact hR _ hle
      · rename_i hc
        simp only [if_neg hc]
        simp -implicitDefEqProofs only [↓Zd, (Zp), if_true, if_false, ne_eq, implies_true, forall_const, Nat.reduceEqDiff, reduceIte, reduceCtorEq, Int.reduceEq, Int.reduceNeg, Int.reduceLE, Int.reduceLT, Nat.reduceAdd, Nat.reduceLeDiff, Int.reduceToNat, Nat.reduceMul, Nat.reduceBEq, okPart, Value.cells, cut, okCell, cld2, (HEx), vA]
        exact hR _ hle
    · simp -implicitDefEqProofs only [↓Zd, (Zp), if_true, if_false, ne_eq, implies_true, forall_const, Nat.reduceEqDiff, reduceIte, reduceCtorEq, Int.reduceEq, Int.reduceNeg, Int.reduceLE, Int.reduceLT, Nat.reduceAdd, Nat.reduceLeDiff, Int.reduceToNat, Nat.reduceMul, Nat.reduceBEq, okPart, Value.cells, cut, okCell, cld2, (HEx), vA, h1, hne, co71]
      refine wfun2 hmix ok71 (l := [.pointer (some ⟨ps, 0, none⟩), .pointer (some ⟨p, 0, none⟩), .int .i64 k]) func71 rfl ntmps71 results71 (by simp) ?_
      have hpsn := (hB.own ps h3).2
      have hhb := h.bl
      have hF12 : o.shape ≤ 150 := by
        obtain ⟨q0, l, h1, _⟩ := h.ok.fits j o ho h0
        have := (List.getElem?_eq_some_iff.1 h1).1
        have := h.fo.le
        omega
      have hm : o.L.length ≤ 32 := by have := h.ok.lens j o ho; have := h.ok.lim; omega
      have hNl : (namesOf H.F (o.shape : Int)).length = o.L.length := by
        obtain ⟨q0, l, g1, g2⟩ := h.ok.fits j o ho h0
        rw [namesOf_at h0 g1]
        have := congrArg List.length g2
        simpa using this
      simp -implicitDefEqProofs only [↓Zd, (Zp), if_true, if_false, ne_eq, implies_true, forall_const, Nat.reduceEqDiff, reduceIte, reduceCtorEq, Int.reduceEq, Int.reduceNeg, Int.reduceLE, Int.reduceLT, Nat.reduceAdd, Nat.reduceLeDiff, Int.reduceToNat, Nat.reduceMul, Nat.reduceBEq, okPart, Value.cells, cut, okCell, cld2, (HEx), vA, hhb, h2, ord71, co87]
      refine fnames_spec h.fo (by omega) fun s1 sn hs1 hsn hsb => ?_
      rw [hNl] at hsn
      have hn1 := hs1.1
      have hb1 : s1.at' p = _ := (hs1.2 p (h.own p h.pin.1).2).trans hhb
      obtain ⟨an, cn, rfl⟩ : ∃ a c, sn = .slice a o.L.length c := by
        rcases hsn with ⟨e1, _, rfl⟩ | ⟨b2, junk, rfl, _⟩
        · exact ⟨none, 0, by rw [e1]⟩
        · exact ⟨_, _, rfl⟩
      by_cases k1 : k < 0
      · have hkV : keyV o.L k = .tuple #[.string ⟨#[]⟩, .bool false] := by unfold keyV; rw [if_neg (by omega)]
        rw [hkV] at hR
        simp -implicitDefEqProofs only [↓Zd, (Zp), if_true, if_false, ne_eq, implies_true, forall_const, Nat.reduceEqDiff, reduceIte, reduceCtorEq, Int.reduceEq, Int.reduceNeg, Int.reduceLE, Int.reduceLT, Nat.reduceAdd, Nat.reduceLeDiff, Int.reduceToNat, Nat.reduceMul, Nat.reduceBEq, okPart, Value.cells, cut, okCell, cld2, (HEx), vA, underlying78, sz78, is78, ce78, ag78, ze78, k1]
        exact hR _ hs1
      · by_cases k2 : (o.L.length : Int) ≤ k
        · have hkV : keyV o.L k = .tuple #[.string ⟨#[]⟩, .bool false] := by unfold keyV; rw [if_neg (by omega)]
          rw [hkV] at hR
          simp -implicitDefEqProofs only [↓Zd, (Zp), if_true, if_false, ne_eq, implies_true, forall_const, Nat.reduceEqDiff, reduceIte, reduceCtorEq, Int.reduceEq, Int.reduceNeg, Int.reduceLE, Int.reduceLT, Nat.reduceAdd, Nat.reduceLeDiff, Int.reduceToNat, Nat.reduceMul, Nat.reduceBEq, okPart, Value.cells, cut, okCell, cld2, (HEx), vA, underlying78, sz78, is78, ce78, ag78, ze78, k1, k2]
          exact hR _ hs1
        · obtain ⟨m, rfl⟩ : ∃ m : Nat, k = (m : Int) := ⟨k.toNat, by omega⟩
          obtain ⟨_, n, g1, g2⟩ := keyV_fits h.ok h.fo.ok ho h0 (k := m) (by omega)
          rw [← g2] at hR
          have hnT : 1 ≤ n ∧ n ≤ H.T.length := by
            have hm2 := List.mem_of_getElem? g1
            obtain ⟨q0, l, q1, q2⟩ := h.ok.fits j o ho h0
            rw [namesOf_at h0 q1] at hm2
            exact h.ok.ids _ _ q1 n (by simpa using hm2)
          have htn := h.tn
          rcases hsn with ⟨e0, _⟩ | ⟨b2, junk, e2, hb2, _⟩
          · omega
          cases e2
          have hkk : (0 : Int) ≤ (m : Int) ∧ (m : Int) < (o.L.length : Int) := by omega
          have hg := ints_get (l := (namesOf H.F (o.shape : Int)).reverse) (k := m) junk (by simp; omega)
          have hgn : (namesOf H.F (o.shape : Int)).reverse[m]'(by simp; omega) = n := (List.getElem?_eq_some_iff.1 g1).2
          rw [hgn] at hg
          simp -implicitDefEqProofs only [↓Zd, (Zp), if_true, if_false, ne_eq, implies_true, forall_const, Nat.reduceEqDiff, reduceIte, reduceCtorEq, Int.reduceEq, Int.reduceNeg, Int.reduceLE, Int.reduceLT, Nat.reduceAdd, Nat.reduceLeDiff, Int.reduceToNat, Nat.reduceMul, Nat.reduceBEq, okPart, Value.cells, cut, okCell, cld2, (HEx), vA, underlying78, sz78, is78, ce78, ag78, ze78, k1, k2, hb1, hb2, hkk, hg, ord71, co88, Nat.mul_one]
          refine text_spec (by omega) ((h.le hs1).ta) ?_
          unfold txtV at *
          split at hR
          · rename_i hc
            simp only [if_pos hc]
            simp -implicitDefEqProofs only [↓Zd, (Zp), if_true, if_false, ne_eq, implies_true, forall_const, Nat.reduceEqDiff, reduceIte, reduceCtorEq, Int.reduceEq, Int.reduceNeg, Int.reduceLE, Int.reduceLT, Nat.reduceAdd, Nat.reduceLeDiff, Int.reduceToNat, Nat.reduceMul, Nat.reduceBEq, okPart, Value.cells, cut, okCell, cld2, (HEx), vA, ord71]
            exact hR _ hs1
          · rename_i hc
            simp only [if_neg hc]
            simp -implicitDefEqProofs only [↓Zd, (Zp), if_true, if_false, ne_eq, implies_true, forall_const, Nat.reduceEqDiff, reduceIte, reduceCtorEq, Int.reduceEq, Int.reduceNeg, Int.reduceLE, Int.reduceLT, Nat.reduceAdd, Nat.reduceLeDiff, Int.reduceToNat, Nat.reduceMul, Nat.reduceBEq, okPart, Value.cells, cut, okCell, cld2, (HEx), vA, ord71]
            exact hR _ hs1
theorem hown_spec (h : HpIn lo s p H N O tg pf pn sl bs) {i : Int} {x : ByteArray} (hi : -9223372036854775808 ≤ i ∧ i ≤ 9223372036854775807)
    (hR : ∀ s', s.le s' → R (gotV ((obAt H i).bind fun o => getP o.L x)) s') : CCalls Try.prog w0 51 #[.pointer (some ⟨p, 0, none⟩), .int .i64 i, .string x] s R := by
  refine wfun2 hmix ok51 (l := [.pointer (some ⟨p, 0, none⟩), .int .i64 i, .string x]) func51 rfl ntmps51 results51 (by simp) ?_
  have l1 : s.le (s.new (.cells [.int .i64 0, .int .i64 0, .string ⟨#[]⟩] 37 true)) := St.le_new (St.le_refl _)
  simp -implicitDefEqProofs only [↓Zd, (Zp), if_true, if_false, ne_eq, implies_true, forall_const, Nat.reduceEqDiff, reduceIte, reduceCtorEq, Int.reduceEq, Int.reduceNeg, Int.reduceLE, Int.reduceLT, Nat.reduceAdd, Nat.reduceLeDiff, Int.reduceToNat, Nat.reduceMul, Nat.reduceBEq, okPart, Value.cells, cut, okCell, cld2, (HEx), vA, co34]
  refine hfind_spec (h.le l1) hi (fun hno => ?_) (fun j b o hij hb ho hat => ?_)
  · rw [hno] at hR
    simp only [Option.bind_none, gotV] at hR
    simp -implicitDefEqProofs only [↓Zd, (Zp), if_true, if_false, ne_eq, implies_true, forall_const, Nat.reduceEqDiff, reduceIte, reduceCtorEq, Int.reduceEq, Int.reduceNeg, Int.reduceLE, Int.reduceLT, Nat.reduceAdd, Nat.reduceLeDiff, Int.reduceToNat, Nat.reduceMul, Nat.reduceBEq, okPart, Value.cells, cut, okCell, cld2, (HEx), vA]
    exact hR _ (by repeat (first | exact St.le_refl _ | assumption | refine St.le_new ?_ | refine St.le_put ?_ (by first | omega | (simp only [St.next_new, St.next_put, St.next_kill]; omega)) | refine St.le_trans ?_ (by assumption)))
  · rw [hat] at hR
    simp only [Option.bind_some] at hR
    simp -implicitDefEqProofs only [↓Zd, (Zp), if_true, if_false, ne_eq, implies_true, forall_const, Nat.reduceEqDiff, reduceIte, reduceCtorEq, Int.reduceEq, Int.reduceNeg, Int.reduceLE, Int.reduceLT, Nat.reduceAdd, Nat.reduceLeDiff, Int.reduceToNat, Nat.reduceMul, Nat.reduceBEq, okPart, Value.cells, cut, okCell, cld2, (HEx), vA, co35]
    refine hown0_spec (h.le l1) hb ho fun s1 hs1 => ?_
    have hn1 := hs1.1
    simp only [St.next_new] at hn1
    have e1 : s1.at' s.next = some (.cells [.int .i64 0, .int .i64 0, .string ⟨#[]⟩] 37 true) := by rw [hs1.2 _ (by simp only [St.next_new]; omega), St.at_new, if_pos rfl]
    have hle : s.le s1 := St.le_trans l1 hs1
    cases hg : getP o.L x with
    | none =>
      rw [hg] at hR
      unfold gotV at *
      simp -implicitDefEqProofs only [↓Zd, (Zp), if_true, if_false, ne_eq, implies_true, forall_const, Nat.reduceEqDiff, reduceIte, reduceCtorEq, Int.reduceEq, Int.reduceNeg, Int.reduceLE, Int.reduceLT, Nat.reduceAdd, Nat.reduceLeDiff, Int.reduceToNat, Nat.reduceMul, Nat.reduceBEq, okPart, Value.cells, cut, okCell, cld2, (HEx), vA, e1]
      exact hR _ (St.le_put hle (by omega))
    | some v =>
      rw [hg] at hR
      obtain ⟨a, b, c⟩ := v
      unfold gotV vOf at *
      simp -implicitDefEqProofs only [↓Zd, (Zp), if_true, if_false, ne_eq, implies_true, forall_const, Nat.reduceEqDiff, reduceIte, reduceCtorEq, Int.reduceEq, Int.reduceNeg, Int.reduceLE, Int.reduceLT, Nat.reduceAdd, Nat.reduceLeDiff, Int.reduceToNat, Nat.reduceMul, Nat.reduceBEq, okPart, Value.cells, cut, okCell, cld2, (HEx), vA, e1]
      exact hR _ (St.le_put hle (by omega))
end
end Go.Proofs.Try
set_option linter.unusedSimpArgs false
set_option linter.unusedVariables false
set_option linter.unusedSectionVars false
namespace Go.Proofs.Try
open Go.Cs
open Go.RowKit (Below)
set_option maxRecDepth 100000
attribute [local irreducible] CCalls WLoop WScope CRound WRange
def Deep (H : Hp) (d : Nat → Nat) : Prop := ∀ (i : Nat) (o : Ob), H.obs[i]? = some o → o.proto = 0 ∨ o.proto ≤ H.obs.length ∧ d o.proto < d (i + 1)
def Way (H : Hp) (d : Nat → Nat) (bs : List Nat) (v : Value) (i : Int) (fuel : Nat) : Prop :=
  (obAt H i = none ∧ v = .pointer none ∧ fuel = 0) ∨ ∃ (j b : Nat) (o : Ob), i = ((j + 1 : Nat) : Int) ∧ bs[j]? = some b ∧ H.obs[j]? = some o ∧ v = .pointer (some ⟨b, 0, none⟩) ∧ fuel = d (j + 1) + 1
theorem Way.up {H : Hp} {d : Nat → Nat} (hd : Deep H d) {j b2 j2 : Nat} {o o2 : Ob} {bs : List Nat} (ho : H.obs[j]? = some o) (hij : (o.proto : Int) = ((j2 + 1 : Nat) : Int)) (hb : bs[j2]? = some b2) (ho2 : H.obs[j2]? = some o2) :
    d (j2 + 1) + 1 < d (j + 1) + 1 ∧ Way H d bs (.pointer (some ⟨b2, 0, none⟩)) (o.proto : Int) (d (j2 + 1) + 1) := by
  refine ⟨?_, .inr ⟨j2, b2, o2, hij, hb, ho2, rfl, rfl⟩⟩
  rcases hd j o ho with h | ⟨_, h⟩
  · omega
  · have : o.proto = j2 + 1 := by omega
    rw [this] at h; omega
inductive OnR (H : Hp) (o : Int) : Int → Bool → Prop
  | here : OnR H o o true
  | zero (h : ¬ 0 = o) : OnR H o 0 false
  | up {p : Int} {b : Bool} (h0 : ¬ p = 0) (h1 : ¬ p = o) (hu : OnR H o (protoV H p) b) : OnR H o p b
section
variable {M : Type} [Mem M] {w0 : World} {s : St M} {R : Value → St M → Prop} {lo p N pf pn : Nat} {H : Hp} {O : Nat → Prop} {tg : Nat → Nat} {sl : Value} {bs : List Nat}
theorem hget_spec (h : HpIn lo s p H N O tg pf pn sl bs) {i : Int} {x : ByteArray} (hi : -9223372036854775808 ≤ i ∧ i ≤ 9223372036854775807)
    (hR : ∀ s' v, s.le s' → GetR H x i v → R (vOf v) s') : CCalls Try.prog w0 13 #[.pointer (some ⟨p, 0, none⟩), .int .i64 i, .string x] s R := by
  refine wfun2 hmix ok13 (l := [.pointer (some ⟨p, 0, none⟩), .int .i64 i, .string x]) func13 rfl ntmps13 results13 (by simp) ?_
  have l1 : s.le (s.new (.cells [.int .i64 0, .int .i64 0, .string ⟨#[]⟩] 37 true)) := St.le_new (St.le_refl _)
  obtain ⟨d, hd⟩ := h.ok.up
  have hd : Deep H d := hd
  have hplim : ∀ (i : Nat) (o : Ob), H.obs[i]? = some o → o.proto ≤ 200 := fun i o ho => by
    have := h.ok.lim
    rcases hd i o ho with h | ⟨h, _⟩ <;> omega
  simp -implicitDefEqProofs only [↓Zd, (Zp), if_true, if_false, ne_eq, implies_true, forall_const, Nat.reduceEqDiff, reduceIte, reduceCtorEq, Int.reduceEq, Int.reduceNeg, Int.reduceLE, Int.reduceLT, Nat.reduceAdd, Nat.reduceLeDiff, Int.reduceToNat, Nat.reduceMul, Nat.reduceBEq, okPart, Value.cells, cut, okCell, cld2, (HEx), vA, co34]
  refine hfind_spec (h.le l1) hi (fun hno => ?_) (fun j b o hij hb ho hat => ?_)
  · simp -implicitDefEqProofs only [↓Zd, (Zp), if_true, if_false, ne_eq, implies_true, forall_const, Nat.reduceEqDiff, reduceIte, reduceCtorEq, Int.reduceEq, Int.reduceNeg, Int.reduceLE, Int.reduceLT, Nat.reduceAdd, Nat.reduceLeDiff, Int.reduceToNat, Nat.reduceMul, Nat.reduceBEq, okPart, Value.cells, cut, okCell, cld2, (HEx), vA]
    refine wloop_fix hmix [8, 9, 13, 14, 15, 16, 17, 18, 19, 20, 21, 22, 23, 24, 25, 26, 27, 28, 29, 7] (fun fuel env s1 => (s.new (.cells [.int .i64 0, .int .i64 0, .string ⟨#[]⟩] 37 true)).le s1 ∧ env 7 = .pointer none) 0 ⟨St.le_refl _, rfl⟩ ?_
    rintro fuel env s1 hFx ⟨hs1, e7⟩
    have e6 : env 6 = .pointer (some ⟨s.next, 0, none⟩) := by rw [hFx 6 rfl]; rfl
    have hn1 := hs1.1
    simp only [St.next_new] at hn1
    have c6 : s1.at' s.next = some (.cells [.int .i64 0, .int .i64 0, .string ⟨#[]⟩] 37 true) := by rw [hs1.2 _ (by simp only [St.next_new]; omega), St.at_new, if_pos rfl]
    simp -implicitDefEqProofs only [↓Zd, (Zp), if_true, if_false, ne_eq, implies_true, forall_const, Nat.reduceEqDiff, reduceIte, reduceCtorEq, Int.reduceEq, Int.reduceNeg, Int.reduceLE, Int.reduceLT, Nat.reduceAdd, Nat.reduceLeDiff, Int.reduceToNat, Nat.reduceMul, Nat.reduceBEq, okPart, Value.cells, cut, okCell, cld2, (HEx), vA, e6, e7, c6]
    exact hR _ (0, 0, ⟨#[]⟩) (St.le_put (St.le_trans l1 hs1) (by omega)) (.none hno)
  · simp -implicitDefEqProofs only [↓Zd, (Zp), if_true, if_false, ne_eq, implies_true, forall_const, Nat.reduceEqDiff, reduceIte, reduceCtorEq, Int.reduceEq, Int.reduceNeg, Int.reduceLE, Int.reduceLT, Nat.reduceAdd, Nat.reduceLeDiff, Int.reduceToNat, Nat.reduceMul, Nat.reduceBEq, okPart, Value.cells, cut, okCell, cld2, (HEx), vA]
    refine wloop_fix hmix [8, 9, 13, 14, 15, 16, 17, 18, 19, 20, 21, 22, 23, 24, 25, 26, 27, 28, 29, 7] (fun fuel env s1 => (s.new (.cells [.int .i64 0, .int .i64 0, .string ⟨#[]⟩] 37 true)).le s1 ∧ ∃ i', Way H d bs (env 7) i' fuel ∧ ∀ v, GetR H x i' v → GetR H x i v) (d (j + 1) + 1) ⟨St.le_refl _, i, .inr ⟨j, b, o, hij, hb, ho, rfl, rfl⟩, fun v h => h⟩ ?_
    rintro fuel env s1 hFx ⟨hs1, i', hway, himp⟩
    have e0 : env 0 = .pointer (some ⟨p, 0, none⟩) := by rw [hFx 0 rfl]; rfl
    have e2 : env 2 = .string x := by rw [hFx 2 rfl]; rfl
    have e6 : env 6 = .pointer (some ⟨s.next, 0, none⟩) := by rw [hFx 6 rfl]; rfl
    have hn1 := hs1.1
    simp only [St.next_new] at hn1
    have c6 : s1.at' s.next = some (.cells [.int .i64 0, .int .i64 0, .string ⟨#[]⟩] 37 true) := by rw [hs1.2 _ (by simp only [St.next_new]; omega), St.at_new, if_pos rfl]
    have hle1 := St.le_trans l1 hs1
    rcases hway with ⟨hno, e7, rfl⟩ | ⟨j1, b1, o1, rfl, hb1, ho1, e7, rfl⟩
    · simp -implicitDefEqProofs only [↓Zd, (Zp), if_true, if_false, ne_eq, implies_true, forall_const, Nat.reduceEqDiff, reduceIte, reduceCtorEq, Int.reduceEq, Int.reduceNeg, Int.reduceLE, Int.reduceLT, Nat.reduceAdd, Nat.reduceLeDiff, Int.reduceToNat, Nat.reduceMul, Nat.reduceBEq, okPart, Value.cells, cut, okCell, cld2, (HEx), vA, e6, e7, c6]
      exact hR _ (0, 0, ⟨#[]⟩) (St.le_put hle1 (by omega)) (himp _ (.none hno))
    · simp -implicitDefEqProofs only [↓Zd, (Zp), if_true, if_false, ne_eq, implies_true, forall_const, Nat.reduceEqDiff, reduceIte, reduceCtorEq, Int.reduceEq, Int.reduceNeg, Int.reduceLE, Int.reduceLT, Nat.reduceAdd, Nat.reduceLeDiff, Int.reduceToNat, Nat.reduceMul, Nat.reduceBEq, okPart, Value.cells, cut, okCell, cld2, (HEx), vA, e0, e2, e7, co35]
      refine hown0_spec (h.le hle1) hb1 ho1 fun s2 hs2 => ?_
      have hn2 := hs2.1
      have hle2 := St.le_trans hle1 hs2
      have c62 : s2.at' s.next = some (.cells [.int .i64 0, .int .i64 0, .string ⟨#[]⟩] 37 true) := by rw [hs2.2 _ (by omega)]; exact c6
      have hne : ¬ s.next = s2.next := by omega
      cases hg : getP o1.L x with
      | some v =>
        obtain ⟨a1, a2, a3⟩ := v
        unfold gotV vOf
        simp -implicitDefEqProofs only [↓Zd, (Zp), if_true, if_false, ne_eq, implies_true, forall_const, Nat.reduceEqDiff, reduceIte, reduceCtorEq, Int.reduceEq, Int.reduceNeg, Int.reduceLE, Int.reduceLT, Nat.reduceAdd, Nat.reduceLeDiff, Int.reduceToNat, Nat.reduceMul, Nat.reduceBEq, okPart, Value.cells, cut, okCell, cld2, (HEx), vA, e0, e2, e6, e7, c62, hne]
        exact hR _ (a1, a2, a3) (St.le_put (St.le_put (St.le_new hle2) (by omega)) (by omega)) (himp _ (.own (by rw [obAt_get]; exact ho1) hg))
      | none =>
        obtain ⟨t7, v7, hc⟩ := (h.obj j1 b1 o1 hb1 ho1).cells
        have hb1n : b1 < s.next := by have hB := h.obj j1 b1 o1 hb1 ho1; exact (hB.own b1 hB.pin).2
        have hc2 : s2.at' b1 = _ := (hle2.2 b1 hb1n).trans hc
        have hne2 : ¬ b1 = s2.next := by omega
        have hpl := hplim j1 o1 ho1
        unfold gotV
        simp -implicitDefEqProofs only [↓Zd, (Zp), if_true, if_false, ne_eq, implies_true, forall_const, Nat.reduceEqDiff, reduceIte, reduceCtorEq, Int.reduceEq, Int.reduceNeg, Int.reduceLE, Int.reduceLT, Nat.reduceAdd, Nat.reduceLeDiff, Int.reduceToNat, Nat.reduceMul, Nat.reduceBEq, okPart, Value.cells, cut, okCell, cld2, (HEx), vA, e0, e2, e6, e7, c62, hne, hne2, hc2, co34]
        have hle3 : s.le ((s2.new (.cells [.int .i64 0, .int .i64 0, .string ⟨#[]⟩] 37 true)).put s2.next (.cells [.int .i64 0, .int .i64 0, .string ⟨#[]⟩] 37 true)) := St.le_put (St.le_new hle2) (by omega)
        have hs3 : (s.new (.cells [.int .i64 0, .int .i64 0, .string ⟨#[]⟩] 37 true)).le ((s2.new (.cells [.int .i64 0, .int .i64 0, .string ⟨#[]⟩] 37 true)).put s2.next (.cells [.int .i64 0, .int .i64 0, .string ⟨#[]⟩] 37 true)) := St.le_put (St.le_new (St.le_trans hs1 hs2)) (by simp only [St.next_new]; omega)
        refine hfind_spec (i := (o1.proto : Int)) (h.le hle3) (by omega) (fun hno => ?_) (fun j2 b2 o2 hij2 hb2 ho2 hat2 => ?_)
        · simp -implicitDefEqProofs only [↓Zd, (Zp), if_true, if_false, ne_eq, implies_true, forall_const, Nat.reduceEqDiff, reduceIte, reduceCtorEq, Int.reduceEq, Int.reduceNeg, Int.reduceLE, Int.reduceLT, Nat.reduceAdd, Nat.reduceLeDiff, Int.reduceToNat, Nat.reduceMul, Nat.reduceBEq, okPart, Value.cells, cut, okCell, cld2, (HEx), vA]
          refine ⟨by repeat (first | exact hFx | refine Fix.upd (by decide) ?_), 0, by omega, hs3, (o1.proto : Int), .inl ⟨hno, rfl, rfl⟩, fun v hv => himp v (.up (by rw [obAt_get]; exact ho1) hg hv)⟩
        · have hw := Way.up hd ho1 hij2 hb2 ho2
          simp -implicitDefEqProofs only [↓Zd, (Zp), if_true, if_false, ne_eq, implies_true, forall_const, Nat.reduceEqDiff, reduceIte, reduceCtorEq, Int.reduceEq, Int.reduceNeg, Int.reduceLE, Int.reduceLT, Nat.reduceAdd, Nat.reduceLeDiff, Int.reduceToNat, Nat.reduceMul, Nat.reduceBEq, okPart, Value.cells, cut, okCell, cld2, (HEx), vA]
          refine ⟨by repeat (first | exact hFx | refine Fix.upd (by decide) ?_), d (j2 + 1) + 1, hw.1, hs3, (o1.proto : Int), hw.2, fun v hv => himp v (.up (by rw [obAt_get]; exact ho1) hg hv)⟩
end
end Go.Proofs.Try
set_option linter.unusedSimpArgs false
set_option linter.unusedVariables false
set_option linter.unusedSectionVars false
namespace Go.Proofs.Try
open Go.Cs
open Go.RowKit (Below)
set_option maxRecDepth 100000
attribute [local irreducible] CCalls WLoop WScope CRound WRange
def nextH (H : Hp) (i : Int) (x : ByteArray) : Hp := if (shAt H.F i).isSome then { H with F := addF H.F H.most i (ofI H.T x), T := ofT H.T x } else H
def nextN (H : Hp) (i : Int) (x : ByteArray) : Nat := if (shAt H.F i).isSome then addN H.F H.most i (ofI H.T x) else 0
theorem next_ok {H : Hp} (h : HOk H) (i : Int) (x : ByteArray) : HOk (nextH H i x) := by
  unfold nextH
  split
  · refine h.more (fun j t ht => addF_get ht) (fun j h1 h2 => ofT_txt x h1 h2) (ofT_len _ _).1 (ofT_nodup h.nodup x) (addF_ids (fun j t ht y hy => ?_) ?_)
    · have := h.ids j t ht y hy
      have := ofT_len H.T x
      omega
    · have := ofI_ok H.T x
      omega
  · exact h
theorem text_ok {H : Hp} (h : HOk H) (x : ByteArray) : HOk { H with T := ofT H.T x } := by
  refine h.more (F' := H.F) (fun j t ht => ht) (fun j h1 h2 => ofT_txt x h1 h2) (ofT_len _ _).1 (ofT_nodup h.nodup x) (fun j t ht y hy => ?_)
  have := h.ids j t ht y hy
  have := ofT_len H.T x
  omega
section
variable {M : Type} [Mem M] {w0 : World} {s : St M} {R : Value → St M → Prop} {lo p N pf pn : Nat} {H : Hp} {O : Nat → Prop} {tg : Nat → Nat} {sl : Value} {bs : List Nat}
def Rest (s s' : St M) (O O' : Nat → Prop) (tg tg' : Nat → Nat) : Prop := ∀ c, O c → tg c ≠ 1 → tg c ≠ 2 → s'.at' c = s.at' c ∧ O' c ∧ tg' c = tg c
theorem hnext_spec (h : HpIn lo s p H N O tg pf pn sl bs) (hlo : lo ≤ s.next) {i : Int} {x : ByteArray} (hN : N ≤ 1000000) (hi : -9223372036854775808 ≤ i ∧ i ≤ 9223372036854775807)
    (hR : ∀ s' O' tg', HpIn lo s' p (nextH H i x) (N + 1) O' tg' pf pn sl bs → Upd s s' O O' → Rest s s' O O' tg tg' → R (.int .i64 (nextN H i x : Int)) s') : CCalls Try.prog w0 38 #[.pointer (some ⟨p, 0, none⟩), .int .i64 i, .string x] s R := by
  refine wfun2 hmix ok38 (l := [.pointer (some ⟨p, 0, none⟩), .int .i64 i, .string x]) func38 rfl ntmps38 results38 (by simp) ?_
  have hb := h.bl
  have hm := h.mono (N' := N + 1) (by omega)
  simp -implicitDefEqProofs only [↓Zd, (Zp), if_true, if_false, ne_eq, implies_true, forall_const, Nat.reduceEqDiff, reduceIte, reduceCtorEq, Int.reduceEq, Int.reduceNeg, Int.reduceLE, Int.reduceLT, Nat.reduceAdd, Nat.reduceLeDiff, Int.reduceToNat, Nat.reduceMul, Nat.reduceBEq, okPart, Value.cells, cut, okCell, cld2, (HEx), vA, co21]
  refine hdead_spec h ?_
  simp -implicitDefEqProofs only [↓Zd, (Zp), if_true, if_false, ne_eq, implies_true, forall_const, Nat.reduceEqDiff, reduceIte, reduceCtorEq, Int.reduceEq, Int.reduceNeg, Int.reduceLE, Int.reduceLT, Nat.reduceAdd, Nat.reduceLeDiff, Int.reduceToNat, Nat.reduceMul, Nat.reduceBEq, okPart, Value.cells, cut, okCell, cld2, (HEx), vA, hb, co68]
  refine fproto_spec h.fo hi ?_
  cases hsh : shAt H.F i with
  | none =>
    have e1 : nextH H i x = H := by unfold nextH; rw [hsh]; rfl
    have e2 : nextN H i x = 0 := by unfold nextN; rw [hsh]; rfl
    rw [e1, e2] at hR
    simp -implicitDefEqProofs only [↓Zd, (Zp), if_true, if_false, ne_eq, implies_true, forall_const, Nat.reduceEqDiff, reduceIte, reduceCtorEq, Int.reduceEq, Int.reduceNeg, Int.reduceLE, Int.reduceLT, Nat.reduceAdd, Nat.reduceLeDiff, Int.reduceToNat, Nat.reduceMul, Nat.reduceBEq, okPart, Value.cells, cut, okCell, cld2, (HEx), vA]
    exact hR _ _ _ hm .refl fun c h1 _ _ => ⟨rfl, h1, rfl⟩
  | some t =>
    have e1 : nextH H i x = { H with F := addF H.F H.most i (ofI H.T x), T := ofT H.T x } := by unfold nextH; rw [hsh]; rfl
    have e2 : nextN H i x = addN H.F H.most i (ofI H.T x) := by unfold nextN; rw [hsh]; rfl
    have hok := next_ok h.ok i x
    rw [e1] at hR hok
    rw [e2] at hR
    have htn := h.tn
    simp -implicitDefEqProofs only [↓Zd, (Zp), if_true, if_false, ne_eq, implies_true, forall_const, Nat.reduceEqDiff, reduceIte, reduceCtorEq, Int.reduceEq, Int.reduceNeg, Int.reduceLE, Int.reduceLT, Nat.reduceAdd, Nat.reduceLeDiff, Int.reduceToNat, Nat.reduceMul, Nat.reduceBEq, okPart, Value.cells, cut, okCell, cld2, (HEx), vA, hb, ord38, co70]
    refine of_spec h.ta hlo (by omega) fun s1 O1 hT1 hn1 hk1 ho1 => ?_
    have hU1 : Upd s s1 (fun b => O b ∧ tg b = 2) O1 := ⟨hn1, hk1, ho1⟩
    have h1 := hm.newT hU1 hT1 (text_ok h.ok x) (by have := ofT_len H.T x; omega)
    have hUr1 : Upd s s1 O (reO O tg 2 O1) := re_upd hU1
    rw [ofN_eq]
    have hb1 := h1.bl
    simp -implicitDefEqProofs only [↓Zd, (Zp), if_true, if_false, ne_eq, implies_true, forall_const, Nat.reduceEqDiff, reduceIte, reduceCtorEq, Int.reduceEq, Int.reduceNeg, Int.reduceLE, Int.reduceLT, Nat.reduceAdd, Nat.reduceLeDiff, Int.reduceToNat, Nat.reduceMul, Nat.reduceBEq, okPart, Value.cells, cut, okCell, cld2, (HEx), vA, hb1, ord38, co69]
    refine fadd_spec h1.fo (by omega) hi fun s2 O2 hF2 hU2 => ?_
    have h2 := h1.newF hU2 hF2 hok
    have hUr2 := re_upd hU2
    simp -implicitDefEqProofs only [↓Zd, (Zp), if_true, if_false, ne_eq, implies_true, forall_const, Nat.reduceEqDiff, reduceIte, reduceCtorEq, Int.reduceEq, Int.reduceNeg, Int.reduceLE, Int.reduceLT, Nat.reduceAdd, Nat.reduceLeDiff, Int.reduceToNat, Nat.reduceMul, Nat.reduceBEq, okPart, Value.cells, cut, okCell, cld2, (HEx), vA, ord38]
    refine hR _ _ _ h2 (hUr1.trans hUr2) fun c hc t1 t2 => ?_
    have a1 : reO O tg 2 O1 c ∧ reT tg 2 O1 c = tg c := re_tag (fun b hb => (h.own b hb).2) hU1.own t2 ⟨hc, rfl⟩
    have a2 := re_tag (fun b hb => (h1.own b hb).2) hU2.own (j := tg c) t1 a1
    refine ⟨?_, a2.1, a2.2⟩
    rw [re_keep h1.own hU2 c a1.1 (by rw [a1.2]; exact t1), re_keep h.own hU1 c hc t2]
theorem skey_spec (h : HpIn lo s p H N O tg pf pn sl bs) {j ps m : Nat} {o : Ob} {sv : Value} (hN : N ≤ 1000000) (ho : H.obs[j]? = some o) (h0 : 0 < o.shape) (h2 : s.at' ps = some (.cells [.int .i64 (o.shape : Int), sv] 76 true)) (hm : m < o.L.length)
    (hR : ∀ s', s.le s' → R (keyV o.L (m : Int)) s') : CCalls Try.prog w0 71 #[.pointer (some ⟨ps, 0, none⟩), .pointer (some ⟨p, 0, none⟩), .int .i64 (m : Int)] s R := by
  refine wfun2 hmix ok71 (l := [.pointer (some ⟨ps, 0, none⟩), .pointer (some ⟨p, 0, none⟩), .int .i64 (m : Int)]) func71 rfl ntmps71 results71 (by simp) ?_
  have hhb := h.bl
  have hF12 : o.shape ≤ 150 := by
    obtain ⟨q0, l, h1, _⟩ := h.ok.fits j o ho h0
    have := (List.getElem?_eq_some_iff.1 h1).1
    have := h.fo.le
    omega
  have hml : o.L.length ≤ 32 := by have := h.ok.lens j o ho; have := h.ok.lim; omega
  obtain ⟨hNl, n, g1, g2⟩ := keyV_fits h.ok h.fo.ok ho h0 hm
  simp -implicitDefEqProofs only [↓Zd, (Zp), if_true, if_false, ne_eq, implies_true, forall_const, Nat.reduceEqDiff, reduceIte, reduceCtorEq, Int.reduceEq, Int.reduceNeg, Int.reduceLE, Int.reduceLT, Nat.reduceAdd, Nat.reduceLeDiff, Int.reduceToNat, Nat.reduceMul, Nat.reduceBEq, okPart, Value.cells, cut, okCell, cld2, (HEx), vA, hhb, h2, ord71, co87]
  refine fnames_spec h.fo (by omega) fun s1 sn hs1 hsn hsb => ?_
  rw [hNl] at hsn
  have hn1 := hs1.1
  have hb1 : s1.at' p = _ := (hs1.2 p (h.own p h.pin.1).2).trans hhb
  obtain ⟨an, cn, rfl⟩ : ∃ a c, sn = .slice a o.L.length c := by
    rcases hsn with ⟨e1, _, rfl⟩ | ⟨b2, junk, rfl, _⟩
    · exact ⟨none, 0, by rw [e1]⟩
    · exact ⟨_, _, rfl⟩
  have k1 : ¬ (m : Int) < 0 := by omega
  have k2 : ¬ (o.L.length : Int) ≤ (m : Int) := by omega
  rw [← g2] at hR
  have hnT : 1 ≤ n ∧ n ≤ H.T.length := by
    have hm2 := List.mem_of_getElem? g1
    obtain ⟨q0, l, q1, q2⟩ := h.ok.fits j o ho h0
    rw [namesOf_at h0 q1] at hm2
    exact h.ok.ids _ _ q1 n (by simpa using hm2)
  have htn := h.tn
  rcases hsn with ⟨e0, _⟩ | ⟨b2, junk, e2, hb2, _⟩
  · omega
  cases e2
  have hkk : (0 : Int) ≤ (m : Int) ∧ (m : Int) < (o.L.length : Int) := by omega
  have hg := ints_get (l := (namesOf H.F (o.shape : Int)).reverse) (k := m) junk (by simp; omega)
  have hgn : (namesOf H.F (o.shape : Int)).reverse[m]'(by simp; omega) = n := (List.getElem?_eq_some_iff.1 g1).2
  rw [hgn] at hg
  simp -implicitDefEqProofs only [↓Zd, (Zp), if_true, if_false, ne_eq, implies_true, forall_const, Nat.reduceEqDiff, reduceIte, reduceCtorEq, Int.reduceEq, Int.reduceNeg, Int.reduceLE, Int.reduceLT, Nat.reduceAdd, Nat.reduceLeDiff, Int.reduceToNat, Nat.reduceMul, Nat.reduceBEq, okPart, Value.cells, cut, okCell, cld2, (HEx), vA, underlying78, sz78, is78, ce78, ag78, ze78, k1, k2, hb1, hb2, hkk, hg, ord71, co88, Nat.mul_one]
  refine text_spec (by omega) ((h.le hs1).ta) ?_
  unfold txtV at *
  split at hR
  · rename_i hc
    simp only [if_pos hc]
    simp -implicitDefEqProofs only [↓Zd, (Zp), if_true, if_false, ne_eq, implies_true, forall_const, Nat.reduceEqDiff, reduceIte, reduceCtorEq, Int.reduceEq, Int.reduceNeg, Int.reduceLE, Int.reduceLT, Nat.reduceAdd, Nat.reduceLeDiff, Int.reduceToNat, Nat.reduceMul, Nat.reduceBEq, okPart, Value.cells, cut, okCell, cld2, (HEx), vA, ord71]
    exact hR _ hs1
  · rename_i hc
    simp only [if_neg hc]
    simp -implicitDefEqProofs only [↓Zd, (Zp), if_true, if_false, ne_eq, implies_true, forall_const, Nat.reduceEqDiff, reduceIte, reduceCtorEq, Int.reduceEq, Int.reduceNeg, Int.reduceLE, Int.reduceLT, Nat.reduceAdd, Nat.reduceLeDiff, Int.reduceToNat, Nat.reduceMul, Nat.reduceBEq, okPart, Value.cells, cut, okCell, cld2, (HEx), vA, ord71]
    exact hR _ hs1
theorem DictAt.low {lo lo' : Nat} {s : St M} {p : Nat} {L : List (ByteArray × V3)} {N : Nat} {O : Nat → Prop} (h : DictAt lo s p L N O) (hl : lo' ≤ lo) : DictAt lo' s p L N O :=
  ⟨fun b hb => ⟨by have := (h.own b hb).1; omega, (h.own b hb).2⟩, h.pin, h.bl⟩
theorem take_set {L : List (ByteArray × V3)} (hn : (L.map (·.1)).Nodup) {k : Nat} {x : ByteArray} {v : V3} (hk : L[k]? = some (x, v)) : setP (L.take k) x v = L.take (k + 1) := by
  have hl := (List.getElem?_eq_some_iff.1 hk).1
  have e : L.take (k + 1) = L.take k ++ [(x, v)] := by
    rw [List.take_add_one, hk]; rfl
  rw [setP_none, e]
  rw [getP_none]
  intro hm
  obtain ⟨⟨y, w⟩, h1, h2⟩ := List.mem_map.1 hm
  simp only at h2
  subst h2
  obtain ⟨i, hi, h3⟩ := List.getElem_of_mem h1
  have hik : i < k := by simp at hi; omega
  rw [List.getElem_take] at h3
  have e1 : (L.map (·.1))[i]'(by simp; omega) = (L.map (·.1))[k]'(by simp; omega) := by
    simp only [List.getElem_map]
    rw [h3, (List.getElem?_eq_some_iff.1 hk).2]
  have := (List.getElem_inj hn).1 e1
  omega
set_option maxHeartbeats 4000000 in
theorem hloosen_spec (h : HpIn lo s p H N O tg pf pn sl bs) (hlo : lo ≤ s.next) {j b : Nat} {o : Ob} (hN : N ≤ 1000000) (hN2 : 32 ≤ N) (hb : bs[j]? = some b) (ho : H.obs[j]? = some o)
    (hR : ∀ s' pd OD, s'.at' b = some (.cells [.iface 67 (.agg #[.pointer (some ⟨pd, 0, none⟩)]), .int .i64 (o.proto : Int), .int .i64 (o.epoch : Int)] 71 true) → DictAt lo s' pd o.L N OD → (∀ c, OD c → (O c ∧ tg c = j + 3) ∨ s.next ≤ c) → (∀ c, OD c → c ≠ b) → s.next ≤ s'.next →
      (∀ c, c < s.next → ¬ (O c ∧ tg c = j + 3) → s'.at' c = s.at' c) → R (.pointer (some ⟨pd, 0, none⟩)) s') : CCalls Try.prog w0 39 #[.pointer (some ⟨p, 0, none⟩), .pointer (some ⟨b, 0, none⟩)] s R := by
  refine wfun2 hmix ok39 (l := [.pointer (some ⟨p, 0, none⟩), .pointer (some ⟨b, 0, none⟩)]) func39 rfl ntmps39 results39 (by simp) ?_
  have hB := h.obj j b o hb ho
  have hbn := (hB.own b hB.pin).2
  have hne : ¬ b = s.next := by omega
  have hml : o.L.length ≤ 32 := by have := h.ok.lens j o ho; have := h.ok.lim; omega
  rcases hB.bl with ⟨h0, pd, OD, h1, h2, h3⟩ | ⟨h0, ps, sv, h1, h2, h3, h4, h5, h6⟩
  · simp -implicitDefEqProofs only [↓Zd, (Zp), if_true, if_false, ne_eq, implies_true, forall_const, Nat.reduceEqDiff, reduceIte, reduceCtorEq, Int.reduceEq, Int.reduceNeg, Int.reduceLE, Int.reduceLT, Nat.reduceAdd, Nat.reduceLeDiff, Int.reduceToNat, Nat.reduceMul, Nat.reduceBEq, okPart, Value.cells, cut, okCell, cld2, (HEx), vA, h1, hne]
    refine hR _ pd OD ?_ (h2.same (by simp only [St.next_new, St.next_put]; omega) fun c hc => by have := (h2.own c hc).2; rw [St.at_put, if_neg (by omega), St.at_new, if_neg (by omega)]) (fun c hc => .inl (h3 c hc).1) (fun c hc => (h3 c hc).2) (by simp only [St.next_new, St.next_put]; omega) (fun c hc _ => by rw [St.at_put, if_neg (by omega), St.at_new, if_neg (by omega)])
    rw [St.at_put, if_neg hne, St.at_new, if_neg hne]; exact h1
  · simp -implicitDefEqProofs only [↓Zd, (Zp), if_true, if_false, ne_eq, implies_true, forall_const, Nat.reduceEqDiff, reduceIte, reduceCtorEq, Int.reduceEq, Int.reduceNeg, Int.reduceLE, Int.reduceLT, Nat.reduceAdd, Nat.reduceLeDiff, Int.reduceToNat, Nat.reduceMul, Nat.reduceBEq, okPart, Value.cells, cut, okCell, cld2, (HEx), vA, h1, co22]
    refine dnew_spec fun s1 pd hD1 hs1 => ?_
    have hn1 := hs1.1
    have hpsn := (hB.own ps h3).2
    have h21 : s1.at' ps = _ := (hs1.2 ps hpsn).trans h2
    obtain ⟨an, cn, rfl⟩ : ∃ a c, sv = .slice a o.L.length c := by
      rcases h5 with ⟨e1, _, rfl⟩ | ⟨b2, junk, rfl, _⟩
      · exact ⟨none, 0, by rw [e1]⟩
      · exact ⟨_, _, rfl⟩
    simp -implicitDefEqProofs only [↓Zd, (Zp), if_true, if_false, ne_eq, implies_true, forall_const, Nat.reduceEqDiff, reduceIte, reduceCtorEq, Int.reduceEq, Int.reduceNeg, Int.reduceLE, Int.reduceLT, Nat.reduceAdd, Nat.reduceLeDiff, Int.reduceToNat, Nat.reduceMul, Nat.reduceBEq, okPart, Value.cells, cut, okCell, cld2, (HEx), vA, h21]
    refine wloop_fix hmix [41, 42, 43, 44, 11, 10, 45, 46, 47, 48, 49, 50, 51, 12, 13, 52, 53, 54, 55, 56, 40] (fun fuel env s3 => ∃ (k : Nat) (OD : Nat → Prop), fuel = o.L.length - k ∧ k ≤ o.L.length ∧ env 40 = .int .i64 (k : Int) ∧ DictAt s.next s3 pd (o.L.take k) k OD ∧ s.next ≤ s3.next ∧ ∀ c, c < s.next → s3.at' c = s.at' c) o.L.length ⟨0, _, rfl, by omega, rfl, hD1, hn1, hs1.2⟩ ?_
    rintro fuel env s3 hFx ⟨k, OD, rfl, hk, e40, hD3, hn3, hk3⟩
    have e0 : env 0 = .pointer (some ⟨p, 0, none⟩) := by rw [hFx 0 rfl]; rfl
    have e1 : env 1 = .pointer (some ⟨b, 0, none⟩) := by rw [hFx 1 rfl]; rfl
    have e5 : env 5 = .pointer (some ⟨ps, 0, none⟩) := by rw [hFx 5 rfl]; rfl
    have e9 : env 9 = .pointer (some ⟨pd, 0, none⟩) := by rw [hFx 9 rfl]; rfl
    have e38 : env 38 = .slice an o.L.length cn := by rw [hFx 38 rfl]; rfl
    have e39 : env 39 = .int .i64 (o.L.length : Int) := by rw [hFx 39 rfl]; rfl
    have h13 : s3.at' b = _ := (hk3 b hbn).trans h1
    have hpdn := (hD3.own pd hD3.pin).1
    by_cases hkl : (k : Int) < (o.L.length : Int)
    · rcases h5 with ⟨e, _⟩ | ⟨b2, junk, e2, hb2, _⟩
      · omega
      cases e2
      have hb2n := h6 _ _ _ rfl
      simp only at hb2n
      have hb2n := (h.own b2 hb2n.1.1).2
      have hb23 : s3.at' b2 = _ := (hk3 b2 hb2n).trans hb2
      have hkk : (0 : Int) ≤ (k : Int) ∧ (k : Int) < (o.L.length : Int) := by omega
      have hklt : k < o.L.length := by omega
      obtain ⟨x, v, hLk⟩ : ∃ x v, o.L[k]? = some (x, v) := ⟨o.L[k].1, o.L[k].2, by simp [hklt]⟩
      obtain ⟨v1, v2, v3⟩ := v
      obtain ⟨c1, c2⟩ := valsC_cut o.L k x _ junk hLk
      have w1 : IntKind.i64.wrap ((k : Int) + 1) = ((k + 1 : Nat) : Int) := by rw [wrap_i64 (by omega)]; omega
      have hnn : ¬ b2 = s3.next := by omega
      simp -implicitDefEqProofs only [↓Zd, (Zp), if_true, if_false, ne_eq, implies_true, forall_const, Nat.reduceEqDiff, reduceIte, reduceCtorEq, Int.reduceEq, Int.reduceNeg, Int.reduceLE, Int.reduceLT, Nat.reduceAdd, Nat.reduceLeDiff, Int.reduceToNat, Nat.reduceMul, Nat.reduceBEq, okPart, Value.cells, cut, okCell, cld2, (HEx), vA, e0, e5, e9, e38, e39, e40, hkl, hkk, hb23, c1, c2, co71]
      have hps3 : ((s3.new (.cells [.int .i64 0, .int .i64 0, .string ⟨#[]⟩] 37 true)).put s3.next (.cells [.int .i64 v1, .int .i64 v2, .string v3] 37 true)).at' ps = some (.cells [.int .i64 (o.shape : Int), .slice (some ⟨b2, 0, none⟩) o.L.length UNK] 76 true) := by
        rw [St.at_put, if_neg (by omega), St.at_new, if_neg (by omega), hk3 ps hpsn]; exact h2
      refine skey_spec (ps := ps) (h.same (by simp only [St.next_put, St.next_new]; omega) fun c hc => by
        have := (h.own c hc).2
        rw [St.at_put, if_neg (by omega), St.at_new, if_neg (by omega), hk3 c this]) hN ho h0 hps3 hklt fun s4 hs4 => ?_
      have hn4 := hs4.1
      simp only [St.next_put, St.next_new] at hn4
      have hkV : keyV o.L (k : Int) = .tuple #[.string x, .bool true] := by
        unfold keyV
        rw [if_pos (by omega), Int.toNat_natCast, List.getD_eq_getElem?_getD, hLk]; rfl
      rw [hkV]
      have h11 : s4.at' s3.next = some (.cells [.int .i64 v1, .int .i64 v2, .string v3] 37 true) := by rw [hs4.2 _ (by simp only [St.next_put, St.next_new]; omega), St.at_put, if_pos rfl]
      simp -implicitDefEqProofs only [↓Zd, (Zp), if_true, if_false, ne_eq, implies_true, forall_const, Nat.reduceEqDiff, reduceIte, reduceCtorEq, Int.reduceEq, Int.reduceNeg, Int.reduceLE, Int.reduceLT, Nat.reduceAdd, Nat.reduceLeDiff, Int.reduceToNat, Nat.reduceMul, Nat.reduceBEq, okPart, Value.cells, cut, okCell, cld2, (HEx), vA, e0, e5, e9, e38, e39, e40, h11, co40]
      refine dset_spec (hD3.same (by omega) fun c hc => by
        have := (hD3.own c hc).2
        rw [hs4.2 c (by simp only [St.next_put, St.next_new]; omega), St.at_put, if_neg (by omega), St.at_new, if_neg (by omega)]) (by omega) (by omega) fun s5 OD5 hD5 hn5 hk5 ho5 => ?_
      rw [take_set (h.ok.keys j o ho) hLk] at hD5
      simp -implicitDefEqProofs only [↓Zd, (Zp), if_true, if_false, ne_eq, implies_true, forall_const, Nat.reduceEqDiff, reduceIte, reduceCtorEq, Int.reduceEq, Int.reduceNeg, Int.reduceLE, Int.reduceLT, Nat.reduceAdd, Nat.reduceLeDiff, Int.reduceToNat, Nat.reduceMul, Nat.reduceBEq, okPart, Value.cells, cut, okCell, cld2, (HEx), vA, e40, w1]
      refine ⟨by repeat (first | exact hFx | refine Fix.upd (by decide) ?_), o.L.length - (k + 1), by omega, k + 1, OD5, rfl, by omega, rfl, hD5, by omega, fun c hc => ?_⟩
      rw [hk5 c (by omega) (fun hc2 => by have := (hD3.own c hc2).1; omega), hs4.2 c (by simp only [St.next_put, St.next_new]; omega), St.at_put, if_neg (by omega), St.at_new, if_neg (by omega), hk3 c hc]
    · have : k = o.L.length := by omega
      subst this
      rw [List.take_length] at hD3
      have hbl : ∀ (m : Nat), cbuild Try.prog 67 #[(0, .pointer (some ⟨m, 0, none⟩))] = some (.agg #[.pointer (some ⟨m, 0, none⟩)]) := fun m => by kernel_rfl
      have hmk : ∀ v, cmkI Try.prog 67 v = some (.iface 67 v) := fun v => mkI_s underlying67
      simp -implicitDefEqProofs only [↓Zd, (Zp), if_true, if_false, ne_eq, implies_true, forall_const, Nat.reduceEqDiff, reduceIte, reduceCtorEq, Int.reduceEq, Int.reduceNeg, Int.reduceLE, Int.reduceLT, Nat.reduceAdd, Nat.reduceLeDiff, Int.reduceToNat, Nat.reduceMul, Nat.reduceBEq, okPart, Value.cells, cut, okCell, cld2, (HEx), vA, e0, e1, e9, e39, e40, hkl, h13, hbl, hmk]
      refine hR _ pd OD ?_ (((hD3.low hlo).mono (by omega)).same (by simp only [St.next_put]; omega) fun c hc => by
        have := (hD3.own c hc).1
        rw [St.at_put, if_neg (by omega)]) (fun c hc => .inr (hD3.own c hc).1) (fun c hc e => by have := (hD3.own c hc).1; omega) (by simp only [St.next_put]; omega) (fun c hc hno => ?_)
      · rw [St.at_put, if_pos rfl]
      · rw [St.at_put, if_neg (fun e : c = b => hno (e ▸ hB.pin)), hk3 c hc]
end
end Go.Proofs.Try
set_option linter.unusedSimpArgs false
set_option linter.unusedVariables false
set_option linter.unusedSectionVars false
namespace Go.Proofs.Try
open Go.Cs
set_option maxRecDepth 100000
def putO (H : Hp) (i : Int) (o : Ob) : Hp := { H with obs := H.obs.set (i.toNat - 1) o }
def setH (H : Hp) (i : Int) (x : ByteArray) (v : V3) : Hp := match obAt H i with
  | none => H
  | some o => if (getP o.L x).isSome then putO H i { o with L := setP o.L x v }
    else if H.maxP ≤ o.L.length then H
    else if o.shape = 0 then putO H i { L := setP o.L x v, shape := 0, proto := o.proto, epoch := o.epoch + 1 }
    else putO (nextH H o.shape x) i { L := setP o.L x v, shape := nextN H o.shape x, proto := o.proto, epoch := o.epoch + 1 }
def setE (H : Hp) (i : Int) (x : ByteArray) : Int := match obAt H i with
  | none => 4
  | some o => if (getP o.L x).isSome then 0 else if H.maxP ≤ o.L.length then 42 else 0
def makeH (H : Hp) : Hp := if H.maxO ≤ H.obs.length then H else { H with obs := H.obs ++ [{ L := [], shape := growN H.F H.most (0, []), proto := 0, epoch := 0 }], F := growF H.F H.most (0, []) }
def makeV (H : Hp) : Value := if H.maxO ≤ H.obs.length then .tuple #[.int .i64 0, .int .i64 40] else .tuple #[.int .i64 ((H.obs.length + 1 : Nat) : Int), .int .i64 0]
def putH (H : Hp) (i k : Int) (v : V3) : Hp := match obAt H i with
  | none => H
  | some o => if o.shape = 0 then H else if 0 ≤ k then (match o.L[k.toNat]? with
    | some (x, _) => putO H i { o with L := o.L.set k.toNat (x, v) }
    | none => H) else H
theorem OnR.one {H : Hp} {o p : Int} {a b : Bool} (h1 : OnR H o p a) (h2 : OnR H o p b) : a = b := by
  induction h1 with
  | here => cases h2 with
    | here => rfl
    | zero h => exact absurd rfl h
    | up _ h _ => exact absurd rfl h
  | zero h => cases h2 with
    | here => exact absurd rfl h
    | zero _ => rfl
    | up h _ _ => exact absurd rfl h
  | up h0 h1 _ ih => cases h2 with
    | here => exact absurd rfl h1
    | zero _ => exact absurd rfl h0
    | up _ _ hu => exact ih hu
open Classical in
noncomputable def onB (H : Hp) (o p : Int) : Bool := if OnR H o p true then true else false
theorem OnR.eq {H : Hp} {o p : Int} {b : Bool} (h : OnR H o p b) : onB H o p = b := by
  unfold onB
  cases b with
  | true => rw [if_pos h]
  | false => rw [if_neg (fun h2 => by have := h.one h2; cases this)]
theorem putO_ok {H : Hp} (h : HOk H) {i : Int} {o o' : Ob} (hi : obAt H i = some o) (hfit : 0 < o'.shape → ∃ q l, H.F[o'.shape - 1]? = some (q, l) ∧ l.reverse.map (txt H.T) = o'.L.map (·.1)) (hkeys : (o'.L.map (·.1)).Nodup) (hlen : o'.L.length ≤ H.maxP) (hp : o'.proto = o.proto) : HOk (putO H i o') := by
  obtain ⟨j, rfl, hj, ho⟩ := obAt_some hi
  have e : (((j + 1 : Nat) : Int).toNat - 1) = j := by omega
  unfold putO
  rw [e]
  exact h.upd (F' := H.F) (T' := H.T) ho (fun _ _ h => h) (fun _ _ _ => rfl) (Nat.le_refl _) h.nodup h.ids hfit hkeys hlen (up_same ho hp h.up)
theorem putO_pro {H : Hp} (h : HPro H) {i : Int} {o' : Ob} (hp : 0 < o'.shape → ∃ l, H.F[o'.shape - 1]? = some (o'.proto, l)) : HPro (putO H i o') := by
  intro j u hu hs
  simp only [putO, List.getElem?_set] at hu
  split at hu
  · split at hu
    · cases hu; exact hp hs
    · cases hu
  · exact h j u hu hs
theorem keys_app {L : List (ByteArray × V3)} {x : ByteArray} {v : V3} (h : (L.map (·.1)).Nodup) (hx : getP L x = none) : ((L ++ [(x, v)]).map (·.1)).Nodup := by
  rw [List.map_append, List.nodup_append]
  refine ⟨h, by simp, fun a ha b hb e => ?_⟩
  simp at hb
  subst hb; subst e
  exact getP_none.1 hx ha
theorem setP_keys {L : List (ByteArray × V3)} {x : ByteArray} {v w : V3} (h : (L.map (·.1)).Nodup) (hx : getP L x = some w) : (setP L x v).map (·.1) = L.map (·.1) := by
  obtain ⟨k, hk⟩ := getP_some hx
  rw [setP_some h hk, keys_set hk]
theorem next_pro {H : Hp} (h : HPro H) (i : Int) (x : ByteArray) : HPro (nextH H i x) := by
  unfold nextH
  split
  · intro j u hu hs
    obtain ⟨l, hl⟩ := h j u hu hs
    exact ⟨l, addF_get hl⟩
  · exact h
theorem next_obs (H : Hp) (i : Int) (x : ByteArray) : (nextH H i x).obs = H.obs ∧ (nextH H i x).maxP = H.maxP ∧ (nextH H i x).most = H.most ∧ (nextH H i x).maxO = H.maxO := by
  unfold nextH; split <;> exact ⟨rfl, rfl, rfl, rfl⟩
theorem nextN_get {H : Hp} (h : HOk H) {n q : Nat} {l : List Nat} {x : ByteArray} (hn : 0 < n) (hF : H.F[n - 1]? = some (q, l)) (hp : 0 < nextN H n x) :
    (nextH H n x).F[nextN H n x - 1]? = some (q, ofI H.T x :: l) ∧ (ofI H.T x :: l).reverse.map (txt (nextH H n x).T) = l.reverse.map (txt H.T) ++ [x] := by
  have hsh : shAt H.F (n : Int) = some (q, l) := by rw [shAt_at hn, hF]
  unfold nextN at hp
  rw [hsh] at hp
  simp only [Option.isSome_some, if_true] at hp
  obtain ⟨t, ht, h2⟩ := addN_get hp
  rw [hsh] at ht
  cases ht
  have e1 : nextH H n x = { H with F := addF H.F H.most n (ofI H.T x), T := ofT H.T x } := by unfold nextH; rw [hsh]; rfl
  have e2 : nextN H n x = addN H.F H.most n (ofI H.T x) := by unfold nextN; rw [hsh]; rfl
  rw [e1, e2]
  refine ⟨h2, ?_⟩
  rw [List.reverse_cons, List.map_append]
  congr 1
  · apply List.map_congr_left
    intro y hy
    have := h.ids _ _ hF y (by simpa using hy)
    exact ofT_txt x this.1 this.2
  · simp only [List.map_cons, List.map_nil, (ofI_ok H.T x).2.2]
theorem set_ok {H : Hp} (h : HOk H) (i : Int) (x : ByteArray) (v : V3) : HOk (setH H i x v) := by
  unfold setH
  cases ho : obAt H i with
  | none => exact h
  | some o =>
    obtain ⟨j, rfl, hj, hoj⟩ := obAt_some ho
    simp only
    cases hg : getP o.L x with
    | some w =>
      simp only [Option.isSome_some, if_true]
      have hk := setP_keys (v := v) (h.keys j o hoj) hg
      have hl : (setP o.L x v).length = o.L.length := by simpa using congrArg List.length hk
      refine putO_ok h ho (fun hs => ?_) (by rw [hk]; exact h.keys j o hoj) (by rw [hl]; exact h.lens j o hoj) rfl
      obtain ⟨q, l, h1, h2⟩ := h.fits j o hoj hs
      exact ⟨q, l, h1, by rw [h2]; exact hk.symm⟩
    | none =>
      simp only [Option.isSome_none, Bool.false_eq_true, if_false]
      have hsp := setP_none o.L x v hg
      have hkn := keys_app (v := v) (h.keys j o hoj) hg
      split
      · exact h
      · rename_i hlt
        have hlen : (setP o.L x v).length ≤ H.maxP := by rw [hsp]; simp; omega
        split
        · exact putO_ok h ho (fun hs => by simp at hs) (by rw [hsp]; exact hkn) hlen rfl
        · rename_i hs0
          have hob : obAt (nextH H o.shape x) ((j + 1 : Nat) : Int) = some o := by rw [obAt_get, (next_obs H o.shape x).1]; exact hoj
          refine putO_ok (next_ok h o.shape x) hob (fun hs => ?_) (by rw [hsp]; exact hkn) (by rw [(next_obs H o.shape x).2.1]; exact hlen) rfl
          obtain ⟨q, l, h1, h2⟩ := h.fits j o hoj (by omega)
          obtain ⟨g1, g2⟩ := nextN_get h (x := x) (by omega) h1 hs
          refine ⟨q, _, g1, ?_⟩
          rw [g2, h2, hsp]
          simp
theorem set_pro {H : Hp} (h : HOk H) (hp : HPro H) (i : Int) (x : ByteArray) (v : V3) : HPro (setH H i x v) := by
  unfold setH
  cases ho : obAt H i with
  | none => exact hp
  | some o =>
    obtain ⟨j, rfl, hj, hoj⟩ := obAt_some ho
    simp only
    split
    · exact putO_pro hp (fun hs => hp j o hoj hs)
    · split
      · exact hp
      · split
        · exact putO_pro hp (fun hs => by simp at hs)
        · rename_i hs0
          refine putO_pro (next_pro hp _ _) fun hs => ?_
          obtain ⟨l, h1⟩ := hp j o hoj (by omega)
          exact ⟨_, (nextN_get h (x := x) (by omega) h1 hs).1⟩
theorem make_ok {H : Hp} (h : HOk H) : HOk (makeH H) := by
  unfold makeH
  split
  · exact h
  · rename_i hlt
    have hlim := h.lim
    have hm := h.more (F' := growF H.F H.most (0, [])) (T' := H.T) (fun j t ht => growF_get ht) (fun _ _ _ => rfl) (Nat.le_refl _) h.nodup (fun j t ht y hy => by
      rcases growF_mem ht with h1 | rfl
      · exact h.ids j t h1 y hy
      · cases hy)
    have hlast : ∀ (j : Nat) (u : Ob), (H.obs ++ [{ L := [], shape := growN H.F H.most (0, []), proto := 0, epoch := 0 }])[j]? = some u → H.obs[j]? = some u ∨ u = { L := [], shape := growN H.F H.most (0, []), proto := 0, epoch := 0 } := by
      intro j u hu
      by_cases h1 : j < H.obs.length
      · rw [List.getElem?_append_left h1] at hu; exact .inl hu
      · rw [List.getElem?_append_right (by omega)] at hu
        have h0 : j - H.obs.length = 0 := by
          have := (List.getElem?_eq_some_iff.1 hu).1
          simp at this; omega
        rw [h0] at hu
        simp at hu
        exact .inr hu.symm
    refine ⟨hm.nodup, hm.ids, fun j u hu hs => ?_, fun j u hu => ?_, fun j u hu => ?_, ?_, ⟨hlim.1, by simp; omega, hlim.2.2⟩⟩
    · rcases hlast j u hu with h1 | rfl
      · exact hm.fits j u h1 hs
      · exact ⟨0, [], growN_get hs, rfl⟩
    · rcases hlast j u hu with h1 | rfl
      · exact h.keys j u h1
      · exact List.nodup_nil
    · rcases hlast j u hu with h1 | rfl
      · exact h.lens j u h1
      · exact Nat.zero_le _
    · obtain ⟨d, hd⟩ := h.up
      refine ⟨d, fun j u hu => ?_⟩
      rcases hlast j u hu with h1 | rfl
      · rcases hd j u h1 with h2 | ⟨h2, h3⟩
        · exact .inl h2
        · exact .inr ⟨by simp; omega, h3⟩
      · exact .inl rfl
theorem make_pro {H : Hp} (hp : HPro H) : HPro (makeH H) := by
  unfold makeH
  split
  · exact hp
  · intro j u hu hs
    simp only at hu
    by_cases h1 : j < H.obs.length
    · rw [List.getElem?_append_left h1] at hu
      obtain ⟨l, hl⟩ := hp j u hu hs
      exact ⟨l, growF_get hl⟩
    · rw [List.getElem?_append_right (by omega)] at hu
      have h0 : j - H.obs.length = 0 := by
        have := (List.getElem?_eq_some_iff.1 hu).1
        simp at this; omega
      rw [h0] at hu
      simp at hu
      subst hu
      exact ⟨[], growN_get hs⟩
end Go.Proofs.Try
set_option linter.unusedSimpArgs false
set_option linter.unusedVariables false
set_option linter.unusedSectionVars false
namespace Go.Proofs.Try
open Go.Cs
open Go.RowKit (Below)
set_option maxRecDepth 100000
attribute [local irreducible] CCalls WLoop WScope CRound WRange
theorem rowVal (k n : Int) (y : ByteArray) : crow Try.prog 74 1 #[(0, .agg #[.int .i64 k, .int .i64 n, .string y])] = some (.cells [.int .i64 k, .int .i64 n, .string y] 37 true) := by kernel_rfl
theorem infoVal : ∃ ie, Try.prog.info? 37 = some ie ∧ ie.size = 3 ∧ 0 < ie.bytes ∧ ie.bytes ≤ 100 := by
  obtain ⟨ie, h⟩ := Option.isSome_iff_exists.1 is37
  have h1 := ce37
  have h2 : decide (0 < Try.prog.bytesOf 37 ∧ Try.prog.bytesOf 37 ≤ 100) = true := by kernel_rfl
  rw [cellsOf_info h] at h1
  simp only [Program.bytesOf, h, decide_eq_true_eq] at h2
  exact ⟨ie, h, h1, h2.1, h2.2⟩
section
variable {M : Type} [Mem M] {w0 : World} {s : St M} {R : Value → St M → Prop} {lo p N pf pn : Nat} {H : Hp} {O : Nat → Prop} {tg : Nat → Nat} {sl : Value} {bs : List Nat}
theorem app_val {s : St M} {sl : Value} {cs : List Value} {k : Nat} {a b : Int} {y : ByteArray} (hlen : k ≤ 1000000) (hsl : SlU 37 3 s sl cs k) (hfr : ∀ q m c, sl = .slice (some q) m c → q.block < s.next) :
    ∃ s', capp Try.prog #[74, 74] #[sl, .slice (some ⟨s.next, 0, none⟩) 1 1] (s.new (.cells [.int .i64 a, .int .i64 b, .string y] 37 true)) = some (.slice (some ⟨s.next + 1, 0, none⟩) (k + 1) UNK, s') ∧ s'.next = s.next + 2 ∧
      s'.at' (s.next + 1) = some (.cells (cs ++ [.int .i64 a, .int .i64 b, .string y]) 37 true) ∧ (∀ b, b < s.next → (∀ q n c, sl = .slice (some q) n c → b ≠ q.block) → s'.at' b = s.at' b) := by
  obtain ⟨ie, hie, h1, h2, h3⟩ := infoVal
  have hcapp : capp Try.prog #[74, 74] #[sl, .slice (some ⟨s.next, 0, none⟩) 1 1] (s.new (.cells [.int .i64 a, .int .i64 b, .string y] 37 true)) = capp3 Try.prog 37 ie sl (s.new (.cells [.int .i64 a, .int .i64 b, .string y] 37 true)) (cmore ie.size (.slice (some ⟨s.next, 0, none⟩) 1 1) (s.new (.cells [.int .i64 a, .int .i64 b, .string y] 37 true))) :=
    app_eq underlying74 underlying74 hie
  have hv : cmore ie.size (.slice (some ⟨s.next, 0, none⟩) 1 1) (s.new (.cells [.int .i64 a, .int .i64 b, .string y] 37 true)) = some (1, [.int .i64 a, .int .i64 b, .string y]) := by
    simp only [more_at, St.at_new, if_true, more2, h1]; rfl
  obtain ⟨s', h3, h4, h5, h6⟩ := app_rowU (n := k) (k := 1) hie ze37 (by rw [h1]; rfl) h2 hcapp (by omega) (by
    have : (k + 1) * ie.bytes ≤ 1000001 * 100 := Nat.mul_le_mul (by omega) h3
    omega) rfl hv (by rw [h1]; exact hsl.same fun q m c e => by rw [St.at_new, if_neg (by have := hfr q m c e; omega)])
  refine ⟨s', by simpa using h3, by simp at h4; omega, h5, fun b hb hq => ?_⟩
  rw [h6 b (by simp; omega) hq, St.at_new, if_neg (by omega)]
theorem wch_app_val {s : St M} {sl : Value} {cs : List Value} {k : Nat} {a b : Int} {y : ByteArray} {K : Value → St M → Prop} (hlen : k ≤ 1000000) (hsl : SlU 37 3 s sl cs k) (hfr : ∀ q m c, sl = .slice (some q) m c → q.block < s.next)
    (h : ∀ s', s'.next = s.next + 2 → s'.at' (s.next + 1) = some (.cells (cs ++ [.int .i64 a, .int .i64 b, .string y]) 37 true) → (∀ b, b < s.next → (∀ q n c, sl = .slice (some q) n c → b ≠ q.block) → s'.at' b = s.at' b) → K (.slice (some ⟨s.next + 1, 0, none⟩) (k + 1) UNK) s') :
    wch (capp Try.prog #[74, 74] #[sl, .slice (some ⟨s.next, 0, none⟩) 1 1] (s.new (.cells [.int .i64 a, .int .i64 b, .string y] 37 true))) K := by
  obtain ⟨s', h1, h2, h3, h4⟩ := app_val (a := a) (b := b) (y := y) hlen hsl hfr
  exact ⟨_, _, h1, h s' h2 h3 h4⟩
theorem ObAt.head {b : Nat} {o : Ob} {OO : Nat → Prop} {t : TypeId} {v : Value} {N' : Nat} (h : ObAt lo s N b o OO) (hc : s.at' b = some (.cells [.iface t v, .int .i64 (o.proto : Int), .int .i64 (o.epoch : Int)] 71 true)) (q e : Nat) (he : e ≤ N') (hN : N ≤ N') :
    ObAt lo (s.put b (.cells [.iface t v, .int .i64 (q : Int), .int .i64 (e : Int)] 71 true)) N' b { o with proto := q, epoch := e } OO := by
  obtain ⟨h1, h2, h3, h4⟩ := h
  refine ⟨h1, h2, he, ?_⟩
  rcases h4 with ⟨h5, pd, OD, h6, h7, h8⟩ | ⟨h5, ps, sl, h6, h7, h8, h9, h10, h11⟩
  · rw [h6] at hc
    cases hc
    refine .inl ⟨h5, pd, OD, by rw [St.at_put, if_pos rfl], (h7.mono hN).same (Nat.le_refl _) fun c hc => ?_, h8⟩
    rw [St.at_put, if_neg (h8 c hc).2]
  · rw [h6] at hc
    cases hc
    refine .inr ⟨h5, ps, sl, by rw [St.at_put, if_pos rfl], by rw [St.at_put, if_neg h9]; exact h7, h8, h9, h10.same fun q n c e => ?_, h11⟩
    rw [St.at_put, if_neg (h11 q n c e).2.1]
theorem ObAt.loose {s' : St M} {b pd : Nat} {o : Ob} {OD : Nat → Prop} {N' : Nat} (hb : s'.at' b = some (.cells [.iface 67 (.agg #[.pointer (some ⟨pd, 0, none⟩)]), .int .i64 (o.proto : Int), .int .i64 (o.epoch : Int)] 71 true)) (hs : o.shape = 0) (hD : DictAt lo s' pd o.L N' OD) (hne : ∀ c, OD c → c ≠ b) (hlo : lo ≤ b ∧ b < s'.next) (he : o.epoch ≤ N') : ObAt lo s' N' b o (fun c => c = b ∨ OD c) := by
  refine ⟨?_, .inl rfl, he, .inl ⟨hs, pd, OD, hb, hD, fun c hc => ⟨.inr hc, hne c hc⟩⟩⟩
  rintro c (rfl | hc)
  · exact hlo
  · exact hD.own c hc
set_option maxHeartbeats 4000000 in
theorem hset0_spec (h : HpIn lo s p H N O tg pf pn sl bs) (hlo : lo ≤ s.next) {j b : Nat} {o : Ob} {x y : ByteArray} {k n : Int} {w : V3} (hN : N ≤ 1000000) (hN2 : 32 ≤ N) (hb : bs[j]? = some b) (ho : H.obs[j]? = some o) (hx : getP o.L x = some w)
    (hR : ∀ s' O', ObAt lo s' (N + 1) b { o with L := setP o.L x (k, n, y) } O' → Upd s s' (fun c => O c ∧ tg c = j + 3) O' → R (.tuple #[]) s') : CCalls Try.prog w0 36 #[.pointer (some ⟨p, 0, none⟩), .pointer (some ⟨b, 0, none⟩), .string x, vA k n y] s R := by
  refine wfun2 hmix ok36 (l := [.pointer (some ⟨p, 0, none⟩), .pointer (some ⟨b, 0, none⟩), .string x, vA k n y]) func36 rfl ntmps36 results36 (by simp) ?_
  have hB := h.obj j b o hb ho
  have hbn := (hB.own b hB.pin).2
  have hne : ¬ b = s.next := by omega
  have hml : o.L.length ≤ 32 := by have := h.ok.lens j o ho; have := h.ok.lim; omega
  have l1 : s.le (s.new (.cells [.int .i64 k, .int .i64 n, .string y] 37 true)) := St.le_new (St.le_refl _)
  rcases hB.bl with ⟨h0, pd, OD, h1, h2, h3⟩ | ⟨h0, ps, sv, h1, h2, h3, h4, h5, h6⟩
  · simp -implicitDefEqProofs only [↓Zd, (Zp), if_true, if_false, ne_eq, implies_true, forall_const, Nat.reduceEqDiff, reduceIte, reduceCtorEq, Int.reduceEq, Int.reduceNeg, Int.reduceLE, Int.reduceLT, Nat.reduceAdd, Nat.reduceLeDiff, Int.reduceToNat, Nat.reduceMul, Nat.reduceBEq, okPart, Value.cells, cut, okCell, cld2, (HEx), vA, h1, hne, ord36, co39]
    refine hloosen_spec (h.le l1) (by have := l1.1; omega) hN hN2 hb ho fun s1 pd1 OD1 hb1 hD1 ho1 hne1 hn1 hk1 => ?_
    simp only [St.next_new] at hn1 hk1 ho1
    have c7 : s1.at' s.next = some (.cells [.int .i64 k, .int .i64 n, .string y] 37 true) := by
      rw [hk1 _ (by omega) (fun hc => by have := (h.own _ hc.1).2; omega), St.at_new, if_pos rfl]
    have hpdn := hne1 pd1 hD1.pin
    simp -implicitDefEqProofs only [↓Zd, (Zp), if_true, if_false, ne_eq, implies_true, forall_const, Nat.reduceEqDiff, reduceIte, reduceCtorEq, Int.reduceEq, Int.reduceNeg, Int.reduceLE, Int.reduceLT, Nat.reduceAdd, Nat.reduceLeDiff, Int.reduceToNat, Nat.reduceMul, Nat.reduceBEq, okPart, Value.cells, cut, okCell, cld2, (HEx), vA, ord36, c7, co40]
    refine dset_spec (k := k) (n := n) (y := y) hD1 (by omega) hN fun s2 OD2 hD2 hn2 hk2 ho2 => ?_
    simp -implicitDefEqProofs only [↓Zd, (Zp), if_true, if_false, ne_eq, implies_true, forall_const, Nat.reduceEqDiff, reduceIte, reduceCtorEq, Int.reduceEq, Int.reduceNeg, Int.reduceLE, Int.reduceLT, Nat.reduceAdd, Nat.reduceLeDiff, Int.reduceToNat, Nat.reduceMul, Nat.reduceBEq, okPart, Value.cells, cut, okCell, cld2, (HEx), vA, ord36]
    have hb2 : s2.at' b = _ := (hk2 b (by omega) (fun hc => hne1 b hc rfl)).trans hb1
    refine hR _ _ (ObAt.loose (o := { o with L := setP o.L x (k, n, y) }) hb2 h0 hD2 (fun c hc e => ?_) ⟨(hB.own b hB.pin).1, by omega⟩ (by have := hB.ep; show o.epoch ≤ N + 1; omega)) ⟨by omega, fun c hc hno => ?_, fun c hc => ?_⟩
    · subst e
      rcases ho2 c hc with h | h
      · exact hne1 c h rfl
      · omega
    · rw [hk2 c (by omega) (fun hc2 => by rcases ho1 c hc2 with h | h; exact hno h; omega), hk1 c (by omega) hno, St.at_new, if_neg (by omega)]
    · rcases hc with rfl | hc
      · exact .inl hB.pin
      · rcases ho2 c hc with h | h
        · rcases ho1 c h with h | h
          · exact .inl h
          · exact .inr (by omega)
        · exact .inr (by omega)
  · have hpsn := (hB.own ps h3).2
    have hpse : ¬ ps = s.next := by omega
    have hF12 : o.shape ≤ 150 := by
      obtain ⟨q0, l, h1, _⟩ := h.ok.fits j o ho h0
      have := (List.getElem?_eq_some_iff.1 h1).1
      have := h.fo.le
      omega
    rcases slot_fits h.ok ho h0 x with ⟨_, g2⟩ | ⟨m, v, g1, g2, g3⟩
    · rw [g2] at hx; cases hx
    have hml2 := (List.getElem?_eq_some_iff.1 g2).1
    rcases h5 with ⟨e0, _⟩ | ⟨b2, junk, rfl, hb2, hl2⟩
    · omega
    have hb2O := h6 _ _ _ rfl
    simp only at hb2O
    have hb2n := (hB.own b2 hb2O.1).2
    simp -implicitDefEqProofs only [↓Zd, (Zp), if_true, if_false, ne_eq, implies_true, forall_const, Nat.reduceEqDiff, reduceIte, reduceCtorEq, Int.reduceEq, Int.reduceNeg, Int.reduceLE, Int.reduceLT, Nat.reduceAdd, Nat.reduceLeDiff, Int.reduceToNat, Nat.reduceMul, Nat.reduceBEq, okPart, Value.cells, cut, okCell, cld2, (HEx), vA, h1, h2, hne, hpse, ord36, co32]
    refine hslotof_spec (i := (o.shape : Int)) (h.le l1) (by omega) fun s1 hs1 => ?_
    rw [g1]
    have hn1 := hs1.1
    simp only [St.next_new] at hn1
    have k1 : ∀ c, c < s.next → s1.at' c = s.at' c := fun c hc => by rw [hs1.2 c (by simp only [St.next_new]; omega), St.at_new, if_neg (by omega)]
    have c7 : s1.at' s.next = some (.cells [.int .i64 k, .int .i64 n, .string y] 37 true) := by rw [hs1.2 _ (by simp only [St.next_new]; omega), St.at_new, if_pos rfl]
    have hb21 := (k1 b2 hb2n).trans hb2
    have hkk : (0 : Int) ≤ (m : Int) ∧ (m : Int) < (o.L.length : Int) := by omega
    have hset := valsC_set o.L m x (k, n, y) _ junk g2
    obtain ⟨cc1, cc2⟩ := valsC_cut o.L m x _ junk g2
    have hps1 := (k1 ps hpsn).trans h2
    have hsp := setP_some (v := (k, n, y)) (h.ok.keys j o ho) g2
    simp -implicitDefEqProofs only [↓Zd, (Zp), if_true, if_false, ne_eq, implies_true, forall_const, Nat.reduceEqDiff, reduceIte, reduceCtorEq, Int.reduceEq, Int.reduceNeg, Int.reduceLE, Int.reduceLT, Nat.reduceAdd, Nat.reduceLeDiff, Int.reduceToNat, Nat.reduceMul, Nat.reduceBEq, okPart, Value.cells, cut, okCell, cld2, (HEx), vA, ord36, c7, hkk, hb21, hset, cc1, hps1]
    refine hR _ (fun c => O c ∧ tg c = j + 3) ⟨fun c hc => ⟨(hB.own c hc).1, by have := (hB.own c hc).2; simp only [St.next_put]; omega⟩, hB.pin, by have := hB.ep; show o.epoch ≤ N + 1; omega, .inr ⟨h0, ps, _, ?_, ?_, h3, h4, .inr ⟨b2, junk, by rw [hsp, List.length_set], ?_, valsC_len _⟩, fun q n c e => ?_⟩⟩ ⟨by simp only [St.next_put]; omega, fun c hc hno => ?_, fun c hc => .inl hc⟩
    · rw [St.at_put, if_neg (fun e : b = b2 => hb2O.2.1 e.symm), k1 b hbn]; exact h1
    · rw [St.at_put, if_neg (fun e : ps = b2 => hb2O.2.2 e.symm)]; exact hps1
    · rw [St.at_put, if_pos rfl, hsp]
    · cases e
      exact ⟨hb2O.1, hb2O.2⟩
    · rw [St.at_put, if_neg (fun e : c = b2 => hno (e ▸ hb2O.1)), k1 c hc]
theorem HpIn.setO {s' : St M} {O' : Nat → Prop} {i : Int} {j b : Nat} {o' : Ob} (h : HpIn lo s p H N O tg pf pn sl bs) (hi : i = ((j + 1 : Nat) : Int)) (hj : j < H.obs.length) (hb : bs[j]? = some b) (hU : Upd s s' (fun b => O b ∧ tg b = j + 3) O') (hB : ObAt lo s' N b o' O') (hok : HOk (putO H i o')) :
    HpIn lo s' p (putO H i o') N (reO O tg (j + 3) O') (reT tg (j + 3) O') pf pn sl bs := by
  have e : i.toNat - 1 = j := by omega
  unfold putO at *
  rw [e] at hok ⊢
  exact h.newO hj hb hU hB hok
end
end Go.Proofs.Try
set_option linter.unusedSimpArgs false
set_option linter.unusedVariables false
set_option linter.unusedSectionVars false
namespace Go.Proofs.Try
open Go.Cs
open Go.RowKit (Below)
set_option maxRecDepth 100000
attribute [local irreducible] CCalls WLoop WScope CRound WRange
theorem putO_put (H : Hp) (i : Int) (a b : Ob) : putO (putO H i a) i b = putO H i b := by
  unfold putO; simp only [List.set_set]
theorem next_put (H : Hp) (i k : Int) (a : Ob) (x : ByteArray) : nextH (putO H i a) k x = putO (nextH H k x) i a := by
  unfold nextH putO
  by_cases h : (shAt H.F k).isSome
  · simp only [h, if_true]
  · rw [if_neg h, if_neg h]
theorem nextN_put (H : Hp) (i k : Int) (a : Ob) (x : ByteArray) : nextN (putO H i a) k x = nextN H k x := rfl
theorem putO_at {H : Hp} {i : Int} {o a : Ob} {j : Nat} (hi : i = ((j + 1 : Nat) : Int)) (hj : j < H.obs.length) : (putO H i a).obs[j]? = some a := by
  have e : i.toNat - 1 = j := by omega
  unfold putO
  simp only [e]
  rw [List.getElem?_set]
  simp [hj]
theorem bump_ok {H : Hp} (h : HOk H) {i : Int} {o : Ob} (hi : obAt H i = some o) (e : Nat) : HOk (putO H i { o with epoch := e }) := by
  obtain ⟨j, rfl, hj, ho⟩ := obAt_some hi
  exact putO_ok h hi (fun hs => h.fits j o ho hs) (h.keys j o ho) (h.lens j o ho) rfl
section
variable {M : Type} [Mem M] {w0 : World} {s : St M} {R : Value → St M → Prop} {lo p N pf pn : Nat} {H : Hp} {O : Nat → Prop} {tg : Nat → Nat} {sl : Value} {bs : List Nat}
theorem upd_put {b : Nat} {B : Blk} {OO : Nat → Prop} (hb : OO b) : Upd s (s.put b B) OO OO :=
  ⟨Nat.le_refl _, fun c _ hno => by rw [St.at_put, if_neg (fun e : c = b => hno (e ▸ hb))], fun c hc => .inl hc⟩
theorem loose_end {s3 s4 s5 : St M} {O3 OD4 OD5 : Nat → Prop} {tg3 : Nat → Nat} {j b pd q e N5 : Nat} {L' : List (ByteArray × V3)} (hb : O3 b ∧ tg3 b = j + 3) (hbl : lo ≤ b ∧ b < s3.next)
    (hb4 : s4.at' b = some (.cells [.iface 67 (.agg #[.pointer (some ⟨pd, 0, none⟩)]), .int .i64 (q : Int), .int .i64 (e : Int)] 71 true)) (ho4 : ∀ c, OD4 c → (O3 c ∧ tg3 c = j + 3) ∨ s3.next ≤ c) (hne4 : ∀ c, OD4 c → c ≠ b) (hn4 : s3.next ≤ s4.next)
    (hk4 : ∀ c, c < s3.next → ¬ (O3 c ∧ tg3 c = j + 3) → s4.at' c = s3.at' c) (hD5 : DictAt lo s5 pd L' N5 OD5) (hn5 : s4.next ≤ s5.next) (hk5 : ∀ c, c < s4.next → ¬ OD4 c → s5.at' c = s4.at' c) (ho5 : ∀ c, OD5 c → OD4 c ∨ s4.next ≤ c) (he : e ≤ N5) :
    ObAt lo s5 N5 b { L := L', shape := 0, proto := q, epoch := e } (fun c => c = b ∨ OD5 c) ∧ Upd s3 s5 (fun c => O3 c ∧ tg3 c = j + 3) (fun c => c = b ∨ OD5 c) := by
  have hne5 : ∀ c, OD5 c → c ≠ b := fun c hc e => by
    subst e
    rcases ho5 c hc with h | h
    · exact hne4 c h rfl
    · omega
  refine ⟨ObAt.loose (o := { L := L', shape := 0, proto := q, epoch := e }) ((hk5 b (by omega) (fun hc => hne4 b hc rfl)).trans hb4) rfl hD5 hne5 ⟨hbl.1, by omega⟩ he, by omega, fun c hc hno => ?_, fun c hc => ?_⟩
  · rw [hk5 c (by omega) (fun hc2 => by rcases ho4 c hc2 with h | h; exact hno h; omega), hk4 c hc hno]
  · rcases hc with rfl | hc
    · exact .inl hb
    · rcases ho5 c hc with h | h
      · exact ho4 c h
      · exact .inr (by omega)
theorem re_pin {b j : Nat} {O' : Nat → Prop} (hb : O' b) : reO O tg j O' b ∧ reT tg j O' b = j := by
  have := congrFun (re_same O tg j O') b
  exact this.mpr hb
set_option maxHeartbeats 8000000 in
theorem hset_spec (h : HpAt lo s p H N O) (hlo : lo ≤ s.next) {i : Int} {x y : ByteArray} {k n : Int} (hN : N + 3 ≤ 1000000) (hN2 : 32 ≤ N) (hi : -9223372036854775808 ≤ i ∧ i ≤ 9223372036854775807)
    (hR : ∀ s' O', HpAt lo s' p (setH H i x (k, n, y)) (N + 3) O' → Upd s s' O O' → R (.int .i64 (setE H i x)) s') : CCalls Try.prog w0 11 #[.pointer (some ⟨p, 0, none⟩), .int .i64 i, .string x, vA k n y] s R := by
  refine wfun2 hmix ok11 (l := [.pointer (some ⟨p, 0, none⟩), .int .i64 i, .string x, vA k n y]) func11 rfl ntmps11 results11 (by simp) ?_
  obtain ⟨hpro, tg, pf, pn, sl, bs, h⟩ := h
  have l1 : s.le (s.new (.cells [.int .i64 k, .int .i64 n, .string y] 37 true)) := St.le_new (St.le_refl _)
  simp -implicitDefEqProofs only [↓Zd, (Zp), if_true, if_false, ne_eq, implies_true, forall_const, Nat.reduceEqDiff, reduceIte, reduceCtorEq, Int.reduceEq, Int.reduceNeg, Int.reduceLE, Int.reduceLT, Nat.reduceAdd, Nat.reduceLeDiff, Int.reduceToNat, Nat.reduceMul, Nat.reduceBEq, okPart, Value.cells, cut, okCell, cld2, (HEx), vA, co21]
  refine hdead_spec (h.le l1) ?_
  simp -implicitDefEqProofs only [↓Zd, (Zp), if_true, if_false, ne_eq, implies_true, forall_const, Nat.reduceEqDiff, reduceIte, reduceCtorEq, Int.reduceEq, Int.reduceNeg, Int.reduceLE, Int.reduceLT, Nat.reduceAdd, Nat.reduceLeDiff, Int.reduceToNat, Nat.reduceMul, Nat.reduceBEq, okPart, Value.cells, cut, okCell, cld2, (HEx), vA, co34]
  refine hfind_spec (h.le l1) hi (fun hno => ?_) (fun j b o hij hb ho hat => ?_)
  · have e1 : setH H i x (k, n, y) = H := by unfold setH; rw [hno]
    have e2 : setE H i x = 4 := by unfold setE; rw [hno]
    rw [e1, e2] at hR
    simp -implicitDefEqProofs only [↓Zd, (Zp), if_true, if_false, ne_eq, implies_true, forall_const, Nat.reduceEqDiff, reduceIte, reduceCtorEq, Int.reduceEq, Int.reduceNeg, Int.reduceLE, Int.reduceLT, Nat.reduceAdd, Nat.reduceLeDiff, Int.reduceToNat, Nat.reduceMul, Nat.reduceBEq, okPart, Value.cells, cut, okCell, cld2, (HEx), vA]
    exact hR _ _ ⟨hpro, tg, pf, pn, sl, bs, (h.le l1).mono (by omega)⟩ (.of_le l1)
  · have hj := (List.getElem?_eq_some_iff.1 ho).1
    have hhb := h.bl
    have hlim := h.ok.lim
    have hml : o.L.length ≤ 32 := by have := h.ok.lens j o ho; omega
    simp -implicitDefEqProofs only [↓Zd, (Zp), if_true, if_false, ne_eq, implies_true, forall_const, Nat.reduceEqDiff, reduceIte, reduceCtorEq, Int.reduceEq, Int.reduceNeg, Int.reduceLE, Int.reduceLT, Nat.reduceAdd, Nat.reduceLeDiff, Int.reduceToNat, Nat.reduceMul, Nat.reduceBEq, okPart, Value.cells, cut, okCell, cld2, (HEx), vA, co35]
    refine hown0_spec (h.le l1) hb ho fun s1 hs1 => ?_
    have hl1 := St.le_trans l1 hs1
    have hn1 := hs1.1
    simp only [St.next_new] at hn1
    have c7 : s1.at' s.next = some (.cells [.int .i64 k, .int .i64 n, .string y] 37 true) := by rw [hs1.2 _ (by simp only [St.next_new]; omega), St.at_new, if_pos rfl]
    have n7 : ¬ s.next = s1.next := by omega
    have hpn := (h.own p h.pin.1).2
    have np7 : ¬ p = s1.next := by omega
    have hhb1 := (h.le hl1).bl
    cases hg : getP o.L x with
    | some w =>
      obtain ⟨w1, w2, w3⟩ := w
      have e1 : setH H i x (k, n, y) = putO H i { o with L := setP o.L x (k, n, y) } := by unfold setH; rw [hat]; simp only [hg, Option.isSome_some, if_true]
      have e2 : setE H i x = 0 := by unfold setE; rw [hat]; simp only [hg, Option.isSome_some, if_true]
      rw [e1, e2] at hR
      have hok := set_ok h.ok i x (k, n, y)
      have hpr := set_pro h.ok hpro i x (k, n, y)
      rw [e1] at hok hpr
      simp only [gotV, vOf]
      simp -implicitDefEqProofs only [↓Zd, (Zp), if_true, if_false, ne_eq, implies_true, forall_const, Nat.reduceEqDiff, reduceIte, reduceCtorEq, Int.reduceEq, Int.reduceNeg, Int.reduceLE, Int.reduceLT, Nat.reduceAdd, Nat.reduceLeDiff, Int.reduceToNat, Nat.reduceMul, Nat.reduceBEq, okPart, Value.cells, cut, okCell, cld2, (HEx), vA, c7, n7, co36]
      have l2 : s.le ((s1.new (.cells [.int .i64 0, .int .i64 0, .string ⟨#[]⟩] 37 true)).put s1.next (.cells [.int .i64 w1, .int .i64 w2, .string w3] 37 true)) := St.le_put (St.le_new hl1) (by omega)
      have h2 := h.le l2
      refine hset0_spec (k := k) (n := n) (y := y) h2 (by have := l2.1; omega) (by omega) hN2 hb ho hg fun s2 O2 hB2 hU2 => ?_
      simp -implicitDefEqProofs only [↓Zd, (Zp), if_true, if_false, ne_eq, implies_true, forall_const, Nat.reduceEqDiff, reduceIte, reduceCtorEq, Int.reduceEq, Int.reduceNeg, Int.reduceLE, Int.reduceLT, Nat.reduceAdd, Nat.reduceLeDiff, Int.reduceToNat, Nat.reduceMul, Nat.reduceBEq, okPart, Value.cells, cut, okCell, cld2, (HEx), vA]
      have h3 := (h2.mono (N' := N + 1) (by omega)).setO hij hj hb hU2 hB2 hok
      exact hR _ _ ⟨hpr, _, _, _, _, _, h3.mono (by omega)⟩ ((Upd.of_le l2).trans (re_upd hU2))
    | none =>
      simp only [gotV]
      simp -implicitDefEqProofs only [↓Zd, (Zp), if_true, if_false, ne_eq, implies_true, forall_const, Nat.reduceEqDiff, reduceIte, reduceCtorEq, Int.reduceEq, Int.reduceNeg, Int.reduceLE, Int.reduceLT, Nat.reduceAdd, Nat.reduceLeDiff, Int.reduceToNat, Nat.reduceMul, Nat.reduceBEq, okPart, Value.cells, cut, okCell, cld2, (HEx), vA, c7, n7, np7, hhb1, ord11, co37]
      have l2 : s.le ((s1.new (.cells [.int .i64 0, .int .i64 0, .string ⟨#[]⟩] 37 true)).put s1.next (.cells [.int .i64 0, .int .i64 0, .string ⟨#[]⟩] 37 true)) := St.le_put (St.le_new hl1) (by omega)
      refine hcount0_spec ((h.le l2).obj j b o hb ho) fun s2 hs2 => ?_
      have hl2 := St.le_trans l2 hs2
      have hn2 := hs2.1
      simp only [St.next_put, St.next_new] at hn2
      have h2 := h.le hl2
      have hhb2 := h2.bl
      have c72 : s2.at' s.next = some (.cells [.int .i64 k, .int .i64 n, .string y] 37 true) := by rw [hs2.2 _ (by simp only [St.next_put, St.next_new]; omega), St.at_put, if_neg (by omega), St.at_new, if_neg (by omega)]; exact c7
      by_cases hmx : (H.maxP : Int) ≤ (o.L.length : Int)
      · have e1 : setH H i x (k, n, y) = H := by unfold setH; rw [hat]; simp only [hg, Option.isSome_none, Bool.false_eq_true, if_false]; rw [if_pos (by omega)]
        have e2 : setE H i x = 42 := by unfold setE; rw [hat]; simp only [hg, Option.isSome_none, Bool.false_eq_true, if_false]; rw [if_pos (by omega)]
        rw [e1, e2] at hR
        simp -implicitDefEqProofs only [↓Zd, (Zp), if_true, if_false, ne_eq, implies_true, forall_const, Nat.reduceEqDiff, reduceIte, reduceCtorEq, Int.reduceEq, Int.reduceNeg, Int.reduceLE, Int.reduceLT, Nat.reduceAdd, Nat.reduceLeDiff, Int.reduceToNat, Nat.reduceMul, Nat.reduceBEq, okPart, Value.cells, cut, okCell, cld2, (HEx), vA, hhb2, hmx, ord11]
        exact hR _ _ ⟨hpro, tg, pf, pn, sl, bs, h2.mono (by omega)⟩ (.of_le hl2)
      · have e2 : setE H i x = 0 := by unfold setE; rw [hat]; simp only [hg, Option.isSome_none, Bool.false_eq_true, if_false]; rw [if_neg (by omega)]
        rw [e2] at hR
        have hB := h2.obj j b o hb ho
        have hbn := (hB.own b hB.pin).2
        have hep := hB.ep
        have w1 : IntKind.i64.wrap ((o.epoch : Int) + 1) = ((o.epoch + 1 : Nat) : Int) := by rw [wrap_i64 (by omega)]; omega
        have hsp := setP_none o.L x (k, n, y) hg
        have hb7 : ¬ s.next = b := by have := (h.own b hB.pin.1).2; omega
        have hok1 := bump_ok h.ok hat (o.epoch + 1)
        rcases hB.bl with ⟨h0, pd, OD, g1, g2, g3⟩ | ⟨h0, ps, sv, g1, g2, g3, g4, g5, g6⟩
        · have e1 : setH H i x (k, n, y) = putO H i { L := setP o.L x (k, n, y), shape := 0, proto := o.proto, epoch := o.epoch + 1 } := by unfold setH; rw [hat]; simp only [hg, Option.isSome_none, Bool.false_eq_true, if_false]; rw [if_neg (by omega), if_pos h0]
          rw [e1] at hR
          have hok := set_ok h.ok i x (k, n, y)
          have hpr := set_pro h.ok hpro i x (k, n, y)
          rw [e1] at hok hpr
          simp -implicitDefEqProofs only [↓Zd, (Zp), if_true, if_false, ne_eq, implies_true, forall_const, Nat.reduceEqDiff, reduceIte, reduceCtorEq, Int.reduceEq, Int.reduceNeg, Int.reduceLE, Int.reduceLT, Nat.reduceAdd, Nat.reduceLeDiff, Int.reduceToNat, Nat.reduceMul, Nat.reduceBEq, okPart, Value.cells, cut, okCell, cld2, (HEx), vA, hhb2, hmx, g1, w1, ord11, c72, hb7, co39]
          have hB1 := hB.head g1 o.proto (o.epoch + 1) (N' := N + 1) (by omega) (by omega)
          have h3 := (h2.mono (N' := N + 1) (by omega)).setO hij hj hb (upd_put hB.pin) hB1 hok1
          have hU3 := re_upd (tg := tg) (k := j + 3) (upd_put (s := s2) (B := .cells [.iface 67 (.agg #[.pointer (some ⟨pd, 0, none⟩)]), .int .i64 (o.proto : Int), .int .i64 ((o.epoch + 1 : Nat) : Int)] 71 true) hB.pin)
          have ho3 : (putO H i { o with epoch := o.epoch + 1 }).obs[j]? = some { o with epoch := o.epoch + 1 } := putO_at (o := o) hij hj
          refine hloosen_spec h3 (by simp only [St.next_put]; omega) (by omega) (by omega) hb ho3 fun s4 pd4 OD4 hb4 hD4 ho4 hne4 hn4 hk4 => ?_
          have hno7 : ¬ O s.next := fun hc => by have := (h.own _ hc).2; omega
          have hno7' : ¬ reO O tg (j + 3) (fun c => O c ∧ tg c = j + 3) s.next := fun hc => by rcases hc with h | h; exact hno7 h.1; exact hno7 h.1
          have c74 : s4.at' s.next = some (.cells [.int .i64 k, .int .i64 n, .string y] 37 true) := by
            rw [hk4 _ (by simp only [St.next_put]; omega) (fun hc => hno7' hc.1), St.at_put, if_neg hb7]; exact c72
          simp -implicitDefEqProofs only [↓Zd, (Zp), if_true, if_false, ne_eq, implies_true, forall_const, Nat.reduceEqDiff, reduceIte, reduceCtorEq, Int.reduceEq, Int.reduceNeg, Int.reduceLE, Int.reduceLT, Nat.reduceAdd, Nat.reduceLeDiff, Int.reduceToNat, Nat.reduceMul, Nat.reduceBEq, okPart, Value.cells, cut, okCell, cld2, (HEx), vA, c74, ord11, co40]
          refine dset_spec (k := k) (n := n) (y := y) hD4 (by simp only [St.next_put] at hn4; omega) (by omega) fun s5 OD5 hD5 hn5 hk5 ho5 => ?_
          simp -implicitDefEqProofs only [↓Zd, (Zp), if_true, if_false, ne_eq, implies_true, forall_const, Nat.reduceEqDiff, reduceIte, reduceCtorEq, Int.reduceEq, Int.reduceNeg, Int.reduceLE, Int.reduceLT, Nat.reduceAdd, Nat.reduceLeDiff, Int.reduceToNat, Nat.reduceMul, Nat.reduceBEq, okPart, Value.cells, cut, okCell, cld2, (HEx), vA, ord11]
          obtain ⟨hB5, hU5⟩ := loose_end (O3 := reO O tg (j + 3) (fun c => O c ∧ tg c = j + 3)) (tg3 := reT tg (j + 3) (fun c => O c ∧ tg c = j + 3)) (re_pin hB.pin) ⟨(hB.own b hB.pin).1, by simp only [St.next_put]; omega⟩ hb4 ho4 hne4 hn4 hk4 hD5 hn5 hk5 ho5 (by show o.epoch + 1 ≤ _; omega)
          have h5 := (h3.mono (N' := N + 1 + 1) (by omega)).setO hij (by simp only [putO, List.length_set]; exact hj) hb hU5 hB5 (by rw [putO_put]; exact hok)
          rw [putO_put] at h5
          exact hR _ _ ⟨hpr, _, _, _, _, _, h5.mono (by omega)⟩ ((Upd.of_le hl2).trans (hU3.trans (re_upd hU5)))
        · have hpsn := (hB.own ps g3).2
          have hgs : ¬ ps = b := g4
          have h7ps : ¬ s.next = ps := by have := (h.own _ g3.1).2; omega
          have hF12 : o.shape ≤ 150 := by
            obtain ⟨q0, l, h1, _⟩ := h.ok.fits j o ho h0
            have := (List.getElem?_eq_some_iff.1 h1).1
            have := h.fo.le
            omega
          simp -implicitDefEqProofs only [↓Zd, (Zp), if_true, if_false, ne_eq, implies_true, forall_const, Nat.reduceEqDiff, reduceIte, reduceCtorEq, Int.reduceEq, Int.reduceNeg, Int.reduceLE, Int.reduceLT, Nat.reduceAdd, Nat.reduceLeDiff, Int.reduceToNat, Nat.reduceMul, Nat.reduceBEq, okPart, Value.cells, cut, okCell, cld2, (HEx), vA, hhb2, hmx, g1, g2, hgs, w1, ord11, co38]
          have hB1 := hB.head g1 o.proto (o.epoch + 1) (N' := N + 1) (by omega) (by omega)
          have h3 := (h2.mono (N' := N + 1) (by omega)).setO hij hj hb (upd_put hB.pin) hB1 hok1
          have hU3 := re_upd (tg := tg) (k := j + 3) (upd_put (s := s2) (B := .cells [.iface 73 (.pointer (some ⟨ps, 0, none⟩)), .int .i64 (o.proto : Int), .int .i64 ((o.epoch + 1 : Nat) : Int)] 71 true) hB.pin)
          have ho3 : (putO H i { o with epoch := o.epoch + 1 }).obs[j]? = some { o with epoch := o.epoch + 1 } := putO_at (o := o) hij hj
          have hno7 : ¬ O s.next := fun hc => by have := (h.own _ hc).2; omega
          have hno7' : ¬ reO O tg (j + 3) (fun c => O c ∧ tg c = j + 3) s.next := fun hc => by rcases hc with h | h; exact hno7 h.1; exact hno7 h.1
          refine hnext_spec (i := (o.shape : Int)) h3 (by simp only [St.next_put]; omega) (by omega) (by omega) fun s4 O4 tg4 h4 hU4 hT4 => ?_
          rw [next_put] at h4
          rw [nextN_put]
          have hn4 := hU4.next
          simp only [St.next_put] at hn4
          have c74 : s4.at' s.next = some (.cells [.int .i64 k, .int .i64 n, .string y] 37 true) := by
            rw [hU4.keep _ (by simp only [St.next_put]; omega) hno7', St.at_put, if_neg hb7]; exact c72
          have e1 : setH H i x (k, n, y) = putO (nextH H o.shape x) i { L := setP o.L x (k, n, y), shape := nextN H o.shape x, proto := o.proto, epoch := o.epoch + 1 } := by unfold setH; rw [hat]; simp only [hg, Option.isSome_none, Bool.false_eq_true, if_false]; rw [if_neg (by omega), if_neg (by omega)]
          rw [e1] at hR
          have hok := set_ok h.ok i x (k, n, y)
          have hpr := set_pro h.ok hpro i x (k, n, y)
          rw [e1] at hok hpr
          have hin3 : ∀ c, O c ∧ tg c = j + 3 → s4.at' c = (s2.put b (.cells [.iface 73 (.pointer (some ⟨ps, 0, none⟩)), .int .i64 (o.proto : Int), .int .i64 ((o.epoch + 1 : Nat) : Int)] 71 true)).at' c ∧ O4 c ∧ tg4 c = j + 3 := fun c hc => by
            have hp3 := re_pin (O := O) (tg := tg) (j := j + 3) (O' := fun c => O c ∧ tg c = j + 3) hc
            obtain ⟨a1, a2, a3⟩ := hT4 c hp3.1 (by rw [hp3.2]; omega) (by rw [hp3.2]; omega)
            exact ⟨a1, a2, a3.trans hp3.2⟩
          have ho4 : (putO (nextH H (o.shape : Int) x) i { o with epoch := o.epoch + 1 }).obs[j]? = some { o with epoch := o.epoch + 1 } := putO_at (o := o) hij (by rw [(next_obs _ _ _).1]; exact hj)
          have hlt4 : j < (nextH H (o.shape : Int) x).obs.length := by rw [(next_obs _ _ _).1]; exact hj
          have hUall : Upd s s4 O O4 := (Upd.of_le hl2).trans (hU3.trans hU4)
          by_cases hpos : (0 : Int) < ((nextN H (o.shape : Int) x : Nat) : Int)
          · have hps4 : s4.at' ps = some (.cells [.int .i64 (o.shape : Int), sv] 76 true) := by
              rw [(hin3 ps g3).1, St.at_put, if_neg g4]; exact g2
            have hb4 : s4.at' b = some (.cells [.iface 73 (.pointer (some ⟨ps, 0, none⟩)), .int .i64 (o.proto : Int), .int .i64 ((o.epoch + 1 : Nat) : Int)] 71 true) := by
              rw [(hin3 b hB.pin).1, St.at_put, if_pos rfl]
            have hsl4 : SlU 37 3 s4 sv (valsC o.L) o.L.length := g5.same fun q n c e => by
              have := g6 q n c e
              rw [(hin3 _ this.1).1, St.at_put, if_neg this.2.1]
            have hfr4 : ∀ q m c, sv = .slice (some q) m c → q.block < s4.next := fun q m c e => (h4.own _ (hin3 _ (g6 q m c e).1).2.1).2
            have hpsn4 := (h4.own _ (hin3 ps g3).2.1).2
            have hbn4 := (h4.own _ (hin3 b hB.pin).2.1).2
            simp -implicitDefEqProofs only [↓Zd, (Zp), if_true, if_false, ne_eq, implies_true, forall_const, Nat.reduceEqDiff, reduceIte, reduceCtorEq, Int.reduceEq, Int.reduceNeg, Int.reduceLE, Int.reduceLT, Nat.reduceAdd, Nat.reduceLeDiff, Int.reduceToNat, Nat.reduceMul, Nat.reduceBEq, okPart, Value.cells, cut, okCell, cld2, (HEx), vA, hpos, hps4, c74, rowVal, ord11]
            refine wch_app_val (by omega) hsl4 hfr4 fun s5 hn5 hb5 hk5 => ?_
            have hps5 : s5.at' ps = some (.cells [.int .i64 (o.shape : Int), sv] 76 true) := by
              rw [hk5 ps hpsn4 (fun q n c e e2 => (g6 q n c e).2.2 e2.symm)]; exact hps4
            have c75 : s5.at' s.next = some (.cells [.int .i64 k, .int .i64 n, .string y] 37 true) := by
              rw [hk5 _ (by omega) (fun q m c e e2 => hno7 (by have := (g6 q m c e).1.1; rw [← e2] at this; exact this))]; exact c74
            simp -implicitDefEqProofs only [↓Zd, (Zp), if_true, if_false, ne_eq, implies_true, forall_const, Nat.reduceEqDiff, reduceIte, reduceCtorEq, Int.reduceEq, Int.reduceNeg, Int.reduceLE, Int.reduceLT, Nat.reduceAdd, Nat.reduceLeDiff, Int.reduceToNat, Nat.reduceMul, Nat.reduceBEq, okPart, Value.cells, cut, okCell, cld2, (HEx), vA, hps5, c75, ord11]
            have hne5 : ¬ b = ps := fun e => g4 e.symm
            have hB6 : ObAt lo ((s5.put ps (.cells [.int .i64 ((nextN H (o.shape : Int) x : Nat) : Int), sv] 76 true)).put ps (.cells [.int .i64 ((nextN H (o.shape : Int) x : Nat) : Int), .slice (some ⟨s4.next + 1, 0, none⟩) (o.L.length + 1) UNK] 76 true)) (N + 1 + 1) b { L := setP o.L x (k, n, y), shape := nextN H (o.shape : Int) x, proto := o.proto, epoch := o.epoch + 1 } (fun c => (O4 c ∧ tg4 c = j + 3) ∨ c = s4.next + 1) := by
              refine ⟨fun c hc => ?_, .inl (hin3 b hB.pin).2, by show o.epoch + 1 ≤ _; omega, .inr ⟨by show 0 < nextN H (o.shape : Int) x; omega, ps, _, ?_, by rw [St.at_put, if_pos rfl], .inl (hin3 ps g3).2, g4, .inr ⟨s4.next + 1, [], by rw [hsp]; simp, ?_, valsC_len _⟩, fun q m c e => ?_⟩⟩
              · rcases hc with hc | rfl
                · have := h4.own c hc.1
                  simp only [St.next_put]; omega
                · simp only [St.next_put]; omega
              · rw [St.at_put, if_neg hne5, St.at_put, if_neg hne5, hk5 b hbn4 (fun q m c e e2 => (g6 q m c e).2.1 e2.symm)]; exact hb4
              · rw [St.at_put, if_neg (by omega), St.at_put, if_neg (by omega), hb5, hsp, valsC_app, List.append_nil]; rfl
              · cases e
                exact ⟨.inr rfl, by show s4.next + 1 ≠ b; omega, by show s4.next + 1 ≠ ps; omega⟩
            have hU6 : Upd s4 ((s5.put ps (.cells [.int .i64 ((nextN H (o.shape : Int) x : Nat) : Int), sv] 76 true)).put ps (.cells [.int .i64 ((nextN H (o.shape : Int) x : Nat) : Int), .slice (some ⟨s4.next + 1, 0, none⟩) (o.L.length + 1) UNK] 76 true)) (fun c => O4 c ∧ tg4 c = j + 3) (fun c => (O4 c ∧ tg4 c = j + 3) ∨ c = s4.next + 1) := by
              refine ⟨by simp only [St.next_put]; omega, fun c hc hno => ?_, fun c hc => ?_⟩
              · have hcp : ¬ c = ps := fun e => hno (e ▸ (hin3 ps g3).2)
                rw [St.at_put, if_neg hcp, St.at_put, if_neg hcp, hk5 c hc (fun q m k e e2 => hno (by rw [e2]; exact (hin3 _ (g6 q m k e).1).2))]
              · rcases hc with hc | rfl
                · exact .inl hc
                · exact .inr (by omega)
            have h6 := h4.setO hij (by simp only [putO, List.length_set]; exact hlt4) hb hU6 hB6 (by rw [putO_put]; exact hok)
            rw [putO_put] at h6
            exact hR _ _ ⟨hpr, _, _, _, _, _, h6.mono (by omega)⟩ (hUall.trans (re_upd hU6))
          · have hz : nextN H (o.shape : Int) x = 0 := by omega
            simp -implicitDefEqProofs only [↓Zd, (Zp), if_true, if_false, ne_eq, implies_true, forall_const, Nat.reduceEqDiff, reduceIte, reduceCtorEq, Int.reduceEq, Int.reduceNeg, Int.reduceLE, Int.reduceLT, Nat.reduceAdd, Nat.reduceLeDiff, Int.reduceToNat, Nat.reduceMul, Nat.reduceBEq, okPart, Value.cells, cut, okCell, cld2, (HEx), vA, hpos, ord11, c74, co39]
            refine hloosen_spec h4 (by omega) (by omega) (by omega) hb ho4 fun s5 pd5 OD5 hb5 hD5 ho5 hne5 hn5 hk5 => ?_
            have hno4 : ¬ O4 s.next := fun hc => by
              rcases hU4.own _ hc with h | h
              · exact hno7' h
              · simp only [St.next_put] at h; omega
            have c75 : s5.at' s.next = some (.cells [.int .i64 k, .int .i64 n, .string y] 37 true) := by
              rw [hk5 _ (by omega) (fun hc => hno4 hc.1)]; exact c74
            simp -implicitDefEqProofs only [↓Zd, (Zp), if_true, if_false, ne_eq, implies_true, forall_const, Nat.reduceEqDiff, reduceIte, reduceCtorEq, Int.reduceEq, Int.reduceNeg, Int.reduceLE, Int.reduceLT, Nat.reduceAdd, Nat.reduceLeDiff, Int.reduceToNat, Nat.reduceMul, Nat.reduceBEq, okPart, Value.cells, cut, okCell, cld2, (HEx), vA, c75, ord11, co40]
            refine dset_spec (k := k) (n := n) (y := y) hD5 (by omega) (by omega) fun s6 OD6 hD6 hn6 hk6 ho6 => ?_
            simp -implicitDefEqProofs only [↓Zd, (Zp), if_true, if_false, ne_eq, implies_true, forall_const, Nat.reduceEqDiff, reduceIte, reduceCtorEq, Int.reduceEq, Int.reduceNeg, Int.reduceLE, Int.reduceLT, Nat.reduceAdd, Nat.reduceLeDiff, Int.reduceToNat, Nat.reduceMul, Nat.reduceBEq, okPart, Value.cells, cut, okCell, cld2, (HEx), vA, ord11]
            have hpin4 := (hin3 b hB.pin).2
            obtain ⟨hB6, hU6⟩ := loose_end (L' := setP o.L x (k, n, y)) hpin4 (h4.own b hpin4.1) hb5 ho5 hne5 hn5 hk5 hD6 hn6 hk6 ho6 (by show o.epoch + 1 ≤ _; omega)
            rw [hz] at hok hpr hR
            have h6 := (h4.mono (N' := N + 1 + 1 + 1) (by omega)).setO hij (by simp only [putO, List.length_set]; exact hlt4) hb hU6 hB6 (by rw [putO_put]; exact hok)
            rw [putO_put] at h6
            exact hR _ _ ⟨hpr, _, _, _, _, _, h6⟩ (hUall.trans (re_upd hU6))
end
end Go.Proofs.Try
