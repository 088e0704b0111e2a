/- Sites: what comes of what is done, in plain Lean. A lemma file: no statement of its own. -/
import Derived.Test.YtnkichmojbanlaaGreatqST0
set_option linter.unusedSimpArgs false
set_option linter.unusedVariables false
set_option linter.unusedSectionVars false
namespace Go.Proofs.Tryz
open Go.Cs
set_option maxRecDepth 100000
def s0 : Sit := ⟨false, false, false, ⟨#[]⟩, []⟩
def e0 : Ent := ⟨0, 0, 0, 0, []⟩
structure Tab where
  fs : Nat
  n : Nat → Nat
  st : Nat → Nat → Sit
  hits : Nat
  misses : Nat
def hasT (T : Tab) (f k : Int) : Prop := 0 ≤ f ∧ f < T.fs ∧ 0 ≤ k ∧ k < T.n f.toNat
instance (T : Tab) (f k : Int) : Decidable (hasT T f k) := inferInstanceAs (Decidable (_ ∧ _ ∧ _ ∧ _))
def atT (T : Tab) (f k : Int) : Sit := T.st f.toNat k.toNat
def putT (T : Tab) (f k : Int) (z : Sit) : Tab := { T with st := fun a b => if a = f.toNat ∧ b = k.toNat then z else T.st a b }
def hitT (T : Tab) : Tab := { T with hits := T.hits + 1 }
def missT (T : Tab) : Tab := { T with misses := T.misses + 1 }
def playsB (z : Sit) (w : Bool) (x : ByteArray) : Bool := if z.mega then false else if z.used then decide (z.sets = w) && decide (z.name = x) else true
def playsS (z : Sit) (w : Bool) (x : ByteArray) : Sit := if z.used then z else { z with used := true, sets := w, name := x }
def hitI (es : List Ent) (sh : Int) : Option Nat := es.findIdx? fun e => decide ((e.shape : Int) = sh)
def keepS (z : Sit) (e : Ent) : Sit := match hitI z.es e.shape with
  | some i => { z with es := z.es.set i e }
  | none => if 4 ≤ z.es.length then { z with es := [], mega := true } else { z with es := z.es ++ [e] }
def keepO (z : Sit) (r : Option Ent) : Sit := match r with
  | some e => keepS z e
  | none => z
def getT (H : Hp) (T : Tab) (f k o : Int) (x : ByteArray) (r : Option Ent) : Tab :=
  if shapeV H o = 0 then missT T else if ¬ hasT T f k then missT T else if playsB (atT T f k) false x = false then missT T
  else match hitI (playsS (atT T f k) false x).es (shapeV H o) with
    | some i => if holdsE H ((playsS (atT T f k) false x).es.getD i e0) = true then hitT (putT T f k (playsS (atT T f k) false x)) else missT (putT T f k (keepO (playsS (atT T f k) false x) r))
    | none => missT (putT T f k (keepO (playsS (atT T f k) false x) r))
def newE (H : Hp) (o : Int) (x : ByteArray) (v : V3) : Ent := if 0 ≤ slotOf H (shapeV H o) x then ⟨(shapeV H o).toNat, 0, slotOf H (shapeV H o) x, 0, []⟩ else ⟨(shapeV H o).toNat, 0, 0, (shapeV (setH H o x v) o).toNat, []⟩
def setT (H : Hp) (T : Tab) (f k o : Int) (x : ByteArray) (v : V3) : Tab :=
  if shapeV H o = 0 then missT T else if ¬ hasT T f k then missT T else if playsB (atT T f k) true x = false then missT T
  else match hitI (playsS (atT T f k) true x).es (shapeV H o) with
    | some _ => hitT (putT T f k (playsS (atT T f k) true x))
    | none => if setE H o x = 0 ∧ shapeV (setH H o x v) o ≠ 0 then missT (putT T f k (keepS (playsS (atT T f k) true x) (newE H o x v))) else missT (putT T f k (playsS (atT T f k) true x))
def flushT (T : Tab) (f : Int) (m : Bool) : Tab := if 0 ≤ f ∧ f < T.fs then { T with st := fun a b => if a = f.toNat ∧ b < T.n a then { s0 with mega := m || (T.st a b).mega } else T.st a b } else T
structure SitOk (H : Hp) (z : Sit) : Prop where
  few : z.es.length ≤ 4
  mega : z.mega = true → z.es = []
  fresh : z.used = false → z.es = []
  apart : (z.es.map (·.shape)).Nodup
  gets : z.sets = false → ∀ e ∈ z.es, GetOk H z.name e
  sets : z.sets = true → ∀ e ∈ z.es, SetOk H z.name e
def TabOk (H : Hp) (T : Tab) : Prop := ∀ a b, a < T.fs → b < T.n a → SitOk H (T.st a b)
theorem s0_ok (H : Hp) (m : Bool) : SitOk H { s0 with mega := m } := ⟨Nat.zero_le _, fun _ => rfl, fun _ => rfl, List.nodup_nil, fun _ e he => (by cases he), fun _ e he => (by cases he)⟩
theorem SitOk.grows {H G : Hp} (hH : HOk H) (hG : HOk G) (h : Grows H G) {z : Sit} (hz : SitOk H z) : SitOk G z :=
  ⟨hz.few, hz.mega, hz.fresh, hz.apart, fun e a ha => (hz.gets e a ha).grows hH hG h, fun e a ha => (hz.sets e a ha).grows hH hG h⟩
theorem TabOk.grows {H G : Hp} (hH : HOk H) (hG : HOk G) (h : Grows H G) {T : Tab} (hT : TabOk H T) : TabOk G T := fun a b h1 h2 => (hT a b h1 h2).grows hH hG h
theorem TabOk.put {H : Hp} {T : Tab} (hT : TabOk H T) {f k : Int} {z : Sit} (hz : SitOk H z) : TabOk H (putT T f k z) := fun a b h1 h2 => by
  show SitOk H (if a = f.toNat ∧ b = k.toNat then z else T.st a b)
  split
  · exact hz
  · exact hT a b h1 h2
theorem TabOk.miss {H : Hp} {T : Tab} (hT : TabOk H T) : TabOk H (missT T) := hT
theorem TabOk.hit {H : Hp} {T : Tab} (hT : TabOk H T) : TabOk H (hitT T) := hT
theorem TabOk.has {H : Hp} {T : Tab} (hT : TabOk H T) {f k : Int} (h : hasT T f k) : SitOk H (atT T f k) := hT _ _ (by have := h.1; have := h.2.1; omega) (by have := h.2.2; omega)
theorem TabOk.flush {H : Hp} {T : Tab} (hT : TabOk H T) (f : Int) (m : Bool) : TabOk H (flushT T f m) := by
  unfold flushT
  split
  · intro a b h1 h2
    show SitOk H (if a = f.toNat ∧ b < T.n a then { s0 with mega := m || (T.st a b).mega } else T.st a b)
    split
    · exact s0_ok H _
    · exact hT a b h1 h2
  · exact hT
theorem hitI_some {es : List Ent} {sh : Int} {i : Nat} (h : hitI es sh = some i) : ∃ e, es[i]? = some e ∧ (e.shape : Int) = sh ∧ es.getD i e0 = e := by
  unfold hitI at h
  rw [List.findIdx?_eq_some_iff_getElem] at h
  obtain ⟨hi, h1, _⟩ := h
  exact ⟨es[i], List.getElem?_eq_getElem hi, of_decide_eq_true h1, by rw [List.getD_eq_getElem?_getD, List.getElem?_eq_getElem hi]; rfl⟩
theorem hitI_none {es : List Ent} {sh : Int} (h : hitI es sh = none) : ∀ e ∈ es, (e.shape : Int) ≠ sh := by
  unfold hitI at h
  rw [List.findIdx?_eq_none_iff] at h
  intro e he
  exact of_decide_eq_false (h e he)
theorem plays_ok {H : Hp} {z : Sit} (hz : SitOk H z) (w : Bool) (x : ByteArray) : SitOk H (playsS z w x) := by
  unfold playsS
  cases hu : z.used with
  | true => simp only [if_true]; exact hz
  | false =>
    have := hz.fresh hu
    simp only [Bool.false_eq_true, if_false]
    exact ⟨hz.few, hz.mega, fun h => (by cases h), hz.apart, fun _ e he => (by rw [this] at he; cases he), fun _ e he => (by rw [this] at he; cases he)⟩
theorem plays_is {z : Sit} {w : Bool} {x : ByteArray} (h : playsB z w x = true) : z.mega = false ∧ (playsS z w x).sets = w ∧ (playsS z w x).name = x ∧ (playsS z w x).used = true ∧ (playsS z w x).mega = false ∧ (playsS z w x).es = z.es := by
  unfold playsB at h
  cases hm : z.mega with
  | true => rw [hm] at h; simp at h
  | false =>
    rw [hm] at h
    simp only [Bool.false_eq_true, if_false] at h
    unfold playsS
    cases hu : z.used with
    | true =>
      rw [hu] at h
      simp only [if_true, Bool.and_eq_true, decide_eq_true_eq] at h ⊢
      exact ⟨trivial, h.1, h.2, hu, hm, trivial⟩
    | false =>
      simp only [Bool.false_eq_true, if_false]
      exact ⟨trivial, trivial, trivial, trivial, hm, trivial⟩
theorem nodup_set {es : List Ent} (h : (es.map (·.shape)).Nodup) {i : Nat} {e u : Ent} (hi : es[i]? = some u) (hs : u.shape = e.shape) : ((es.set i e).map (·.shape)).Nodup := by
  have : (es.set i e).map (·.shape) = es.map (·.shape) := by
    apply List.ext_getElem?
    intro j
    rw [List.getElem?_map, List.getElem?_map, List.getElem?_set]
    split
    · rename_i e1
      subst e1
      rw [if_pos (List.getElem?_eq_some_iff.1 hi).1, hi]
      simp [hs]
    · rfl
  rw [this]; exact h
theorem mem_set {α : Type} {l : List α} {i : Nat} {a b : α} (h : b ∈ l.set i a) : b ∈ l ∨ b = a := List.mem_or_eq_of_mem_set h
theorem keep_ok {H : Hp} {z : Sit} (hz : SitOk H z) (hu : z.used = true) (hm : z.mega = false) {e : Ent} (hg : z.sets = false → GetOk H z.name e) (hs : z.sets = true → SetOk H z.name e) : SitOk H (keepS z e) := by
  unfold keepS
  cases hi : hitI z.es e.shape with
  | some i =>
    obtain ⟨u, h1, h2, _⟩ := hitI_some hi
    refine ⟨by simpa using hz.few, fun h => (by rw [hm] at h; cases h), fun h => (by rw [hu] at h; cases h), nodup_set hz.apart h1 (by omega), fun h a ha => ?_, fun h a ha => ?_⟩
    · rcases mem_set ha with ha | rfl
      · exact hz.gets h a ha
      · exact hg h
    · rcases mem_set ha with ha | rfl
      · exact hz.sets h a ha
      · exact hs h
  | none =>
    simp only
    split
    · exact ⟨Nat.zero_le _, fun _ => rfl, fun _ => rfl, List.nodup_nil, fun _ a ha => (by cases ha), fun _ a ha => (by cases ha)⟩
    · rename_i hl
      have hn := hitI_none hi
      refine ⟨by simp; omega, fun h => (by rw [hm] at h; cases h), fun h => (by rw [hu] at h; cases h), ?_, fun h a ha => ?_, fun h a ha => ?_⟩
      · show ((z.es ++ [e]).map (·.shape)).Nodup
        rw [List.map_append, List.nodup_append]
        refine ⟨hz.apart, by simp, fun a ha b hb e2 => ?_⟩
        simp only [List.map_cons, List.map_nil, List.mem_singleton] at hb
        subst hb; subst e2
        obtain ⟨u, hu1, hu2⟩ := List.mem_map.1 ha
        exact hn u hu1 (by omega)
      · rcases List.mem_append.1 ha with ha | ha
        · exact hz.gets h a ha
        · rw [List.mem_singleton.1 ha]; exact hg h
      · rcases List.mem_append.1 ha with ha | ha
        · exact hz.sets h a ha
        · rw [List.mem_singleton.1 ha]; exact hs h
theorem get_ok {H : Hp} (h : HOk H) (hp : HPro H) {T : Tab} (hT : TabOk H T) {f k o : Int} {x : ByteArray} {r : Option Ent} (hr : LookE H x o r) : TabOk H (getT H T f k o x r) := by
  unfold getT
  split
  · exact hT.miss
  · rename_i h0
    split
    · exact hT.miss
    · rename_i h1
      have hz := hT.has (Decidable.not_not.1 h1)
      split
      · exact hT.miss
      · rename_i h2
        have hpl := plays_is (Bool.not_eq_false _ ▸ h2)
        have hk : SitOk H (keepO (playsS (atT T f k) false x) r) := by
          cases r with
          | none => exact plays_ok hz false x
          | some e => exact keep_ok (plays_ok hz false x) hpl.2.2.2.1 hpl.2.2.2.2.1 (fun _ => by rw [hpl.2.2.1]; exact (hr.ok h hp h0).1) (fun hs => by rw [hpl.2.1] at hs; cases hs)
        split
        · split
          · exact (hT.put (plays_ok hz false x)).hit
          · exact (hT.put hk).miss
        · exact (hT.put hk).miss
theorem get_hit {H : Hp} (h : HOk H) (hp : HPro H) {z : Sit} (hz : SitOk H z) {x : ByteArray} {o : Int} {i : Nat} (hpl : playsB z false x = true) (hi : hitI (playsS z false x).es (shapeV H o) = some i) (hh : holdsE H ((playsS z false x).es.getD i e0) = true) : GetR H x o (valE H ((playsS z false x).es.getD i e0) o) := by
  obtain ⟨e, h1, h2, h3⟩ := hitI_some hi
  have hp2 := plays_is hpl
  rw [h3] at hh ⊢
  have := (plays_ok hz false x).gets hp2.2.1 e (List.mem_of_getElem? h1)
  rw [hp2.2.2.1] at this
  exact this.get h hp h2.symm hh
theorem set_hit {H : Hp} {z : Sit} (hz : SitOk H z) {x : ByteArray} {o : Int} {i : Nat} (hpl : playsB z true x = true) (hi : hitI (playsS z true x).es (shapeV H o) = some i) : ∃ e, (playsS z true x).es.getD i e0 = e ∧ (playsS z true x).es[i]? = some e ∧ shapeV H o = (e.shape : Int) ∧ SetOk H x e := by
  obtain ⟨e, h1, h2, h3⟩ := hitI_some hi
  have hp2 := plays_is hpl
  have := (plays_ok hz true x).sets hp2.2.1 e (List.mem_of_getElem? h1)
  rw [hp2.2.2.1] at this
  exact ⟨e, h3, h1, h2.symm, this⟩
theorem set_tab {H : Hp} (h : HOk H) (hp : HPro H) {T : Tab} (hT : TabOk H T) (f k o : Int) (x : ByteArray) (v : V3) : TabOk (setH H o x v) (setT H T f k o x v) := by
  have hT' := hT.grows h (set_ok h o x v) (set_grows H o x v)
  unfold setT
  split
  · exact hT'.miss
  · rename_i h0
    split
    · exact hT'.miss
    · rename_i h1
      have hz := hT'.has (Decidable.not_not.1 h1)
      split
      · exact hT'.miss
      · rename_i h2
        have hpl := plays_is (Bool.not_eq_false _ ▸ h2)
        split
        · exact (hT'.put (plays_ok hz true x)).hit
        · split
          · rename_i h3
            refine (hT'.put (keep_ok (plays_ok hz true x) hpl.2.2.2.1 hpl.2.2.2.2.1 (fun hs => ?_) (fun _ => ?_))).miss
            · rw [hpl.2.1] at hs; cases hs
            · rw [hpl.2.2.1]
              exact set_new h hp h0 h3.1 h3.2
          · exact (hT'.put (plays_ok hz true x)).miss
theorem getT_n (H : Hp) (T : Tab) (f k o : Int) (x : ByteArray) (r : Option Ent) : (getT H T f k o x r).fs = T.fs ∧ (getT H T f k o x r).n = T.n ∧ (getT H T f k o x r).hits ≤ T.hits + 1 ∧ (getT H T f k o x r).misses ≤ T.misses + 1 := by
  unfold getT
  split
  · exact ⟨rfl, rfl, Nat.le_succ _, Nat.le_refl _⟩
  · split
    · exact ⟨rfl, rfl, Nat.le_succ _, Nat.le_refl _⟩
    · split
      · exact ⟨rfl, rfl, Nat.le_succ _, Nat.le_refl _⟩
      · split
        · split
          · exact ⟨rfl, rfl, Nat.le_refl _, Nat.le_succ _⟩
          · exact ⟨rfl, rfl, Nat.le_succ _, Nat.le_refl _⟩
        · exact ⟨rfl, rfl, Nat.le_succ _, Nat.le_refl _⟩
theorem setT_n (H : Hp) (T : Tab) (f k o : Int) (x : ByteArray) (v : V3) : (setT H T f k o x v).fs = T.fs ∧ (setT H T f k o x v).n = T.n ∧ (setT H T f k o x v).hits ≤ T.hits + 1 ∧ (setT H T f k o x v).misses ≤ T.misses + 1 := by
  unfold setT
  split
  · exact ⟨rfl, rfl, Nat.le_succ _, Nat.le_refl _⟩
  · split
    · exact ⟨rfl, rfl, Nat.le_succ _, Nat.le_refl _⟩
    · split
      · exact ⟨rfl, rfl, Nat.le_succ _, Nat.le_refl _⟩
      · split
        · exact ⟨rfl, rfl, Nat.le_refl _, Nat.le_succ _⟩
        · split
          · exact ⟨rfl, rfl, Nat.le_succ _, Nat.le_refl _⟩
          · exact ⟨rfl, rfl, Nat.le_succ _, Nat.le_refl _⟩
theorem lookR_total {H : Hp} (h : HOk H) (x : ByteArray) : ∀ p : Int, 0 ≤ p → ∃ r, LookR H x p r := by
  obtain ⟨d, hd⟩ := h.up
  have key : ∀ n : Nat, ∀ p : Int, 0 ≤ p → d p.toNat ≤ n → ∃ r, LookR H x p r := by
    intro n
    induction n with
    | zero =>
      intro p hp hn
      by_cases h0 : p = 0
      · subst h0; exact ⟨_, .stop⟩
      by_cases hs : shapeV H p = 0
      · exact ⟨_, .loose h0 hs⟩
      by_cases hk : 0 ≤ slotOf H (shapeV H p) x
      · exact ⟨_, .hit h0 hs hk⟩
      obtain ⟨o, ho, _, _⟩ := shapeV_some hs
      have hpr : protoV H p = (o.proto : Int) := by unfold protoV; rw [ho]
      obtain ⟨j, rfl, hj, hoj⟩ := obAt_some ho
      rcases hd j o hoj with h1 | ⟨_, h1⟩
      · exact ⟨_, .up h0 hs (by omega) (by rw [hpr, h1]; exact .stop)⟩
      · rw [Int.toNat_natCast] at hn; omega
    | succ n ih =>
      intro p hp hn
      by_cases h0 : p = 0
      · subst h0; exact ⟨_, .stop⟩
      by_cases hs : shapeV H p = 0
      · exact ⟨_, .loose h0 hs⟩
      by_cases hk : 0 ≤ slotOf H (shapeV H p) x
      · exact ⟨_, .hit h0 hs hk⟩
      obtain ⟨o, ho, _, _⟩ := shapeV_some hs
      have hpr : protoV H p = (o.proto : Int) := by unfold protoV; rw [ho]
      obtain ⟨j, rfl, hj, hoj⟩ := obAt_some ho
      rcases hd j o hoj with h1 | ⟨_, h1⟩
      · exact ⟨_, .up h0 hs (by omega) (by rw [hpr, h1]; exact .stop)⟩
      · rw [Int.toNat_natCast] at hn
        obtain ⟨r, hr⟩ := ih (protoV H ((j + 1 : Nat) : Int)) (by rw [hpr]; omega) (by rw [hpr, Int.toNat_natCast]; omega)
        exact ⟨_, .up h0 hs (by omega) hr⟩
  exact fun p hp => key _ p hp (Nat.le_refl _)
theorem look_total {H : Hp} (h : HOk H) (x : ByteArray) (o : Int) : ∃ r, LookE H x o r := by
  unfold LookE
  by_cases hk : 0 ≤ slotOf H (shapeV H o) x
  · exact ⟨_, by rw [if_pos hk]⟩
  · have hp : 0 ≤ protoV H o := by unfold protoV; split <;> omega
    obtain ⟨r, hr⟩ := lookR_total h x _ hp
    exact ⟨_, by rw [if_neg hk]; exact ⟨r, hr, rfl⟩⟩
end Go.Proofs.Tryz
