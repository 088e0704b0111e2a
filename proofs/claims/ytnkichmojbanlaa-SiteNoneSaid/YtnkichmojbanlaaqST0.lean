/- Sites: what they hold, and when it is so, in plain Lean. A lemma file: no statement of its own. -/
import Derived.Test.YtnkichmojbanlaaqHH0
import Derived.Test.YtnkichmojbanlaaqZ3
import Derived.Test.YtnkichmojbanlaaqHC0
set_option linter.unusedSimpArgs false
set_option linter.unusedVariables false
set_option linter.unusedSectionVars false
namespace Go.Proofs.Try
open Go.Cs
set_option maxRecDepth 100000
structure Grows (H G : Hp) : Prop where
  F : ∀ (j : Nat) (t : Sh), H.F[j]? = some t → G.F[j]? = some t
  T : ∀ (j : Nat) (x : ByteArray), H.T[j]? = some x → G.T[j]? = some x
  obs : ∀ (i : Int) (o : Ob), obAt H i = some o → ∃ u, obAt G i = some u ∧ o.epoch ≤ u.epoch ∧ (u.epoch = o.epoch → u.shape = o.shape)
theorem Grows.refl (H : Hp) : Grows H H := ⟨fun _ _ h => h, fun _ _ h => h, fun _ o h => ⟨o, h, Nat.le_refl _, fun _ => rfl⟩⟩
theorem Grows.trans {H G K : Hp} (h1 : Grows H G) (h2 : Grows G K) : Grows H K :=
  ⟨fun j t h => h2.F j t (h1.F j t h), fun j t h => h2.T j t (h1.T j t h), fun i o h => by
    obtain ⟨u, hu, e1, e2⟩ := h1.obs i o h
    obtain ⟨v, hv, e3, e4⟩ := h2.obs i u hu
    exact ⟨v, hv, by omega, fun e => by rw [e4 (by omega), e2 (by omega)]⟩⟩
theorem obAt_putO {H : Hp} {i : Int} {o u : Ob} (hi : obAt H i = some o) (k : Int) : obAt (putO H i u) k = if k = i then some u else obAt H k := by
  obtain ⟨j, rfl, hj, hoj⟩ := obAt_some hi
  unfold obAt putO
  by_cases hk : k = ((j + 1 : Nat) : Int)
  · subst hk
    rw [if_pos rfl, if_pos (by omega)]
    simp only [List.getElem?_set]
    rw [if_pos trivial, if_pos (by omega)]
  · rw [if_neg hk]
    split
    · simp only [List.getElem?_set]
      rw [if_neg (by omega)]
    · rfl
theorem Grows.put {H G : Hp} (h : Grows H G) (hobs : G.obs = H.obs) {i : Int} {o u : Ob} (ho : obAt H i = some o) (he : o.epoch ≤ u.epoch) (hs : u.epoch = o.epoch → u.shape = o.shape) : Grows H (putO G i u) := by
  have hoG : ∀ k, obAt G k = obAt H k := fun k => by unfold obAt; rw [hobs]
  refine ⟨h.F, h.T, fun k a ha => ?_⟩
  rw [obAt_putO (o := o) (by rw [hoG]; exact ho)]
  by_cases e : k = i
  · subst e
    rw [ho] at ha
    cases ha
    exact ⟨u, by rw [if_pos rfl], he, hs⟩
  · exact ⟨a, by rw [if_neg e, hoG]; exact ha, Nat.le_refl _, fun _ => rfl⟩
structure Ent where
  shape : Nat
  holder : Int
  slot : Int
  to : Nat
  deps : List (Nat × Nat)
structure Sit where
  used : Bool
  sets : Bool
  mega : Bool
  name : ByteArray
  es : List Ent
inductive Chain (H : Hp) (x : ByteArray) : Nat → List (Nat × Nat) → Int → Int → Prop
  | stop : Chain H x 0 [] (-1) 0
  | hit {q E n pr : Nat} {l : List Nat} {o : Ob} {k : Int} (hq : 0 < q) (ho : obAt H q = some o) (hE : E ≤ o.epoch) (hs : o.epoch = E → o.shape = n) (hn : 0 < n) (hF : H.F[n - 1]? = some (pr, l)) (hk : slotOf H n x = k) (hk0 : 0 ≤ k) : Chain H x q [(q, E)] q k
  | up {q E n pr : Nat} {l : List Nat} {o : Ob} {ds : List (Nat × Nat)} {h k : Int} (hq : 0 < q) (ho : obAt H q = some o) (hE : E ≤ o.epoch) (hs : o.epoch = E → o.shape = n) (hn : 0 < n) (hF : H.F[n - 1]? = some (pr, l)) (hk : slotOf H n x < 0) (hu : Chain H x pr ds h k) : Chain H x q ((q, E) :: ds) h k
def GetOk (H : Hp) (x : ByteArray) (e : Ent) : Prop := 0 < e.shape ∧ (e.to = 0 ∧ e.deps.length ≤ 201) ∧ ∃ pr l, H.F[e.shape - 1]? = some (pr, l) ∧
  ((e.holder = 0 ∧ e.deps = [] ∧ slotOf H e.shape x = e.slot ∧ 0 ≤ e.slot) ∨ (slotOf H e.shape x < 0 ∧ e.holder ≠ 0 ∧ Chain H x pr e.deps e.holder e.slot))
def SetOk (H : Hp) (x : ByteArray) (e : Ent) : Prop := 0 < e.shape ∧ e.holder = 0 ∧ e.deps = [] ∧ ∃ pr l, H.F[e.shape - 1]? = some (pr, l) ∧
  ((e.to = 0 ∧ slotOf H e.shape x = e.slot ∧ 0 ≤ e.slot) ∨ (e.slot = 0 ∧ 0 < e.to ∧ ∃ j, idxOf H.T x = some j ∧ H.F[e.to - 1]? = some (pr, (j + 1) :: l)))
def holdsE (H : Hp) (e : Ent) : Bool := e.deps.all fun d => epochV H d.1 = d.2
def valE (H : Hp) (e : Ent) (o : Int) : V3 := if 0 < e.holder then (slotG H e.holder e.slot).getD z3 else if e.holder < 0 then z3 else (slotG H o e.slot).getD z3
theorem slotG_own {H : Hp} (h : HOk H) {i : Int} {o : Ob} (ho : obAt H i = some o) (hs : 0 < o.shape) {x : ByteArray} (hk : 0 ≤ slotOf H o.shape x) : ∃ v, slotG H i (slotOf H o.shape x) = some v ∧ getP o.L x = some v := by
  obtain ⟨j, rfl, hj, hoj⟩ := obAt_some ho
  rcases slot_fits h hoj hs x with ⟨h1, _⟩ | ⟨k, v, h1, h2, h3⟩
  · omega
  · refine ⟨v, ?_, h3⟩
    unfold slotG
    rw [ho, h1]
    simp only
    rw [if_neg (by omega), if_pos (by omega), Int.toNat_natCast, h2]
    rfl
theorem slotG_no {H : Hp} (h : HOk H) {i : Int} {o : Ob} (ho : obAt H i = some o) (hs : 0 < o.shape) {x : ByteArray} (hk : slotOf H o.shape x < 0) : getP o.L x = none := by
  obtain ⟨j, rfl, hj, hoj⟩ := obAt_some ho
  rcases slot_fits h hoj hs x with ⟨_, h1⟩ | ⟨k, v, h1, h2, h3⟩
  · exact h1
  · omega
theorem hpro_at {H : Hp} (h : HPro H) {i : Int} {o : Ob} (ho : obAt H i = some o) (hs : 0 < o.shape) {pr : Nat} {l : List Nat} (hF : H.F[o.shape - 1]? = some (pr, l)) : o.proto = pr := by
  obtain ⟨j, rfl, hj, hoj⟩ := obAt_some ho
  obtain ⟨l2, h2⟩ := h j o hoj hs
  rw [hF] at h2
  cases h2; rfl
theorem shapeV_some {H : Hp} {i : Int} (h : shapeV H i ≠ 0) : ∃ o, obAt H i = some o ∧ shapeV H i = (o.shape : Int) ∧ 0 < o.shape := by
  unfold shapeV at h ⊢
  cases ho : obAt H i with
  | none => rw [ho] at h; exact absurd rfl h
  | some o => rw [ho] at h; exact ⟨o, rfl, rfl, by simp only at h; omega⟩
theorem Chain.get {H : Hp} (h : HOk H) (hp : HPro H) {x : ByteArray} {q : Nat} {ds : List (Nat × Nat)} {a k : Int} (hc : Chain H x q ds a k) (hh : ∀ d ∈ ds, epochV H d.1 = d.2) : GetR H x q (if 0 < a then (slotG H a k).getD z3 else z3) := by
  induction hc with
  | stop => exact .none (by unfold obAt; rfl)
  | @hit q E n pr l o k hq ho hE hs hn hF hk hk0 =>
    have he := hh (q, E) (by simp)
    unfold epochV at he
    rw [ho] at he
    have hsn := hs (by simp only at he; omega)
    obtain ⟨v, h1, h2⟩ := slotG_own h ho (by omega) (x := x) (by rw [hsn, hk]; exact hk0)
    rw [hsn, hk] at h1
    rw [if_pos (by omega), h1]
    exact .own ho h2
  | @up q E n pr l o ds a k hq ho hE hs hn hF hk _ ih =>
    have he := hh (q, E) (by simp)
    unfold epochV at he
    rw [ho] at he
    have hsn := hs (by simp only at he; omega)
    have h2 := slotG_no h ho (by omega) (x := x) (by rw [hsn]; exact hk)
    have h3 := hpro_at hp ho (by omega) (by rw [hsn]; exact hF)
    refine .up ho h2 ?_
    rw [h3]
    exact ih fun d hd => hh d (List.mem_cons_of_mem _ hd)
theorem GetOk.get {H : Hp} (h : HOk H) (hp : HPro H) {x : ByteArray} {e : Ent} (he : GetOk H x e) {o : Int} (ho : shapeV H o = (e.shape : Int)) (hh : holdsE H e = true) : GetR H x o (valE H e o) := by
  obtain ⟨h1, _, pr, l, h3, h4⟩ := he
  obtain ⟨ob, hob, hsh, hpos⟩ := shapeV_some (H := H) (i := o) (by omega)
  have hs : ob.shape = e.shape := by omega
  have hall : ∀ d ∈ e.deps, epochV H d.1 = d.2 := fun d hd => by
    unfold holdsE at hh
    exact of_decide_eq_true (List.all_eq_true.1 hh d hd)
  unfold valE
  rcases h4 with ⟨h5, h6, h7, h8⟩ | ⟨h5, h6, h7⟩
  · rw [if_neg (by omega), if_neg (by omega)]
    obtain ⟨v, g1, g2⟩ := slotG_own h hob hpos (x := x) (by rw [hs, h7]; exact h8)
    rw [hs, h7] at g1
    rw [g1]
    exact .own hob g2
  · have g2 := slotG_no h hob hpos (x := x) (by rw [hs]; exact h5)
    have g3 := hpro_at hp hob hpos (by rw [hs]; exact h3)
    have := h7.get h hp hall
    have e1 : (if 0 < e.holder then (slotG H e.holder e.slot).getD z3 else if e.holder < 0 then z3 else (slotG H o e.slot).getD z3) = if 0 < e.holder then (slotG H e.holder e.slot).getD z3 else z3 := by
      split
      · rfl
      · rw [if_pos (by omega)]
    rw [e1]
    exact .up hob g2 (by rw [g3]; exact this)
theorem SetOk.put {H : Hp} (h : HOk H) {x : ByteArray} {e : Ent} (he : SetOk H x e) {o : Int} (ho : shapeV H o = (e.shape : Int)) (ht : e.to = 0) (v : V3) : setH H o x v = putH H o e.slot v ∧ setE H o x = 0 := by
  obtain ⟨h1, _, _, pr, l, h3, h4⟩ := he
  obtain ⟨ob, hob, hsh, hpos⟩ := shapeV_some (H := H) (i := o) (by omega)
  have hs : ob.shape = e.shape := by omega
  rcases h4 with ⟨h5, h6, h7⟩ | ⟨_, h5, _⟩
  · obtain ⟨j, rfl, hj, hoj⟩ := obAt_some hob
    rcases slot_fits h hoj hpos x with ⟨g1, _⟩ | ⟨k, w, g1, g2, g3⟩
    · rw [hs, h6] at g1; omega
    · rw [hs, h6] at g1
      unfold setH putH setE
      rw [hob]
      simp only [g3, Option.isSome_some, if_true, and_true]
      rw [if_neg (by omega), if_pos (by omega), g1, Int.toNat_natCast, g2]
      simp only
      rw [setP_some (h.keys j ob hoj) g2]
  · omega
inductive LookR (H : Hp) (x : ByteArray) : Int → Option (List (Nat × Nat) × Int × Int) → Prop
  | stop : LookR H x 0 (some ([], -1, 0))
  | loose {p : Int} (h : p ≠ 0) (hs : shapeV H p = 0) : LookR H x p none
  | hit {p : Int} (h : p ≠ 0) (hs : shapeV H p ≠ 0) (hk : 0 ≤ slotOf H (shapeV H p) x) : LookR H x p (some ([(p.toNat, (epochV H p).toNat)], p, slotOf H (shapeV H p) x))
  | up {p : Int} {r : Option (List (Nat × Nat) × Int × Int)} (h : p ≠ 0) (hs : shapeV H p ≠ 0) (hk : slotOf H (shapeV H p) x < 0) (hu : LookR H x (protoV H p) r) : LookR H x p (r.map fun q => ((p.toNat, (epochV H p).toNat) :: q.1, q.2.1, q.2.2))
theorem fits_at {H : Hp} (h : HOk H) (hp : HPro H) {i : Int} {o : Ob} (ho : obAt H i = some o) (hs : 0 < o.shape) : ∃ l, H.F[o.shape - 1]? = some (o.proto, l) := by
  obtain ⟨j, rfl, hj, hoj⟩ := obAt_some ho
  exact hp j o hoj hs
theorem LookR.chain {H : Hp} (h : HOk H) (hp : HPro H) {x : ByteArray} {p : Int} {r : Option (List (Nat × Nat) × Int × Int)} (hr : LookR H x p r) : ∀ q, r = some q → 0 ≤ p ∧ Chain H x p.toNat q.1 q.2.1 q.2.2 ∧ q.2.1 ≠ 0 := by
  induction hr with
  | stop => intro q hq; cases hq; exact ⟨Int.le_refl _, .stop, by decide⟩
  | loose => intro q hq; cases hq
  | @hit p h0 hs hk =>
    intro q hq
    cases hq
    obtain ⟨o, ho, e1, e2⟩ := shapeV_some hs
    obtain ⟨l, hl⟩ := fits_at h hp ho e2
    obtain ⟨j, rfl, hj, hoj⟩ := obAt_some ho
    rw [e1] at hk ⊢
    have he : epochV H ((j + 1 : Nat) : Int) = (o.epoch : Int) := by unfold epochV; rw [ho]
    refine ⟨by omega, ?_, by show ((j + 1 : Nat) : Int) ≠ 0; omega⟩
    rw [he, Int.toNat_natCast, Int.toNat_natCast]
    exact .hit (by omega) ho (Nat.le_refl _) (fun _ => rfl) e2 hl rfl hk
  | @up p r h0 hs hk _ ih =>
    intro q hq
    obtain ⟨o, ho, e1, e2⟩ := shapeV_some hs
    obtain ⟨l, hl⟩ := fits_at h hp ho e2
    obtain ⟨j, rfl, hj, hoj⟩ := obAt_some ho
    rw [e1] at hk
    have he : epochV H ((j + 1 : Nat) : Int) = (o.epoch : Int) := by unfold epochV; rw [ho]
    have hpr : protoV H ((j + 1 : Nat) : Int) = (o.proto : Int) := by unfold protoV; rw [ho]
    obtain ⟨q0, rfl, rfl⟩ := Option.map_eq_some_iff.1 hq
    obtain ⟨g1, g2, g3⟩ := ih q0 rfl
    rw [hpr, Int.toNat_natCast] at g2
    refine ⟨by omega, ?_, g3⟩
    rw [he, Int.toNat_natCast, Int.toNat_natCast]
    exact .up (by omega) ho (Nat.le_refl _) (fun _ => rfl) e2 hl hk g2
theorem LookR.len {H : Hp} {d : Nat → Nat} (hd : Deep H d) {x : ByteArray} {p : Int} {r : Option (List (Nat × Nat) × Int × Int)} (hr : LookR H x p r) : ∀ q, r = some q → (p = 0 → q.1.length = 0) ∧ q.1.length ≤ d p.toNat + 1 := by
  induction hr with
  | stop => intro q hq; cases hq; exact ⟨fun _ => rfl, Nat.zero_le _⟩
  | loose => intro q hq; cases hq
  | hit h0 => intro q hq; cases hq; exact ⟨fun h => absurd h h0, by simp⟩
  | @up p r h0 hs hk _ ih =>
    intro q hq
    obtain ⟨o, ho, e1, e2⟩ := shapeV_some hs
    obtain ⟨j, rfl, hj, hoj⟩ := obAt_some ho
    have hpr : protoV H ((j + 1 : Nat) : Int) = (o.proto : Int) := by unfold protoV; rw [ho]
    obtain ⟨q0, rfl, rfl⟩ := Option.map_eq_some_iff.1 hq
    obtain ⟨g1, g2⟩ := ih q0 rfl
    rw [hpr, Int.toNat_natCast] at g2
    rw [hpr] at g1
    refine ⟨fun h => absurd h h0, ?_⟩
    rw [Int.toNat_natCast]
    simp only [List.length_cons]
    rcases hd j o hoj with h1 | ⟨_, h1⟩
    · have := g1 (by rw [h1]; rfl); omega
    · omega
theorem LookR.few {H : Hp} (h : HOk H) {x : ByteArray} {o : Int} {r : Option (List (Nat × Nat) × Int × Int)} (hr : LookR H x (protoV H o) r) : ∀ q, r = some q → q.1.length ≤ 201 := by
  intro q hq
  obtain ⟨d, hd, hdl⟩ := deep_few h
  have hlim := h.lim
  obtain ⟨g1, g2⟩ := hr.len hd q hq
  have hpv : protoV H o = 0 ∨ ∃ j : Nat, j < H.obs.length ∧ protoV H o = ((j + 1 : Nat) : Int) := by
    unfold protoV
    split
    · rename_i o' ho'
      obtain ⟨j, rfl, hj, hoj⟩ := obAt_some ho'
      by_cases h0 : o'.proto = 0
      · exact .inl (by rw [h0]; rfl)
      · rcases hd j o' hoj with h1 | ⟨h1, _⟩
        · exact absurd h1 h0
        · exact .inr ⟨o'.proto - 1, by omega, by omega⟩
    · exact .inl rfl
  rcases hpv with h0 | ⟨j, hj, h0⟩
  · have := g1 h0; omega
  · rw [h0, Int.toNat_natCast] at g2
    have := hdl j hj
    omega
def LookE (H : Hp) (x : ByteArray) (o : Int) (r : Option Ent) : Prop :=
  if 0 ≤ slotOf H (shapeV H o) x then r = some ⟨(shapeV H o).toNat, 0, slotOf H (shapeV H o) x, 0, []⟩
  else ∃ q, LookR H x (protoV H o) q ∧ r = q.map fun q => ⟨(shapeV H o).toNat, q.2.1, q.2.2, 0, q.1⟩
theorem LookE.ok {H : Hp} (h : HOk H) (hp : HPro H) {x : ByteArray} {o : Int} {e : Ent} (ho : shapeV H o ≠ 0) (he : LookE H x o (some e)) : GetOk H x e ∧ (e.shape : Int) = shapeV H o := by
  obtain ⟨ob, hob, e1, e2⟩ := shapeV_some ho
  obtain ⟨l, hl⟩ := fits_at h hp hob e2
  unfold LookE at he
  rw [e1] at he ⊢
  split at he
  · rename_i hk
    cases he
    exact ⟨⟨by simpa using e2, ⟨rfl, by simp⟩, ob.proto, l, by simpa using hl, .inl ⟨rfl, rfl, by simp, hk⟩⟩, by simp⟩
  · rename_i hk
    obtain ⟨q, h1, h2⟩ := he
    obtain ⟨q0, rfl, rfl⟩ := Option.map_eq_some_iff.1 h2.symm
    have hpr : protoV H o = (ob.proto : Int) := by unfold protoV; rw [hob]
    have hfew := h1.few h q0 rfl
    rw [hpr] at h1
    obtain ⟨_, g2, g3⟩ := h1.chain h hp q0 rfl
    rw [Int.toNat_natCast] at g2
    exact ⟨⟨by simpa using e2, ⟨rfl, hfew⟩, ob.proto, l, by simpa using hl, .inr ⟨by simp only [Int.toNat_natCast]; omega, g3, g2⟩⟩, by simp⟩
theorem LookR.one {H : Hp} {x : ByteArray} {p : Int} {a b : Option (List (Nat × Nat) × Int × Int)} (h1 : LookR H x p a) (h2 : LookR H x p b) : a = b := by
  induction h1 generalizing b with
  | stop => cases h2 with
    | stop => rfl
    | loose h => exact absurd rfl h
    | hit h => exact absurd rfl h
    | up h => exact absurd rfl h
  | loose h hs => cases h2 with
    | stop => exact absurd rfl h
    | loose => rfl
    | hit _ h3 => exact absurd hs h3
    | up _ h3 => exact absurd hs h3
  | hit h hs hk => cases h2 with
    | stop => exact absurd rfl h
    | loose _ h3 => exact absurd h3 hs
    | hit => rfl
    | up _ _ h3 => omega
  | up h hs hk _ ih => cases h2 with
    | stop => exact absurd rfl h
    | loose _ h3 => exact absurd h3 hs
    | hit _ _ h3 => omega
    | up _ _ _ h3 => rw [ih h3]
theorem LookE.one {H : Hp} {x : ByteArray} {o : Int} {a b : Option Ent} (h1 : LookE H x o a) (h2 : LookE H x o b) : a = b := by
  unfold LookE at h1 h2
  split at h1
  · rename_i hk
    rw [if_pos hk] at h2
    rw [h1, h2]
  · rename_i hk
    rw [if_neg hk] at h2
    obtain ⟨q, h3, rfl⟩ := h1
    obtain ⟨q2, h4, rfl⟩ := h2
    rw [h3.one h4]
theorem slotOf_lt {H : Hp} (hF : FOk H.F) {n : Nat} {t : Sh} (hn : 0 < n) (h : H.F[n - 1]? = some t) (x : ByteArray) : -1 ≤ slotOf H n x ∧ slotOf H n x ≤ 12 := by
  have h2 := (hF.names _ t.1 t.2 h).2
  unfold slotOf
  rw [namesOf_at hn h]
  split
  · omega
  · rename_i j _
    have := slotL_ge t.2 (j + 1)
    have := slotL_le t.2 (j + 1)
    omega
theorem Chain.small {H : Hp} (h : HOk H) (hF : FOk H.F) {x : ByteArray} {q : Nat} {ds : List (Nat × Nat)} {a k : Int} (hc : Chain H x q ds a k) : -1 ≤ a ∧ a ≤ 200 ∧ 0 ≤ k ∧ k ≤ 12 ∧ ∀ d ∈ ds, d.1 ≤ 200 := by
  have hlim := h.lim
  induction hc with
  | stop => exact ⟨by omega, by omega, by omega, by omega, fun d hd => by cases hd⟩
  | @hit q E n pr l o k hq ho hE hs hn hFn hk hk0 =>
    obtain ⟨j, hj, hjl, _⟩ := obAt_some ho
    have := slotOf_lt hF hn hFn x
    exact ⟨by omega, by omega, by omega, by omega, fun d hd => by rw [List.mem_singleton.1 hd]; show q ≤ 200; omega⟩
  | @up q E n pr l o ds a k hq ho hE hs hn hFn hk _ ih =>
    obtain ⟨j, hj, hjl, _⟩ := obAt_some ho
    obtain ⟨h1, h2, h3, h4, h5⟩ := ih
    exact ⟨h1, h2, h3, h4, fun d hd => by
      rcases List.mem_cons.1 hd with rfl | hd
      · show q ≤ 200; omega
      · exact h5 d hd⟩
theorem GetOk.small {H : Hp} (h : HOk H) (hF : FOk H.F) {x : ByteArray} {e : Ent} (he : GetOk H x e) : -1 ≤ e.holder ∧ e.holder ≤ 200 ∧ 0 ≤ e.slot ∧ e.slot ≤ 12 ∧ e.deps.length ≤ 201 ∧ ∀ d ∈ e.deps, d.1 ≤ 200 := by
  obtain ⟨h1, ⟨_, h2⟩, pr, l, h3, h4⟩ := he
  rcases h4 with ⟨h5, h6, h7, h8⟩ | ⟨h5, h6, h7⟩
  · have := slotOf_lt hF h1 h3 x
    refine ⟨by omega, by omega, by omega, by omega, h2, ?_⟩
    rw [h6]; intro d hd; cases hd
  · obtain ⟨g1, g2, g3, g4, g5⟩ := h7.small h hF
    exact ⟨g1, g2, g3, g4, h2, g5⟩
theorem SetOk.small {H : Hp} (h : HOk H) (hF : FOk H.F) {x : ByteArray} {e : Ent} (he : SetOk H x e) : 0 ≤ e.slot ∧ e.slot ≤ 12 ∧ e.to ≤ H.F.length := by
  obtain ⟨h1, _, _, pr, l, h3, h4⟩ := he
  rcases h4 with ⟨h5, h6, h7⟩ | ⟨h5, h6, j, h7, h8⟩
  · have := slotOf_lt hF h1 h3 x
    exact ⟨by omega, by omega, by omega⟩
  · have := (List.getElem?_eq_some_iff.1 h8).1
    exact ⟨by omega, by omega, by omega⟩
end Go.Proofs.Try
