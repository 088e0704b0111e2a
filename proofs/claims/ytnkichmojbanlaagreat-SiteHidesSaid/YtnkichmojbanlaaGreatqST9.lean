/- Sites: the walk of Get. A lemma file: no statement of its own. -/
import Derived.Test.YtnkichmojbanlaaGreatqFwF
import Derived.Test.YtnkichmojbanlaaGreatqST8
set_option linter.unusedSimpArgs false
set_option linter.unusedVariables false
set_option linter.unusedSectionVars false
namespace Go.Proofs.Tryz
open Go.Cs
open Go.RowKit (Below)
set_option maxRecDepth 100000
attribute [local irreducible] CCalls WLoop WScope CRound WRange
section
variable {M : Type} [Mem M] {w0 : World} {s : St M} {R : Value → St M → Prop} {lo lo1 t p N NN : Nat} {H : Hp} {T : Tab} {O P : Nat → Prop} {al : Value} {rb cp : Nat → Nat} {sl : Nat → Nat → Value}
theorem SAt.more {O' : Nat → Prop} (h : SAt PY lo s t T N O al rb cp sl) (hO : ∀ b, O b → O' b) (hO' : ∀ b, O' b → lo ≤ b ∧ b < s.next) : SAt PY lo s t T N O' al rb cp sl :=
  ⟨hO', hO _ h.pin, h.bl, h.cnt, h.all, fun q n c e => hO _ (h.allO q n c e), fun i hi => hO _ (h.pinR i hi), h.row, h.inj, fun i j hi hj => (h.es i j hi hj).keep hO fun _ _ _ _ _ _ => rfl, h.apart, h.small⟩
theorem miss_at {s' : St M} (h : SAt PY lo s t T N O al rb cp sl) (hn : s'.next = s.next) (hb : s'.at' t = some (.cells [al, .int .i64 (T.hits : Int), .int .i64 ((T.misses + 1 : Nat) : Int)] 84 true)) (hk : ∀ b, b ≠ t → s'.at' b = s.at' b) : SAt PY lo s' t (missT T) (N + 1) O al rb cp sl :=
  h.count ⟨rfl, rfl, rfl⟩ ⟨by have := h.cnt.1; show T.hits ≤ N + 1; omega, by have := h.cnt.2; show T.misses + 1 ≤ N + 1; omega⟩ hn hb hk
theorem hit_at {s' : St M} (h : SAt PY lo s t T N O al rb cp sl) (hn : s'.next = s.next) (hb : s'.at' t = some (.cells [al, .int .i64 ((T.hits + 1 : Nat) : Int), .int .i64 (T.misses : Int)] 84 true)) (hk : ∀ b, b ≠ t → s'.at' b = s.at' b) : SAt PY lo s' t (hitT T) (N + 1) O al rb cp sl :=
  h.count ⟨rfl, rfl, rfl⟩ ⟨by have := h.cnt.1; show T.hits + 1 ≤ N + 1; omega, by have := h.cnt.2; show T.misses ≤ N + 1; omega⟩ hn hb hk
theorem plays_at {s' : St M} {i j : Nat} {w : Bool} {x : ByteArray} (h : SAt PY lo s t T N O al rb cp sl) (hi : i < T.fs) (hj : j < T.n i) (hn : s'.next = s.next)
    (hb : s'.at' (rb i) = some (.cells (rows (fun m => if m = j then sitC (if (T.st i j).mega then T.st i j else playsS (T.st i j) w x) (sl i j) else sitC (T.st i m) (sl i m)) (T.n i)) 96 true)) (hk : ∀ a, a ≠ rb i → s'.at' a = s.at' a) :
    SAt PY lo s' t (putT T i j (if (T.st i j).mega then T.st i j else playsS (T.st i j) w x)) N O al rb cp sl := by
  have hes : (if (T.st i j).mega then T.st i j else playsS (T.st i j) w x).es = (T.st i j).es := by
    split
    · rfl
    · unfold playsS; split <;> rfl
  have hr := h.row i hi
  have := h.set (s' := s') (O' := O) hi hj (z' := if (T.st i j).mega then T.st i j else playsS (T.st i j) w x) (v' := sl i j) (by omega) (fun _ h => h) (fun b hb => by have := h.own b hb; rw [hn]; exact this) hb (fun b hb hne _ => hk b hne)
    (by rw [hes]; exact (h.es i j hi hj).keep (fun _ h => h) fun b cs ty h1 h2 h3 => hk b (at_apart h2 hr (by rcases h3 with rfl | ⟨rfl, _⟩ <;> decide))) (fun q n c e => .inl ⟨q, n, c, e, rfl⟩)
  have e2 : (fun a b => if a = i ∧ b = j then sl i j else sl a b) = sl := by
    funext a b
    split
    · rename_i e; rw [e.1, e.2]
    · rfl
  rw [e2] at this
  exact this
theorem plays_no {z : Sit} {w : Bool} {x : ByteArray} (h : playsB z w x = false) : (if z.mega then z else playsS z w x) = z := by
  unfold playsB at h
  unfold playsS
  cases hm : z.mega with
  | true => simp
  | false =>
    rw [hm] at h
    simp only [Bool.false_eq_true, if_false] at h ⊢
    cases hu : z.used with
    | true => simp
    | false => rw [hu] at h; simp at h
theorem plays_yes {z : Sit} {w : Bool} {x : ByteArray} (h : playsB z w x = true) : (if z.mega then z else playsS z w x) = playsS z w x := by
  rw [(plays_is h).1]; rfl
theorem putT_same (T : Tab) (i j : Nat) : putT T (i : Int) (j : Int) (T.st i j) = T := by
  obtain ⟨fs, n, st, hits, misses⟩ := T
  unfold putT
  congr 1
  funext a b
  rw [Int.toNat_natCast, Int.toNat_natCast]
  split
  · rename_i e; rw [e.1, e.2]
  · rfl
theorem putT_two (T : Tab) (i j : Int) (z z' : Sit) : putT (missT (putT T i j z)) i j z' = missT (putT T i j z') := by
  unfold putT missT
  congr 1
  funext a b
  simp only
  split <;> rfl
theorem putT_st (T : Tab) (i j : Nat) (z : Sit) : (putT T (i : Int) (j : Int) z).st i j = z := by
  show (if i = (i : Int).toNat ∧ j = (j : Int).toNat then z else T.st i j) = z
  rw [Int.toNat_natCast, Int.toNat_natCast, if_pos ⟨rfl, rfl⟩]
theorem atT_nat (T : Tab) (i j : Nat) : atT T (i : Int) (j : Int) = T.st i j := by
  unfold atT
  rw [Int.toNat_natCast, Int.toNat_natCast]
theorem hp_put {s : St M} {tg : Nat → Nat} {pf pn : Nat} {sl0 : Value} {bs : List Nat} (h : HpIn lo1 s p H NN P tg pf pn sl0 bs) {b : Nat} {B : Blk} (hb : ¬ P b) : HpIn lo1 (s.put b B) p H NN P tg pf pn sl0 bs :=
  h.same (Nat.le_refl _) fun c hc => by rw [St.at_put, if_neg (fun e => hb (by rw [← e]; exact hc))]
set_option maxHeartbeats 16000000 in
theorem tget_spec (hP : HpAt lo1 s p H NN P) (hS : STab PY lo s t T N O) (hfs : 0 < T.fs) (hd : ∀ b, P b → ¬ O b) (hT : TabOk H T) (hlo : lo ≤ s.next) (hN : N + 1 ≤ 1000000) {f k o : Int} (ho : -9223372036854775808 ≤ o ∧ o ≤ 9223372036854775807) {x : ByteArray} {r : Option Ent} (hr : LookE H x o r)
    (hR : ∀ s' O' v, STab PY lo s' t (getT H T f k o x r) (N + 1) O' → Upd s s' O O' → GetR H x o v → R (vOf v) s') :
    CCalls Tryz.prog w0 18 #[.pointer (some ⟨t, 0, none⟩), .pointer (some ⟨p, 0, none⟩), .int .i64 f, .int .i64 k, .int .i64 o, .string x] s R := by
  refine wfun2 hmix ok18 (l := [.pointer (some ⟨t, 0, none⟩), .pointer (some ⟨p, 0, none⟩), .int .i64 f, .int .i64 k, .int .i64 o, .string x]) func18 rfl ntmps18 results18 (by simp) ?_
  obtain ⟨hpro, tg, pf, pn, sl0, bs, h⟩ := hP
  obtain ⟨al, rb, cp, sl, hs⟩ := hS
  have l1 : s.le (s.new (.cells [.int .i64 0, .int .i64 0, .string ⟨#[]⟩] 36 true)) := St.le_new (St.le_refl _)
  have c1 : (s.new (.cells [.int .i64 0, .int .i64 0, .string ⟨#[]⟩] 36 true)).at' s.next = some (.cells [.int .i64 0, .int .i64 0, .string ⟨#[]⟩] 36 true) := by rw [St.at_new, if_pos rfl]
  have n1 : (s.new (.cells [.int .i64 0, .int .i64 0, .string ⟨#[]⟩] 36 true)).next = s.next + 1 := rfl
  have htn := (hs.own _ hs.pin).2
  have htP : ¬ P t := fun hc => hd t hc hs.pin
  have hPn : ∀ c, P c → c < s.next := fun c hc => (h.own c hc).2
  have wm : IntKind.i64.wrap ((T.misses : Int) + 1) = ((T.misses + 1 : Nat) : Int) := by rw [wrap_i64 (by have := hs.cnt.2; omega)]; omega
  have wh : IntKind.i64.wrap ((T.hits : Int) + 1) = ((T.hits + 1 : Nat) : Int) := by rw [wrap_i64 (by have := hs.cnt.1; omega)]; omega
  have fin : ∀ {s8 s9 : St M} {O8 : Nat → Prop} {v : V3}, STab PY lo s8 t (getT H T f k o x r) (N + 1) O8 → (∀ b, b < s.next → ¬ O b → s8.at' b = s.at' b) → s.next + 1 ≤ s8.next → (∀ b, O8 b → O b ∨ s.next + 1 ≤ b) → s8.le s9 → GetR H x o v → R (.agg #[.int .i64 v.1, .int .i64 v.2.1, .string v.2.2]) (s9.put s.next (.cells [.int .i64 v.1, .int .i64 v.2.1, .string v.2.2] 36 true)) := fun {s8 s9 O8 v} a8 k8 n8 o8 l9 hv => by
    refine hR _ O8 v ((a8.le l9).same (Nat.le_refl _) fun b hb => ?_) ⟨?_, fun b hb hO => ?_, fun b hb => ?_⟩ hv
    · rw [St.at_put, if_neg (fun e => by rcases o8 b hb with h1 | h1; have := (hs.own b h1).2; omega; omega)]
    · have := l9.1; simp only [St.next_put]; omega
    · rw [St.at_put, if_neg (by omega), l9.2 b (by omega)]; exact k8 b hb hO
    · rcases o8 b hb with h1 | h1
      · exact .inl h1
      · exact .inr (by omega)
  simp -implicitDefEqProofs only [↓Zd, (Zp), if_true, if_false, Nat.reduceEqDiff, reduceCtorEq, Value.cells, (HEx), co51]
  generalize s.new (.cells [.int .i64 0, .int .i64 0, .string ⟨#[]⟩] 36 true) = s1 at l1 c1 n1 ⊢
  have h1 := h.le l1
  have hs1 := hs.le l1
  have hb1 : s1.at' t = some (.cells [al, .int .i64 (T.hits : Int), .int .i64 (T.misses : Int)] 84 true) := hs1.bl
  have htne : ¬ s.next = t := by omega
  refine sdead_spec hs1 hfs ?_
  simp -implicitDefEqProofs only [↓Zd, (Zp), if_true, if_false, Nat.reduceEqDiff, reduceCtorEq, (HEx), co36]
  refine sfind_spec hs1 hfs (fun hnot => ?_) (fun i j hfi hkj hi hj hhas => ?_)
  · simp -implicitDefEqProofs only [↓Zd, (Zp), if_true, if_false, Nat.reduceEqDiff, (STx), co12]
    refine hshape_spec h1 ho ?_
    have hgt : getT H T f k o x r = missT T := by unfold getT; split <;> first | rfl | (rw [if_pos hnot])
    rw [hgt] at fin
    by_cases h0 : shapeV H o = 0
    · simp -implicitDefEqProofs only [↓Zd, (Zp), if_true, if_false, Nat.reduceEqDiff, reduceCtorEq, Nat.reduceAdd, Nat.reduceLeDiff, okPart, Value.cells, okCell, cld2, (HEx), (STx), h0, hb1, wm, co19]
      refine hget_spec (hp_put h1 htP) ho fun s9 v l9 hv => ?_
      have a8 := miss_at (s' := s1.put t (.cells [al, .int .i64 (T.hits : Int), .int .i64 ((T.misses + 1 : Nat) : Int)] 84 true)) hs1 rfl (by rw [St.at_put, if_pos rfl]) (fun b hb => by rw [St.at_put, if_neg hb])
      have n9 := l9.1
      simp only [St.next_put] at n9
      have c9 : s9.at' s.next = some (.cells [.int .i64 0, .int .i64 0, .string ⟨#[]⟩] 36 true) := by rw [l9.2 _ (by simp only [St.next_put]; omega), St.at_put, if_neg htne]; assumption
      unfold vOf vA
      simp -implicitDefEqProofs only [↓Zd, (Zp), if_true, if_false, Nat.reduceEqDiff, Nat.reduceAdd, Nat.reduceLeDiff, okPart, Value.cells, cut, okCell, cld2, (HEx), c9]
      exact fin ⟨_, _, _, _, a8⟩ (fun b hb hO => by rw [St.at_put, if_neg (fun e => hO (by rw [e]; exact hs.pin))]; exact l1.2 b (by omega)) (by simp only [St.next_put]; omega) (fun b hb => .inl hb) l9 hv
    · simp -implicitDefEqProofs only [↓Zd, (Zp), if_true, if_false, Nat.reduceEqDiff, (HEx), h0, co52]
      refine splays0_spec ?_
      simp -implicitDefEqProofs only [↓Zd, (Zp), if_true, if_false, Nat.reduceEqDiff, reduceCtorEq, Nat.reduceAdd, Nat.reduceLeDiff, okPart, Value.cells, okCell, cld2, (HEx), (STx), hb1, wm, co19]
      refine hget_spec (hp_put h1 htP) ho fun s9 v l9 hv => ?_
      have a8 := miss_at (s' := s1.put t (.cells [al, .int .i64 (T.hits : Int), .int .i64 ((T.misses + 1 : Nat) : Int)] 84 true)) hs1 rfl (by rw [St.at_put, if_pos rfl]) (fun b hb => by rw [St.at_put, if_neg hb])
      have n9 := l9.1
      simp only [St.next_put] at n9
      have c9 : s9.at' s.next = some (.cells [.int .i64 0, .int .i64 0, .string ⟨#[]⟩] 36 true) := by rw [l9.2 _ (by simp only [St.next_put]; omega), St.at_put, if_neg htne]; assumption
      unfold vOf vA
      simp -implicitDefEqProofs only [↓Zd, (Zp), if_true, if_false, Nat.reduceEqDiff, Nat.reduceAdd, Nat.reduceLeDiff, okPart, Value.cells, cut, okCell, cld2, (HEx), c9]
      exact fin ⟨_, _, _, _, a8⟩ (fun b hb hO => by rw [St.at_put, if_neg (fun e => hO (by rw [e]; exact hs.pin))]; exact l1.2 b (by omega)) (by simp only [St.next_put]; omega) (fun b hb => .inl hb) l9 hv
  · subst hfi hkj
    rw [getT, if_neg (not_not_intro hhas), atT_nat] at fin
    simp -implicitDefEqProofs only [↓Zd, (Zp), if_true, if_false, Nat.reduceEqDiff, (STx), co12]
    refine hshape_spec h1 ho ?_
    by_cases h0 : shapeV H o = 0
    · rw [if_pos h0] at fin
      simp -implicitDefEqProofs only [↓Zd, (Zp), if_true, if_false, Nat.reduceEqDiff, reduceCtorEq, Nat.reduceAdd, Nat.reduceLeDiff, okPart, Value.cells, okCell, cld2, (HEx), (STx), h0, hb1, wm, co19]
      refine hget_spec (hp_put h1 htP) ho fun s9 v l9 hv => ?_
      have a8 := miss_at (s' := s1.put t (.cells [al, .int .i64 (T.hits : Int), .int .i64 ((T.misses + 1 : Nat) : Int)] 84 true)) hs1 rfl (by rw [St.at_put, if_pos rfl]) (fun b hb => by rw [St.at_put, if_neg hb])
      have n9 := l9.1
      simp only [St.next_put] at n9
      have c9 : s9.at' s.next = some (.cells [.int .i64 0, .int .i64 0, .string ⟨#[]⟩] 36 true) := by rw [l9.2 _ (by simp only [St.next_put]; omega), St.at_put, if_neg htne]; assumption
      unfold vOf vA
      simp -implicitDefEqProofs only [↓Zd, (Zp), if_true, if_false, Nat.reduceEqDiff, Nat.reduceAdd, Nat.reduceLeDiff, okPart, Value.cells, cut, okCell, cld2, (HEx), c9]
      exact fin ⟨_, _, _, _, a8⟩ (fun b hb hO => by rw [St.at_put, if_neg (fun e => hO (by rw [e]; exact hs.pin))]; exact l1.2 b (by omega)) (by simp only [St.next_put]; omega) (fun b hb => .inl hb) l9 hv
    rw [if_neg h0] at fin
    simp -implicitDefEqProofs only [↓Zd, (Zp), if_true, if_false, Nat.reduceEqDiff, (HEx), h0, co52]
    refine splays_spec (c := fun m => sitC (T.st i m) (sl i m)) (hs1.row i hi) (fun _ => rfl) hj rfl fun s2 n2 b2 k2 => ?_
    have hrP : ¬ P (rb i) := fun hc => hd _ hc (hs.pinR i hi)
    have a2 := plays_at hs1 hi hj n2 b2 k2
    have h2 := h1.same (s' := s2) (by omega) fun c hc => k2 c (fun e => hrP (by rw [← e]; exact hc))
    have hrn := (hs.own _ (hs.pinR i hi)).2
    have c2 := (k2 s.next (by omega)).trans c1
    have hbt2 : s2.at' t = some (.cells [al, .int .i64 (T.hits : Int), .int .i64 (T.misses : Int)] 84 true) := a2.bl
    have kk2 : ∀ b, b < s.next → ¬ O b → s2.at' b = s.at' b := fun b hb hO => by rw [k2 b (fun e => hO (by rw [e]; exact hs.pinR i hi))]; exact l1.2 b hb
    cases hpl : playsB (T.st i j) false x with
    | false =>
      rw [plays_no hpl, putT_same] at a2
      rw [if_pos hpl] at fin
      simp -implicitDefEqProofs only [↓Zd, (Zp), if_true, if_false, Nat.reduceEqDiff, reduceCtorEq, Nat.reduceAdd, Nat.reduceLeDiff, okPart, Value.cells, okCell, cld2, (HEx), (STx), hbt2, wm, co19]
      refine hget_spec (hp_put h2 htP) ho fun s9 v l9 hv => ?_
      have a8 := miss_at (s' := s2.put t (.cells [al, .int .i64 (T.hits : Int), .int .i64 ((T.misses + 1 : Nat) : Int)] 84 true)) a2 rfl (by rw [St.at_put, if_pos rfl]) (fun b hb => by rw [St.at_put, if_neg hb])
      have n9 := l9.1
      simp only [St.next_put] at n9
      have c9 : s9.at' s.next = some (.cells [.int .i64 0, .int .i64 0, .string ⟨#[]⟩] 36 true) := by rw [l9.2 _ (by simp only [St.next_put]; omega), St.at_put, if_neg htne]; assumption
      unfold vOf vA
      simp -implicitDefEqProofs only [↓Zd, (Zp), if_true, if_false, Nat.reduceEqDiff, Nat.reduceAdd, Nat.reduceLeDiff, okPart, Value.cells, cut, okCell, cld2, (HEx), c9]
      exact fin ⟨_, _, _, _, a8⟩ (fun b hb hO => by rw [St.at_put, if_neg (fun e => hO (by rw [e]; exact hs.pin))]; exact kk2 b hb hO) (by simp only [St.next_put]; omega) (fun b hb => .inl hb) l9 hv
    | true =>
      rw [plays_yes hpl] at a2 b2
      rw [if_neg (by rw [hpl]; decide)] at fin
      have hz0 : SitOk H (T.st i j) := hT i j hi hj
      have hz := plays_ok hz0 false x
      have hpi := plays_is hpl
      have hE2 := a2.es i j hi hj
      rw [putT_st] at hE2
      simp -implicitDefEqProofs only [↓Zd, (Zp), if_true, if_false, Nat.reduceEqDiff, (HEx), co53]
      refine shit_spec (c := fun m => if m = j then sitC (playsS (T.st i j) false x) (sl i j) else sitC (T.st i m) (sl i m)) (z := playsS (T.st i j) false x) (v := sl i j) b2 (by omega) (fun m => by (try dsimp only); split <;> rfl) hj (if_pos rfl) hE2 (fun b hb => by have := (hs.own b hb).2; omega) (by have := hz.few; omega) (fun hno s3 hs3 => ?_) (fun i1 eb hyes hi1 hsl s3 hs3 => ?_)
      · rw [hno] at fin
        have hbt3 := (hs3.2 t (by omega)).trans hbt2
        have c3 := (hs3.2 s.next (by omega)).trans c2
        have n3 := hs3.1
        have kk3 : ∀ b, b < s.next → ¬ O b → s3.at' b = s.at' b := fun b hb hO => (hs3.2 b (by omega)).trans (kk2 b hb hO)
        have a3 := a2.le hs3
        have h3 := h2.le hs3
        simp -implicitDefEqProofs only [↓Zd, (Zp), if_true, if_false, Nat.reduceEqDiff, reduceCtorEq, Nat.reduceAdd, Nat.reduceLeDiff, okPart, Value.cells, okCell, cld2, (HEx), (STx), hbt3, wm, co56]
        have a5 := miss_at (s' := s3.put t (.cells [al, .int .i64 (T.hits : Int), .int .i64 ((T.misses + 1 : Nat) : Int)] 84 true)) a3 rfl (by rw [St.at_put, if_pos rfl]; rfl) (fun b hb => by rw [St.at_put, if_neg hb])
        have h5 := hp_put (B := .cells [al, .int .i64 (T.hits : Int), .int .i64 ((T.misses + 1 : Nat) : Int)] 84 true) h3 htP
        have k5 : ∀ b, b < s.next → ¬ O b → (s3.put t (.cells [al, .int .i64 (T.hits : Int), .int .i64 ((T.misses + 1 : Nat) : Int)] 84 true)).at' b = s.at' b := fun b hb hO => by rw [St.at_put, if_neg (fun e => hO (by rw [e]; exact hs.pin))]; exact kk3 b hb hO
        have c5 : (s3.put t (.cells [al, .int .i64 (T.hits : Int), .int .i64 ((T.misses + 1 : Nat) : Int)] 84 true)).at' s.next = some (.cells [.int .i64 0, .int .i64 0, .string ⟨#[]⟩] 36 true) := by rw [St.at_put, if_neg htne]; exact c3
        have n5 : s.next + 1 ≤ (s3.put t (.cells [al, .int .i64 (T.hits : Int), .int .i64 ((T.misses + 1 : Nat) : Int)] 84 true)).next := by simp only [St.next_put]; omega
        generalize s3.put t (.cells [al, .int .i64 (T.hits : Int), .int .i64 ((T.misses + 1 : Nat) : Int)] 84 true) = s5 at a5 h5 k5 c5 n5 ⊢
        refine slook_spec h5 hpro ho (fun s6 l6 hlk => ?_) (fun s6 e dl l6 hlk hD => ?_)
        · have hr0 := hr.one hlk
          subst hr0
          simp -implicitDefEqProofs only [↓Zd, (Zp), if_true, if_false, Nat.reduceEqDiff, Nat.reduceAdd, Nat.reduceLeDiff, okPart, Value.cells, okCell, (STx), co19]
          have n6 := l6.1
          refine hget_spec (h5.le (St.le_trans l6 (by repeat (first | exact St.le_refl _ | assumption | refine St.le_new ?_ | refine St.le_put ?_ (by first | omega | (simp only [St.next_new, St.next_put, St.next_kill]; omega)) | refine St.le_trans ?_ (by assumption))))) ho fun s9 v l9 hv => ?_
          have n9 := l9.1
          simp only [St.next_put, St.next_new] at n9
          have l59 : s5.le s9 := St.le_trans (St.le_trans l6 (by repeat (first | exact St.le_refl _ | assumption | refine St.le_new ?_ | refine St.le_put ?_ (by first | omega | (simp only [St.next_new, St.next_put, St.next_kill]; omega)) | refine St.le_trans ?_ (by assumption)))) l9
          have c9 := (l59.2 s.next (by omega)).trans c5
          unfold vOf vA
          simp -implicitDefEqProofs only [↓Zd, (Zp), if_true, if_false, Nat.reduceEqDiff, Nat.reduceAdd, Nat.reduceLeDiff, okPart, Value.cells, cut, okCell, cld2, (HEx), c9]
          exact fin ⟨_, _, _, _, a5⟩ k5 n5 (fun b hb => .inl hb) l59 hv
        · have hr0 := hr.one hlk
          subst hr0
          obtain ⟨qa, qn, qc, rfl⟩ := hD.form
          have n6 := l6.1
          simp -implicitDefEqProofs only [↓Zd, (Zp), if_true, if_false, Nat.reduceEqDiff, Nat.reduceAdd, Nat.reduceLeDiff, okPart, Value.cells, cut, okCell, cld2, (STx), entC, co57]
          have l7 : s6.le ((s6.new (.cells [.int .i64 0, .int .i64 0, .int .i64 0, .int .i64 0, .slice none 0 0] 51 true)).put s6.next (.cells [.int .i64 (e.shape : Int), .int .i64 e.holder, .int .i64 e.slot, .int .i64 (e.to : Int), .slice qa qn qc] 51 true)) := (by repeat (first | exact St.le_refl _ | assumption | refine St.le_new ?_ | refine St.le_put ?_ (by first | omega | (simp only [St.next_new, St.next_put, St.next_kill]; omega)) | refine St.le_trans ?_ (by assumption)))
          have n7 : ((s6.new (.cells [.int .i64 0, .int .i64 0, .int .i64 0, .int .i64 0, .slice none 0 0] 51 true)).put s6.next (.cells [.int .i64 (e.shape : Int), .int .i64 e.holder, .int .i64 e.slot, .int .i64 (e.to : Int), .slice qa qn qc] 51 true)).next = s6.next + 1 := rfl
          generalize (s6.new (.cells [.int .i64 0, .int .i64 0, .int .i64 0, .int .i64 0, .slice none 0 0] 51 true)).put s6.next (.cells [.int .i64 (e.shape : Int), .int .i64 e.holder, .int .i64 e.slot, .int .i64 (e.to : Int), .slice qa qn qc] 51 true) = s7 at l7 n7 ⊢
          have l57 := St.le_trans l6 l7
          have a7 := (a5.le l57).more (O' := fun b => O b ∨ s.next + 1 ≤ b ∧ b < s7.next) (fun b hb => .inl hb) (fun b hb => by rcases hb with hb | hb; have := hs.own b hb; exact ⟨this.1, by omega⟩; exact ⟨by omega, hb.2⟩)
          have hD7 := hD.same (s' := s7) (O' := fun b => O b ∨ s.next + 1 ≤ b ∧ b < s7.next) fun b hb => ⟨.inr ⟨by omega, by omega⟩, l7.2 b hb.2⟩
          have hst : (missT (putT T (i : Int) (j : Int) (playsS (T.st i j) false x))).st i j = playsS (T.st i j) false x := putT_st T i j _
          refine skeep_spec (M := M) a7 (i := i) (j := j) (e := e) (dl := .slice qa qn qc) hi hj (by omega) (by rw [hst]; exact hz.few) (by rw [hst]; exact hpi.2.2.2.2.1) hD7 fun s8 O8 sl8 a8 u8 => ?_
          rw [hst, putT_two] at a8
          have n8 := u8.next
          have hP8 : ∀ c, P c → s8.at' c = s7.at' c := fun c hc => u8.keep c (by have := hPn c hc; omega) fun hO => by
            rcases hO with hO | hO
            · exact hd c hc hO
            · have := hPn c hc; omega
          have h8 := (h5.le l57).same n8 hP8
          have hns : ¬ (O s.next ∨ s.next + 1 ≤ s.next ∧ s.next < s7.next) := fun hO => by
            rcases hO with hO | hO
            · have := (hs.own _ hO).2; omega
            · omega
          have c8 := (u8.keep s.next (by omega) hns).trans ((l57.2 s.next (by omega)).trans c5)
          simp -implicitDefEqProofs only [↓Zd, (Zp), if_true, if_false, Nat.reduceEqDiff, (HEx), co19]
          refine hget_spec h8 ho fun s9 v l9 hv => ?_
          have n9 := l9.1
          have c9 := (l9.2 s.next (by omega)).trans c8
          unfold vOf vA
          simp -implicitDefEqProofs only [↓Zd, (Zp), if_true, if_false, Nat.reduceEqDiff, Nat.reduceAdd, Nat.reduceLeDiff, okPart, Value.cells, cut, okCell, cld2, (HEx), c9]
          exact fin ⟨_, _, _, _, a8⟩ (fun b hb hO => by rw [u8.keep b (by omega) (fun hc => by rcases hc with hc | hc; exact hO hc; omega), l57.2 b (by omega)]; exact k5 b hb hO) (by omega) (fun b hb => by
            rcases u8.own b hb with hb | hb
            · rcases hb with hb | hb
              · exact .inl hb
              · exact .inr hb.1
            · exact .inr (by omega)) l9 hv
      · rw [hyes] at fin
        have hbt3 := (hs3.2 t (by omega)).trans hbt2
        have c3 := (hs3.2 s.next (by omega)).trans c2
        have n3 := hs3.1
        have kk3 : ∀ b, b < s.next → ¬ O b → s3.at' b = s.at' b := fun b hb hO => (hs3.2 b (by omega)).trans (kk2 b hb hO)
        have a3 := a2.le hs3
        have h3 := h2.le hs3
        have hgo := hz.gets hpi.2.1 _ (List.getElem_mem hi1)
        rw [hpi.2.2.1] at hgo
        obtain ⟨q1, q2, q3, q4, q5, q6⟩ := hgo.small h.ok h.fo.ok
        have hgd : (playsS (T.st i j) false x).es.getD i1 e0 = (playsS (T.st i j) false x).es[i1] := getD_at hi1
        rw [← hgd] at q1 q2 q3 q4 q5 q6
        obtain ⟨dlf, g1, g2, g3, g4⟩ := hE2
        rw [hsl] at g1 g2
        rcases g1 with ⟨g1, _, _⟩ | ⟨eb2, junk, ge, g1, _⟩
        · omega
        cases ge
        have hebn := (hs.own _ (g2 _ _ _ rfl)).2
        have ge3 : s3.at' eb = _ := (hs3.2 eb (by simp only at hebn; omega)).trans g1
        simp -implicitDefEqProofs only [↓Zd, (Zp), if_true, if_false, Nat.reduceEqDiff, (STx), co54]
        refine sholds_spec h3 (c := fun m => entC ((playsS (T.st i j) false x).es.getD m e0) (dlf m)) (e := (playsS (T.st i j) false x).es.getD i1 e0) (dl := dlf i1) (O := O) (fun _ => rfl) ge3 (by simp only at hebn; omega) hi1 rfl ((g3 i1 hi1).same fun b hb => ⟨hb, hs3.2 b (by have := (hs.own b hb).2; omega)⟩) (fun b hb => by have := (hs.own b hb).2; omega) (by omega) (fun d hd => by have := q6 d hd; omega) fun s4 hs4 => ?_
        have n4 := hs4.1
        have hbt4 := (hs4.2 t (by omega)).trans hbt3
        have c4 := (hs4.2 s.next (by omega)).trans c3
        have kk4 : ∀ b, b < s.next → ¬ O b → s4.at' b = s.at' b := fun b hb hO => (hs4.2 b (by omega)).trans (kk3 b hb hO)
        have a4 := a3.le hs4
        have h4 := h3.le hs4
        have ge4 : s4.at' eb = _ := (hs4.2 eb (by simp only at hebn; omega)).trans ge3
        cases hh : holdsE H ((playsS (T.st i j) false x).es.getD i1 e0) with
        | true =>
          simp only [hh, if_true] at fin
          simp -implicitDefEqProofs only [↓Zd, (Zp), if_true, if_false, Nat.reduceEqDiff, reduceCtorEq, Nat.reduceAdd, Nat.reduceLeDiff, okPart, Value.cells, okCell, cld2, (HEx), (STx), hbt4, wh, co55]
          have a5 := hit_at (s' := s4.put t (.cells [al, .int .i64 ((T.hits + 1 : Nat) : Int), .int .i64 (T.misses : Int)] 84 true)) a4 rfl (by rw [St.at_put, if_pos rfl]; rfl) (fun b hb => by rw [St.at_put, if_neg hb])
          have hebt : ¬ eb = t := at_apart ge4 hbt4 (by decide)
          refine sval_spec (hp_put h4 htP) (c := fun m => entC ((playsS (T.st i j) false x).es.getD m e0) (dlf m)) (e := (playsS (T.st i j) false x).es.getD i1 e0) (dl := dlf i1) (junk := junk) (fun _ => rfl) (by rw [St.at_put, if_neg hebt]; exact ge4) (by simp only [St.next_put] at hebn ⊢; omega) hi1 rfl ho (by omega) (by omega) fun s9 l9 => ?_
          have hv := get_hit h.ok hpro hz0 hpl hyes hh
          have n9 := l9.1
          simp only [St.next_put] at n9
          have c9 : s9.at' s.next = some (.cells [.int .i64 0, .int .i64 0, .string ⟨#[]⟩] 36 true) := by rw [l9.2 _ (by simp only [St.next_put]; omega), St.at_put, if_neg htne]; exact c4
          unfold vOf vA
          simp -implicitDefEqProofs only [↓Zd, (Zp), if_true, if_false, Nat.reduceEqDiff, Nat.reduceAdd, Nat.reduceLeDiff, okPart, Value.cells, cut, okCell, cld2, (HEx), c9]
          exact fin ⟨_, _, _, _, a5⟩ (fun b hb hO => by rw [St.at_put, if_neg (fun e => hO (by rw [e]; exact hs.pin))]; exact kk4 b hb hO) (by simp only [St.next_put]; omega) (fun b hb => .inl hb) l9 hv
        | false =>
          simp only [hh, Bool.false_eq_true, if_false] at fin
          simp -implicitDefEqProofs only [↓Zd, (Zp), if_true, if_false, Nat.reduceEqDiff, reduceCtorEq, Nat.reduceAdd, Nat.reduceLeDiff, okPart, Value.cells, okCell, cld2, (HEx), (STx), hbt4, wm, co56]
          have a5 := miss_at (s' := s4.put t (.cells [al, .int .i64 (T.hits : Int), .int .i64 ((T.misses + 1 : Nat) : Int)] 84 true)) a4 rfl (by rw [St.at_put, if_pos rfl]; rfl) (fun b hb => by rw [St.at_put, if_neg hb])
          have h5 := hp_put (B := .cells [al, .int .i64 (T.hits : Int), .int .i64 ((T.misses + 1 : Nat) : Int)] 84 true) h4 htP
          have k5 : ∀ b, b < s.next → ¬ O b → (s4.put t (.cells [al, .int .i64 (T.hits : Int), .int .i64 ((T.misses + 1 : Nat) : Int)] 84 true)).at' b = s.at' b := fun b hb hO => by rw [St.at_put, if_neg (fun e => hO (by rw [e]; exact hs.pin))]; exact kk4 b hb hO
          have c5 : (s4.put t (.cells [al, .int .i64 (T.hits : Int), .int .i64 ((T.misses + 1 : Nat) : Int)] 84 true)).at' s.next = some (.cells [.int .i64 0, .int .i64 0, .string ⟨#[]⟩] 36 true) := by rw [St.at_put, if_neg htne]; exact c4
          have n5 : s.next + 1 ≤ (s4.put t (.cells [al, .int .i64 (T.hits : Int), .int .i64 ((T.misses + 1 : Nat) : Int)] 84 true)).next := by simp only [St.next_put]; omega
          generalize s4.put t (.cells [al, .int .i64 (T.hits : Int), .int .i64 ((T.misses + 1 : Nat) : Int)] 84 true) = s5 at a5 h5 k5 c5 n5 ⊢
          refine slook_spec h5 hpro ho (fun s6 l6 hlk => ?_) (fun s6 e dl l6 hlk hD => ?_)
          · have hr0 := hr.one hlk
            subst hr0
            simp -implicitDefEqProofs only [↓Zd, (Zp), if_true, if_false, Nat.reduceEqDiff, Nat.reduceAdd, Nat.reduceLeDiff, okPart, Value.cells, okCell, (STx), co19]
            have n6 := l6.1
            refine hget_spec (h5.le (St.le_trans l6 (by repeat (first | exact St.le_refl _ | assumption | refine St.le_new ?_ | refine St.le_put ?_ (by first | omega | (simp only [St.next_new, St.next_put, St.next_kill]; omega)) | refine St.le_trans ?_ (by assumption))))) ho fun s9 v l9 hv => ?_
            have n9 := l9.1
            simp only [St.next_put, St.next_new] at n9
            have l59 : s5.le s9 := St.le_trans (St.le_trans l6 (by repeat (first | exact St.le_refl _ | assumption | refine St.le_new ?_ | refine St.le_put ?_ (by first | omega | (simp only [St.next_new, St.next_put, St.next_kill]; omega)) | refine St.le_trans ?_ (by assumption)))) l9
            have c9 := (l59.2 s.next (by omega)).trans c5
            unfold vOf vA
            simp -implicitDefEqProofs only [↓Zd, (Zp), if_true, if_false, Nat.reduceEqDiff, Nat.reduceAdd, Nat.reduceLeDiff, okPart, Value.cells, cut, okCell, cld2, (HEx), c9]
            exact fin ⟨_, _, _, _, a5⟩ k5 n5 (fun b hb => .inl hb) l59 hv
          · have hr0 := hr.one hlk
            subst hr0
            obtain ⟨qa, qn, qc, rfl⟩ := hD.form
            have n6 := l6.1
            simp -implicitDefEqProofs only [↓Zd, (Zp), if_true, if_false, Nat.reduceEqDiff, Nat.reduceAdd, Nat.reduceLeDiff, okPart, Value.cells, cut, okCell, cld2, (STx), entC, co57]
            have l7 : s6.le ((s6.new (.cells [.int .i64 0, .int .i64 0, .int .i64 0, .int .i64 0, .slice none 0 0] 51 true)).put s6.next (.cells [.int .i64 (e.shape : Int), .int .i64 e.holder, .int .i64 e.slot, .int .i64 (e.to : Int), .slice qa qn qc] 51 true)) := (by repeat (first | exact St.le_refl _ | assumption | refine St.le_new ?_ | refine St.le_put ?_ (by first | omega | (simp only [St.next_new, St.next_put, St.next_kill]; omega)) | refine St.le_trans ?_ (by assumption)))
            have n7 : ((s6.new (.cells [.int .i64 0, .int .i64 0, .int .i64 0, .int .i64 0, .slice none 0 0] 51 true)).put s6.next (.cells [.int .i64 (e.shape : Int), .int .i64 e.holder, .int .i64 e.slot, .int .i64 (e.to : Int), .slice qa qn qc] 51 true)).next = s6.next + 1 := rfl
            generalize (s6.new (.cells [.int .i64 0, .int .i64 0, .int .i64 0, .int .i64 0, .slice none 0 0] 51 true)).put s6.next (.cells [.int .i64 (e.shape : Int), .int .i64 e.holder, .int .i64 e.slot, .int .i64 (e.to : Int), .slice qa qn qc] 51 true) = s7 at l7 n7 ⊢
            have l57 := St.le_trans l6 l7
            have a7 := (a5.le l57).more (O' := fun b => O b ∨ s.next + 1 ≤ b ∧ b < s7.next) (fun b hb => .inl hb) (fun b hb => by rcases hb with hb | hb; have := hs.own b hb; exact ⟨this.1, by omega⟩; exact ⟨by omega, hb.2⟩)
            have hD7 := hD.same (s' := s7) (O' := fun b => O b ∨ s.next + 1 ≤ b ∧ b < s7.next) fun b hb => ⟨.inr ⟨by omega, by omega⟩, l7.2 b hb.2⟩
            have hst : (missT (putT T (i : Int) (j : Int) (playsS (T.st i j) false x))).st i j = playsS (T.st i j) false x := putT_st T i j _
            refine skeep_spec (M := M) a7 (i := i) (j := j) (e := e) (dl := .slice qa qn qc) hi hj (by omega) (by rw [hst]; exact hz.few) (by rw [hst]; exact hpi.2.2.2.2.1) hD7 fun s8 O8 sl8 a8 u8 => ?_
            rw [hst, putT_two] at a8
            have n8 := u8.next
            have hP8 : ∀ c, P c → s8.at' c = s7.at' c := fun c hc => u8.keep c (by have := hPn c hc; omega) fun hO => by
              rcases hO with hO | hO
              · exact hd c hc hO
              · have := hPn c hc; omega
            have h8 := (h5.le l57).same n8 hP8
            have hns : ¬ (O s.next ∨ s.next + 1 ≤ s.next ∧ s.next < s7.next) := fun hO => by
              rcases hO with hO | hO
              · have := (hs.own _ hO).2; omega
              · omega
            have c8 := (u8.keep s.next (by omega) hns).trans ((l57.2 s.next (by omega)).trans c5)
            simp -implicitDefEqProofs only [↓Zd, (Zp), if_true, if_false, Nat.reduceEqDiff, (HEx), co19]
            refine hget_spec h8 ho fun s9 v l9 hv => ?_
            have n9 := l9.1
            have c9 := (l9.2 s.next (by omega)).trans c8
            unfold vOf vA
            simp -implicitDefEqProofs only [↓Zd, (Zp), if_true, if_false, Nat.reduceEqDiff, Nat.reduceAdd, Nat.reduceLeDiff, okPart, Value.cells, cut, okCell, cld2, (HEx), c9]
            exact fin ⟨_, _, _, _, a8⟩ (fun b hb hO => by rw [u8.keep b (by omega) (fun hc => by rcases hc with hc | hc; exact hO hc; omega), l57.2 b (by omega)]; exact k5 b hb hO) (by omega) (fun b hb => by
              rcases u8.own b hb with hb | hb
              · rcases hb with hb | hb
                · exact .inl hb
                · exact .inr hb.1
              · exact .inr (by omega)) l9 hv
end
end Go.Proofs.Tryz
