/- Sites: the walk of Set. A lemma file: no statement of its own. -/
import Derived.Test.YtnkichmojbanlaaGreatqFwF
import Derived.Test.YtnkichmojbanlaaGreatqST9
set_option linter.unusedSimpArgs false
set_option linter.unusedVariables false
set_option linter.unusedSectionVars false
namespace Go.Proofs.Tryz
open Go.Cs
open Go.RowKit (Below)
set_option maxRecDepth 100000
attribute [local irreducible] CCalls WLoop WScope CRound WRange
section
variable {M : Type} [Mem M] {w0 : World} {s : St M} {R : Value → St M → Prop} {lo t p N NN : Nat} {H : Hp} {T : Tab} {O P : Nat → Prop} {al : Value} {rb cp : Nat → Nat} {sl : Nat → Nat → Value}
theorem ha_put {s : St M} (h : HpAt lo s p H NN P) {b : Nat} {B : Blk} (hb : ¬ P b) : HpAt lo (s.put b B) p H NN P :=
  h.same (Nat.le_refl _) fun c hc => by rw [St.at_put, if_neg (fun e => hb (by rw [← e]; exact hc))]
set_option maxHeartbeats 16000000 in
theorem tset_spec (h : HpAt lo s p H NN P) (hS : STab PY lo s t T N O) (hfs : 0 < T.fs) (hd : ∀ b, P b → ¬ O b) (hT : TabOk H T) (hlo : lo ≤ s.next) (hN : N + 1 ≤ 1000000) (hNN : NN + 3 ≤ 1000000) (h32 : 32 ≤ NN) {f k o : Int} (ho : -9223372036854775808 ≤ o ∧ o ≤ 9223372036854775807) {x vy : ByteArray} {vk vn : Int}
    (hR : ∀ s' P' O', HpAt lo s' p (setH H o x (vk, vn, vy)) (NN + 3) P' → STab PY lo s' t (setT H T f k o x (vk, vn, vy)) (N + 1) O' → (∀ b, P' b → ¬ O' b) → s.next ≤ s'.next → (∀ b, b < s.next → ¬ P b → ¬ O b → s'.at' b = s.at' b) → (∀ b, P' b → P b ∨ s.next ≤ b) → (∀ b, O' b → O b ∨ s.next ≤ b) → R (.int .i64 (setE H o x)) s') :
    CCalls Tryz.prog w0 20 #[.pointer (some ⟨t, 0, none⟩), .pointer (some ⟨p, 0, none⟩), .int .i64 f, .int .i64 k, .int .i64 o, .string x, vA vk vn vy] s R := by
  refine wfun2 hmix ok20 (l := [.pointer (some ⟨t, 0, none⟩), .pointer (some ⟨p, 0, none⟩), .int .i64 f, .int .i64 k, .int .i64 o, .string x, vA vk vn vy]) func20 rfl ntmps20 results20 (by simp) ?_
  have hpro := h.1
  have hok := h.ok
  have hF := h.fok
  have hm150 : H.F.length ≤ 150 := by
    obtain ⟨_, tg, pf, pn, sl0, bs, hin⟩ := h
    have := hin.fo.le; omega
  obtain ⟨al, rb, cp, sl, hs⟩ := hS
  have l1 : s.le (s.new (.cells [.int .i64 vk, .int .i64 vn, .string vy] 36 true)) := St.le_new (St.le_refl _)
  have c1 : (s.new (.cells [.int .i64 vk, .int .i64 vn, .string vy] 36 true)).at' s.next = some (.cells [.int .i64 vk, .int .i64 vn, .string vy] 36 true) := by rw [St.at_new, if_pos rfl]
  have n1 : (s.new (.cells [.int .i64 vk, .int .i64 vn, .string vy] 36 true)).next = s.next + 1 := rfl
  have htn := (hs.own _ hs.pin).2
  have htP : ¬ P t := fun hc => hd t hc hs.pin
  have hPn : ∀ c, P c → c < s.next := fun c hc => (h.own c hc).2
  have hOn : ∀ c, O c → c < s.next := fun c hc => (hs.own c hc).2
  have wm : IntKind.i64.wrap ((T.misses : Int) + 1) = ((T.misses + 1 : Nat) : Int) := by rw [wrap_i64 (by have := hs.cnt.2; omega)]; omega
  have wh : IntKind.i64.wrap ((T.hits : Int) + 1) = ((T.hits + 1 : Nat) : Int) := by rw [wrap_i64 (by have := hs.cnt.1; omega)]; omega
  simp -implicitDefEqProofs only [↓Zd, (Zp), if_true, if_false, Nat.reduceEqDiff, reduceCtorEq, okPart, Value.cells, (HEx), vA, co51]
  generalize s.new (.cells [.int .i64 vk, .int .i64 vn, .string vy] 36 true) = s1 at l1 c1 n1 ⊢
  have h1 := h.le l1
  have hs1 := hs.le l1
  have hb1 : s1.at' t = some (.cells [al, .int .i64 (T.hits : Int), .int .i64 (T.misses : Int)] 84 true) := hs1.bl
  have htne : ¬ s.next = t := by omega
  obtain ⟨_, tg, pf, pn, sl0, bs, hin1⟩ := id h1
  refine sdead_spec hs1 hfs ?_
  simp -implicitDefEqProofs only [↓Zd, (Zp), if_true, if_false, Nat.reduceEqDiff, reduceCtorEq, (HEx), vA, co36]
  refine sfind_spec hs1 hfs (fun hnot => ?_) (fun i j hfi hkj hi hj hhas => ?_)
  · simp -implicitDefEqProofs only [↓Zd, (Zp), if_true, if_false, Nat.reduceEqDiff, (STx), vA, co12]
    refine hshape_spec hin1 ho ?_
    have hgt : setT H T f k o x (vk, vn, vy) = missT T := by unfold setT; split <;> first | rfl | (rw [if_pos hnot])
    rw [hgt] at hR
    by_cases h0 : shapeV H o = 0
    · simp -implicitDefEqProofs only [↓Zd, (Zp), if_true, if_false, Nat.reduceEqDiff, reduceCtorEq, Nat.reduceAdd, Nat.reduceLeDiff, okPart, Value.cells, cut, okCell, cld2, (HEx), (STx), vA, h0, hb1, wm, c1, htne, co21]
      have h2' := ha_put (B := .cells [al, .int .i64 (T.hits : Int), .int .i64 ((T.misses + 1 : Nat) : Int)] 84 true) h1 htP
      refine hset_spec (k := vk) (n := vn) (y := vy) h2' (by simp only [St.next_put]; omega) hNN h32 ho fun s9 P9 h9 u9 => ?_
      have a8 := miss_at (s' := s1.put t (.cells [al, .int .i64 (T.hits : Int), .int .i64 ((T.misses + 1 : Nat) : Int)] 84 true)) hs1 rfl (by rw [St.at_put, if_pos rfl]) (fun b hb => by rw [St.at_put, if_neg hb])
      have a9 := STab.other ⟨_, _, _, _, a8⟩ u9 hd
      have n9 := u9.next
      simp only [St.next_put] at n9
      simp -implicitDefEqProofs only [↓Zd, (Zp), if_true, if_false, Nat.reduceEqDiff, (HEx), vA]
      exact hR s9 P9 O h9 a9.1 a9.2 (by omega) (fun b hb hP hO => by rw [u9.keep b (by simp only [St.next_put]; omega) hP, St.at_put, if_neg (fun e => hO (by rw [e]; exact hs.pin))]; exact l1.2 b (by omega)) (fun b hb => by
        rcases u9.own b hb with hb | hb
        · exact .inl hb
        · simp only [St.next_put] at hb; exact .inr (by omega)) (fun b hb => .inl hb)
    · simp -implicitDefEqProofs only [↓Zd, (Zp), if_true, if_false, Nat.reduceEqDiff, (HEx), vA, h0, co52]
      refine splays0_spec ?_
      simp -implicitDefEqProofs only [↓Zd, (Zp), if_true, if_false, Nat.reduceEqDiff, reduceCtorEq, Nat.reduceAdd, Nat.reduceLeDiff, okPart, Value.cells, cut, okCell, cld2, (HEx), (STx), vA, hb1, wm, c1, htne, co21]
      have h2' := ha_put (B := .cells [al, .int .i64 (T.hits : Int), .int .i64 ((T.misses + 1 : Nat) : Int)] 84 true) h1 htP
      refine hset_spec (k := vk) (n := vn) (y := vy) h2' (by simp only [St.next_put]; omega) hNN h32 ho fun s9 P9 h9 u9 => ?_
      have a8 := miss_at (s' := s1.put t (.cells [al, .int .i64 (T.hits : Int), .int .i64 ((T.misses + 1 : Nat) : Int)] 84 true)) hs1 rfl (by rw [St.at_put, if_pos rfl]) (fun b hb => by rw [St.at_put, if_neg hb])
      have a9 := STab.other ⟨_, _, _, _, a8⟩ u9 hd
      have n9 := u9.next
      simp only [St.next_put] at n9
      simp -implicitDefEqProofs only [↓Zd, (Zp), if_true, if_false, Nat.reduceEqDiff, (HEx), vA]
      exact hR s9 P9 O h9 a9.1 a9.2 (by omega) (fun b hb hP hO => by rw [u9.keep b (by simp only [St.next_put]; omega) hP, St.at_put, if_neg (fun e => hO (by rw [e]; exact hs.pin))]; exact l1.2 b (by omega)) (fun b hb => by
        rcases u9.own b hb with hb | hb
        · exact .inl hb
        · simp only [St.next_put] at hb; exact .inr (by omega)) (fun b hb => .inl hb)
  · subst hfi hkj
    rw [setT, if_neg (not_not_intro hhas), atT_nat] at hR
    simp -implicitDefEqProofs only [↓Zd, (Zp), if_true, if_false, Nat.reduceEqDiff, (STx), vA, co12]
    refine hshape_spec hin1 ho ?_
    by_cases h0 : shapeV H o = 0
    · rw [if_pos h0] at hR
      simp -implicitDefEqProofs only [↓Zd, (Zp), if_true, if_false, Nat.reduceEqDiff, reduceCtorEq, Nat.reduceAdd, Nat.reduceLeDiff, okPart, Value.cells, cut, okCell, cld2, (HEx), (STx), vA, h0, hb1, wm, c1, htne, co21]
      have h2' := ha_put (B := .cells [al, .int .i64 (T.hits : Int), .int .i64 ((T.misses + 1 : Nat) : Int)] 84 true) h1 htP
      refine hset_spec (k := vk) (n := vn) (y := vy) h2' (by simp only [St.next_put]; omega) hNN h32 ho fun s9 P9 h9 u9 => ?_
      have a8 := miss_at (s' := s1.put t (.cells [al, .int .i64 (T.hits : Int), .int .i64 ((T.misses + 1 : Nat) : Int)] 84 true)) hs1 rfl (by rw [St.at_put, if_pos rfl]) (fun b hb => by rw [St.at_put, if_neg hb])
      have a9 := STab.other ⟨_, _, _, _, a8⟩ u9 hd
      have n9 := u9.next
      simp only [St.next_put] at n9
      simp -implicitDefEqProofs only [↓Zd, (Zp), if_true, if_false, Nat.reduceEqDiff, (HEx), vA]
      exact hR s9 P9 O h9 a9.1 a9.2 (by omega) (fun b hb hP hO => by rw [u9.keep b (by simp only [St.next_put]; omega) hP, St.at_put, if_neg (fun e => hO (by rw [e]; exact hs.pin))]; exact l1.2 b (by omega)) (fun b hb => by
        rcases u9.own b hb with hb | hb
        · exact .inl hb
        · simp only [St.next_put] at hb; exact .inr (by omega)) (fun b hb => .inl hb)
    rw [if_neg h0] at hR
    simp -implicitDefEqProofs only [↓Zd, (Zp), if_true, if_false, Nat.reduceEqDiff, (HEx), vA, h0, co52]
    refine splays_spec (c := fun m => sitC (T.st i m) (sl i m)) (hs1.row i hi) (fun _ => rfl) hj rfl fun s2 n2 b2 k2 => ?_
    have hrP : ¬ P (rb i) := fun hc => hd _ hc (hs.pinR i hi)
    have a2 := plays_at hs1 hi hj n2 b2 k2
    have h2 := h1.same (s' := s2) (by omega) fun c hc => k2 c (fun e => hrP (by rw [← e]; exact hc))
    have hrn := (hs.own _ (hs.pinR i hi)).2
    have c2 := (k2 s.next (by omega)).trans c1
    have hbt2 : s2.at' t = some (.cells [al, .int .i64 (T.hits : Int), .int .i64 (T.misses : Int)] 84 true) := a2.bl
    have kk2 : ∀ b, b < s.next → ¬ O b → s2.at' b = s.at' b := fun b hb hO => by rw [k2 b (fun e => hO (by rw [e]; exact hs.pinR i hi))]; exact l1.2 b hb
    cases hpl : playsB (T.st i j) true x with
    | false =>
      rw [plays_no hpl, putT_same] at a2
      rw [if_pos hpl] at hR
      simp -implicitDefEqProofs only [↓Zd, (Zp), if_true, if_false, Nat.reduceEqDiff, reduceCtorEq, Nat.reduceAdd, Nat.reduceLeDiff, okPart, Value.cells, cut, okCell, cld2, (HEx), (STx), vA, hbt2, wm, c2, htne, co21]
      have h2' := ha_put (B := .cells [al, .int .i64 (T.hits : Int), .int .i64 ((T.misses + 1 : Nat) : Int)] 84 true) h2 htP
      refine hset_spec (k := vk) (n := vn) (y := vy) h2' (by simp only [St.next_put]; omega) hNN h32 ho fun s9 P9 h9 u9 => ?_
      have a8 := miss_at (s' := s2.put t (.cells [al, .int .i64 (T.hits : Int), .int .i64 ((T.misses + 1 : Nat) : Int)] 84 true)) a2 rfl (by rw [St.at_put, if_pos rfl]) (fun b hb => by rw [St.at_put, if_neg hb])
      have a9 := STab.other ⟨_, _, _, _, a8⟩ u9 hd
      have n9 := u9.next
      simp only [St.next_put] at n9
      simp -implicitDefEqProofs only [↓Zd, (Zp), if_true, if_false, Nat.reduceEqDiff, (HEx), vA]
      exact hR s9 P9 O h9 a9.1 a9.2 (by omega) (fun b hb hP hO => by rw [u9.keep b (by simp only [St.next_put]; omega) hP, St.at_put, if_neg (fun e => hO (by rw [e]; exact hs.pin))]; exact kk2 b hb hO) (fun b hb => by
        rcases u9.own b hb with hb | hb
        · exact .inl hb
        · simp only [St.next_put] at hb; exact .inr (by omega)) (fun b hb => .inl hb)
    | true =>
      rw [plays_yes hpl] at a2 b2
      rw [if_neg (by rw [hpl]; decide)] at hR
      have hz0 : SitOk H (T.st i j) := hT i j hi hj
      have hz := plays_ok hz0 true x
      have hpi := plays_is hpl
      have hE2 := a2.es i j hi hj
      rw [putT_st] at hE2
      simp -implicitDefEqProofs only [↓Zd, (Zp), if_true, if_false, Nat.reduceEqDiff, (HEx), vA, co53]
      refine shit_spec (c := fun m => if m = j then sitC (playsS (T.st i j) true x) (sl i j) else sitC (T.st i m) (sl i m)) (z := playsS (T.st i j) true x) (v := sl i j) b2 (by omega) (fun m => by (try dsimp only); split <;> rfl) hj (if_pos rfl) hE2 (fun b hb => by have := (hs.own b hb).2; omega) (by have := hz.few; omega) (fun hno s3 hs3 => ?_) (fun i1 eb hyes hi1 hsl s3 hs3 => ?_)
      · rw [hno] at hR
        have hbt3 := (hs3.2 t (by omega)).trans hbt2
        have c3 := (hs3.2 s.next (by omega)).trans c2
        have n3 := hs3.1
        have kk3 : ∀ b, b < s.next → ¬ O b → s3.at' b = s.at' b := fun b hb hO => (hs3.2 b (by omega)).trans (kk2 b hb hO)
        have a3 := a2.le hs3
        have h3 := h2.le hs3
        simp -implicitDefEqProofs only [↓Zd, (Zp), if_true, if_false, Nat.reduceEqDiff, reduceCtorEq, Nat.reduceAdd, Nat.reduceLeDiff, okPart, Value.cells, okCell, cld2, (HEx), (STx), vA, hbt3, wm, co62]
        have a4 := miss_at (s' := s3.put t (.cells [al, .int .i64 (T.hits : Int), .int .i64 ((T.misses + 1 : Nat) : Int)] 84 true)) a3 rfl (by rw [St.at_put, if_pos rfl]; rfl) (fun b hb => by rw [St.at_put, if_neg hb])
        have h4 := ha_put (B := .cells [al, .int .i64 (T.hits : Int), .int .i64 ((T.misses + 1 : Nat) : Int)] 84 true) h3 htP
        have kk4 : ∀ b, b < s.next → ¬ O b → (s3.put t (.cells [al, .int .i64 (T.hits : Int), .int .i64 ((T.misses + 1 : Nat) : Int)] 84 true)).at' b = s.at' b := fun b hb hO => by rw [St.at_put, if_neg (fun e => hO (by rw [e]; exact hs.pin))]; exact kk3 b hb hO
        have c4 : (s3.put t (.cells [al, .int .i64 (T.hits : Int), .int .i64 ((T.misses + 1 : Nat) : Int)] 84 true)).at' s.next = some (.cells [.int .i64 vk, .int .i64 vn, .string vy] 36 true) := by rw [St.at_put, if_neg htne]; exact c3
        have n4 : (s3.put t (.cells [al, .int .i64 (T.hits : Int), .int .i64 ((T.misses + 1 : Nat) : Int)] 84 true)).next = s3.next := rfl
        generalize s3.put t (.cells [al, .int .i64 (T.hits : Int), .int .i64 ((T.misses + 1 : Nat) : Int)] 84 true) = s4 at a4 h4 kk4 c4 n4 ⊢
        have hsh : 0 ≤ shapeV H o ∧ shapeV H o ≤ 9223372036854775807 := by
          obtain ⟨ob, hob, e1, e2⟩ := shapeV_some h0
          obtain ⟨l, hl⟩ := fits_at hok hpro hob e2
          have := (List.getElem?_eq_some_iff.1 hl).1
          omega
        obtain ⟨_, tg4, pf4, pn4, sl4, bs4, hin4⟩ := id h4
        refine hslotof_spec (i := shapeV H o) hin4 (by omega) fun s5 hs5 => ?_
        have n5 := hs5.1
        have hne5 : ¬ s.next = s5.next := by omega
        have c5 := (hs5.2 s.next (by omega)).trans c4
        simp -implicitDefEqProofs only [↓Zd, (Zp), if_true, if_false, Nat.reduceEqDiff, Nat.reduceAdd, Nat.reduceLeDiff, okPart, Value.cells, cut, okCell, cld2, (HEx), (STx), vA, bEnt2, c5, hne5, co21]
        have l6 : s5.le ((s5.new (.cells [.int .i64 0, .int .i64 0, .int .i64 0, .int .i64 0, .slice none 0 0] 51 true)).put s5.next (.cells [.int .i64 (shapeV H o), .int .i64 0, .int .i64 (slotOf H (shapeV H o) x), .int .i64 0, .slice none 0 0] 51 true)) := St.le_put (St.le_new (St.le_refl _)) (Nat.le_refl _)
        have e6 : ((s5.new (.cells [.int .i64 0, .int .i64 0, .int .i64 0, .int .i64 0, .slice none 0 0] 51 true)).put s5.next (.cells [.int .i64 (shapeV H o), .int .i64 0, .int .i64 (slotOf H (shapeV H o) x), .int .i64 0, .slice none 0 0] 51 true)).at' s5.next = some (.cells [.int .i64 (shapeV H o), .int .i64 0, .int .i64 (slotOf H (shapeV H o) x), .int .i64 0, .slice none 0 0] 51 true) := by rw [St.at_put, if_pos rfl]
        have n6 : ((s5.new (.cells [.int .i64 0, .int .i64 0, .int .i64 0, .int .i64 0, .slice none 0 0] 51 true)).put s5.next (.cells [.int .i64 (shapeV H o), .int .i64 0, .int .i64 (slotOf H (shapeV H o) x), .int .i64 0, .slice none 0 0] 51 true)).next = s5.next + 1 := rfl
        generalize (s5.new (.cells [.int .i64 0, .int .i64 0, .int .i64 0, .int .i64 0, .slice none 0 0] 51 true)).put s5.next (.cells [.int .i64 (shapeV H o), .int .i64 0, .int .i64 (slotOf H (shapeV H o) x), .int .i64 0, .slice none 0 0] 51 true) = s6 at l6 e6 n6 ⊢
        have l46 := St.le_trans hs5 l6
        refine hset_spec (k := vk) (n := vn) (y := vy) (h4.le l46) (by omega) hNN h32 ho fun s7 P7 h7 u7 => ?_
        have n7 := u7.next
        have a7 := STab.other (s' := s7) ⟨_, _, _, _, a4.le l46⟩ u7 hd
        have at7 := (a4.le l46).same (s' := s7) n7 fun b hb => u7.keep b (by have := hOn b hb; omega) fun hP => hd b hP hb
        have e7 := (u7.keep s5.next (by omega) fun hP => by have := hPn _ hP; omega).trans e6
        have kk7 : ∀ b, b < s.next → ¬ P b → ¬ O b → s7.at' b = s.at' b := fun b hb hP hO => by rw [u7.keep b (by omega) hP, l46.2 b (by omega)]; exact kk4 b hb hO
        have own7 : ∀ b, P7 b → P b ∨ s.next ≤ b := fun b hb => by
          rcases u7.own b hb with hb | hb
          · exact .inl hb
          · exact .inr (by omega)
        by_cases hE0 : setE H o x = 0
        · obtain ⟨_, tg7, pf7, pn7, sl7, bs7, hin7⟩ := id h7
          rw [hE0]
          simp -implicitDefEqProofs only [↓Zd, (Zp), if_true, if_false, Nat.reduceEqDiff, (HEx), vA, co12]
          refine hshape_spec hin7 ho ?_
          by_cases hs0 : shapeV (setH H o x (vk, vn, vy)) o = 0
          · rw [if_neg (fun hc => hc.2 hs0), hE0] at hR
            rw [hs0]
            simp -implicitDefEqProofs only [↓Zd, (Zp), if_true, if_false, Nat.reduceEqDiff, (HEx), vA]
            exact hR s7 P7 O h7 a7.1 a7.2 (by omega) kk7 own7 (fun b hb => .inl hb)
          rw [if_pos ⟨hE0, hs0⟩, hE0] at hR
          have hsh7 : 0 ≤ shapeV (setH H o x (vk, vn, vy)) o := by unfold shapeV; split <;> omega
          have hst : (missT (putT T (i : Int) (j : Int) (playsS (T.st i j) true x))).st i j = playsS (T.st i j) true x := putT_st T i j _
          by_cases hk : slotOf H (shapeV H o) x < 0
          · simp -implicitDefEqProofs only [↓Zd, (Zp), if_true, if_false, Nat.reduceEqDiff, cld2, (HEx), (STx), vA, hs0, hk, e7, co12]
            refine hshape_spec hin7 ho ?_
            simp -implicitDefEqProofs only [↓Zd, (Zp), if_true, if_false, Nat.reduceEqDiff, Nat.reduceAdd, Nat.reduceLeDiff, okPart, Value.cells, cut, okCell, cld2, (HEx), (STx), vA, e7, co57]
            have hnew : newE H o x (vk, vn, vy) = ⟨(shapeV H o).toNat, 0, 0, (shapeV (setH H o x (vk, vn, vy)) o).toNat, []⟩ := by unfold newE; rw [if_neg (by omega)]
            have hA : (.agg #[.int .i64 (shapeV H o), .int .i64 0, .int .i64 0, .int .i64 (shapeV (setH H o x (vk, vn, vy)) o), .slice none 0 0] : Value) = .agg (entC (newE H o x (vk, vn, vy)) (.slice none 0 0)).toArray := by
              rw [hnew]
              simp only [entC, Int.toNat_of_nonneg hsh.1, Int.toNat_of_nonneg hsh7]
            rw [hA]
            have hd0 : (newE H o x (vk, vn, vy)).deps = [] := by rw [hnew]
            have hput : ∀ b, b ≠ s5.next → ((s7.put s5.next (.cells [.int .i64 (shapeV H o), .int .i64 0, .int .i64 0, .int .i64 0, .slice none 0 0] 51 true)).put s5.next (.cells [.int .i64 (shapeV H o), .int .i64 0, .int .i64 0, .int .i64 (shapeV (setH H o x (vk, vn, vy)) o), .slice none 0 0] 51 true)).at' b = s7.at' b := fun b hb => (by rw [St.at_put, if_neg hb, St.at_put, if_neg hb])
            have at8 : SAt PY lo ((s7.put s5.next (.cells [.int .i64 (shapeV H o), .int .i64 0, .int .i64 0, .int .i64 0, .slice none 0 0] 51 true)).put s5.next (.cells [.int .i64 (shapeV H o), .int .i64 0, .int .i64 0, .int .i64 (shapeV (setH H o x (vk, vn, vy)) o), .slice none 0 0] 51 true)) t (missT (putT T (i : Int) (j : Int) (playsS (T.st i j) true x))) (N + 1) O al rb cp _ := at7.same (Nat.le_refl _) fun b hb => hput b (fun e => by have := hOn b hb; omega)
            refine skeep_spec (M := M) at8 (i := i) (j := j) (e := newE H o x (vk, vn, vy)) (dl := .slice none 0 0) hi hj (by show lo ≤ s7.next; omega) (by rw [hst]; exact hz.few) (by rw [hst]; exact hpi.2.2.2.2.1) (by rw [hd0]; exact ⟨.inl ⟨rfl, rfl, rfl⟩, fun q n c e => (by cases e), fun _ => rfl⟩) fun s9 O9 sl9 a9 u9 => ?_
            rw [hst, putT_two] at a9
            have n9 : s7.next ≤ s9.next := u9.next
            have hk9 : ∀ b, b < s5.next → ¬ O b → s9.at' b = s7.at' b := fun b hb hO => (u9.keep b (by show b < s7.next; omega) hO).trans (hput b (by omega))
            simp -implicitDefEqProofs only [↓Zd, (Zp), if_true, if_false, Nat.reduceEqDiff, (HEx), vA]
            refine hR s9 P7 O9 (h7.same n9 fun c hc => ?_) ⟨_, _, _, _, a9⟩ (fun b hb hO => ?_) (by omega) (fun b hb hP hO => (hk9 b (by omega) hO).trans (kk7 b hb hP hO)) own7 (fun b hb => ?_)
            · have hne : c ≠ s5.next := fun e => by
                rcases u7.own c hc with h8 | h8
                · have := hPn c h8; omega
                · omega
              exact (u9.keep c (h7.own c hc).2 (a7.2 c hc)).trans (hput c hne)
            · rcases u9.own b hO with h8 | h8
              · exact a7.2 b hb h8
              · have := (h7.own b hb).2
                have h8 : s7.next ≤ b := h8
                omega
            · rcases u9.own b hb with h8 | h8
              · exact .inl h8
              · have h8 : s7.next ≤ b := h8
                exact .inr (by omega)
          · simp -implicitDefEqProofs only [↓Zd, (Zp), if_true, if_false, Nat.reduceEqDiff, Nat.reduceAdd, Nat.reduceLeDiff, cut, cld2, (HEx), (STx), vA, hs0, hk, e7, co57]
            have hnew : newE H o x (vk, vn, vy) = ⟨(shapeV H o).toNat, 0, slotOf H (shapeV H o) x, 0, []⟩ := by unfold newE; rw [if_pos (by omega)]
            have hA : (.agg #[.int .i64 (shapeV H o), .int .i64 0, .int .i64 (slotOf H (shapeV H o) x), .int .i64 0, .slice none 0 0] : Value) = .agg (entC (newE H o x (vk, vn, vy)) (.slice none 0 0)).toArray := by
              rw [hnew]
              simp only [entC, Int.toNat_of_nonneg hsh.1]
              rfl
            rw [hA]
            have hd0 : (newE H o x (vk, vn, vy)).deps = [] := by rw [hnew]
            have hput : ∀ b, b ≠ s5.next → s7.at' b = s7.at' b := fun b hb => rfl
            have at8 : SAt PY lo s7 t (missT (putT T (i : Int) (j : Int) (playsS (T.st i j) true x))) (N + 1) O al rb cp _ := at7.same (Nat.le_refl _) fun b hb => hput b (fun e => by have := hOn b hb; omega)
            refine skeep_spec (M := M) at8 (i := i) (j := j) (e := newE H o x (vk, vn, vy)) (dl := .slice none 0 0) hi hj (by show lo ≤ s7.next; omega) (by rw [hst]; exact hz.few) (by rw [hst]; exact hpi.2.2.2.2.1) (by rw [hd0]; exact ⟨.inl ⟨rfl, rfl, rfl⟩, fun q n c e => (by cases e), fun _ => rfl⟩) fun s9 O9 sl9 a9 u9 => ?_
            rw [hst, putT_two] at a9
            have n9 : s7.next ≤ s9.next := u9.next
            have hk9 : ∀ b, b < s5.next → ¬ O b → s9.at' b = s7.at' b := fun b hb hO => (u9.keep b (by show b < s7.next; omega) hO).trans (hput b (by omega))
            simp -implicitDefEqProofs only [↓Zd, (Zp), if_true, if_false, Nat.reduceEqDiff, (HEx), vA]
            refine hR s9 P7 O9 (h7.same n9 fun c hc => ?_) ⟨_, _, _, _, a9⟩ (fun b hb hO => ?_) (by omega) (fun b hb hP hO => (hk9 b (by omega) hO).trans (kk7 b hb hP hO)) own7 (fun b hb => ?_)
            · have hne : c ≠ s5.next := fun e => by
                rcases u7.own c hc with h8 | h8
                · have := hPn c h8; omega
                · omega
              exact (u9.keep c (h7.own c hc).2 (a7.2 c hc)).trans (hput c hne)
            · rcases u9.own b hO with h8 | h8
              · exact a7.2 b hb h8
              · have := (h7.own b hb).2
                have h8 : s7.next ≤ b := h8
                omega
            · rcases u9.own b hb with h8 | h8
              · exact .inl h8
              · have h8 : s7.next ≤ b := h8
                exact .inr (by omega)
        · rw [if_neg (fun hc => hE0 hc.1)] at hR
          simp -implicitDefEqProofs only [↓Zd, (Zp), if_true, if_false, Nat.reduceEqDiff, (HEx), vA, hE0]
          exact hR s7 P7 O h7 a7.1 a7.2 (by omega) kk7 own7 (fun b hb => .inl hb)
      · rw [hyes] at hR
        have hbt3 := (hs3.2 t (by omega)).trans hbt2
        have c3 := (hs3.2 s.next (by omega)).trans c2
        have n3 := hs3.1
        have kk3 : ∀ b, b < s.next → ¬ O b → s3.at' b = s.at' b := fun b hb hO => (hs3.2 b (by omega)).trans (kk2 b hb hO)
        have a3 := a2.le hs3
        have h3 := h2.le hs3
        obtain ⟨e, he1, he2, he3, hso⟩ := set_hit hz0 hpl hyes
        obtain ⟨q1, q2, q3⟩ := hso.small hok hF
        obtain ⟨dlf, g1, g2, g3, g4⟩ := hE2
        rw [hsl] at g1 g2
        rcases g1 with ⟨g1, _, _⟩ | ⟨eb2, junk, ge, g1, _⟩
        · omega
        cases ge
        have hebn := (hs.own _ (g2 _ _ _ rfl)).2
        have ge3 : s3.at' eb = _ := (hs3.2 eb (by simp only at hebn; omega)).trans g1
        have hebt : ¬ eb = t := at_apart ge3 hbt3 (by decide)
        have u2 : (rows (fun m => entC ((playsS (T.st i j) true x).es.getD m e0) (dlf m)) (playsS (T.st i j) true x).es.length ++ junk)[i1 * 5 + 2]? = some (.int .i64 e.slot) := by
          rw [rows_get (c := fun m => entC ((playsS (T.st i j) true x).es.getD m e0) (dlf m)) (k := 5) (fun _ => rfl) junk hi1 (j := 2) (by omega)]
          simp only [he1]; rfl
        have u3 : (rows (fun m => entC ((playsS (T.st i j) true x).es.getD m e0) (dlf m)) (playsS (T.st i j) true x).es.length ++ junk)[i1 * 5 + 3]? = some (.int .i64 (e.to : Int)) := by
          rw [rows_get (c := fun m => entC ((playsS (T.st i j) true x).es.getD m e0) (dlf m)) (k := 5) (fun _ => rfl) junk hi1 (j := 3) (by omega)]
          simp only [he1]; rfl
        have a5 := hit_at (s' := s3.put t (.cells [al, .int .i64 ((T.hits + 1 : Nat) : Int), .int .i64 (T.misses : Int)] 84 true)) a3 rfl (by rw [St.at_put, if_pos rfl]; rfl) (fun b hb => by rw [St.at_put, if_neg hb])
        have h5 := ha_put (B := .cells [al, .int .i64 ((T.hits + 1 : Nat) : Int), .int .i64 (T.misses : Int)] 84 true) h3 htP
        by_cases ht0 : (0 : Int) < (e.to : Int)
        · obtain ⟨w1, w2⟩ := hso.grow hok hF he3 (by omega) (vk, vn, vy)
          rw [w1, w2] at hR
          simp -implicitDefEqProofs only [↓Zd, (Zp), if_true, if_false, Nat.reduceEqDiff, reduceCtorEq, Nat.reduceAdd, Nat.reduceLeDiff, okPart, Value.cells, cut, okCell, cld2, (HEx), (STx), vA, hbt3, wh, ge3, hebt, u3, ht0, c3, htne, ord20, co60]
          refine hgrow_spec (y := vy) (k := vk) (n := vn) (to := (e.to : Int)) h5 (by simp only [St.next_put]; omega) hNN ho (by omega) fun s9 P9 h9 u9 => ?_
          have a9 := STab.other ⟨_, _, _, _, a5⟩ u9 hd
          have n9 := u9.next
          simp only [St.next_put] at n9
          have kk9 : ∀ b, b < s3.next → ¬ P b → s9.at' b = (s3.put t (.cells [al, .int .i64 ((T.hits + 1 : Nat) : Int), .int .i64 (T.misses : Int)] 84 true)).at' b := fun b hb hP => u9.keep b (by simp only [St.next_put]; omega) hP
          have ge9 := (kk9 eb (by simp only at hebn; omega) (fun hc => hd _ hc (g2 _ _ _ rfl))).trans ((by rw [St.at_put, if_neg hebt] : (s3.put t (.cells [al, .int .i64 ((T.hits + 1 : Nat) : Int), .int .i64 (T.misses : Int)] 84 true)).at' eb = s3.at' eb).trans ge3)
          have c9 := (kk9 s.next (by omega) (fun hc => by have := hPn _ hc; omega)).trans ((by rw [St.at_put, if_neg htne] : (s3.put t (.cells [al, .int .i64 ((T.hits + 1 : Nat) : Int), .int .i64 (T.misses : Int)] 84 true)).at' s.next = s3.at' s.next).trans c3)
          simp -implicitDefEqProofs only [↓Zd, (Zp), if_true, if_false, Nat.reduceEqDiff, (HEx)]
          exact hR s9 P9 O h9 a9.1 a9.2 (by omega) (fun b hb hP hO => by rw [kk9 b (by omega) hP, St.at_put, if_neg (fun e => hO (by rw [e]; exact hs.pin))]; exact kk3 b hb hO) (fun b hb => by
            rcases u9.own b hb with hb | hb
            · exact .inl hb
            · simp only [St.next_put] at hb; exact .inr (by omega)) (fun b hb => .inl hb)
        · obtain ⟨w1, w2⟩ := hso.put hok he3 (by omega) (vk, vn, vy)
          rw [w1, w2] at hR
          simp -implicitDefEqProofs only [↓Zd, (Zp), if_true, if_false, Nat.reduceEqDiff, reduceCtorEq, Nat.reduceAdd, Nat.reduceLeDiff, okPart, Value.cells, cut, okCell, cld2, (HEx), (STx), vA, hbt3, wh, ge3, hebt, u2, u3, ht0, c3, htne, ord20, co61]
          refine hput_spec (y := vy) (k := vk) (n := vn) (q := e.slot) h5 ho (by omega) fun s9 P9 h9 u9 => ?_
          have a9 := STab.other ⟨_, _, _, _, a5⟩ u9 hd
          have n9 := u9.next
          simp only [St.next_put] at n9
          have kk9 : ∀ b, b < s3.next → ¬ P b → s9.at' b = (s3.put t (.cells [al, .int .i64 ((T.hits + 1 : Nat) : Int), .int .i64 (T.misses : Int)] 84 true)).at' b := fun b hb hP => u9.keep b (by simp only [St.next_put]; omega) hP
          have ge9 := (kk9 eb (by simp only at hebn; omega) (fun hc => hd _ hc (g2 _ _ _ rfl))).trans ((by rw [St.at_put, if_neg hebt] : (s3.put t (.cells [al, .int .i64 ((T.hits + 1 : Nat) : Int), .int .i64 (T.misses : Int)] 84 true)).at' eb = s3.at' eb).trans ge3)
          have c9 := (kk9 s.next (by omega) (fun hc => by have := hPn _ hc; omega)).trans ((by rw [St.at_put, if_neg htne] : (s3.put t (.cells [al, .int .i64 ((T.hits + 1 : Nat) : Int), .int .i64 (T.misses : Int)] 84 true)).at' s.next = s3.at' s.next).trans c3)
          simp -implicitDefEqProofs only [↓Zd, (Zp), if_true, if_false, Nat.reduceEqDiff, (HEx)]
          exact hR s9 P9 O (h9.mono (by omega)) a9.1 a9.2 (by omega) (fun b hb hP hO => by rw [kk9 b (by omega) hP, St.at_put, if_neg (fun e => hO (by rw [e]; exact hs.pin))]; exact kk3 b hb hO) (fun b hb => by
            rcases u9.own b hb with hb | hb
            · exact .inl hb
            · simp only [St.next_put] at hb; exact .inr (by omega)) (fun b hb => .inl hb)
end
end Go.Proofs.Tryz
