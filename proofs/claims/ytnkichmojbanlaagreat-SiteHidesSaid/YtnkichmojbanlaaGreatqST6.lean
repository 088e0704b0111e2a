/- Sites: the walk of look. A lemma file: no statement of its own. -/
import Derived.Test.YtnkichmojbanlaaGreatqFwF
import Derived.Test.YtnkichmojbanlaaGreatqST5
import Derived.Test.YtnkichmojbanlaaGreatqHC0
set_option linter.unusedSimpArgs false
set_option linter.unusedVariables false
set_option linter.unusedSectionVars false
namespace Go.Proofs.Tryz
open Go.Cs
open Go.RowKit (Below)
set_option maxRecDepth 100000
attribute [local irreducible] CCalls WLoop WScope CRound WRange
theorem bEnt0 : cbuild Tryz.prog 51 #[] = some (.agg #[.int .i64 0, .int .i64 0, .int .i64 0, .int .i64 0, .slice none 0 0]) := by kernel_rfl
theorem bEnt1 (a : Int) : cbuild Tryz.prog 51 #[(0, .int .i64 a)] = some (.agg #[.int .i64 a, .int .i64 0, .int .i64 0, .int .i64 0, .slice none 0 0]) := by kernel_rfl
theorem bEnt2 (a b : Int) : cbuild Tryz.prog 51 #[(0, .int .i64 a), (2, .int .i64 b)] = some (.agg #[.int .i64 a, .int .i64 0, .int .i64 b, .int .i64 0, .slice none 0 0]) := by kernel_rfl
theorem bDep2 (a b : Int) : cbuild Tryz.prog 99 #[(0, .int .i64 a), (1, .int .i64 b)] = some (.agg #[.int .i64 a, .int .i64 b]) := by kernel_rfl
theorem rowDep (a b : Int) : crow Tryz.prog 49 1 #[(0, .agg #[.int .i64 a, .int .i64 b])] = some (.cells [.int .i64 a, .int .i64 b] 99 true) := by kernel_rfl
section
variable {M : Type} [Mem M] {w0 : World} {s : St M} {R : Value → St M → Prop} {lo p N : Nat} {H : Hp} {O P : Nat → Prop} {tg : Nat → Nat} {pf pn : Nat} {sl0 : Value} {bs : List Nat}
theorem deps_more {s' : St M} {acc : List (Nat × Nat)} {d : Nat × Nat} {b : Nat} (hb : s'.at' b = some (.cells (rows (fun j => depC (acc.getD j (0, 0))) acc.length ++ [.int .i64 (d.1 : Int), .int .i64 (d.2 : Int)]) 99 true)) (hO : O b) : DepsAt PY s' O (.slice (some ⟨b, 0, none⟩) (acc.length + 1) UNK) (acc ++ [d]) := by
  refine ⟨.inr ⟨b, [], by simp, ?_, ?_⟩, fun q n c e => by cases e; exact hO, fun h => by simp at h⟩
  · rw [hb, List.append_nil, List.length_append]
    show some (Blk.cells _ _ true) = some (.cells (rows _ (acc.length + 1)) _ true)
    rw [rows_succ, rows_congr (c := fun j => depC ((acc ++ [d]).getD j (0, 0))) (d := fun j => depC (acc.getD j (0, 0))) fun j hj => by rw [List.getD_eq_getElem?_getD, List.getD_eq_getElem?_getD, List.getElem?_append_left hj]]
    simp [depC]
    rfl
  · exact rows_len (k := 2) (fun _ => rfl) _
set_option maxHeartbeats 16000000 in
theorem slook_spec (h : HpIn lo s p H N P tg pf pn sl0 bs) (hpro : HPro H) {o : Int} {x : ByteArray} (ho : -9223372036854775808 ≤ o ∧ o ≤ 9223372036854775807)
    (hno : ∀ s', s.le s' → LookE H x o none → R (.tuple #[.agg #[.int .i64 0, .int .i64 0, .int .i64 0, .int .i64 0, .slice none 0 0], .bool false]) s')
    (hyes : ∀ s' e dl, s.le s' → LookE H x o (some e) → DepsAt PY s' (fun b => s.next ≤ b ∧ b < s'.next) dl e.deps → R (.tuple #[.agg (entC e dl).toArray, .bool true]) s') :
    CCalls Tryz.prog w0 56 #[.pointer (some ⟨p, 0, none⟩), .int .i64 o, .string x] s R := by
  refine wfun2 hmix ok56 (l := [.pointer (some ⟨p, 0, none⟩), .int .i64 o, .string x]) func56 rfl ntmps56 results56 (by simp) ?_
  have l1 : s.le (s.new (.cells [.int .i64 0, .int .i64 0, .int .i64 0, .int .i64 0, .slice none 0 0] 51 true)) := St.le_new (St.le_refl _)
  have hsh0 : 0 ≤ shapeV H o := by unfold shapeV; split <;> omega
  have hlim := h.ok.lim
  have hshb : ∀ i, 0 ≤ shapeV H i ∧ shapeV H i ≤ 9223372036854775807 := fun i => by
    unfold shapeV
    split
    · rename_i o' ho'
      refine ⟨by omega, ?_⟩
      by_cases hs : 0 < o'.shape
      · obtain ⟨l, hl⟩ := fits_at h.ok hpro ho' hs
        have := (List.getElem?_eq_some_iff.1 hl).1
        have := h.fo.le
        omega
      · omega
    · omega
  simp -implicitDefEqProofs only [↓Zd, (Zp), if_true, if_false, Nat.reduceEqDiff, reduceCtorEq, Value.cells, (STx), co12]
  refine hshape_spec (h.le l1) ho ?_
  have hBA : ¬ s.next + 1 = s.next := by omega
  have hAB : ¬ s.next = s.next + 1 := by omega
  have l2 : s.le (((s.new (.cells [.int .i64 0, .int .i64 0, .int .i64 0, .int .i64 0, .slice none 0 0] 51 true)).new (.cells [.int .i64 0, .int .i64 0, .int .i64 0, .int .i64 0, .slice none 0 0] 51 true)).put (s.next + 1) (.cells [.int .i64 (shapeV H o), .int .i64 0, .int .i64 0, .int .i64 0, .slice none 0 0] 51 true)) := St.le_put (St.le_new l1) (by omega)
  have cA1 : (((s.new (.cells [.int .i64 0, .int .i64 0, .int .i64 0, .int .i64 0, .slice none 0 0] 51 true)).new (.cells [.int .i64 0, .int .i64 0, .int .i64 0, .int .i64 0, .slice none 0 0] 51 true)).put (s.next + 1) (.cells [.int .i64 (shapeV H o), .int .i64 0, .int .i64 0, .int .i64 0, .slice none 0 0] 51 true)).at' s.next = some (.cells [.int .i64 0, .int .i64 0, .int .i64 0, .int .i64 0, .slice none 0 0] 51 true) := by rw [St.at_put, if_neg hAB, St.at_new, if_neg (by simp only [St.next_new]; omega), St.at_new, if_pos rfl]
  have cB1 : (((s.new (.cells [.int .i64 0, .int .i64 0, .int .i64 0, .int .i64 0, .slice none 0 0] 51 true)).new (.cells [.int .i64 0, .int .i64 0, .int .i64 0, .int .i64 0, .slice none 0 0] 51 true)).put (s.next + 1) (.cells [.int .i64 (shapeV H o), .int .i64 0, .int .i64 0, .int .i64 0, .slice none 0 0] 51 true)).at' (s.next + 1) = some (.cells [.int .i64 (shapeV H o), .int .i64 0, .int .i64 0, .int .i64 0, .slice none 0 0] 51 true) := by rw [St.at_put, if_pos rfl]
  have n1 : (((s.new (.cells [.int .i64 0, .int .i64 0, .int .i64 0, .int .i64 0, .slice none 0 0] 51 true)).new (.cells [.int .i64 0, .int .i64 0, .int .i64 0, .int .i64 0, .slice none 0 0] 51 true)).put (s.next + 1) (.cells [.int .i64 (shapeV H o), .int .i64 0, .int .i64 0, .int .i64 0, .slice none 0 0] 51 true)).next = s.next + 2 := rfl
  simp -implicitDefEqProofs only [↓Zd, (Zp), if_true, if_false, Nat.reduceEqDiff, reduceCtorEq, Nat.reduceAdd, Nat.reduceLeDiff, okPart, Value.cells, okCell, cld2, (HEx), (STx), bEnt1, co62]
  generalize ((s.new (.cells [.int .i64 0, .int .i64 0, .int .i64 0, .int .i64 0, .slice none 0 0] 51 true)).new (.cells [.int .i64 0, .int .i64 0, .int .i64 0, .int .i64 0, .slice none 0 0] 51 true)).put (s.next + 1) (.cells [.int .i64 (shapeV H o), .int .i64 0, .int .i64 0, .int .i64 0, .slice none 0 0] 51 true) = s1 at l2 cA1 cB1 n1 ⊢
  refine hslotof_spec (i := shapeV H o) (h.le l2) (by have := hshb o; omega) fun s2 hs2 => ?_
  have hn2 := hs2.1
  have cA2 := (hs2.2 s.next (by omega)).trans cA1
  have cB2 := (hs2.2 (s.next + 1) (by omega)).trans cB1
  have hs2' := St.le_trans l2 hs2
  have hyes2 : ∀ s' (e : Ent) (dl : Value) {a b c d : Int}, (e.shape : Int) = a → e.holder = b → e.slot = c → (e.to : Int) = d → s.le s' → LookE H x o (some e) → DepsAt PY s' (fun b => s.next ≤ b ∧ b < s'.next) dl e.deps → R (.tuple #[.agg #[.int .i64 a, .int .i64 b, .int .i64 c, .int .i64 d, dl], .bool true]) s' := by
    rintro s' e dl _ _ _ _ rfl rfl rfl rfl h1 h2 h3
    exact hyes s' e dl h1 h2 h3
  clear hyes
  have hsn := Int.toNat_of_nonneg hsh0
  by_cases hk : 0 ≤ slotOf H (shapeV H o) x
  · simp -implicitDefEqProofs only [↓Zd, (Zp), if_true, if_false, Nat.reduceEqDiff, Nat.reduceAdd, Nat.reduceLeDiff, okPart, Value.cells, cut, okCell, cld2, (HEx), (STx), cA2, cB2, hAB, hk]
    exact hyes2 _ ⟨(shapeV H o).toNat, 0, slotOf H (shapeV H o) x, 0, []⟩ _ hsn rfl rfl rfl (St.le_put (St.le_put hs2' (by omega)) (by omega)) (by unfold LookE; rw [if_pos hk]) ⟨.inl ⟨rfl, rfl, rfl⟩, fun q n c e => (by cases e), fun _ => rfl⟩
  have hle : ∀ {q}, LookR H x (protoV H o) q → LookE H x o (q.map fun q => ⟨(shapeV H o).toNat, q.2.1, q.2.2, 0, q.1⟩) := fun hq => by
    unfold LookE
    rw [if_neg hk]
    exact ⟨_, hq, rfl⟩
  obtain ⟨d, hd, hdl⟩ := deep_few h.ok
  have hpv : ∀ i, protoV H i = 0 ∨ ∃ j : Nat, j < H.obs.length ∧ protoV H i = ((j + 1 : Nat) : Int) := fun i => by
    unfold protoV
    split
    · rename_i o' ho'
      obtain ⟨j, rfl, hj, hoj⟩ := obAt_some ho'
      by_cases h0 : o'.proto = 0
      · exact .inl (by rw [h0]; rfl)
      · rcases hd j o' hoj with h1 | ⟨h1, _⟩
        · exact absurd h1 h0
        · exact .inr ⟨o'.proto - 1, by omega, by omega⟩
    · exact .inl rfl
  simp -implicitDefEqProofs only [↓Zd, (Zp), if_true, if_false, Nat.reduceEqDiff, reduceCtorEq, Nat.reduceAdd, Nat.reduceLeDiff, okPart, Value.cells, okCell, cld2, (HEx), (STx), cB2, hk, co73]
  refine hproto_spec (h.le (St.le_put hs2' (by omega))) ho ?_
  simp -implicitDefEqProofs only [↓Zd, (Zp), if_true, if_false, Nat.reduceEqDiff, (HEx)]
  have hstep : ∀ j : Nat, j < H.obs.length → (if protoV H ((j + 1 : Nat) : Int) = 0 then 0 else d (protoV H ((j + 1 : Nat) : Int)).toNat + 1) < d (j + 1) + 1 := fun j hj => by
    have ho' : H.obs[j]? = some H.obs[j] := List.getElem?_eq_getElem hj
    have hpr : protoV H ((j + 1 : Nat) : Int) = (H.obs[j].proto : Int) := by unfold protoV; rw [obAt_get, ho']
    rw [hpr]
    split
    · omega
    · rw [Int.toNat_natCast]
      rcases hd j _ ho' with h1 | ⟨_, h1⟩ <;> omega
  refine wloop_inv hmix (fun fuel env s' => env 0 = .pointer (some ⟨p, 0, none⟩) ∧ env 2 = .string x ∧ env 6 = .pointer (some ⟨s.next, 0, none⟩) ∧ env 8 = .pointer (some ⟨s.next + 1, 0, none⟩) ∧
    ∃ (p1 : Int) (acc : List (Nat × Nat)) (dl : Value), env 9 = .int .i64 p1 ∧ (p1 = 0 ∨ ∃ j : Nat, j < H.obs.length ∧ p1 = ((j + 1 : Nat) : Int)) ∧ fuel = (if p1 = 0 then 0 else d p1.toNat + 1) ∧ acc.length + fuel ≤ 201 ∧ s.le s' ∧ s.next + 2 ≤ s'.next ∧
      s'.at' s.next = some (.cells [.int .i64 0, .int .i64 0, .int .i64 0, .int .i64 0, .slice none 0 0] 51 true) ∧ s'.at' (s.next + 1) = some (.cells [.int .i64 (shapeV H o), .int .i64 0, .int .i64 (slotOf H (shapeV H o) x), .int .i64 0, dl] 51 true) ∧
      DepsAt PY s' (fun b => s.next + 2 ≤ b ∧ b < s'.next) dl acc ∧ (∀ q, LookR H x p1 q → LookR H x (protoV H o) (q.map fun q => (acc ++ q.1, q.2.1, q.2.2)))) (if protoV H o = 0 then 0 else d (protoV H o).toNat + 1) ?_ ?_
  · refine ⟨rfl, rfl, rfl, rfl, protoV H o, [], .slice none 0 0, rfl, hpv o, rfl, ?_, St.le_put hs2' (by omega), ?_, ?_, ?_, ⟨.inl ⟨rfl, rfl, rfl⟩, fun q n c e => (by cases e), fun _ => rfl⟩, fun q hq => ?_⟩
    · rcases hpv o with h0 | ⟨j, hj, h0⟩
      · rw [if_pos h0]; simp
      · rw [if_neg (by omega), h0, Int.toNat_natCast]
        have := hdl j hj
        simp; omega
    · simp only [St.next_put]; omega
    · rw [St.at_put, if_neg hAB]; exact cA2
    · rw [St.at_put, if_pos rfl]
    · cases q with
      | none => exact hq
      | some q => exact hq
  rintro fuel env s3 ⟨e0, e2, e6, e8, p1, acc, dl, e9, hp1, rfl, hfl, hs3, hn3, cA3, cB3, hD3, him⟩
  obtain ⟨qa, qn, qc, rfl⟩ : ∃ a n c, dl = Value.slice a n c := by rcases hD3.1 with ⟨_, _, e⟩ | ⟨b, _, e, _⟩ <;> exact ⟨_, _, _, e⟩
  by_cases h0 : p1 = 0
  · subst h0
    simp -implicitDefEqProofs only [↓Zd, (Zp), if_true, if_false, Nat.reduceEqDiff, Int.reduceNeg, Nat.reduceAdd, Nat.reduceLeDiff, okPart, Value.cells, cut, okCell, cld2, (HEx), (STx), e6, e8, e9, cA3, cB3, hAB]
    have hk0 := hle (him _ .stop)
    simp only [Option.map_some, List.append_nil] at hk0
    refine hyes2 _ ⟨(shapeV H o).toNat, -1, 0, 0, acc⟩ _ hsn rfl rfl rfl ?_ hk0 ⟨hD3.1.same fun q n c e => ?_, fun q n c e => ?_, hD3.2.2⟩
    · exact (by repeat (first | exact St.le_refl _ | assumption | refine St.le_new ?_ | refine St.le_put ?_ (by first | omega | (simp only [St.next_new, St.next_put, St.next_kill]; omega)) | refine St.le_trans ?_ (by assumption)))
    · have := hD3.2.1 q n c e
      rw [St.at_put, if_neg (by omega), St.at_put, if_neg (by omega), St.at_put, if_neg (by omega)]
    · have := hD3.2.1 q n c e
      exact ⟨by omega, this.2⟩
  rcases hp1 with hp1 | ⟨j1, hj1, rfl⟩
  · exact absurd hp1 h0
  have hb1 : -9223372036854775808 ≤ ((j1 + 1 : Nat) : Int) ∧ ((j1 + 1 : Nat) : Int) ≤ 9223372036854775807 := by omega
  rw [if_neg h0, Int.toNat_natCast] at hfl ⊢
  have h3 := h.le hs3
  simp -implicitDefEqProofs only [↓Zd, (Zp), if_true, if_false, Nat.reduceEqDiff, reduceCtorEq, e0, e9, h0, co12]
  refine hshape_spec h3 hb1 ?_
  by_cases hs0 : shapeV H ((j1 + 1 : Nat) : Int) = 0
  · rw [hs0]
    simp -implicitDefEqProofs only [↓Zd, (Zp), if_true, if_false, Nat.reduceEqDiff, Nat.reduceAdd, Nat.reduceLeDiff, okPart, Value.cells, cut, okCell, cld2, (HEx), (STx), e6, cA3, bEnt0]
    exact hno _ (St.le_put hs3 (by omega)) (hle (him _ (.loose h0 hs0)))
  simp -implicitDefEqProofs only [↓Zd, (Zp), if_true, if_false, Nat.reduceEqDiff, reduceCtorEq, Int.reduceNeg, cld2, (HEx), (STx), e0, e8, e9, cB3, hs0, ord56, co45]
  refine hepoch_spec h3 hb1 ?_
  simp -implicitDefEqProofs only [↓Zd, (Zp), if_true, if_false, Nat.reduceEqDiff, Nat.reduceBEq, cld2, (HEx), (STx), cB3, bDep2, rowDep]
  have hep : 0 ≤ epochV H ((j1 + 1 : Nat) : Int) := by unfold epochV; split <;> omega
  have hepn := Int.toNat_of_nonneg hep
  refine wch_appDep rfl rfl (by omega) hD3.1 (fun q m c e => (hD3.2.1 q m c e).2) fun s5 hn5 hb5 hk5 => ?_
  have hl5 : s.le s5 := ⟨by have := hs3.1; omega, fun c hc => by rw [hk5 c (by have := hs3.1; omega) (fun q n c' e => by have := (hD3.2.1 q n c' e).1; omega)]; exact hs3.2 c hc⟩
  have cA5 := (hk5 s.next (by omega) (fun q n c' e => by have := (hD3.2.1 q n c' e).1; omega)).trans cA3
  have cB5 := (hk5 (s.next + 1) (by omega) (fun q n c' e => by have := (hD3.2.1 q n c' e).1; omega)).trans cB3
  simp -implicitDefEqProofs only [↓Zd, (Zp), if_true, if_false, Nat.reduceEqDiff, reduceCtorEq, Nat.reduceAdd, Nat.reduceLeDiff, okPart, Value.cells, okCell, (STx), e0, e8, e9, cB5, co12]
  have l6 : s.le (s5.put (s.next + 1) (.cells [.int .i64 (shapeV H o), .int .i64 0, .int .i64 (slotOf H (shapeV H o) x), .int .i64 0, .slice (some ⟨s3.next + 1, 0, none⟩) (acc.length + 1) UNK] 51 true)) := St.le_put hl5 (by omega)
  have cA6 : (s5.put (s.next + 1) (.cells [.int .i64 (shapeV H o), .int .i64 0, .int .i64 (slotOf H (shapeV H o) x), .int .i64 0, .slice (some ⟨s3.next + 1, 0, none⟩) (acc.length + 1) UNK] 51 true)).at' s.next = some (.cells [.int .i64 0, .int .i64 0, .int .i64 0, .int .i64 0, .slice none 0 0] 51 true) := by rw [St.at_put, if_neg hAB]; exact cA5
  have cB6 : (s5.put (s.next + 1) (.cells [.int .i64 (shapeV H o), .int .i64 0, .int .i64 (slotOf H (shapeV H o) x), .int .i64 0, .slice (some ⟨s3.next + 1, 0, none⟩) (acc.length + 1) UNK] 51 true)).at' (s.next + 1) = some (.cells [.int .i64 (shapeV H o), .int .i64 0, .int .i64 (slotOf H (shapeV H o) x), .int .i64 0, .slice (some ⟨s3.next + 1, 0, none⟩) (acc.length + 1) UNK] 51 true) := by rw [St.at_put, if_pos rfl]
  have cD6 := deps_more (s' := s5.put (s.next + 1) (.cells [.int .i64 (shapeV H o), .int .i64 0, .int .i64 (slotOf H (shapeV H o) x), .int .i64 0, .slice (some ⟨s3.next + 1, 0, none⟩) (acc.length + 1) UNK] 51 true)) (O := fun b => s.next + 2 ≤ b ∧ b < s3.next + 2) (acc := acc) (d := (j1 + 1, (epochV H ((j1 + 1 : Nat) : Int)).toNat)) (b := s3.next + 1) (by rw [St.at_put, if_neg (by omega), hb5]; simp only [hepn]) ⟨by omega, by omega⟩
  have n6 : (s5.put (s.next + 1) (.cells [.int .i64 (shapeV H o), .int .i64 0, .int .i64 (slotOf H (shapeV H o) x), .int .i64 0, .slice (some ⟨s3.next + 1, 0, none⟩) (acc.length + 1) UNK] 51 true)).next = s3.next + 2 := hn5
  generalize s5.put (s.next + 1) (.cells [.int .i64 (shapeV H o), .int .i64 0, .int .i64 (slotOf H (shapeV H o) x), .int .i64 0, .slice (some ⟨s3.next + 1, 0, none⟩) (acc.length + 1) UNK] 51 true) = s6 at l6 cA6 cB6 cD6 n6 ⊢
  refine hshape_spec (h.le l6) hb1 ?_
  simp -implicitDefEqProofs only [↓Zd, (Zp), if_true, if_false, Nat.reduceEqDiff, (HEx), e2, co62]
  refine hslotof_spec (i := shapeV H ((j1 + 1 : Nat) : Int)) (h.le l6) (by have := hshb ((j1 + 1 : Nat) : Int); omega) fun s7 hs7 => ?_
  have hn7 := hs7.1
  have l7 := St.le_trans l6 hs7
  have cA7 := (hs7.2 s.next (by omega)).trans cA6
  have cB7 := (hs7.2 (s.next + 1) (by omega)).trans cB6
  have cD7 := cD6.same (s' := s7) (O' := fun b => s.next + 2 ≤ b ∧ b < s3.next + 2) fun b hb => ⟨hb, hs7.2 b (by omega)⟩
  have hnat : (((j1 + 1 : Nat) : Int)).toNat = j1 + 1 := Int.toNat_natCast _
  by_cases hk7 : 0 ≤ slotOf H (shapeV H ((j1 + 1 : Nat) : Int)) x
  · simp -implicitDefEqProofs only [↓Zd, (Zp), if_true, if_false, Nat.reduceEqDiff, Nat.reduceAdd, Nat.reduceLeDiff, okPart, Value.cells, cut, okCell, cld2, (HEx), (STx), e6, e8, e9, cA7, cB7, hAB, hk7]
    have hlk := hle (him _ (.hit h0 hs0 hk7))
    simp only [Option.map_some, hnat] at hlk
    refine hyes2 _ ⟨(shapeV H o).toNat, ((j1 + 1 : Nat) : Int), _, 0, acc ++ [(j1 + 1, (epochV H ((j1 + 1 : Nat) : Int)).toNat)]⟩ _ hsn rfl rfl rfl ?_ hlk ⟨cD7.1.same fun q n c e => ?_, fun q n c e => ?_, cD7.2.2⟩
    · exact (by repeat (first | exact St.le_refl _ | assumption | refine St.le_new ?_ | refine St.le_put ?_ (by first | omega | (simp only [St.next_new, St.next_put, St.next_kill]; omega)) | refine St.le_trans ?_ (by assumption)))
    · have := cD7.2.1 q n c e
      rw [St.at_put, if_neg (by omega), St.at_put, if_neg (by omega), St.at_put, if_neg (by omega)]
    · have := cD7.2.1 q n c e
      simp only [St.next_put]
      exact ⟨by omega, by omega⟩
  · simp -implicitDefEqProofs only [↓Zd, (Zp), if_true, if_false, Nat.reduceEqDiff, reduceCtorEq, (HEx), e0, e9, hk7, co73]
    refine hproto_spec (h.le l7) hb1 ?_
    have hst := hstep j1 hj1
    simp -implicitDefEqProofs only [↓Zd, (Zp), if_true, if_false, Nat.reduceEqDiff, reduceCtorEq, (HEx), e0, e2, e6, e8, e9]
    refine ⟨_, hst, _, _, _, rfl, hpv _, rfl, ?_, l7, by omega, cA7, cB7, cD7.same fun b hb => ⟨⟨hb.1, by omega⟩, rfl⟩, fun q hq => ?_⟩
    · rw [List.length_append]; simp only [List.length_cons, List.length_nil]; omega
    · have := him _ (.up h0 hs0 (by omega) hq)
      cases q with
      | none => exact this
      | some q => simpa [hnat] using this
end
end Go.Proofs.Tryz
