/- Sites: the walk of keep. A lemma file: no statement of its own. -/
import Derived.Test.YtnkichmojbanlaaGreatqFwF
import Derived.Test.YtnkichmojbanlaaGreatqST7
set_option linter.unusedSimpArgs false
set_option linter.unusedVariables false
set_option linter.unusedSectionVars false
namespace Go.Proofs.Tryz
open Go.Cs
open Go.RowKit (Below)
set_option maxRecDepth 100000
attribute [local irreducible] CCalls WLoop WScope CRound WRange
section
variable {M : Type} [Mem M] {w0 : World} {s : St M} {R : Value → St M → Prop} {lo t N : Nat} {T : Tab} {O : Nat → Prop} {al : Value} {rb cp : Nat → Nat} {sl : Nat → Nat → Value}
theorem DepsAt.keep {Y : STy} {s' : St M} {O' : Nat → Prop} {dl : Value} {ds : List (Nat × Nat)} (h : DepsAt Y s O dl ds) (hO : ∀ b, O b → O' b) (hs : ∀ b cs, O b → s.at' b = some (.cells cs Y.tD true) → s'.at' b = s.at' b) : DepsAt Y s' O' dl ds := by
  obtain ⟨h1, h2, h3⟩ := h
  refine ⟨?_, fun q n c e => hO _ (h2 q n c e), h3⟩
  rcases h1 with h1 | ⟨b, junk, g1, g2, g3⟩
  · exact .inl h1
  · exact .inr ⟨b, junk, g1, (hs b _ (h2 _ _ _ g1) g2).trans g2, g3⟩
theorem keep_stores {i j : Nat} {v : Value} {m : Bool} (hj : j < T.n i) :
    (rows (fun k => sitC (T.st i k) (sl i k)) (T.n i)).set (j * 5 + 4) v = rows (fun k => if k = j then sitC (T.st i j) v else sitC (T.st i k) (sl i k)) (T.n i) ∧
    (rows (fun k => if k = j then sitC (T.st i j) v else sitC (T.st i k) (sl i k)) (T.n i)).set (j * 5 + 2) (.bool m) = rows (fun k => if k = j then sitC { T.st i j with mega := m } v else sitC (T.st i k) (sl i k)) (T.n i) ∧
    (rows (fun k => sitC (T.st i k) (sl i k)) (T.n i)).length = T.n i * 5 ∧ (rows (fun k => if k = j then sitC (T.st i j) v else sitC (T.st i k) (sl i k)) (T.n i)).length = T.n i * 5 ∧ j * 5 + 5 ≤ T.n i * 5 ∧ j * 5 + 3 ≤ T.n i * 5 := by
  have hl : ∀ (k : Nat) (z : Sit) (v : Value), (if k = j then sitC z v else sitC (T.st i k) (sl i k)).length = 5 := fun k z v => by split <;> rfl
  refine ⟨rows_set0 (k := 5) (fun _ => rfl) (fun k => hl k _ _) hj (by omega) (fun k hk => if_neg hk) (by rw [if_pos rfl]; rfl), rows_set0 (k := 5) (fun k => hl k _ _) (fun k => hl k _ _) hj (by omega) (fun k hk => by rw [if_neg hk, if_neg hk]) (by rw [if_pos rfl, if_pos rfl]; rfl), rows_len (k := 5) (fun _ => rfl) _, rows_len (k := 5) (fun k => hl k _ _) _, by omega, by omega⟩
theorem keep_end (h : SAt PY lo s t T N O al rb cp sl) {i j : Nat} (hi : i < T.fs) (hj : j < T.n i) (hlo : lo ≤ s.next) {s2 s3 : St M} {z' : Sit} {v' : Value} {O' : Nat → Prop} (hs : s.le s2) (hO : ∀ b, O b → O' b) (hO' : ∀ b, O' b → O b ∨ s.next ≤ b ∧ b < s2.next)
    (hn : s3.next = s2.next) (hrow : s3.at' (rb i) = some (.cells (rows (fun k => if k = j then sitC z' v' else sitC (T.st i k) (sl i k)) (T.n i)) 96 true)) (hk : ∀ b, b ≠ rb i → s3.at' b = s2.at' b) (hes : EntsAt PY s2 O' v' z'.es)
    (hap : ∀ q n c, v' = .slice (some q) n c → s.next ≤ q.block) : SAt PY lo s3 t (putT T i j z') N O' al rb cp (fun a b => if a = i ∧ b = j then v' else sl a b) ∧ Upd s s3 O O' := by
  have hrbn := (h.own _ (h.pinR i hi)).2
  have hsn := hs.1
  have hr := h.row i hi
  refine ⟨h.set hi hj (by omega) hO (fun b hb => ?_) hrow (fun b hb hne hq => ?_) (hes.keep (fun _ h => h) fun b cs ty h1 h2 h3 => hk b fun e => ?_) (fun q n c e => .inr (hap q n c e)), ?_, fun c hc hO2 => ?_, fun b hb => ?_⟩
  · rcases hO' b hb with h1 | h1
    · have := h.own b h1; exact ⟨this.1, by omega⟩
    · exact ⟨by omega, by omega⟩
  · rw [hk b hne]; exact hs.2 b (h.own b hb).2
  · subst e
    rw [hs.2 _ hrbn, hr] at h2
    injection h2 with h2
    injection h2 with _ h5 _
    rcases h3 with rfl | ⟨rfl, _⟩ <;> exact absurd h5 (by decide)
  · omega
  · rw [hk c fun e => hO2 (e ▸ h.pinR i hi)]; exact hs.2 c hc
  · rcases hO' b hb with h1 | h1
    · exact .inl h1
    · exact .inr h1.1
set_option maxHeartbeats 8000000 in
theorem skeep_spec (h : SAt PY lo s t T N O al rb cp sl) {i j : Nat} (hi : i < T.fs) (hj : j < T.n i) (hlo : lo ≤ s.next) {e : Ent} {dl : Value} (hz : (T.st i j).es.length ≤ 4) (hm : (T.st i j).mega = false) (hD : DepsAt PY s O dl e.deps)
    (hR : ∀ s' O' sl', SAt PY lo s' t (putT T i j (keepS (T.st i j) e)) N O' al rb cp sl' → Upd s s' O O' → R (.tuple #[]) s') :
    CCalls Tryz.prog w0 57 #[.pointer (some ⟨rb i, j * 5, none⟩), .agg (entC e dl).toArray] s R := by
  refine wfun2 hmix ok57 (l := [.pointer (some ⟨rb i, j * 5, none⟩), .agg (entC e dl).toArray]) func57 rfl ntmps57 results57 (by simp) ?_
  have hform := hD.form
  have hb : s.at' (rb i) = some (.cells (rows (fun k => sitC (T.st i k) (sl i k)) (T.n i)) 96 true) := h.row i hi
  have hrbO := h.pinR i hi
  have hrbn := (h.own _ hrbO).2
  have hne : ¬ rb i = s.next := by omega
  have g4 : (rows (fun k => sitC (T.st i k) (sl i k)) (T.n i))[j * 5 + 4]? = some (sl i j) := rows_get0 (c := fun k => sitC (T.st i k) (sl i k)) (k := 5) (fun _ => rfl) hj (j := 4) (by omega)
  have l1 : s.le (s.new (.cells (entC e dl) 51 true)) := St.le_new (St.le_refl _)
  have hall : (entC e dl).toArray = #[.int .i64 (e.shape : Int), .int .i64 e.holder, .int .i64 e.slot, .int .i64 (e.to : Int), dl] := rfl
  have hallc : entC e dl = [.int .i64 (e.shape : Int), .int .i64 e.holder, .int .i64 e.slot, .int .i64 (e.to : Int), dl] := rfl
  obtain ⟨dlf, h1, h2, h3, h4⟩ := h.es i j hi hj
  obtain ⟨qa, qn, qc, rfl⟩ := hform
  rcases h1 with ⟨g1, _, hv⟩ | ⟨eb, junk, hv, g2, g3⟩
  · rw [hv] at g4
    simp -implicitDefEqProofs only [↓Zd, (Zp), if_true, if_false, Nat.reduceEqDiff, reduceCtorEq, okPart, Value.cells, cld2, (STx), hall, hb, hne, g4, co103]
    refine ixe0_spec (M := M) ?_
    simp -implicitDefEqProofs only [↓Zd, (Zp), if_true, if_false, Nat.reduceEqDiff, reduceCtorEq, Int.reduceNeg, Int.reduceLE, Nat.reduceAdd, Nat.reduceLeDiff, cut, cld2, (HEx), (STx), hall, hb, hne, g4, ord57, co108]
    refine bounded0 (e := e) (dl := .slice qa qn qc) ⟨_, _, _, rfl⟩ fun s2 b' hs2 hb1 hb2 hcell => ?_
    simp only [St.next_new] at hb1
    have hs12 : s.le s2 := St.le_trans (St.le_new (St.le_refl _)) hs2
    have hv1 : s2.at' s.next = some (.cells (entC e (.slice qa qn qc)) 51 true) := by rw [hs2.2 _ (by simp only [St.next_new]; omega), St.at_new, if_pos rfl]; rfl
    rw [hallc] at hv1
    have hb2r := (hs12.2 _ hrbn).trans hb
    obtain ⟨f1, f2, f3, f4, f5, f6⟩ := keep_stores (T := T) (sl := sl) (i := i) (j := j) (v := .slice (some ⟨b', 0, none⟩) 1 UNK) (m := false) hj
    simp -implicitDefEqProofs only [↓Zd, (Zp), if_true, if_false, Nat.reduceEqDiff, reduceCtorEq, Int.reduceNeg, Nat.reduceAdd, Nat.reduceBEq, okPart, Value.cells, okCell, (HEx), (STx), hb2r, f1, f2, f3, f4, f5, f6]
    have hes0 : (T.st i j).es = [] := List.length_eq_zero_iff.1 g1
    have hks : keepS (T.st i j) e = { T.st i j with es := [e], mega := false } := by
      unfold keepS
      rw [hes0]
      show (if 4 ≤ 0 then _ else _) = _
      rw [if_neg (by omega), ← hm]
      rfl
    rw [hks] at hR
    obtain ⟨r1, r2⟩ := keep_end h hi hj hlo (s2 := s2) (s3 := (s2.put (rb i) (.cells (rows (fun k => if k = j then sitC (T.st i j) (.slice (some ⟨b', 0, none⟩) 1 UNK) else sitC (T.st i k) (sl i k)) (T.n i)) 96 true)).put (rb i) (.cells (rows (fun k => if k = j then sitC { T.st i j with mega := false } (.slice (some ⟨b', 0, none⟩) 1 UNK) else sitC (T.st i k) (sl i k)) (T.n i)) 96 true))
      (z' := { T.st i j with es := [e], mega := false }) (v' := .slice (some ⟨b', 0, none⟩) 1 UNK) (O' := fun b => O b ∨ b = b') hs12 (fun b hb => .inl hb) (fun b hb => by rcases hb with hb | rfl; exact .inl hb; exact .inr ⟨by omega, hb2⟩) rfl
      (by rw [St.at_put, if_pos rfl]; rfl) (fun b hb => by rw [St.at_put, if_neg hb, St.at_put, if_neg hb])
      ⟨fun _ => .slice qa qn qc, .inr ⟨b', [], rfl, by rw [hcell]; rfl, rfl⟩, fun q n c e => by cases e; exact .inr rfl, fun k hk => by
        have hk : k < 1 := hk
        have : k = 0 := by omega
        subst this
        exact hD.same fun b hb => ⟨.inl hb, hs12.2 b (h.own b hb).2⟩, fun h => by cases h⟩ (fun q n c e => by cases e; show s.next ≤ b'; omega)
    exact hR _ _ _ r1 r2
  · rw [hv] at g4
    have hebO : O eb := h2 _ _ _ hv
    have hebn := (h.own _ hebO).2
    have hebne : ¬ eb = s.next := by omega
    have hcell0 : ∀ b', s.le b' → b'.at' eb = some (.cells (rows (fun k => entC ((T.st i j).es.getD k e0) (dlf k)) (T.st i j).es.length ++ junk) 51 true) := fun b' hs => by rw [hs.2 _ hebn]; exact g2
    simp -implicitDefEqProofs only [↓Zd, (Zp), if_true, if_false, Nat.reduceEqDiff, reduceCtorEq, okPart, Value.cells, cld2, (STx), hall, hb, hne, g4, co103]
    refine ixe_spec (c := fun k => entC ((T.st i j).es.getD k e0) (dlf k)) (junk := junk) (q := fun k => decide ((((T.st i j).es.getD k e0).shape : Int) = (e.shape : Int))) co107 (fun _ => rfl) (by rw [St.at_new, if_neg hebne]; exact g2) (by simp only [St.next_new]; omega) (by omega) (fun s' k R' hs' hk hR' => ?_) (fun s2 k hs2 hk hq hq2 => ?_) (fun s2 hs2 hq => ?_)
    · refine keepc_spec (u := e) (ul := .slice qa qn qc) (ib := s.next) ?_ ?_ hR'
      · rw [hs'.2 _ (by simp only [St.next_new]; omega), St.at_new, if_pos rfl]; rfl
      · have := hs'.1; simp only [St.next_new] at this; omega
    · have hs12 : s.le s2 := St.le_trans (St.le_new (St.le_refl _)) hs2
      have hn2 := hs2.1
      simp only [St.next_new] at hn2
      have hv1 : s2.at' s.next = some (.cells (entC e (.slice qa qn qc)) 51 true) := by rw [hs2.2 _ (by simp only [St.next_new]; omega), St.at_new, if_pos rfl]; rfl
      rw [hallc] at hv1
      have hb2r := (hs12.2 _ hrbn).trans hb
      have hc2 := hcell0 s2 hs12
      have hkk : (0 : Int) ≤ (k : Int) ∧ (k : Int) < ((T.st i j).es.length : Int) := by omega
      have hset := rows_set5 (c := fun k => entC ((T.st i j).es.getD k e0) (dlf k)) (v0 := .int .i64 (e.shape : Int)) (v1 := .int .i64 e.holder) (v2 := .int .i64 e.slot) (v3 := .int .i64 (e.to : Int)) (v4 := .slice qa qn qc) (fun _ => rfl) junk hk
      have hlen : k * 5 + 5 ≤ (rows (fun k => entC ((T.st i j).es.getD k e0) (dlf k)) (T.st i j).es.length ++ junk).length := by rw [List.length_append, rows_len (k := 5) (fun _ => rfl)]; omega
      simp -implicitDefEqProofs only [↓Zd, (Zp), if_true, if_false, Nat.reduceEqDiff, reduceCtorEq, Nat.reduceAdd, Nat.reduceLeDiff, okPart, Value.cells, cut, okCell, cld2, (HEx), (STx), hv1, hb2r, g4, hc2, hkk, hset, hlen, ord57]
      have hhit : hitI (T.st i j).es e.shape = some k := hitI_of hk hq hq2
      have hks : keepS (T.st i j) e = { T.st i j with es := (T.st i j).es.set k e } := by unfold keepS; rw [hhit]
      rw [hks] at hR
      have hrbeb : rb i ≠ eb := at_apart hb g2 (by decide)
      have hat : ∀ b, b ≠ eb → ∀ B, (s2.put eb B).at' b = s2.at' b := fun b hb B => by rw [St.at_put, if_neg hb]
      refine hR _ O _ (h.set hi hj (v' := sl i j) (z' := { T.st i j with es := (T.st i j).es.set k e }) ?_ (fun _ h => h) (fun b hb => ?_) ?_ (fun b hb hne2 hq3 => ?_) ⟨fun m => if m = k then .slice qa qn qc else dlf m, ?_, fun q n c e => ?_, fun m hm => ?_, fun hnil => ?_⟩ (fun q n c e => .inl ⟨q, n, c, e, rfl⟩)) ⟨?_, fun c hc hO2 => ?_, fun b hb => .inl hb⟩
      · simp only [St.next_put]; omega
      · have := h.own b hb; simp only [St.next_put]; exact ⟨this.1, by omega⟩
      · rw [hat _ hrbeb, hb2r]
        congr 2
        refine rows_congr fun m hm => ?_
        by_cases em : m = j
        · subst em; rw [if_pos rfl]; rfl
        · rw [if_neg em]; rfl
      · rw [hat _ (fun e => hq3 _ _ _ hv e)]; exact hs12.2 _ (h.own b hb).2
      · rw [List.length_set]
        refine .inr ⟨eb, junk, hv, ?_, rows_len (k := 5) (fun _ => rfl) _⟩
        rw [St.at_put, if_pos rfl]
        congr 3
        refine rows_congr fun m hm => ?_
        show _ = entC (((T.st i j).es.set k e).getD m e0) (if m = k then .slice qa qn qc else dlf m)
        by_cases em : m = k
        · subst em
          rw [if_pos rfl, if_pos rfl, List.getD_eq_getElem?_getD, List.getElem?_set_self hk]
          rfl
        · rw [if_neg em, if_neg em, List.getD_eq_getElem?_getD, List.getD_eq_getElem?_getD, List.getElem?_set_ne (fun e => em e.symm)]
      · exact h2 _ _ _ e
      · have hm : m < (T.st i j).es.length := by simpa using hm
        have hkd : ∀ b cs, O b → s.at' b = some (.cells cs 99 true) → (s2.put eb (.cells (rows (fun m => if m = k then [.int .i64 (e.shape : Int), .int .i64 e.holder, .int .i64 e.slot, .int .i64 (e.to : Int), .slice qa qn qc] else entC ((T.st i j).es.getD m e0) (dlf m)) (T.st i j).es.length ++ junk) 51 true)).at' b = s.at' b := fun b cs hb h5 => by
          rw [hat _ (at_apart h5 g2 (by decide))]; exact hs12.2 _ (h.own b hb).2
        show DepsAt PY _ O (if m = k then .slice qa qn qc else dlf m) (((T.st i j).es.set k e).getD m e0).deps
        by_cases em : m = k
        · subst em
          rw [if_pos rfl, List.getD_eq_getElem?_getD, List.getElem?_set_self hk]
          exact hD.keep (fun _ h => h) hkd
        · rw [if_neg em, List.getD_eq_getElem?_getD, List.getElem?_set_ne (fun e => em e.symm), ← List.getD_eq_getElem?_getD]
          exact (h3 m hm).keep (fun _ h => h) hkd
      · have : (T.st i j).es.set k e = [] := hnil
        have h0 := congrArg List.length this
        simp at h0
        rw [h0] at hk
        simp at hk
      · simp only [St.next_put]; omega
      · rw [hat _ (fun e => hO2 (by rw [e]; exact hebO))]; exact hs12.2 _ hc
    · have hs12 : s.le s2 := St.le_trans (St.le_new (St.le_refl _)) hs2
      have hn2 := hs2.1
      simp only [St.next_new] at hn2
      have hv1 : s2.at' s.next = some (.cells (entC e (.slice qa qn qc)) 51 true) := by rw [hs2.2 _ (by simp only [St.next_new]; omega), St.at_new, if_pos rfl]; rfl
      rw [hallc] at hv1
      have hb2r := (hs12.2 _ hrbn).trans hb
      have hc2 := hcell0 s2 hs12
      have hnone : hitI (T.st i j).es e.shape = none := hitI_no hq
      have hn0 : (T.st i j).es.length ≠ 0 := fun h0 => by
        have := h4 (List.length_eq_zero_iff.1 h0)
        rw [hv] at this
        cases this
      by_cases hl4 : (T.st i j).es.length < 4
      · simp -implicitDefEqProofs only [↓Zd, (Zp), if_true, if_false, Nat.reduceEqDiff, reduceCtorEq, Int.reduceNeg, Int.reduceLE, Nat.reduceAdd, Nat.reduceLeDiff, cut, cld2, (HEx), (STx), hv1, hb2r, g4, ord57, co108]
        refine bounded1 (e := e) (dl := .slice qa qn qc) (cs := rows (fun k => entC ((T.st i j).es.getD k e0) (dlf k)) (T.st i j).es.length) ⟨_, _, _, rfl⟩ hn0 hl4 (rows_ok fun k hk => ?_) hc2 (by omega) (rows_len (k := 5) (fun _ => rfl) _) fun s3 b' hs3 hb1 hb2 hcell => ?_
        · obtain ⟨a, n, c, ha⟩ := (h3 k hk).form
          show List.all [_, _, _, _, _] okCell = true
          simp [ha, okCell]
        have hs13 : s.le s3 := St.le_trans hs12 hs3
        have hv3 := (hs3.2 s.next (by omega)).trans hv1
        have hb3r := (hs3.2 _ (by omega)).trans hb2r
        obtain ⟨f1, f2, f3, f4, f5, f6⟩ := keep_stores (T := T) (sl := sl) (i := i) (j := j) (v := .slice (some ⟨b', 0, none⟩) ((T.st i j).es.length + 1) UNK) (m := false) hj
        simp -implicitDefEqProofs only [↓Zd, (Zp), if_true, if_false, Nat.reduceEqDiff, reduceCtorEq, Int.reduceNeg, Nat.reduceAdd, Nat.reduceBEq, okPart, Value.cells, okCell, (HEx), (STx), hb3r, f1, f2, f3, f4, f5, f6]
        have hks : keepS (T.st i j) e = { T.st i j with es := (T.st i j).es ++ [e], mega := false } := by
          unfold keepS
          rw [hnone]
          show (if 4 ≤ (T.st i j).es.length then _ else _) = _
          rw [if_neg (by omega), ← hm]
        rw [hks] at hR
        have hEnt : EntsAt PY s3 (fun b => O b ∨ b = b') (.slice (some ⟨b', 0, none⟩) ((T.st i j).es.length + 1) UNK) ((T.st i j).es ++ [e]) := by
          refine ⟨fun m => if m < (T.st i j).es.length then dlf m else .slice qa qn qc, .inr ⟨b', [], by simp, ?_, ?_⟩, fun q n c e => (by cases e; exact .inr rfl), fun m hm => ?_, fun h => by simp at h⟩
          · rw [hcell, List.append_nil]
            show _ = some (Blk.cells (rows _ ((T.st i j).es ++ [e]).length) _ true)
            rw [List.length_append, List.length_cons, List.length_nil, Nat.zero_add, rows_succ]
            congr 3
            · refine rows_congr fun m hm => ?_
              show _ = entC (((T.st i j).es ++ [e]).getD m e0) (if m < (T.st i j).es.length then dlf m else .slice qa qn qc)
              rw [if_pos hm, List.getD_eq_getElem?_getD, List.getD_eq_getElem?_getD, List.getElem?_append_left hm]
            · show _ = entC (((T.st i j).es ++ [e]).getD (T.st i j).es.length e0) (if (T.st i j).es.length < (T.st i j).es.length then dlf _ else .slice qa qn qc)
              rw [if_neg (Nat.lt_irrefl _), List.getD_eq_getElem?_getD, List.getElem?_append_right (Nat.le_refl _), Nat.sub_self]
              rfl
          · exact rows_len (k := 5) (fun _ => rfl) _
          · show DepsAt PY _ _ (if m < (T.st i j).es.length then dlf m else .slice qa qn qc) (((T.st i j).es ++ [e]).getD m e0).deps
            have hm : m < ((T.st i j).es ++ [e]).length := hm
            rw [List.length_append, List.length_cons, List.length_nil] at hm
            by_cases em : m < (T.st i j).es.length
            · rw [if_pos em, List.getD_eq_getElem?_getD, List.getElem?_append_left em, ← List.getD_eq_getElem?_getD]
              exact (h3 m em).same fun b hb => ⟨.inl hb, hs13.2 b (h.own b hb).2⟩
            · have : m = (T.st i j).es.length := by omega
              subst this
              rw [if_neg em, List.getD_eq_getElem?_getD, List.getElem?_append_right (Nat.le_refl _), Nat.sub_self]
              exact hD.same fun b hb => ⟨.inl hb, hs13.2 b (h.own b hb).2⟩
        obtain ⟨r1, r2⟩ := keep_end h hi hj hlo (s2 := s3) (s3 := (s3.put (rb i) (.cells (rows (fun k => if k = j then sitC (T.st i j) (.slice (some ⟨b', 0, none⟩) ((T.st i j).es.length + 1) UNK) else sitC (T.st i k) (sl i k)) (T.n i)) 96 true)).put (rb i) (.cells (rows (fun k => if k = j then sitC { T.st i j with mega := false } (.slice (some ⟨b', 0, none⟩) ((T.st i j).es.length + 1) UNK) else sitC (T.st i k) (sl i k)) (T.n i)) 96 true))
          (z' := { T.st i j with es := (T.st i j).es ++ [e], mega := false }) (v' := .slice (some ⟨b', 0, none⟩) ((T.st i j).es.length + 1) UNK) (O' := fun b => O b ∨ b = b') hs13 (fun b hb => .inl hb) (fun b hb => by rcases hb with hb | rfl; exact .inl hb; exact .inr ⟨by omega, hb2⟩) rfl
          (by rw [St.at_put, if_pos rfl]; rfl) (fun b hb => by rw [St.at_put, if_neg hb, St.at_put, if_neg hb])
          hEnt (fun q n c e => by cases e; show s.next ≤ b'; omega)
        exact hR _ _ _ r1 r2
      · simp -implicitDefEqProofs only [↓Zd, (Zp), if_true, if_false, Nat.reduceEqDiff, reduceCtorEq, Int.reduceNeg, Int.reduceLE, Nat.reduceAdd, Nat.reduceLeDiff, cut, cld2, (HEx), (STx), hv1, hb2r, g4, ord57, co108]
        refine bounded2 (e := e) (dl := .slice qa qn qc) (by omega) fun s3 hs3 => ?_
        have hs13 : s.le s3 := St.le_trans hs12 hs3
        have hv3 := (hs3.2 s.next (by omega)).trans hv1
        have hb3r := (hs3.2 _ (by omega)).trans hb2r
        obtain ⟨f1, f2, f3, f4, f5, f6⟩ := keep_stores (T := T) (sl := sl) (i := i) (j := j) (v := .slice none 0 0) (m := true) hj
        simp -implicitDefEqProofs only [↓Zd, (Zp), if_true, if_false, Nat.reduceEqDiff, reduceCtorEq, Int.reduceNeg, Nat.reduceAdd, Nat.reduceBEq, okPart, Value.cells, okCell, (HEx), (STx), hb3r, f1, f2, f3, f4, f5, f6]
        have hks : keepS (T.st i j) e = { T.st i j with es := [], mega := true } := by
          unfold keepS
          rw [hnone]
          show (if 4 ≤ (T.st i j).es.length then _ else _) = _
          rw [if_pos (by omega)]
        rw [hks] at hR
        obtain ⟨r1, r2⟩ := keep_end h hi hj hlo (s2 := s3) (s3 := (s3.put (rb i) (.cells (rows (fun k => if k = j then sitC (T.st i j) (.slice none 0 0) else sitC (T.st i k) (sl i k)) (T.n i)) 96 true)).put (rb i) (.cells (rows (fun k => if k = j then sitC { T.st i j with mega := true } (.slice none 0 0) else sitC (T.st i k) (sl i k)) (T.n i)) 96 true))
          (z' := { T.st i j with es := [], mega := true }) (v' := .slice none 0 0) (O' := O) hs13 (fun b hb => hb) (fun b hb => .inl hb) rfl
          (by rw [St.at_put, if_pos rfl]; rfl) (fun b hb => by rw [St.at_put, if_neg hb, St.at_put, if_neg hb])
          ⟨fun _ => .slice none 0 0, .inl ⟨rfl, rfl, rfl⟩, fun q n c e => (by cases e), fun m hm => absurd hm (Nat.not_lt_zero _), fun _ => rfl⟩ (fun q n c e => by cases e)
        exact hR _ _ _ r1 r2
end
end Go.Proofs.Tryz
