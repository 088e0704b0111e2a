/- Sites: the walk of New. A lemma file: no statement of its own. -/
import Derived.Test.YtnkichmojbanlaaGreatqFwF
import Derived.Test.YtnkichmojbanlaaGreatqST11
set_option linter.unusedSimpArgs false
set_option linter.unusedVariables false
set_option linter.unusedSectionVars false
namespace Go.Proofs.Tryz
open Go.Cs
open Go.RowKit (Below)
set_option maxRecDepth 100000
attribute [local irreducible] CCalls WLoop WScope CRound WRange
theorem rowSl (b : Addr) (n c : Nat) : crow Tryz.prog 82 1 #[(0, .slice (some b) n c)] = some (.cells [.slice (some b) n c] 85 true) := by kernel_rfl
theorem rowSl0 : crow Tryz.prog 82 0 #[] = some (.cells [] 85 true) := by kernel_rfl
theorem bTab (a : Addr) (n c : Nat) : cbuild Tryz.prog 84 #[(0, .slice (some a) n c)] = some (.agg #[.slice (some a) n c, .int .i64 0, .int .i64 0]) := by kernel_rfl
theorem infoRow : ∃ ie, Tryz.prog.info? 85 = some ie ∧ ie.size = 1 ∧ 0 < ie.bytes ∧ ie.bytes ≤ 100 := by
  obtain ⟨ie, h⟩ := Option.isSome_iff_exists.1 is85
  have h1 := ce85
  have h2 : decide (0 < Tryz.prog.bytesOf 85 ∧ Tryz.prog.bytesOf 85 ≤ 100) = true := by kernel_rfl
  rw [cellsOf_info h] at h1
  simp only [Program.bytesOf, h, decide_eq_true_eq] at h2
  exact ⟨ie, h, h1, h2.1, h2.2⟩
def nnL (L : List Int) (i : Nat) : Nat := (max 0 (min (L.getD i 0) 4000)).toNat
def newT (L : List Int) : Tab := ⟨L.length, nnL L, fun _ _ => s0, 0, 0⟩
section
variable {M : Type} [Mem M] {w0 : World} {s : St M} {R : Value → St M → Prop}
theorem wch_appRowV {v : Value} {cs new : List Value} {k vb : Nat} {K : Value → St M → Prop} (hvb : s.at' vb = some (.cells new 85 true)) (hnew : new.length = 1) (hok : new.all okCell = true) (hlen : k ≤ 1000000) (hsl : SlC 85 1 s v cs k)
    (h : ∀ s', s'.next = s.next + 1 → s'.at' s.next = some (.cells (cs ++ new) 85 true) → (∀ b, b ≠ s.next → (∀ q n c, v = .slice (some q) n c → b ≠ q.block) → s'.at' b = s.at' b) → K (.slice (some ⟨s.next, 0, none⟩) (k + 1) UNK) s') :
    wch (capp Tryz.prog #[82, 82] #[v, .slice (some ⟨vb, 0, none⟩) 1 1] s) K := by
  obtain ⟨ie, hie, h1, h2, h3⟩ := infoRow
  have hv : cmore ie.size (.slice (some ⟨vb, 0, none⟩) 1 1) s = some (1, new) := by
    simp only [more_at, hvb, more2, h1]
    rw [cut_all (by omega)]; rfl
  obtain ⟨s', g3, g4, g5, g6⟩ := app_row (n := k) (k := 1) hie ze85 (by rw [h1]; rfl) h2 (app_eq underlying82 underlying82 hie) (by omega) (by
    have : (k + 1) * ie.bytes ≤ 1000001 * 100 := Nat.mul_le_mul (by omega) h3
    omega) hok hv (by rw [h1]; exact hsl)
  exact ⟨_, s', g3, h s' g4 g5 g6⟩
set_option maxHeartbeats 8000000 in
theorem snew_spec {L : List Int} {lb lc : Nat} (hL : s.at' lb = some (.cells (L.map fun x => .int .i64 x) 3 true)) (hlbn : lb < s.next) (hm : L.length ≤ 100) (hm0 : 0 < L.length)
    (hmk : ∀ i, i < L.length → cmks Tryz.prog 85 (.int .i64 (nnL L i : Int)) (.int .i64 (nnL L i : Int)) = some (.cells (rows (fun _ => sitC s0 (.slice none 0 0)) (nnL L i)) 96 true, fun b => .slice (some ⟨b, 0, none⟩) (nnL L i) (nnL L i)))
    (hR : ∀ s' t O, STab PY s.next s' t (newT L) 0 O → s.le s' → R (.pointer (some ⟨t, 0, none⟩)) s') : CCalls Tryz.prog w0 8 #[.slice (some ⟨lb, 0, none⟩) L.length lc] s R := by
  refine wfun2 hmix ok8 (l := [.slice (some ⟨lb, 0, none⟩) L.length lc]) func8 rfl ntmps8 results8 (by simp) ?_
  simp -implicitDefEqProofs only [↓Zd, (Zp), if_true, if_false, Nat.reduceEqDiff, reduceCtorEq, okPart, Value.cells, (STx), underlying31, rowSl0, bTab]
  have l1 : s.le ((s.new (.cells [] 85 true)).new (.cells [.slice (some ⟨s.next, 0, none⟩) 0 0, .int .i64 0, .int .i64 0] 84 true)) := St.le_new (St.le_new (St.le_refl _))
  refine wloop_inv hmix (fun fuel env s' => env 3 = .pointer (some ⟨s.next + 1, 0, none⟩) ∧ env 9 = .slice (some ⟨lb, 0, none⟩) L.length lc ∧ env 10 = .int .i64 (L.length : Int) ∧ ∃ (k : Nat) (al : Value) (rb : Nat → Nat), env 11 = .int .i64 (k : Int) ∧ k ≤ L.length ∧ fuel = L.length - k ∧ s.le s' ∧ s.next + 2 ≤ s'.next ∧
      s'.at' (s.next + 1) = some (.cells [al, .int .i64 0, .int .i64 0] 84 true) ∧ SlC 85 1 s' al (rows (fun i => [.slice (some ⟨rb i, 0, none⟩) (nnL L i) (nnL L i)]) k) k ∧ (∀ q n c, al = .slice (some q) n c → s.next ≤ q.block ∧ q.block < s'.next) ∧ (k ≠ 0 → ∃ b, al = .slice (some ⟨b, 0, none⟩) k UNK) ∧
      (∀ i, i < k → s.next + 2 ≤ rb i ∧ rb i < s'.next ∧ s'.at' (rb i) = some (.cells (rows (fun _ => sitC s0 (.slice none 0 0)) (nnL L i)) 96 true)) ∧ (∀ i j, i < k → j < k → rb i = rb j → i = j)) (L.length - 0) ?_ ?_
  · refine ⟨rfl, rfl, rfl, 0, _, fun _ => 0, rfl, Nat.zero_le _, rfl, l1, by simp only [St.next_new]; omega, ?_, .inr ⟨s.next, 0, rfl, .inr ⟨rfl, by decide⟩, ?_, rfl⟩, fun q n c e => ?_, fun h => absurd rfl h, fun i hi => absurd hi (Nat.not_lt_zero _), fun i j hi => absurd hi (Nat.not_lt_zero _)⟩
    · rw [St.at_new, if_pos (by simp only [St.next_new])]
    · rw [St.at_new, if_neg (by simp only [St.next_new]; omega), St.at_new, if_pos rfl]; rfl
    · cases e; simp only [St.next_new]; exact ⟨Nat.le_refl _, by omega⟩
  rintro fuel env s2 ⟨e3, e9, e10, k, al, rb, e11, hk, rfl, l2, n2, hT, hsl, hal, hne, hrb, hinj⟩
  by_cases hlt : k < L.length
  · have hlt' : (k : Int) < (L.length : Int) := by omega
    have hkk : (0 : Int) ≤ (k : Int) ∧ (k : Int) < (L.length : Int) := by omega
    have w1 : IntKind.i64.wrap ((k : Int) + 1) = ((k + 1 : Nat) : Int) := by rw [wrap_i64 (by omega)]; omega
    have hL2 := (l2.2 lb hlbn).trans hL
    have hLk : (L.map fun x => (Value.int .i64 x))[k]? = some (.int .i64 (L.getD k 0)) := by
      rw [List.getElem?_map, List.getElem?_eq_getElem hlt, List.getD_eq_getElem?_getD, List.getElem?_eq_getElem hlt]; rfl
    have hmx : (if (if (4000 : Int) < L.getD k 0 then 4000 else L.getD k 0) > 0 then (if (4000 : Int) < L.getD k 0 then 4000 else L.getD k 0) else 0) = ((nnL L k : Nat) : Int) := by
      unfold nnL
      omega
    have hmk2 := hmk k hlt
    obtain ⟨qa, qn, qc, hform⟩ : ∃ a n c, al = Value.slice a n c := by rcases hsl with ⟨_, _, e⟩ | ⟨b, c, e, _⟩ <;> exact ⟨_, _, _, e⟩
    simp -implicitDefEqProofs only [↓Zd, (Zp), if_true, if_false, ne_eq, Nat.reduceEqDiff, cld2, (HEx), (STx), underlying31, e3, e9, e10, e11, hlt', hkk, hL2, hLk, hT, ↓f_mks, ↓f_min, ↓f_max, bi_min, bi_max, hmx, hmk2, rowSl, Nat.add_zero, ord8]
    have hTb : ∀ q n c, al = .slice (some q) n c → s.next + 1 ≠ q.block := fun q n c e => by
      rcases hsl with ⟨_, _, e2⟩ | ⟨b, c2, e2, _, h3, _⟩
      · rw [e2] at e; cases e
      · rw [e2] at e; cases e
        exact at_apart hT h3 (by decide)
    have hsl5 : SlC 85 1 ((s2.new (.cells (rows (fun _ => sitC s0 (.slice none 0 0)) (nnL L k)) 96 true)).new (.cells [.slice (some ⟨s2.next, 0, none⟩) (nnL L k) (nnL L k)] 85 true)) al (rows (fun i => [.slice (some ⟨rb i, 0, none⟩) (nnL L i) (nnL L i)]) k) k := hsl.same fun q n c e => by
      have := (hal q n c e).2
      rw [St.at_new, if_neg (by simp only [St.next_new]; omega), St.at_new, if_neg (by omega)]
    refine wch_appRowV (k := k) (vb := s2.next + 1) (by rw [St.at_new, if_pos (by simp only [St.next_new])]) rfl (by simp [okc_slice]) (by omega) hsl5 fun s5 n5 b5 k5 => ?_
    simp only [St.next_new] at n5 b5 k5
    have k5' : ∀ b, b < s2.next → (∀ q n c, al = .slice (some q) n c → b ≠ q.block) → s5.at' b = s2.at' b := fun b hb hq => by
      rw [k5 b (by omega) hq, St.at_new, if_neg (by simp only [St.next_new]; omega), St.at_new, if_neg (by omega)]
    have hT5 := (k5' (s.next + 1) (by omega) hTb).trans hT
    have hr5 : s5.at' s2.next = some (.cells (rows (fun _ => sitC s0 (.slice none 0 0)) (nnL L k)) 96 true) := by
      rw [k5 s2.next (by omega) (fun q n c e => by have := (hal q n c e).2; omega), St.at_new, if_neg (by simp only [St.next_new]; omega), St.at_new, if_pos rfl]
    have hL5 := (k5' lb (by have := l2.1; omega) (fun q n c e => by have := (hal q n c e).1; omega)).trans hL2
    simp -implicitDefEqProofs only [↓Zd, (Zp), if_true, if_false, Nat.reduceEqDiff, Nat.reduceAdd, Nat.reduceLeDiff, Nat.reduceBEq, okPart, Value.cells, okCell, (STx), e3, e9, e10, e11, hT5, w1, Nat.add_zero]
    have hl5 : s.le s5 := ⟨by have := l2.1; omega, fun c hc => by rw [k5' c (by have := l2.1; omega) (fun q n c' e => by have := (hal q n c' e).1; omega)]; exact l2.2 c hc⟩
    have hrow5 : ∀ i, i < k → s5.at' (rb i) = some (.cells (rows (fun _ => sitC s0 (.slice none 0 0)) (nnL L i)) 96 true) := fun i hi => by
      obtain ⟨h1, h2, h3⟩ := hrb i hi
      rw [k5' _ h2 (fun q n c e => by
        rcases hsl with ⟨_, _, e2⟩ | ⟨b, c2, e2, _, h4, _⟩
        · rw [e2] at e; cases e
        · rw [e2] at e; cases e
          exact at_apart h3 h4 (by decide))]
      exact h3
    have heq : (s2.next + 1 + 1 : Nat) = s2.next + 2 := rfl
    refine ⟨_, Nat.sub_lt_sub_left hlt (Nat.lt_succ_self k), k + 1, _, fun i => if i = k then s2.next else rb i, rfl, by omega, rfl, St.le_put hl5 (by omega), by omega, rfl, .inr ⟨s2.next + 2, UNK, rfl, .inl rfl, ?_, ?_⟩, fun q n c e => ?_, fun _ => ⟨_, rfl⟩, fun i hi => ?_, fun i j hi hj e => ?_⟩
    · rw [St.at_put, if_neg (by omega)]
      have b5 : s5.at' (s2.next + 2) = _ := b5
      rw [b5, rows_succ]
      congr 3
      · refine rows_congr fun m hmk3 => ?_
        have hmk4 : m ≠ k := Nat.ne_of_lt hmk3
        show _ = [Value.slice (some ⟨if m = k then s2.next else rb m, 0, none⟩) (nnL L m) (nnL L m)]
        rw [if_neg hmk4]
      · show _ = [Value.slice (some ⟨if k = k then s2.next else rb k, 0, none⟩) (nnL L k) (nnL L k)]
        rw [if_pos rfl]
    · rw [rows_len (k := 1) (fun _ => rfl)]
    · cases e
      show s.next ≤ s2.next + 2 ∧ s2.next + 2 < s5.next
      omega
    · show s.next + 2 ≤ (if i = k then s2.next else rb i) ∧ (if i = k then s2.next else rb i) < s5.next ∧ (if (if i = k then s2.next else rb i) = s.next + 1 then _ else s5.at' (if i = k then s2.next else rb i)) = _
      by_cases e : i = k
      · subst e
        rw [if_pos rfl, if_neg (by omega)]
        exact ⟨by omega, by omega, hr5⟩
      · rw [if_neg e]
        have h1 := hrb i (by omega)
        rw [if_neg (by omega)]
        exact ⟨h1.1, by omega, hrow5 i (by omega)⟩
    · have e : (if i = k then s2.next else rb i) = (if j = k then s2.next else rb j) := e
      by_cases e1 : i = k
      · by_cases e2 : j = k
        · omega
        · rw [if_pos e1, if_neg e2] at e
          have := (hrb j (by omega)).2.1; omega
      · by_cases e2 : j = k
        · rw [if_neg e1, if_pos e2] at e
          have := (hrb i (by omega)).2.1; omega
        · rw [if_neg e1, if_neg e2] at e
          exact hinj i j (by omega) (by omega) e
  · have hlt' : ¬ (k : Int) < (L.length : Int) := by omega
    have hkl : k = L.length := by omega
    subst hkl
    simp -implicitDefEqProofs only [↓Zd, (Zp), if_true, if_false, Nat.reduceEqDiff, e3, e10, e11, hlt']
    obtain ⟨b, rfl⟩ := hne (by omega)
    refine hR s2 (s.next + 1) (fun b => s.next ≤ b ∧ b < s2.next) ⟨_, rb, nnL L, fun _ _ => .slice none 0 0, fun b hb => hb, ⟨by omega, by omega⟩, hT, ⟨Nat.le_refl _, Nat.le_refl _⟩, ?_, fun q n c e => hal q n c e, fun i hi => ⟨by have := hrb i hi; omega, (hrb i hi).2.1⟩, fun i hi => (hrb i hi).2.2, hinj, fun i j hi hj => ⟨fun _ => .slice none 0 0, .inl ⟨rfl, rfl, rfl⟩, fun q n c e => (by cases e), fun m hm => absurd hm (Nat.not_lt_zero _), fun _ => rfl⟩, fun i j i' j' q n c q' n' c' h1 h2 h3 h4 e => (by cases e), ⟨hm, fun i hi => ?_⟩⟩ l2
    · rcases hsl with ⟨h1, _, e⟩ | ⟨b', c, e, h1, h2, h3⟩
      · exact absurd e (by simp)
      · cases e
        exact .inr ⟨b, [], rfl, by rw [List.append_nil]; exact h2, h3⟩
    · show nnL L i ≤ 4000
      unfold nnL; omega
end
end Go.Proofs.Tryz
