/- Sites: the walks of keep, and of rows laid anew. A lemma file: no statement of its own. -/
import Derived.Test.YtnkichmojbanlaaGreatqFwF
import Derived.Test.YtnkichmojbanlaaGreatqST6
set_option linter.unusedSimpArgs false
set_option linter.unusedVariables false
set_option linter.unusedSectionVars false
namespace Go.Proofs.Tryz
open Go.Cs
open Go.RowKit (Below)
set_option maxRecDepth 100000
attribute [local irreducible] CCalls WLoop WScope CRound WRange
theorem rowE0 : crow Tryz.prog 42 0 #[] = some (.cells [] 51 true) := by kernel_rfl
theorem rowEnt (a b c d : Int) (q : Option Addr) (n m : Nat) : crow Tryz.prog 42 1 #[(0, .agg #[.int .i64 a, .int .i64 b, .int .i64 c, .int .i64 d, .slice q n m])] = some (.cells [.int .i64 a, .int .i64 b, .int .i64 c, .int .i64 d, .slice q n m] 51 true) := by cases q <;> kernel_rfl
theorem rows_set5 {c : Nat → List Value} {n i : Nat} {v0 v1 v2 v3 v4 : Value} (hc : ∀ i, (c i).length = 5) (junk : List Value) (hi : i < n) :
    ((((((rows c n ++ junk).set (i * 5) v0).set (i * 5 + 1) v1).set (i * 5 + 2) v2).set (i * 5 + 3) v3).set (i * 5 + 4) v4) = rows (fun m => if m = i then [v0, v1, v2, v3, v4] else c m) n ++ junk := by
  obtain ⟨l⟩ : ∃ l, c i = l := ⟨_, rfl⟩
  have h5 := hc i
  obtain ⟨w0, w1, w2, w3, w4, hl⟩ : ∃ w0 w1 w2 w3 w4, c i = [w0, w1, w2, w3, w4] := by
    match hcl : c i, h5 with
    | [w0, w1, w2, w3, w4], _ => exact ⟨_, _, _, _, _, rfl⟩
  have step : ∀ (d d' : List Value) (k : Nat) (v : Value), d.length = 5 → k < 5 → d' = d.set k v → (rows (fun m => if m = i then d else c m) n ++ junk).set (i * 5 + k) v = rows (fun m => if m = i then d' else c m) n ++ junk := fun d d' k v hd hk he =>
    rows_set (k := 5) (fun m => by (try dsimp only); split; exact hd; exact hc m) (fun m => by (try dsimp only); split; rw [he, List.length_set]; exact hd; exact hc m) junk hi hk (fun m hm => by (try dsimp only); rw [if_neg hm, if_neg hm]) (by (try dsimp only); rw [if_pos rfl, if_pos rfl]; exact he)
  have h0 : rows c n = rows (fun m => if m = i then [w0, w1, w2, w3, w4] else c m) n := rows_congr fun m hm => by
    split
    · rename_i e; rw [e, hl]
    · rfl
  have s0 := step [w0, w1, w2, w3, w4] [v0, w1, w2, w3, w4] 0 v0 rfl (by omega) rfl
  rw [Nat.add_zero] at s0
  rw [h0, s0, step [v0, w1, w2, w3, w4] [v0, v1, w2, w3, w4] 1 v1 rfl (by omega) rfl, step [v0, v1, w2, w3, w4] [v0, v1, v2, w3, w4] 2 v2 rfl (by omega) rfl, step [v0, v1, v2, w3, w4] [v0, v1, v2, v3, w4] 3 v3 rfl (by omega) rfl, step [v0, v1, v2, v3, w4] [v0, v1, v2, v3, v4] 4 v4 rfl (by omega) rfl]
theorem okc_slice (a : Option Addr) (n c : Nat) : okCell (.slice a n c) = true := by cases a <;> rfl
theorem rows_ok {c : Nat → List Value} {n : Nat} (h : ∀ i, i < n → (c i).all okCell = true) : (rows c n).all okCell = true := by
  induction n with
  | zero => rfl
  | succ n ih =>
    rw [rows_succ, List.all_append, ih (fun i hi => h i (by omega)), h n (by omega)]
    rfl
section
variable {M : Type} [Mem M] {w0 : World} {s : St M} {R : Value → St M → Prop} {lo t N : Nat} {T : Tab} {O : Nat → Prop} {al : Value} {rb cp : Nat → Nat} {sl : Nat → Nat → Value}
theorem DepsAt.form {Y : STy} {dl : Value} {ds : List (Nat × Nat)} (h : DepsAt Y s O dl ds) : ∃ a n c, dl = .slice a n c := by
  rcases h.1 with ⟨_, _, e⟩ | ⟨b, _, e, _⟩ <;> exact ⟨_, _, _, e⟩
theorem cloneEnt0 (hR : R (.slice none 0 0) s) : CCalls Tryz.prog w0 140 #[.slice none 0 0] s R := by
  refine wfun2 hmix ok140 (l := [.slice none 0 0]) func140 rfl ntmps140 results140 (by simp) ?_
  simp -implicitDefEqProofs only [↓Zd, (Zp), if_true, if_false, Nat.reduceEqDiff, reduceCtorEq, (STx)]
  exact hR
theorem cloneEnt1 {b n : Nat} {cs junk : List Value} (hn : n ≠ 0) (hlen : n ≤ 1000000) (hok : cs.all okCell = true) (hb : s.at' b = some (.cells (cs ++ junk) 51 true)) (hbn : b < s.next) (hcs : cs.length = n * 5)
    (hR : ∀ s' cb, cb = s.next + 1 → s'.next = s.next + 2 → s.le s' → s'.at' cb = some (.cells cs 51 true) → R (.slice (some ⟨cb, 0, none⟩) n UNK) s') : CCalls Tryz.prog w0 140 #[.slice (some ⟨b, 0, none⟩) n UNK] s R := by
  refine wfun2 hmix ok140 (l := [.slice (some ⟨b, 0, none⟩) n UNK]) func140 rfl ntmps140 results140 (by simp) ?_
  simp -implicitDefEqProofs only [↓Zd, (Zp), if_true, if_false, Nat.reduceEqDiff, reduceCtorEq, (STx), rowE0]
  refine clEnt hn hlen hok hb hbn hcs fun s' h1 h2 h3 => ?_
  simp -implicitDefEqProofs only [↓Zd, (Zp), if_true, if_false, Nat.reduceEqDiff]
  exact hR s' _ rfl h1 ⟨by omega, h3⟩ h2
theorem wch_appEntV {v : Value} {cs new : List Value} {k vb : Nat} {K : Value → St M → Prop} (hvb : s.at' vb = some (.cells new 51 true)) (hnew : new.length = 5) (hok : new.all okCell = true) (hlen : k ≤ 1000000) (hsl : SlU 51 5 s v cs k)
    (h : ∀ s', s'.next = s.next + 1 → s'.at' s.next = some (.cells (cs ++ new) 51 true) → (∀ b, b ≠ s.next → (∀ q n c, v = .slice (some q) n c → b ≠ q.block) → s'.at' b = s.at' b) → K (.slice (some ⟨s.next, 0, none⟩) (k + 1) UNK) s') :
    wch (capp Tryz.prog #[42, 42] #[v, .slice (some ⟨vb, 0, none⟩) 1 1] s) K := by
  obtain ⟨ie, hie, h1, h2, h3⟩ := infoEnt
  have hv : cmore ie.size (.slice (some ⟨vb, 0, none⟩) 1 1) s = some (1, new) := by
    simp only [more_at, hvb, more2, h1]
    rw [cut_all (by omega)]; rfl
  obtain ⟨s', g3, g4, g5, g6⟩ := app_rowU (n := k) (k := 1) hie ze51 (by rw [h1]; rfl) h2 (app_eq underlying42 underlying42 hie) (by omega) (by
    have : (k + 1) * ie.bytes ≤ 1000001 * 100 := Nat.mul_le_mul (by omega) h3
    omega) hok hv (by rw [h1]; exact hsl)
  exact ⟨_, s', g3, h s' g4 g5 g6⟩
set_option maxHeartbeats 4000000 in
theorem bounded0 {e : Ent} {dl : Value} (hdl : ∃ a n c, dl = .slice a n c) (hR : ∀ s' b', s.le s' → s.next ≤ b' → b' < s'.next → s'.at' b' = some (.cells (entC e dl) 51 true) → R (.tuple #[.slice (some ⟨b', 0, none⟩) 1 UNK, .bool true]) s') :
    CCalls Tryz.prog w0 108 #[.slice none 0 0, .agg (entC e dl).toArray, .int .i64 4] s R := by
  refine wfun2 hmix ok108 (l := [.slice none 0 0, .agg (entC e dl).toArray, .int .i64 4]) func108 rfl ntmps108 results108 (by simp) ?_
  obtain ⟨a, n, c, rfl⟩ := hdl
  simp only [entC] at hR ⊢
  simp -implicitDefEqProofs only [↓Zd, (Zp), if_true, if_false, Nat.reduceEqDiff, reduceCtorEq, Int.reduceLE, Nat.reduceAdd, Nat.reduceLeDiff, okPart, Value.cells, cut, cld2, (STx), ord108, rowEnt, co140]
  refine cloneEnt0 ?_
  simp -implicitDefEqProofs only [↓Zd, (Zp), if_true, if_false, Nat.reduceEqDiff, Nat.reduceAdd, Nat.reduceLeDiff, Nat.reduceBEq, cut, cld2, (STx)]
  refine wch_appEntV (k := 0) (cs := []) (vb := s.next + 1) (by rw [St.at_new, if_pos (by simp only [St.next_new])]) rfl (by simp [okCell]) (by omega) (.inl ⟨rfl, rfl, rfl⟩) fun s' h1 h2 h3 => ?_
  simp -implicitDefEqProofs only [↓Zd, (Zp), if_true, if_false, Nat.reduceEqDiff, Nat.reduceAdd]
  refine hR s' _ ⟨?_, fun c hc => ?_⟩ ?_ ?_ h2
  · simp only [St.next_new] at h1; omega
  · rw [h3 c (by simp only [St.next_new]; omega) (fun q n c e => by cases e), St.at_new, if_neg (by simp only [St.next_new]; omega), St.at_new, if_neg (by omega)]
  · (try simp only [St.next_new]); omega
  · (try simp only [St.next_new] at h1 ⊢); omega
set_option maxHeartbeats 4000000 in
theorem bounded1 {e : Ent} {dl : Value} {n b : Nat} {cs junk : List Value} (hdl : ∃ a n c, dl = .slice a n c) (hn : n ≠ 0) (hn4 : n < 4) (hok : cs.all okCell = true) (hb : s.at' b = some (.cells (cs ++ junk) 51 true)) (hbn : b < s.next) (hcs : cs.length = n * 5)
    (hR : ∀ s' b', s.le s' → s.next ≤ b' → b' < s'.next → s'.at' b' = some (.cells (cs ++ entC e dl) 51 true) → R (.tuple #[.slice (some ⟨b', 0, none⟩) (n + 1) UNK, .bool true]) s') :
    CCalls Tryz.prog w0 108 #[.slice (some ⟨b, 0, none⟩) n UNK, .agg (entC e dl).toArray, .int .i64 4] s R := by
  refine wfun2 hmix ok108 (l := [.slice (some ⟨b, 0, none⟩) n UNK, .agg (entC e dl).toArray, .int .i64 4]) func108 rfl ntmps108 results108 (by simp) ?_
  obtain ⟨a, m, c, rfl⟩ := hdl
  simp only [entC] at hR ⊢
  have h4 : ¬ (4 : Int) ≤ (n : Int) := by omega
  simp -implicitDefEqProofs only [↓Zd, (Zp), if_true, if_false, Nat.reduceEqDiff, reduceCtorEq, Nat.reduceAdd, Nat.reduceLeDiff, okPart, Value.cells, cut, cld2, (STx), h4, ord108, rowEnt, co140]
  refine cloneEnt1 hn (by omega) hok (by rw [St.at_new, if_neg (by simp only [St.next_new]; omega), St.at_new, if_neg (by omega)]; exact hb) (by simp only [St.next_new]; omega) hcs fun s2 cb hcb h1 h2 h3 => ?_
  have hv2 := h2.2 (s.next + 1) (by simp only [St.next_new]; omega)
  rw [St.at_new, if_pos (by simp only [St.next_new])] at hv2
  have hv1 := h2.2 s.next (by simp only [St.next_new]; omega)
  rw [St.at_new, if_neg (by simp only [St.next_new]; omega), St.at_new, if_pos rfl] at hv1
  simp only [St.next_new] at h1 hcb
  simp -implicitDefEqProofs only [↓Zd, (Zp), if_true, if_false, Nat.reduceEqDiff, Nat.reduceAdd, Nat.reduceLeDiff, Nat.reduceBEq, cut, cld2, (STx), hv1]
  refine wch_appEntV (k := n) (cs := cs) (vb := s.next + 1) hv2 rfl (by simp [okCell]) (by omega) (.inr ⟨_, [], rfl, by rw [List.append_nil]; exact h3, hcs⟩) fun s' g1 g2 g3 => ?_
  have hv3 := (g3 s.next (by omega) (fun q n c e => by cases e; show s.next ≠ cb; omega)).trans hv1
  simp -implicitDefEqProofs only [↓Zd, (Zp), if_true, if_false, Nat.reduceEqDiff]
  refine hR s' _ ⟨?_, fun c hc => ?_⟩ ?_ ?_ g2
  · omega
  · rw [g3 c (by omega) (fun q n c e => by cases e; show c ≠ cb; omega), h2.2 c (by simp only [St.next_new]; omega), St.at_new, if_neg (by simp only [St.next_new]; omega), St.at_new, if_neg (by omega)]
  · omega
  · omega
theorem bounded2 {e : Ent} {dl : Value} {n b : Nat} (hn4 : 4 ≤ n) (hR : ∀ s', s.le s' → R (.tuple #[.slice none 0 0, .bool false]) s') :
    CCalls Tryz.prog w0 108 #[.slice (some ⟨b, 0, none⟩) n UNK, .agg (entC e dl).toArray, .int .i64 4] s R := by
  refine wfun2 hmix ok108 (l := [.slice (some ⟨b, 0, none⟩) n UNK, .agg (entC e dl).toArray, .int .i64 4]) func108 rfl ntmps108 results108 (by simp) ?_
  simp only [entC]
  have h4 : (4 : Int) ≤ (n : Int) := by omega
  simp -implicitDefEqProofs only [↓Zd, (Zp), if_true, if_false, Nat.reduceEqDiff, reduceCtorEq, okPart, Value.cells, (STx), h4]
  exact hR _ (by repeat (first | exact St.le_refl _ | assumption | refine St.le_new ?_ | refine St.le_put ?_ (by first | omega | (simp only [St.next_new, St.next_put, St.next_kill]; omega)) | refine St.le_trans ?_ (by assumption)))
end
end Go.Proofs.Tryz
