/- Sites: the walks of find, plays and Counts. A lemma file: no statement of its own. -/
import Derived.Test.YtnkichmojbanlaaGreatqFwF
import Derived.Test.YtnkichmojbanlaaGreatqST2
set_option linter.unusedSimpArgs false
set_option linter.unusedVariables false
set_option linter.unusedSectionVars false
namespace Go.Proofs.Tryz
open Go.Cs
open Go.RowKit (Below)
set_option maxRecDepth 100000
attribute [local irreducible] CCalls WLoop WScope CRound WRange
theorem nsA {x y : Operand} : cbin Tryz.prog .eql 82 x y (.slice none 0 0) (.slice none 0 0) = some (.bool true) := by kernel_rfl
theorem nsB {x y : Operand} {a : Addr} {n c : Nat} : cbin Tryz.prog .eql 82 x y (.slice (some a) n c) (.slice none 0 0) = some (.bool false) := by kernel_rfl
theorem nsC {x y : Operand} : cbin Tryz.prog .eql 42 x y (.slice none 0 0) (.slice none 0 0) = some (.bool true) := by kernel_rfl
theorem nsD {x y : Operand} {a : Addr} {n c : Nat} : cbin Tryz.prog .eql 42 x y (.slice (some a) n c) (.slice none 0 0) = some (.bool false) := by kernel_rfl
theorem nsE {x y : Operand} : cbin Tryz.prog .eql 49 x y (.slice none 0 0) (.slice none 0 0) = some (.bool true) := by kernel_rfl
theorem nsF {x y : Operand} {a : Addr} {n c : Nat} : cbin Tryz.prog .eql 49 x y (.slice (some a) n c) (.slice none 0 0) = some (.bool false) := by kernel_rfl
theorem bbA : (false == true) = false := rfl
theorem bbB : (true == false) = false := rfl
theorem bbC : (false == false) = true := rfl
theorem bbD : (true == true) = true := rfl
set_option linter.defProp false in
def STx := (And.intro (And.intro (And.intro (And.intro (And.intro (And.intro (And.intro @underlying84 @sz84) (And.intro @is84 @ce84)) (And.intro (And.intro @ag84 @ze84) (And.intro @fa84x0 @fa84x1))) (And.intro (And.intro (And.intro @fa84x2 @underlying29) (And.intro @sz29 @is29)) (And.intro (And.intro @ce29 @ag29) (And.intro @ze29 @nt29)))) (And.intro (And.intro (And.intro (And.intro @nn29 @nf29) (And.intro @ng29 @underlying96)) (And.intro (And.intro @sz96 @is96) (And.intro @ce96 @ag96))) (And.intro (And.intro (And.intro @ze96 @fa96x0) (And.intro @fa96x1 @fa96x2)) (And.intro (And.intro @fa96x3 @fa96x4) (And.intro @underlying93 (And.intro @sz93 @is93)))))) (And.intro (And.intro (And.intro (And.intro (And.intro @ce93 @ag93) (And.intro @ze93 @nt93)) (And.intro (And.intro @nn93 @nf93) (And.intro @ng93 @underlying85))) (And.intro (And.intro (And.intro @sz85 @is85) (And.intro @ce85 @ag85)) (And.intro (And.intro @ze85 @underlying82) (And.intro @sz82 @is82)))) (And.intro (And.intro (And.intro (And.intro @ce82 @ag82) (And.intro @ze82 @underlying51)) (And.intro (And.intro @sz51 @is51) (And.intro @ce51 @ag51))) (And.intro (And.intro (And.intro @ze51 @fa51x0) (And.intro @fa51x1 @fa51x2)) (And.intro (And.intro @fa51x3 @fa51x4) (And.intro @underlying121 (And.intro @sz121 @is121))))))) (And.intro (And.intro (And.intro (And.intro (And.intro (And.intro @ce121 @ag121) (And.intro @ze121 @nt121)) (And.intro (And.intro @nn121 @nf121) (And.intro @ng121 @underlying42))) (And.intro (And.intro (And.intro @sz42 @is42) (And.intro @ce42 @ag42)) (And.intro (And.intro @ze42 @underlying99) (And.intro @sz99 @is99)))) (And.intro (And.intro (And.intro (And.intro @ce99 @ag99) (And.intro @ze99 @fa99x0)) (And.intro (And.intro @fa99x1 @underlying49) (And.intro @sz49 @is49))) (And.intro (And.intro (And.intro @ce49 @ag49) (And.intro @ze49 @underlying125)) (And.intro (And.intro @sz125 @is125) (And.intro @ce125 (And.intro @ag125 @underlying200)))))) (And.intro (And.intro (And.intro (And.intro (And.intro @sz200 @is200) (And.intro @ce200 @ag200)) (And.intro (And.intro @underlying43 @sz43) (And.intro @is43 @ce43))) (And.intro (And.intro (And.intro @ag43 @underlying157) (And.intro @sz157 @is157)) (And.intro (And.intro @ce157 @ag157) (And.intro @underlying149 (And.intro @sz149 @is149))))) (And.intro (And.intro (And.intro (And.intro @ce149 @ag149) (And.intro @underlying86 @sz86)) (And.intro (And.intro @is86 @ce86) (And.intro @ag86 @nsA))) (And.intro (And.intro (And.intro @nsB @nsC) (And.intro @nsD @nsE)) (And.intro (And.intro @nsF @bbA) (And.intro @bbB (And.intro @bbC @bbD))))))))
def PY : STy := ⟨84, 85, 96, 51, 99, 5, sitC, fun _ _ => rfl, by decide, by decide, by decide, by decide, by decide, by decide, by decide, by decide, by decide⟩
section
variable {M : Type} [Mem M] {w0 : World} {s : St M} {R : Value → St M → Prop} {lo t N : Nat} {T : Tab} {O : Nat → Prop} {al : Value} {rb cp : Nat → Nat} {sl : Nat → Nat → Value}
theorem sdead_spec (h : SAt PY lo s t T N O al rb cp sl) (hfs : 0 < T.fs) (hR : R (.bool false) s) : CCalls Tryz.prog w0 51 #[.pointer (some ⟨t, 0, none⟩)] s R := by
  refine wfun2 hmix ok51 (l := [.pointer (some ⟨t, 0, none⟩)]) func51 rfl ntmps51 results51 (by simp) ?_
  have hb : s.at' t = some (.cells [al, .int .i64 (T.hits : Int), .int .i64 (T.misses : Int)] 84 true) := h.bl
  rcases h.all with ⟨h0, _, rfl⟩ | ⟨b0, junk, rfl, ha, _⟩
  · omega
  · simp -implicitDefEqProofs only [↓Zd, (Zp), if_true, if_false, Nat.reduceEqDiff, reduceCtorEq, cld2, (STx), hb]
    exact hR
set_option maxHeartbeats 4000000 in
theorem sfind_spec (h : SAt PY lo s t T N O al rb cp sl) (hfs : 0 < T.fs) {f k : Int} (hno : ¬ hasT T f k → R (.pointer none) s) (hyes : ∀ i j : Nat, f = (i : Int) → k = (j : Int) → i < T.fs → j < T.n i → hasT T f k → R (.pointer (some ⟨rb i, j * 5, none⟩)) s) :
    CCalls Tryz.prog w0 36 #[.pointer (some ⟨t, 0, none⟩), .int .i64 f, .int .i64 k] s R := by
  refine wfun2 hmix ok36 (l := [.pointer (some ⟨t, 0, none⟩), .int .i64 f, .int .i64 k]) func36 rfl ntmps36 results36 (by simp) ?_
  simp -implicitDefEqProofs only [↓Zd, (Zp), if_true, if_false, reduceCtorEq, co51]
  refine sdead_spec h hfs ?_
  by_cases f1 : f < 0
  · simp -implicitDefEqProofs only [↓Zd, (Zp), if_true, if_false, Nat.reduceEqDiff, (HEx), f1]
    exact hno fun hc => by have := hc.1; omega
  have hb : s.at' t = some (.cells [al, .int .i64 (T.hits : Int), .int .i64 (T.misses : Int)] 84 true) := h.bl
  rcases h.all with ⟨h0, _, rfl⟩ | ⟨b0, junk, rfl, ha, _⟩
  · exact absurd h0 (by omega)
  have ha : s.at' b0 = some (.cells (rows (fun i => [.slice (some ⟨rb i, 0, none⟩) (T.n i) (cp i)]) T.fs ++ junk) 85 true) := ha
  by_cases f2 : (T.fs : Int) ≤ f
  · simp -implicitDefEqProofs only [↓Zd, (Zp), if_true, if_false, Nat.reduceEqDiff, reduceCtorEq, cld2, (HEx), (STx), hb, f1, f2]
    exact hno fun hc => by have := hc.2.1; omega
  by_cases k1 : k < 0
  · simp -implicitDefEqProofs only [↓Zd, (Zp), if_true, if_false, Nat.reduceEqDiff, reduceCtorEq, cld2, (HEx), (STx), hb, f1, f2, k1]
    exact hno fun hc => by have := hc.2.2.1; omega
  obtain ⟨i, rfl⟩ : ∃ i : Nat, f = (i : Int) := ⟨f.toNat, by omega⟩
  obtain ⟨j, rfl⟩ : ∃ j : Nat, k = (j : Int) := ⟨k.toNat, by omega⟩
  have hi : i < T.fs := by omega
  have hii : (0 : Int) ≤ (i : Int) ∧ (i : Int) < (T.fs : Int) := by omega
  have hg := rows_get (c := fun i => [.slice (some ⟨rb i, 0, none⟩) (T.n i) (cp i)]) (k := 1) (fun _ => rfl) (j := 0) junk hi (by omega)
  simp only [Nat.mul_one, Nat.add_zero, List.getElem?_cons_zero] at hg
  by_cases k2 : (T.n i : Int) ≤ (j : Int)
  · simp -implicitDefEqProofs only [↓Zd, (Zp), if_true, if_false, Nat.reduceEqDiff, reduceCtorEq, cld2, (HEx), (STx), hb, f1, f2, k1, k2, hii, ha, hg, Nat.add_zero]
    exact hno fun hc => by have := hc.2.2.2; rw [Int.toNat_natCast] at this; omega
  · have hj : j < T.n i := by omega
    have hjj : (0 : Int) ≤ (j : Int) ∧ (j : Int) < (T.n i : Int) := by omega
    simp -implicitDefEqProofs only [↓Zd, (Zp), if_true, if_false, Nat.reduceEqDiff, reduceCtorEq, cld2, (HEx), (STx), hb, f1, f2, k1, k2, hii, hjj, ha, hg, Nat.add_zero]
    exact hyes i j rfl rfl hi hj ⟨by omega, by omega, by omega, by rw [Int.toNat_natCast]; omega⟩
theorem splays0_spec {w : Bool} {x : ByteArray} (hR : R (.bool false) s) : CCalls Tryz.prog w0 52 #[.pointer none, .bool w, .string x] s R := by
  refine wfun2 hmix ok52 (l := [.pointer none, .bool w, .string x]) func52 rfl ntmps52 results52 (by simp) ?_
  simp -implicitDefEqProofs only [↓Zd, (Zp), if_true, if_false, Nat.reduceEqDiff, reduceCtorEq, (STx)]
  exact hR
set_option maxHeartbeats 4000000 in
theorem splays_spec {b n j : Nat} {c : Nat → List Value} {z : Sit} {v : Value} {w : Bool} {x : ByteArray} (hb : s.at' b = some (.cells (rows c n) 96 true)) (hc : ∀ i, (c i).length = 5) (hj : j < n) (hcj : c j = sitC z v)
    (hR : ∀ s', s'.next = s.next → s'.at' b = some (.cells (rows (fun m => if m = j then sitC (if z.mega then z else playsS z w x) v else c m) n) 96 true) → (∀ a, a ≠ b → s'.at' a = s.at' a) → R (.bool (playsB z w x)) s') :
    CCalls Tryz.prog w0 52 #[.pointer (some ⟨b, j * 5, none⟩), .bool w, .string x] s R := by
  refine wfun2 hmix ok52 (l := [.pointer (some ⟨b, j * 5, none⟩), .bool w, .string x]) func52 rfl ntmps52 results52 (by simp) ?_
  have g0 := rows_get0 hc hj (j := 0) (by omega)
  have g1 := rows_get0 hc hj (j := 1) (by omega)
  have g2 := rows_get0 hc hj (j := 2) (by omega)
  have g3 := rows_get0 hc hj (j := 3) (by omega)
  rw [hcj] at g0 g1 g2 g3
  simp only [sitC, List.getElem?_cons_zero, List.getElem?_cons_succ, Nat.add_zero] at g0 g1 g2 g3
  have hself : (fun m => if m = j then sitC z v else c m) = c := by
    funext m
    split
    · rename_i e; rw [e, hcj]
    · rfl
  obtain ⟨zu, zs, zm, zn, ze⟩ := z
  cases zm with
  | true =>
    have hR2 := hR s rfl (by simp only [if_true, hself]; exact hb) (fun _ _ => rfl)
    unfold playsB at hR2
    simp -implicitDefEqProofs only [↓Zd, (Zp), if_true, if_false, Nat.reduceEqDiff, reduceCtorEq, cld2, (HEx), (STx), hb, g2]
    exact hR2
  | false =>
    cases zu with
    | true =>
      have hR2 := hR s rfl (by simp only [playsS, if_true, Bool.false_eq_true, if_false, hself]; exact hb) (fun _ _ => rfl)
      unfold playsB at hR2
      simp only [Bool.false_eq_true, if_false, if_true] at hR2
      by_cases e2 : zn = x
      · subst e2
        simp only [decide_true, Bool.and_true] at hR2
        cases zs <;> cases w <;>
        · simp only [reduceCtorEq, decide_true, decide_false] at hR2
          simp -implicitDefEqProofs only [↓Zd, (Zp), if_true, if_false, Nat.reduceEqDiff, reduceCtorEq, cld2, (HEx), (STx), hb, g0, g1, g2, g3, Nat.add_zero]
          exact hR2
      · simp only [e2, decide_false, Bool.and_false] at hR2
        cases zs <;> cases w <;>
        · simp -implicitDefEqProofs only [↓Zd, (Zp), if_true, if_false, Nat.reduceEqDiff, reduceCtorEq, cld2, (HEx), (STx), hb, g0, g1, g2, g3, e2, Nat.add_zero]
          exact hR2
    | false =>
      have e1 := rows_set0 (k := 5) (c := c) (d := fun m => if m = j then [.bool true, .bool zs, .bool false, .string zn, v] else c m) (j := 0) (v := .bool true) hc (fun i => by (try dsimp only); split; rfl; exact hc i) hj (by omega) (fun m hm => if_neg hm) (by (try dsimp only); rw [if_pos rfl, hcj]; rfl)
      have e2 := rows_set0 (k := 5) (c := fun m => if m = j then [.bool true, .bool zs, .bool false, .string zn, v] else c m) (d := fun m => if m = j then [.bool true, .bool w, .bool false, .string zn, v] else c m) (j := 1) (v := .bool w) (fun i => by (try dsimp only); split; rfl; exact hc i) (fun i => by (try dsimp only); split; rfl; exact hc i) hj (by omega) (fun m hm => by (try dsimp only); rw [if_neg hm, if_neg hm]) (by (try dsimp only); rw [if_pos rfl, if_pos rfl]; rfl)
      have e3 := rows_set0 (k := 5) (c := fun m => if m = j then [.bool true, .bool w, .bool false, .string zn, v] else c m) (d := fun m => if m = j then [.bool true, .bool w, .bool false, .string x, v] else c m) (j := 3) (v := .string x) (fun i => by (try dsimp only); split; rfl; exact hc i) (fun i => by (try dsimp only); split; rfl; exact hc i) hj (by omega) (fun m hm => by (try dsimp only); rw [if_neg hm, if_neg hm]) (by (try dsimp only); rw [if_pos rfl, if_pos rfl]; rfl)
      have k1 := rows_get0 (k := 5) (c := fun m => if m = j then [.bool true, .bool w, .bool false, .string x, v] else c m) (fun i => by (try dsimp only); split; rfl; exact hc i) hj (j := 1) (by omega)
      have k3 := rows_get0 (k := 5) (c := fun m => if m = j then [.bool true, .bool w, .bool false, .string x, v] else c m) (fun i => by (try dsimp only); split; rfl; exact hc i) hj (j := 3) (by omega)
      simp only [if_true, List.getElem?_cons_zero, List.getElem?_cons_succ] at k1 k3
      have l0 := rows_len hc n
      have l1 := rows_len (c := fun m => if m = j then [.bool true, .bool zs, .bool false, .string zn, v] else c m) (k := 5) (fun i => by (try dsimp only); split; rfl; exact hc i) n
      have l2 := rows_len (c := fun m => if m = j then [.bool true, .bool w, .bool false, .string zn, v] else c m) (k := 5) (fun i => by (try dsimp only); split; rfl; exact hc i) n
      have m0 : j * 5 + 1 ≤ n * 5 := by omega
      have m1 : j * 5 + 2 ≤ n * 5 := by omega
      have m2 : j * 5 + 4 ≤ n * 5 := by omega
      rw [Nat.add_zero] at e1
      have hR2 : ∀ s', s'.next = s.next → s'.at' b = some (.cells (rows (fun m => if m = j then [.bool true, .bool w, .bool false, .string x, v] else c m) n) 96 true) → (∀ a, a ≠ b → s'.at' a = s.at' a) → R (.bool true) s' := fun s' h1 h2 h3 => by
        have := hR s' h1 (by simp only [playsS, Bool.false_eq_true, if_false, sitC]; exact h2) h3
        simpa [playsB] using this
      cases w <;>
      · simp -implicitDefEqProofs only [↓Zd, (Zp), if_true, if_false, Nat.reduceEqDiff, reduceCtorEq, Nat.reduceAdd, okPart, Value.cells, okCell, cld2, (HEx), (STx), hb, g0, g2, e1, e2, e3, k1, k3, l0, l1, l2, m0, m1, m2, Nat.add_zero]
        refine hR2 _ rfl ?_ fun a ha => ?_
        · rw [St.at_put, if_pos rfl]
        · rw [St.at_put, if_neg ha, St.at_put, if_neg ha, St.at_put, if_neg ha]
end
end Go.Proofs.Tryz
