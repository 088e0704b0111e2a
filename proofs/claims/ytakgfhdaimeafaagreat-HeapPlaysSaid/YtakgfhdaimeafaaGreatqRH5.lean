/- The document's heap: the walks of what changes an object's properties. A lemma file: no statement of its own. -/
import Derived.Test.YtakgfhdaimeafaaGreatqFwF
import Derived.Test.YtakgfhdaimeafaaGreatqRH4
set_option linter.unusedSimpArgs false
set_option linter.unusedVariables false
set_option linter.unusedSectionVars false
namespace Go.Proofs.Tryz
open Go.Cs
open Go.RowKit (Below)
set_option maxRecDepth 100000
attribute [local irreducible] CCalls WLoop WScope CRound WRange
def Hang (b : Nat) (ns vs : Value) (c : Nat) : Prop := c = b ∨ (∃ q n k, ns = .slice (some q) n k ∧ c = q.block) ∨ (∃ q n k, vs = .slice (some q) n k ∧ c = q.block)
section
variable {M : Type} [Mem M] {w0 : World} {s : St M} {R : Value → St M → Prop}
theorem RFr.lt {b : Nat} {ns vs : Value} (h : RFr s b ns vs) : ∀ c, Hang b ns vs c → c < s.next := by
  rintro c (rfl | ⟨q, n, k, e, rfl⟩ | ⟨q, n, k, e, rfl⟩)
  · exact h.bn
  · exact (h.n _ _ _ e).1
  · exact (h.v _ _ _ e).1
theorem RFr.le {s' : St M} {b : Nat} {ns vs : Value} (h : RFr s b ns vs) (hn : s.next ≤ s'.next) : RFr s' b ns vs :=
  ⟨by have := h.bn; omega, fun q n c e => ⟨by have := (h.n q n c e).1; omega, (h.n q n c e).2⟩, fun q n c e => ⟨by have := (h.v q n c e).1; omega, (h.v q n c e).2⟩, h.nv⟩
set_option maxHeartbeats 8000000 in
theorem rdset_spec {b : Nat} {L : List (ByteArray × V3)} {x : ByteArray} {k n : Int} {y : ByteArray} {a e f ns vs : Value} (ho : ROb s b L a e f ns vs) (hf : RFr s b ns vs) (hnd : (L.map (·.1)).Nodup) (hfew : L.length < 1000)
    (h : ∀ s' ns' vs', ROb s' b (setP L x (k, n, y)) a e f ns' vs' → RFr s' b ns' vs' → Upd s s' (Hang b ns vs) (Hang b ns' vs') → R (.bool (getP L x).isNone) s') :
    CCalls Tryz.prog w0 76 #[.pointer (some ⟨b, 1, none⟩), .string x, vA k n y] s R := by
  refine wfun2 hmix ok76 (l := [.pointer (some ⟨b, 1, none⟩), .string x, vA k n y]) func76 rfl ntmps76 results76 (by simp) ?_
  have l1 : s.le (s.new (.cells [.int .i64 k, .int .i64 n, .string y] 30 true)) := St.le_new (St.le_refl _)
  have ho1 := ho.le hf l1
  have c7 : (s.new (.cells [.int .i64 k, .int .i64 n, .string y] 30 true)).at' s.next = some (.cells [.int .i64 k, .int .i64 n, .string y] 30 true) := by rw [St.at_new, if_pos rfl]
  have n7 : (s.new (.cells [.int .i64 k, .int .i64 n, .string y] 30 true)).next = s.next + 1 := by simp
  simp -implicitDefEqProofs only [↓Zd, (Zp), if_true, if_false, Nat.reduceEqDiff, reduceCtorEq, okPart, Value.cells, (HEx), vA, co111]
  refine rdat_spec ho1 ?_
  generalize s.new (.cells [.int .i64 k, .int .i64 n, .string y] 30 true) = s1 at *
  have hf1 := hf.le l1.1
  cases hi : idxOf (keysP L) x with
  | some j =>
    obtain ⟨w, hj, hg⟩ := getP_at hi
    rw [hg, setP_some hnd hj] at h
    have e1 : atT (keysP L) x = (j : Int) := by unfold atT; rw [hi]
    rw [e1]
    have hlt := (List.getElem?_eq_some_iff.1 hj).1
    have hk : (0 : Int) ≤ (j : Int) ∧ (j : Int) < (L.length : Int) := by omega
    have hn : (0 : Int) ≤ (j : Int) := by omega
    have h1 := ho1.bl
    have ho1' := ho1
    rcases ho1.vl with ⟨e0, _⟩ | ⟨b2, junk, rfl, hb2, hl2⟩
    · omega
    obtain ⟨g1, g2⟩ := hf.v _ _ _ rfl
    simp only at g1 g2
    have hset := valsC_set L j x (k, n, y) _ junk hj
    obtain ⟨c1, c2⟩ := valsC_cut L j _ _ junk hj
    have hne : ¬ b2 = s.next := by omega
    simp -implicitDefEqProofs only [↓Zd, (Zp), if_true, if_false, Nat.reduceEqDiff, reduceCtorEq, Nat.reduceAdd, Nat.reduceLeDiff, okPart, Value.cells, cut, okCell, cld2, (HEx), (REx), vA, h1, hn, hk, hb2, c1, c7, hset, ord76]
    refine h _ ns (.slice (some ⟨b2, 0, none⟩) L.length UNK) ⟨?_, ?_, ?_, ?_⟩ (hf1.le (Nat.le_refl _)) ⟨?_, fun c hc ho => ?_, fun c hc => .inl hc⟩
    · rw [St.at_put, if_neg (fun e => g2 e.symm)]; exact h1
    · have hke : keysP (L.set j (x, k, n, y)) = keysP L := keys_set hj
      rw [hke]
      exact ho1.nm.same fun q m c e => by rw [St.at_put, if_neg (fun e2 => hf.nv _ _ _ _ _ _ e rfl e2)]
    · rw [List.length_set]
      refine .inr ⟨b2, junk, rfl, ?_, ?_⟩
      · rw [St.at_put, if_pos rfl]
      · rw [valsC_len, List.length_set]
    · rw [List.length_set]; exact ho.few
    · simp only [St.next_put]; omega
    · rw [St.at_put, if_neg (fun e => ho (.inr (.inr ⟨_, _, _, rfl, e⟩)))]
      exact l1.2 c hc
  | none =>
    rw [getP_no hi, setP_none _ _ _ (getP_no hi)] at h
    have e1 : atT (keysP L) x = -1 := by unfold atT; rw [hi]
    rw [e1]
    have h1 := ho1.bl
    have hkl := keysP_len L
    obtain ⟨s3, happ, hn3, hat3, hk3⟩ := app_str (x := x) (by omega) ho1.nm (fun q n c e => (hf1.n q n c e).1)
    have hb3 : s3.at' b = some (.cells [a, ns, vs, e, f] 106 true) := by rw [hk3 b hf1.bn (fun q n c e => (hf.n q n c e).2.symm)]; exact h1
    have c73 : s3.at' s.next = some (.cells [.int .i64 k, .int .i64 n, .string y] 30 true) := by rw [hk3 _ (by omega) (fun q n c e e2 => by have := (hf.n q n c e).1; omega)]; exact c7
    have hbn := hf.bn
    have hbne : ¬ s.next = b := by omega
    simp -implicitDefEqProofs only [↓Zd, (Zp), if_true, if_false, Nat.reduceEqDiff, reduceCtorEq, Int.reduceNeg, Int.reduceLE, Nat.reduceAdd, Nat.reduceLeDiff, okPart, Value.cells, cut, okCell, cld2, (HEx), (REx), vA, h1, rowStr, happ, hb3, c73, hbne, rowVal, ord76]
    have hv3 : SlU 30 3 (s3.put b (.cells [a, .slice (some ⟨s1.next + 1, 0, none⟩) ((keysP L).length + 1) UNK, vs, e, f] 106 true)) vs (valsC L) L.length := ho1.vl.same fun q m c e => by
      rw [St.at_put, if_neg (hf1.v q m c e).2, hk3 _ (hf1.v q m c e).1 (fun q' m' c' e' e2 => hf.nv _ _ _ _ _ _ e' e e2.symm)]
    have hput : (s3.put b (.cells [a, .slice (some ⟨s1.next + 1, 0, none⟩) ((keysP L).length + 1) UNK, vs, e, f] 106 true)).next = s3.next := by simp
    refine wch_app_val (by omega) hv3 (fun q m c e => by have := (hf1.v q m c e).1; rw [hput]; omega) fun s5 hn5 hat5 hk5 => ?_
    rw [hput] at hn5 hat5 hk5
    have hb5 : s5.at' b = some (.cells [a, .slice (some ⟨s1.next + 1, 0, none⟩) ((keysP L).length + 1) UNK, vs, e, f] 106 true) := by
      rw [hk5 b (by omega) (fun q m c e => (hf.v q m c e).2.symm), St.at_put, if_pos rfl]
    have hold : ∀ c, c < s1.next → c ≠ b → (∀ q m k, ns = .slice (some q) m k → c ≠ q.block) → (∀ q m k, vs = .slice (some q) m k → c ≠ q.block) → s5.at' c = s1.at' c := fun c hc h1 h2 h3 => by
      rw [hk5 c (by omega) h3, St.at_put, if_neg h1, hk3 c hc h2]
    have hns5 : s5.at' (s1.next + 1) = some (.cells (List.map Value.string (keysP L ++ [x])) 9 true) := by
      rw [hk5 _ (by omega) (fun q m c e e2 => by have := (hf1.v q m c e).1; omega), St.at_put, if_neg (by omega), hat3]
    simp -implicitDefEqProofs only [↓Zd, (Zp), if_true, if_false, Nat.reduceEqDiff, Int.reduceNeg, Nat.reduceAdd, Nat.reduceLeDiff, Nat.reduceBEq, okPart, Value.cells, okCell, (HEx), (REx), hb5]
    have hke : keysP (L ++ [(x, k, n, y)]) = keysP L ++ [x] := by simp [keysP]
    refine h _ (.slice (some ⟨s1.next + 1, 0, none⟩) ((keysP L).length + 1) UNK) (.slice (some ⟨s3.next + 1, 0, none⟩) (L.length + 1) UNK) ⟨?_, ?_, ?_, ?_⟩ ⟨?_, fun q m c e => ?_, fun q m c e => ?_, fun q m c q' m' c' e e' => ?_⟩ ⟨?_, fun c hc ho => ?_, fun c hc => ?_⟩
    · rw [St.at_put, if_pos rfl]
    · rw [hke]
      refine .inr ⟨s1.next + 1, UNK, by simp, .inl rfl, ?_, by simp⟩
      rw [St.at_put, if_neg (by omega)]
      exact hns5
    · rw [List.length_append]
      refine .inr ⟨s3.next + 1, [], rfl, ?_, by rw [valsC_len]; simp⟩
      rw [St.at_put, if_neg (by omega), hat5, valsC_app, List.append_nil]
      rfl
    · rw [List.length_append]; simp only [List.length_cons, List.length_nil]; omega
    · simp only [St.next_put]; omega
    · cases e
      exact ⟨by simp only [St.next_put]; omega, by show s1.next + 1 ≠ b; omega⟩
    · cases e
      exact ⟨by simp only [St.next_put]; omega, by show s3.next + 1 ≠ b; omega⟩
    · cases e
      cases e'
      show s1.next + 1 ≠ s3.next + 1
      omega
    · simp only [St.next_put]; omega
    · rw [St.at_put, if_neg (fun e => ho (.inl e)), hold c (by omega) (fun e => ho (.inl e)) (fun q m k e e2 => ho (.inr (.inl ⟨q, m, k, e, e2⟩))) (fun q m k e e2 => ho (.inr (.inr ⟨q, m, k, e, e2⟩)))]
      exact l1.2 c hc
    · rcases hc with rfl | ⟨q, m, k, e, rfl⟩ | ⟨q, m, k, e, rfl⟩
      · exact .inl (.inl rfl)
      · cases e; exact .inr (by show s.next ≤ s1.next + 1; omega)
      · cases e; exact .inr (by show s.next ≤ s3.next + 1; omega)
end
end Go.Proofs.Tryz
