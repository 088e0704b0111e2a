/- A heap and the document's play alike: the walk of the law on it. A lemma file: no statement of its own. -/
import Derived.Test.YtakgfhdaimeafaaGreatqFwF
import Derived.Test.YtakgfhdaimeafaaGreatqRH17
set_option linter.unusedSimpArgs false
set_option linter.unusedVariables false
set_option linter.unusedSectionVars false
namespace Go.Proofs.Tryz
open Go.Cs
open Go.RowKit (Below)
set_option maxRecDepth 100000
attribute [local irreducible] CCalls WLoop WScope CRound WRange
section
variable {M : Type} [Mem M] {w0 : World} {s : St M} {R : Value → St M → Prop}
theorem RObAt.low {lo lo' N b : Nat} {o : Ob} {O : Nat → Prop} (h : RObAt lo s N b o O) (hl : lo' ≤ lo) : RObAt lo' s N b o O :=
  ⟨fun c hc => ⟨by have := (h.own c hc).1; omega, (h.own c hc).2⟩, h.pin, h.ep, h.bl⟩
theorem RHpAt.low {lo lo' p N : Nat} {H : Hp} {O : Nat → Prop} (h : RHpAt lo s p H N O) (hl : lo' ≤ lo) : RHpAt lo' s p H N O := by
  obtain ⟨hp, tg, pf, sl, tl, bs, h⟩ := h
  exact ⟨hp, tg, pf, sl, tl, bs, fun c hc => ⟨by have := (h.own c hc).1; omega, (h.own c hc).2⟩, h.ok, h.tn, h.pin, h.bl, h.row, h.rowO, h.fo.low hl, h.ta, h.taO, h.len, fun i b o h1 h2 => (h.obj i b o h1 h2).low hl⟩
set_option maxHeartbeats 16000000 in
theorem heapPlays_spec {a b c d u : Int} {A : List ActD} {ad : Option Addr} {cp : Nat} (hu : 0 ≤ u ∧ u ≤ 255) (hA : QRow 32 actC s ad A) (hok : ∀ a ∈ A, ActOk a) (hAl : A.length ≤ 9223372036854775807)
    (hR : ∀ s', R (.bool true) s') : CCalls Tryz.prog w0 6 #[.agg #[.int .i64 a, .int .i64 b, .int .i64 c, .int .i64 d], .int .u8 u, .slice ad A.length cp] s R := by
  refine wfun2 hmix ok6 (l := [.agg #[.int .i64 a, .int .i64 b, .int .i64 c, .int .i64 d], .int .u8 u, .slice ad A.length cp]) func6 rfl ntmps6 results6 (by simp) ?_
  have wu : IntKind.i64.wrap u = u := wrap_i64 (by omega)
  by_cases hA0 : (0 : Int) < (A.length : Int)
  case neg =>
    have hx3 : ¬ (300 : Int) < (((⟨#[120]⟩ : ByteArray).size : Nat) : Int) := by decide
    simp -implicitDefEqProofs only [↓Zd, (Zp), if_true, if_false, Nat.reduceEqDiff, Nat.reduceAdd, Nat.reduceLeDiff, okPart, Value.cells, cut, cld2, (HEx), underlying27, is27, ce27, ag27, underlying22, hA0, hx3, wu, co8]
    refine hnew_spec fun s1 p hH1 hs1 => ?_
    have hn1 := hs1.1
    simp only [St.next_new] at hn1 hH1
    have c3 : s1.at' s.next = some (.cells [.int .i64 a, .int .i64 b, .int .i64 c, .int .i64 d] 27 true) := by rw [hs1.2 _ (by simp only [St.next_new]; omega), St.at_new, if_pos rfl]
    simp -implicitDefEqProofs only [↓Zd, (Zp), if_true, if_false, Nat.reduceEqDiff, Nat.reduceAdd, Nat.reduceLeDiff, cut, cld2, (HEx), underlying27, ce27, ag27, c3, wu, co11]
    refine rnew_spec fun s2 r hG2 hs2 => ?_
    have hn2 := hs2.1
    have t2 : TwoH (s.next + 1) s2 p r (newH a c u) 32 _ _ := ⟨(hH1.le hs2).mono (Nat.zero_le _), (hG2.low (by omega)).mono (Nat.zero_le _), fun c h1 h2 => by omega⟩
    have hno : ¬ (0 : Int) < (A.length : Int) := hA0
    have hA0' : (A.length : Int) = 0 := by omega
    simp -implicitDefEqProofs only [↓Zd, (Zp), if_true, if_false, Nat.reduceEqDiff, (REx)]
    refine wloop_inv hmix (fun fuel env s3 => env 10 = .int .i64 0 ∧ env 2 = .slice ad A.length cp ∧ env 7 = .string ⟨#[120]⟩ ∧ env 8 = .pointer (some ⟨p, 0, none⟩) ∧ env 9 = .pointer (some ⟨r, 0, none⟩) ∧ s3 = s2) 1 ⟨rfl, rfl, rfl, rfl, rfl, rfl⟩ ?_
    rintro fuel env s3 ⟨e10, e2, e7, e8, e9, rfl⟩
    simp -implicitDefEqProofs only [↓Zd, (Zp), if_true, if_false, Nat.reduceEqDiff, underlying22, e10, e2, e7, e8, e9, hno, co22]
    refine rlike_spec t2 (by omega) (.new _ _ _ _) fun s4 hs4 => ?_
    simp -implicitDefEqProofs only [↓Zd, (Zp), if_true, if_false, Nat.reduceEqDiff, (HEx), co7]
    refine works12_spec ?_
    simp -implicitDefEqProofs only [↓Zd, (Zp), if_true, if_false, Nat.reduceEqDiff, (HEx)]
    exact hR _
  have hkA : A.length - 1 < A.length := by omega
  have hA1 := hA
  rcases hA1 with rfl | ⟨j, us, rfl, hj, hjb, hus⟩
  · simp at hA0
  obtain ⟨z, hz⟩ : ∃ z, A[A.length - 1]? = some z := ⟨_, List.getElem?_eq_getElem hkA⟩
  have huz : us[A.length - 1]? = some z := by rw [hus _ hkA]; exact hz
  obtain ⟨g1, g2⟩ := acts_cut us _ z huz
  have g3 : (us.flatMap actC)[(A.length - 1) * 7 + 3]? = some (.string z.name) := by
    have := congrArg (fun l : List Value => l[3]?) g2
    have h2 : (us.flatMap actC)[(A.length - 1) * 7 + 3]? = (actC z)[3]? := by simpa [List.getElem?_take, List.getElem?_drop] using this
    exact h2
  have wz : IntKind.i64.wrap ((A.length : Int) - 1) = ((A.length - 1 : Nat) : Int) := by rw [wrap_i64 (by omega)]; omega
  have hkz : (0 : Int) ≤ ((A.length - 1 : Nat) : Int) ∧ ((A.length - 1 : Nat) : Int) < (A.length : Int) := by omega
  have hjn : ¬ j = s.next := by omega
  by_cases hl0 : (300 : Int) < ((z.name.size : Nat) : Int)
  · simp -implicitDefEqProofs only [↓Zd, (Zp), if_true, if_false, Nat.reduceEqDiff, okPart, Value.cells, cld2, (HEx), (ACx), is27, underlying22, sz32, hA0, wz, hkz, hjb, hjn, g3, hl0, co7]
    refine works12_spec ?_
    simp -implicitDefEqProofs only [↓Zd, (Zp), if_true, if_false, Nat.reduceEqDiff, (HEx)]
    exact hR _
  simp -implicitDefEqProofs only [↓Zd, (Zp), if_true, if_false, Nat.reduceEqDiff, Nat.reduceAdd, Nat.reduceLeDiff, okPart, Value.cells, cut, cld2, (HEx), (ACx), underlying27, is27, ce27, ag27, underlying22, sz32, hA0, wz, hkz, hjb, hjn, g3, hl0, wu, co8]
  refine hnew_spec fun s1 p hH1 hs1 => ?_
  have hn1 := hs1.1
  simp only [St.next_new] at hn1 hH1
  have c3 : s1.at' s.next = some (.cells [.int .i64 a, .int .i64 b, .int .i64 c, .int .i64 d] 27 true) := by rw [hs1.2 _ (by simp only [St.next_new]; omega), St.at_new, if_pos rfl]
  have hj1 : s1.at' j = s.at' j := by rw [hs1.2 _ (by simp only [St.next_new]; omega), St.at_new, if_neg hjn]
  simp -implicitDefEqProofs only [↓Zd, (Zp), if_true, if_false, Nat.reduceEqDiff, Nat.reduceAdd, Nat.reduceLeDiff, cut, cld2, (HEx), underlying27, ce27, ag27, c3, wu, co11]
  refine rnew_spec fun s2 r hG2 hs2 => ?_
  have hn2 := hs2.1
  have hj2 : s2.at' j = s.at' j := (hs2.2 _ (by omega)).trans hj1
  have t2 : TwoH (s.next + 1) s2 p r (newH a c u) 32 _ _ := ⟨(hH1.le hs2).mono (Nat.zero_le _), (hG2.low (by omega)).mono (Nat.zero_le _), fun c h1 h2 => by omega⟩
  simp -implicitDefEqProofs only [↓Zd, (Zp), if_true, if_false, Nat.reduceEqDiff, (REx)]
  refine wloop_inv hmix (fun fuel env s3 => ∃ (k : Nat) (H : Hp) (O Q : Nat → Prop), fuel = 60 + 1 - k ∧ k ≤ 60 ∧ env 10 = .int .i64 (k : Int) ∧ env 2 = .slice (some ⟨j, 0, none⟩) A.length cp ∧ env 7 = .string z.name ∧ env 8 = .pointer (some ⟨p, 0, none⟩) ∧ env 9 = .pointer (some ⟨r, 0, none⟩) ∧ TwoH (s.next + 1) s3 p r H (32 + 3 * k) O Q ∧ HSz 1000000 H ∧ TSz 1000000 H ∧ s.next + 1 ≤ s3.next ∧ s3.at' j = s.at' j) 61 ⟨0, _, _, _, rfl, by omega, rfl, rfl, rfl, rfl, rfl, t2, .new _ _ _ _, (fun x hx => by simp [newH] at hx), by omega, hj2⟩ ?_
  rintro fuel env s3 ⟨k, H, O, Q, rfl, hk, e10, e2, e7, e8, e9, t3, hsz, htz, hlo3, hj3⟩
  have hjb3 := hj3.trans hjb
  rcases (show ((k : Int) < (A.length : Int) ∧ (k : Int) < 60) ∨ ¬ (k : Int) < (A.length : Int) ∨ ((k : Int) < (A.length : Int) ∧ ¬ (k : Int) < 60) by omega) with ⟨k1, k2⟩ | k1 | ⟨k1, k2⟩
  case' inr.inl => simp -implicitDefEqProofs only [↓Zd, (Zp), if_true, if_false, Nat.reduceEqDiff, underlying22, e10, e2, e7, e8, e9, k1, co22]
  case' inr.inr => simp -implicitDefEqProofs only [↓Zd, (Zp), if_true, if_false, Nat.reduceEqDiff, underlying22, e10, e2, e7, e8, e9, k1, k2, co22]
  case inr.inl | inr.inr =>
    refine rlike_spec t3 (by omega) hsz fun s4 hs4 => ?_
    simp -implicitDefEqProofs only [↓Zd, (Zp), if_true, if_false, Nat.reduceEqDiff, (HEx), co7]
    refine works12_spec ?_
    simp -implicitDefEqProofs only [↓Zd, (Zp), if_true, if_false, Nat.reduceEqDiff, (HEx)]
    exact hR _
  have hkA2 : k < A.length := by omega
  have hx : A[k]? = some A[k] := by simp [hkA2]
  have hxok := hok _ (List.mem_of_getElem? hx)
  generalize A[k] = x at hx hxok
  have hux : us[k]? = some x := by rw [hus k hkA2]; exact hx
  obtain ⟨c1, c2⟩ := acts_cut us k x hux
  have hkk : (0 : Int) ≤ (k : Int) ∧ (k : Int) < (A.length : Int) := by omega
  have w1 : IntKind.i64.wrap ((k : Int) + 1) = ((k + 1 : Nat) : Int) := by rw [wrap_i64 (by omega)]; omega
  obtain ⟨x0, x1, x2, x3, v1, v2, v3⟩ := x
  have c2 : List.take 7 (List.drop (k * 7) (us.flatMap actC)) = [.int .i64 x0, .int .i64 x1, .int .i64 x2, .string x3, .int .i64 v1, .int .i64 v2, .string v3] := c2
  simp -implicitDefEqProofs only [↓Zd, (Zp), if_true, if_false, Nat.reduceEqDiff, cut, cld2, (ACx), underlying22, sz32, e10, e2, k1, k2, hkk, hjb3, c1, c2, co9]
  refine long12_spec ?_
  by_cases hl : (decide ((300 : Int) < x3.size) || decide ((300 : Int) < v3.size)) = true
  · rw [hl]
    simp -implicitDefEqProofs only [↓Zd, (Zp), if_true, if_false, Nat.reduceEqDiff, (HEx), co7]
    refine works12_spec ?_
    simp -implicitDefEqProofs only [↓Zd, (Zp), if_true, if_false, Nat.reduceEqDiff, (HEx)]
    exact hR _
  rw [Bool.eq_false_iff.2 hl]
  have hl2 : x3.size ≤ 300 ∧ v3.size ≤ 300 := by
    simp only [Bool.or_eq_true, decide_eq_true_eq, not_or] at hl
    omega
  have l4 : s3.le (s3.new (.cells [.int .i64 x0, .int .i64 x1, .int .i64 x2, .string x3, .int .i64 v1, .int .i64 v2, .string v3] 32 true)) := St.le_new (St.le_refl _)
  generalize s3.new (.cells [.int .i64 x0, .int .i64 x1, .int .i64 x2, .string x3, .int .i64 v1, .int .i64 v2, .string v3] 32 true) = s4 at l4 ⊢
  have hn4 := l4.1
  have hj4 : s4.at' j = s.at' j := (l4.2 j (by omega)).trans hj3
  have hjb4 := hj4.trans hjb
  simp -implicitDefEqProofs only [↓Zd, (Zp), if_true, if_false, Nat.reduceEqDiff, cut, cld2, (HEx), (ACx), underlying22, sz32, e10, e2, e8, e9, hkk, hjb4, c1, c2, co10]
  have hsz6 := done_sz (x := ⟨x0, x1, x2, x3, v1, v2, v3⟩) hsz htz (by show x3.size ≤ _; omega) (by show v3.size ≤ _; omega) hxok
  refine rdone_spec (x := ⟨x0, x1, x2, x3, v1, v2, v3⟩) (t3.le l4) (by omega) hxok (by omega) (by omega) fun s6 O6 Q6 t6 hn6 hk6 => ?_
  have hj6 : s6.at' j = s.at' j := (hk6 j (by omega) (fun hc => by have := (t3.h.own j hc).1; omega) (fun hc => by have := (t3.g.own j hc).1; omega)).trans hj4
  by_cases h8 : (k : Int).tmod 8 = 0
  · simp -implicitDefEqProofs only [↓Zd, (Zp), if_true, if_false, ne_eq, Nat.reduceEqDiff, Int.reduceEq, (HEx), e10, e7, e8, e9, h8, co22]
    refine rlike_spec t6 (by omega) hsz6.1 fun s7 hs7 => ?_
    simp -implicitDefEqProofs only [↓Zd, (Zp), if_true, if_false, Nat.reduceEqDiff, Nat.reduceAdd, (HEx), e10, e2, e7, e8, e9, w1]
    exact ⟨60 + 1 - (k + 1), by omega, k + 1, _, O6, Q6, rfl, by omega, rfl, (t6.le hs7).mono (by omega), hsz6.1, hsz6.2, by have := hs7.1; omega, (hs7.2 j (by omega)).trans hj6⟩
  · simp -implicitDefEqProofs only [↓Zd, (Zp), if_true, if_false, ne_eq, Nat.reduceEqDiff, Int.reduceEq, Nat.reduceAdd, (HEx), e10, e2, e7, e8, e9, w1, h8]
    exact ⟨60 + 1 - (k + 1), by omega, k + 1, _, O6, Q6, rfl, by omega, rfl, t6.mono (by omega), hsz6.1, hsz6.2, by omega, hj6⟩
end
theorem heapPlays_walk {a b c d u : Int} {A us : List ActD} {cp : Nat} {oi : Option BI} {ad : Nat → Option Addr} {v : Value} {w : World} (_ : (Lit.int .i64 a).wf = true) (_ : (Lit.int .i64 b).wf = true) (_ : (Lit.int .i64 c).wf = true) (_ : (Lit.int .i64 d).wf = true) (hf : (Lit.int .u8 u).wf = true) (hr : ∀ ρ, QIn ρ w oi (us.flatMap actC)) (hv : ∀ (ρ : Ren) j, ρ j = oi → VRel ρ (.slice (ad j) A.length cp) v) (hok : ∀ a ∈ A, ActOk a) (ht : A = [] ∨ (ad = fun j => some ⟨j, 0, none⟩) ∧ ∀ k, k < A.length → us[k]? = A[k]?) (hl : A.length ≤ 9223372036854775807) :
    Calls Tryz.prog 6 #[.agg #[.int .i64 a, .int .i64 b, .int .i64 c, .int .i64 d], .int .u8 u, v] w fun e w' => e = .returned (.bool true) ∧ Below w.heap.size w w' := by
  refine calls_q (L := [(32, us.flatMap actC)]) (B := [oi]) (args := #[.agg #[.int .i64 a, .int .i64 b, .int .i64 c, .int .i64 d], .int .u8 u, .slice (ad 0) A.length cp]) rfl ?_ ⟨rfl, ?_⟩ (heapPlays_spec ?_ ?_ hok hl fun _ => rfl)
  · intro j oi' r h1 h2
    match j, h1, h2 with
    | 0, h1, h2 => cases h1; cases h2; exact hr _
  · intro i hi
    match i, hi with
    | 0, _ =>
      refine .agg rfl fun k hk => ?_
      match k, hk with
      | 0, _ => exact .int _ _
      | 1, _ => exact .int _ _
      | 2, _ => exact .int _ _
      | 3, _ => exact .int _ _
    | 1, _ => exact .int _ _
    | 2, _ => exact hv _ 0 rfl
  · simp only [Lit.wf, Bool.and_eq_true, decide_eq_true_eq] at hf; exact hf
  · rcases ht with ht | ⟨rfl, ht⟩
    · exact .inl ht
    · exact .inr ⟨0, us, rfl, Nat.zero_lt_one, rfl, ht⟩
end Go.Proofs.Tryz
