/- The document's heap: the walks of an object's properties. A lemma file: no statement of its own. -/
import Derived.Test.YtakgfhdaimeafaaGreatqFwF
import Derived.Test.YtakgfhdaimeafaaGreatqRH3
set_option linter.unusedSimpArgs false
set_option linter.unusedVariables false
set_option linter.unusedSectionVars false
namespace Go.Proofs.Tryz
open Go.Cs
open Go.RowKit (Below)
set_option maxRecDepth 100000
attribute [local irreducible] CCalls WLoop WScope CRound WRange
def atT (T : List ByteArray) (x : ByteArray) : Int := match idxOf T x with
  | some j => (j : Int)
  | none => -1
def keysP (L : List (ByteArray × V3)) : List ByteArray := L.map (·.1)
theorem keysP_len (L : List (ByteArray × V3)) : (keysP L).length = L.length := by simp [keysP]
theorem getP_at : ∀ {L : List (ByteArray × V3)} {x : ByteArray} {j : Nat}, idxOf (keysP L) x = some j → ∃ v, L[j]? = some (x, v) ∧ getP L x = some v := by
  intro L
  induction L with
  | nil => intro x j h; cases h
  | cons p L ih =>
    intro x j h
    obtain ⟨y, w⟩ := p
    have h : (if y = x then some 0 else (idxOf (keysP L) x).map (· + 1)) = some j := h
    unfold getP
    by_cases e : y = x
    · rw [if_pos e] at h
      cases h
      rw [if_pos e]
      exact ⟨w, by simp [e], rfl⟩
    · rw [if_neg e] at h
      rw [if_neg e]
      obtain ⟨k, hk, rfl⟩ := Option.map_eq_some_iff.1 h
      obtain ⟨v, h1, h2⟩ := ih hk
      exact ⟨v, by simpa using h1, h2⟩
theorem getP_no {L : List (ByteArray × V3)} {x : ByteArray} (h : idxOf (keysP L) x = none) : getP L x = none := getP_none.2 (idx_none h)
section
variable {M : Type} [Mem M] {w0 : World} {s : St M} {R : Value → St M → Prop}
structure ROb (s : St M) (b : Nat) (L : List (ByteArray × V3)) (a e f ns vs : Value) : Prop where
  bl : s.at' b = some (.cells [a, ns, vs, e, f] 106 true)
  nm : SlC 9 1 s ns ((keysP L).map .string) (keysP L).length
  vl : SlU 30 3 s vs (valsC L) L.length
  few : L.length ≤ 1000
theorem ROb.same {s' : St M} {b : Nat} {L : List (ByteArray × V3)} {a e f ns vs : Value} (h : ROb s b L a e f ns vs) (h1 : s'.at' b = s.at' b) (h2 : ∀ q n c, ns = .slice (some q) n c → s'.at' q.block = s.at' q.block) (h3 : ∀ q n c, vs = .slice (some q) n c → s'.at' q.block = s.at' q.block) : ROb s' b L a e f ns vs :=
  ⟨h1.trans h.bl, h.nm.same h2, h.vl.same h3, h.few⟩
structure RFr (s : St M) (b : Nat) (ns vs : Value) : Prop where
  bn : b < s.next
  n : ∀ q n c, ns = .slice (some q) n c → q.block < s.next ∧ q.block ≠ b
  v : ∀ q n c, vs = .slice (some q) n c → q.block < s.next ∧ q.block ≠ b
  nv : ∀ q n c q' n' c', ns = .slice (some q) n c → vs = .slice (some q') n' c' → q.block ≠ q'.block
theorem ROb.le {s' : St M} {b : Nat} {L : List (ByteArray × V3)} {a e f ns vs : Value} (h : ROb s b L a e f ns vs) (hf : RFr s b ns vs) (hs : s.le s') : ROb s' b L a e f ns vs :=
  h.same (hs.2 _ hf.bn) (fun q n c e => hs.2 _ (hf.n q n c e).1) (fun q n c e => hs.2 _ (hf.v q n c e).1)
theorem ROb.vform {b : Nat} {L : List (ByteArray × V3)} {a e f ns vs : Value} (h : ROb s b L a e f ns vs) : ∃ q c, vs = .slice q L.length c := by
  rcases h.vl with ⟨e0, _, rfl⟩ | ⟨b, _, rfl, _⟩
  · exact ⟨none, 0, by rw [e0]⟩
  · exact ⟨_, _, rfl⟩
set_option maxHeartbeats 4000000 in
theorem rdat_spec {b : Nat} {L : List (ByteArray × V3)} {x : ByteArray} {a e f ns vs : Value} (ho : ROb s b L a e f ns vs) (h : R (.int .i64 (atT (keysP L) x)) s) :
    CCalls Tryz.prog w0 111 #[.pointer (some ⟨b, 1, none⟩), .string x] s R := by
  refine wfun2 hmix ok111 (l := [.pointer (some ⟨b, 1, none⟩), .string x]) func111 rfl ntmps111 results111 (by simp) ?_
  obtain ⟨h3, h7, h8, h9⟩ := ho
  have hlen : (keysP L).length ≤ 1000 := by rw [keysP_len]; exact h9
  generalize keysP L = T at *
  obtain ⟨q, cap, rfl⟩ := slc_form h7
  unfold atT at h
  simp -implicitDefEqProofs only [↓Zd, (Zp)]
  refine wloop_inv hmix (fun fuel env s' => ∃ i : Nat, fuel = T.length - i ∧ i ≤ T.length ∧ env 5 = .int .i64 (i : Int) ∧ env 0 = .pointer (some ⟨b, 1, none⟩) ∧ env 1 = .string x ∧ s' = s ∧ ∀ j, j < i → T[j]? ≠ some x) T.length ⟨0, rfl, by omega, rfl, rfl, rfl, rfl, fun j hj => by omega⟩ ?_
  rintro fuel env s' ⟨i, rfl, hi, e5, e0, e1, rfl, hno⟩
  by_cases hlt : (i : Int) < (T.length : Int)
  · have hlt0 : i < T.length := by omega
    have hk : (0 : Int) ≤ (i : Int) ∧ (i : Int) < (T.length : Int) := by omega
    have w7 : IntKind.i64.wrap ((i : Int) + 1) = ((i + 1 : Nat) : Int) := by rw [wrap_i64 (by omega)]; omega
    obtain ⟨bb, cc, eb, h9, hx⟩ := slc_str h7 (k := i) hlt0
    cases eb
    by_cases he : T[i] = x
    · rw [idx_pos hlt0 hno he] at h
      simp -implicitDefEqProofs only [↓Zd, (Zp), if_true, if_false, Nat.reduceEqDiff, reduceCtorEq, Nat.reduceAdd, cld2, (HEx), (REx), e0, e1, e5, h3, h9, hlt, hk, hx, he]
      exact h
    · simp -implicitDefEqProofs only [↓Zd, (Zp), if_true, if_false, ne_eq, Nat.reduceEqDiff, reduceCtorEq, Nat.reduceAdd, cld2, (HEx), (REx), e0, e1, e5, h3, h9, hlt, hk, hx, he, w7]
      exact ⟨T.length - (i + 1), by omega, i + 1, rfl, by omega, rfl, no_more hlt0 hno he⟩
  · rw [idx_end (by omega) hno] at h
    simp -implicitDefEqProofs only [↓Zd, (Zp), if_true, if_false, Nat.reduceEqDiff, reduceCtorEq, Int.reduceNeg, Nat.reduceAdd, cld2, (REx), e0, e5, h3, hlt]
    exact h
set_option maxHeartbeats 4000000 in
theorem rdget_spec {b : Nat} {L : List (ByteArray × V3)} {x : ByteArray} {a e f ns vs : Value} (ho : ROb s b L a e f ns vs) (hf : RFr s b ns vs) (h : ∀ s', s.le s' → R (gotV (getP L x)) s') :
    CCalls Tryz.prog w0 75 #[.pointer (some ⟨b, 1, none⟩), .string x] s R := by
  refine wfun2 hmix ok75 (l := [.pointer (some ⟨b, 1, none⟩), .string x]) func75 rfl ntmps75 results75 (by simp) ?_
  have l1 : s.le (s.new (.cells [.int .i64 0, .int .i64 0, .string ⟨#[]⟩] 30 true)) := St.le_new (St.le_refl _)
  simp -implicitDefEqProofs only [↓Zd, (Zp), if_true, if_false, Nat.reduceEqDiff, reduceCtorEq, Value.cells, (HEx), co111]
  refine rdat_spec (ho.le hf l1) ?_
  cases hi : idxOf (keysP L) x with
  | none =>
    rw [getP_no hi] at h
    unfold gotV at h
    have e1 : atT (keysP L) x = -1 := by unfold atT; rw [hi]
    rw [e1]
    simp -implicitDefEqProofs only [↓Zd, (Zp), if_true, if_false, Nat.reduceEqDiff, Int.reduceNeg, Int.reduceLT, Nat.reduceAdd, Nat.reduceLeDiff, okPart, Value.cells, cut, okCell, cld2, (HEx)]
    exact h _ (by repeat (first | exact St.le_refl _ | assumption | refine St.le_new ?_ | refine St.le_put ?_ (by first | omega | (simp only [St.next_new, St.next_put, St.next_kill]; omega)) | refine St.le_trans ?_ (by assumption)))
  | some j =>
    obtain ⟨⟨k, n, y⟩, hj, hg⟩ := getP_at hi
    rw [hg] at h
    simp only [gotV, vOf, vA] at h
    have e1 : atT (keysP L) x = (j : Int) := by unfold atT; rw [hi]
    rw [e1]
    have hlt := (List.getElem?_eq_some_iff.1 hj).1
    have hk : (0 : Int) ≤ (j : Int) ∧ (j : Int) < (L.length : Int) := by omega
    have hn : ¬ (j : Int) < 0 := by omega
    have h1 := ho.bl
    have hbn : ¬ b = s.next := by have := hf.bn; omega
    rcases ho.vl with ⟨e0, _⟩ | ⟨b2, junk, rfl, hb2, _⟩
    · omega
    have hb2n : ¬ b2 = s.next := by have := (hf.v _ _ _ rfl).1; simp only at this; omega
    obtain ⟨c1, c2⟩ := valsC_cut L j _ _ junk hj
    simp -implicitDefEqProofs only [↓Zd, (Zp), if_true, if_false, Nat.reduceEqDiff, reduceCtorEq, Nat.reduceAdd, Nat.reduceLeDiff, okPart, Value.cells, cut, okCell, cld2, (HEx), (REx), h1, hbn, hn, hk, hb2, hb2n, c1, c2]
    exact h _ (by repeat (first | exact St.le_refl _ | assumption | refine St.le_new ?_ | refine St.le_put ?_ (by first | omega | (simp only [St.next_new, St.next_put, St.next_kill]; omega)) | refine St.le_trans ?_ (by assumption)))
set_option maxHeartbeats 4000000 in
theorem rdkey_spec {b : Nat} {L : List (ByteArray × V3)} {i : Int} {a e f ns vs : Value} (ho : ROb s b L a e f ns vs) (h : R (keyV L i) s) :
    CCalls Tryz.prog w0 103 #[.pointer (some ⟨b, 1, none⟩), .int .i64 i] s R := by
  refine wfun2 hmix ok103 (l := [.pointer (some ⟨b, 1, none⟩), .int .i64 i]) func103 rfl ntmps103 results103 (by simp) ?_
  obtain ⟨h3, h7, h8, h9⟩ := ho
  have hl := keysP_len L
  unfold keyV at h
  obtain ⟨q, cap, rfl⟩ := slc_form h7
  by_cases i1 : i < 0
  · rw [if_neg (by omega)] at h
    simp -implicitDefEqProofs only [↓Zd, (Zp), if_true, if_false, Nat.reduceEqDiff, i1]
    exact h
  · by_cases i2 : ((keysP L).length : Int) ≤ i
    · rw [if_neg (by omega)] at h
      simp -implicitDefEqProofs only [↓Zd, (Zp), if_true, if_false, Nat.reduceEqDiff, reduceCtorEq, Nat.reduceAdd, cld2, (REx), h3, i1, i2]
      exact h
    · rw [if_pos (by omega)] at h
      obtain ⟨j, rfl⟩ : ∃ j : Nat, i = (j : Int) := ⟨i.toNat, by omega⟩
      have hj : (0 : Int) ≤ (j : Int) ∧ (j : Int) < ((keysP L).length : Int) := by omega
      obtain ⟨bb, cc, eb, h9, hx⟩ := slc_str h7 (k := j) (by omega)
      cases eb
      have hx2 : (keysP L)[j]'(by omega) = (L.getD j (⟨#[]⟩, 0, 0, ⟨#[]⟩)).1 := by
        have : j < L.length := by omega
        simp [keysP, this]
      rw [hx2] at hx
      rw [Int.toNat_natCast] at h
      simp -implicitDefEqProofs only [↓Zd, (Zp), if_true, if_false, Nat.reduceEqDiff, reduceCtorEq, Nat.reduceAdd, cld2, (HEx), (REx), h3, h9, i1, i2, hj, hx]
      exact h
end
end Go.Proofs.Tryz
