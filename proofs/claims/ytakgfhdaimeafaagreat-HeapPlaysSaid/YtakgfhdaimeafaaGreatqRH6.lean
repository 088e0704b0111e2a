/- The document's heap: the walk of what takes a property away. A lemma file: no statement of its own. -/
import Derived.Test.YtakgfhdaimeafaaGreatqFwF
import Derived.Test.YtakgfhdaimeafaaGreatqRH5
set_option linter.unusedSimpArgs false
set_option linter.unusedVariables false
set_option linter.unusedSectionVars false
namespace Go.Proofs.Tryz
open Go.Cs
open Go.RowKit (Below)
set_option maxRecDepth 100000
attribute [local irreducible] CCalls WLoop WScope CRound WRange
theorem delP_at : ∀ {L : List (ByteArray × V3)} {x : ByteArray} {j : Nat}, idxOf (keysP L) x = some j → delP L x = L.eraseIdx j := by
  intro L
  induction L with
  | nil => intro x j h; cases h
  | cons p L ih =>
    intro x j h
    obtain ⟨y, w⟩ := p
    have h : (if y = x then some 0 else (idxOf (keysP L) x).map (· + 1)) = some j := h
    unfold delP
    by_cases e : y = x
    · rw [if_pos e] at h
      cases h
      rw [if_pos e]; rfl
    · rw [if_neg e] at h
      rw [if_neg e]
      obtain ⟨k, hk, rfl⟩ := Option.map_eq_some_iff.1 h
      rw [ih hk]; rfl
theorem er_skip {α : Type} {L : List α} {j : Nat} (h : j < L.length) : (L.take (j + 1)).eraseIdx j = (L.take j).eraseIdx j := by
  have e1 : (L.take j).eraseIdx j = L.take j := List.eraseIdx_of_length_le (by rw [List.length_take]; omega)
  rw [e1, List.take_add_one, List.getElem?_eq_getElem h]
  show (L.take j ++ [L[j]]).eraseIdx j = _
  rw [List.eraseIdx_append_of_length_le (by rw [List.length_take]; omega), List.length_take, show j - min j L.length = 0 by omega]; simp
theorem er_more {α : Type} {L : List α} {i j : Nat} {u : α} (h : L[i]? = some u) (hne : i ≠ j) : (L.take (i + 1)).eraseIdx j = (L.take i).eraseIdx j ++ [u] := by
  have hi := (List.getElem?_eq_some_iff.1 h).1
  rw [List.take_add_one, h]
  show (L.take i ++ [u]).eraseIdx j = _
  rcases Nat.lt_or_ge j i with h1 | h1
  · rw [List.eraseIdx_append_of_lt_length (by rw [List.length_take]; omega)]
  · rw [List.eraseIdx_of_length_le (by rw [List.length_append, List.length_take]; simp; omega), List.eraseIdx_of_length_le (by rw [List.length_take]; omega)]
section
variable {M : Type} [Mem M] {w0 : World} {s : St M} {R : Value → St M → Prop}
structure DelI (s s' : St M) (b : Nat) (E : List (ByteArray × V3)) (n6 v7 : Value) : Prop where
  le : s.le s'
  nm : SlC 9 1 s' n6 ((keysP E).map .string) (keysP E).length
  vl : SlU 30 3 s' v7 (valsC E) E.length
  fr : RFr s' b n6 v7
  nn : ∀ q n c, n6 = .slice (some q) n c → s.next ≤ q.block
  nv : ∀ q n c, v7 = .slice (some q) n c → s.next ≤ q.block
set_option maxHeartbeats 8000000 in
theorem rddel_spec {b j : Nat} {L : List (ByteArray × V3)} {x : ByteArray} {a e f ns vs : Value} (ho : ROb s b L a e f ns vs) (hf : RFr s b ns vs) (hj : idxOf (keysP L) x = some j)
    (h : ∀ s' ns' vs', ROb s' b (delP L x) a e f ns' vs' → RFr s' b ns' vs' → Upd s s' (Hang b ns vs) (Hang b ns' vs') → R (.bool true) s') :
    CCalls Tryz.prog w0 77 #[.pointer (some ⟨b, 1, none⟩), .string x] s R := by
  refine wfun2 hmix ok77 (l := [.pointer (some ⟨b, 1, none⟩), .string x]) func77 rfl ntmps77 results77 (by simp) ?_
  rw [delP_at hj] at h
  obtain ⟨w, hjL, _⟩ := getP_at hj
  have hjlt := (List.getElem?_eq_some_iff.1 hjL).1
  have hkl := keysP_len L
  have hfew := ho.few
  simp -implicitDefEqProofs only [↓Zd, (Zp), if_true, if_false, Nat.reduceEqDiff, reduceCtorEq, co111]
  refine rdat_spec ho ?_
  have e1 : atT (keysP L) x = (j : Int) := by unfold atT; rw [hj]
  rw [e1]
  obtain ⟨qn, cn, en⟩ := slc_form ho.nm
  obtain ⟨qv, cv, ev⟩ := ho.vform
  have hbn := hf.bn
  simp -implicitDefEqProofs only [↓Zd, (Zp), if_true, if_false, Nat.reduceEqDiff, (HEx)]
  refine wloop_inv hmix (fun fuel env s' => ∃ (i : Nat) (n6 v7 : Value), fuel = L.length - i ∧ i ≤ L.length ∧ env 8 = .int .i64 (i : Int) ∧ env 5 = .int .i64 (j : Int) ∧ env 0 = .pointer (some ⟨b, 1, none⟩) ∧ env 6 = n6 ∧ env 7 = v7 ∧ DelI s s' b ((L.take i).eraseIdx j) n6 v7) L.length
    ⟨0, .slice none 0 0, .slice none 0 0, rfl, by omega, rfl, rfl, rfl, rfl, rfl, St.le_refl _, .inl ⟨by simp [keysP], by simp [keysP], rfl⟩, .inl ⟨by simp, by simp [valsC], rfl⟩, ⟨hbn, (fun q n c e => by cases e), (fun q n c e => by cases e), (fun q n c q' n' c' e => by cases e)⟩, (fun q n c e => by cases e), (fun q n c e => by cases e)⟩ ?_
  rintro fuel env s1 ⟨i, n6, v7, rfl, hi, e8, e5, e0, e6, e7, hD⟩
  have ho1 := ho.le hf hD.le
  have h1 := ho1.bl
  by_cases hlt : (i : Int) < ((keysP L).length : Int)
  case neg =>
    have hil : i = L.length := by omega
    rw [hil, List.take_length] at hD
    rw [en] at h1
    have hj0 : (0 : Int) ≤ (j : Int) := by omega
    have hb1 := hD.fr.bn
    obtain ⟨q6, c6, rfl⟩ := slc_form hD.nm
    obtain ⟨q7, c7, rfl⟩ : ∃ q c, v7 = .slice q (L.eraseIdx j).length c := by
      rcases hD.vl.form with ⟨e0, rfl⟩ | ⟨b2, rfl⟩
      · exact ⟨none, 0, by rw [e0]⟩
      · exact ⟨_, _, rfl⟩
    simp -implicitDefEqProofs only [↓Zd, (Zp), if_true, if_false, Nat.reduceEqDiff, reduceCtorEq, Nat.reduceAdd, Nat.reduceLeDiff, okPart, Value.cells, okCell, cld2, (HEx), (REx), e8, e5, e0, e6, e7, h1, hlt, hj0]
    refine h _ _ _ ⟨?_, hD.nm.same fun q m c e => ?_, hD.vl.same fun q m c e => ?_, ?_⟩ (hD.fr.le ?_) ⟨?_, fun c hc ho => ?_, fun c hc => ?_⟩
    · rw [St.at_put, if_pos rfl]
    · rw [St.at_put, if_neg (hD.fr.n q m c e).2, St.at_put, if_neg (hD.fr.n q m c e).2]
    · rw [St.at_put, if_neg (hD.fr.v q m c e).2, St.at_put, if_neg (hD.fr.v q m c e).2]
    · have := List.length_eraseIdx_le L j; omega
    · simp only [St.next_put]; omega
    · have := hD.le.1; simp only [St.next_put]; omega
    · have hcb : ¬ c = b := fun e => ho (.inl e)
      rw [St.at_put, if_neg hcb, St.at_put, if_neg hcb]
      exact hD.le.2 c hc
    · rcases hc with rfl | ⟨q, m, k, e, rfl⟩ | ⟨q, m, k, e, rfl⟩
      · exact .inl (.inl rfl)
      · exact .inr (hD.nn _ _ _ e)
      · exact .inr (hD.nv _ _ _ e)
  have hlt0 : i < (keysP L).length := by omega
  have hiL : i < L.length := by omega
  have w8 : IntKind.i64.wrap ((i : Int) + 1) = ((i + 1 : Nat) : Int) := by rw [wrap_i64 (by omega)]; omega
  by_cases hij : (i : Int) = (j : Int)
  · have hij' : i = j := by omega
    subst hij'
    rw [en] at h1
    simp -implicitDefEqProofs only [↓Zd, (Zp), if_true, if_false, Nat.reduceEqDiff, reduceCtorEq, Nat.reduceAdd, cld2, (REx), e8, e5, e0, e6, e7, h1, hlt, w8]
    exact ⟨L.length - (i + 1), by omega, i + 1, n6, v7, rfl, by omega, rfl, rfl, rfl, by rw [er_skip hiL]; exact hD⟩
  · obtain ⟨u, hu⟩ : ∃ u, L[i]? = some u := ⟨L[i], by simp [hiL]⟩
    obtain ⟨z, k, n, y⟩ := u
    have her := er_more hu (show i ≠ j by omega)
    have hel : ((L.take i).eraseIdx j).length ≤ i := by have := List.length_eraseIdx_le (L.take i) j; rw [List.length_take] at this; omega
    generalize (L.take i).eraseIdx j = E at *
    have hkE := keysP_len E
    obtain ⟨bn, cn', eb, hbnm, hx⟩ := slc_str ho1.nm (k := i) hlt0
    have hz : (keysP L)[i] = z := by
      have h2 : (keysP L)[i]? = some z := by unfold keysP; rw [List.getElem?_map, hu]; rfl
      rw [List.getElem?_eq_getElem hlt0] at h2
      exact Option.some.inj h2
    rw [hz] at hx
    rcases ho1.vl with ⟨e9, _⟩ | ⟨bv, junk, ev2, hbv, hvl⟩
    · omega
    subst eb
    subst ev2
    obtain ⟨c1, c2⟩ := valsC_cut L i _ _ junk hu
    have hk : (0 : Int) ≤ (i : Int) ∧ (i : Int) < ((keysP L).length : Int) := by omega
    have hk2 : (0 : Int) ≤ (i : Int) ∧ (i : Int) < (L.length : Int) := by omega
    have hs1 := hD.le.1
    have hbn1 := (hf.n _ _ _ rfl).1
    have hbv1 := (hf.v _ _ _ rfl).1
    simp only at hbn1 hbv1
    obtain ⟨s3, happ, hn3, hat3, hk3⟩ := app_str (x := z) (by omega) hD.nm (fun q n c e => (hD.fr.n q n c e).1)
    have hold3 : ∀ c, c < s.next → s3.at' c = s1.at' c := fun c hc => hk3 c (by omega) (fun q m k e e2 => by have := hD.nn _ _ _ e; omega)
    have h13 := (hold3 b hbn).trans h1
    have hbv3 := (hold3 bv hbv1).trans hbv
    have hvl3 : SlU 30 3 s3 v7 (valsC E) E.length := hD.vl.same fun q m c e => hk3 _ (hD.fr.v q m c e).1 (fun q' m' c' e' e2 => hD.fr.nv _ _ _ _ _ _ e' e e2.symm)
    simp -implicitDefEqProofs only [↓Zd, (Zp), if_true, if_false, Nat.reduceEqDiff, reduceCtorEq, Nat.reduceAdd, cut, cld2, (HEx), (REx), e8, e5, e0, e6, e7, h1, hlt, hk, hk2, hij, hbnm, hx, rowStr, happ, h13, hbv3, c1, c2, rowVal]
    refine wch_app_val (by omega) hvl3 (fun q m c e => by have := (hD.fr.v q m c e).1; omega) fun s5 hn5 hat5 hk5 => ?_
    have hold5 : ∀ c, c < s.next → s5.at' c = s1.at' c := fun c hc => by
      rw [hk5 c (by omega) (fun q m k e e2 => by have := hD.nv _ _ _ e; omega), hold3 c hc]
    have hns5 : s5.at' (s1.next + 1) = some (.cells (List.map Value.string (keysP E ++ [z])) 9 true) := by
      rw [hk5 _ (by omega) (fun q m c e e2 => by have := (hD.fr.v q m c e).1; omega), hat3]
    simp -implicitDefEqProofs only [↓Zd, (Zp), if_true, if_false, Nat.reduceEqDiff, reduceCtorEq, e8, e5, e0, e6, e7, w8]
    have hke : keysP (E ++ [(z, k, n, y)]) = keysP E ++ [z] := by simp [keysP]
    refine ⟨L.length - (i + 1), by omega, i + 1, _, _, rfl, by omega, rfl, rfl, rfl, ?_⟩
    rw [her]
    refine ⟨⟨by omega, fun c hc => by rw [hold5 c hc]; exact hD.le.2 c hc⟩, ?_, ?_, ⟨?_, fun q m c e => ?_, fun q m c e => ?_, fun q m c q' m' c' e e' => ?_⟩, fun q m c e => ?_, fun q m c e => ?_⟩
    · rw [hke]
      exact .inr ⟨s1.next + 1, UNK, by simp, .inl rfl, hns5, by simp⟩
    · rw [List.length_append]
      refine .inr ⟨s3.next + 1, [], rfl, ?_, by rw [valsC_len]; simp⟩
      rw [hat5, valsC_app, List.append_nil]
      rfl
    · omega
    · cases e
      exact ⟨by show s1.next + 1 < s5.next; omega, by show s1.next + 1 ≠ b; omega⟩
    · cases e
      exact ⟨by show s3.next + 1 < s5.next; omega, by show s3.next + 1 ≠ b; omega⟩
    · cases e
      cases e'
      show s1.next + 1 ≠ s3.next + 1
      omega
    · cases e
      show s.next ≤ s1.next + 1
      omega
    · cases e
      show s.next ≤ s3.next + 1
      omega
end
end Go.Proofs.Tryz
