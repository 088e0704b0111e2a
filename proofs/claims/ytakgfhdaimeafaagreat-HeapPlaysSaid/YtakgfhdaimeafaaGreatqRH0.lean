/- The document's forests: where they lie, and the walks of what asks them and makes shapes. A lemma file: no statement of its own. -/
import Derived.Test.YtakgfhdaimeafaaGreatqFwF
import Derived.Test.YtakgfhdaimeafaaGreatqHPN
import Derived.Test.YtakgfhdaimeafaaGreatqRN0
set_option linter.unusedSimpArgs false
set_option linter.unusedVariables false
set_option linter.unusedSectionVars false
namespace Go.Proofs.Tryz
open Go.Cs
open Go.RowKit (Below)
set_option maxRecDepth 100000
attribute [local irreducible] CCalls WLoop WScope CRound WRange
section
variable {M : Type} [Mem M] {w0 : World} {s : St M} {R : Value → St M → Prop}
def SlI (s : St M) (v : Value) (l : List Nat) : Prop := SlU 3 1 s v (ints l) l.length
theorem SlI.form {v : Value} {l : List Nat} (h : SlI s v l) : ∃ a c, v = .slice a l.length c := by
  rcases h with ⟨e, _, rfl⟩ | ⟨b, _, rfl, _⟩
  · exact ⟨none, 0, by rw [e]⟩
  · exact ⟨_, _, rfl⟩
theorem SlI.get {v : Value} {l : List Nat} (h : SlI s v l) {k : Nat} (hk : k < l.length) : ∃ b vs own, v = .slice (some ⟨b, 0, none⟩) l.length UNK ∧ s.at' b = some (.cells vs 3 own) ∧ vs[k]? = some (.int .i64 ((l[k] : Nat) : Int)) := by
  rcases h with ⟨e, _, rfl⟩ | ⟨b, junk, rfl, hb, _⟩
  · omega
  · exact ⟨b, _, _, rfl, hb, ints_get junk hk⟩
set_option maxHeartbeats 4000000 in
theorem rsame_spec {va vb : Value} {a b : List Nat} (ha : SlI s va a) (hb : SlI s vb b) (hla : a.length ≤ 1000000) (hlb : b.length ≤ 1000000) (hR : R (.bool (decide (a = b))) s) : CCalls Tryz.prog w0 112 #[va, vb] s R := by
  refine wfun2 hmix ok112 (l := [va, vb]) func112 rfl ntmps112 results112 (by simp) ?_
  obtain ⟨a1, ac, rfl⟩ := ha.form
  obtain ⟨b1, bc, rfl⟩ := hb.form
  by_cases hl : (a.length : Int) = (b.length : Int)
  case neg =>
    have : decide (a = b) = false := by
      simp only [decide_eq_false_iff_not]
      intro e; rw [e] at hl; exact hl rfl
    rw [this] at hR
    simp -implicitDefEqProofs only [↓Zd, (Zp), if_true, if_false, Nat.reduceEqDiff, reduceCtorEq, (REx), hl]
    exact hR
  simp -implicitDefEqProofs only [↓Zd, (Zp), if_true, if_false, Nat.reduceEqDiff, reduceCtorEq, (REx), hl]
  refine wloop_inv hmix (fun fuel env s1 => ∃ k : Nat, fuel = a.length - k ∧ k ≤ a.length ∧ env 5 = .int .i64 (k : Int) ∧ env 0 = .slice a1 a.length ac ∧ env 1 = .slice b1 b.length bc ∧ s1 = s ∧ a.take k = b.take k) a.length ⟨0, rfl, by omega, rfl, rfl, rfl, rfl, rfl⟩ ?_
  rintro fuel env s1 ⟨k, rfl, hk, e5, e0, e1, rfl, hpre⟩
  by_cases hkl : (k : Int) < (a.length : Int)
  case neg =>
    have hk1 : k = a.length := by omega
    have : decide (a = b) = true := by
      rw [decide_eq_true_eq]
      rw [hk1, List.take_length, show a.length = b.length by omega, List.take_length] at hpre
      exact hpre
    rw [this] at hR
    simp -implicitDefEqProofs only [↓Zd, (Zp), if_true, if_false, Nat.reduceEqDiff, reduceCtorEq, (REx), e5, e0, hkl]
    exact hR
  obtain ⟨ba, vsa, oa, ea, hba, hga⟩ := ha.get (k := k) (by omega)
  obtain ⟨bb, vsb, ob, eb, hbb, hgb⟩ := hb.get (k := k) (by omega)
  cases ea
  cases eb
  have hk1 : (0 : Int) ≤ (k : Int) ∧ (k : Int) < (a.length : Int) := by omega
  have hk2 : (0 : Int) ≤ (k : Int) ∧ (k : Int) < (b.length : Int) := by omega
  have w1 : IntKind.i64.wrap ((k : Int) + 1) = ((k + 1 : Nat) : Int) := by rw [wrap_i64 (by omega)]; omega
  have hka : a[k]? = some a[k] := List.getElem?_eq_getElem _
  have hkb : b[k]? = some (b[k]'(by omega)) := List.getElem?_eq_getElem _
  by_cases he : ((a[k] : Nat) : Int) = ((b[k]'(by omega) : Nat) : Int)
  case neg =>
    have : decide (a = b) = false := by
      simp only [decide_eq_false_iff_not]
      intro e
      subst e
      exact he rfl
    rw [this] at hR
    simp -implicitDefEqProofs only [↓Zd, (Zp), if_true, if_false, Nat.reduceEqDiff, reduceCtorEq, cld2, (HEx), (REx), e5, e0, e1, hkl, hk1, hk2, hba, hbb, hga, hgb, he, ord112]
    exact hR
  simp -implicitDefEqProofs only [↓Zd, (Zp), if_true, if_false, Nat.reduceEqDiff, reduceCtorEq, cld2, (HEx), (REx), e5, e0, e1, hkl, hk1, hk2, hba, hbb, hga, hgb, he, w1, ord112]
  refine ⟨a.length - (k + 1), by omega, k + 1, rfl, by omega, rfl, ?_⟩
  rw [List.take_add_one, List.take_add_one, hka, hkb, hpre]
  have : a[k] = b[k]'(by omega) := by omega
  rw [this]
def rshC (F : List Sh) (nm : Nat → Value) (i : Nat) : List Value := [.int .i64 (((F.getD i (0, [])).1 : Nat) : Int), nm i]
theorem rshC_len (F : List Sh) (nm : Nat → Value) (i : Nat) : (rshC F nm i).length = 2 := rfl
theorem rshC_at {F : List Sh} {nm : Nat → Value} {i : Nat} {t : Sh} (h : F[i]? = some t) : rshC F nm i = [.int .i64 ((t.1 : Nat) : Int), nm i] := by
  unfold rshC
  rw [List.getD_eq_getElem?_getD, h]; rfl
structure RFAt (lo : Nat) (s : St M) (p : Nat) (F : List Sh) (most : Nat) (O : Nat → Prop) : Prop where
  own : ∀ b, O b → lo ≤ b ∧ b < s.next
  pin : O p
  ok : FOk F
  le : F.length ≤ most ∧ most ≤ 150
  bl : ∃ sl nm, s.at' p = some (.cells [sl, .int .i64 (most : Int)] 137 true) ∧ SlU 159 2 s sl (rows (rshC F nm) F.length) F.length ∧ (∀ q n c, sl = .slice (some q) n c → O q.block ∧ q.block ≠ p) ∧
    ∀ (i : Nat) (t : Sh), F[i]? = some t → SlI s (nm i) t.2.reverse ∧ ∀ q n c, nm i = .slice (some q) n c → O q.block ∧ q.block ≠ p ∧ ∀ q' n' c', sl = .slice (some q') n' c' → q.block ≠ q'.block
theorem RFAt.same {lo : Nat} {s s' : St M} {p : Nat} {F : List Sh} {most : Nat} {O : Nat → Prop} (h : RFAt lo s p F most O) (hn : s.next ≤ s'.next) (hs : ∀ b, O b → s'.at' b = s.at' b) : RFAt lo s' p F most O := by
  obtain ⟨h1, h2, h3, h4, sl, nm, h5, h6, h7, h8⟩ := h
  exact ⟨fun b hb => ⟨(h1 b hb).1, by have := (h1 b hb).2; omega⟩, h2, h3, h4, sl, nm, by rw [hs _ h2]; exact h5, h6.same fun q n c e => hs _ (h7 q n c e).1, h7, fun i t ht => ⟨(h8 i t ht).1.same fun q n c e => hs _ ((h8 i t ht).2 q n c e).1, (h8 i t ht).2⟩⟩
theorem RFAt.le' {lo : Nat} {s s' : St M} {p : Nat} {F : List Sh} {most : Nat} {O : Nat → Prop} (h : RFAt lo s p F most O) (hs : s.le s') : RFAt lo s' p F most O := h.same hs.1 fun b hb => hs.2 b (h.own b hb).2
theorem RFAt.low {lo lo' : Nat} {s : St M} {p : Nat} {F : List Sh} {most : Nat} {O : Nat → Prop} (h : RFAt lo s p F most O) (hl : lo' ≤ lo) : RFAt lo' s p F most O :=
  ⟨fun b hb => ⟨by have := (h.own b hb).1; omega, (h.own b hb).2⟩, h.pin, h.ok, h.le, h.bl⟩
def NmOf (s : St M) (p i : Nat) (v : Value) : Prop := ∃ sl m b vs own n c, s.at' p = some (.cells [sl, m] 137 true) ∧ sl = .slice (some ⟨b, 0, none⟩) n c ∧ s.at' b = some (.cells vs 159 own) ∧ vs[i * 2 + 1]? = some v
theorem RFAt.nm {lo p i : Nat} {F : List Sh} {most : Nat} {O : Nat → Prop} {v : Value} {t : Sh} (hF : RFAt lo s p F most O) (ht : F[i]? = some t) (hv : NmOf s p i v) : SlI s v t.2.reverse ∧ ∀ q n c, v = .slice (some q) n c → O q.block := by
  obtain ⟨h1, h2, h3, h4, sl, nm, h5, h6, h7, h8⟩ := hF
  obtain ⟨sl', m, b, vs, own, n, c, g1, g2, g3, g4⟩ := hv
  rw [h5] at g1
  cases g1
  have hi := (List.getElem?_eq_some_iff.1 ht).1
  rcases h6 with ⟨e, _⟩ | ⟨b', junk, e, hb, hlb⟩
  · omega
  rw [e] at g2
  cases g2
  rw [hb] at g3
  cases g3
  have f1 := rows_get (rshC_len F nm) (n := F.length) junk hi (show 1 < 2 by omega)
  rw [rshC_at ht] at f1
  rw [f1] at g4
  cases g4
  exact ⟨(h8 i t ht).1, fun q n c e => ((h8 i t ht).2 q n c e).1⟩
theorem NmOf.same {lo p i : Nat} {s' : St M} {F : List Sh} {most : Nat} {O : Nat → Prop} {v : Value} (h : NmOf s p i v) (hF : RFAt lo s p F most O) (hs : ∀ b, O b → s'.at' b = s.at' b) : NmOf s' p i v := by
  obtain ⟨h1, h2, h3, h4, sl, nm, h5, h6, h7, h8⟩ := hF
  obtain ⟨sl', m, b, vs, own, n, c, g1, g2, g3, g4⟩ := h
  rw [h5] at g1
  cases g1
  have hb := (h7 ⟨b, 0, none⟩ n c g2).1
  exact ⟨_, _, b, vs, own, n, c, (hs p h2).trans h5, g2, (hs b hb).trans g3, g4⟩
theorem rfhas_spec {lo p : Nat} {F : List Sh} {most : Nat} {O : Nat → Prop} {i : Int} (hF : RFAt lo s p F most O) (hR : R (.bool (shAt F i).isSome) s) : CCalls Tryz.prog w0 86 #[.pointer (some ⟨p, 0, none⟩), .int .i64 i] s R := by
  refine wfun2 hmix ok86 (l := [.pointer (some ⟨p, 0, none⟩), .int .i64 i]) func86 rfl ntmps86 results86 (by simp) ?_
  obtain ⟨h1, h2, h3, h4, sl, nm, h5, h6, h7, h8⟩ := hF
  obtain ⟨a, c, rfl⟩ : ∃ a c, sl = .slice a F.length c := by
    rcases h6.form with ⟨e0, rfl⟩ | ⟨b, rfl⟩
    · exact ⟨none, 0, by rw [e0]⟩
    · exact ⟨_, _, rfl⟩
  by_cases i1 : 1 ≤ i
  · by_cases i2 : i ≤ (F.length : Int)
    · have : (shAt F i).isSome = true := by
        unfold shAt; rw [if_pos i1, List.getElem?_eq_getElem (by omega)]; rfl
      rw [this] at hR
      simp -implicitDefEqProofs only [↓Zd, (Zp), if_true, if_false, Nat.reduceEqDiff, reduceCtorEq, cld2, (REx), h5, i1, i2]
      exact hR
    · have : (shAt F i).isSome = false := by rw [shAt_out (by omega)]; rfl
      rw [this] at hR
      simp -implicitDefEqProofs only [↓Zd, (Zp), if_true, if_false, Nat.reduceEqDiff, reduceCtorEq, cld2, (REx), h5, i1, i2]
      exact hR
  · have : (shAt F i).isSome = false := by rw [shAt_out (by omega)]; rfl
    rw [this] at hR
    simp -implicitDefEqProofs only [↓Zd, (Zp), if_true, if_false, Nat.reduceEqDiff, i1]
    exact hR
theorem rowShape (q : Nat) (v : Value) (a : Option Addr) (n c : Nat) : crow Tryz.prog 135 1 #[(0, .agg #[.int .i64 (q : Int), .slice a n c])] = some (.cells [.int .i64 (q : Int), .slice a n c] 159 true) := by kernel_rfl
theorem infoShape : ∃ ie, Tryz.prog.info? 159 = some ie ∧ ie.size = 2 ∧ 0 < ie.bytes ∧ ie.bytes ≤ 100 := by
  obtain ⟨ie, h⟩ := Option.isSome_iff_exists.1 is159
  have h1 := ce159
  have h2 : decide (0 < Tryz.prog.bytesOf 159 ∧ Tryz.prog.bytesOf 159 ≤ 100) = true := by kernel_rfl
  rw [cellsOf_info h] at h1
  simp only [Program.bytesOf, h, decide_eq_true_eq] at h2
  exact ⟨ie, h, h1, h2.1, h2.2⟩
theorem wch_app_shape {s : St M} {sl : Value} {cs : List Value} {k q : Nat} {a : Option Addr} {n c : Nat} {K : Value → St M → Prop} (hlen : k ≤ 1000000) (hsl : SlU 159 2 s sl cs k) (hfr : ∀ q m c, sl = .slice (some q) m c → q.block < s.next)
    (h : ∀ s', s'.next = s.next + 2 → s'.at' (s.next + 1) = some (.cells (cs ++ [.int .i64 (q : Int), .slice a n c]) 159 true) → (∀ b, b < s.next → (∀ q n c, sl = .slice (some q) n c → b ≠ q.block) → s'.at' b = s.at' b) → K (.slice (some ⟨s.next + 1, 0, none⟩) (k + 1) UNK) s') :
    wch (capp Tryz.prog #[135, 135] #[sl, .slice (some ⟨s.next, 0, none⟩) 1 1] (s.new (.cells [.int .i64 (q : Int), .slice a n c] 159 true))) K := by
  obtain ⟨ie, hie, h1, h2, h3⟩ := infoShape
  have hcapp : capp Tryz.prog #[135, 135] #[sl, .slice (some ⟨s.next, 0, none⟩) 1 1] (s.new (.cells [.int .i64 (q : Int), .slice a n c] 159 true)) = capp3 Tryz.prog 159 ie sl (s.new (.cells [.int .i64 (q : Int), .slice a n c] 159 true)) (cmore ie.size (.slice (some ⟨s.next, 0, none⟩) 1 1) (s.new (.cells [.int .i64 (q : Int), .slice a n c] 159 true))) :=
    app_eq underlying135 underlying135 hie
  have hv : cmore ie.size (.slice (some ⟨s.next, 0, none⟩) 1 1) (s.new (.cells [.int .i64 (q : Int), .slice a n c] 159 true)) = some (1, [.int .i64 (q : Int), .slice a n c]) := by
    simp only [more_at, St.at_new, if_true, more2, h1]; rfl
  obtain ⟨s', h3, h4, h5, h6⟩ := app_rowU (n := k) (k := 1) hie ze159 (by rw [h1]; rfl) h2 hcapp (by omega) (by
    have : (k + 1) * ie.bytes ≤ 1000001 * 100 := Nat.mul_le_mul (by omega) h3
    omega) rfl hv (by rw [h1]; exact hsl.same fun q m c e => by rw [St.at_new, if_neg (by have := hfr q m c e; omega)])
  refine ⟨_, s', h3, h s' (by simp at h4; omega) h5 fun b hb hq => ?_⟩
  rw [h6 b (by simp; omega) hq, St.at_new, if_neg (by omega)]
theorem growF_out {F : List Sh} {most : Nat} {t : Sh} (h : t ∉ F) (hm : ¬ F.length < most) : growF F most t = F ∧ growN F most t = 0 := by
  unfold growF growN
  rw [if_neg h, if_neg h, if_neg hm, if_neg hm]; exact ⟨rfl, rfl⟩
theorem growF_new {F : List Sh} {most : Nat} {t : Sh} (h : t ∉ F) (hm : F.length < most) : growF F most t = F ++ [t] ∧ growN F most t = F.length + 1 := by
  unfold growF growN
  rw [if_neg h, if_neg h, if_pos hm, if_pos hm]; exact ⟨rfl, rfl⟩
theorem growF_old {F : List Sh} {most : Nat} (hF : FOk F) {t : Sh} {k : Nat} (h : F[k]? = some t) : growF F most t = F ∧ growN F most t = k + 1 := by
  have hm := List.mem_of_getElem? h
  have := hF.is h
  unfold shIs at this
  rw [if_pos hm] at this
  unfold growF growN
  rw [if_pos hm, if_pos hm]
  exact ⟨rfl, Option.some.inj this⟩
set_option maxHeartbeats 8000000 in
theorem rof_spec {lo p q : Nat} {l : List Nat} {F : List Sh} {most : Nat} {O : Nat → Prop} {v : Value} (hF : RFAt lo s p F most O) (hlo : lo ≤ s.next) (hv : SlI s v l.reverse) (hvO : ∀ q n c, v = .slice (some q) n c → lo ≤ q.block ∧ q.block < s.next ∧ ¬ O q.block) (hnd : l.Nodup) (hl12 : l.length ≤ 12) (hup : ∀ x r, l = x :: r → (q, r) ∈ F)
    (hR : ∀ s' O', RFAt lo s' p (growF F most (q, l)) most O' → s.next ≤ s'.next → (∀ b, b < s.next → ¬ O b → s'.at' b = s.at' b) → (∀ b, O' b → O b ∨ s.next ≤ b ∨ ∃ q n c, v = .slice (some q) n c ∧ b = q.block) → (∀ i v, i < F.length → NmOf s p i v → NmOf s' p i v) → R (.int .i64 (growN F most (q, l) : Int)) s') :
    CCalls Tryz.prog w0 110 #[.pointer (some ⟨p, 0, none⟩), .agg #[.int .i64 (q : Int), v]] s R := by
  obtain ⟨va, vc, rfl⟩ := hv.form
  refine wfun2 hmix ok110 (l := [.pointer (some ⟨p, 0, none⟩), .agg #[.int .i64 (q : Int), .slice va l.reverse.length vc]]) func110 rfl ntmps110 results110 (by simp) ?_
  have hF0 := hF
  obtain ⟨h1, h2, h3, h4, sl, nm, h5, h6, h7, h8⟩ := hF
  have hpn := (h1 p h2).2
  have hpne : ¬ p = s.next := by omega
  have l1 : s.le (s.new (.cells [.int .i64 (q : Int), .slice va l.reverse.length vc] 159 true)) := St.le_new (St.le_refl _)
  have hF1 := hF0.le' l1
  obtain ⟨sa, sc, rfl⟩ : ∃ a c, sl = .slice a F.length c := by
    rcases h6.form with ⟨e0, rfl⟩ | ⟨b, rfl⟩
    · exact ⟨none, 0, by rw [e0]⟩
    · exact ⟨_, _, rfl⟩
  simp -implicitDefEqProofs only [↓Zd, (Zp), if_true, okPart, Value.cells, (REx)]
  refine wloop_inv hmix (fun fuel env s1 => ∃ k : Nat, fuel = F.length - k ∧ k ≤ F.length ∧ env 5 = .int .i64 (k : Int) ∧ env 0 = .pointer (some ⟨p, 0, none⟩) ∧ env 3 = .pointer (some ⟨s.next, 0, none⟩) ∧ s1 = s.new (.cells [.int .i64 (q : Int), .slice va l.reverse.length vc] 159 true) ∧ ∀ i, i < k → F[i]? ≠ some (q, l)) F.length ⟨0, rfl, by omega, rfl, rfl, rfl, rfl, fun i hi => by omega⟩ ?_
  rintro fuel env s1 ⟨k, rfl, hk, e5, e0, e3, rfl, hno⟩
  by_cases hkl : (k : Int) < (F.length : Int)
  case pos =>
    have hkF : k < F.length := by omega
    obtain ⟨t, ht⟩ : ∃ t, F[k]? = some t := ⟨F[k], by simp [hkF]⟩
    obtain ⟨g1, g2⟩ := h8 k t ht
    rcases h6 with ⟨e, _⟩ | ⟨b, junk, e, hb, hlb⟩
    · omega
    cases e
    have hbn := (h1 _ (h7 _ _ _ rfl).1).2
    simp only at hbn
    have hbne : ¬ b = s.next := by omega
    have f0 := rows_get (rshC_len F nm) (n := F.length) junk hkF (show 0 < 2 by omega)
    have f1 := rows_get (rshC_len F nm) (n := F.length) junk hkF (show 1 < 2 by omega)
    rw [rshC_at ht] at f0 f1
    have hkk : (0 : Int) ≤ (k : Int) ∧ (k : Int) < (F.length : Int) := by omega
    have w1 : IntKind.i64.wrap ((k : Int) + 1) = ((k + 1 : Nat) : Int) := by rw [wrap_i64 (by omega)]; omega
    obtain ⟨na, nc, hnm⟩ := g1.form
    by_cases hq : ((t.1 : Nat) : Int) = (q : Int)
    case neg =>
      simp -implicitDefEqProofs only [↓Zd, (Zp), if_true, if_false, ne_eq, Nat.reduceEqDiff, reduceCtorEq, cld2, (HEx), (REx), e5, e0, e3, h5, hpne, hkl, hkk, hb, hbne, f0, hq, w1, ord110]
      refine ⟨F.length - (k + 1), by omega, k + 1, rfl, by omega, rfl, fun i hi => ?_⟩
      by_cases e : i = k
      · subst e
        rw [ht]
        intro e2
        cases e2
        exact hq rfl
      · exact hno i (by omega)
    rw [hnm] at f1
    simp -implicitDefEqProofs only [↓Zd, (Zp), if_true, if_false, ne_eq, Nat.reduceEqDiff, reduceCtorEq, cld2, (HEx), (REx), e5, e0, e3, h5, hpne, hkl, hkk, hb, hbne, f0, f1, hq, ord110, co112]
    have hl1 : t.2.reverse.length ≤ 1000000 := by have := (h3.names k t.1 t.2 ht).2; simp; omega
    refine rsame_spec (a := t.2.reverse) (b := l.reverse) (by rw [← hnm]; exact g1.same fun q n c e => by have := (h1 _ (g2 q n c e).1).2; rw [St.at_new, if_neg (by omega)]) (hv.same fun q n c e => by have := (hvO q n c e).2.1; rw [St.at_new, if_neg (by omega)]) hl1 (by simp; omega) ?_
    by_cases hll : t.2.reverse = l.reverse
    case pos =>
      have hte : t = (q, l) := by
        obtain ⟨t1, t2⟩ := t
        simp only at hll hq
        rw [List.reverse_inj.1 hll, show t1 = q by omega]
      subst hte
      obtain ⟨gF, gN⟩ := growF_old (most := most) h3 ht
      rw [gF, gN] at hR
      rw [hll]
      simp -implicitDefEqProofs only [↓Zd, (Zp), if_true, if_false, Nat.reduceEqDiff, (HEx), e5, w1]
      exact hR _ O hF1 l1.1 (fun b hb _ => l1.2 b hb) (fun b hb => .inl hb) (fun i v _ h => h.same hF0 fun b hb => l1.2 b (hF0.own b hb).2)
    have hdf : decide (t.2.reverse = l.reverse) = false := by simpa using hll
    rw [hdf]
    simp -implicitDefEqProofs only [↓Zd, (Zp), if_true, if_false, Nat.reduceEqDiff, reduceCtorEq, (HEx), e5, e0, e3, w1]
    refine ⟨F.length - (k + 1), by omega, k + 1, rfl, by omega, rfl, fun i hi => ?_⟩
    by_cases e : i = k
    · subst e
      rw [ht]
      intro e2
      cases e2
      exact hll rfl
    · exact hno i (by omega)
  have hnm : (q, l) ∉ F := fun hm => by
    obtain ⟨i, hi⟩ := List.getElem?_of_mem hm
    exact hno i (by have := (List.getElem?_eq_some_iff.1 hi).1; omega) hi
  by_cases hmx : (most : Int) ≤ (F.length : Int)
  case pos =>
    obtain ⟨gF, gN⟩ := growF_out (most := most) hnm (by omega)
    rw [gF, gN] at hR
    simp -implicitDefEqProofs only [↓Zd, (Zp), if_true, if_false, Nat.reduceEqDiff, reduceCtorEq, cld2, (HEx), (REx), e5, e0, h5, hpne, hkl, hmx, ord110]
    exact hR _ O hF1 l1.1 (fun b hb _ => l1.2 b hb) (fun b hb => .inl hb) (fun i v _ h => h.same hF0 fun b hb => l1.2 b (hF0.own b hb).2)
  obtain ⟨gF, gN⟩ := growF_new (most := most) hnm (by omega)
  rw [gF, gN] at hR
  simp -implicitDefEqProofs only [↓Zd, (Zp), if_true, if_false, Nat.reduceEqDiff, reduceCtorEq, Nat.reduceAdd, Nat.reduceLeDiff, cut, cld2, (HEx), (REx), e5, e0, e3, h5, hpne, hkl, hmx, rowShape q (.bool true) va l.reverse.length vc, ord110]
  refine wch_app_shape (by omega) (h6.same fun q n c e => by have := (h1 _ (h7 q n c e).1).2; rw [St.at_new, if_neg (by omega)]) (fun q n c e => by have := (h1 _ (h7 q n c e).1).2; simp only [St.next_new]; omega) fun s5 hn5 hb5 hk5 => ?_
  simp only [St.next_new] at hn5 hb5 hk5
  have hp5 : s5.at' p = some (.cells [.slice sa F.length sc, .int .i64 (most : Int)] 137 true) := by
    rw [hk5 p (by omega) (fun q n c e e2 => (h7 q n c e).2 e2.symm), St.at_new, if_neg hpne]; exact h5
  simp -implicitDefEqProofs only [↓Zd, (Zp), if_true, if_false, Nat.reduceEqDiff, reduceCtorEq, Nat.reduceAdd, Nat.reduceLeDiff, Nat.reduceBEq, okPart, Value.cells, okCell, cld2, (REx), e0, hp5]
  have hrow : rows (rshC (F ++ [(q, l)]) (fun i => if i = F.length then .slice va l.reverse.length vc else nm i)) (F.length + 1) = rows (rshC F nm) F.length ++ [.int .i64 (q : Int), .slice va l.reverse.length vc] := by
    rw [rows_succ]
    congr 1
    · apply rows_congr
      intro i hi
      have e : F[i]? = some F[i] := List.getElem?_eq_getElem hi
      rw [rshC_at e, rshC_at (t := F[i]) (by rw [List.getElem?_append_left hi, e]), if_neg (by omega)]
    · rw [rshC_at (t := (q, l)) (by simp), if_pos rfl]
  have hin : (F ++ [(q, l)]).length = F.length + 1 := by simp
  refine hR _ (fun b => O b ∨ b = s.next + 2 ∨ ∃ q n c, Value.slice va l.reverse.length vc = .slice (some q) n c ∧ b = q.block) ⟨?_, .inl h2, h3.app hnm hnd hl12 hup, ⟨by rw [hin]; omega, h4.2⟩, .slice (some ⟨s.next + 2, 0, none⟩) (F.length + 1) UNK, (fun i => if i = F.length then .slice va l.reverse.length vc else nm i), ?_, ?_, ?_, ?_⟩ (by simp only [St.next_put]; omega) ?_ ?_ ?_
  · rintro b (hb | rfl | ⟨q0, n0, c0, e, rfl⟩)
    · have := h1 b hb; simp only [St.next_put]; omega
    · simp only [St.next_put]; omega
    · have := hvO q0 n0 c0 e; simp only [St.next_put]; omega
  · rw [St.at_put, if_pos rfl]
  · rw [hin]
    exact .inr ⟨s.next + 2, [], rfl, by rw [St.at_put, if_neg (by omega), hrow, List.append_nil]; exact hb5, rows_len (rshC_len _ _) _⟩
  · intro q0 n0 c0 e
    cases e
    exact ⟨.inr (.inl rfl), by show s.next + 2 ≠ p; omega⟩
  · intro i t ht
    have hold : ∀ c, c < s.next → c ≠ p → (∀ q n k, Value.slice sa F.length sc = .slice (some q) n k → c ≠ q.block) → (s5.put p (.cells [.slice (some ⟨s.next + 2, 0, none⟩) (F.length + 1) UNK, .int .i64 (most : Int)] 137 true)).at' c = s.at' c := fun c hc hcp hcs => by
      rw [St.at_put, if_neg hcp, hk5 c (by omega) hcs, St.at_new, if_neg (by omega)]
    by_cases hi : i < F.length
    · rw [List.getElem?_append_left hi] at ht
      obtain ⟨g1, g2⟩ := h8 i t ht
      simp only [if_neg (show ¬ i = F.length by omega)]
      refine ⟨g1.same fun q0 n0 c0 e => hold _ (h1 _ (g2 q0 n0 c0 e).1).2 (g2 q0 n0 c0 e).2.1 (g2 q0 n0 c0 e).2.2, fun q0 n0 c0 e => ⟨.inl (g2 q0 n0 c0 e).1, (g2 q0 n0 c0 e).2.1, fun q' n' c' e' => ?_⟩⟩
      cases e'
      have := (h1 _ (g2 q0 n0 c0 e).1).2
      show q0.block ≠ s.next + 2
      omega
    · have hil : i = F.length := by
        have := (List.getElem?_eq_some_iff.1 ht).1
        simp at this; omega
      subst hil
      rw [List.getElem?_append_right (Nat.le_refl _), Nat.sub_self] at ht
      simp at ht
      subst ht
      simp only [if_true]
      refine ⟨hv.same fun q0 n0 c0 e => hold _ (hvO q0 n0 c0 e).2.1 (fun e2 => (hvO q0 n0 c0 e).2.2 (e2 ▸ h2)) (fun q' n' c' e' e2 => (hvO q0 n0 c0 e).2.2 (by rw [e2]; exact (h7 q' n' c' e').1)), fun q0 n0 c0 e => ⟨.inr (.inr ⟨q0, n0, c0, e, rfl⟩), fun e2 => (hvO q0 n0 c0 e).2.2 (e2 ▸ h2), fun q' n' c' e' => ?_⟩⟩
      cases e'
      have := (hvO q0 n0 c0 e).2.1
      show q0.block ≠ s.next + 2
      omega
  · intro b hb hno
    rw [St.at_put, if_neg (fun e : b = p => hno (e ▸ h2)), hk5 b (by omega) (fun q n c e e2 => hno (by rw [e2]; exact (h7 q n c e).1)), St.at_new, if_neg (by omega)]
  · rintro b (hb | rfl | hb)
    · exact .inl hb
    · exact .inr (.inl (by omega))
    · exact .inr (.inr hb)
  · intro i v hi hv
    obtain ⟨sl', m, b, vs, own, n, c, g1, g2, g3, g4⟩ := hv
    rw [h5] at g1
    cases g1
    rcases h6 with ⟨e, _⟩ | ⟨b', junk, e, hb, hlb⟩
    · omega
    cases e
    cases g2
    rw [hb] at g3
    cases g3
    refine ⟨_, _, s.next + 2, _, true, _, _, by rw [St.at_put, if_pos rfl], rfl, by rw [St.at_put, if_neg (by omega)]; exact hb5, ?_⟩
    have f1 := rows_get (rshC_len F nm) (n := F.length) junk hi (show 1 < 2 by omega)
    have f2 := rows_get (rshC_len F nm) (n := F.length) [.int .i64 (q : Int), .slice va l.reverse.length vc] hi (show 1 < 2 by omega)
    rw [f2, ← f1]; exact g4
theorem rroot_spec {lo p q : Nat} {F : List Sh} {most : Nat} {O : Nat → Prop} (hF : RFAt lo s p F most O) (hlo : lo ≤ s.next)
    (hR : ∀ s' O', RFAt lo s' p (growF F most (q, [])) most O' → Upd s s' O O' → (∀ i v, i < F.length → NmOf s p i v → NmOf s' p i v) → R (.int .i64 (growN F most (q, []) : Int)) s') : CCalls Tryz.prog w0 74 #[.pointer (some ⟨p, 0, none⟩), .int .i64 (q : Int)] s R := by
  refine wfun2 hmix ok74 (l := [.pointer (some ⟨p, 0, none⟩), .int .i64 (q : Int)]) func74 rfl ntmps74 results74 (by simp) ?_
  have hq : ¬ (q : Int) < 0 := by omega
  have hbS : cbuild Tryz.prog 159 #[(0, .int .i64 (q : Int))] = some (.agg #[.int .i64 (q : Int), .slice none 0 0]) := by kernel_rfl
  simp -implicitDefEqProofs only [↓Zd, (Zp), if_true, if_false, Nat.reduceEqDiff, reduceCtorEq, hq, hbS, co110]
  refine rof_spec (l := []) hF hlo (.inl ⟨rfl, rfl, rfl⟩) (fun q n c e => by cases e) List.nodup_nil (by simp) (fun x r e => by cases e) fun s1 O1 hF1 hn1 hk1 ho1 hnm1 => ?_
  simp -implicitDefEqProofs only [↓Zd, (Zp), if_true, if_false, Nat.reduceEqDiff, (HEx)]
  refine hR _ O1 hF1 ⟨hn1, hk1, fun b hb => ?_⟩ hnm1
  rcases ho1 b hb with h | h | ⟨q, n, c, e, _⟩
  · exact .inl h
  · exact .inr h
  · cases e
end
end Go.Proofs.Tryz
