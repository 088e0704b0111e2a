/- A heap and the document's, side by side: the walk of what compares them. A lemma file: no statement of its own. -/
import Derived.Test.YtakgfhdaimeafaaGreatqFwF
import Derived.Test.YtakgfhdaimeafaaGreatqRH16
import Derived.Test.YtakgfhdaimeafaaGreatqHT0
set_option linter.unusedSimpArgs false
set_option linter.unusedVariables false
set_option linter.unusedSectionVars false
namespace Go.Proofs.Tryz
open Go.Cs
open Go.RowKit (Below)
set_option maxRecDepth 100000
attribute [local irreducible] CCalls WLoop WScope CRound WRange
theorem keyV_eq (L : List (ByteArray × V3)) (i : Int) : ∃ y f, keyV L i = .tuple #[.string y, .bool f] := by
  unfold keyV
  split <;> exact ⟨_, _, rfl⟩
section
variable {M : Type} [Mem M] {w0 : World} {s : St M} {R : Value → St M → Prop} {lo p N r : Nat} {H : Hp} {O Q : Nat → Prop}
set_option maxHeartbeats 16000000 in
theorem rlike_spec (t : TwoH lo s p r H N O Q) (hN : N ≤ 1000000) (hsz : HSz 1000000 H) {x : ByteArray} (hR : ∀ s', s.le s' → R (.bool true) s') :
    CCalls Tryz.prog w0 22 #[.pointer (some ⟨p, 0, none⟩), .pointer (some ⟨r, 0, none⟩), .string x] s R := by
  refine wfun2 hmix ok22 (l := [.pointer (some ⟨p, 0, none⟩), .pointer (some ⟨r, 0, none⟩), .string x]) func22 rfl ntmps22 results22 (by simp) ?_
  have t0 := t
  obtain ⟨⟨hpro, tg, pf, pn, sl, bs, hi⟩, ⟨_, tgr, pfr, slr, tlr, bsr, gi⟩, _⟩ := t
  have hlim := hi.ok.lim
  obtain ⟨qs, cs, es⟩ := gi.form
  have gb := gi.bl
  rw [es] at gb
  simp -implicitDefEqProofs only [↓Zd, (Zp), if_true, if_false, Nat.reduceEqDiff, reduceCtorEq, Int.reduceNeg, cld2, (REx), gb, ord22, co12]
  refine hlen_spec hi ?_
  simp -implicitDefEqProofs only [↓Zd, (Zp), if_true, if_false, Nat.reduceEqDiff, reduceCtorEq, Nat.reduceBEq, cld2, (HEx), (REx), gb, co26]
  refine hdump_spec t0.h hN hsz fun s1 hs1 => ?_
  simp -implicitDefEqProofs only [↓Zd, (Zp), if_true, if_false, Nat.reduceEqDiff, Nat.reduceBEq, (HEx), co55]
  refine rdump_spec (t0.g.le hs1) hN hsz fun s2 hs2 => ?_
  simp -implicitDefEqProofs only [↓Zd, (Zp), if_true, if_false, Nat.reduceEqDiff, (HEx)]
  refine wloop_inv hmix (fun fuel env s3 => ∃ k : Nat, fuel = H.obs.length + 2 - k ∧ k ≤ H.obs.length + 2 ∧ env 7 = .int .i64 (k : Int) ∧ env 0 = .pointer (some ⟨p, 0, none⟩) ∧ env 1 = .pointer (some ⟨r, 0, none⟩) ∧ env 2 = .string x ∧ s.le s3) (H.obs.length + 2) ⟨0, rfl, by omega, rfl, rfl, rfl, rfl, St.le_trans hs1 hs2⟩ ?_
  rintro fuel env s3 ⟨k, rfl, hk, e7, e0, e1, e2, hs3⟩
  have gb3 := (gi.le hs3).bl
  rw [es] at gb3
  have wl : IntKind.i64.wrap ((H.obs.length : Int) + 1) = ((H.obs.length + 1 : Nat) : Int) := by rw [wrap_i64 (by omega)]; omega
  have wk : IntKind.i64.wrap ((k : Int) + 1) = ((k + 1 : Nat) : Int) := by rw [wrap_i64 (by omega)]; omega
  by_cases hkl : (k : Int) ≤ ((H.obs.length + 1 : Nat) : Int)
  case neg =>
    simp -implicitDefEqProofs only [↓Zd, (Zp), if_true, if_false, Nat.reduceEqDiff, cld2, (REx), e7, e1, gb3, wl, hkl]
    exact hR _ hs3
  obtain ⟨a1, a2, a3, af, hgo⟩ : ∃ a1 a2 a3 af, gotV ((obAt H (k : Int)).bind fun o => getP o.L x) = .tuple #[.agg #[.int .i64 a1, .int .i64 a2, .string a3], .bool af] := ⟨_, _, _, _, gotV_eq _⟩
  simp -implicitDefEqProofs only [↓Zd, (Zp), if_true, if_false, Nat.reduceEqDiff, reduceCtorEq, cld2, (REx), e7, e0, e1, e2, gb3, wl, hkl, co14]
  refine hown_spec (hi.le hs3) (by omega) fun s4 hs4 => ?_
  rw [hgo]
  have l4 := St.le_trans hs3 hs4
  have l5 : s.le ((s4.new (.cells [.int .i64 0, .int .i64 0, .string ⟨#[]⟩] 30 true)).put s4.next (.cells [.int .i64 a1, .int .i64 a2, .string a3] 30 true)) := St.le_put (St.le_new l4) l4.1
  have c5 : ((s4.new (.cells [.int .i64 0, .int .i64 0, .string ⟨#[]⟩] 30 true)).put s4.next (.cells [.int .i64 a1, .int .i64 a2, .string a3] 30 true)).at' s4.next = some (.cells [.int .i64 a1, .int .i64 a2, .string a3] 30 true) := by rw [St.at_put, if_pos rfl]
  have n5 : ((s4.new (.cells [.int .i64 0, .int .i64 0, .string ⟨#[]⟩] 30 true)).put s4.next (.cells [.int .i64 a1, .int .i64 a2, .string a3] 30 true)).next = s4.next + 1 := by simp
  simp -implicitDefEqProofs only [↓Zd, (Zp), if_true, if_false, Nat.reduceEqDiff, Nat.reduceAdd, Nat.reduceLeDiff, okPart, Value.cells, okCell, (HEx), e7, e1, e2, co56]
  refine rown_spec (gi.le l5) fun s6 hs6 => ?_
  rw [hgo]
  have l6 := St.le_trans l5 hs6
  have n6 := hs6.1
  have c6 : s6.at' s4.next = some (.cells [.int .i64 a1, .int .i64 a2, .string a3] 30 true) := (hs6.2 _ (by omega)).trans c5
  have hne : ¬ s4.next = s6.next := by omega
  have l7 : s.le ((s6.new (.cells [.int .i64 0, .int .i64 0, .string ⟨#[]⟩] 30 true)).put s6.next (.cells [.int .i64 a1, .int .i64 a2, .string a3] 30 true)) := St.le_put (St.le_new l6) l6.1
  simp -implicitDefEqProofs only [↓Zd, (Zp), if_true, if_false, Nat.reduceEqDiff, reduceCtorEq, Nat.reduceAdd, Nat.reduceLeDiff, okPart, Value.cells, cut, okCell, cld2, (HEx), e7, e0, e2, c6, hne, VneSelf, co15]
  refine hget_spec (hi.le l7) (by omega) fun s8 w hs8 hw => ?_
  have l8 := St.le_trans l7 hs8
  simp -implicitDefEqProofs only [↓Zd, (Zp), if_true, if_false, Nat.reduceEqDiff, (HEx), e7, e1, e2, co40]
  refine rget_spec (gi.le l8) fun s9 w' hs9 hw' => ?_
  cases hw.one hw'
  obtain ⟨w1, w2, w3⟩ := w
  have l9 := St.le_trans l8 hs9
  simp only [vOf, vA]
  simp -implicitDefEqProofs only [↓Zd, (Zp), if_true, if_false, Nat.reduceEqDiff, reduceCtorEq, (HEx), e7, e0, VneSelf, co13]
  refine hproto_spec (hi.le l9) (by omega) ?_
  simp -implicitDefEqProofs only [↓Zd, (Zp), if_true, if_false, Nat.reduceEqDiff, (HEx), e7, e1, co57]
  refine rproto_spec (gi.le l9) ?_
  simp -implicitDefEqProofs only [↓Zd, (Zp), if_true, if_false, Nat.reduceEqDiff, reduceCtorEq, (HEx), e7, e0, co16]
  refine hcount_spec (hi.le l9) (by omega) fun s10 hs10 => ?_
  have l10 := St.le_trans l9 hs10
  simp -implicitDefEqProofs only [↓Zd, (Zp), if_true, if_false, Nat.reduceEqDiff, (HEx), e7, e1, co58]
  refine rcount_spec (gi.le l10) ?_
  simp -implicitDefEqProofs only [↓Zd, (Zp), if_true, if_false, Nat.reduceEqDiff, (HEx), e7, e1, co59]
  refine rhas_spec (gi.le l10) ?_
  cases hat : obAt H (k : Int) with
  | none =>
    have hsv : shapeV H (k : Int) = ((0 : Nat) : Int) := by unfold shapeV; rw [hat]; rfl
    have hev : epochV H (k : Int) = ((0 : Nat) : Int) := by unfold epochV; rw [hat]; rfl
    have hkv := keyV_eq ([] : List (ByteArray × V3))
    have hcl : 0 ≤ countV H (k : Int) ∧ countV H (k : Int) ≤ 100 := by unfold countV; rw [hat]; simp
    have hsh : 0 ≤ 150 := by omega
    simp -implicitDefEqProofs only [↓Zd, (Zp), if_true, if_false, Nat.reduceEqDiff, reduceCtorEq, (HEx), e7, e0, co19]
    refine hshape_spec (hi.le l10) (by omega) ?_
    rw [hsv]
    simp -implicitDefEqProofs only [↓Zd, (Zp), if_true, if_false, Nat.reduceEqDiff, reduceCtorEq, (HEx), e7, e0, co60]
    refine hepoch_spec (hi.le l10) (by omega) ?_
    rw [hev]
    simp -implicitDefEqProofs only [↓Zd, (Zp), if_true, if_false, Nat.reduceEqDiff, reduceCtorEq, (HEx), e0, e2, co21]
    refine hslotof_spec (i := ((0 : Nat) : Int)) (hi.le l10) (by omega) fun s11 hs11 => ?_
    have l11 := St.le_trans l10 hs11
    simp -implicitDefEqProofs only [↓Zd, (Zp), if_true, if_false, Nat.reduceEqDiff, (HEx), e1, e2, co61]
    refine rslotof_spec (i := ((0 : Nat) : Int)) (gi.le l11) hN (by omega) ?_
    simp -implicitDefEqProofs only [↓Zd, (Zp), if_true, if_false, Nat.reduceEqDiff, Int.reduceNeg, (HEx)]
    refine wloop_inv hmix (fun fuel env s12 => ∃ m : Int, fuel = (countV H (k : Int) + 1 - m).toNat ∧ -1 ≤ m ∧ m ≤ countV H (k : Int) + 1 ∧ env 14 = .int .i64 m ∧ env 7 = .int .i64 (k : Int) ∧ env 0 = .pointer (some ⟨p, 0, none⟩) ∧ env 1 = .pointer (some ⟨r, 0, none⟩) ∧ env 2 = .string x ∧ s.le s12) (countV H (k : Int) + 1 - (-1)).toNat ⟨-1, rfl, by omega, by omega, rfl, (by simp only [upd_apply]; simpa using e7), (by simp only [upd_apply]; simpa using e0), (by simp only [upd_apply]; simpa using e1), (by simp only [upd_apply]; simpa using e2), l11⟩ ?_
    rintro fuel2 env2 s12 ⟨m, rfl, hm1, hm2, f14, f7, f0, f1, f2, l12⟩
    have wm : IntKind.i64.wrap (m + 1) = m + 1 := wrap_i64 (by omega)
    simp -implicitDefEqProofs only [↓Zd, (Zp), if_true, if_false, Nat.reduceEqDiff, f14, f7, f1, co58]
    refine rcount_spec (gi.le l12) ?_
    by_cases hmc : m ≤ countV H (k : Int)
    case neg =>
      simp -implicitDefEqProofs only [↓Zd, (Zp), if_true, if_false, Nat.reduceEqDiff, reduceCtorEq, (HEx), f7, f0, f1, f2, hmc, wk]
      exact ⟨H.obs.length + 2 - (k + 1), by omega, k + 1, rfl, by omega, rfl, l12⟩
    obtain ⟨y, yf, hky⟩ := hkv m
    obtain ⟨b1, b2, b3, bf, hgs⟩ : ∃ a1 a2 a3 af, gotV (slotG H (k : Int) m) = .tuple #[.agg #[.int .i64 a1, .int .i64 a2, .string a3], .bool af] := ⟨_, _, _, _, gotV_eq _⟩
    simp -implicitDefEqProofs only [↓Zd, (Zp), if_true, if_false, Nat.reduceEqDiff, reduceCtorEq, (HEx), f14, f7, f0, hmc, co17]
    refine hkey_spec (i := (k : Int)) (k := m) (hi.le l12) hN (by omega) (by omega) fun s13 hs13 => ?_
    simp only [hat]
    have l13 := St.le_trans l12 hs13
    simp -implicitDefEqProofs only [↓Zd, (Zp), if_true, if_false, Nat.reduceEqDiff, (HEx), f14, f7, f1, co62]
    refine rkey_spec (i := (k : Int)) (k := m) (gi.le l13) ?_
    simp only [hat]
    simp -implicitDefEqProofs only [↓Zd, (Zp), if_true, if_false, Nat.reduceEqDiff, reduceCtorEq, (HEx), f14, f7, f0, co20]
    refine hslot_spec (i := (k : Int)) (k := m) (hi.le l13) (by omega) (by omega) fun s14 hs14 => ?_
    rw [hgs]
    have l14 := St.le_trans l13 hs14
    have l15 : s.le ((s14.new (.cells [.int .i64 0, .int .i64 0, .string ⟨#[]⟩] 30 true)).put s14.next (.cells [.int .i64 b1, .int .i64 b2, .string b3] 30 true)) := St.le_put (St.le_new l14) l14.1
    have c15 : ((s14.new (.cells [.int .i64 0, .int .i64 0, .string ⟨#[]⟩] 30 true)).put s14.next (.cells [.int .i64 b1, .int .i64 b2, .string b3] 30 true)).at' s14.next = some (.cells [.int .i64 b1, .int .i64 b2, .string b3] 30 true) := by rw [St.at_put, if_pos rfl]
    have n15 : ((s14.new (.cells [.int .i64 0, .int .i64 0, .string ⟨#[]⟩] 30 true)).put s14.next (.cells [.int .i64 b1, .int .i64 b2, .string b3] 30 true)).next = s14.next + 1 := by simp
    simp -implicitDefEqProofs only [↓Zd, (Zp), if_true, if_false, Nat.reduceEqDiff, Nat.reduceAdd, Nat.reduceLeDiff, okPart, Value.cells, okCell, (HEx), f14, f7, f1, co63]
    refine rslot_spec (i := (k : Int)) (k := m) (gi.le l15) fun s16 hs16 => ?_
    rw [hgs]
    have l16 := St.le_trans l15 hs16
    have n16 := hs16.1
    have c16 : s16.at' s14.next = some (.cells [.int .i64 b1, .int .i64 b2, .string b3] 30 true) := (hs16.2 _ (by omega)).trans c15
    have hne2 : ¬ s14.next = s16.next := by omega
    have l17 : s.le ((s16.new (.cells [.int .i64 0, .int .i64 0, .string ⟨#[]⟩] 30 true)).put s16.next (.cells [.int .i64 b1, .int .i64 b2, .string b3] 30 true)) := St.le_put (St.le_new l16) l16.1
    simp -implicitDefEqProofs only [↓Zd, (Zp), if_true, if_false, Nat.reduceEqDiff, reduceCtorEq, Int.reduceNeg, Nat.reduceAdd, Nat.reduceLeDiff, okPart, Value.cells, cut, okCell, cld2, (HEx), f14, f7, f0, f1, f2, c16, hne2, VneSelf, wm]
    exact ⟨(countV H (k : Int) + 1 - (m + 1)).toNat, by omega, m + 1, rfl, by omega, by omega, rfl, l17⟩
  | some o =>
    obtain ⟨j, hkj, hj, ho⟩ := obAt_some hat
    have hsv : shapeV H (k : Int) = ((o.shape : Nat) : Int) := by unfold shapeV; rw [hat]
    have hev : epochV H (k : Int) = ((o.epoch : Nat) : Int) := by unfold epochV; rw [hat]
    have hkv := keyV_eq o.L
    have hcl : 0 ≤ countV H (k : Int) ∧ countV H (k : Int) ≤ 100 := by unfold countV; rw [hat]; have := hi.ok.lens j o ho; simp only; omega
    have hsh : o.shape ≤ 150 := by
      by_cases h0 : o.shape = 0
      · omega
      · obtain ⟨q0, l, h1, _⟩ := hi.ok.fits j o ho (by omega)
        have := (List.getElem?_eq_some_iff.1 h1).1
        have := hi.fo.le
        omega
    obtain ⟨b, br, vs, own, ns, vv, hb, hB, esl, hbr, hg, hbrn, hob, hfr, hO⟩ := (gi.le l10).at ho
    have g1 := (gi.le l10).bl
    rw [esl] at g1
    have g2 := hob.bl
    have hk2 := ix_ok (n := bsr.length) (j := j) (by rw [gi.len]; exact hj)
    have wj : IntKind.i64.wrap ((k : Int) - 1) = (j : Int) := by rw [wrap_i64 (by omega)]; omega
    simp -implicitDefEqProofs only [↓Zd, (Zp), if_true, if_false, Nat.reduceEqDiff, reduceCtorEq, cld2, (HEx), (REx), e7, e0, e1, g1, g2, hk2, wj, hbr, hg, co19]
    refine hshape_spec (hi.le l10) (by omega) ?_
    rw [hsv]
    simp -implicitDefEqProofs only [↓Zd, (Zp), if_true, if_false, Nat.reduceEqDiff, reduceCtorEq, (HEx), e7, e0, co60]
    refine hepoch_spec (hi.le l10) (by omega) ?_
    rw [hev]
    simp -implicitDefEqProofs only [↓Zd, (Zp), if_true, if_false, Nat.reduceEqDiff, reduceCtorEq, (HEx), e0, e2, co21]
    refine hslotof_spec (i := ((o.shape : Nat) : Int)) (hi.le l10) (by omega) fun s11 hs11 => ?_
    have l11 := St.le_trans l10 hs11
    simp -implicitDefEqProofs only [↓Zd, (Zp), if_true, if_false, Nat.reduceEqDiff, (HEx), e1, e2, co61]
    refine rslotof_spec (i := ((o.shape : Nat) : Int)) (gi.le l11) hN (by omega) ?_
    simp -implicitDefEqProofs only [↓Zd, (Zp), if_true, if_false, Nat.reduceEqDiff, Int.reduceNeg, (HEx)]
    refine wloop_inv hmix (fun fuel env s12 => ∃ m : Int, fuel = (countV H (k : Int) + 1 - m).toNat ∧ -1 ≤ m ∧ m ≤ countV H (k : Int) + 1 ∧ env 14 = .int .i64 m ∧ env 7 = .int .i64 (k : Int) ∧ env 0 = .pointer (some ⟨p, 0, none⟩) ∧ env 1 = .pointer (some ⟨r, 0, none⟩) ∧ env 2 = .string x ∧ s.le s12) (countV H (k : Int) + 1 - (-1)).toNat ⟨-1, rfl, by omega, by omega, rfl, (by simp only [upd_apply]; simpa using e7), (by simp only [upd_apply]; simpa using e0), (by simp only [upd_apply]; simpa using e1), (by simp only [upd_apply]; simpa using e2), l11⟩ ?_
    rintro fuel2 env2 s12 ⟨m, rfl, hm1, hm2, f14, f7, f0, f1, f2, l12⟩
    have wm : IntKind.i64.wrap (m + 1) = m + 1 := wrap_i64 (by omega)
    simp -implicitDefEqProofs only [↓Zd, (Zp), if_true, if_false, Nat.reduceEqDiff, f14, f7, f1, co58]
    refine rcount_spec (gi.le l12) ?_
    by_cases hmc : m ≤ countV H (k : Int)
    case neg =>
      simp -implicitDefEqProofs only [↓Zd, (Zp), if_true, if_false, Nat.reduceEqDiff, reduceCtorEq, (HEx), f7, f0, f1, f2, hmc, wk]
      exact ⟨H.obs.length + 2 - (k + 1), by omega, k + 1, rfl, by omega, rfl, l12⟩
    obtain ⟨y, yf, hky⟩ := hkv m
    obtain ⟨b1, b2, b3, bf, hgs⟩ : ∃ a1 a2 a3 af, gotV (slotG H (k : Int) m) = .tuple #[.agg #[.int .i64 a1, .int .i64 a2, .string a3], .bool af] := ⟨_, _, _, _, gotV_eq _⟩
    simp -implicitDefEqProofs only [↓Zd, (Zp), if_true, if_false, Nat.reduceEqDiff, reduceCtorEq, (HEx), f14, f7, f0, hmc, co17]
    refine hkey_spec (i := (k : Int)) (k := m) (hi.le l12) hN (by omega) (by omega) fun s13 hs13 => ?_
    simp only [hat, hky]
    have l13 := St.le_trans l12 hs13
    simp -implicitDefEqProofs only [↓Zd, (Zp), if_true, if_false, Nat.reduceEqDiff, (HEx), f14, f7, f1, co62]
    refine rkey_spec (i := (k : Int)) (k := m) (gi.le l13) ?_
    simp only [hat, hky]
    simp -implicitDefEqProofs only [↓Zd, (Zp), if_true, if_false, Nat.reduceEqDiff, reduceCtorEq, (HEx), f14, f7, f0, co20]
    refine hslot_spec (i := (k : Int)) (k := m) (hi.le l13) (by omega) (by omega) fun s14 hs14 => ?_
    rw [hgs]
    have l14 := St.le_trans l13 hs14
    have l15 : s.le ((s14.new (.cells [.int .i64 0, .int .i64 0, .string ⟨#[]⟩] 30 true)).put s14.next (.cells [.int .i64 b1, .int .i64 b2, .string b3] 30 true)) := St.le_put (St.le_new l14) l14.1
    have c15 : ((s14.new (.cells [.int .i64 0, .int .i64 0, .string ⟨#[]⟩] 30 true)).put s14.next (.cells [.int .i64 b1, .int .i64 b2, .string b3] 30 true)).at' s14.next = some (.cells [.int .i64 b1, .int .i64 b2, .string b3] 30 true) := by rw [St.at_put, if_pos rfl]
    have n15 : ((s14.new (.cells [.int .i64 0, .int .i64 0, .string ⟨#[]⟩] 30 true)).put s14.next (.cells [.int .i64 b1, .int .i64 b2, .string b3] 30 true)).next = s14.next + 1 := by simp
    simp -implicitDefEqProofs only [↓Zd, (Zp), if_true, if_false, Nat.reduceEqDiff, Nat.reduceAdd, Nat.reduceLeDiff, okPart, Value.cells, okCell, (HEx), f14, f7, f1, co63]
    refine rslot_spec (i := (k : Int)) (k := m) (gi.le l15) fun s16 hs16 => ?_
    rw [hgs]
    have l16 := St.le_trans l15 hs16
    have n16 := hs16.1
    have c16 : s16.at' s14.next = some (.cells [.int .i64 b1, .int .i64 b2, .string b3] 30 true) := (hs16.2 _ (by omega)).trans c15
    have hne2 : ¬ s14.next = s16.next := by omega
    have l17 : s.le ((s16.new (.cells [.int .i64 0, .int .i64 0, .string ⟨#[]⟩] 30 true)).put s16.next (.cells [.int .i64 b1, .int .i64 b2, .string b3] 30 true)) := St.le_put (St.le_new l16) l16.1
    simp -implicitDefEqProofs only [↓Zd, (Zp), if_true, if_false, Nat.reduceEqDiff, reduceCtorEq, Int.reduceNeg, Nat.reduceAdd, Nat.reduceLeDiff, okPart, Value.cells, cut, okCell, cld2, (HEx), f14, f7, f0, f1, f2, c16, hne2, VneSelf, wm]
    exact ⟨(countV H (k : Int) + 1 - (m + 1)).toNat, by omega, m + 1, rfl, by omega, by omega, rfl, l17⟩
end
end Go.Proofs.Tryz
