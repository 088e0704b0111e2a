/- The document's heaps: the walk of what sets. A lemma file: no statement of its own. -/
import Derived.Test.YtakgfhdaimeafaaGreatqFwF
import Derived.Test.YtakgfhdaimeafaaGreatqRH9
set_option linter.unusedSimpArgs false
set_option linter.unusedVariables false
set_option linter.unusedSectionVars false
namespace Go.Proofs.Tryz
open Go.Cs
open Go.RowKit (Below)
set_option maxRecDepth 100000
attribute [local irreducible] CCalls WLoop WScope CRound WRange
theorem next_zero (H : Hp) (x : ByteArray) : nextH H ((0 : Nat) : Int) x = H ∧ nextN H ((0 : Nat) : Int) x = 0 := by
  have h0 : shAt H.F ((0 : Nat) : Int) = none := shAt_out (by omega)
  unfold nextH nextN
  rw [h0]
  exact ⟨rfl, rfl⟩
theorem setH_new {H : Hp} {i : Int} {x : ByteArray} {v : V3} {o : Ob} (ho : obAt H i = some o) (hg : getP o.L x = none) (hl : ¬ H.maxP ≤ o.L.length) :
    setH H i x v = putO (nextH H (o.shape : Int) x) i { L := setP o.L x v, shape := nextN H (o.shape : Int) x, proto := o.proto, epoch := o.epoch + 1 } := by
  unfold setH
  rw [ho]
  simp only [hg, Option.isSome_none, Bool.false_eq_true, if_false, if_neg hl]
  split
  · rename_i hs
    rw [hs, (next_zero H x).1, (next_zero H x).2]
  · rfl
section
variable {M : Type} [Mem M] {w0 : World} {s s' : St M} {R : Value → St M → Prop} {lo p N pf : Nat} {H : Hp} {O : Nat → Prop} {tg : Nat → Nat} {sl tl : Value} {bs : List Nat}
set_option maxHeartbeats 16000000 in
theorem rset_spec (h : RHpAt lo s p H N O) (hlo : lo ≤ s.next) {i : Int} {x y : ByteArray} {k n : Int} (hN : N + 3 ≤ 1000000)
    (hR : ∀ s' O', RHpAt lo s' p (setH H i x (k, n, y)) (N + 3) O' → Upd s s' O O' → R (.int .i64 (setE H i x)) s') : CCalls Tryz.prog w0 31 #[.pointer (some ⟨p, 0, none⟩), .int .i64 i, .string x, vA k n y] s R := by
  refine wfun2 hmix ok31 (l := [.pointer (some ⟨p, 0, none⟩), .int .i64 i, .string x, vA k n y]) func31 rfl ntmps31 results31 (by simp) ?_
  have hok := set_ok h.ok i x (k, n, y)
  have hpr := set_pro h.ok h.1 i x (k, n, y)
  obtain ⟨hpro, tg, pf, sl, tl, bs, h⟩ := h
  have l1 : s.le (s.new (.cells [.int .i64 k, .int .i64 n, .string y] 30 true)) := St.le_new (St.le_refl _)
  simp -implicitDefEqProofs only [↓Zd, (Zp), if_true, if_false, Nat.reduceEqDiff, reduceCtorEq, okPart, Value.cells, (HEx), vA, co59]
  refine rhas_spec (h.le l1) ?_
  cases hat : obAt H i with
  | none =>
    have e1 : setH H i x (k, n, y) = H := by unfold setH; rw [hat]
    have e2 : setE H i x = 4 := by unfold setE; rw [hat]
    rw [e1, e2] at hR
    simp -implicitDefEqProofs only [↓Zd, (Zp), if_true, if_false, Nat.reduceEqDiff, (HEx), vA]
    exact hR _ _ ⟨hpro, tg, pf, sl, tl, bs, (h.le l1).mono (by omega)⟩ (.of_le l1)
  | some o =>
    obtain ⟨j, hij, hj, hjo⟩ := obAt_some hat
    obtain ⟨b, br, vs, own, ns, vv, hb, hB, esl, hbr, hg, hbrn, hob, hfr, hO⟩ := h.at hjo
    have hk2 := ix_ok (n := bs.length) (j := j) (by rw [h.len]; exact hj)
    have wj := h.w hj
    have h1 := h.bl
    rw [esl] at h1
    have hpn := (h.own p h.pin.1).2
    have hp0 : ¬ p = s.next := by omega
    have hbr0 : ¬ br = s.next := by omega
    subst hij
    simp -implicitDefEqProofs only [↓Zd, (Zp), if_true, if_false, Nat.reduceEqDiff, reduceCtorEq, cld2, (HEx), (REx), vA, h1, hp0, hbr0, hbr, hg, hk2, wj, co75]
    refine rdget_spec (hob.le hfr l1) (hfr.le l1.1) fun s1 hs1 => ?_
    have hle1 := St.le_trans l1 hs1
    have hn1 := hs1.1
    simp only [St.next_new] at hn1
    have c7 : s1.at' s.next = some (.cells [.int .i64 k, .int .i64 n, .string y] 30 true) := by rw [hs1.2 _ (by simp only [St.next_new]; omega), St.at_new, if_pos rfl]
    have hs2 : ¬ s.next = s1.next := by omega
    have hep := hB.ep
    cases hgp : getP o.L x with
    | some w =>
      obtain ⟨w1, w2, w3⟩ := w
      have e1 : setH H ((j + 1 : Nat) : Int) x (k, n, y) = putO H ((j + 1 : Nat) : Int) { o with L := setP o.L x (k, n, y) } := by unfold setH; rw [hat]; simp only [hgp, Option.isSome_some, if_true]
      have e2 : setE H ((j + 1 : Nat) : Int) x = 0 := by unfold setE; rw [hat]; simp only [hgp, Option.isSome_some, if_true]
      rw [e1] at hok hpr hR
      rw [e2] at hR
      have l2 : s.le ((s1.new (.cells [.int .i64 0, .int .i64 0, .string ⟨#[]⟩] 30 true)).put s1.next (.cells [.int .i64 w1, .int .i64 w2, .string w3] 30 true)) := St.le_put (St.le_new hle1) (by omega)
      simp only [gotV, vOf]
      simp -implicitDefEqProofs only [↓Zd, (Zp), if_true, if_false, Nat.reduceEqDiff, Nat.reduceAdd, Nat.reduceLeDiff, okPart, Value.cells, cut, okCell, cld2, (HEx), (REx), vA, c7, hs2, ord31, co76]
      refine rdset_spec (hob.le hfr l2) (hfr.le l2.1) (h.ok.keys j o hjo) (by have := h.ok.lens j o hjo; have := h.ok.lim; omega) fun s3 ns3 vs3 hob3 hfr3 hU3 => ?_
      simp -implicitDefEqProofs only [↓Zd, (Zp), if_true, if_false, Nat.reduceEqDiff, (HEx)]
      obtain ⟨O', tg', h4, hU4⟩ := ((h.le l2).mono (N' := N + 3) (by omega)).setO (o' := { o with L := setP o.L x (k, n, y) }) (by have := l2.1; omega) rfl hj hb hO hU3 hob3 hfr3 (by show o.epoch ≤ _; omega) hok
      exact hR _ _ ⟨hpr, _, _, _, _, _, h4⟩ ((Upd.of_le l2).trans hU4)
    | none =>
      have hob1 := hob.le hfr hle1
      obtain ⟨qn, cn, en⟩ := slc_form hob.nm
      have g1 := hob1.bl
      rw [en] at g1
      have hkl := keysP_len o.L
      have hbn := hfr.bn
      have hb1 : ¬ b = s1.next := by omega
      have hp1 : ¬ p = s1.next := by omega
      have h11 := (h.le hle1).bl
      rw [esl] at h11
      have l2 : s.le ((s1.new (.cells [.int .i64 0, .int .i64 0, .string ⟨#[]⟩] 30 true)).put s1.next (.cells [.int .i64 0, .int .i64 0, .string ⟨#[]⟩] 30 true)) := St.le_put (St.le_new hle1) (by omega)
      simp only [gotV]
      by_cases hl : (H.maxP : Int) ≤ ((keysP o.L).length : Int)
      · have hl' : H.maxP ≤ o.L.length := by omega
        have e1 : setH H ((j + 1 : Nat) : Int) x (k, n, y) = H := by unfold setH; rw [hat]; simp only [hgp, Option.isSome_none, Bool.false_eq_true, if_false, if_pos hl']
        have e2 : setE H ((j + 1 : Nat) : Int) x = 42 := by unfold setE; rw [hat]; simp only [hgp, Option.isSome_none, Bool.false_eq_true, if_false, if_pos hl']
        rw [e1, e2] at hR
        simp -implicitDefEqProofs only [↓Zd, (Zp), if_true, if_false, Nat.reduceEqDiff, reduceCtorEq, Nat.reduceAdd, Nat.reduceLeDiff, okPart, Value.cells, okCell, cld2, (HEx), (REx), vA, g1, hb1, hp1, h11, hl, ord31]
        exact hR _ _ ⟨hpro, tg, pf, sl, tl, bs, (h.le l2).mono (by omega)⟩ (.of_le l2)
      · have hl' : ¬ H.maxP ≤ o.L.length := by omega
        rw [setH_new hat hgp hl'] at hok hpr hR
        have e2 : setE H ((j + 1 : Nat) : Int) x = 0 := by unfold setE; rw [hat]; simp only [hgp, Option.isSome_none, Bool.false_eq_true, if_false, if_neg hl']
        rw [e2] at hR
        have we : IntKind.i64.wrap ((o.epoch : Int) + 1) = ((o.epoch + 1 : Nat) : Int) := by rw [wrap_i64 (by omega)]; omega
        have hsh : o.shape ≤ 150 := by
          by_cases h0 : o.shape = 0
          · omega
          · obtain ⟨q0, l, h1, _⟩ := h.ok.fits j o hjo (by omega)
            have := (List.getElem?_eq_some_iff.1 h1).1
            have := h.fo.le
            omega
        simp -implicitDefEqProofs only [↓Zd, (Zp), if_true, if_false, Nat.reduceEqDiff, reduceCtorEq, Nat.reduceAdd, Nat.reduceLeDiff, okPart, Value.cells, okCell, cld2, (HEx), (REx), vA, g1, hb1, hp1, h11, hl, we, ord31, co39]
        have hob2 := hob.le hfr l2
        have hfr2 := hfr.le l2.1
        obtain ⟨O3, tg3, h3, hU3⟩ := ((h.le l2).mono (N' := N + 1) (by omega)).setO (o' := { o with epoch := o.epoch + 1 }) (by have := l2.1; omega) rfl hj hb hO (hang_put .b) (hob2.head hfr2 (.int .i64 (o.proto : Int)) (.int .i64 ((o.epoch + 1 : Nat) : Int)) (.int .i64 (o.shape : Int))) hfr2.put (by show o.epoch + 1 ≤ _; omega) (bump_ok h.ok hat (o.epoch + 1))
        rw [en] at h3 hU3
        refine rnext_spec h3 (by simp only [St.next_put, St.next_new]; omega) (by omega) (by omega) fun s5 O5 tg5 tl5 h5 hU5 => ?_
        rw [next_put] at h5
        have hj5 : j < (nextH H (o.shape : Int) x).obs.length := by rw [(next_obs H _ x).1]; exact hj
        have ho5 := putO_at (H := nextH H (o.shape : Int) x) (i := ((j + 1 : Nat) : Int)) (o := o) (a := { o with epoch := o.epoch + 1 }) rfl hj5
        obtain ⟨b', br', vs', own', ns5, vv5, hb', hB5, _, _, _, _, hob5, hfr5, hO5⟩ := h5.at ho5
        rw [hb] at hb'
        cases hb'
        have g5 := hob5.bl
        have hN3 : nextN (putO H ((j + 1 : Nat) : Int) { o with epoch := o.epoch + 1 }) (o.shape : Int) x = nextN H (o.shape : Int) x := rfl
        have hn5 := hU5.next
        simp only [St.next_put, St.next_new] at hn5
        have hsne : ¬ s.next = b := by omega
        have c75 : s5.at' s.next = some (.cells [.int .i64 k, .int .i64 n, .string y] 30 true) := by
          rw [hU5.keep _ (by simp only [St.next_put, St.next_new]; omega) (fun hc => ?_), St.at_put, if_neg hsne, St.at_put, if_neg hs2, St.at_new, if_neg hs2]
          · exact c7
          · rcases hU3.own _ hc with g | g
            · have := (h.own _ g).2; omega
            · simp only [St.next_put, St.next_new] at g; omega
        rw [hN3]
        simp -implicitDefEqProofs only [↓Zd, (Zp), if_true, if_false, Nat.reduceEqDiff, Nat.reduceAdd, Nat.reduceLeDiff, okPart, Value.cells, cut, okCell, cld2, (HEx), (REx), g5, c75, hsne, co76]
        refine rdset_spec (hob5.head hfr5 (.int .i64 (o.proto : Int)) (.int .i64 ((o.epoch + 1 : Nat) : Int)) (.int .i64 ((nextN H (o.shape : Int) x : Nat) : Int))) hfr5.put (h.ok.keys j o hjo) (by have := h.ok.lens j o hjo; have := h.ok.lim; show o.L.length < _; omega) fun s7 ns7 vs7 hob7 hfr7 hU7 => ?_
        simp -implicitDefEqProofs only [↓Zd, (Zp), if_true, if_false, Nat.reduceEqDiff, (HEx)]
        obtain ⟨O', tg', h8, hU8⟩ := (h5.mono (N' := N + 3) (by omega)).setO (o' := { L := setP o.L x (k, n, y), shape := nextN H (o.shape : Int) x, proto := o.proto, epoch := o.epoch + 1 }) (by omega) rfl (by show j < (List.set _ _ _).length; rw [List.length_set]; exact hj5) hb hO5 ((hang_put .b).trans hU7) hob7 hfr7 (by show o.epoch + 1 ≤ _; omega) (by rw [putO_put]; exact hok)
        rw [putO_put] at h8
        exact hR _ _ ⟨hpr, _, _, _, _, _, h8⟩ ((((Upd.of_le l2).trans hU3).trans hU5).trans hU8)
end
end Go.Proofs.Tryz
