/- The document's heaps: the walk of Grow. A lemma file: no statement of its own. -/
import Derived.Test.YtakgfhdaimeafaaGreatqFwF
import Derived.Test.YtakgfhdaimeafaaGreatqRH12
set_option linter.unusedSimpArgs false
set_option linter.unusedVariables false
set_option linter.unusedSectionVars false
namespace Go.Proofs.Tryz
open Go.Cs
open Go.RowKit (Below)
set_option maxRecDepth 100000
attribute [local irreducible] CCalls WLoop WScope CRound WRange
section
variable {M : Type} [Mem M] {w0 : World} {s s' : St M} {R : Value → St M → Prop} {lo p N : Nat} {H : Hp} {O : Nat → Prop}
set_option maxHeartbeats 16000000 in
theorem rgrow_spec (h : RHpAt lo s p H N O) (hlo : lo ≤ s.next) {i to : Int} {y : ByteArray} {k n : Int} (hN : N + 3 ≤ 1000000) (hto : -9223372036854775808 ≤ to ∧ to ≤ 9223372036854775807)
    (hR : ∀ s' O', RHpAt lo s' p (growH H i to (k, n, y)) (N + 3) O' → Upd s s' O O' → R (.int .i64 (growE H i to)) s') : CCalls Tryz.prog w0 37 #[.pointer (some ⟨p, 0, none⟩), .int .i64 i, .int .i64 to, vA k n y] s R := by
  refine wfun2 hmix ok37 (l := [.pointer (some ⟨p, 0, none⟩), .int .i64 i, .int .i64 to, vA k n y]) func37 rfl ntmps37 results37 (by simp) ?_
  obtain ⟨hpro, tg, pf, sl, tl, bs, h⟩ := h
  have hok := grow_ok h.ok h.fo.ok i to (k, n, y)
  have hpr := grow_pro h.ok h.fo.ok hpro i to (k, n, y)
  have l1 : s.le (s.new (.cells [.int .i64 k, .int .i64 n, .string y] 30 true)) := St.le_new (St.le_refl _)
  have hbad : ∀ e : Int, e ≠ 0 → growE H i to = e → R (.int .i64 e) (s.new (.cells [.int .i64 k, .int .i64 n, .string y] 30 true)) := fun e e0 he => by
    have e1 : growH H i to (k, n, y) = H := by
      unfold growH
      split
      · rfl
      · rw [if_neg (by omega)]
    rw [e1, he] at hR
    exact hR _ _ ⟨hpro, tg, pf, sl, tl, bs, (h.le l1).mono (by omega)⟩ (.of_le l1)
  have h1' := h.le l1
  simp -implicitDefEqProofs only [↓Zd, (Zp), if_true, if_false, Nat.reduceEqDiff, reduceCtorEq, okPart, Value.cells, (HEx), vA, co59]
  refine rhas_spec h1' ?_
  cases hat : obAt H i with
  | none =>
    simp -implicitDefEqProofs only [↓Zd, (Zp), if_true, if_false, Nat.reduceEqDiff, (HEx), vA]
    exact hbad 4 (by omega) (by unfold growE; rw [hat])
  | some o =>
    obtain ⟨j, rfl, hj, ho⟩ := obAt_some hat
    obtain ⟨b, br, vs, own, ns, vv, hb, hB, esl, hbr, hg, hbrn, hob, hfr, hO⟩ := h1'.at ho
    have hk2 := ix_ok (n := bs.length) (j := j) (by rw [h.len]; exact hj)
    have wj := h.w hj
    have hhb := h1'.bl
    rw [esl] at hhb
    have hhs := h.bl
    rw [esl] at hhs
    have hpn := (h.own p h.pin.1).2
    have hp0 : ¬ p = s.next := by omega
    have hbo := (h.own _ (hO _ .b).1).2
    have hb0 : ¬ b = s.next := by omega
    have hbro := (h.own _ (h.rowO _ _ _ esl).1).2
    simp only at hbro
    have hbr0 : ¬ br = s.next := by omega
    have hbrs : s.at' br = some (.cells vs 107 own) := by rw [St.at_new, if_neg hbr0] at hbr; exact hbr
    have g1 := hob.bl
    rw [St.at_new, if_neg hb0] at g1
    obtain ⟨qn, cn, en⟩ := slc_form hob.nm
    rw [en] at g1
    have hkl := keysP_len o.L
    have hep := hB.ep
    have w1 : IntKind.i64.wrap ((o.epoch : Int) + 1) = ((o.epoch + 1 : Nat) : Int) := by rw [wrap_i64 (by omega)]; omega
    have hml : o.L.length ≤ 32 := by have := h.ok.lens j o ho; have := h.ok.lim; omega
    by_cases hs0 : o.shape = 0
    · have hs0' : ((o.shape : Nat) : Int) = 0 := by omega
      simp -implicitDefEqProofs only [↓Zd, (Zp), if_true, if_false, Nat.reduceEqDiff, reduceCtorEq, cld2, (HEx), (REx), vA, hhs, hp0, hbr0, hb0, hbrs, hg, hk2, wj, g1, hs0', ord37]
      exact hbad 2 (by omega) (by unfold growE; rw [hat]; simp only [if_pos hs0])
    have hs0' : ¬ ((o.shape : Nat) : Int) = 0 := by omega
    simp -implicitDefEqProofs only [↓Zd, (Zp), if_true, if_false, Nat.reduceEqDiff, reduceCtorEq, cld2, (HEx), (REx), vA, hhs, hp0, hbr0, hb0, hbrs, hg, hk2, wj, g1, hs0', ord37, co80]
    refine rfparent_spec h1'.fo hto ?_
    cases ht : shAt H.F to with
    | none =>
      have hz : ¬ (0 : Int) = (o.shape : Int) := by omega
      simp -implicitDefEqProofs only [↓Zd, (Zp), if_true, if_false, Nat.reduceEqDiff, Nat.reduceBEq, cld2, (HEx), hb0, g1, hz]
      exact hbad 2 (by omega) (by unfold growE; rw [hat]; simp only [if_neg hs0, ht]; rw [if_pos (by omega)])
    | some t =>
      by_cases hpar : parId H.F t = o.shape
      · obtain ⟨q, x, l, rfl, f1, f2, f3, f4, f5⟩ := grow_fits (n := 0) h.ok h.fo.ok ho (by omega) ht hpar
        have hpi : ((parId H.F (q, x :: l) : Nat) : Int) = (o.shape : Int) := by omega
        have hnm : namesOf H.F to = x :: l := by unfold namesOf; rw [ht]
        simp only [hpi]
        by_cases hmx : (H.maxP : Int) ≤ ((keysP o.L).length : Int)
        · simp -implicitDefEqProofs only [↓Zd, (Zp), if_true, if_false, Nat.reduceEqDiff, reduceCtorEq, Nat.reduceAdd, Nat.reduceBEq, cld2, (HEx), (REx), hhs, hp0, hb0, g1, hmx]
          exact hbad 42 (by omega) (by unfold growE; rw [hat]; simp only [if_neg hs0, ht]; rw [if_neg (by omega), if_pos (by omega)])
        · have he : growE H ((j + 1 : Nat) : Int) to = 0 := by unfold growE; rw [hat]; simp only [if_neg hs0, ht]; rw [if_neg (by omega), if_neg (by omega)]
          have e1 : growH H ((j + 1 : Nat) : Int) to (k, n, y) = putO H ((j + 1 : Nat) : Int) { L := o.L ++ [(txt H.T x, k, n, y)], shape := to.toNat, proto := o.proto, epoch := o.epoch + 1 } := by unfold growH; rw [hat]; simp only [if_pos he, hnm]; rfl
          rw [e1] at hok hpr hR
          rw [he] at hR
          have htn : to = ((to.toNat : Nat) : Int) := by omega
          have hids := h.ok.ids _ _ f1 x (by simp)
          have hl12 := (h.fo.ok.names _ q (x :: l) f1).2
          simp -implicitDefEqProofs only [↓Zd, (Zp), if_true, if_false, Nat.reduceEqDiff, reduceCtorEq, Nat.reduceAdd, Nat.reduceBEq, cld2, (HEx), (REx), hhs, hp0, hb0, g1, hmx, co81]
          refine rfnames_spec h1'.fo hto fun v hv hvO => ?_
          rw [hnm] at hv
          have hlen : (x :: l).reverse.length = l.length + 1 := by simp
          obtain ⟨bv, vals, ow, ev, hbv, hgv⟩ := hv.get (k := l.length) (by omega)
          have hlast : (x :: l).reverse[l.length]'(by omega) = x := by simp
          rw [hlast] at hgv
          rw [hlen] at ev
          subst ev
          have wl : IntKind.i64.wrap (((l.length + 1 : Nat) : Int) - 1) = ((l.length : Nat) : Int) := by
            simp only [List.length_cons] at hl12
            rw [wrap_i64 (by omega)]; omega
          have hkv := ix_ok (n := l.length + 1) (j := l.length) (by omega)
          have hbvn : ¬ bv = s.next := by
            have := (h.own _ (hvO _ _ _ rfl).1).2
            simp only at this
            omega
          rw [St.at_new, if_neg hbvn] at hbv
          have hT := h.tn
          have htx : txtV H.T (x : Int) = .tuple #[.string (txt H.T x), .bool true] := by
            unfold txtV
            rw [if_pos (by omega), Int.toNat_natCast]
            rfl
          simp -implicitDefEqProofs only [↓Zd, (Zp), if_true, if_false, Nat.reduceEqDiff, reduceCtorEq, cld2, (HEx), (REx), hbvn, hbv, hgv, wl, hkv, co82]
          refine rttext_spec (by omega) h1'.bl h1'.ta ?_
          rw [htx]
          simp -implicitDefEqProofs only [↓Zd, (Zp), if_true, if_false, Nat.reduceEqDiff, Nat.reduceAdd, Nat.reduceLeDiff, Nat.reduceBEq, cut, cld2, (HEx), (REx), co76]
          refine rdset_spec hob hfr (h.ok.keys j o ho) (by omega) fun s7 ns7 vs7 hob7 hfr7 hU7 => ?_
          rw [setP_none _ _ _ f5] at hob7
          have g7 := hob7.bl
          simp -implicitDefEqProofs only [↓Zd, (Zp), if_true, if_false, Nat.reduceEqDiff, Nat.reduceAdd, Nat.reduceLeDiff, okPart, Value.cells, okCell, cld2, (HEx), (REx), g7, w1]
          rw [htn]
          have hob9 := (hob7.head hfr7 (.int .i64 (o.proto : Int)) (.int .i64 (o.epoch : Int)) (.int .i64 ((to.toNat : Nat) : Int))).head hfr7.put (.int .i64 (o.proto : Int)) (.int .i64 ((o.epoch + 1 : Nat) : Int)) (.int .i64 ((to.toNat : Nat) : Int))
          obtain ⟨O', tg', h8, hU8⟩ := (h1'.mono (N' := N + 3) (by omega)).setO (o' := { L := o.L ++ [(txt H.T x, k, n, y)], shape := to.toNat, proto := o.proto, epoch := o.epoch + 1 }) (by have := l1.1; omega) rfl hj hb hO ((hU7.trans (hang_put .b)).trans (hang_put .b)) hob9 hfr7.put.put (by show o.epoch + 1 ≤ _; omega) hok
          exact hR _ _ ⟨hpr, _, _, _, _, _, h8⟩ ((Upd.of_le l1).trans hU8)
      · have hz : ¬ ((parId H.F t : Nat) : Int) = (o.shape : Int) := by omega
        simp -implicitDefEqProofs only [↓Zd, (Zp), if_true, if_false, Nat.reduceEqDiff, Nat.reduceBEq, cld2, (HEx), hb0, g1, hz]
        exact hbad 2 (by omega) (by unfold growE; rw [hat]; simp only [if_neg hs0, ht]; rw [if_pos hpar])
end
end Go.Proofs.Tryz
