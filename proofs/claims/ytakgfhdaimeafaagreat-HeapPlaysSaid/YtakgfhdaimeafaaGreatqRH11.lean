/- The document's heaps: the walk of what sets prototypes. A lemma file: no statement of its own. -/
import Derived.Test.YtakgfhdaimeafaaGreatqFwF
import Derived.Test.YtakgfhdaimeafaaGreatqRH10
set_option linter.unusedSimpArgs false
set_option linter.unusedVariables false
set_option linter.unusedSectionVars false
namespace Go.Proofs.Tryz
open Go.Cs
open Go.RowKit (Below)
set_option maxRecDepth 100000
attribute [local irreducible] CCalls WLoop WScope CRound WRange
section
variable {M : Type} [Mem M] {w0 : World} {s s' : St M} {R : Value → St M → Prop} {lo p N pf : Nat} {H : Hp} {O : Nat → Prop} {tg : Nat → Nat} {sl tl : Value} {bs : List Nat}
set_option maxHeartbeats 16000000 in
theorem rsetproto_spec (h : RHpAt lo s p H N O) (hlo : lo ≤ s.next) {i q : Int} (hN : N + 3 ≤ 1000000)
    (hR : ∀ s' O', RHpAt lo s' p (protoH H i q) (N + 3) O' → Upd s s' O O' → R (.int .i64 (protoE H i q)) s') : CCalls Tryz.prog w0 33 #[.pointer (some ⟨p, 0, none⟩), .int .i64 i, .int .i64 q] s R := by
  refine wfun2 hmix ok33 (l := [.pointer (some ⟨p, 0, none⟩), .int .i64 i, .int .i64 q]) func33 rfl ntmps33 results33 (by simp) ?_
  obtain ⟨hpro, tg, pf, sl, tl, bs, h⟩ := h
  have hmono := h.mono (N' := N + 3) (by omega)
  have hno4 : protoE H i q = 4 → R (.int .i64 4) s := fun e => by
    have := hR s O
    rw [e] at this
    have e1 : protoH H i q = H := by unfold protoH; rw [if_neg (by omega)]
    rw [e1] at this
    exact this ⟨hpro, _, _, _, _, _, hmono⟩ .refl
  have hno32 : protoE H i q = 32 → R (.int .i64 32) s := fun e => by
    have := hR s O
    rw [e] at this
    have e1 : protoH H i q = H := by unfold protoH; rw [if_neg (by omega)]
    rw [e1] at this
    exact this ⟨hpro, _, _, _, _, _, hmono⟩ .refl
  cases hat : obAt H i with
  | none =>
    have e : protoE H i q = 4 := by unfold protoE; rw [if_pos (.inl hat)]
    simp -implicitDefEqProofs only [↓Zd, (Zp), if_true, if_false, Nat.reduceEqDiff, reduceCtorEq, co59]
    refine rhas_spec h ?_
    rw [hat]
    simp -implicitDefEqProofs only [↓Zd, (Zp), if_true, if_false, Nat.reduceEqDiff, (HEx)]
    exact hno4 e
  | some o =>
    obtain ⟨j, rfl, hj, ho⟩ := obAt_some hat
    obtain ⟨b, br, vs, own, ns, vv, hb, hB, esl, hbr, hg, hbrn, hob, hfr, hO⟩ := h.at ho
    have hk2 := ix_ok (n := bs.length) (j := j) (by rw [h.len]; exact hj)
    have wj := h.w hj
    have h1 := h.bl
    rw [esl] at h1
    have g1 := hob.bl
    have hep := hB.ep
    have w1 : IntKind.i64.wrap ((o.epoch : Int) + 1) = ((o.epoch + 1 : Nat) : Int) := by rw [wrap_i64 (by omega)]; omega
    have hlim := h.ok.lim
    obtain ⟨d, hd, hfew⟩ := deep_few h.ok
    by_cases q0 : q = 0
    · obtain rfl : q = ((0 : Nat) : Int) := by omega
      simp -implicitDefEqProofs only [↓Zd, (Zp), if_true, if_false, Nat.reduceEqDiff, reduceCtorEq, co59]
      refine rhas_spec h ?_
      rw [hat]
      have hqok : ¬ (obAt H ((j + 1 : Nat) : Int) = none ∨ (((0 : Nat) : Int) ≠ 0 ∧ obAt H ((0 : Nat) : Int) = none)) := by rintro (h | h); rw [hat] at h; cases h; exact h.1 rfl
      have hup : onB H ((j + 1 : Nat) : Int) ((0 : Nat) : Int) = false → HOk (putO H ((j + 1 : Nat) : Int) { o with proto := 0, epoch := o.epoch + 1 }) := fun hon => by
        unfold putO
        rw [show ((j + 1 : Nat) : Int).toNat - 1 = j by omega]
        exact h.ok.upd (F' := H.F) (T' := H.T) ho (fun _ _ h => h) (fun _ _ _ => rfl) (Nat.le_refl _) h.ok.nodup h.ok.ids (fun h2 => h.ok.fits j o ho h2) (h.ok.keys j o ho) (h.ok.lens j o ho) (proto_up h.ok ho (.inl rfl) hon rfl)
      have hst : 0 = 0 ∨ ∃ u, H.obs[0 - 1]? = some u ∧ d 0 + 0 < H.obs.length := .inl rfl
      simp -implicitDefEqProofs only [↓Zd, (Zp), if_true, if_false, Nat.reduceEqDiff, (HEx)]
      refine wloop_inv hmix (fun fuel env s1 => ∃ (k a : Nat), fuel = H.obs.length + 1 - k ∧ k ≤ H.obs.length ∧ env 8 = .int .i64 (k : Int) ∧ env 7 = .int .i64 (a : Int) ∧ env 0 = .pointer (some ⟨p, 0, none⟩) ∧ env 1 = .int .i64 ((j + 1 : Nat) : Int) ∧ env 2 = .int .i64 ((0 : Nat) : Int) ∧ s1 = s ∧ (∀ v, OnR H ((j + 1 : Nat) : Int) (a : Int) v → OnR H ((j + 1 : Nat) : Int) ((0 : Nat) : Int) v) ∧ (a = 0 ∨ ∃ u, H.obs[a - 1]? = some u ∧ d a + k < H.obs.length)) (H.obs.length + 1) ⟨0, 0, rfl, by omega, rfl, rfl, rfl, rfl, rfl, rfl, fun v hv => hv, hst⟩ ?_
      rintro fuel env s1 ⟨k, a, rfl, hk, e8, e7, e0, e1, e2, rfl, himp, hda⟩
      have hkl : (k : Int) ≤ (bs.length : Int) := by have := h.len; omega
      by_cases a0 : (a : Int) = 0
      · have hon : onB H ((j + 1 : Nat) : Int) ((0 : Nat) : Int) = false := (himp false (by rw [a0]; exact .zero (by omega))).eq
        have e : protoE H ((j + 1 : Nat) : Int) ((0 : Nat) : Int) = 0 := by unfold protoE; rw [if_neg hqok, if_neg (by rw [hon]; simp)]
        have hok := proto_ok h.ok ((j + 1 : Nat) : Int) ((0 : Nat) : Int)
        have hpr := proto_pro h.ok hpro ((j + 1 : Nat) : Int) ((0 : Nat) : Int)
        have hob2 := (hob.head hfr (.int .i64 ((0 : Nat) : Int)) (.int .i64 (o.epoch : Int)) (.int .i64 (o.shape : Int))).head hfr.put (.int .i64 ((0 : Nat) : Int)) (.int .i64 ((o.epoch + 1 : Nat) : Int)) (.int .i64 (o.shape : Int))
        obtain ⟨O2, tg2, h2, hU2⟩ := hmono.setO (o' := { o with proto := 0, epoch := o.epoch + 1 }) hlo rfl hj hb hO ((hang_put .b).trans (hang_put .b)) hob2 hfr.put.put (by show o.epoch + 1 ≤ _; omega) (hup hon)
        by_cases hsp : (0 : Int) < (o.shape : Int)
        · have h0 : ¬ o.shape = 0 := by omega
          have e3 : protoH H ((j + 1 : Nat) : Int) ((0 : Nat) : Int) = putO { H with F := moveF H.F H.most o.shape (0) } ((j + 1 : Nat) : Int) { o with proto := 0, epoch := o.epoch + 1, shape := moveN H.F H.most o.shape (0) } := by unfold protoH; rw [if_pos e, hat]; simp only [if_neg h0]; rfl
          rw [e3] at hok hpr hR
          rw [e] at hR
          have hsh : o.shape ≤ 150 := by
            obtain ⟨q0, l, h1, _⟩ := h.ok.fits j o ho (by omega)
            have := (List.getElem?_eq_some_iff.1 h1).1
            have := h.fo.le
            omega
          have hpb : ¬ p = b := fun e => by have h1 := h.pin.2; have h2 := (hO _ .b).2; rw [e] at h1; omega
          have hbrb : ¬ br = b := fun e => by have h1 := (h.rowO _ _ _ esl).2.1; have h2 := (hO _ .b).2; simp only at h1; rw [e] at h1; omega
          simp -implicitDefEqProofs only [↓Zd, (Zp), if_true, if_false, Nat.reduceEqDiff, reduceCtorEq, Nat.reduceAdd, Nat.reduceLeDiff, okPart, Value.cells, okCell, cld2, (HEx), (REx), e8, e7, e0, e1, e2, h1, hkl, a0, hbr, hg, hk2, wj, g1, w1, hsp, hpb, ord33, co78]
          refine rfmove_spec (q := 0) h2.fo (by simp only [St.next_put]; omega) (by omega) fun s4 O4 hF4 hU4 => ?_
          have h4 := h2.newF hU4 hF4 (move_ok h2.ok o.shape (0))
          have hj4 : (putO H ((j + 1 : Nat) : Int) { o with proto := 0, epoch := o.epoch + 1 }).obs[j]? = some { o with proto := 0, epoch := o.epoch + 1 } := putO_at (o := o) rfl hj
          obtain ⟨b', br', vs', own', ns5, vv5, hb', hB5, _, _, _, _, hob5, hfr5, hO5⟩ := h4.at hj4
          rw [hb] at hb'
          cases hb'
          have g5 := hob5.bl
          have hn4 := hU4.next
          simp only [St.next_put] at hn4
          simp -implicitDefEqProofs only [↓Zd, (Zp), if_true, if_false, Nat.reduceEqDiff, Nat.reduceAdd, Nat.reduceLeDiff, Nat.reduceBEq, okPart, Value.cells, okCell, (HEx), (REx), g5]
          obtain ⟨O', tg', h8, hU8⟩ := h4.setO (o' := { o with proto := 0, epoch := o.epoch + 1, shape := moveN H.F H.most o.shape (0) }) (by omega) rfl (by show j < (List.set _ _ _).length; rw [List.length_set]; exact hj) hb hO5 (hang_put .b) (hob5.head hfr5 (.int .i64 ((0 : Nat) : Int)) (.int .i64 ((o.epoch + 1 : Nat) : Int)) (.int .i64 ((moveN H.F H.most o.shape (0) : Nat) : Int))) hfr5.put (by show o.epoch + 1 ≤ _; omega) (by rw [putO_putF]; exact hok)
          rw [putO_putF] at h8
          exact hR _ _ ⟨hpr, _, _, _, _, _, h8⟩ ((hU2.trans (re_upd hU4)).trans hU8)
        · have h0 : o.shape = 0 := by omega
          have e3 : protoH H ((j + 1 : Nat) : Int) ((0 : Nat) : Int) = putO H ((j + 1 : Nat) : Int) { o with proto := 0, epoch := o.epoch + 1 } := by unfold protoH; rw [if_pos e, hat]; simp only [if_pos h0]; rfl
          rw [e3] at hok hpr hR
          rw [e] at hR
          simp -implicitDefEqProofs only [↓Zd, (Zp), if_true, if_false, Nat.reduceEqDiff, reduceCtorEq, Nat.reduceAdd, Nat.reduceLeDiff, okPart, Value.cells, okCell, cld2, (HEx), (REx), e8, e7, e0, e1, e2, h1, hkl, a0, hbr, hg, hk2, wj, g1, w1, hsp]
          exact hR _ _ ⟨hpr, _, _, _, _, _, h2⟩ hU2
      · rcases hda with hda | ⟨u, hu, hdu⟩
        · omega
        by_cases ai : (a : Int) = ((j + 1 : Nat) : Int)
        · have hon : onB H ((j + 1 : Nat) : Int) ((0 : Nat) : Int) = true := (himp true (by rw [ai]; exact .here)).eq
          have e : protoE H ((j + 1 : Nat) : Int) ((0 : Nat) : Int) = 32 := by unfold protoE; rw [if_neg hqok, if_pos hon]
          have aj : ¬ ((j + 1 : Nat) : Int) = 0 := by omega
          simp -implicitDefEqProofs only [↓Zd, (Zp), if_true, if_false, Nat.reduceEqDiff, reduceCtorEq, cld2, (REx), e8, e7, e0, e1, h1, hkl, ai, aj]
          exact hno32 e
        · have wk : IntKind.i64.wrap ((k : Int) + 1) = ((k + 1 : Nat) : Int) := by rw [wrap_i64 (by omega)]; omega
          have hau : obAt H (a : Int) = some u := by
            obtain ⟨a', rfl⟩ : ∃ a', a = a' + 1 := ⟨a - 1, by omega⟩
            rw [obAt_get]; exact hu
          have hpv : protoV H (a : Int) = (u.proto : Int) := by unfold protoV; rw [hau]
          simp -implicitDefEqProofs only [↓Zd, (Zp), if_true, if_false, Nat.reduceEqDiff, reduceCtorEq, cld2, (REx), e8, e7, e0, e1, h1, hkl, a0, ai, co57]
          refine rproto_spec h ?_
          rw [hpv]
          simp -implicitDefEqProofs only [↓Zd, (Zp), if_true, if_false, Nat.reduceEqDiff, reduceCtorEq, (HEx), e8, e7, e0, e1, e2, wk]
          refine ⟨H.obs.length + 1 - (k + 1), by omega, k + 1, u.proto, rfl, by omega, rfl, rfl, fun v hv => himp v (.up a0 ai (by rw [hpv]; exact hv)), ?_⟩
          rcases hd (a - 1) u hu with h0 | ⟨h3, h4⟩
          · exact .inl h0
          · by_cases hz : u.proto = 0
            · exact .inl hz
            · refine .inr ⟨H.obs[u.proto - 1]'(by omega), List.getElem?_eq_getElem _, ?_⟩
              rw [show a - 1 + 1 = a by omega] at h4
              omega
    · simp -implicitDefEqProofs only [↓Zd, (Zp), if_true, if_false, Nat.reduceEqDiff, reduceCtorEq, co59]
      refine rhas_spec h ?_
      rw [hat]
      simp -implicitDefEqProofs only [↓Zd, (Zp), if_true, if_false, Nat.reduceEqDiff, reduceCtorEq, (HEx), q0, co59]
      refine rhas_spec h ?_
      cases hat2 : obAt H q with
      | none =>
        have e : protoE H ((j + 1 : Nat) : Int) q = 4 := by unfold protoE; rw [if_pos (.inr ⟨q0, hat2⟩)]
        simp -implicitDefEqProofs only [↓Zd, (Zp), if_true, if_false, Nat.reduceEqDiff, (HEx)]
        exact hno4 e
      | some o2 =>
        obtain ⟨j2, rfl, hj2, ho2⟩ := obAt_some hat2
        have hqok : ¬ (obAt H ((j + 1 : Nat) : Int) = none ∨ (((j2 + 1 : Nat) : Int) ≠ 0 ∧ obAt H ((j2 + 1 : Nat) : Int) = none)) := by rintro (h | h); rw [hat] at h; cases h; rw [hat2] at h; cases h.2
        have hup : onB H ((j + 1 : Nat) : Int) ((j2 + 1 : Nat) : Int) = false → HOk (putO H ((j + 1 : Nat) : Int) { o with proto := j2 + 1, epoch := o.epoch + 1 }) := fun hon => by
          unfold putO
          rw [show ((j + 1 : Nat) : Int).toNat - 1 = j by omega]
          exact h.ok.upd (F' := H.F) (T' := H.T) ho (fun _ _ h => h) (fun _ _ _ => rfl) (Nat.le_refl _) h.ok.nodup h.ok.ids (fun h2 => h.ok.fits j o ho h2) (h.ok.keys j o ho) (h.ok.lens j o ho) (proto_up h.ok ho (.inr (by omega)) hon rfl)
        have hst : j2 + 1 = 0 ∨ ∃ u, H.obs[j2 + 1 - 1]? = some u ∧ d (j2 + 1) + 0 < H.obs.length := .inr ⟨o2, ho2, by have := hfew j2 hj2; omega⟩
        simp -implicitDefEqProofs only [↓Zd, (Zp), if_true, if_false, Nat.reduceEqDiff, (HEx)]
        refine wloop_inv hmix (fun fuel env s1 => ∃ (k a : Nat), fuel = H.obs.length + 1 - k ∧ k ≤ H.obs.length ∧ env 8 = .int .i64 (k : Int) ∧ env 7 = .int .i64 (a : Int) ∧ env 0 = .pointer (some ⟨p, 0, none⟩) ∧ env 1 = .int .i64 ((j + 1 : Nat) : Int) ∧ env 2 = .int .i64 ((j2 + 1 : Nat) : Int) ∧ s1 = s ∧ (∀ v, OnR H ((j + 1 : Nat) : Int) (a : Int) v → OnR H ((j + 1 : Nat) : Int) ((j2 + 1 : Nat) : Int) v) ∧ (a = 0 ∨ ∃ u, H.obs[a - 1]? = some u ∧ d a + k < H.obs.length)) (H.obs.length + 1) ⟨0, j2 + 1, rfl, by omega, rfl, rfl, rfl, rfl, rfl, rfl, fun v hv => hv, hst⟩ ?_
        rintro fuel env s1 ⟨k, a, rfl, hk, e8, e7, e0, e1, e2, rfl, himp, hda⟩
        have hkl : (k : Int) ≤ (bs.length : Int) := by have := h.len; omega
        by_cases a0 : (a : Int) = 0
        · have hon : onB H ((j + 1 : Nat) : Int) ((j2 + 1 : Nat) : Int) = false := (himp false (by rw [a0]; exact .zero (by omega))).eq
          have e : protoE H ((j + 1 : Nat) : Int) ((j2 + 1 : Nat) : Int) = 0 := by unfold protoE; rw [if_neg hqok, if_neg (by rw [hon]; simp)]
          have hok := proto_ok h.ok ((j + 1 : Nat) : Int) ((j2 + 1 : Nat) : Int)
          have hpr := proto_pro h.ok hpro ((j + 1 : Nat) : Int) ((j2 + 1 : Nat) : Int)
          have hob2 := (hob.head hfr (.int .i64 ((j2 + 1 : Nat) : Int)) (.int .i64 (o.epoch : Int)) (.int .i64 (o.shape : Int))).head hfr.put (.int .i64 ((j2 + 1 : Nat) : Int)) (.int .i64 ((o.epoch + 1 : Nat) : Int)) (.int .i64 (o.shape : Int))
          obtain ⟨O2, tg2, h2, hU2⟩ := hmono.setO (o' := { o with proto := j2 + 1, epoch := o.epoch + 1 }) hlo rfl hj hb hO ((hang_put .b).trans (hang_put .b)) hob2 hfr.put.put (by show o.epoch + 1 ≤ _; omega) (hup hon)
          by_cases hsp : (0 : Int) < (o.shape : Int)
          · have h0 : ¬ o.shape = 0 := by omega
            have e3 : protoH H ((j + 1 : Nat) : Int) ((j2 + 1 : Nat) : Int) = putO { H with F := moveF H.F H.most o.shape (j2 + 1) } ((j + 1 : Nat) : Int) { o with proto := j2 + 1, epoch := o.epoch + 1, shape := moveN H.F H.most o.shape (j2 + 1) } := by unfold protoH; rw [if_pos e, hat]; simp only [if_neg h0]; rfl
            rw [e3] at hok hpr hR
            rw [e] at hR
            have hsh : o.shape ≤ 150 := by
              obtain ⟨q0, l, h1, _⟩ := h.ok.fits j o ho (by omega)
              have := (List.getElem?_eq_some_iff.1 h1).1
              have := h.fo.le
              omega
            have hpb : ¬ p = b := fun e => by have h1 := h.pin.2; have h2 := (hO _ .b).2; rw [e] at h1; omega
            have hbrb : ¬ br = b := fun e => by have h1 := (h.rowO _ _ _ esl).2.1; have h2 := (hO _ .b).2; simp only at h1; rw [e] at h1; omega
            simp -implicitDefEqProofs only [↓Zd, (Zp), if_true, if_false, Nat.reduceEqDiff, reduceCtorEq, Nat.reduceAdd, Nat.reduceLeDiff, okPart, Value.cells, okCell, cld2, (HEx), (REx), e8, e7, e0, e1, e2, h1, hkl, a0, hbr, hg, hk2, wj, g1, w1, hsp, hpb, ord33, co78]
            refine rfmove_spec (q := j2 + 1) h2.fo (by simp only [St.next_put]; omega) (by omega) fun s4 O4 hF4 hU4 => ?_
            have h4 := h2.newF hU4 hF4 (move_ok h2.ok o.shape (j2 + 1))
            have hj4 : (putO H ((j + 1 : Nat) : Int) { o with proto := j2 + 1, epoch := o.epoch + 1 }).obs[j]? = some { o with proto := j2 + 1, epoch := o.epoch + 1 } := putO_at (o := o) rfl hj
            obtain ⟨b', br', vs', own', ns5, vv5, hb', hB5, _, _, _, _, hob5, hfr5, hO5⟩ := h4.at hj4
            rw [hb] at hb'
            cases hb'
            have g5 := hob5.bl
            have hn4 := hU4.next
            simp only [St.next_put] at hn4
            simp -implicitDefEqProofs only [↓Zd, (Zp), if_true, if_false, Nat.reduceEqDiff, Nat.reduceAdd, Nat.reduceLeDiff, Nat.reduceBEq, okPart, Value.cells, okCell, (HEx), (REx), g5]
            obtain ⟨O', tg', h8, hU8⟩ := h4.setO (o' := { o with proto := j2 + 1, epoch := o.epoch + 1, shape := moveN H.F H.most o.shape (j2 + 1) }) (by omega) rfl (by show j < (List.set _ _ _).length; rw [List.length_set]; exact hj) hb hO5 (hang_put .b) (hob5.head hfr5 (.int .i64 ((j2 + 1 : Nat) : Int)) (.int .i64 ((o.epoch + 1 : Nat) : Int)) (.int .i64 ((moveN H.F H.most o.shape (j2 + 1) : Nat) : Int))) hfr5.put (by show o.epoch + 1 ≤ _; omega) (by rw [putO_putF]; exact hok)
            rw [putO_putF] at h8
            exact hR _ _ ⟨hpr, _, _, _, _, _, h8⟩ ((hU2.trans (re_upd hU4)).trans hU8)
          · have h0 : o.shape = 0 := by omega
            have e3 : protoH H ((j + 1 : Nat) : Int) ((j2 + 1 : Nat) : Int) = putO H ((j + 1 : Nat) : Int) { o with proto := j2 + 1, epoch := o.epoch + 1 } := by unfold protoH; rw [if_pos e, hat]; simp only [if_pos h0]; rfl
            rw [e3] at hok hpr hR
            rw [e] at hR
            simp -implicitDefEqProofs only [↓Zd, (Zp), if_true, if_false, Nat.reduceEqDiff, reduceCtorEq, Nat.reduceAdd, Nat.reduceLeDiff, okPart, Value.cells, okCell, cld2, (HEx), (REx), e8, e7, e0, e1, e2, h1, hkl, a0, hbr, hg, hk2, wj, g1, w1, hsp]
            exact hR _ _ ⟨hpr, _, _, _, _, _, h2⟩ hU2
        · rcases hda with hda | ⟨u, hu, hdu⟩
          · omega
          by_cases ai : (a : Int) = ((j + 1 : Nat) : Int)
          · have hon : onB H ((j + 1 : Nat) : Int) ((j2 + 1 : Nat) : Int) = true := (himp true (by rw [ai]; exact .here)).eq
            have e : protoE H ((j + 1 : Nat) : Int) ((j2 + 1 : Nat) : Int) = 32 := by unfold protoE; rw [if_neg hqok, if_pos hon]
            have aj : ¬ ((j + 1 : Nat) : Int) = 0 := by omega
            simp -implicitDefEqProofs only [↓Zd, (Zp), if_true, if_false, Nat.reduceEqDiff, reduceCtorEq, cld2, (REx), e8, e7, e0, e1, h1, hkl, ai, aj]
            exact hno32 e
          · have wk : IntKind.i64.wrap ((k : Int) + 1) = ((k + 1 : Nat) : Int) := by rw [wrap_i64 (by omega)]; omega
            have hau : obAt H (a : Int) = some u := by
              obtain ⟨a', rfl⟩ : ∃ a', a = a' + 1 := ⟨a - 1, by omega⟩
              rw [obAt_get]; exact hu
            have hpv : protoV H (a : Int) = (u.proto : Int) := by unfold protoV; rw [hau]
            simp -implicitDefEqProofs only [↓Zd, (Zp), if_true, if_false, Nat.reduceEqDiff, reduceCtorEq, cld2, (REx), e8, e7, e0, e1, h1, hkl, a0, ai, co57]
            refine rproto_spec h ?_
            rw [hpv]
            simp -implicitDefEqProofs only [↓Zd, (Zp), if_true, if_false, Nat.reduceEqDiff, reduceCtorEq, (HEx), e8, e7, e0, e1, e2, wk]
            refine ⟨H.obs.length + 1 - (k + 1), by omega, k + 1, u.proto, rfl, by omega, rfl, rfl, fun v hv => himp v (.up a0 ai (by rw [hpv]; exact hv)), ?_⟩
            rcases hd (a - 1) u hu with h0 | ⟨h3, h4⟩
            · exact .inl h0
            · by_cases hz : u.proto = 0
              · exact .inl hz
              · refine .inr ⟨H.obs[u.proto - 1]'(by omega), List.getElem?_eq_getElem _, ?_⟩
                rw [show a - 1 + 1 = a by omega] at h4
                omega
end
end Go.Proofs.Tryz
