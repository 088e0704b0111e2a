/- HP9, HP10, HP11, HP12, laid one behind the other. A lemma file: no statement of its own. -/
import Derived.Test.YtnkichmojbanlaaGreatqFwF
import Derived.Test.YtnkichmojbanlaaGreatqHPM
import Derived.Test.YtnkichmojbanlaaGreatqShow
import Derived.Test.YtnkichmojbanlaaGreatqBld
set_option linter.unusedSimpArgs false
set_option linter.unusedVariables false
set_option linter.unusedSectionVars false
namespace Go.Proofs.Tryz
open Go.Cs
open Go.RowKit (Below)
set_option maxRecDepth 100000
attribute [local irreducible] CCalls WLoop WScope CRound WRange
section
variable {M : Type} [Mem M] {w0 : World} {s : St M} {R : Value → St M → Prop} {lo p N : Nat} {H : Hp} {O : Nat → Prop}
set_option maxHeartbeats 8000000 in
theorem hdel_spec (h : HpAt lo s p H N O) (hlo : lo ≤ s.next) {i : Int} {x : ByteArray} (hN : N + 3 ≤ 1000000) (hN2 : 32 ≤ N) (hi : -9223372036854775808 ≤ i ∧ i ≤ 9223372036854775807)
    (hR : ∀ s' O', HpAt lo s' p (delH H i x) (N + 3) O' → Upd s s' O O' → R (.bool (delB H i x)) s') : CCalls Tryz.prog w0 22 #[.pointer (some ⟨p, 0, none⟩), .int .i64 i, .string x] s R := by
  refine wfun2 hmix ok22 (l := [.pointer (some ⟨p, 0, none⟩), .int .i64 i, .string x]) func22 rfl ntmps22 results22 (by simp) ?_
  obtain ⟨hpro, tg, pf, pn, sl, bs, h⟩ := h
  simp -implicitDefEqProofs only [↓Zd, (Zp), if_true, if_false, Nat.reduceEqDiff, reduceCtorEq, co58]
  refine hfind_spec h hi (fun hno => ?_) (fun j b o hij hb ho hat => ?_)
  · have e1 : delH H i x = H := by unfold delH; rw [hno]
    have e2 : delB H i x = false := by unfold delB; rw [hno]; rfl
    rw [e1, e2] at hR
    simp -implicitDefEqProofs only [↓Zd, (Zp), if_true, if_false, Nat.reduceEqDiff, (HEx)]
    exact hR _ _ ⟨hpro, tg, pf, pn, sl, bs, h.mono (by omega)⟩ .refl
  · have hj := (List.getElem?_eq_some_iff.1 ho).1
    simp -implicitDefEqProofs only [↓Zd, (Zp), if_true, if_false, Nat.reduceEqDiff, reduceCtorEq, (HEx), co59]
    refine hown0_spec h hb ho fun s1 hs1 => ?_
    have hn1 := hs1.1
    cases hg : getP o.L x with
    | none =>
      have e1 : delH H i x = H := by unfold delH; rw [hat]; simp only [hg, Option.isSome_none, Bool.false_eq_true, if_false]
      have e2 : delB H i x = false := by unfold delB; rw [hat]; simp only [Option.bind_some, hg, Option.isSome_none]
      rw [e1, e2] at hR
      simp only [gotV]
      simp -implicitDefEqProofs only [↓Zd, (Zp), if_true, if_false, Nat.reduceEqDiff, Nat.reduceAdd, Nat.reduceLeDiff, okPart, Value.cells, okCell, (HEx), vA]
      have l2 : s.le ((s1.new (.cells [.int .i64 0, .int .i64 0, .string ⟨#[]⟩] 36 true)).put s1.next (.cells [.int .i64 0, .int .i64 0, .string ⟨#[]⟩] 36 true)) := St.le_put (St.le_new hs1) (by omega)
      exact hR _ _ ⟨hpro, tg, pf, pn, sl, bs, (h.le l2).mono (by omega)⟩ (.of_le l2)
    | some w =>
      obtain ⟨v1, v2, v3⟩ := w
      have e1 : delH H i x = putO H i { L := delP o.L x, shape := 0, proto := o.proto, epoch := o.epoch + 1 } := by unfold delH; rw [hat]; simp only [hg, Option.isSome_some, if_true]
      have e2 : delB H i x = true := by unfold delB; rw [hat]; simp only [Option.bind_some, hg, Option.isSome_some]
      have hok := del_ok h.ok i x
      have hpr := del_pro hpro i x
      rw [e1] at hok hpr
      rw [e1, e2] at hR
      have hok1 := bump_ok h.ok hat (o.epoch + 1)
      have l2 : s.le ((s1.new (.cells [.int .i64 0, .int .i64 0, .string ⟨#[]⟩] 36 true)).put s1.next (.cells [.int .i64 v1, .int .i64 v2, .string v3] 36 true)) := St.le_put (St.le_new hs1) (by omega)
      have h2 := h.le l2
      have hB := h2.obj j b o hb ho
      obtain ⟨t, v, hc⟩ := hB.cells
      have hbn := (h.own b hB.pin.1).2
      have hep := hB.ep
      have w1 : IntKind.i64.wrap ((o.epoch : Int) + 1) = ((o.epoch + 1 : Nat) : Int) := by rw [wrap_i64 (by omega)]; omega
      have hbs : ¬ b = s1.next := by omega
      have hc1 : s1.at' b = some (.cells [.iface t v, .int .i64 (o.proto : Int), .int .i64 (o.epoch : Int)] 119 true) := by
        rw [St.at_put, if_neg hbs, St.at_new, if_neg hbs] at hc; exact hc
      simp only [gotV, vOf]
      simp -implicitDefEqProofs only [↓Zd, (Zp), if_true, if_false, Nat.reduceEqDiff, reduceCtorEq, Nat.reduceAdd, Nat.reduceLeDiff, okPart, Value.cells, okCell, cld2, (HEx), vA, hc1, hbs, w1, co66]
      have hB1 := hB.head hc o.proto (o.epoch + 1) (N' := N + 1) (by omega) (by omega)
      have h3 := (h2.mono (N' := N + 1) (by omega)).setO hij hj hb (upd_put hB.pin) hB1 hok1
      have hU3 := re_upd (tg := tg) (k := j + 3) (upd_put (s := (s1.new (.cells [.int .i64 0, .int .i64 0, .string ⟨#[]⟩] 36 true)).put s1.next (.cells [.int .i64 v1, .int .i64 v2, .string v3] 36 true)) (B := .cells [.iface t v, .int .i64 (o.proto : Int), .int .i64 ((o.epoch + 1 : Nat) : Int)] 119 true) hB.pin)
      have ho3 : (putO H i { o with epoch := o.epoch + 1 }).obs[j]? = some { o with epoch := o.epoch + 1 } := putO_at (o := o) hij hj
      refine hloosen_spec h3 (by simp only [St.next_put, St.next_new]; omega) (by omega) (by omega) hb ho3 fun s4 pd4 OD4 hb4 hD4 ho4 hne4 hn4 hk4 => ?_
      simp -implicitDefEqProofs only [↓Zd, (Zp), if_true, if_false, Nat.reduceEqDiff, (HEx), co68]
      refine ddel_spec hD4 (by omega) (fun s5 hD5 hn5 hk5 => ?_) (by rw [hg]; rfl)
      rw [hg]
      simp -implicitDefEqProofs only [↓Zd, (Zp), if_true, if_false, Nat.reduceEqDiff, (HEx)]
      obtain ⟨hB5, hU5⟩ := loose_end (O3 := reO O tg (j + 3) (fun c => O c ∧ tg c = j + 3)) (tg3 := reT tg (j + 3) (fun c => O c ∧ tg c = j + 3)) (re_pin hB.pin) ⟨(hB.own b hB.pin).1, by simp only [St.next_put, St.next_new]; omega⟩ hb4 ho4 hne4 hn4 hk4 hD5 hn5 hk5 (fun c hc => .inl hc) (by show o.epoch + 1 ≤ _; omega)
      have h5 := h3.setO hij (by simp only [putO, List.length_set]; exact hj) hb hU5 hB5 (by rw [putO_put]; exact hok)
      rw [putO_put] at h5
      exact hR _ _ ⟨hpr, _, _, _, _, _, h5.mono (by omega)⟩ ((Upd.of_le l2).trans (hU3.trans (re_upd hU5)))
set_option maxHeartbeats 8000000 in
theorem hput_spec (h : HpAt lo s p H N O) {i q : Int} {y : ByteArray} {k n : Int} (hi : -9223372036854775808 ≤ i ∧ i ≤ 9223372036854775807) (hq : -9223372036854775808 ≤ q ∧ q ≤ 9223372036854775807)
    (hR : ∀ s' O', HpAt lo s' p (putH H i q (k, n, y)) N O' → Upd s s' O O' → R (.bool (slotG H i q).isSome) s') : CCalls Tryz.prog w0 61 #[.pointer (some ⟨p, 0, none⟩), .int .i64 i, .int .i64 q, vA k n y] s R := by
  refine wfun2 hmix ok61 (l := [.pointer (some ⟨p, 0, none⟩), .int .i64 i, .int .i64 q, vA k n y]) func61 rfl ntmps61 results61 (by simp) ?_
  obtain ⟨hpro, tg, pf, pn, sl, bs, h⟩ := h
  have hok := put_ok h.ok i q (k, n, y)
  have hpr := put_pro hpro i q (k, n, y)
  have l1 : s.le (s.new (.cells [.int .i64 k, .int .i64 n, .string y] 36 true)) := St.le_new (St.le_refl _)
  simp -implicitDefEqProofs only [↓Zd, (Zp), if_true, if_false, Nat.reduceEqDiff, reduceCtorEq, okPart, Value.cells, (HEx), vA, co35]
  refine hslotted_spec (h.le l1) hi (fun hno => ?_) (fun j b o ps sv hij hb ho hat h0 h1 h2 h3 h4 h5 h6 => ?_)
  · have e1 : putH H i q (k, n, y) = H := by
      unfold putH
      rcases hno with h | ⟨o, h, h0⟩
      · rw [h]
      · rw [h]; simp only [h0, if_true]
    have e2 : slotG H i q = none := by
      unfold slotG
      rcases hno with h | ⟨o, h, h0⟩
      · rw [h]
      · rw [h]; simp [h0]
    rw [e1, e2] at hR
    simp -implicitDefEqProofs only [↓Zd, (Zp), if_true, if_false, Nat.reduceEqDiff, (HEx), vA]
    exact hR _ _ ⟨hpro, tg, pf, pn, sl, bs, h.le l1⟩ (.of_le l1)
  · have hj := (List.getElem?_eq_some_iff.1 ho).1
    have hs0 : ¬ o.shape = 0 := by omega
    have hml : o.L.length ≤ 32 := by have := h.ok.lens j o ho; have := h.ok.lim; omega
    obtain ⟨an, cn, rfl⟩ : ∃ a c, sv = .slice a o.L.length c := by
      rcases h5 with ⟨e1, _, rfl⟩ | ⟨b2, junk, rfl, _⟩
      · exact ⟨none, 0, by rw [e1]⟩
      · exact ⟨_, _, rfl⟩
    by_cases k1 : q < 0
    · have e1 : putH H i q (k, n, y) = H := by unfold putH; rw [hat]; simp only [if_neg hs0]; rw [if_neg (by omega)]
      have e2 : slotG H i q = none := by unfold slotG; rw [hat]; simp only [if_neg hs0]; rw [if_neg (by omega)]
      rw [e1, e2] at hR
      simp -implicitDefEqProofs only [↓Zd, (Zp), if_true, if_false, Nat.reduceEqDiff, (HEx), vA, k1]
      exact hR _ _ ⟨hpro, tg, pf, pn, sl, bs, h.le l1⟩ (.of_le l1)
    · by_cases k2 : (o.L.length : Int) ≤ q
      · have e3 : o.L[q.toNat]? = none := List.getElem?_eq_none (by omega)
        have e1 : putH H i q (k, n, y) = H := by unfold putH; rw [hat]; simp only [if_neg hs0]; rw [if_pos (by omega), e3]
        have e2 : slotG H i q = none := by unfold slotG; rw [hat]; simp only [if_neg hs0]; rw [if_pos (by omega), e3]; rfl
        rw [e1, e2] at hR
        simp -implicitDefEqProofs only [↓Zd, (Zp), if_true, if_false, Nat.reduceEqDiff, cld2, (HEx), vA, h2, k1, k2]
        exact hR _ _ ⟨hpro, tg, pf, pn, sl, bs, h.le l1⟩ (.of_le l1)
      · obtain ⟨m, rfl⟩ : ∃ m : Nat, q = (m : Int) := ⟨q.toNat, by omega⟩
        have hmlt : m < o.L.length := by omega
        obtain ⟨x, v, hg⟩ : ∃ x v, o.L[m]? = some (x, v) := ⟨o.L[m].1, o.L[m].2, by simp [hmlt]⟩
        have e1 : putH H i (m : Int) (k, n, y) = putO H i { o with L := o.L.set m (x, k, n, y) } := by unfold putH; rw [hat]; simp only [if_neg hs0]; rw [if_pos (by omega), Int.toNat_natCast, hg]
        have e2 : (slotG H i (m : Int)).isSome = true := by unfold slotG; rw [hat]; simp only [if_neg hs0]; rw [if_pos (by omega), Int.toNat_natCast, hg]; rfl
        rw [e1] at hok hpr
        rw [e1, e2] at hR
        rcases h5 with ⟨e0, _⟩ | ⟨b2, junk, e5, hb2, _⟩
        · omega
        cases e5
        have hb2O := h6 _ _ _ rfl
        simp only at hb2O
        have hb2n := (h.own b2 hb2O.1.1).2
        have hne : ¬ b2 = s.next := by omega
        have hb2' : s.at' b2 = some (.cells (valsC o.L ++ junk) 36 true) := by rw [St.at_new, if_neg hne] at hb2; exact hb2
        obtain ⟨c1, c2⟩ := valsC_cut o.L m _ _ junk hg
        have hset := valsC_set o.L m x (k, n, y) _ junk hg
        have hkk : (0 : Int) ≤ (m : Int) ∧ (m : Int) < (o.L.length : Int) := by omega
        simp -implicitDefEqProofs only [↓Zd, (Zp), if_true, if_false, Nat.reduceEqDiff, Nat.reduceAdd, Nat.reduceLeDiff, okPart, Value.cells, cut, okCell, cld2, (HEx), vA, h2, k1, k2, hb2, hkk, c1, hset, ord61]
        have hB := (h.le l1).obj j b o hb ho
        have h3' := (h.le l1).setO (o' := { o with L := o.L.set m (x, k, n, y) }) (s' := (s.new (.cells [.int .i64 k, .int .i64 n, .string y] 36 true)).put b2 (.cells (valsC (o.L.set m (x, k, n, y)) ++ junk) 36 true)) hij hj hb (upd_put hb2O.1) ⟨fun c hc => hB.own c hc, hB.pin, hB.ep, .inr ⟨h0, ps, _, by rw [St.at_put, if_neg (fun e : b = b2 => hb2O.2.1 e.symm)]; exact h1, by rw [St.at_put, if_neg (fun e : ps = b2 => hb2O.2.2 e.symm)]; exact h2, h3, h4, .inr ⟨b2, junk, by rw [List.length_set], by rw [St.at_put, if_pos rfl], valsC_len _⟩, fun q n c e => by cases e; exact hb2O⟩⟩ hok
        exact hR _ _ ⟨hpr, _, _, _, _, _, h3'⟩ ((Upd.of_le l1).trans (re_upd (upd_put hb2O.1)))
theorem putO_putF (H : Hp) (F' : List Sh) (i : Int) (a b : Ob) : putO { putO H i a with F := F' } i b = putO { H with F := F' } i b := by
  unfold putO; simp only [List.set_set]
theorem move_ok {H : Hp} (h : HOk H) (n q : Nat) : HOk { H with F := moveF H.F H.most n q } :=
  h.more (fun j t ht => move_pre ht) (fun _ _ _ => rfl) (Nat.le_refl _) h.nodup (move_ids h.ids)
set_option maxHeartbeats 8000000 in
theorem hsetproto_spec (h : HpAt lo s p H N O) (hlo : lo ≤ s.next) {i q : Int} (hN : N + 3 ≤ 1000000) (hN2 : 32 ≤ N) (hi : -9223372036854775808 ≤ i ∧ i ≤ 9223372036854775807) (hq : -9223372036854775808 ≤ q ∧ q ≤ 9223372036854775807)
    (hR : ∀ s' O', HpAt lo s' p (protoH H i q) (N + 3) O' → Upd s s' O O' → R (.int .i64 (protoE H i q)) s') : CCalls Tryz.prog w0 23 #[.pointer (some ⟨p, 0, none⟩), .int .i64 i, .int .i64 q] s R := by
  refine wfun2 hmix ok23 (l := [.pointer (some ⟨p, 0, none⟩), .int .i64 i, .int .i64 q]) func23 rfl ntmps23 results23 (by simp) ?_
  obtain ⟨hpro, tg, pf, pn, sl, bs, h⟩ := h
  have hmono := h.mono (N' := N + 3) (by omega)
  have hno4 : protoE H i q = 4 → R (.int .i64 4) s := fun e => by
    have := hR s O
    rw [e] at this
    have e1 : protoH H i q = H := by unfold protoH; rw [if_neg (by omega)]
    rw [e1] at this
    exact this ⟨hpro, _, _, _, _, _, hmono⟩ .refl
  have hno32 : protoE H i q = 32 → R (.int .i64 32) s := fun e => by
    have := hR s O
    rw [e] at this
    have e1 : protoH H i q = H := by unfold protoH; rw [if_neg (by omega)]
    rw [e1] at this
    exact this ⟨hpro, _, _, _, _, _, hmono⟩ .refl
  have hhb := h.bl
  simp -implicitDefEqProofs only [↓Zd, (Zp), if_true, if_false, Nat.reduceEqDiff, reduceCtorEq, co48]
  refine hdead_spec h ?_
  simp -implicitDefEqProofs only [↓Zd, (Zp), if_true, if_false, Nat.reduceEqDiff, reduceCtorEq, (HEx), co58]
  refine hfind_spec h hi (fun hno => ?_) (fun j b o hij hb ho hat => ?_)
  · have e : protoE H i q = 4 := by unfold protoE; rw [if_pos (.inl hno)]
    simp -implicitDefEqProofs only [↓Zd, (Zp), if_true, if_false, Nat.reduceEqDiff, (HEx)]
    exact hno4 e
  · have hj := (List.getElem?_eq_some_iff.1 ho).1
    have hrest : (q = 0 ∨ ∃ u, obAt H q = some u) → CCalls Tryz.prog w0 69 #[.pointer (some ⟨p, 0, none⟩), .int .i64 i, .int .i64 q] s (fun v s' => s' = s ∧ v = .bool (onB H i q)) := fun hq => by
      refine hon_spec h (by omega) ?_ fun b hb => ⟨rfl, by rw [hb.eq]⟩
      rcases hq with h | ⟨u, h⟩
      · exact .inl h
      · obtain ⟨m, hm, hm2, _⟩ := obAt_some h
        right; omega
    by_cases qn0 : q < 0
    · have q0 : ¬ q = 0 := by omega
      have hqn : obAt H q = none := obAt_none.2 (by omega)
      have e : protoE H i q = 4 := by unfold protoE; rw [if_pos (.inr ⟨q0, hqn⟩)]
      simp -implicitDefEqProofs only [↓Zd, (Zp), if_true, if_false, Nat.reduceEqDiff, reduceCtorEq, (HEx), q0, co58]
      refine hfind_spec h hq (fun _ => ?_) (fun j2 b2 o2 hij2 hb2 ho2 hat2 => by rw [hqn] at hat2; cases hat2)
      simp -implicitDefEqProofs only [↓Zd, (Zp), if_true, if_false, Nat.reduceEqDiff, (HEx)]
      exact hno4 e
    · obtain ⟨qn, rfl⟩ : ∃ qn : Nat, q = (qn : Int) := ⟨q.toNat, by omega⟩
      have hB := h.obj j b o hb ho
      have hbn := (hB.own b hB.pin).2
      have hep := hB.ep
      have w1 : IntKind.i64.wrap ((o.epoch : Int) + 1) = ((o.epoch + 1 : Nat) : Int) := by rw [wrap_i64 (by omega)]; omega
      have hpb : ¬ p = b := fun e => by have h1 := h.pin.2; have h2 := hB.pin.2; rw [e] at h1; omega
      by_cases q0 : qn = 0
      · subst q0
        simp -implicitDefEqProofs only [↓Zd, (Zp), if_true, if_false, Nat.reduceEqDiff, reduceCtorEq, (HEx), co69]
        refine CCalls.mono (hrest (.inl rfl)) fun v s' hv => ?_
        obtain ⟨rfl, rfl⟩ := hv
        have hqok : ¬ (obAt H i = none ∨ (((0 : Nat) : Int) ≠ 0 ∧ obAt H ((0 : Nat) : Int) = none)) := by rintro (h | h); rw [hat] at h; cases h; exact h.1 rfl
        have hup : onB H i ((0 : Nat) : Int) = false → HOk (putO H i { o with proto := 0, epoch := o.epoch + 1 }) := fun hon => by
          subst hij
          unfold putO
          rw [show ((j + 1 : Nat) : Int).toNat - 1 = j by omega]
          exact h.ok.upd (F' := H.F) (T' := H.T) ho (fun _ _ h => h) (fun _ _ _ => rfl) (Nat.le_refl _) h.ok.nodup h.ok.ids (fun h2 => h.ok.fits j o ho h2) (h.ok.keys j o ho) (h.ok.lens j o ho) (proto_up h.ok ho (.inl rfl) hon rfl)
        cases hon : onB H i ((0 : Nat) : Int) with
        | true =>
          have e : protoE H i ((0 : Nat) : Int) = 32 := by unfold protoE; rw [if_neg hqok, if_pos hon]
          simp -implicitDefEqProofs only [↓Zd, (Zp), if_true, if_false, Nat.reduceEqDiff, (HEx)]
          exact hno32 e
        | false =>
          have e : protoE H i ((0 : Nat) : Int) = 0 := by unfold protoE; rw [if_neg hqok, if_neg (by rw [hon]; simp)]
          have hok := proto_ok h.ok i ((0 : Nat) : Int)
          have hpr := proto_pro h.ok hpro i ((0 : Nat) : Int)
          have hok1 := hup hon
          rcases hB.bl with ⟨h0, pd, OD, g1, g2, g3⟩ | ⟨h0, ps, sv, g1, g2, g3, g4, g5, g6⟩
          · have e1 : protoH H i ((0 : Nat) : Int) = putO H i { o with proto := 0, epoch := o.epoch + 1 } := by unfold protoH; rw [if_pos e, hat]; simp only [if_pos h0]; rfl
            rw [e1] at hok hpr hR
            rw [e] at hR
            simp -implicitDefEqProofs only [↓Zd, (Zp), if_true, if_false, Nat.reduceEqDiff, Nat.reduceAdd, Nat.reduceLeDiff, okPart, Value.cells, okCell, cld2, (HEx), g1, w1]
            have hB1 := hB.head g1 0 o.epoch (N' := N + 1) (by omega) (by omega)
            have hB2 := hB1.head (by rw [St.at_put, if_pos rfl]) 0 (o.epoch + 1) (N' := N + 1) (by show o.epoch + 1 ≤ _; omega) (Nat.le_refl _)
            have h3 := (h.mono (N' := N + 1) (by omega)).setO hij hj hb ((upd_put hB.pin).trans (upd_put hB.pin)) hB2 hok1
            exact hR _ _ ⟨hpr, _, _, _, _, _, h3.mono (by omega)⟩ (re_upd ((upd_put hB.pin).trans (upd_put hB.pin)))
          · have e1 : protoH H i ((0 : Nat) : Int) = putO { H with F := moveF H.F H.most o.shape 0 } i { o with proto := 0, epoch := o.epoch + 1, shape := moveN H.F H.most o.shape 0 } := by unfold protoH; rw [if_pos e, hat]; simp only [if_neg (show ¬ o.shape = 0 by omega)]; rfl
            rw [e1] at hok hpr hR
            rw [e] at hR
            have hgs : ¬ ps = b := g4
            have hF12 : o.shape ≤ 150 := by
              obtain ⟨q0, l, h1, _⟩ := h.ok.fits j o ho h0
              have := (List.getElem?_eq_some_iff.1 h1).1
              have := h.fo.le
              omega
            have hB1 := hB.head g1 0 o.epoch (N' := N + 1) (by omega) (by omega)
            have hB2 := hB1.head (by rw [St.at_put, if_pos rfl]) 0 (o.epoch + 1) (N' := N + 1) (by show o.epoch + 1 ≤ _; omega) (Nat.le_refl _)
            have h3 := (h.mono (N' := N + 1) (by omega)).setO hij hj hb ((upd_put hB.pin).trans (upd_put hB.pin)) hB2 hok1
            have hU3 := re_upd ((upd_put (s := s') (B := .cells [.iface 88 (.pointer (some ⟨ps, 0, none⟩)), .int .i64 ((0 : Nat) : Int), .int .i64 (o.epoch : Int)] 119 true) hB.pin).trans (upd_put (B := .cells [.iface 88 (.pointer (some ⟨ps, 0, none⟩)), .int .i64 ((0 : Nat) : Int), .int .i64 ((o.epoch + 1 : Nat) : Int)] 119 true) hB.pin))
            simp -implicitDefEqProofs only [↓Zd, (Zp), if_true, if_false, Nat.reduceEqDiff, reduceCtorEq, Nat.reduceAdd, Nat.reduceLeDiff, okPart, Value.cells, okCell, cld2, (HEx), g1, g2, hgs, w1, hhb, hpb, ord23, co70]
            refine fmove_spec (i := (o.shape : Int)) (q := 0) h3.fo (by simp only [St.next_put]; omega) (by omega) fun s4 O4 hF4 hU4 => ?_
            have hF4' : FAt lo s4 pf (moveF H.F H.most (o.shape : Int) 0) H.most O4 := hF4
            show Cs.shape Tryz.prog 3 (.int .i64 ((moveN H.F H.most (o.shape : Int) 0 : Nat) : Int)) _
            have h4 := h3.newF hU4 hF4' (move_ok hok1 o.shape 0)
            have hU4' := re_upd hU4
            have hn4 := hU4.next
            simp only [St.next_put] at hn4
            generalize hO3 : reO O tg (j + 3) (fun c => O c ∧ tg c = j + 3) = O3 at h3 h4 hU3 hU4 hU4'
            generalize hT3 : reT tg (j + 3) (fun c => O c ∧ tg c = j + 3) = tg3 at h3 h4 hU4 hU4'
            have hin3 : ∀ c, O c ∧ tg c = j + 3 → O3 c ∧ tg3 c = j + 3 := fun c hc => by
              have := re_pin (O := O) (tg := tg) (j := j + 3) (O' := fun c => O c ∧ tg c = j + 3) hc
              rw [hO3, hT3] at this; exact this
            have hat4 : ∀ c, O c ∧ tg c = j + 3 → s4.at' c = ((s'.put b (.cells [.iface 88 (.pointer (some ⟨ps, 0, none⟩)), .int .i64 ((0 : Nat) : Int), .int .i64 (o.epoch : Int)] 119 true)).put b (.cells [.iface 88 (.pointer (some ⟨ps, 0, none⟩)), .int .i64 ((0 : Nat) : Int), .int .i64 ((o.epoch + 1 : Nat) : Int)] 119 true)).at' c := fun c hc =>
              re_keep h3.own hU4 c (hin3 c hc).1 (by rw [(hin3 c hc).2]; omega)
            have hin4 : ∀ c, O c ∧ tg c = j + 3 → reO O3 tg3 1 O4 c ∧ reT tg3 1 O4 c = j + 3 := fun c hc => re_tag (fun b hb => (h3.own b hb).2) hU4.own (by omega) (hin3 c hc)
            have hps4 : s4.at' ps = some (.cells [.int .i64 (o.shape : Int), sv] 92 true) := by
              rw [hat4 ps g3, St.at_put, if_neg g4, St.at_put, if_neg g4]; exact g2
            have hb4 : s4.at' b = some (.cells [.iface 88 (.pointer (some ⟨ps, 0, none⟩)), .int .i64 ((0 : Nat) : Int), .int .i64 ((o.epoch + 1 : Nat) : Int)] 119 true) := by
              rw [hat4 b hB.pin, St.at_put, if_pos rfl]
            have hsl4 : SlU 36 3 s4 sv (valsC o.L) o.L.length := g5.same fun q n c e => by
              have := g6 q n c e
              rw [hat4 _ this.1, St.at_put, if_neg this.2.1, St.at_put, if_neg this.2.1]
            have hok4 : HOk (putO { H with F := moveF H.F H.most (o.shape : Int) 0 } i { o with proto := 0, epoch := o.epoch + 1 }) := h4.ok
            have hUall := hU3.trans hU4'
            have hobj4 : ({ putO H i { o with proto := 0, epoch := o.epoch + 1 } with F := moveF H.F H.most (o.shape : Int) 0 } : Hp).obs[j]? = some { o with proto := 0, epoch := o.epoch + 1 } := putO_at (o := o) hij hj
            have hlt4 : j < ({ putO H i { o with proto := 0, epoch := o.epoch + 1 } with F := moveF H.F H.most (o.shape : Int) 0 } : Hp).obs.length := by simp only [putO, List.length_set]; exact hj
            by_cases hpos : (0 : Int) < ((moveN H.F H.most (o.shape : Int) 0 : Nat) : Int)
            · simp -implicitDefEqProofs only [↓Zd, (Zp), if_true, if_false, Nat.reduceEqDiff, Nat.reduceAdd, Nat.reduceLeDiff, okPart, Value.cells, okCell, (HEx), hpos, hps4]
              have hB5 : ObAt lo (s4.put ps (.cells [.int .i64 ((moveN H.F H.most (o.shape : Int) 0 : Nat) : Int), sv] 92 true)) (N + 1) b { o with proto := 0, epoch := o.epoch + 1, shape := moveN H.F H.most (o.shape : Int) 0 } (fun c => reO O3 tg3 1 O4 c ∧ reT tg3 1 O4 c = j + 3) := by
                refine ⟨fun c hc => h4.own c hc.1, hin4 b hB.pin, by show o.epoch + 1 ≤ _; omega, .inr ⟨by show 0 < moveN H.F H.most (o.shape : Int) 0; omega, ps, sv, ?_, by rw [St.at_put, if_pos rfl], hin4 ps g3, g4, hsl4.same fun q n c e => ?_, fun q n c e => ?_⟩⟩
                · rw [St.at_put, if_neg (fun e : b = ps => g4 e.symm)]; exact hb4
                · rw [St.at_put, if_neg (g6 q n c e).2.2]
                · exact ⟨hin4 _ (g6 q n c e).1, (g6 q n c e).2⟩
              have h5 := h4.setO hij hlt4 hb (upd_put (hin4 ps g3)) hB5 (by rw [putO_putF]; exact hok)
              rw [putO_putF] at h5
              exact hR _ _ ⟨hpr, _, _, _, _, _, h5.mono (by omega)⟩ (hUall.trans (re_upd (upd_put (hin4 ps g3))))
            · have hz : moveN H.F H.most (o.shape : Int) 0 = 0 := by omega
              rw [hz] at hok hpr hR
              simp -implicitDefEqProofs only [↓Zd, (Zp), if_true, if_false, Nat.reduceEqDiff, reduceCtorEq, (HEx), hpos, co66]
              refine hloosen_spec h4 (by omega) (by omega) (by omega) hb hobj4 fun s5 pd5 OD5 hb5 hD5 ho5 hne5 hn5 hk5 => ?_
              simp -implicitDefEqProofs only [↓Zd, (Zp), if_true, if_false, Nat.reduceEqDiff, (HEx)]
              obtain ⟨hB6, hU6⟩ := loose_end (hin4 b hB.pin) (h4.own b (hin4 b hB.pin).1) hb5 ho5 hne5 hn5 hk5 hD5 (Nat.le_refl _) (fun _ _ _ => rfl) (fun c hc => .inl hc) (by show o.epoch + 1 ≤ _; omega)
              have h6 := h4.setO hij hlt4 hb hU6 hB6 (by rw [putO_putF]; exact hok)
              rw [putO_putF] at h6
              exact hR _ _ ⟨hpr, _, _, _, _, _, h6.mono (by omega)⟩ (hUall.trans (re_upd hU6))
      · have hqz : ¬ (qn : Int) = 0 := by omega
        simp -implicitDefEqProofs only [↓Zd, (Zp), if_true, if_false, Nat.reduceEqDiff, reduceCtorEq, (HEx), hqz, co58]
        refine hfind_spec h hq (fun hno => ?_) (fun j2 b2 o2 hij2 hb2 ho2 hat2 => ?_)
        · have e : protoE H i (qn : Int) = 4 := by unfold protoE; rw [if_pos (.inr ⟨hqz, hno⟩)]
          simp -implicitDefEqProofs only [↓Zd, (Zp), if_true, if_false, Nat.reduceEqDiff, (HEx)]
          exact hno4 e
        · simp -implicitDefEqProofs only [↓Zd, (Zp), if_true, if_false, Nat.reduceEqDiff, reduceCtorEq, (HEx), co69]
          refine CCalls.mono (hrest (.inr ⟨o2, hat2⟩)) fun v s' hv => ?_
          obtain ⟨rfl, rfl⟩ := hv
          have hqok : ¬ (obAt H i = none ∨ (((qn : Nat) : Int) ≠ 0 ∧ obAt H ((qn : Nat) : Int) = none)) := by rintro (h | h); rw [hat] at h; cases h; rw [hat2] at h; cases h.2
          have hup : onB H i ((qn : Nat) : Int) = false → HOk (putO H i { o with proto := qn, epoch := o.epoch + 1 }) := fun hon => by
            subst hij
            unfold putO
            rw [show ((j + 1 : Nat) : Int).toNat - 1 = j by omega]
            exact h.ok.upd (F' := H.F) (T' := H.T) ho (fun _ _ h => h) (fun _ _ _ => rfl) (Nat.le_refl _) h.ok.nodup h.ok.ids (fun h2 => h.ok.fits j o ho h2) (h.ok.keys j o ho) (h.ok.lens j o ho) (proto_up h.ok ho (.inr (by have := (List.getElem?_eq_some_iff.1 ho2).1; omega)) hon rfl)
          cases hon : onB H i ((qn : Nat) : Int) with
          | true =>
            have e : protoE H i ((qn : Nat) : Int) = 32 := by unfold protoE; rw [if_neg hqok, if_pos hon]
            simp -implicitDefEqProofs only [↓Zd, (Zp), if_true, if_false, Nat.reduceEqDiff, (HEx)]
            exact hno32 e
          | false =>
            have e : protoE H i ((qn : Nat) : Int) = 0 := by unfold protoE; rw [if_neg hqok, if_neg (by rw [hon]; simp)]
            have hok := proto_ok h.ok i ((qn : Nat) : Int)
            have hpr := proto_pro h.ok hpro i ((qn : Nat) : Int)
            have hok1 := hup hon
            rcases hB.bl with ⟨h0, pd, OD, g1, g2, g3⟩ | ⟨h0, ps, sv, g1, g2, g3, g4, g5, g6⟩
            · have e1 : protoH H i ((qn : Nat) : Int) = putO H i { o with proto := qn, epoch := o.epoch + 1 } := by unfold protoH; rw [if_pos e, hat]; simp only [if_pos h0]; rfl
              rw [e1] at hok hpr hR
              rw [e] at hR
              simp -implicitDefEqProofs only [↓Zd, (Zp), if_true, if_false, Nat.reduceEqDiff, Nat.reduceAdd, Nat.reduceLeDiff, okPart, Value.cells, okCell, cld2, (HEx), g1, w1]
              have hB1 := hB.head g1 qn o.epoch (N' := N + 1) (by omega) (by omega)
              have hB2 := hB1.head (by rw [St.at_put, if_pos rfl]) qn (o.epoch + 1) (N' := N + 1) (by show o.epoch + 1 ≤ _; omega) (Nat.le_refl _)
              have h3 := (h.mono (N' := N + 1) (by omega)).setO hij hj hb ((upd_put hB.pin).trans (upd_put hB.pin)) hB2 hok1
              exact hR _ _ ⟨hpr, _, _, _, _, _, h3.mono (by omega)⟩ (re_upd ((upd_put hB.pin).trans (upd_put hB.pin)))
            · have e1 : protoH H i ((qn : Nat) : Int) = putO { H with F := moveF H.F H.most o.shape qn } i { o with proto := qn, epoch := o.epoch + 1, shape := moveN H.F H.most o.shape qn } := by unfold protoH; rw [if_pos e, hat]; simp only [if_neg (show ¬ o.shape = 0 by omega)]; rfl
              rw [e1] at hok hpr hR
              rw [e] at hR
              have hgs : ¬ ps = b := g4
              have hF12 : o.shape ≤ 150 := by
                obtain ⟨q0, l, h1, _⟩ := h.ok.fits j o ho h0
                have := (List.getElem?_eq_some_iff.1 h1).1
                have := h.fo.le
                omega
              have hB1 := hB.head g1 qn o.epoch (N' := N + 1) (by omega) (by omega)
              have hB2 := hB1.head (by rw [St.at_put, if_pos rfl]) qn (o.epoch + 1) (N' := N + 1) (by show o.epoch + 1 ≤ _; omega) (Nat.le_refl _)
              have h3 := (h.mono (N' := N + 1) (by omega)).setO hij hj hb ((upd_put hB.pin).trans (upd_put hB.pin)) hB2 hok1
              have hU3 := re_upd ((upd_put (s := s') (B := .cells [.iface 88 (.pointer (some ⟨ps, 0, none⟩)), .int .i64 ((qn : Nat) : Int), .int .i64 (o.epoch : Int)] 119 true) hB.pin).trans (upd_put (B := .cells [.iface 88 (.pointer (some ⟨ps, 0, none⟩)), .int .i64 ((qn : Nat) : Int), .int .i64 ((o.epoch + 1 : Nat) : Int)] 119 true) hB.pin))
              simp -implicitDefEqProofs only [↓Zd, (Zp), if_true, if_false, Nat.reduceEqDiff, reduceCtorEq, Nat.reduceAdd, Nat.reduceLeDiff, okPart, Value.cells, okCell, cld2, (HEx), g1, g2, hgs, w1, hhb, hpb, ord23, co70]
              refine fmove_spec (i := (o.shape : Int)) (q := qn) h3.fo (by simp only [St.next_put]; omega) (by omega) fun s4 O4 hF4 hU4 => ?_
              have hF4' : FAt lo s4 pf (moveF H.F H.most (o.shape : Int) qn) H.most O4 := hF4
              show Cs.shape Tryz.prog 3 (.int .i64 ((moveN H.F H.most (o.shape : Int) qn : Nat) : Int)) _
              have h4 := h3.newF hU4 hF4' (move_ok hok1 o.shape qn)
              have hU4' := re_upd hU4
              have hn4 := hU4.next
              simp only [St.next_put] at hn4
              generalize hO3 : reO O tg (j + 3) (fun c => O c ∧ tg c = j + 3) = O3 at h3 h4 hU3 hU4 hU4'
              generalize hT3 : reT tg (j + 3) (fun c => O c ∧ tg c = j + 3) = tg3 at h3 h4 hU4 hU4'
              have hin3 : ∀ c, O c ∧ tg c = j + 3 → O3 c ∧ tg3 c = j + 3 := fun c hc => by
                have := re_pin (O := O) (tg := tg) (j := j + 3) (O' := fun c => O c ∧ tg c = j + 3) hc
                rw [hO3, hT3] at this; exact this
              have hat4 : ∀ c, O c ∧ tg c = j + 3 → s4.at' c = ((s'.put b (.cells [.iface 88 (.pointer (some ⟨ps, 0, none⟩)), .int .i64 ((qn : Nat) : Int), .int .i64 (o.epoch : Int)] 119 true)).put b (.cells [.iface 88 (.pointer (some ⟨ps, 0, none⟩)), .int .i64 ((qn : Nat) : Int), .int .i64 ((o.epoch + 1 : Nat) : Int)] 119 true)).at' c := fun c hc =>
                re_keep h3.own hU4 c (hin3 c hc).1 (by rw [(hin3 c hc).2]; omega)
              have hin4 : ∀ c, O c ∧ tg c = j + 3 → reO O3 tg3 1 O4 c ∧ reT tg3 1 O4 c = j + 3 := fun c hc => re_tag (fun b hb => (h3.own b hb).2) hU4.own (by omega) (hin3 c hc)
              have hps4 : s4.at' ps = some (.cells [.int .i64 (o.shape : Int), sv] 92 true) := by
                rw [hat4 ps g3, St.at_put, if_neg g4, St.at_put, if_neg g4]; exact g2
              have hb4 : s4.at' b = some (.cells [.iface 88 (.pointer (some ⟨ps, 0, none⟩)), .int .i64 ((qn : Nat) : Int), .int .i64 ((o.epoch + 1 : Nat) : Int)] 119 true) := by
                rw [hat4 b hB.pin, St.at_put, if_pos rfl]
              have hsl4 : SlU 36 3 s4 sv (valsC o.L) o.L.length := g5.same fun q n c e => by
                have := g6 q n c e
                rw [hat4 _ this.1, St.at_put, if_neg this.2.1, St.at_put, if_neg this.2.1]
              have hok4 : HOk (putO { H with F := moveF H.F H.most (o.shape : Int) qn } i { o with proto := qn, epoch := o.epoch + 1 }) := h4.ok
              have hUall := hU3.trans hU4'
              have hobj4 : ({ putO H i { o with proto := qn, epoch := o.epoch + 1 } with F := moveF H.F H.most (o.shape : Int) qn } : Hp).obs[j]? = some { o with proto := qn, epoch := o.epoch + 1 } := putO_at (o := o) hij hj
              have hlt4 : j < ({ putO H i { o with proto := qn, epoch := o.epoch + 1 } with F := moveF H.F H.most (o.shape : Int) qn } : Hp).obs.length := by simp only [putO, List.length_set]; exact hj
              by_cases hpos : (0 : Int) < ((moveN H.F H.most (o.shape : Int) qn : Nat) : Int)
              · simp -implicitDefEqProofs only [↓Zd, (Zp), if_true, if_false, Nat.reduceEqDiff, Nat.reduceAdd, Nat.reduceLeDiff, okPart, Value.cells, okCell, (HEx), hpos, hps4]
                have hB5 : ObAt lo (s4.put ps (.cells [.int .i64 ((moveN H.F H.most (o.shape : Int) qn : Nat) : Int), sv] 92 true)) (N + 1) b { o with proto := qn, epoch := o.epoch + 1, shape := moveN H.F H.most (o.shape : Int) qn } (fun c => reO O3 tg3 1 O4 c ∧ reT tg3 1 O4 c = j + 3) := by
                  refine ⟨fun c hc => h4.own c hc.1, hin4 b hB.pin, by show o.epoch + 1 ≤ _; omega, .inr ⟨by show 0 < moveN H.F H.most (o.shape : Int) qn; omega, ps, sv, ?_, by rw [St.at_put, if_pos rfl], hin4 ps g3, g4, hsl4.same fun q n c e => ?_, fun q n c e => ?_⟩⟩
                  · rw [St.at_put, if_neg (fun e : b = ps => g4 e.symm)]; exact hb4
                  · rw [St.at_put, if_neg (g6 q n c e).2.2]
                  · exact ⟨hin4 _ (g6 q n c e).1, (g6 q n c e).2⟩
                have h5 := h4.setO hij hlt4 hb (upd_put (hin4 ps g3)) hB5 (by rw [putO_putF]; exact hok)
                rw [putO_putF] at h5
                exact hR _ _ ⟨hpr, _, _, _, _, _, h5.mono (by omega)⟩ (hUall.trans (re_upd (upd_put (hin4 ps g3))))
              · have hz : moveN H.F H.most (o.shape : Int) qn = 0 := by omega
                rw [hz] at hok hpr hR
                simp -implicitDefEqProofs only [↓Zd, (Zp), if_true, if_false, Nat.reduceEqDiff, reduceCtorEq, (HEx), hpos, co66]
                refine hloosen_spec h4 (by omega) (by omega) (by omega) hb hobj4 fun s5 pd5 OD5 hb5 hD5 ho5 hne5 hn5 hk5 => ?_
                simp -implicitDefEqProofs only [↓Zd, (Zp), if_true, if_false, Nat.reduceEqDiff, (HEx)]
                obtain ⟨hB6, hU6⟩ := loose_end (hin4 b hB.pin) (h4.own b (hin4 b hB.pin).1) hb5 ho5 hne5 hn5 hk5 hD5 (Nat.le_refl _) (fun _ _ _ => rfl) (fun c hc => .inl hc) (by show o.epoch + 1 ≤ _; omega)
                have h6 := h4.setO hij hlt4 hb hU6 hB6 (by rw [putO_putF]; exact hok)
                rw [putO_putF] at h6
                exact hR _ _ ⟨hpr, _, _, _, _, _, h6.mono (by omega)⟩ (hUall.trans (re_upd hU6))
end
end Go.Proofs.Tryz
set_option linter.unusedSimpArgs false
set_option linter.unusedVariables false
set_option linter.unusedSectionVars false
namespace Go.Proofs.Tryz
open Go.Cs
open Go.RowKit (Below)
set_option maxRecDepth 100000
attribute [local irreducible] CCalls WLoop WScope CRound WRange
theorem rowPtr (a : Option Addr) : crow Tryz.prog 72 1 #[(0, .pointer a)] = some (.cells [.pointer a] 111 true) := by kernel_rfl
theorem infoPtr : ∃ ie, Tryz.prog.info? 111 = some ie ∧ ie.size = 1 ∧ 0 < ie.bytes ∧ ie.bytes ≤ 100 := by
  obtain ⟨ie, h⟩ := Option.isSome_iff_exists.1 is111
  have h1 := ce111
  have h2 : decide (0 < Tryz.prog.bytesOf 111 ∧ Tryz.prog.bytesOf 111 ≤ 100) = true := by kernel_rfl
  rw [cellsOf_info h] at h1
  simp only [Program.bytesOf, h, decide_eq_true_eq] at h2
  exact ⟨ie, h, h1, h2.1, h2.2⟩
section
variable {M : Type} [Mem M] {w0 : World} {s : St M} {R : Value → St M → Prop} {lo p N : Nat} {H : Hp} {O : Nat → Prop}
theorem wch_app_ptr {s : St M} {sl : Value} {l : List Nat} {a : Nat} {K : Value → St M → Prop} (hlen : l.length ≤ 1000000) (hsl : SlU 111 1 s sl (ptrs l) l.length) (hfr : ∀ q m c, sl = .slice (some q) m c → q.block < s.next)
    (h : ∀ s', s'.next = s.next + 2 → s'.at' (s.next + 1) = some (.cells (ptrs (l ++ [a])) 111 true) → (∀ b, b < s.next → (∀ q n c, sl = .slice (some q) n c → b ≠ q.block) → s'.at' b = s.at' b) → K (.slice (some ⟨s.next + 1, 0, none⟩) (l.length + 1) UNK) s') :
    wch (capp Tryz.prog #[72, 72] #[sl, .slice (some ⟨s.next, 0, none⟩) 1 1] (s.new (.cells [.pointer (some ⟨a, 0, none⟩)] 111 true))) K := by
  obtain ⟨ie, hie, h1, h2, h3⟩ := infoPtr
  have hcapp : capp Tryz.prog #[72, 72] #[sl, .slice (some ⟨s.next, 0, none⟩) 1 1] (s.new (.cells [.pointer (some ⟨a, 0, none⟩)] 111 true)) = capp3 Tryz.prog 111 ie sl (s.new (.cells [.pointer (some ⟨a, 0, none⟩)] 111 true)) (cmore ie.size (.slice (some ⟨s.next, 0, none⟩) 1 1) (s.new (.cells [.pointer (some ⟨a, 0, none⟩)] 111 true))) :=
    app_eq underlying72 underlying72 hie
  have hv : cmore ie.size (.slice (some ⟨s.next, 0, none⟩) 1 1) (s.new (.cells [.pointer (some ⟨a, 0, none⟩)] 111 true)) = some (1, [.pointer (some ⟨a, 0, none⟩)]) := by
    simp only [more_at, St.at_new, if_true, more2, h1]; rfl
  obtain ⟨s', h3, h4, h5, h6⟩ := app_rowU (n := l.length) (k := 1) hie ze111 (by rw [h1]; rfl) h2 hcapp (by omega) (by
    have : (l.length + 1) * ie.bytes ≤ 1000001 * 100 := Nat.mul_le_mul (by omega) h3
    omega) rfl hv (by rw [h1]; exact hsl.same fun q m c e => by rw [St.at_new, if_neg (by have := hfr q m c e; omega)])
  refine ⟨_, s', h3, h s' (by simp at h4; omega) (by simpa [ptrs] using h5) fun b hb hq => ?_⟩
  rw [h6 b (by simp; omega) hq, St.at_new, if_neg (by omega)]
open Classical in
theorem HpIn.addO {s' : St M} {tg : Nat → Nat} {pf pn b r : Nat} {sl sl' : Value} {bs : List Nat} {o' : Ob} {OO : Nat → Prop} (h : HpIn lo s p H N O tg pf pn sl bs) (hn : s.next ≤ s'.next) (hk : ∀ c, O c → tg c ≠ 0 → s'.at' c = s.at' c)
    (hp : s'.at' p = some (.cells [sl', .pointer (some ⟨pf, 0, none⟩), .pointer (some ⟨pn, 0, none⟩), .int .i64 (H.maxO : Int), .int .i64 (H.maxP : Int)] 74 true)) (hsl : SlU 111 1 s' sl' (ptrs (bs ++ [b])) (bs ++ [b]).length) (hr : ∀ q n c, sl' = .slice (some q) n c → q.block = r)
    (hr1 : ¬ O r ∧ lo ≤ r ∧ r < s'.next) (hOO : ∀ c, OO c → ¬ O c ∧ c ≠ r) (hB : ObAt lo s' N b o' OO) (hok : HOk { H with obs := H.obs ++ [o'] }) :
    HpIn lo s' p { H with obs := H.obs ++ [o'] } N (fun c => (O c ∧ tg c ≠ bs.length + 3) ∨ OO c ∨ c = r) (fun c => if OO c then bs.length + 3 else if c = r then 0 else tg c) pf pn sl' (bs ++ [b]) := by
  have hrp : r ≠ p := fun e => hr1.1 (e ▸ h.pin.1)
  have hold : ∀ k, k ≠ bs.length + 3 → k ≠ 0 → (fun c => ((O c ∧ tg c ≠ bs.length + 3) ∨ OO c ∨ c = r) ∧ (if OO c then bs.length + 3 else if c = r then 0 else tg c) = k) = fun c => O c ∧ tg c = k := by
    intro k hk1 hk2
    funext c
    apply propext
    by_cases h1 : OO c
    · simp only [h1, if_true, true_or, or_true, true_and]
      exact ⟨fun e => absurd e.symm hk1, fun e => absurd e.1 (hOO c h1).1⟩
    · by_cases h2 : c = r
      · subst h2
        simp only [h1, if_false, if_true, or_true, true_and]
        exact ⟨fun e => absurd e.symm hk2, fun e => absurd e.1 hr1.1⟩
      · simp only [h1, h2, if_false, or_false]
        exact ⟨fun ⟨⟨a, _⟩, b⟩ => ⟨a, b⟩, fun ⟨a, b⟩ => ⟨⟨a, by omega⟩, b⟩⟩
  have hnew : (fun c => ((O c ∧ tg c ≠ bs.length + 3) ∨ OO c ∨ c = r) ∧ (if OO c then bs.length + 3 else if c = r then 0 else tg c) = bs.length + 3) = OO := by
    funext c
    apply propext
    by_cases h1 : OO c
    · simp [h1]
    · by_cases h2 : c = r
      · subst h2
        simp [h1]
      · simp only [h1, h2, if_false, or_false, iff_false]
        exact fun ⟨⟨_, a⟩, b⟩ => a b
  have hpO : ¬ OO p := fun hc => (hOO p hc).1 h.pin.1
  refine ⟨fun c hc => ?_, hok, h.tn, ⟨.inl ⟨h.pin.1, by rw [h.pin.2]; omega⟩, ?_⟩, hp, hsl, fun q n c e => ?_, ?_, ?_, by simp [h.len], fun i b' o h1 h2 => ?_⟩
  · rcases hc with ⟨hc, _⟩ | hc | rfl
    · have := h.own c hc; omega
    · exact hB.own c hc
    · exact hr1.2
  · rw [if_neg hpO, if_neg (fun e => hrp e.symm)]; exact h.pin.2
  · have := hr q n c e
    rw [this]
    exact ⟨.inr (.inr rfl), by rw [if_neg (fun hc => (hOO r hc).2 rfl), if_pos rfl], hrp⟩
  · rw [hold 1 (by omega) (by omega)]
    exact h.fo.same hn fun c hc => hk c hc.1 (by rw [hc.2]; omega)
  · rw [hold 2 (by omega) (by omega)]
    exact h.ta.same hn fun c hc => hk c hc.1 (by rw [hc.2]; omega)
  · by_cases hi : i < bs.length
    · rw [List.getElem?_append_left hi] at h1
      rw [List.getElem?_append_left (by rw [← h.len]; exact hi)] at h2
      rw [hold (i + 3) (by omega) (by omega)]
      exact (h.obj i b' o h1 h2).same hn fun c hc => hk c hc.1 (by rw [hc.2]; omega)
    · have h0 : i = bs.length := by
        have := (List.getElem?_eq_some_iff.1 h1).1
        simp at this; omega
      subst h0
      rw [List.getElem?_append_right (Nat.le_refl _)] at h1
      rw [List.getElem?_append_right (by rw [← h.len]; exact Nat.le_refl _), ← h.len] at h2
      simp at h1 h2
      subst h1 h2
      rw [hnew]; exact hB
set_option maxHeartbeats 8000000 in
theorem hmake_spec (h : HpAt lo s p H N O) (hlo : lo ≤ s.next) (hR : ∀ s' O', HpAt lo s' p (makeH H) N O' → Upd s s' O O' → R (makeV H) s') : CCalls Tryz.prog w0 17 #[.pointer (some ⟨p, 0, none⟩)] s R := by
  refine wfun2 hmix ok17 (l := [.pointer (some ⟨p, 0, none⟩)]) func17 rfl ntmps17 results17 (by simp) ?_
  obtain ⟨hpro, tg, pf, pn, sl, bs, h⟩ := h
  have hhb := h.bl
  have hlim := h.ok.lim
  have hlen := h.len
  obtain ⟨an, cn, rfl⟩ : ∃ a c, sl = .slice a bs.length c := by
    rcases h.row with ⟨e1, _, rfl⟩ | ⟨b2, junk, rfl, _⟩
    · exact ⟨none, 0, by rw [e1]⟩
    · exact ⟨_, _, rfl⟩
  simp -implicitDefEqProofs only [↓Zd, (Zp), if_true, if_false, Nat.reduceEqDiff, reduceCtorEq, co48]
  refine hdead_spec h ?_
  by_cases hmx : (H.maxO : Int) ≤ (bs.length : Int)
  · have e1 : makeH H = H := by unfold makeH; rw [if_pos (by omega)]
    have e2 : makeV H = .tuple #[.int .i64 0, .int .i64 40] := by unfold makeV; rw [if_pos (by omega)]
    rw [e1, e2] at hR
    simp -implicitDefEqProofs only [↓Zd, (Zp), if_true, if_false, Nat.reduceEqDiff, reduceCtorEq, cld2, (HEx), hhb, hmx, ord17]
    exact hR _ _ ⟨hpro, tg, pf, pn, _, bs, h⟩ .refl
  · have e1 : makeH H = { H with obs := H.obs ++ [{ L := [], shape := growN H.F H.most (0, []), proto := 0, epoch := 0 }], F := growF H.F H.most (0, []) } := by unfold makeH; rw [if_neg (by omega)]
    have e2 : makeV H = .tuple #[.int .i64 ((bs.length + 1 : Nat) : Int), .int .i64 0] := by unfold makeV; rw [if_neg (by omega), hlen]
    have hok := make_ok h.ok
    have hpr := make_pro hpro
    rw [e1] at hok hpr
    rw [e1, e2] at hR
    have hbl : ∀ (m : Nat), cbuild Tryz.prog 115 #[(0, .pointer (some ⟨m, 0, none⟩))] = some (.agg #[.pointer (some ⟨m, 0, none⟩)]) := fun m => by kernel_rfl
    have hmk : ∀ v, cmkI Tryz.prog 115 v = some (.iface 115 v) := fun v => mkI_s underlying115
    have hmp : ∀ v, cmkI Tryz.prog 88 v = some (.iface 88 v) := fun v => mkI_p underlying88
    have hbo : ∀ (v : Value), cbuild Tryz.prog 119 #[(0, .iface 115 (.agg #[v]))] = some (.agg #[.iface 115 (.agg #[v]), .int .i64 0, .int .i64 0]) := fun v => by kernel_rfl
    have hbs : ∀ (n : Int), cbuild Tryz.prog 92 #[(0, .int .i64 n)] = some (.agg #[.int .i64 n, .slice none 0 0]) := fun v => by kernel_rfl
    simp -implicitDefEqProofs only [↓Zd, (Zp), if_true, if_false, Nat.reduceEqDiff, reduceCtorEq, cld2, (HEx), hhb, hmx, ord17, co49]
    refine dnew_spec fun s1 pd hD1 hs1 => ?_
    have hn1 := hs1.1
    have hhb1 := (h.le hs1).bl
    have hpn := (h.own p h.pin.1).2
    have hps1 : ¬ p = s1.next := by omega
    simp -implicitDefEqProofs only [↓Zd, (Zp), if_true, if_false, Nat.reduceEqDiff, reduceCtorEq, okPart, Value.cells, cld2, (HEx), hhb1, hps1, hbl, hmk, hbo, co50]
    have l2 : s.le (s1.new (.cells [.iface 115 (.agg #[.pointer (some ⟨pd, 0, none⟩)]), .int .i64 0, .int .i64 0] 119 true)) := St.le_new hs1
    have h2 := h.le l2
    refine froot_spec (q := 0) h2.fo (by simp only [St.next_new]; omega) fun s3 O3 hF3 hU3 => ?_
    have hn3 := hU3.next
    simp only [St.next_new] at hn3
    have hokF : HOk { H with F := growF H.F H.most (0, []) } := h.ok.more (F' := growF H.F H.most (0, [])) (T' := H.T) (fun j t ht => growF_get ht) (fun _ _ _ => rfl) (Nat.le_refl _) h.ok.nodup (fun j t ht y hy => by
      rcases growF_mem ht with h1 | rfl
      · exact h.ok.ids j t h1 y hy
      · cases hy)
    have h3 := h2.newF hU3 hF3 hokF
    have hU3' := re_upd hU3
    have hhb3 := h3.bl
    generalize hO4 : reO O tg 1 O3 = O4 at h3 hU3'
    generalize hT4 : reT tg 1 O3 = tg4 at h3
    have hUall : Upd s s3 O O4 := (Upd.of_le l2).trans hU3'
    have hfresh : ∀ c, s.next ≤ c → c < s1.next + 1 → ¬ O4 c := fun c h1 h2' hc => by
      rcases hU3'.own c hc with g | g
      · have := (h.own c g).2
        omega
      · simp only [St.next_new] at g; omega
    have hke : ∀ c, s.next ≤ c → c < s1.next + 1 → s3.at' c = (s1.new (.cells [.iface 115 (.agg #[.pointer (some ⟨pd, 0, none⟩)]), .int .i64 0, .int .i64 0] 119 true)).at' c := fun c h1 h2' => by
      refine hU3'.keep c (by simp only [St.next_new]; omega) (fun hc => ?_)
      have := (h.own c hc).2; omega
    have hob3 : s3.at' s1.next = some (.cells [.iface 115 (.agg #[.pointer (some ⟨pd, 0, none⟩)]), .int .i64 0, .int .i64 0] 119 true) := by rw [hke _ (by omega) (by omega), St.at_new, if_pos rfl]
    have hpO4 := h3.pin.1
    have hsl3 := h3.row
    have hfr3 : ∀ q m c, Value.slice an bs.length cn = .slice (some q) m c → q.block < s3.next := fun q m c e => (h3.own _ (h3.rowO q m c e).1).2
    have hpn3 := (h3.own p hpO4).2
    by_cases hpos : (0 : Int) < ((growN H.F H.most (0, []) : Nat) : Int)
    · have hob3n : ¬ s1.next = s3.next := by omega
      have hpne1 : ¬ p = s1.next := by omega
      have hpne3 : ¬ p = s3.next := by omega
      simp -implicitDefEqProofs only [↓Zd, (Zp), if_true, if_false, Nat.reduceEqDiff, reduceCtorEq, Nat.reduceAdd, Nat.reduceLeDiff, okPart, Value.cells, okCell, cld2, (HEx), hpos, hob3, hob3n, hpne1, hpne3, hhb3, hbs, hmp, rowPtr]
      have hle4 : ∀ c, O4 c → ((s3.new (.cells [.int .i64 ((growN H.F H.most (0, []) : Nat) : Int), .slice none 0 0] 92 true)).put s1.next (.cells [.iface 88 (.pointer (some ⟨s3.next, 0, none⟩)), .int .i64 0, .int .i64 0] 119 true)).at' c = s3.at' c := fun c hc => by
        have := (h3.own c hc).2
        have : c ≠ s1.next := fun e => hfresh s1.next (by omega) (by omega) (e ▸ hc)
        rw [St.at_put, if_neg this, St.at_new, if_neg (by omega)]
      refine wch_app_ptr (l := bs) (a := s1.next) (by omega) (hsl3.same fun q n c e => hle4 _ (h3.rowO q n c e).1) (fun q m c e => by have := hfr3 q m c e; simp only [St.next_put, St.next_new]; omega) fun s5 hn5 hb5 hk5 => ?_
      simp only [St.next_put, St.next_new] at hn5 hb5 hk5
      have hp5 : s5.at' p = some (.cells [.slice an bs.length cn, .pointer (some ⟨pf, 0, none⟩), .pointer (some ⟨pn, 0, none⟩), .int .i64 (H.maxO : Int), .int .i64 (H.maxP : Int)] 74 true) := by
        rw [hk5 p (by omega) (fun q m c e e2 => (h3.rowO q m c e).2.2 e2.symm), hle4 p hpO4]; exact hhb3
      simp -implicitDefEqProofs only [↓Zd, (Zp), if_true, if_false, Nat.reduceEqDiff, reduceCtorEq, Nat.reduceAdd, Nat.reduceLeDiff, okPart, Value.cells, okCell, cld2, (HEx), hp5]
      have hk6 : ∀ c, c < s3.next + 1 → c ≠ s1.next → c ≠ p → (∀ q m k, Value.slice an bs.length cn = .slice (some q) m k → c ≠ q.block) → c ≠ s3.next → (s5.put p (.cells [.slice (some ⟨s3.next + 1 + 1, 0, none⟩) (bs.length + 1) UNK, .pointer (some ⟨pf, 0, none⟩), .pointer (some ⟨pn, 0, none⟩), .int .i64 (H.maxO : Int), .int .i64 (H.maxP : Int)] 74 true)).at' c = s3.at' c := fun c h1 h2 h3' h4 h5 => by
        rw [St.at_put, if_neg h3', hk5 c h1 h4, St.at_put, if_neg h2, St.at_new, if_neg h5]
      have hB : ObAt lo (s5.put p (.cells [.slice (some ⟨s3.next + 1 + 1, 0, none⟩) (bs.length + 1) UNK, .pointer (some ⟨pf, 0, none⟩), .pointer (some ⟨pn, 0, none⟩), .int .i64 (H.maxO : Int), .int .i64 (H.maxP : Int)] 74 true)) N s1.next { L := [], shape := growN H.F H.most (0, []), proto := 0, epoch := 0 } (fun c => c = s1.next ∨ c = s3.next) := by
        refine ⟨?_, .inl rfl, Nat.zero_le _, .inr ⟨by show 0 < growN H.F H.most (0, []); omega, s3.next, .slice none 0 0, ?_, ?_, .inr rfl, by omega, .inl ⟨rfl, rfl, rfl⟩, fun q n c e => by cases e⟩⟩
        · rintro c (rfl | rfl) <;> simp only [St.next_put] <;> omega
        · rw [St.at_put, if_neg (fun e => hpne1 e.symm), hk5 _ (by omega) (fun q m c e e2 => hfresh s1.next (by omega) (by omega) (by rw [e2]; exact (h3.rowO q m c e).1)), St.at_put, if_pos rfl]; rfl
        · rw [St.at_put, if_neg (fun e => hpne3 e.symm), hk5 _ (by omega) (fun q m c e e2 => by have := hfr3 q m c e; omega), St.at_put, if_neg (fun e => hob3n e.symm), St.at_new, if_pos rfl]
      have h6 := h3.addO (r := s3.next + 1 + 1) (b := s1.next) (by simp only [St.next_put]; omega) (fun c hc hct => hk6 c (by have := (h3.own c hc).2; omega) (fun e => hfresh s1.next (by omega) (by omega) (e ▸ hc)) (fun e => hct (by rw [e]; exact h3.pin.2)) (fun q m k e e2 => hct (by rw [e2]; exact (h3.rowO q m k e).2.1)) (by have := (h3.own c hc).2; omega)) (by rw [St.at_put, if_pos rfl]) (.inr ⟨s3.next + 1 + 1, [], by simp, by rw [St.at_put, if_neg (by omega), List.append_nil]; exact hb5, by rw [ptrs_len, Nat.mul_one]⟩) (fun q n c e => by cases e; rfl) ⟨fun hc => by have := (h3.own _ hc).2; omega, by omega, by simp only [St.next_put]; omega⟩ (fun c hc => by
        rcases hc with rfl | rfl
        · exact ⟨hfresh _ (by omega) (by omega), by omega⟩
        · exact ⟨fun hc => by have := (h3.own _ hc).2; omega, by omega⟩) hB hok
      refine hR _ _ ⟨hpr, _, _, _, _, _, h6⟩ ⟨by simp only [St.next_put]; omega, fun c hc hno => ?_, fun c hc => ?_⟩
      · have hno4 : ¬ O4 c := fun h4 => by
          rcases hUall.own c h4 with g | g
          · exact hno g
          · omega
        have g := hk6 c (by omega) (by omega) (fun e => hno4 (e ▸ hpO4)) (fun q m k e e2 => hno4 (by rw [e2]; exact (h3.rowO q m k e).1)) (by omega)
        exact g.trans (hUall.keep c hc hno)
      · rcases hc with ⟨hc, _⟩ | (rfl | rfl) | rfl
        · exact hUall.own c hc
        · exact .inr (by omega)
        · exact .inr (by omega)
        · exact .inr (by omega)
    · have hz : growN H.F H.most (0, []) = 0 := by omega
      rw [hz] at hok hpr hR
      simp -implicitDefEqProofs only [↓Zd, (Zp), if_true, if_false, Nat.reduceEqDiff, reduceCtorEq, cld2, (HEx), hpos, hhb3, rowPtr]
      refine wch_app_ptr (l := bs) (a := s1.next) (by omega) hsl3 hfr3 fun s5 hn5 hb5 hk5 => ?_
      have hp5 : s5.at' p = some (.cells [.slice an bs.length cn, .pointer (some ⟨pf, 0, none⟩), .pointer (some ⟨pn, 0, none⟩), .int .i64 (H.maxO : Int), .int .i64 (H.maxP : Int)] 74 true) := by
        rw [hk5 p (by omega) (fun q m c e e2 => (h3.rowO q m c e).2.2 e2.symm)]; exact hhb3
      simp -implicitDefEqProofs only [↓Zd, (Zp), if_true, if_false, Nat.reduceEqDiff, reduceCtorEq, Nat.reduceAdd, Nat.reduceLeDiff, okPart, Value.cells, okCell, cld2, (HEx), hp5]
      have hk6 : ∀ c, c < s3.next → c ≠ p → (∀ q m k, Value.slice an bs.length cn = .slice (some q) m k → c ≠ q.block) → (s5.put p (.cells [.slice (some ⟨s3.next + 1, 0, none⟩) (bs.length + 1) UNK, .pointer (some ⟨pf, 0, none⟩), .pointer (some ⟨pn, 0, none⟩), .int .i64 (H.maxO : Int), .int .i64 (H.maxP : Int)] 74 true)).at' c = s3.at' c := fun c h1 h3' h4 => by
        rw [St.at_put, if_neg h3', hk5 c h1 h4]
      have hfr6 : ∀ c, s.next ≤ c → c < s1.next + 1 → (s5.put p (.cells [.slice (some ⟨s3.next + 1, 0, none⟩) (bs.length + 1) UNK, .pointer (some ⟨pf, 0, none⟩), .pointer (some ⟨pn, 0, none⟩), .int .i64 (H.maxO : Int), .int .i64 (H.maxP : Int)] 74 true)).at' c = s3.at' c := fun c h1 h2 => hk6 c (by omega) (by omega) (fun q m k e e2 => hfresh c h1 h2 (by rw [e2]; exact (h3.rowO q m k e).1))
      have hD6 : DictAt lo (s5.put p (.cells [.slice (some ⟨s3.next + 1, 0, none⟩) (bs.length + 1) UNK, .pointer (some ⟨pf, 0, none⟩), .pointer (some ⟨pn, 0, none⟩), .int .i64 (H.maxO : Int), .int .i64 (H.maxP : Int)] 74 true)) pd [] 0 (fun b => s.next ≤ b ∧ b < s1.next) := (hD1.low hlo).same (by simp only [St.next_put]; omega) fun c hc => by
        rw [hfr6 c hc.1 (by omega), hke c hc.1 (by omega), St.at_new, if_neg (by omega)]
      have hB := ObAt.loose (lo := lo) (b := s1.next) (o := { L := [], shape := 0, proto := 0, epoch := 0 }) (by rw [hfr6 _ (by omega) (by omega)]; exact hob3) rfl hD6 (fun c hc => by omega) ⟨by omega, by simp only [St.next_put]; omega⟩ (Nat.le_refl _)
      have h6 := h3.addO (r := s3.next + 1) (b := s1.next) (by simp only [St.next_put]; omega) (fun c hc hct => hk6 c (h3.own c hc).2 (fun e => hct (by rw [e]; exact h3.pin.2)) (fun q m k e e2 => hct (by rw [e2]; exact (h3.rowO q m k e).2.1))) (by rw [St.at_put, if_pos rfl]) (.inr ⟨s3.next + 1, [], by simp, by rw [St.at_put, if_neg (by omega), List.append_nil]; exact hb5, by rw [ptrs_len, Nat.mul_one]⟩) (fun q n c e => by cases e; rfl) ⟨fun hc => by have := (h3.own _ hc).2; omega, by omega, by simp only [St.next_put]; omega⟩ (fun c hc => by
        rcases hc with rfl | hc
        · exact ⟨hfresh _ (by omega) (by omega), by omega⟩
        · exact ⟨hfresh _ hc.1 (by omega), by omega⟩) (hB.mono (Nat.zero_le _)) hok
      refine hR _ _ ⟨hpr, _, _, _, _, _, h6⟩ ⟨by simp only [St.next_put]; omega, fun c hc hno => ?_, fun c hc => ?_⟩
      · have hno4 : ¬ O4 c := fun h4 => by
          rcases hUall.own c h4 with g | g
          · exact hno g
          · omega
        have g := hk6 c (by omega) (fun e => hno4 (e ▸ hpO4)) (fun q m k e e2 => hno4 (by rw [e2]; exact (h3.rowO q m k e).1))
        exact g.trans (hUall.keep c hc hno)
      · rcases hc with ⟨hc, _⟩ | (rfl | hc) | rfl
        · exact hUall.own c hc
        · exact .inr (by omega)
        · exact .inr hc.1
        · exact .inr (by omega)
end
end Go.Proofs.Tryz
set_option linter.unusedSimpArgs false
set_option linter.unusedVariables false
set_option linter.unusedSectionVars false
namespace Go.Proofs.Tryz
open Go.Cs
open Go.RowKit (Below)
set_option maxRecDepth 100000
attribute [local irreducible] CCalls WLoop WScope CRound WRange
section
variable {M : Type} [Mem M] {w0 : World} {s : St M} {R : Value → St M → Prop} {lo p N : Nat} {H : Hp} {O : Nat → Prop}
set_option maxHeartbeats 8000000 in
theorem hgrow_spec (h : HpAt lo s p H N O) (hlo : lo ≤ s.next) {i to : Int} {y : ByteArray} {k n : Int} (hN : N + 3 ≤ 1000000) (hi : -9223372036854775808 ≤ i ∧ i ≤ 9223372036854775807) (hto : -9223372036854775808 ≤ to ∧ to ≤ 9223372036854775807)
    (hR : ∀ s' O', HpAt lo s' p (growH H i to (k, n, y)) (N + 3) O' → Upd s s' O O' → R (.int .i64 (growE H i to)) s') : CCalls Tryz.prog w0 60 #[.pointer (some ⟨p, 0, none⟩), .int .i64 i, .int .i64 to, vA k n y] s R := by
  refine wfun2 hmix ok60 (l := [.pointer (some ⟨p, 0, none⟩), .int .i64 i, .int .i64 to, vA k n y]) func60 rfl ntmps60 results60 (by simp) ?_
  have hok := grow_ok h.ok h.fok i to (k, n, y)
  have hpr := grow_pro h.ok h.fok h.1 i to (k, n, y)
  obtain ⟨hpro, tg, pf, pn, sl, bs, h⟩ := h
  have l1 : s.le (s.new (.cells [.int .i64 k, .int .i64 n, .string y] 36 true)) := St.le_new (St.le_refl _)
  have hbad : ∀ e : Int, e ≠ 0 → growE H i to = e → R (.int .i64 e) (s.new (.cells [.int .i64 k, .int .i64 n, .string y] 36 true)) := fun e e0 he => by
    have e1 : growH H i to (k, n, y) = H := by
      unfold growH
      split
      · rfl
      · rw [if_neg (by omega)]
    rw [e1, he] at hR
    exact hR _ _ ⟨hpro, tg, pf, pn, sl, bs, (h.le l1).mono (by omega)⟩ (.of_le l1)
  have h1' := h.le l1
  have hhb1 := h1'.bl
  have hhb := h.bl
  have hpn := (h.own p h.pin.1).2
  have hpne : ¬ p = s.next := by omega
  simp -implicitDefEqProofs only [↓Zd, (Zp), if_true, if_false, Nat.reduceEqDiff, reduceCtorEq, okPart, Value.cells, (HEx), vA, co48]
  refine hdead_spec h1' ?_
  simp -implicitDefEqProofs only [↓Zd, (Zp), if_true, if_false, Nat.reduceEqDiff, reduceCtorEq, (HEx), vA, co58]
  refine hfind_spec h1' hi (fun hno => ?_) (fun j b o hij hb ho hat => ?_)
  · simp -implicitDefEqProofs only [↓Zd, (Zp), if_true, if_false, Nat.reduceEqDiff, (HEx), vA]
    exact hbad 4 (by omega) (by unfold growE; rw [hno])
  · have hj := (List.getElem?_eq_some_iff.1 ho).1
    have hml : o.L.length ≤ 32 := by have := h.ok.lens j o ho; have := h.ok.lim; omega
    have hB := h.obj j b o hb ho
    have hbn := (hB.own b hB.pin).2
    have hne : ¬ b = s.next := by omega
    have hep := hB.ep
    have w1 : IntKind.i64.wrap ((o.epoch : Int) + 1) = ((o.epoch + 1 : Nat) : Int) := by rw [wrap_i64 (by omega)]; omega
    rcases hB.bl with ⟨h0, pd, OD, g1, g2, g3⟩ | ⟨h0, ps, sv, g1, g2, g3, g4, g5, g6⟩
    · simp -implicitDefEqProofs only [↓Zd, (Zp), if_true, if_false, Nat.reduceEqDiff, cld2, (HEx), vA, g1, hne, ord60]
      exact hbad 2 (by omega) (by unfold growE; rw [hat]; simp only [if_pos h0])
    · have hpsn := (hB.own ps g3).2
      have hpse : ¬ ps = s.next := by omega
      have hs0 : ¬ o.shape = 0 := by omega
      simp -implicitDefEqProofs only [↓Zd, (Zp), if_true, if_false, Nat.reduceEqDiff, reduceCtorEq, cld2, (HEx), vA, g1, g2, hhb, hne, hpne, hpse, ord60, co111]
      refine fparent_spec h1'.fo hto ?_
      cases ht : shAt H.F to with
      | none =>
        have hz : ¬ (0 : Int) = (o.shape : Int) := by omega
        simp -implicitDefEqProofs only [↓Zd, (Zp), if_true, if_false, Nat.reduceEqDiff, Nat.reduceBEq, cld2, (HEx), g2, hpse, hz]
        exact hbad 2 (by omega) (by unfold growE; rw [hat]; simp only [if_neg hs0, ht]; rw [if_pos (by omega)])
      | some t =>
        by_cases hpar : parId H.F t = o.shape
        · obtain ⟨q, x, l, rfl, f1, f2, f3, f4, f5⟩ := grow_fits (n := 0) h.ok h.fo.ok ho h0 ht hpar
          have hpi : ((parId H.F (q, x :: l) : Nat) : Int) = (o.shape : Int) := by omega
          have hnm : namesOf H.F to = x :: l := by unfold namesOf; rw [ht]
          obtain ⟨an, cn, rfl⟩ : ∃ a c, sv = .slice a o.L.length c := by
            rcases g5 with ⟨e1, _, rfl⟩ | ⟨b2, junk, rfl, _⟩
            · exact ⟨none, 0, by rw [e1]⟩
            · exact ⟨_, _, rfl⟩
          simp only [hpi]
          by_cases hmx : (H.maxP : Int) ≤ (o.L.length : Int)
          · simp -implicitDefEqProofs only [↓Zd, (Zp), if_true, if_false, Nat.reduceEqDiff, reduceCtorEq, Nat.reduceBEq, cld2, (HEx), g2, hhb, hpne, hpse, hmx]
            exact hbad 42 (by omega) (by unfold growE; rw [hat]; simp only [if_neg hs0, ht]; rw [if_neg (by omega), if_pos (by omega)])
          · have he : growE H i to = 0 := by unfold growE; rw [hat]; simp only [if_neg hs0, ht]; rw [if_neg (by omega), if_neg (by omega)]
            have e1 : growH H i to (k, n, y) = putO H i { L := o.L ++ [(txt H.T x, k, n, y)], shape := to.toNat, proto := o.proto, epoch := o.epoch + 1 } := by unfold growH; rw [hat]; simp only [if_pos he, hnm]; rfl
            rw [e1] at hok hpr hR
            rw [he] at hR
            have htn : to = ((to.toNat : Nat) : Int) := by omega
            have hsl1 : SlU 36 3 (s.new (.cells [.int .i64 k, .int .i64 n, .string y] 36 true)) (.slice an o.L.length cn) (valsC o.L) o.L.length := g5.same fun q n c e => by
              have := (hB.own _ (g6 q n c e).1).2
              rw [St.at_new, if_neg (by omega)]
            simp -implicitDefEqProofs only [↓Zd, (Zp), if_true, if_false, Nat.reduceEqDiff, reduceCtorEq, Nat.reduceAdd, Nat.reduceLeDiff, Nat.reduceBEq, cut, cld2, (HEx), g2, hhb, hpne, hpse, hmx, rowVal]
            refine wch_app_val (by omega) hsl1 (fun q n c e => by have := (hB.own _ (g6 q n c e).1).2; simp only [St.next_new]; omega) fun s5 hn5 hb5 hk5 => ?_
            simp only [St.next_new] at hn5 hb5 hk5
            have hps5 : s5.at' ps = some (.cells [.int .i64 (o.shape : Int), .slice an o.L.length cn] 92 true) := by
              rw [hk5 ps (by omega) (fun q n c e e2 => (g6 q n c e).2.2 e2.symm), St.at_new, if_neg hpse]; exact g2
            have hb5' : s5.at' b = some (.cells [.iface 88 (.pointer (some ⟨ps, 0, none⟩)), .int .i64 (o.proto : Int), .int .i64 (o.epoch : Int)] 119 true) := by
              rw [hk5 b (by omega) (fun q n c e e2 => (g6 q n c e).2.1 e2.symm), St.at_new, if_neg hne]; exact g1
            have c75 : s5.at' s.next = some (.cells [.int .i64 k, .int .i64 n, .string y] 36 true) := by
              rw [hk5 _ (by omega) (fun q m c e e2 => by have := (hB.own _ (g6 q m c e).1).2; omega), St.at_new, if_pos rfl]
            have hbps : ¬ b = ps := fun e => g4 e.symm
            simp -implicitDefEqProofs only [↓Zd, (Zp), if_true, if_false, Nat.reduceEqDiff, Nat.reduceAdd, Nat.reduceLeDiff, Nat.reduceBEq, okPart, Value.cells, okCell, cld2, (HEx), hps5, hb5', hbps, w1]
            rw [htn]
            have hB6 : ObAt lo (((s5.put ps (.cells [.int .i64 ((to.toNat : Nat) : Int), .slice an o.L.length cn] 92 true)).put ps (.cells [.int .i64 ((to.toNat : Nat) : Int), .slice (some ⟨s.next + 2, 0, none⟩) (o.L.length + 1) UNK] 92 true)).put b (.cells [.iface 88 (.pointer (some ⟨ps, 0, none⟩)), .int .i64 (o.proto : Int), .int .i64 ((o.epoch + 1 : Nat) : Int)] 119 true)) (N + 1) b { L := o.L ++ [(txt H.T x, k, n, y)], shape := to.toNat, proto := o.proto, epoch := o.epoch + 1 } (fun c => (O c ∧ tg c = j + 3) ∨ c = s.next + 2) := by
              refine ⟨fun c hc => ?_, .inl hB.pin, by show o.epoch + 1 ≤ _; omega, .inr ⟨by show 0 < to.toNat; omega, ps, _, by rw [St.at_put, if_pos rfl], by rw [St.at_put, if_neg g4, St.at_put, if_pos rfl], .inl g3, g4, .inr ⟨s.next + 2, [], by simp, ?_, valsC_len _⟩, fun q m c e => ?_⟩⟩
              · rcases hc with hc | rfl
                · have := hB.own c hc
                  simp only [St.next_put]; omega
                · simp only [St.next_put]; omega
              · rw [St.at_put, if_neg (by omega), St.at_put, if_neg (by omega), St.at_put, if_neg (by omega), hb5, valsC_app, List.append_nil]; rfl
              · cases e
                exact ⟨.inr rfl, by show s.next + 2 ≠ b; omega, by show s.next + 2 ≠ ps; omega⟩
            have hU6 : Upd (s.new (.cells [.int .i64 k, .int .i64 n, .string y] 36 true)) (((s5.put ps (.cells [.int .i64 ((to.toNat : Nat) : Int), .slice an o.L.length cn] 92 true)).put ps (.cells [.int .i64 ((to.toNat : Nat) : Int), .slice (some ⟨s.next + 2, 0, none⟩) (o.L.length + 1) UNK] 92 true)).put b (.cells [.iface 88 (.pointer (some ⟨ps, 0, none⟩)), .int .i64 (o.proto : Int), .int .i64 ((o.epoch + 1 : Nat) : Int)] 119 true)) (fun c => O c ∧ tg c = j + 3) (fun c => (O c ∧ tg c = j + 3) ∨ c = s.next + 2) := by
              refine ⟨by simp only [St.next_put, St.next_new]; omega, fun c hc hno => ?_, fun c hc => ?_⟩
              · have hcp : ¬ c = ps := fun e => hno (e ▸ g3)
                have hcb : ¬ c = b := fun e => hno (e ▸ hB.pin)
                simp only [St.next_new] at hc
                rw [St.at_put, if_neg hcb, St.at_put, if_neg hcp, St.at_put, if_neg hcp, hk5 c hc (fun q m k e e2 => hno (by rw [e2]; exact (g6 q m k e).1))]
              · rcases hc with hc | rfl
                · exact .inl hc
                · exact .inr (by simp only [St.next_new]; omega)
            have h6 := (h1'.mono (N' := N + 1) (by omega)).setO hij hj hb hU6 hB6 hok
            exact hR _ _ ⟨hpr, _, _, _, _, _, h6.mono (by omega)⟩ ((Upd.of_le l1).trans (re_upd hU6))
        · have hz : ¬ ((parId H.F t : Nat) : Int) = (o.shape : Int) := by omega
          simp -implicitDefEqProofs only [↓Zd, (Zp), if_true, if_false, Nat.reduceEqDiff, Nat.reduceBEq, cld2, (HEx), g2, hpse, hz]
          exact hbad 2 (by omega) (by unfold growE; rw [hat]; simp only [if_neg hs0, ht]; rw [if_pos hpar])
theorem FAt.low {lo lo' : Nat} {s : St M} {p : Nat} {F : List Sh} {most : Nat} {O : Nat → Prop} (h : FAt lo s p F most O) (hl : lo' ≤ lo) : FAt lo' s p F most O :=
  ⟨fun b hb => ⟨by have := (h.own b hb).1; omega, (h.own b hb).2⟩, h.pin, h.ok, h.le, h.bl⟩
theorem TabAt.low {lo lo' : Nat} {s : St M} {p : Nat} {T : List ByteArray} {O : Nat → Prop} (h : TabAt lo s p T O) (hl : lo' ≤ lo) : TabAt lo' s p T O :=
  ⟨fun b hb => ⟨by have := (h.own b hb).1; omega, (h.own b hb).2⟩, h.pin, h.bl⟩
theorem tnew_spec (h : ∀ s' p, TabAt s.next s' p [] (fun b => s.next ≤ b ∧ b < s'.next) → s.le s' → R (.pointer (some ⟨p, 0, none⟩)) s') : CCalls Tryz.prog w0 30 #[] s R := by
  refine wfun2 hmix ok30 (l := []) func30 rfl ntmps30 results30 (by simp) ?_
  have newTab : ∀ (m : Nat), cbuild Tryz.prog 174 #[(0, .map (some m))] = some (.agg #[.map (some m), .slice none 0 0]) := fun m => by kernel_rfl
  simp -implicitDefEqProofs only [↓Zd, (Zp), if_true, if_false, Nat.reduceEqDiff, reduceCtorEq, okPart, Value.cells, is174, newTab]
  refine h _ _ ⟨fun b hb => hb, by simp, s.next, .slice none 0 0, by simp, by simp; rfl, ⟨by omega, by simp only [St.next_new]; omega⟩, by simp, .inl ⟨rfl, rfl, rfl⟩, fun q n c e => by cases e⟩ (by repeat (first | exact St.le_refl _ | assumption | refine St.le_new ?_ | refine St.le_put ?_ (by first | omega | (simp only [St.next_new, St.next_put, St.next_kill]; omega)) | refine St.le_trans ?_ (by assumption)))
theorem between_spec {a b : Int} (h : R (.int .i64 (max 0 (min a b))) s) : CCalls Tryz.prog w0 31 #[.int .i64 a, .int .i64 b] s R := by
  refine wfun2 hmix ok31 (l := [.int .i64 a, .int .i64 b]) func31 rfl ntmps31 results31 (by simp) ?_
  have hmx : (if (if b < a then b else a) > 0 then (if b < a then b else a) else 0) = max 0 (min a b) := by omega
  simp -implicitDefEqProofs only [↓Zd, (Zp), if_true, if_false, Nat.reduceEqDiff, reduceCtorEq, o_min, o_max, bi_min, bi_max, hmx]
  exact h
def newH (objects props shapes : Int) : Hp := { obs := [], F := [], T := [], most := (max 0 (min shapes 150)).toNat, maxO := (max 0 (min objects 200)).toNat, maxP := (max 0 (min props 32)).toNat }
theorem newH_ok (a b c : Int) : HOk (newH a b c) :=
  ⟨List.nodup_nil, fun i t h => by simp [newH] at h, fun i o h => by simp [newH] at h, fun i o h => by simp [newH] at h, fun i o h => by simp [newH] at h, ⟨fun _ => 0, fun i o h => by simp [newH] at h⟩, ⟨by simp [newH]; omega, by simp [newH], by simp [newH]; omega⟩⟩
theorem newH_pro (a b c : Int) : HPro (newH a b c) := fun i o h => by simp [newH] at h
set_option maxHeartbeats 8000000 in
theorem hnew_spec {a b c d n : Int} (h : ∀ s' p, HpAt s.next s' p (newH a c n) 0 (fun b => s.next ≤ b ∧ b < s'.next) → s.le s' → R (.pointer (some ⟨p, 0, none⟩)) s') : CCalls Tryz.prog w0 6 #[.agg #[.int .i64 a, .int .i64 b, .int .i64 c, .int .i64 d], .int .i64 n] s R := by
  refine wfun2 hmix ok6 (l := [.agg #[.int .i64 a, .int .i64 b, .int .i64 c, .int .i64 d], .int .i64 n]) func6 rfl ntmps6 results6 (by simp) ?_
  simp -implicitDefEqProofs only [↓Zd, (Zp), if_true, if_false, Nat.reduceEqDiff, okPart, Value.cells, cld2, (HEx), is26, fa26x0, fa26x2, ord6, co29]
  refine fnew_spec fun s1 pf hF1 hs1 => ?_
  have hn1 := hs1.1
  simp only [St.next_new] at hn1
  have hbx1 : s1.at' s.next = some (.cells [.int .i64 a, .int .i64 b, .int .i64 c, .int .i64 d] 26 true) := by rw [hs1.2 _ (by simp only [St.next_new]; omega), St.at_new, if_pos rfl]
  simp -implicitDefEqProofs only [↓Zd, (Zp), if_true, if_false, Nat.reduceEqDiff, Nat.reduceBEq, cld2, (HEx), hbx1, co30]
  refine tnew_spec fun s2 pn hT2 hs2 => ?_
  have hn2 := hs2.1
  have hbx2 : s2.at' s.next = _ := (hs2.2 _ (by omega)).trans hbx1
  have hbH : ∀ (u v : Value) (e f : Int), cbuild Tryz.prog 74 #[(1, .pointer (some ⟨pf, 0, none⟩)), (2, .pointer (some ⟨pn, 0, none⟩)), (3, .int .i64 e), (4, .int .i64 f)] = some (.agg #[.slice none 0 0, .pointer (some ⟨pf, 0, none⟩), .pointer (some ⟨pn, 0, none⟩), .int .i64 e, .int .i64 f]) := fun u v e f => by kernel_rfl
  simp -implicitDefEqProofs only [↓Zd, (Zp), if_true, if_false, Nat.reduceEqDiff, Nat.reduceBEq, cld2, (HEx), hbx2, co31]
  refine between_spec ?_
  simp -implicitDefEqProofs only [↓Zd, (Zp), if_true, if_false, Nat.reduceEqDiff, Nat.reduceBEq, cld2, (HEx), hbx2, co31]
  refine between_spec ?_
  simp -implicitDefEqProofs only [↓Zd, (Zp), if_true, if_false, Nat.reduceEqDiff, okPart, Value.cells, (HEx), hbH .nilFunc .nilFunc]
  have hl : s.le (s2.new (.cells [.slice none 0 0, .pointer (some ⟨pf, 0, none⟩), .pointer (some ⟨pn, 0, none⟩), .int .i64 (max 0 (min a 200)), .int .i64 (max 0 (min c 32))] 74 true)) := St.le_new (St.le_trans (St.le_trans (St.le_new (St.le_refl _)) hs1) hs2)
  refine h _ _ ⟨newH_pro a c n, (fun c => if s1.next ≤ c ∧ c < s2.next then 2 else if s.next + 1 ≤ c ∧ c < s1.next then 1 else 0), pf, pn, .slice none 0 0, [], ⟨fun b hb => hb, newH_ok a c n, Nat.zero_le _, ⟨⟨by omega, by simp only [St.next_new]; omega⟩, by rw [if_neg (by omega), if_neg (by omega)]⟩, ?_, .inl ⟨rfl, rfl, rfl⟩, (fun q n c e => by cases e), ?_, ?_, rfl, fun i b o hb _ => by simp at hb⟩⟩ hl
  · rw [St.at_new, if_pos rfl]
    have e1 : ((newH a c n).maxO : Int) = max 0 (min a 200) := by simp only [newH]; omega
    have e2 : ((newH a c n).maxP : Int) = max 0 (min c 32) := by simp only [newH]; omega
    rw [e1, e2]
  · have e : (fun b => (s.next ≤ b ∧ b < (s2.new (.cells [.slice none 0 0, .pointer (some ⟨pf, 0, none⟩), .pointer (some ⟨pn, 0, none⟩), .int .i64 (max 0 (min a 200)), .int .i64 (max 0 (min c 32))] 74 true)).next) ∧ (if s1.next ≤ b ∧ b < s2.next then 2 else if s.next + 1 ≤ b ∧ b < s1.next then 1 else 0) = 1) = fun b => s.next + 1 ≤ b ∧ b < s1.next := by
      funext b
      apply propext
      simp only [St.next_new]
      split
      · omega
      · split <;> omega
    rw [e]
    simp only [St.next_new] at hF1
    refine (hF1.low (by omega)).same (by simp only [St.next_new]; omega) fun c hc => ?_
    rw [St.at_new, if_neg (by omega), hs2.2 c (by omega)]
  · have e : (fun b => (s.next ≤ b ∧ b < (s2.new (.cells [.slice none 0 0, .pointer (some ⟨pf, 0, none⟩), .pointer (some ⟨pn, 0, none⟩), .int .i64 (max 0 (min a 200)), .int .i64 (max 0 (min c 32))] 74 true)).next) ∧ (if s1.next ≤ b ∧ b < s2.next then 2 else if s.next + 1 ≤ b ∧ b < s1.next then 1 else 0) = 2) = fun b => s1.next ≤ b ∧ b < s2.next := by
      funext b
      apply propext
      simp only [St.next_new]
      split
      · omega
      · split <;> omega
    rw [e]
    refine (hT2.low (by omega)).same (by simp only [St.next_new]; omega) fun c hc => ?_
    rw [St.at_new, if_neg (by omega)]
end
end Go.Proofs.Tryz
set_option linter.unusedSimpArgs false
set_option linter.unusedVariables false
set_option linter.unusedSectionVars false
namespace Go.Proofs.Tryz
open Go.Cs
open Go.RowKit (Below)
set_option maxRecDepth 100000
attribute [local irreducible] CCalls WLoop WScope CRound WRange
def PSz (B : Nat) (p : ByteArray × V3) : Prop := p.1.size ≤ B ∧ p.2.2.2.size ≤ B ∧ -9223372036854775808 ≤ p.2.2.1 ∧ p.2.2.1 ≤ 9223372036854775807
def HSz (B : Nat) (H : Hp) : Prop := ∀ (i : Nat) (o : Ob), H.obs[i]? = some o → ∀ p ∈ o.L, PSz B p
def headB (k : Nat) (q : Nat) : ByteArray := (⟨#[35]⟩ : ByteArray) ++ digS ((k + 1 : Nat) : Int) ++ (⟨#[32, 35]⟩ : ByteArray) ++ digS (q : Int)
def propB (p : ByteArray × V3) : ByteArray := (⟨#[32]⟩ : ByteArray) ++ p.1 ++ (⟨#[58]⟩ : ByteArray) ++ printV p.2.1 p.2.2.1 p.2.2.2
def propsL (L : List (ByteArray × V3)) : List UInt8 := L.flatMap fun p => (propB p).data.toList
def lineL (H : Hp) (k : Nat) : List UInt8 := match H.obs[k]? with
  | some o => (headB k o.proto).data.toList ++ propsL o.L ++ [10]
  | none => []
def linesL (H : Hp) (k : Nat) : List UInt8 := (List.range k).flatMap (lineL H)
def dumpB (H : Hp) : ByteArray := ⟨(linesL H H.obs.length).toArray⟩
theorem printV_len {k n : Int} {x : ByteArray} (hn : -9223372036854775808 ≤ n ∧ n ≤ 9223372036854775807) : (printV k n x).size ≤ 4 * x.size + 30 := by
  have hd := digS_len hn
  rcases kinds k with rfl | rfl | rfl | rfl | rfl | rfl | ⟨h0, h1, h2, h3, h4, h5⟩
  · show 4 ≤ _; omega
  · by_cases hz : n = 0
    · simp only [printV, showV, hz]; show 5 ≤ _; omega
    · simp only [printV, showV, hz]; show 4 ≤ _; omega
  · simp only [printV, showV]; show (digS n).size ≤ _; omega
  · simp only [printV]
    show (quoteS x).size ≤ _
    have := flat_len x.data.toList
    show (quoteL x.data.toList).length ≤ _
    unfold quoteL
    simp only [List.length_cons, List.length_append, List.length_nil]
    have e : x.data.toList.length = x.size := rfl
    omega
  · simp only [printV]; show ((⟨#[35]⟩ : ByteArray) ++ digS n).size ≤ _
    rw [ByteArray.size_append]; show 1 + _ ≤ _; omega
  · simp only [printV]; show ((⟨#[38]⟩ : ByteArray) ++ digS n).size ≤ _
    rw [ByteArray.size_append]; show 1 + _ ≤ _; omega
  · simp only [printV, showV, h0, h1, h2, h3, h4, h5, if_false]; show 0 ≤ _; omega
theorem headB_len {k q : Nat} (hk : k ≤ 1000) (hq : q ≤ 1000) : (headB k q).size ≤ 50 := by
  unfold headB
  have h1 := digS_len (n := ((k + 1 : Nat) : Int)) (by omega)
  have h2 := digS_len (n := (q : Int)) (by omega)
  simp only [ByteArray.size_append]
  show 1 + _ + 2 + _ ≤ _
  omega
theorem propB_len {p : ByteArray × V3} (h : PSz 1000000 p) : (propB p).size ≤ 6000000 := by
  obtain ⟨h1, h2, h3, h4⟩ := h
  have := printV_len (k := p.2.1) (x := p.2.2.2) ⟨h3, h4⟩
  unfold propB
  simp only [ByteArray.size_append]
  show 1 + _ + 1 + _ ≤ _
  omega
theorem propsL_len : ∀ {L : List (ByteArray × V3)}, (∀ p ∈ L, PSz 1000000 p) → (propsL L).length ≤ L.length * 6000000 := by
  intro L
  induction L with
  | nil => intro _; simp [propsL]
  | cons p L ih =>
    intro h
    have h1 := propB_len (h p (List.mem_cons_self))
    have h2 := ih fun q hq => h q (List.mem_cons_of_mem _ hq)
    show ((propB p).data.toList ++ propsL L).length ≤ _
    rw [List.length_append, List.length_cons]
    have e : (propB p).data.toList.length = (propB p).size := rfl
    omega
theorem lineL_len {H : Hp} (hok : HOk H) (hs : HSz 1000000 H) (k : Nat) : (lineL H k).length ≤ 200000000 := by
  unfold lineL
  cases ho : H.obs[k]? with
  | none => simp
  | some o =>
    simp only [List.length_append, List.length_cons, List.length_nil]
    have hk := (List.getElem?_eq_some_iff.1 ho).1
    have hlim := hok.lim
    have hl := hok.lens k o ho
    obtain ⟨d, hd⟩ := hok.up
    have hq : o.proto ≤ 200 := by rcases hd k o ho with h | ⟨h, _⟩ <;> omega
    have h1 := headB_len (k := k) (q := o.proto) (by omega) (by omega)
    have h2 := propsL_len (hs k o ho)
    have e : (headB k o.proto).data.toList.length = (headB k o.proto).size := rfl
    omega
theorem linesL_succ (H : Hp) (k : Nat) : linesL H (k + 1) = linesL H k ++ lineL H k := by
  unfold linesL; rw [List.range_succ]; simp
theorem linesL_len {H : Hp} (hok : HOk H) (hs : HSz 1000000 H) (k : Nat) : (linesL H k).length ≤ k * 200000000 := by
  induction k with
  | zero => simp [linesL]
  | succ k ih =>
    have := lineL_len hok hs k
    rw [linesL_succ, List.length_append]; omega
theorem ba_list_append (a b : ByteArray) : (a ++ b).data.toList = a.data.toList ++ b.data.toList := by
  rw [ByteArray.data_append, Array.toList_append]
section
variable {M : Type} [Mem M] {w0 : World} {s : St M} {R : Value → St M → Prop} {lo p N : Nat} {H : Hp} {O : Nat → Prop}
theorem BAt.go {s0 s s' : St M} {p : Nat} {l : List UInt8} (h : BAt s0 s p l) (hs : s.le s') : BAt s0 s' p l := by
  obtain ⟨h1, h2, h3, ad, sl, h4, h5, h6⟩ := h
  have := hs.1
  refine ⟨St.le_trans h1 hs, h2, by omega, ad, sl, (hs.2 p h3).trans h4, h5, ?_⟩
  rcases h6 with h6 | ⟨g1, b, g2, g3, g4, g5, g6⟩
  · exact .inl h6
  · exact .inr ⟨g1, b, g2, (hs.2 b g6).trans g3, g4, g5, by omega⟩
theorem Fix.sub {W W' : List Nat} {a b : Env} (h : Fix W a b) (hs : ∀ t, W'.contains t = false → W.contains t = false) : Fix W' a b := fun t ht => h t (hs t ht)
set_option maxHeartbeats 8000000 in
theorem hdump_spec (h : HpAt lo s p H N O) (hN : N ≤ 1000000) (hsz : HSz 1000000 H) (hR : ∀ s', s.le s' → R (.string (dumpB H)) s') : CCalls Tryz.prog w0 26 #[.pointer (some ⟨p, 0, none⟩)] s R := by
  refine wfun2 hmix ok26 (l := [.pointer (some ⟨p, 0, none⟩)]) func26 rfl ntmps26 results26 (by simp) ?_
  obtain ⟨hpro, tg, pf, pn, sl, bs, h⟩ := h
  have hlim := h.ok.lim
  simp -implicitDefEqProofs only [↓Zd, (Zp), Value.cells, ze143]
  have hB0 : BAt s (s.new (.cells [.pointer none, .slice none 0 0] 143 true)) s.next (linesL H 0) :=
    ⟨St.le_new (St.le_refl _), Nat.le_refl _, by simp only [St.next_new]; omega, _, _, by rw [St.at_new, if_pos rfl], .inl rfl, .inl ⟨rfl, rfl⟩⟩
  refine wloop_fix hmix [10, 11, 12, 13, 16, 17, 18, 19, 20, 21, 22, 23, 24, 25, 26, 27, 28, 29, 30, 31, 5, 32, 33, 34, 35, 36, 37, 38, 6, 7, 39, 40, 41, 42, 43, 44, 45, 8, 9, 46, 47, 48, 49, 50, 51, 52, 53, 54, 14, 15, 4] (fun fuel env s1 => ∃ k : Nat, fuel = H.obs.length - k ∧ k ≤ H.obs.length ∧ env 4 = .int .i64 ((k + 1 : Nat) : Int) ∧ BAt s s1 s.next (linesL H k)) H.obs.length ⟨0, rfl, by omega, rfl, hB0⟩ ?_
  rintro fuel env s1 hFx ⟨k, rfl, hk, e4, hB⟩
  have e0 : env 0 = .pointer (some ⟨p, 0, none⟩) := by rw [hFx 0 rfl]; rfl
  have e3 : env 3 = .pointer (some ⟨s.next, 0, none⟩) := by rw [hFx 3 rfl]; rfl
  have hll := linesL_len h.ok hsz k
  simp -implicitDefEqProofs only [↓Zd, (Zp), if_true, if_false, reduceCtorEq, e0, e4, co46]
  refine hlen_spec (h.le hB.le) ?_
  by_cases hkn : k < H.obs.length
  · have hle1 : ((k + 1 : Nat) : Int) ≤ (H.obs.length : Int) := by omega
    obtain ⟨o, ho⟩ : ∃ o, H.obs[k]? = some o := ⟨H.obs[k], by simp [hkn]⟩
    have hat : obAt H ((k + 1 : Nat) : Int) = some o := by rw [obAt_get]; exact ho
    obtain ⟨d, hd⟩ := h.ok.up
    have hq : o.proto ≤ 200 := by rcases hd k o ho with h | ⟨h, _⟩ <;> omega
    have hd1 := digS_len (n := ((k + 1 : Nat) : Int)) (by omega)
    have hd2 := digS_len (n := (o.proto : Int)) (by omega)
    have hml : o.L.length ≤ 32 := by have := h.ok.lens k o ho; omega
    have z1 : (⟨#[35]⟩ : ByteArray).size + (digS ((k + 1 : Nat) : Int)).size ≤ 9223372036854775807 := by show 1 + _ ≤ _; omega
    have z2 : ((⟨#[35]⟩ : ByteArray) ++ digS ((k + 1 : Nat) : Int)).size + (⟨#[32, 35]⟩ : ByteArray).size ≤ 9223372036854775807 := by rw [ByteArray.size_append]; show 1 + _ + 2 ≤ _; omega
    have z3 : ((⟨#[35]⟩ : ByteArray) ++ digS ((k + 1 : Nat) : Int) ++ (⟨#[32, 35]⟩ : ByteArray)).size + (digS (o.proto : Int)).size ≤ 9223372036854775807 := by rw [ByteArray.size_append, ByteArray.size_append]; show 1 + _ + 2 + _ ≤ _; omega
    simp -implicitDefEqProofs only [↓Zd, (Zp), if_true, if_false, Nat.reduceEqDiff, (HEx), e4, hle1, co72]
    refine digits_spec (by omega) fun s2 hs2 => ?_
    have hB2 := hB.go hs2
    simp -implicitDefEqProofs only [↓Zd, (Zp), if_true, if_false, Nat.reduceEqDiff, reduceCtorEq, (HEx), e0, e4, z1, z2, co73]
    refine hproto_spec (h.le hB2.le) (by omega) ?_
    have hpv : protoV H ((k + 1 : Nat) : Int) = (o.proto : Int) := by unfold protoV; rw [hat]
    rw [hpv]
    simp -implicitDefEqProofs only [↓Zd, (Zp), if_true, if_false, Nat.reduceEqDiff, (HEx), co72]
    refine digits_spec (by omega) fun s3 hs3 => ?_
    have hB3 := hB2.go hs3
    simp -implicitDefEqProofs only [↓Zd, (Zp), if_true, if_false, Nat.reduceEqDiff, (HEx), e3, z3, co71]
    have hh : (⟨#[35]⟩ : ByteArray) ++ digS ((k + 1 : Nat) : Int) ++ (⟨#[32, 35]⟩ : ByteArray) ++ digS (o.proto : Int) = headB k o.proto := rfl
    rw [hh]
    have hhl := headB_len (k := k) (q := o.proto) (by omega) (by omega)
    refine writeString_spec hB3 (by omega) (by rw [← hh]; simp only [ba_list_append]; simp) (by omega) fun s4 hB4 => ?_
    simp -implicitDefEqProofs only [↓Zd, (Zp), if_true, if_false, Nat.reduceEqDiff, reduceCtorEq, underlying146, e0, e4, co74]
    refine hcount_spec (i := ((k + 1 : Nat) : Int)) (h.le hB4.le) (by omega) fun s5 hs5 => ?_
    have hB5 := hB4.go hs5
    have hcv : countV H ((k + 1 : Nat) : Int) = (o.L.length : Int) := by unfold countV; rw [hat]
    rw [hcv]
    simp -implicitDefEqProofs only [↓Zd, (Zp), (HEx)]
    refine wloop_fix hmix [30, 31, 5, 32, 33, 34, 35, 36, 37, 38, 6, 7, 39, 40, 41, 42, 43, 44, 45, 8, 9, 46, 47, 48, 49, 50, 51, 52, 53, 29] (fun fuel env s1 => ∃ m : Nat, fuel = o.L.length - m ∧ m ≤ o.L.length ∧ env 29 = .int .i64 (m : Int) ∧ BAt s s1 s.next (linesL H k ++ (headB k o.proto).data.toList ++ propsL (o.L.take m))) o.L.length ⟨0, rfl, by omega, rfl, by simpa [propsL] using hB5⟩ ?_
    rintro fuel2 env2 s6 hFx2 ⟨m, rfl, hm, e29, hB6⟩
    have f0 : env2 0 = .pointer (some ⟨p, 0, none⟩) := by rw [hFx2 0 rfl]; simp only [upd_apply]; simpa using e0
    have f3 : env2 3 = .pointer (some ⟨s.next, 0, none⟩) := by rw [hFx2 3 rfl]; simp only [upd_apply]; simpa using e3
    have f4 : env2 4 = .int .i64 ((k + 1 : Nat) : Int) := by rw [hFx2 4 rfl]; simp only [upd_apply]; simpa using e4
    have f28 : env2 28 = .int .i64 (o.L.length : Int) := by rw [hFx2 28 rfl]; rfl
    have hpl := propsL_len (L := o.L.take m) (fun q hq => hsz k o ho q (List.mem_of_mem_take hq))
    have htl : (o.L.take m).length ≤ 32 := by rw [List.length_take]; omega
    have hel : (headB k o.proto).data.toList.length = (headB k o.proto).size := rfl
    have hlen6 : (linesL H k ++ (headB k o.proto).data.toList ++ propsL (o.L.take m)).length ≤ 100000000000 := by
      simp only [List.length_append]; omega
    by_cases hml2 : (m : Int) < (o.L.length : Int)
    · have hmlt : m < o.L.length := by omega
      obtain ⟨x, v, hLm⟩ : ∃ x v, o.L[m]? = some (x, v) := ⟨o.L[m].1, o.L[m].2, by simp [hmlt]⟩
      obtain ⟨v1, v2, v3⟩ := v
      have hpsz := hsz k o ho _ (List.mem_of_getElem? hLm)
      obtain ⟨q1, q2, q3, q4⟩ := hpsz
      simp only at q1 q2 q3 q4
      have hgp := getP_get (h.ok.keys k o ho) hLm
      have hkV : keyV o.L (m : Int) = .tuple #[.string x, .bool true] := by
        unfold keyV
        rw [if_pos (by omega), Int.toNat_natCast, List.getD_eq_getElem?_getD, hLm]; rfl
      simp -implicitDefEqProofs only [↓Zd, (Zp), if_true, if_false, Nat.reduceEqDiff, reduceCtorEq, f0, f4, f28, e29, hml2, co75]
      refine hkey_spec (i := ((k + 1 : Nat) : Int)) (k := (m : Int)) (h.le hB6.le) hN (by omega) (by omega) fun s7 hs7 => ?_
      rw [hat]
      simp only [hkV]
      have hB7 := hB6.go hs7
      simp -implicitDefEqProofs only [↓Zd, (Zp), if_true, if_false, Nat.reduceEqDiff, reduceCtorEq, (HEx), f0, f4, co76]
      refine hown_spec (i := ((k + 1 : Nat) : Int)) (h.le hB7.le) (by omega) fun s8 hs8 => ?_
      rw [hat]
      simp only [Option.bind_some, hgp, gotV, vOf]
      have hB8 := hB7.go hs8
      have hw1 : (⟨#[32]⟩ : ByteArray).size + x.size ≤ 9223372036854775807 := by show 1 + _ ≤ _; omega
      have hw2 : ((⟨#[32]⟩ : ByteArray) ++ x).size + (⟨#[58]⟩ : ByteArray).size ≤ 9223372036854775807 := by rw [ByteArray.size_append]; show 1 + _ + 1 ≤ _; omega
      have hpl1 := printV_len (k := v1) (n := v2) (x := v3) ⟨q3, q4⟩
      have hw3 : ((⟨#[32]⟩ : ByteArray) ++ x ++ (⟨#[58]⟩ : ByteArray)).size + (printV v1 v2 v3).size ≤ 9223372036854775807 := by rw [ByteArray.size_append, ByteArray.size_append]; show 1 + _ + 1 + _ ≤ _; omega
      simp -implicitDefEqProofs only [↓Zd, (Zp), if_true, if_false, Nat.reduceEqDiff, Nat.reduceAdd, Nat.reduceLeDiff, okPart, Value.cells, cut, okCell, cld2, (HEx), vA, hw1, hw2, co77]
      have hB9 := hB8.go (s' := (s8.new (.cells [.int .i64 0, .int .i64 0, .string ⟨#[]⟩] 36 true)).put s8.next (.cells [.int .i64 v1, .int .i64 v2, .string v3] 36 true)) (St.le_put (St.le_new (St.le_refl _)) (Nat.le_refl _))
      have hpr := print_spec (w0 := w0) (k := v1) (n := v2) (x := v3) (s := (s8.new (.cells [.int .i64 0, .int .i64 0, .string ⟨#[]⟩] 36 true)).put s8.next (.cells [.int .i64 v1, .int .i64 v2, .string v3] 36 true)) ⟨q3, q4⟩ q2 (R := fun v s' => v = .string (printV v1 v2 v3) ∧ BAt s s' s.next (linesL H k ++ (headB k o.proto).data.toList ++ propsL (o.L.take m))) (fun s' hs' => ⟨rfl, hB9.go hs'⟩)
      unfold vA at hpr
      refine CCalls.mono hpr fun v s9 hv => ?_
      obtain ⟨rfl, hB10⟩ := hv
      simp -implicitDefEqProofs only [↓Zd, (Zp), if_true, if_false, Nat.reduceEqDiff, (HEx), f3, hw3, co71]
      have hpb : (⟨#[32]⟩ : ByteArray) ++ x ++ (⟨#[58]⟩ : ByteArray) ++ printV v1 v2 v3 = propB (x, v1, v2, v3) := rfl
      rw [hpb]
      have hpbl := propB_len (p := (x, v1, v2, v3)) ⟨q1, q2, q3, q4⟩
      refine writeString_spec hB10 (by omega) (by rw [← hpb]; simp only [ba_list_append]; simp) (by omega) fun s11 hB11 => ?_
      have w1 : IntKind.i64.wrap ((m : Int) + 1) = ((m + 1 : Nat) : Int) := by rw [wrap_i64 (by omega)]; omega
      simp -implicitDefEqProofs only [↓Zd, (Zp), if_true, if_false, Nat.reduceEqDiff, underlying146, e29, w1]
      refine ⟨by repeat (first | exact hFx2 | refine Fix.upd (by decide) ?_), o.L.length - (m + 1), by omega, m + 1, rfl, by omega, rfl, ?_⟩
      have e : propsL (o.L.take (m + 1)) = propsL (o.L.take m) ++ (propB (x, v1, v2, v3)).data.toList := by
        rw [List.take_add_one, hLm]
        show (o.L.take m ++ [_]).flatMap _ = _
        rw [List.flatMap_append]
        simp [propsL]
      rw [e, ← List.append_assoc]
      exact hB11
    · have : m = o.L.length := by omega
      subst this
      rw [List.take_length] at hB6 hlen6
      have w1 : IntKind.i64.wrap (((k + 1 : Nat) : Int) + 1) = ((k + 1 + 1 : Nat) : Int) := by rw [wrap_i64 (by omega)]; omega
      simp -implicitDefEqProofs only [↓Zd, (Zp), if_true, if_false, Nat.reduceEqDiff, f3, f28, e29, hml2, co78]
      refine writeByte_spec (c := 10) hB6 (by omega) fun s7 hB7 => ?_
      simp -implicitDefEqProofs only [↓Zd, (Zp), if_true, if_false, Nat.reduceEqDiff, Nat.reduceAdd, underlying145, f4, w1]
      refine ⟨?_, H.obs.length - (k + 1), by omega, k + 1, rfl, by omega, rfl, ?_⟩
      · repeat (first | exact (Fix.trans (by repeat (first | exact hFx | refine Fix.upd (by decide) ?_)) (Fix.sub hFx2 (by intro t ht; simp only [List.contains_cons, List.contains_nil, Bool.or_false, Bool.or_eq_false_iff] at ht ⊢; simp only [ht, and_self]))) | refine Fix.upd (by decide) ?_)
      · have e : linesL H k ++ (headB k o.proto).data.toList ++ propsL o.L ++ [10] = linesL H (k + 1) := by
          rw [linesL_succ]
          unfold lineL
          rw [ho]
          simp only [List.append_assoc]
        rw [← e]
        exact hB7
  · have hnle : ¬ ((k + 1 : Nat) : Int) ≤ (H.obs.length : Int) := by omega
    have : k = H.obs.length := by omega
    subst this
    simp -implicitDefEqProofs only [↓Zd, (Zp), if_true, if_false, Nat.reduceEqDiff, (HEx), e3, hnle, co79]
    refine string_spec hB (by omega) fun s2 hs2 => ?_
    simp -implicitDefEqProofs only [↓Zd, (Zp), if_true, if_false, Nat.reduceEqDiff, (HEx)]
    exact hR _ hs2
end
end Go.Proofs.Tryz
