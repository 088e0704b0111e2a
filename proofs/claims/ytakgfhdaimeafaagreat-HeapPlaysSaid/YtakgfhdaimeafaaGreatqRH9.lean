/- The document's heaps: the walks of what puts, and of what takes away. A lemma file: no statement of its own. -/
import Derived.Test.YtakgfhdaimeafaaGreatqFwF
import Derived.Test.YtakgfhdaimeafaaGreatqRH8
set_option linter.unusedSimpArgs false
set_option linter.unusedVariables false
set_option linter.unusedSectionVars false
namespace Go.Proofs.Tryz
open Go.Cs
open Go.RowKit (Below)
set_option maxRecDepth 100000
attribute [local irreducible] CCalls WLoop WScope CRound WRange
section
variable {M : Type} [Mem M] {w0 : World} {s s' : St M} {R : Value → St M → Prop} {lo p N pf : Nat} {H : Hp} {O : Nat → Prop} {tg : Nat → Nat} {sl tl : Value} {bs : List Nat}
theorem ROb.head {b : Nat} {L : List (ByteArray × V3)} {a e f ns vs : Value} (h : ROb s b L a e f ns vs) (hf : RFr s b ns vs) (a' e' f' : Value) : ROb (s.put b (.cells [a', ns, vs, e', f'] 106 true)) b L a' e' f' ns vs :=
  ⟨by rw [St.at_put, if_pos rfl], h.nm.same fun q n c e => by rw [St.at_put, if_neg (hf.n q n c e).2], h.vl.same fun q n c e => by rw [St.at_put, if_neg (hf.v q n c e).2], h.few⟩
theorem RFr.put {b c : Nat} {ns vs : Value} {B : Blk} (h : RFr s b ns vs) : RFr (s.put c B) b ns vs := h.le (by simp)
theorem hang_put {b c : Nat} {ns vs : Value} {B : Blk} (hc : Hang b ns vs c) : Upd s (s.put c B) (Hang b ns vs) (Hang b ns vs) :=
  ⟨by simp, fun d hd ho => by rw [St.at_put, if_neg (fun e => ho (by rw [e]; exact hc))], fun d hd => .inl hd⟩
theorem ROb.setv {b b2 m : Nat} {L : List (ByteArray × V3)} {a e f ns vs : Value} {junk : List Value} {x : ByteArray} {w v : V3} (h : ROb s b L a e f ns vs) (hf : RFr s b ns vs) (ev : vs = .slice (some ⟨b2, 0, none⟩) L.length UNK) (hm : L[m]? = some (x, w)) :
    ROb (s.put b2 (.cells (valsC (L.set m (x, v)) ++ junk) 30 true)) b (L.set m (x, v)) a e f ns vs := by
  have g2 := (hf.v _ _ _ ev).2
  refine ⟨?_, ?_, ?_, ?_⟩
  · rw [St.at_put, if_neg (fun e => g2 e.symm)]; exact h.bl
  · have hke : keysP (L.set m (x, v)) = keysP L := keys_set hm
    rw [hke]
    exact h.nm.same fun q m c e => by rw [St.at_put, if_neg (fun e2 => hf.nv _ _ _ _ _ _ e ev e2)]
  · rw [List.length_set]
    refine .inr ⟨b2, junk, ev, ?_, ?_⟩
    · rw [St.at_put, if_pos rfl]
    · rw [valsC_len, List.length_set]
  · rw [List.length_set]; exact h.few
theorem RHpIn.setO (h : RHpIn lo s p H N O tg pf sl tl bs) (hlo : lo ≤ s.next) {i : Int} {j b : Nat} {o' : Ob} {ns vv ns' vv' : Value} (hij : i = ((j + 1 : Nat) : Int)) (hj : j < H.obs.length) (hb : bs[j]? = some b) (hO : ∀ c, Hang b ns vv c → O c ∧ tg c = j + 3) (hU : Upd s s' (Hang b ns vv) (Hang b ns' vv'))
    (hob : ROb s' b o'.L (.int .i64 (o'.proto : Int)) (.int .i64 (o'.epoch : Int)) (.int .i64 (o'.shape : Int)) ns' vv') (hfr : RFr s' b ns' vv') (hep : o'.epoch ≤ N) (hok : HOk (putO H i o')) :
    ∃ O' tg', RHpIn lo s' p (putO H i o') N O' tg' pf sl tl bs ∧ Upd s s' O O' := by
  subst hij
  have e : (((j + 1 : Nat) : Int).toNat - 1) = j := by omega
  unfold putO at *
  rw [e] at hok ⊢
  have hU2 : Upd s s' (fun c => O c ∧ tg c = j + 3) (Hang b ns' vv') := ⟨hU.next, fun c hc ho => hU.keep c hc fun h => ho (hO c h), fun c hc => (hU.own c hc).imp (hO c) id⟩
  have hB : RObAt lo s' N b o' (Hang b ns' vv') := ⟨fun c hc => ⟨by rcases hU.own c hc with h1 | h1; exact (h.own c (hO c h1).1).1; omega, hfr.lt c hc⟩, .b, hep, ns', vv', hob, hfr, fun c hc => hc⟩
  exact ⟨_, _, h.newO hj hb hU2 hB hok, re_upd hU2⟩
theorem slotG_no {i k : Int} (h : slotG H i k = none) (v : V3) : putH H i k v = H := by
  unfold slotG at h
  unfold putH
  cases ho : obAt H i with
  | none => rfl
  | some o =>
    rw [ho] at h
    simp only at h ⊢
    split
    · rfl
    · rename_i hs
      rw [if_neg hs] at h
      split
      · rename_i hk
        rw [if_pos hk] at h
        have := Option.map_eq_none_iff.1 h
        rw [this]
      · rfl
theorem slotG_yes {i k : Int} {w : V3} (h : slotG H i k = some w) : ∃ (o : Ob) (m : Nat) (x : ByteArray), obAt H i = some o ∧ k = (m : Int) ∧ o.L[m]? = some (x, w) ∧ ∀ v, putH H i k v = putO H i { o with L := o.L.set m (x, v) } := by
  unfold slotG at h
  cases ho : obAt H i with
  | none => rw [ho] at h; cases h
  | some o =>
    rw [ho] at h
    simp only at h
    split at h
    · cases h
    · rename_i hs
      split at h
      · rename_i hk
        obtain ⟨⟨x, w'⟩, h1, h2⟩ := Option.map_eq_some_iff.1 h
        simp only at h2
        subst h2
        refine ⟨o, k.toNat, x, rfl, by omega, h1, fun v => ?_⟩
        unfold putH
        rw [ho]
        simp only [if_neg hs, if_pos hk, h1]
      · cases h
set_option maxHeartbeats 8000000 in
theorem rput_spec (h : RHpAt lo s p H N O) (hlo : lo ≤ s.next) {i q : Int} {y : ByteArray} {k n : Int}
    (hR : ∀ s' O', RHpAt lo s' p (putH H i q (k, n, y)) N O' → Upd s s' O O' → R (.bool (slotG H i q).isSome) s') : CCalls Tryz.prog w0 35 #[.pointer (some ⟨p, 0, none⟩), .int .i64 i, .int .i64 q, vA k n y] s R := by
  refine wfun2 hmix ok35 (l := [.pointer (some ⟨p, 0, none⟩), .int .i64 i, .int .i64 q, vA k n y]) func35 rfl ntmps35 results35 (by simp) ?_
  obtain ⟨hpro, tg, pf, sl, tl, bs, h⟩ := h
  have hok := put_ok h.ok i q (k, n, y)
  have hpr := put_pro hpro i q (k, n, y)
  have l1 : s.le (s.new (.cells [.int .i64 k, .int .i64 n, .string y] 30 true)) := St.le_new (St.le_refl _)
  simp -implicitDefEqProofs only [↓Zd, (Zp), if_true, if_false, Nat.reduceEqDiff, reduceCtorEq, okPart, Value.cells, (HEx), vA, co63]
  refine rslot_spec (h.le l1) fun s1 hs1 => ?_
  have hle1 := St.le_trans l1 hs1
  have hn1 := hs1.1
  simp only [St.next_new] at hn1
  have c7 : s1.at' s.next = some (.cells [.int .i64 k, .int .i64 n, .string y] 30 true) := by rw [hs1.2 _ (by simp only [St.next_new]; omega), St.at_new, if_pos rfl]
  cases hsl : slotG H i q with
  | none =>
    rw [slotG_no hsl, hsl] at hR
    simp only [gotV]
    simp -implicitDefEqProofs only [↓Zd, (Zp), if_true, if_false, Nat.reduceEqDiff, Nat.reduceAdd, Nat.reduceLeDiff, okPart, Value.cells, okCell, (HEx), vA]
    have l2 : s.le ((s1.new (.cells [.int .i64 0, .int .i64 0, .string ⟨#[]⟩] 30 true)).put s1.next (.cells [.int .i64 0, .int .i64 0, .string ⟨#[]⟩] 30 true)) := St.le_put (St.le_new hle1) (by omega)
    exact hR _ _ ⟨hpro, tg, pf, sl, tl, bs, h.le l2⟩ (.of_le l2)
  | some w =>
    obtain ⟨o, m, x, hat, rfl, hm, e1⟩ := slotG_yes hsl
    rw [e1] at hok hpr
    rw [e1, hsl] at hR
    obtain ⟨w1, w2, w3⟩ := w
    obtain ⟨j, hij, hj, hjo⟩ := obAt_some hat
    have l2 : s.le ((s1.new (.cells [.int .i64 0, .int .i64 0, .string ⟨#[]⟩] 30 true)).put s1.next (.cells [.int .i64 w1, .int .i64 w2, .string w3] 30 true)) := St.le_put (St.le_new hle1) (by omega)
    obtain ⟨b, br, vs, own, ns, vv, hb, hB, esl, hbr, hg, hbrn, hob, hfr, hO⟩ := (h.le l2).at hjo
    have h1 := (h.le hle1).bl
    rw [esl] at h1
    rcases hob.vl with ⟨e0, _⟩ | ⟨b2, junk, e2, hb2v, _⟩
    · have := (List.getElem?_eq_some_iff.1 hm).1; omega
    have h2 := hob.bl
    have hpn := (h.own p h.pin.1).2
    have hp2 : ¬ p = s1.next := by omega
    have hbo := (h.own _ (hO _ .b).1).2
    have hb2o := (h.own _ (hO _ (.v e2)).1).2
    simp only at hb2o
    have hbro := (h.own _ (h.rowO _ _ _ esl).1).2
    simp only at hbro
    have hb2 : ¬ b = s1.next := by omega
    have hb22 : ¬ b2 = s1.next := by omega
    have hbr2 : ¬ br = s1.next := by omega
    have hs2 : ¬ s.next = s1.next := by omega
    have hbs : ¬ b2 = s.next := by omega
    have h2a : s1.at' b = some (.cells [.int .i64 (o.proto : Int), ns, vv, .int .i64 (o.epoch : Int), .int .i64 (o.shape : Int)] 106 true) := by rw [St.at_put, if_neg hb2, St.at_new, if_neg hb2] at h2; exact h2
    have hbra : s1.at' br = some (.cells vs 107 own) := by rw [St.at_put, if_neg hbr2, St.at_new, if_neg hbr2] at hbr; exact hbr
    have hb2a : s1.at' b2 = some (.cells (valsC o.L ++ junk) 30 true) := by rw [St.at_put, if_neg hb22, St.at_new, if_neg hb22] at hb2v; exact hb2v
    rw [e2] at h2a
    obtain ⟨c1, c2⟩ := valsC_cut o.L m _ _ junk hm
    have hset := valsC_set o.L m x (k, n, y) _ junk hm
    have hk2 := ix_ok (n := bs.length) (j := j) (by rw [h.len]; exact hj)
    have hkk := ix_ok (List.getElem?_eq_some_iff.1 hm).1
    have wj := h.w hj
    subst hij
    simp only [gotV, vOf]
    simp -implicitDefEqProofs only [↓Zd, (Zp), if_true, if_false, Nat.reduceEqDiff, reduceCtorEq, Nat.reduceAdd, Nat.reduceLeDiff, okPart, Value.cells, cut, okCell, cld2, (HEx), (REx), vA, h1, h2a, hbra, hb2a, hp2, hb2, hb22, hbr2, hs2, hg, hk2, hkk, wj, c1, c7, hset, ord35]
    obtain ⟨O', tg', h4, hU4⟩ := (h.le l2).setO (o' := { o with L := o.L.set m (x, k, n, y) }) (by have := l2.1; omega) rfl hj hb hO (hang_put (B := .cells (valsC (o.L.set m (x, k, n, y)) ++ junk) 30 true) (.v e2)) (hob.setv hfr e2 hm) hfr.put hB.ep hok
    exact hR _ _ ⟨hpr, _, _, _, _, _, h4⟩ ((Upd.of_le l2).trans hU4)
set_option maxHeartbeats 8000000 in
theorem rdel_spec (h : RHpAt lo s p H N O) (hlo : lo ≤ s.next) {i : Int} {x : ByteArray} (hN : N + 3 ≤ 1000000)
    (hR : ∀ s' O', RHpAt lo s' p (delH H i x) (N + 3) O' → Upd s s' O O' → R (.bool (delB H i x)) s') : CCalls Tryz.prog w0 32 #[.pointer (some ⟨p, 0, none⟩), .int .i64 i, .string x] s R := by
  refine wfun2 hmix ok32 (l := [.pointer (some ⟨p, 0, none⟩), .int .i64 i, .string x]) func32 rfl ntmps32 results32 (by simp) ?_
  have hok := del_ok h.ok i x
  have hpr := del_pro h.1 i x
  obtain ⟨hpro, tg, pf, sl, tl, bs, h⟩ := h
  simp -implicitDefEqProofs only [↓Zd, (Zp), if_true, if_false, Nat.reduceEqDiff, reduceCtorEq, co56]
  refine rown_spec h fun s1 hs1 => ?_
  have hn1 := hs1.1
  cases hgg : (obAt H i).bind fun o => getP o.L x with
  | none =>
    have e1 : delH H i x = H := by
      unfold delH
      cases ho : obAt H i with
      | none => rfl
      | some o =>
        rw [ho] at hgg
        have hgg : getP o.L x = none := hgg
        simp only [hgg, Option.isSome_none, Bool.false_eq_true, if_false]
    have e2 : delB H i x = false := by unfold delB; rw [hgg]; rfl
    rw [e1, e2] at hR
    simp only [gotV]
    simp -implicitDefEqProofs only [↓Zd, (Zp), if_true, if_false, Nat.reduceEqDiff, Nat.reduceAdd, Nat.reduceLeDiff, okPart, Value.cells, okCell, (HEx), vA]
    have l2 : s.le ((s1.new (.cells [.int .i64 0, .int .i64 0, .string ⟨#[]⟩] 30 true)).put s1.next (.cells [.int .i64 0, .int .i64 0, .string ⟨#[]⟩] 30 true)) := St.le_put (St.le_new hs1) (by omega)
    exact hR _ _ ⟨hpro, tg, pf, sl, tl, bs, (h.le l2).mono (by omega)⟩ (.of_le l2)
  | some w =>
    obtain ⟨o, hat, hgo⟩ := Option.bind_eq_some_iff.1 hgg
    have e1 : delH H i x = putO H i { L := delP o.L x, shape := 0, proto := o.proto, epoch := o.epoch + 1 } := by unfold delH; rw [hat]; simp only [hgo, Option.isSome_some, if_true]
    have e2 : delB H i x = true := by unfold delB; rw [hgg]; rfl
    rw [e1] at hok hpr
    rw [e1, e2] at hR
    obtain ⟨w1, w2, w3⟩ := w
    obtain ⟨j, rfl, hj, hjo⟩ := obAt_some hat
    have l2 : s.le ((s1.new (.cells [.int .i64 0, .int .i64 0, .string ⟨#[]⟩] 30 true)).put s1.next (.cells [.int .i64 w1, .int .i64 w2, .string w3] 30 true)) := St.le_put (St.le_new hs1) (by omega)
    obtain ⟨b, br, vs, own, ns, vv, hb, hB, esl, hbr, hg, hbrn, hob, hfr, hO⟩ := (h.le l2).at hjo
    have h1 := (h.le hs1).bl
    rw [esl] at h1
    have hpn := (h.own p h.pin.1).2
    have hp2 : ¬ p = s1.next := by omega
    have hbro := (h.own _ (h.rowO _ _ _ esl).1).2
    simp only at hbro
    have hbr2 : ¬ br = s1.next := by omega
    have hbra : s1.at' br = some (.cells vs 107 own) := by rw [St.at_put, if_neg hbr2, St.at_new, if_neg hbr2] at hbr; exact hbr
    have hk2 := ix_ok (n := bs.length) (j := j) (by rw [h.len]; exact hj)
    have wj := h.w hj
    have hep := hB.ep
    have we : IntKind.i64.wrap ((o.epoch : Int) + 1) = ((o.epoch + 1 : Nat) : Int) := by rw [wrap_i64 (by omega)]; omega
    obtain ⟨jx, hjx⟩ : ∃ jx, idxOf (keysP o.L) x = some jx := by
      cases hx : idxOf (keysP o.L) x with
      | none => rw [getP_no hx] at hgo; cases hgo
      | some jx => exact ⟨jx, rfl⟩
    simp only [gotV, vOf]
    simp -implicitDefEqProofs only [↓Zd, (Zp), if_true, if_false, Nat.reduceEqDiff, reduceCtorEq, Nat.reduceAdd, Nat.reduceLeDiff, okPart, Value.cells, okCell, cld2, (HEx), (REx), vA, h1, hbra, hp2, hbr2, hg, hk2, wj, co77]
    refine rddel_spec hob hfr hjx fun s3 ns3 vs3 hob3 hfr3 hU3 => ?_
    have g3 := hob3.bl
    simp -implicitDefEqProofs only [↓Zd, (Zp), if_true, if_false, Nat.reduceEqDiff, Nat.reduceAdd, Nat.reduceLeDiff, okPart, Value.cells, okCell, cld2, (HEx), (REx), g3, we]
    have hob4 := (hob3.head hfr3 (.int .i64 (o.proto : Int)) (.int .i64 ((o.epoch + 1 : Nat) : Int)) (.int .i64 (o.shape : Int))).head hfr3.put (.int .i64 (o.proto : Int)) (.int .i64 ((o.epoch + 1 : Nat) : Int)) (.int .i64 0)
    obtain ⟨O', tg', h4, hU4⟩ := ((h.le l2).mono (N' := N + 3) (by omega)).setO (o' := { L := delP o.L x, shape := 0, proto := o.proto, epoch := o.epoch + 1 }) (by have := l2.1; omega) rfl hj hb hO ((hU3.trans (hang_put .b)).trans (hang_put .b)) hob4 hfr3.put.put (by show o.epoch + 1 ≤ _; omega) hok
    exact hR _ _ ⟨hpr, _, _, _, _, _, h4⟩ ((Upd.of_le l2).trans hU4)
end
end Go.Proofs.Tryz
