/- The document's heaps: where they lie, and the walks of what asks them. A lemma file: no statement of its own. -/
import Derived.Test.YtakgfhdaimeafaaGreatqFwF
import Derived.Test.YtakgfhdaimeafaaGreatqRH6
set_option linter.unusedSimpArgs false
set_option linter.unusedVariables false
set_option linter.unusedSectionVars false
namespace Go.Proofs.Tryz
open Go.Cs
open Go.RowKit (Below)
set_option maxRecDepth 100000
attribute [local irreducible] CCalls WLoop WScope CRound WRange
section
variable {M : Type} [Mem M] {w0 : World} {s : St M} {R : Value → St M → Prop}
structure RObAt (lo : Nat) (s : St M) (N : Nat) (b : Nat) (o : Ob) (O : Nat → Prop) : Prop where
  own : ∀ c, O c → lo ≤ c ∧ c < s.next
  pin : O b
  ep : o.epoch ≤ N
  bl : ∃ ns vs, ROb s b o.L (.int .i64 (o.proto : Int)) (.int .i64 (o.epoch : Int)) (.int .i64 (o.shape : Int)) ns vs ∧ RFr s b ns vs ∧ ∀ c, Hang b ns vs c → O c
theorem Hang.b {b : Nat} {ns vs : Value} : Hang b ns vs b := .inl rfl
theorem Hang.n {b : Nat} {ns vs : Value} {q : Addr} {n c : Nat} (e : ns = .slice (some q) n c) : Hang b ns vs q.block := .inr (.inl ⟨q, n, c, e, rfl⟩)
theorem Hang.v {b : Nat} {ns vs : Value} {q : Addr} {n c : Nat} (e : vs = .slice (some q) n c) : Hang b ns vs q.block := .inr (.inr ⟨q, n, c, e, rfl⟩)
theorem RObAt.same {lo : Nat} {s s' : St M} {N b : Nat} {o : Ob} {O : Nat → Prop} (h : RObAt lo s N b o O) (hn : s.next ≤ s'.next) (hs : ∀ c, O c → s'.at' c = s.at' c) : RObAt lo s' N b o O := by
  obtain ⟨h1, h2, h3, ns, vs, h4, h5, h6⟩ := h
  exact ⟨fun c hc => ⟨(h1 c hc).1, by have := (h1 c hc).2; omega⟩, h2, h3, ns, vs, h4.same (hs _ (h6 _ .b)) (fun q n c e => hs _ (h6 _ (.n e))) (fun q n c e => hs _ (h6 _ (.v e))), h5.le hn, h6⟩
theorem RObAt.mono {lo : Nat} {s : St M} {N N' b : Nat} {o : Ob} {O : Nat → Prop} (h : RObAt lo s N b o O) (hN : N ≤ N') : RObAt lo s N' b o O :=
  ⟨h.own, h.pin, by have := h.ep; omega, h.bl⟩
structure RHpIn (lo : Nat) (s : St M) (p : Nat) (H : Hp) (N : Nat) (O : Nat → Prop) (tg : Nat → Nat) (pf : Nat) (sl tl : Value) (bs : List Nat) : Prop where
  own : ∀ b, O b → lo ≤ b ∧ b < s.next
  ok : HOk H
  tn : H.T.length ≤ N
  pin : O p ∧ tg p = 0
  bl : s.at' p = some (.cells [sl, .int .i64 (H.maxO : Int), .int .i64 (H.maxP : Int), .pointer (some ⟨pf, 0, none⟩), tl] 78 true)
  row : SlU 107 1 s sl (ptrs bs) bs.length
  rowO : ∀ q n c, sl = .slice (some q) n c → O q.block ∧ tg q.block = 0 ∧ q.block ≠ p
  fo : RFAt lo s pf H.F H.most (fun b => O b ∧ tg b = 1)
  ta : SlC 9 1 s tl (H.T.map .string) H.T.length
  taO : ∀ q n c, tl = .slice (some q) n c → O q.block ∧ tg q.block = 2
  len : bs.length = H.obs.length
  obj : ∀ (i b : Nat) (o : Ob), bs[i]? = some b → H.obs[i]? = some o → RObAt lo s N b o (fun c => O c ∧ tg c = i + 3)
def RHpAt (lo : Nat) (s : St M) (p : Nat) (H : Hp) (N : Nat) (O : Nat → Prop) : Prop := HPro H ∧ ∃ tg pf sl tl bs, RHpIn lo s p H N O tg pf sl tl bs
theorem RHpIn.same {lo : Nat} {s s' : St M} {p : Nat} {H : Hp} {N : Nat} {O : Nat → Prop} {tg : Nat → Nat} {pf : Nat} {sl tl : Value} {bs : List Nat} (h : RHpIn lo s p H N O tg pf sl tl bs) (hn : s.next ≤ s'.next) (hs : ∀ c, O c → s'.at' c = s.at' c) : RHpIn lo s' p H N O tg pf sl tl bs :=
  ⟨fun b hb => ⟨(h.own b hb).1, by have := (h.own b hb).2; omega⟩, h.ok, h.tn, h.pin, by rw [hs _ h.pin.1]; exact h.bl, h.row.same fun q n c e => hs _ (h.rowO q n c e).1, h.rowO, h.fo.same hn fun b hb => hs b hb.1, h.ta.same fun q n c e => hs _ (h.taO q n c e).1, h.taO, h.len, fun i b o h1 h2 => (h.obj i b o h1 h2).same hn fun c hc => hs c hc.1⟩
theorem RHpIn.le {lo : Nat} {s s' : St M} {p : Nat} {H : Hp} {N : Nat} {O : Nat → Prop} {tg : Nat → Nat} {pf : Nat} {sl tl : Value} {bs : List Nat} (h : RHpIn lo s p H N O tg pf sl tl bs) (hs : s.le s') : RHpIn lo s' p H N O tg pf sl tl bs := h.same hs.1 fun c hc => hs.2 c (h.own c hc).2
theorem RHpIn.mono {lo : Nat} {s : St M} {p : Nat} {H : Hp} {N N' : Nat} {O : Nat → Prop} {tg : Nat → Nat} {pf : Nat} {sl tl : Value} {bs : List Nat} (h : RHpIn lo s p H N O tg pf sl tl bs) (hN : N ≤ N') : RHpIn lo s p H N' O tg pf sl tl bs :=
  ⟨h.own, h.ok, by have := h.tn; omega, h.pin, h.bl, h.row, h.rowO, h.fo, h.ta, h.taO, h.len, fun i b o h1 h2 => (h.obj i b o h1 h2).mono hN⟩
theorem RHpAt.same {lo : Nat} {s s' : St M} {p : Nat} {H : Hp} {N : Nat} {O : Nat → Prop} (h : RHpAt lo s p H N O) (hn : s.next ≤ s'.next) (hs : ∀ c, O c → s'.at' c = s.at' c) : RHpAt lo s' p H N O := by
  obtain ⟨hp, tg, pf, sl, tl, bs, h⟩ := h
  exact ⟨hp, tg, pf, sl, tl, bs, h.same hn hs⟩
theorem RHpAt.own {lo : Nat} {s : St M} {p : Nat} {H : Hp} {N : Nat} {O : Nat → Prop} (h : RHpAt lo s p H N O) : ∀ b, O b → lo ≤ b ∧ b < s.next := by
  obtain ⟨hp, tg, pf, sl, tl, bs, h⟩ := h
  exact h.own
theorem RHpAt.ok {lo : Nat} {s : St M} {p : Nat} {H : Hp} {N : Nat} {O : Nat → Prop} (h : RHpAt lo s p H N O) : HOk H := by
  obtain ⟨hp, tg, pf, sl, tl, bs, h⟩ := h
  exact h.ok
theorem RHpAt.le {lo : Nat} {s s' : St M} {p : Nat} {H : Hp} {N : Nat} {O : Nat → Prop} (h : RHpAt lo s p H N O) (hs : s.le s') : RHpAt lo s' p H N O := h.same hs.1 fun c hc => hs.2 c (h.own c hc).2
theorem RHpAt.mono {lo : Nat} {s : St M} {p : Nat} {H : Hp} {N N' : Nat} {O : Nat → Prop} (h : RHpAt lo s p H N O) (hN : N ≤ N') : RHpAt lo s p H N' O := by
  obtain ⟨hp, tg, pf, sl, tl, bs, h⟩ := h
  exact ⟨hp, tg, pf, sl, tl, bs, h.mono hN⟩
theorem RHpIn.newF {lo : Nat} {s s' : St M} {p : Nat} {H : Hp} {N : Nat} {O O' : Nat → Prop} {tg : Nat → Nat} {pf : Nat} {sl tl : Value} {bs : List Nat} {F' : List Sh} (h : RHpIn lo s p H N O tg pf sl tl bs) (hU : Upd s s' (fun b => O b ∧ tg b = 1) O') (hF : RFAt lo s' pf F' H.most O') (hok : HOk { H with F := F' }) :
    RHpIn lo s' p { H with F := F' } N (reO O tg 1 O') (reT tg 1 O') pf sl tl bs := by
  have hO : ∀ b, O b → b < s.next := fun b hb => (h.own b hb).2
  have hw : ∀ b, O' b → (O b ∧ tg b = 1) ∨ s.next ≤ b := hU.own
  have hk := re_keep h.own hU
  refine ⟨re_own h.own hU.next hF.own, hok, h.tn, re_tag hO hw (by omega) h.pin, ?_, h.row.same fun q n c e => ?_, fun q n c e => ?_, ?_, h.ta.same fun q n c e => ?_, fun q n c e => re_tag hO hw (by omega) (h.taO q n c e), h.len, fun i b o h1 h2 => ?_⟩
  · rw [hk p h.pin.1 (by rw [h.pin.2]; omega)]; exact h.bl
  · have := h.rowO q n c e
    exact hk _ this.1 (by rw [this.2.1]; omega)
  · have := h.rowO q n c e
    have h2 := re_tag hO hw (j := 0) (by omega) ⟨this.1, this.2.1⟩
    exact ⟨h2.1, h2.2, this.2.2⟩
  · rw [re_same]; exact hF
  · have := h.taO q n c e
    exact hk _ this.1 (by rw [this.2]; omega)
  · rw [re_other hO hw (by omega)]
    exact (h.obj i b o h1 h2).same hU.next fun c hc => hk c hc.1 (by rw [hc.2]; omega)
theorem RHpIn.newO {lo : Nat} {s s' : St M} {p : Nat} {H : Hp} {N : Nat} {O O' : Nat → Prop} {tg : Nat → Nat} {pf : Nat} {sl tl : Value} {bs : List Nat} {j b : Nat} {o' : Ob} (h : RHpIn lo s p H N O tg pf sl tl bs) (hj : j < H.obs.length) (hb : bs[j]? = some b) (hU : Upd s s' (fun b => O b ∧ tg b = j + 3) O') (hB : RObAt lo s' N b o' O') (hok : HOk { H with obs := H.obs.set j o' }) :
    RHpIn lo s' p { H with obs := H.obs.set j o' } N (reO O tg (j + 3) O') (reT tg (j + 3) O') pf sl tl bs := by
  have hO : ∀ b, O b → b < s.next := fun b hb => (h.own b hb).2
  have hw : ∀ b, O' b → (O b ∧ tg b = j + 3) ∨ s.next ≤ b := hU.own
  have hk := re_keep h.own hU
  refine ⟨re_own h.own hU.next hB.own, hok, h.tn, re_tag hO hw (by omega) h.pin, ?_, h.row.same fun q n c e => ?_, fun q n c e => ?_, ?_, h.ta.same fun q n c e => ?_, fun q n c e => re_tag hO hw (by omega) (h.taO q n c e), by simpa using h.len, fun i b2 o h1 h2 => ?_⟩
  · rw [hk p h.pin.1 (by rw [h.pin.2]; omega)]; exact h.bl
  · have := h.rowO q n c e
    exact hk _ this.1 (by rw [this.2.1]; omega)
  · have := h.rowO q n c e
    have h2 := re_tag hO hw (j := 0) (by omega) ⟨this.1, this.2.1⟩
    exact ⟨h2.1, h2.2, this.2.2⟩
  · rw [re_other hO hw (by omega)]
    exact h.fo.same hU.next fun b hb => hk b hb.1 (by rw [hb.2]; omega)
  · have := h.taO q n c e
    exact hk _ this.1 (by rw [this.2]; omega)
  · by_cases e : j = i
    · subst e
      rw [hb] at h1
      cases h1
      simp only [List.getElem?_set, if_true, hj] at h2
      cases h2
      rw [re_same]; exact hB
    · simp only [List.getElem?_set, e, if_false] at h2
      rw [re_other hO hw (by omega)]
      exact (h.obj i b2 o h1 h2).same hU.next fun c hc => hk c hc.1 (by rw [hc.2]; omega)
theorem RHpIn.newT {lo : Nat} {s s' : St M} {p : Nat} {H : Hp} {N : Nat} {O : Nat → Prop} {tg : Nat → Nat} {pf : Nat} {sl tl tl' : Value} {bs : List Nat} {T' : List ByteArray} (h : RHpIn lo s p H N O tg pf sl tl bs) (hlo : lo ≤ s.next)
    (hbl : s'.at' p = some (.cells [sl, .int .i64 (H.maxO : Int), .int .i64 (H.maxP : Int), .pointer (some ⟨pf, 0, none⟩), tl'] 78 true)) (hta : SlC 9 1 s' tl' (T'.map .string) T'.length) (hn : s.next ≤ s'.next)
    (hkeep : ∀ b, b < s.next → b ≠ p → (∀ q n c, tl = .slice (some q) n c → b ≠ q.block) → s'.at' b = s.at' b) (hnew : ∀ q n c, tl' = .slice (some q) n c → tl = tl' ∨ (s.next ≤ q.block ∧ q.block < s'.next)) (hok : HOk { H with T := T' }) (hTN : T'.length ≤ N) :
    ∃ O', RHpIn lo s' p { H with T := T' } N (reO O tg 2 O') (reT tg 2 O') pf sl tl' bs ∧ Upd s s' O (reO O tg 2 O') := by
  have hO : ∀ b, O b → b < s.next := fun b hb => (h.own b hb).2
  have hw : ∀ b, (∃ q n c, tl' = .slice (some q) n c ∧ b = q.block) → (O b ∧ tg b = 2) ∨ s.next ≤ b := by
    rintro b ⟨q, n, c, e, rfl⟩
    rcases hnew q n c e with h1 | h1
    · exact .inl (h.taO q n c (h1.trans e))
    · exact .inr h1.1
  have hl : ∀ b, (∃ q n c, tl' = .slice (some q) n c ∧ b = q.block) → lo ≤ b ∧ b < s'.next := by
    rintro b ⟨q, n, c, e, rfl⟩
    rcases hnew q n c e with h1 | h1
    · have := h.own _ (h.taO q n c (h1.trans e)).1; omega
    · omega
  have hk : ∀ b, O b → tg b ≠ 2 → b ≠ p → s'.at' b = s.at' b := fun b hb ht hp => hkeep b (hO b hb) hp fun q n c e e2 => ht (e2 ▸ (h.taO q n c e).2)
  refine ⟨fun b => ∃ q n c, tl' = .slice (some q) n c ∧ b = q.block, ⟨re_own h.own hn hl, hok, hTN, re_tag hO hw (by omega) h.pin, hbl, h.row.same fun q n c e => ?_, fun q n c e => ?_, ?_, hta, fun q n c e => ?_, h.len, fun i b o h1 h2 => ?_⟩, hn, fun b hb ho => ?_, fun b hb => ?_⟩
  · have := h.rowO q n c e
    exact hk _ this.1 (by rw [this.2.1]; omega) this.2.2
  · have := h.rowO q n c e
    have h2 := re_tag hO hw (j := 0) (by omega) ⟨this.1, this.2.1⟩
    exact ⟨h2.1, h2.2, this.2.2⟩
  · rw [re_other hO hw (by omega)]
    exact h.fo.same hn fun b hb => hk b hb.1 (by rw [hb.2]; omega) (fun e => by have := h.pin.2; rw [← e, hb.2] at this; omega)
  · have h3 := congrFun (re_same O tg 2 (fun b => ∃ q n c, tl' = .slice (some q) n c ∧ b = q.block)) q.block
    exact h3.mpr ⟨q, n, c, e, rfl⟩
  · rw [re_other hO hw (by omega)]
    exact (h.obj i b o h1 h2).same hn fun c hc => hk c hc.1 (by rw [hc.2]; omega) (fun e => by have := h.pin.2; rw [← e, hc.2] at this; omega)
  · exact hkeep b hb (fun e => ho (e ▸ h.pin.1)) fun q n c e e2 => ho (e2 ▸ (h.taO q n c e).1)
  · rcases hb with ⟨h1, _⟩ | h1
    · exact .inl h1
    · rcases hw b h1 with h2 | h2
      · exact .inl h2.1
      · exact .inr h2
theorem RHpIn.at {lo : Nat} {s : St M} {p : Nat} {H : Hp} {N : Nat} {O : Nat → Prop} {tg : Nat → Nat} {pf : Nat} {sl tl : Value} {bs : List Nat} (h : RHpIn lo s p H N O tg pf sl tl bs) {j : Nat} {o : Ob} (ho : H.obs[j]? = some o) :
    ∃ b br vs own ns vv, bs[j]? = some b ∧ RObAt lo s N b o (fun c => O c ∧ tg c = j + 3) ∧ sl = .slice (some ⟨br, 0, none⟩) bs.length UNK ∧ s.at' br = some (.cells vs 107 own) ∧ vs[j]? = some (.pointer (some ⟨b, 0, none⟩)) ∧ br < s.next ∧
      ROb s b o.L (.int .i64 (o.proto : Int)) (.int .i64 (o.epoch : Int)) (.int .i64 (o.shape : Int)) ns vv ∧ RFr s b ns vv ∧ ∀ c, Hang b ns vv c → O c ∧ tg c = j + 3 := by
  have hj := (List.getElem?_eq_some_iff.1 ho).1
  have hb : bs[j]? = some (bs[j]'(by have := h.len; omega)) := List.getElem?_eq_getElem _
  have hB := h.obj j _ o hb ho
  obtain ⟨ns, vv, h1, h2, h3⟩ := hB.bl
  rcases h.row with ⟨e0, _⟩ | ⟨br, junk, e, hbr, _⟩
  · have := h.len; omega
  · exact ⟨_, br, _, _, ns, vv, hb, hB, e, hbr, ptrs_get junk hb, (h.own _ (h.rowO _ _ _ e).1).2, h1, h2, h3⟩
theorem RHpIn.form {lo : Nat} {s : St M} {p : Nat} {H : Hp} {N : Nat} {O : Nat → Prop} {tg : Nat → Nat} {pf : Nat} {sl tl : Value} {bs : List Nat} (h : RHpIn lo s p H N O tg pf sl tl bs) : ∃ q c, sl = .slice q H.obs.length c := by
  rw [← h.len]
  rcases h.row.form with ⟨e0, rfl⟩ | ⟨b, rfl⟩
  · exact ⟨none, 0, by rw [e0]⟩
  · exact ⟨_, _, rfl⟩
end
section
variable {M : Type} [Mem M] {w0 : World} {s : St M} {R : Value → St M → Prop} {lo p N pf : Nat} {H : Hp} {O : Nat → Prop} {tg : Nat → Nat} {sl tl : Value} {bs : List Nat}
theorem rhas_spec (h : RHpIn lo s p H N O tg pf sl tl bs) {i : Int} (hR : R (.bool (obAt H i).isSome) s) : CCalls Tryz.prog w0 59 #[.pointer (some ⟨p, 0, none⟩), .int .i64 i] s R := by
  refine wfun2 hmix ok59 (l := [.pointer (some ⟨p, 0, none⟩), .int .i64 i]) func59 rfl ntmps59 results59 (by simp) ?_
  have h1 := h.bl
  obtain ⟨q, c, rfl⟩ := h.form
  by_cases h0 : 1 ≤ i
  · by_cases h2 : i ≤ (H.obs.length : Int)
    · have e : (obAt H i).isSome = true := by
        cases hc : obAt H i with
        | none => exact absurd ⟨h0, h2⟩ (obAt_none.1 hc)
        | some o => rfl
      rw [e] at hR
      simp -implicitDefEqProofs only [↓Zd, (Zp), if_true, if_false, Nat.reduceEqDiff, reduceCtorEq, cld2, (REx), h1, h0, h2]
      exact hR
    · have e : (obAt H i).isSome = false := by rw [obAt_none.2 (by omega)]; rfl
      rw [e] at hR
      simp -implicitDefEqProofs only [↓Zd, (Zp), if_true, if_false, Nat.reduceEqDiff, reduceCtorEq, cld2, (REx), h1, h0, h2]
      exact hR
  · have e : (obAt H i).isSome = false := by rw [obAt_none.2 (by omega)]; rfl
    rw [e] at hR
    simp -implicitDefEqProofs only [↓Zd, (Zp), if_true, if_false, Nat.reduceEqDiff, h0]
    exact hR
theorem ix_ok {j n : Nat} (h : j < n) : (0 : Int) ≤ (j : Int) ∧ (j : Int) < (n : Int) := by omega
theorem RHpIn.w (h : RHpIn lo s p H N O tg pf sl tl bs) {j : Nat} (hj : j < H.obs.length) : IntKind.i64.wrap (((j + 1 : Nat) : Int) - 1) = (j : Int) := by
  have := h.ok.lim
  rw [wrap_i64 (by omega)]; omega
theorem rproto_spec (h : RHpIn lo s p H N O tg pf sl tl bs) {i : Int} (hR : R (.int .i64 (protoV H i)) s) : CCalls Tryz.prog w0 57 #[.pointer (some ⟨p, 0, none⟩), .int .i64 i] s R := by
  refine wfun2 hmix ok57 (l := [.pointer (some ⟨p, 0, none⟩), .int .i64 i]) func57 rfl ntmps57 results57 (by simp) ?_
  unfold protoV at hR
  simp -implicitDefEqProofs only [↓Zd, (Zp), if_true, if_false, Nat.reduceEqDiff, reduceCtorEq, co59]
  refine rhas_spec h ?_
  cases ho : obAt H i with
  | none =>
    rw [ho] at hR
    simp -implicitDefEqProofs only [↓Zd, (Zp), if_true, if_false, Nat.reduceEqDiff, (HEx)]
    exact hR
  | some o =>
    rw [ho] at hR
    obtain ⟨j, rfl, hj, hjo⟩ := obAt_some ho
    obtain ⟨b, br, vs, own, ns, vv, hb, hB, rfl, hbr, hg, hbrn, hob, hfr, hO⟩ := h.at hjo
    have h1 := h.bl
    have h2 := hob.bl
    have hk := ix_ok (n := bs.length) (j := j) (by rw [h.len]; exact hj)
    have w1 := h.w hj
    simp -implicitDefEqProofs only [↓Zd, (Zp), if_true, if_false, Nat.reduceEqDiff, reduceCtorEq, cld2, (HEx), (REx), h1, h2, w1, hk, hbr, hg]
    exact hR
theorem rcount_spec (h : RHpIn lo s p H N O tg pf sl tl bs) {i : Int} (hR : R (.int .i64 (countV H i)) s) : CCalls Tryz.prog w0 58 #[.pointer (some ⟨p, 0, none⟩), .int .i64 i] s R := by
  refine wfun2 hmix ok58 (l := [.pointer (some ⟨p, 0, none⟩), .int .i64 i]) func58 rfl ntmps58 results58 (by simp) ?_
  unfold countV at hR
  simp -implicitDefEqProofs only [↓Zd, (Zp), if_true, if_false, Nat.reduceEqDiff, reduceCtorEq, co59]
  refine rhas_spec h ?_
  cases ho : obAt H i with
  | none =>
    rw [ho] at hR
    simp -implicitDefEqProofs only [↓Zd, (Zp), if_true, if_false, Nat.reduceEqDiff, (HEx)]
    exact hR
  | some o =>
    rw [ho] at hR
    obtain ⟨j, rfl, hj, hjo⟩ := obAt_some ho
    obtain ⟨b, br, vs, own, ns, vv, hb, hB, rfl, hbr, hg, hbrn, hob, hfr, hO⟩ := h.at hjo
    have h1 := h.bl
    have h2 := hob.bl
    obtain ⟨qn, cn, rfl⟩ := slc_form hob.nm
    have hk := ix_ok (n := bs.length) (j := j) (by rw [h.len]; exact hj)
    have w1 := h.w hj
    simp -implicitDefEqProofs only [↓Zd, (Zp), if_true, if_false, Nat.reduceEqDiff, reduceCtorEq, Nat.reduceAdd, cld2, (HEx), (REx), h1, h2, w1, hk, hbr, hg, keysP_len]
    exact hR
theorem rkey_spec (h : RHpIn lo s p H N O tg pf sl tl bs) {i k : Int} (hR : R (match obAt H i with | some o => keyV o.L k | none => .tuple #[.string ⟨#[]⟩, .bool false]) s) : CCalls Tryz.prog w0 62 #[.pointer (some ⟨p, 0, none⟩), .int .i64 i, .int .i64 k] s R := by
  refine wfun2 hmix ok62 (l := [.pointer (some ⟨p, 0, none⟩), .int .i64 i, .int .i64 k]) func62 rfl ntmps62 results62 (by simp) ?_
  simp -implicitDefEqProofs only [↓Zd, (Zp), if_true, if_false, Nat.reduceEqDiff, reduceCtorEq, co59]
  refine rhas_spec h ?_
  cases ho : obAt H i with
  | none =>
    rw [ho] at hR
    simp -implicitDefEqProofs only [↓Zd, (Zp), if_true, if_false, Nat.reduceEqDiff, (HEx)]
    exact hR
  | some o =>
    rw [ho] at hR
    simp only at hR
    obtain ⟨j, rfl, hj, hjo⟩ := obAt_some ho
    obtain ⟨b, br, vs, own, ns, vv, hb, hB, rfl, hbr, hg, hbrn, hob, hfr, hO⟩ := h.at hjo
    have h1 := h.bl
    have hk := ix_ok (n := bs.length) (j := j) (by rw [h.len]; exact hj)
    have w1 := h.w hj
    simp -implicitDefEqProofs only [↓Zd, (Zp), if_true, if_false, Nat.reduceEqDiff, reduceCtorEq, cld2, (HEx), (REx), h1, w1, hk, hbr, hg, co103]
    refine rdkey_spec hob ?_
    unfold keyV at *
    split at hR
    · rename_i hc
      simp only [if_pos hc]
      simp -implicitDefEqProofs only [↓Zd, (Zp), if_true, if_false, Nat.reduceEqDiff, (HEx)]
      exact hR
    · rename_i hc
      simp only [if_neg hc]
      simp -implicitDefEqProofs only [↓Zd, (Zp), if_true, if_false, Nat.reduceEqDiff, (HEx)]
      exact hR
theorem rown_spec (h : RHpIn lo s p H N O tg pf sl tl bs) {i : Int} {x : ByteArray} (hR : ∀ s', s.le s' → R (gotV ((obAt H i).bind fun o => getP o.L x)) s') : CCalls Tryz.prog w0 56 #[.pointer (some ⟨p, 0, none⟩), .int .i64 i, .string x] s R := by
  refine wfun2 hmix ok56 (l := [.pointer (some ⟨p, 0, none⟩), .int .i64 i, .string x]) func56 rfl ntmps56 results56 (by simp) ?_
  have l1 : s.le (s.new (.cells [.int .i64 0, .int .i64 0, .string ⟨#[]⟩] 30 true)) := St.le_new (St.le_refl _)
  simp -implicitDefEqProofs only [↓Zd, (Zp), if_true, if_false, Nat.reduceEqDiff, reduceCtorEq, Value.cells, (HEx), co59]
  refine rhas_spec (h.le l1) ?_
  cases ho : obAt H i with
  | none =>
    rw [ho] at hR
    simp only [Option.bind_none, gotV] at hR
    simp -implicitDefEqProofs only [↓Zd, (Zp), if_true, if_false, Nat.reduceEqDiff, Nat.reduceAdd, Nat.reduceLeDiff, okPart, Value.cells, cut, okCell, cld2, (HEx)]
    exact hR _ (by repeat (first | exact St.le_refl _ | assumption | refine St.le_new ?_ | refine St.le_put ?_ (by first | omega | (simp only [St.next_new, St.next_put, St.next_kill]; omega)) | refine St.le_trans ?_ (by assumption)))
  | some o =>
    rw [ho] at hR
    simp only [Option.bind_some] at hR
    obtain ⟨j, rfl, hj, hjo⟩ := obAt_some ho
    obtain ⟨b, br, vs, own, ns, vv, hb, hB, rfl, hbr, hg, hbrn, hob, hfr, hO⟩ := h.at hjo
    have h1 := h.bl
    have hk := ix_ok (n := bs.length) (j := j) (by rw [h.len]; exact hj)
    have w1 := h.w hj
    have hpn : ¬ p = s.next := by have := (h.own p h.pin.1).2; omega
    have hbrn' : ¬ br = s.next := by omega
    simp -implicitDefEqProofs only [↓Zd, (Zp), if_true, if_false, Nat.reduceEqDiff, reduceCtorEq, cld2, (HEx), (REx), h1, hpn, hbrn', w1, hk, hbr, hg, co75]
    refine rdget_spec (hob.le hfr l1) (hfr.le l1.1) fun s2 hs2 => ?_
    have hn2 := hs2.1
    simp only [St.next_new] at hn2
    have hle : s.le s2 := St.le_trans l1 hs2
    have c6 : s2.at' s.next = some (.cells [.int .i64 0, .int .i64 0, .string ⟨#[]⟩] 30 true) := by rw [hs2.2 _ (by simp only [St.next_new]; omega), St.at_new, if_pos rfl]
    unfold gotV vOf at *
    cases hgp : getP o.L x with
    | none =>
      rw [hgp] at hR
      simp only at hR
      simp -implicitDefEqProofs only [↓Zd, (Zp), if_true, if_false, Nat.reduceEqDiff, Nat.reduceAdd, Nat.reduceLeDiff, okPart, Value.cells, cut, okCell, cld2, (HEx), vA, c6]
      exact hR _ (St.le_put hle (by omega))
    | some v =>
      obtain ⟨a1, a2, a3⟩ := v
      rw [hgp] at hR
      simp only [vA] at hR
      simp -implicitDefEqProofs only [↓Zd, (Zp), if_true, if_false, Nat.reduceEqDiff, Nat.reduceAdd, Nat.reduceLeDiff, okPart, Value.cells, cut, okCell, cld2, (HEx), vA, c6]
      exact hR _ (St.le_put hle (by omega))
theorem rslotof_spec (h : RHpIn lo s p H N O tg pf sl tl bs) (hN : N ≤ 1000000) {i : Int} {x : ByteArray} (hi : -9223372036854775808 ≤ i ∧ i ≤ 9223372036854775807) (hR : R (.int .i64 (slotOf H i x)) s) :
    CCalls Tryz.prog w0 61 #[.pointer (some ⟨p, 0, none⟩), .int .i64 i, .string x] s R := by
  refine wfun2 hmix ok61 (l := [.pointer (some ⟨p, 0, none⟩), .int .i64 i, .string x]) func61 rfl ntmps61 results61 (by simp) ?_
  have hb := h.bl
  unfold slotOf at hR
  simp -implicitDefEqProofs only [↓Zd, (Zp), if_true, if_false, Nat.reduceEqDiff, reduceCtorEq, (REx), co101]
  refine rtfind_spec (by have := h.tn; omega) hb h.ta ?_
  cases hx : idxOf H.T x with
  | none =>
    rw [hx] at hR
    simp -implicitDefEqProofs only [↓Zd, (Zp), if_true, if_false, Nat.reduceEqDiff, Int.reduceNeg, (HEx)]
    exact hR
  | some j =>
    rw [hx] at hR
    simp -implicitDefEqProofs only [↓Zd, (Zp), if_true, if_false, Nat.reduceEqDiff, reduceCtorEq, cld2, (HEx), (REx), hb, co102]
    refine rfslot_spec h.fo hi ?_
    simp -implicitDefEqProofs only [↓Zd, (Zp), if_true, if_false, Nat.reduceEqDiff, (HEx)]
    exact hR
end
end Go.Proofs.Tryz
