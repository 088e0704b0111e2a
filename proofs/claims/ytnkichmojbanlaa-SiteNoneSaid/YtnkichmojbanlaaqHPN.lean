/- HP9, HP10, HP11, HP12, laid one behind the other. A lemma file: no statement of its own. -/
import Derived.Test.YtnkichmojbanlaaqFwF
import Derived.Test.YtnkichmojbanlaaqHPM
import Derived.Test.YtnkichmojbanlaaqShow
import Derived.Test.YtnkichmojbanlaaqBld
set_option linter.unusedSimpArgs false
set_option linter.unusedVariables false
set_option linter.unusedSectionVars false
namespace Go.Proofs.Try
open Go.Cs
open Go.RowKit (Below)
set_option maxRecDepth 100000
attribute [local irreducible] CCalls WLoop WScope CRound WRange
section
variable {M : Type} [Mem M] {w0 : World} {s : St M} {R : Value → St M → Prop} {lo p N : Nat} {H : Hp} {O : Nat → Prop}
end
end Go.Proofs.Try
set_option linter.unusedSimpArgs false
set_option linter.unusedVariables false
set_option linter.unusedSectionVars false
namespace Go.Proofs.Try
open Go.Cs
open Go.RowKit (Below)
set_option maxRecDepth 100000
attribute [local irreducible] CCalls WLoop WScope CRound WRange
theorem rowPtr (a : Option Addr) : crow Try.prog 60 1 #[(0, .pointer a)] = some (.cells [.pointer a] 63 true) := by kernel_rfl
theorem infoPtr : ∃ ie, Try.prog.info? 63 = some ie ∧ ie.size = 1 ∧ 0 < ie.bytes ∧ ie.bytes ≤ 100 := by
  obtain ⟨ie, h⟩ := Option.isSome_iff_exists.1 is63
  have h1 := ce63
  have h2 : decide (0 < Try.prog.bytesOf 63 ∧ Try.prog.bytesOf 63 ≤ 100) = true := by kernel_rfl
  rw [cellsOf_info h] at h1
  simp only [Program.bytesOf, h, decide_eq_true_eq] at h2
  exact ⟨ie, h, h1, h2.1, h2.2⟩
section
variable {M : Type} [Mem M] {w0 : World} {s : St M} {R : Value → St M → Prop} {lo p N : Nat} {H : Hp} {O : Nat → Prop}
theorem wch_app_ptr {s : St M} {sl : Value} {l : List Nat} {a : Nat} {K : Value → St M → Prop} (hlen : l.length ≤ 1000000) (hsl : SlU 63 1 s sl (ptrs l) l.length) (hfr : ∀ q m c, sl = .slice (some q) m c → q.block < s.next)
    (h : ∀ s', s'.next = s.next + 2 → s'.at' (s.next + 1) = some (.cells (ptrs (l ++ [a])) 63 true) → (∀ b, b < s.next → (∀ q n c, sl = .slice (some q) n c → b ≠ q.block) → s'.at' b = s.at' b) → K (.slice (some ⟨s.next + 1, 0, none⟩) (l.length + 1) UNK) s') :
    wch (capp Try.prog #[60, 60] #[sl, .slice (some ⟨s.next, 0, none⟩) 1 1] (s.new (.cells [.pointer (some ⟨a, 0, none⟩)] 63 true))) K := by
  obtain ⟨ie, hie, h1, h2, h3⟩ := infoPtr
  have hcapp : capp Try.prog #[60, 60] #[sl, .slice (some ⟨s.next, 0, none⟩) 1 1] (s.new (.cells [.pointer (some ⟨a, 0, none⟩)] 63 true)) = capp3 Try.prog 63 ie sl (s.new (.cells [.pointer (some ⟨a, 0, none⟩)] 63 true)) (cmore ie.size (.slice (some ⟨s.next, 0, none⟩) 1 1) (s.new (.cells [.pointer (some ⟨a, 0, none⟩)] 63 true))) :=
    app_eq underlying60 underlying60 hie
  have hv : cmore ie.size (.slice (some ⟨s.next, 0, none⟩) 1 1) (s.new (.cells [.pointer (some ⟨a, 0, none⟩)] 63 true)) = some (1, [.pointer (some ⟨a, 0, none⟩)]) := by
    simp only [more_at, St.at_new, if_true, more2, h1]; rfl
  obtain ⟨s', h3, h4, h5, h6⟩ := app_rowU (n := l.length) (k := 1) hie ze63 (by rw [h1]; rfl) h2 hcapp (by omega) (by
    have : (l.length + 1) * ie.bytes ≤ 1000001 * 100 := Nat.mul_le_mul (by omega) h3
    omega) rfl hv (by rw [h1]; exact hsl.same fun q m c e => by rw [St.at_new, if_neg (by have := hfr q m c e; omega)])
  refine ⟨_, s', h3, h s' (by simp at h4; omega) (by simpa [ptrs] using h5) fun b hb hq => ?_⟩
  rw [h6 b (by simp; omega) hq, St.at_new, if_neg (by omega)]
open Classical in
theorem HpIn.addO {s' : St M} {tg : Nat → Nat} {pf pn b r : Nat} {sl sl' : Value} {bs : List Nat} {o' : Ob} {OO : Nat → Prop} (h : HpIn lo s p H N O tg pf pn sl bs) (hn : s.next ≤ s'.next) (hk : ∀ c, O c → tg c ≠ 0 → s'.at' c = s.at' c)
    (hp : s'.at' p = some (.cells [sl', .pointer (some ⟨pf, 0, none⟩), .pointer (some ⟨pn, 0, none⟩), .int .i64 (H.maxO : Int), .int .i64 (H.maxP : Int)] 62 true)) (hsl : SlU 63 1 s' sl' (ptrs (bs ++ [b])) (bs ++ [b]).length) (hr : ∀ q n c, sl' = .slice (some q) n c → q.block = r)
    (hr1 : ¬ O r ∧ lo ≤ r ∧ r < s'.next) (hOO : ∀ c, OO c → ¬ O c ∧ c ≠ r) (hB : ObAt lo s' N b o' OO) (hok : HOk { H with obs := H.obs ++ [o'] }) :
    HpIn lo s' p { H with obs := H.obs ++ [o'] } N (fun c => (O c ∧ tg c ≠ bs.length + 3) ∨ OO c ∨ c = r) (fun c => if OO c then bs.length + 3 else if c = r then 0 else tg c) pf pn sl' (bs ++ [b]) := by
  have hrp : r ≠ p := fun e => hr1.1 (e ▸ h.pin.1)
  have hold : ∀ k, k ≠ bs.length + 3 → k ≠ 0 → (fun c => ((O c ∧ tg c ≠ bs.length + 3) ∨ OO c ∨ c = r) ∧ (if OO c then bs.length + 3 else if c = r then 0 else tg c) = k) = fun c => O c ∧ tg c = k := by
    intro k hk1 hk2
    funext c
    apply propext
    by_cases h1 : OO c
    · simp only [h1, if_true, true_or, or_true, true_and]
      exact ⟨fun e => absurd e.symm hk1, fun e => absurd e.1 (hOO c h1).1⟩
    · by_cases h2 : c = r
      · subst h2
        simp only [h1, if_false, if_true, or_true, true_and]
        exact ⟨fun e => absurd e.symm hk2, fun e => absurd e.1 hr1.1⟩
      · simp only [h1, h2, if_false, or_false]
        exact ⟨fun ⟨⟨a, _⟩, b⟩ => ⟨a, b⟩, fun ⟨a, b⟩ => ⟨⟨a, by omega⟩, b⟩⟩
  have hnew : (fun c => ((O c ∧ tg c ≠ bs.length + 3) ∨ OO c ∨ c = r) ∧ (if OO c then bs.length + 3 else if c = r then 0 else tg c) = bs.length + 3) = OO := by
    funext c
    apply propext
    by_cases h1 : OO c
    · simp [h1]
    · by_cases h2 : c = r
      · subst h2
        simp [h1]
      · simp only [h1, h2, if_false, or_false, iff_false]
        exact fun ⟨⟨_, a⟩, b⟩ => a b
  have hpO : ¬ OO p := fun hc => (hOO p hc).1 h.pin.1
  refine ⟨fun c hc => ?_, hok, h.tn, ⟨.inl ⟨h.pin.1, by rw [h.pin.2]; omega⟩, ?_⟩, hp, hsl, fun q n c e => ?_, ?_, ?_, by simp [h.len], fun i b' o h1 h2 => ?_⟩
  · rcases hc with ⟨hc, _⟩ | hc | rfl
    · have := h.own c hc; omega
    · exact hB.own c hc
    · exact hr1.2
  · rw [if_neg hpO, if_neg (fun e => hrp e.symm)]; exact h.pin.2
  · have := hr q n c e
    rw [this]
    exact ⟨.inr (.inr rfl), by rw [if_neg (fun hc => (hOO r hc).2 rfl), if_pos rfl], hrp⟩
  · rw [hold 1 (by omega) (by omega)]
    exact h.fo.same hn fun c hc => hk c hc.1 (by rw [hc.2]; omega)
  · rw [hold 2 (by omega) (by omega)]
    exact h.ta.same hn fun c hc => hk c hc.1 (by rw [hc.2]; omega)
  · by_cases hi : i < bs.length
    · rw [List.getElem?_append_left hi] at h1
      rw [List.getElem?_append_left (by rw [← h.len]; exact hi)] at h2
      rw [hold (i + 3) (by omega) (by omega)]
      exact (h.obj i b' o h1 h2).same hn fun c hc => hk c hc.1 (by rw [hc.2]; omega)
    · have h0 : i = bs.length := by
        have := (List.getElem?_eq_some_iff.1 h1).1
        simp at this; omega
      subst h0
      rw [List.getElem?_append_right (Nat.le_refl _)] at h1
      rw [List.getElem?_append_right (by rw [← h.len]; exact Nat.le_refl _), ← h.len] at h2
      simp at h1 h2
      subst h1 h2
      rw [hnew]; exact hB
set_option maxHeartbeats 8000000 in
theorem hmake_spec (h : HpAt lo s p H N O) (hlo : lo ≤ s.next) (hR : ∀ s' O', HpAt lo s' p (makeH H) N O' → Upd s s' O O' → R (makeV H) s') : CCalls Try.prog w0 5 #[.pointer (some ⟨p, 0, none⟩)] s R := by
  refine wfun2 hmix ok5 (l := [.pointer (some ⟨p, 0, none⟩)]) func5 rfl ntmps5 results5 (by simp) ?_
  obtain ⟨hpro, tg, pf, pn, sl, bs, h⟩ := h
  have hhb := h.bl
  have hlim := h.ok.lim
  have hlen := h.len
  obtain ⟨an, cn, rfl⟩ : ∃ a c, sl = .slice a bs.length c := by
    rcases h.row with ⟨e1, _, rfl⟩ | ⟨b2, junk, rfl, _⟩
    · exact ⟨none, 0, by rw [e1]⟩
    · exact ⟨_, _, rfl⟩
  simp -implicitDefEqProofs only [↓Zd, (Zp), if_true, if_false, ne_eq, implies_true, forall_const, Nat.reduceEqDiff, reduceIte, reduceCtorEq, Int.reduceEq, Int.reduceNeg, Int.reduceLE, Int.reduceLT, Nat.reduceAdd, Nat.reduceLeDiff, Int.reduceToNat, Nat.reduceMul, Nat.reduceBEq, okPart, Value.cells, cut, okCell, cld2, (HEx), vA, co21]
  refine hdead_spec h ?_
  by_cases hmx : (H.maxO : Int) ≤ (bs.length : Int)
  · have e1 : makeH H = H := by unfold makeH; rw [if_pos (by omega)]
    have e2 : makeV H = .tuple #[.int .i64 0, .int .i64 40] := by unfold makeV; rw [if_pos (by omega)]
    rw [e1, e2] at hR
    simp -implicitDefEqProofs only [↓Zd, (Zp), if_true, if_false, ne_eq, implies_true, forall_const, Nat.reduceEqDiff, reduceIte, reduceCtorEq, Int.reduceEq, Int.reduceNeg, Int.reduceLE, Int.reduceLT, Nat.reduceAdd, Nat.reduceLeDiff, Int.reduceToNat, Nat.reduceMul, Nat.reduceBEq, okPart, Value.cells, cut, okCell, cld2, (HEx), vA, hhb, hmx, ord5]
    exact hR _ _ ⟨hpro, tg, pf, pn, _, bs, h⟩ .refl
  · have e1 : makeH H = { H with obs := H.obs ++ [{ L := [], shape := growN H.F H.most (0, []), proto := 0, epoch := 0 }], F := growF H.F H.most (0, []) } := by unfold makeH; rw [if_neg (by omega)]
    have e2 : makeV H = .tuple #[.int .i64 ((bs.length + 1 : Nat) : Int), .int .i64 0] := by unfold makeV; rw [if_neg (by omega), hlen]
    have hok := make_ok h.ok
    have hpr := make_pro hpro
    rw [e1] at hok hpr
    rw [e1, e2] at hR
    have hbl : ∀ (m : Nat), cbuild Try.prog 67 #[(0, .pointer (some ⟨m, 0, none⟩))] = some (.agg #[.pointer (some ⟨m, 0, none⟩)]) := fun m => by kernel_rfl
    have hmk : ∀ v, cmkI Try.prog 67 v = some (.iface 67 v) := fun v => mkI_s underlying67
    have hmp : ∀ v, cmkI Try.prog 73 v = some (.iface 73 v) := fun v => mkI_p underlying73
    have hbo : ∀ (v : Value), cbuild Try.prog 71 #[(0, .iface 67 (.agg #[v]))] = some (.agg #[.iface 67 (.agg #[v]), .int .i64 0, .int .i64 0]) := fun v => by kernel_rfl
    have hbs : ∀ (n : Int), cbuild Try.prog 76 #[(0, .int .i64 n)] = some (.agg #[.int .i64 n, .slice none 0 0]) := fun v => by kernel_rfl
    simp -implicitDefEqProofs only [↓Zd, (Zp), if_true, if_false, ne_eq, implies_true, forall_const, Nat.reduceEqDiff, reduceIte, reduceCtorEq, Int.reduceEq, Int.reduceNeg, Int.reduceLE, Int.reduceLT, Nat.reduceAdd, Nat.reduceLeDiff, Int.reduceToNat, Nat.reduceMul, Nat.reduceBEq, okPart, Value.cells, cut, okCell, cld2, (HEx), vA, hhb, hmx, ord5, co22]
    refine dnew_spec fun s1 pd hD1 hs1 => ?_
    have hn1 := hs1.1
    have hhb1 := (h.le hs1).bl
    have hpn := (h.own p h.pin.1).2
    have hps1 : ¬ p = s1.next := by omega
    simp -implicitDefEqProofs only [↓Zd, (Zp), if_true, if_false, ne_eq, implies_true, forall_const, Nat.reduceEqDiff, reduceIte, reduceCtorEq, Int.reduceEq, Int.reduceNeg, Int.reduceLE, Int.reduceLT, Nat.reduceAdd, Nat.reduceLeDiff, Int.reduceToNat, Nat.reduceMul, Nat.reduceBEq, okPart, Value.cells, cut, okCell, cld2, (HEx), vA, hhb1, hps1, hbl, hmk, hbo, ord5, co23]
    have l2 : s.le (s1.new (.cells [.iface 67 (.agg #[.pointer (some ⟨pd, 0, none⟩)]), .int .i64 0, .int .i64 0] 71 true)) := St.le_new hs1
    have h2 := h.le l2
    refine froot_spec (q := 0) h2.fo (by simp only [St.next_new]; omega) fun s3 O3 hF3 hU3 => ?_
    have hn3 := hU3.next
    simp only [St.next_new] at hn3
    have hokF : HOk { H with F := growF H.F H.most (0, []) } := h.ok.more (F' := growF H.F H.most (0, [])) (T' := H.T) (fun j t ht => growF_get ht) (fun _ _ _ => rfl) (Nat.le_refl _) h.ok.nodup (fun j t ht y hy => by
      rcases growF_mem ht with h1 | rfl
      · exact h.ok.ids j t h1 y hy
      · cases hy)
    have h3 := h2.newF hU3 hF3 hokF
    have hU3' := re_upd hU3
    have hhb3 := h3.bl
    generalize hO4 : reO O tg 1 O3 = O4 at h3 hU3'
    generalize hT4 : reT tg 1 O3 = tg4 at h3
    have hUall : Upd s s3 O O4 := (Upd.of_le l2).trans hU3'
    have hfresh : ∀ c, s.next ≤ c → c < s1.next + 1 → ¬ O4 c := fun c h1 h2' hc => by
      rcases hU3'.own c hc with g | g
      · have := (h.own c g).2
        omega
      · simp only [St.next_new] at g; omega
    have hke : ∀ c, s.next ≤ c → c < s1.next + 1 → s3.at' c = (s1.new (.cells [.iface 67 (.agg #[.pointer (some ⟨pd, 0, none⟩)]), .int .i64 0, .int .i64 0] 71 true)).at' c := fun c h1 h2' => by
      refine hU3'.keep c (by simp only [St.next_new]; omega) (fun hc => ?_)
      have := (h.own c hc).2; omega
    have hob3 : s3.at' s1.next = some (.cells [.iface 67 (.agg #[.pointer (some ⟨pd, 0, none⟩)]), .int .i64 0, .int .i64 0] 71 true) := by rw [hke _ (by omega) (by omega), St.at_new, if_pos rfl]
    have hpO4 := h3.pin.1
    have hsl3 := h3.row
    have hfr3 : ∀ q m c, Value.slice an bs.length cn = .slice (some q) m c → q.block < s3.next := fun q m c e => (h3.own _ (h3.rowO q m c e).1).2
    have hpn3 := (h3.own p hpO4).2
    by_cases hpos : (0 : Int) < ((growN H.F H.most (0, []) : Nat) : Int)
    · have hob3n : ¬ s1.next = s3.next := by omega
      have hpne1 : ¬ p = s1.next := by omega
      have hpne3 : ¬ p = s3.next := by omega
      simp -implicitDefEqProofs only [↓Zd, (Zp), if_true, if_false, ne_eq, implies_true, forall_const, Nat.reduceEqDiff, reduceIte, reduceCtorEq, Int.reduceEq, Int.reduceNeg, Int.reduceLE, Int.reduceLT, Nat.reduceAdd, Nat.reduceLeDiff, Int.reduceToNat, Nat.reduceMul, Nat.reduceBEq, okPart, Value.cells, cut, okCell, cld2, (HEx), vA, hpos, hob3, hob3n, hpne1, hpne3, hhb3, hbs, hmp, rowPtr, ord5]
      have hle4 : ∀ c, O4 c → ((s3.new (.cells [.int .i64 ((growN H.F H.most (0, []) : Nat) : Int), .slice none 0 0] 76 true)).put s1.next (.cells [.iface 73 (.pointer (some ⟨s3.next, 0, none⟩)), .int .i64 0, .int .i64 0] 71 true)).at' c = s3.at' c := fun c hc => by
        have := (h3.own c hc).2
        have : c ≠ s1.next := fun e => hfresh s1.next (by omega) (by omega) (e ▸ hc)
        rw [St.at_put, if_neg this, St.at_new, if_neg (by omega)]
      refine wch_app_ptr (l := bs) (a := s1.next) (by omega) (hsl3.same fun q n c e => hle4 _ (h3.rowO q n c e).1) (fun q m c e => by have := hfr3 q m c e; simp only [St.next_put, St.next_new]; omega) fun s5 hn5 hb5 hk5 => ?_
      simp only [St.next_put, St.next_new] at hn5 hb5 hk5
      have hp5 : s5.at' p = some (.cells [.slice an bs.length cn, .pointer (some ⟨pf, 0, none⟩), .pointer (some ⟨pn, 0, none⟩), .int .i64 (H.maxO : Int), .int .i64 (H.maxP : Int)] 62 true) := by
        rw [hk5 p (by omega) (fun q m c e e2 => (h3.rowO q m c e).2.2 e2.symm), hle4 p hpO4]; exact hhb3
      simp -implicitDefEqProofs only [↓Zd, (Zp), if_true, if_false, ne_eq, implies_true, forall_const, Nat.reduceEqDiff, reduceIte, reduceCtorEq, Int.reduceEq, Int.reduceNeg, Int.reduceLE, Int.reduceLT, Nat.reduceAdd, Nat.reduceLeDiff, Int.reduceToNat, Nat.reduceMul, Nat.reduceBEq, okPart, Value.cells, cut, okCell, cld2, (HEx), vA, hp5, ord5, len_slice]
      have hk6 : ∀ c, c < s3.next + 1 → c ≠ s1.next → c ≠ p → (∀ q m k, Value.slice an bs.length cn = .slice (some q) m k → c ≠ q.block) → c ≠ s3.next → (s5.put p (.cells [.slice (some ⟨s3.next + 1 + 1, 0, none⟩) (bs.length + 1) UNK, .pointer (some ⟨pf, 0, none⟩), .pointer (some ⟨pn, 0, none⟩), .int .i64 (H.maxO : Int), .int .i64 (H.maxP : Int)] 62 true)).at' c = s3.at' c := fun c h1 h2 h3' h4 h5 => by
        rw [St.at_put, if_neg h3', hk5 c h1 h4, St.at_put, if_neg h2, St.at_new, if_neg h5]
      have hB : ObAt lo (s5.put p (.cells [.slice (some ⟨s3.next + 1 + 1, 0, none⟩) (bs.length + 1) UNK, .pointer (some ⟨pf, 0, none⟩), .pointer (some ⟨pn, 0, none⟩), .int .i64 (H.maxO : Int), .int .i64 (H.maxP : Int)] 62 true)) N s1.next { L := [], shape := growN H.F H.most (0, []), proto := 0, epoch := 0 } (fun c => c = s1.next ∨ c = s3.next) := by
        refine ⟨?_, .inl rfl, Nat.zero_le _, .inr ⟨by show 0 < growN H.F H.most (0, []); omega, s3.next, .slice none 0 0, ?_, ?_, .inr rfl, by omega, .inl ⟨rfl, rfl, rfl⟩, fun q n c e => by cases e⟩⟩
        · rintro c (rfl | rfl) <;> simp only [St.next_put] <;> omega
        · rw [St.at_put, if_neg (fun e => hpne1 e.symm), hk5 _ (by omega) (fun q m c e e2 => hfresh s1.next (by omega) (by omega) (by rw [e2]; exact (h3.rowO q m c e).1)), St.at_put, if_pos rfl]; rfl
        · rw [St.at_put, if_neg (fun e => hpne3 e.symm), hk5 _ (by omega) (fun q m c e e2 => by have := hfr3 q m c e; omega), St.at_put, if_neg (fun e => hob3n e.symm), St.at_new, if_pos rfl]
      have h6 := h3.addO (r := s3.next + 1 + 1) (b := s1.next) (by simp only [St.next_put]; omega) (fun c hc hct => hk6 c (by have := (h3.own c hc).2; omega) (fun e => hfresh s1.next (by omega) (by omega) (e ▸ hc)) (fun e => hct (by rw [e]; exact h3.pin.2)) (fun q m k e e2 => hct (by rw [e2]; exact (h3.rowO q m k e).2.1)) (by have := (h3.own c hc).2; omega)) (by rw [St.at_put, if_pos rfl]) (.inr ⟨s3.next + 1 + 1, [], by simp, by rw [St.at_put, if_neg (by omega), List.append_nil]; exact hb5, by rw [ptrs_len, Nat.mul_one]⟩) (fun q n c e => by cases e; rfl) ⟨fun hc => by have := (h3.own _ hc).2; omega, by omega, by simp only [St.next_put]; omega⟩ (fun c hc => by
        rcases hc with rfl | rfl
        · exact ⟨hfresh _ (by omega) (by omega), by omega⟩
        · exact ⟨fun hc => by have := (h3.own _ hc).2; omega, by omega⟩) hB hok
      refine hR _ _ ⟨hpr, _, _, _, _, _, h6⟩ ⟨by simp only [St.next_put]; omega, fun c hc hno => ?_, fun c hc => ?_⟩
      · have hno4 : ¬ O4 c := fun h4 => by
          rcases hUall.own c h4 with g | g
          · exact hno g
          · omega
        have g := hk6 c (by omega) (by omega) (fun e => hno4 (e ▸ hpO4)) (fun q m k e e2 => hno4 (by rw [e2]; exact (h3.rowO q m k e).1)) (by omega)
        exact g.trans (hUall.keep c hc hno)
      · rcases hc with ⟨hc, _⟩ | (rfl | rfl) | rfl
        · exact hUall.own c hc
        · exact .inr (by omega)
        · exact .inr (by omega)
        · exact .inr (by omega)
    · have hz : growN H.F H.most (0, []) = 0 := by omega
      rw [hz] at hok hpr hR
      simp -implicitDefEqProofs only [↓Zd, (Zp), if_true, if_false, ne_eq, implies_true, forall_const, Nat.reduceEqDiff, reduceIte, reduceCtorEq, Int.reduceEq, Int.reduceNeg, Int.reduceLE, Int.reduceLT, Nat.reduceAdd, Nat.reduceLeDiff, Int.reduceToNat, Nat.reduceMul, Nat.reduceBEq, okPart, Value.cells, cut, okCell, cld2, (HEx), vA, hpos, hob3, hhb3, rowPtr, ord5]
      refine wch_app_ptr (l := bs) (a := s1.next) (by omega) hsl3 hfr3 fun s5 hn5 hb5 hk5 => ?_
      have hp5 : s5.at' p = some (.cells [.slice an bs.length cn, .pointer (some ⟨pf, 0, none⟩), .pointer (some ⟨pn, 0, none⟩), .int .i64 (H.maxO : Int), .int .i64 (H.maxP : Int)] 62 true) := by
        rw [hk5 p (by omega) (fun q m c e e2 => (h3.rowO q m c e).2.2 e2.symm)]; exact hhb3
      simp -implicitDefEqProofs only [↓Zd, (Zp), if_true, if_false, ne_eq, implies_true, forall_const, Nat.reduceEqDiff, reduceIte, reduceCtorEq, Int.reduceEq, Int.reduceNeg, Int.reduceLE, Int.reduceLT, Nat.reduceAdd, Nat.reduceLeDiff, Int.reduceToNat, Nat.reduceMul, Nat.reduceBEq, okPart, Value.cells, cut, okCell, cld2, (HEx), vA, hp5, ord5, len_slice]
      have hk6 : ∀ c, c < s3.next → c ≠ p → (∀ q m k, Value.slice an bs.length cn = .slice (some q) m k → c ≠ q.block) → (s5.put p (.cells [.slice (some ⟨s3.next + 1, 0, none⟩) (bs.length + 1) UNK, .pointer (some ⟨pf, 0, none⟩), .pointer (some ⟨pn, 0, none⟩), .int .i64 (H.maxO : Int), .int .i64 (H.maxP : Int)] 62 true)).at' c = s3.at' c := fun c h1 h3' h4 => by
        rw [St.at_put, if_neg h3', hk5 c h1 h4]
      have hfr6 : ∀ c, s.next ≤ c → c < s1.next + 1 → (s5.put p (.cells [.slice (some ⟨s3.next + 1, 0, none⟩) (bs.length + 1) UNK, .pointer (some ⟨pf, 0, none⟩), .pointer (some ⟨pn, 0, none⟩), .int .i64 (H.maxO : Int), .int .i64 (H.maxP : Int)] 62 true)).at' c = s3.at' c := fun c h1 h2 => hk6 c (by omega) (by omega) (fun q m k e e2 => hfresh c h1 h2 (by rw [e2]; exact (h3.rowO q m k e).1))
      have hD6 : DictAt lo (s5.put p (.cells [.slice (some ⟨s3.next + 1, 0, none⟩) (bs.length + 1) UNK, .pointer (some ⟨pf, 0, none⟩), .pointer (some ⟨pn, 0, none⟩), .int .i64 (H.maxO : Int), .int .i64 (H.maxP : Int)] 62 true)) pd [] 0 (fun b => s.next ≤ b ∧ b < s1.next) := (hD1.low hlo).same (by simp only [St.next_put]; omega) fun c hc => by
        rw [hfr6 c hc.1 (by omega), hke c hc.1 (by omega), St.at_new, if_neg (by omega)]
      have hB := ObAt.loose (lo := lo) (b := s1.next) (o := { L := [], shape := 0, proto := 0, epoch := 0 }) (by rw [hfr6 _ (by omega) (by omega)]; exact hob3) rfl hD6 (fun c hc => by omega) ⟨by omega, by simp only [St.next_put]; omega⟩ (Nat.le_refl _)
      have h6 := h3.addO (r := s3.next + 1) (b := s1.next) (by simp only [St.next_put]; omega) (fun c hc hct => hk6 c (h3.own c hc).2 (fun e => hct (by rw [e]; exact h3.pin.2)) (fun q m k e e2 => hct (by rw [e2]; exact (h3.rowO q m k e).2.1))) (by rw [St.at_put, if_pos rfl]) (.inr ⟨s3.next + 1, [], by simp, by rw [St.at_put, if_neg (by omega), List.append_nil]; exact hb5, by rw [ptrs_len, Nat.mul_one]⟩) (fun q n c e => by cases e; rfl) ⟨fun hc => by have := (h3.own _ hc).2; omega, by omega, by simp only [St.next_put]; omega⟩ (fun c hc => by
        rcases hc with rfl | hc
        · exact ⟨hfresh _ (by omega) (by omega), by omega⟩
        · exact ⟨hfresh _ hc.1 (by omega), by omega⟩) (hB.mono (Nat.zero_le _)) hok
      refine hR _ _ ⟨hpr, _, _, _, _, _, h6⟩ ⟨by simp only [St.next_put]; omega, fun c hc hno => ?_, fun c hc => ?_⟩
      · have hno4 : ¬ O4 c := fun h4 => by
          rcases hUall.own c h4 with g | g
          · exact hno g
          · omega
        have g := hk6 c (by omega) (fun e => hno4 (e ▸ hpO4)) (fun q m k e e2 => hno4 (by rw [e2]; exact (h3.rowO q m k e).1))
        exact g.trans (hUall.keep c hc hno)
      · rcases hc with ⟨hc, _⟩ | (rfl | hc) | rfl
        · exact hUall.own c hc
        · exact .inr (by omega)
        · exact .inr hc.1
        · exact .inr (by omega)
end
end Go.Proofs.Try
set_option linter.unusedSimpArgs false
set_option linter.unusedVariables false
set_option linter.unusedSectionVars false
namespace Go.Proofs.Try
open Go.Cs
open Go.RowKit (Below)
set_option maxRecDepth 100000
attribute [local irreducible] CCalls WLoop WScope CRound WRange
section
variable {M : Type} [Mem M] {w0 : World} {s : St M} {R : Value → St M → Prop} {lo p N : Nat} {H : Hp} {O : Nat → Prop}
theorem FAt.low {lo lo' : Nat} {s : St M} {p : Nat} {F : List Sh} {most : Nat} {O : Nat → Prop} (h : FAt lo s p F most O) (hl : lo' ≤ lo) : FAt lo' s p F most O :=
  ⟨fun b hb => ⟨by have := (h.own b hb).1; omega, (h.own b hb).2⟩, h.pin, h.ok, h.le, h.bl⟩
theorem TabAt.low {lo lo' : Nat} {s : St M} {p : Nat} {T : List ByteArray} {O : Nat → Prop} (h : TabAt lo s p T O) (hl : lo' ≤ lo) : TabAt lo' s p T O :=
  ⟨fun b hb => ⟨by have := (h.own b hb).1; omega, (h.own b hb).2⟩, h.pin, h.bl⟩
theorem tnew_spec (h : ∀ s' p, TabAt s.next s' p [] (fun b => s.next ≤ b ∧ b < s'.next) → s.le s' → R (.pointer (some ⟨p, 0, none⟩)) s') : CCalls Try.prog w0 19 #[] s R := by
  refine wfun2 hmix ok19 (l := []) func19 rfl ntmps19 results19 (by simp) ?_
  have newTab : ∀ (m : Nat), cbuild Try.prog 131 #[(0, .map (some m))] = some (.agg #[.map (some m), .slice none 0 0]) := fun m => by kernel_rfl
  simp -implicitDefEqProofs only [↓Zd, (Zp), if_true, if_false, ne_eq, implies_true, forall_const, Nat.reduceEqDiff, reduceIte, reduceCtorEq, Int.reduceEq, Int.reduceNeg, Int.reduceLE, Int.reduceLT, Nat.reduceAdd, Nat.reduceLeDiff, Int.reduceToNat, Nat.reduceMul, Nat.reduceBEq, okPart, Value.cells, cut, okCell, cld2, underlying3, underlying4, underlying9, underlying5, underlying32, underlying0, be4, bn4, underlying131, sz131, is131, ce131, ag131, ze131, fa131x0, fa131x1, underlying57, sz57, is57, ce57, ag57, ze57, nt57, nn57, nf57, ng57, underlying128, sz128, is128, ce128, ag128, ze128, nt128, nn128, nf128, ng128, newTab]
  refine h _ _ ⟨fun b hb => hb, by simp, s.next, .slice none 0 0, by simp, by simp; rfl, ⟨by omega, by simp only [St.next_new]; omega⟩, by simp, .inl ⟨rfl, rfl, rfl⟩, fun q n c e => by cases e⟩ (by repeat (first | exact St.le_refl _ | assumption | refine St.le_new ?_ | refine St.le_put ?_ (by first | omega | (simp only [St.next_new, St.next_put, St.next_kill]; omega)) | refine St.le_trans ?_ (by assumption)))
theorem between_spec {a b : Int} (h : R (.int .i64 (max 0 (min a b))) s) : CCalls Try.prog w0 20 #[.int .i64 a, .int .i64 b] s R := by
  refine wfun2 hmix ok20 (l := [.int .i64 a, .int .i64 b]) func20 rfl ntmps20 results20 (by simp) ?_
  have hmx : (if (if b < a then b else a) > 0 then (if b < a then b else a) else 0) = max 0 (min a b) := by omega
  simp -implicitDefEqProofs only [↓Zd, (Zp), if_true, if_false, ne_eq, implies_true, forall_const, Nat.reduceEqDiff, reduceIte, reduceCtorEq, Int.reduceEq, Int.reduceNeg, Int.reduceLE, Int.reduceLT, Nat.reduceAdd, Nat.reduceLeDiff, Int.reduceToNat, Nat.reduceMul, Nat.reduceBEq, okPart, Value.cells, cut, okCell, cld2, (HEx), vA, o_min, o_max, bi_min, bi_max, hmx]
  exact h
def newH (objects props shapes : Int) : Hp := { obs := [], F := [], T := [], most := (max 0 (min shapes 150)).toNat, maxO := (max 0 (min objects 200)).toNat, maxP := (max 0 (min props 32)).toNat }
theorem newH_ok (a b c : Int) : HOk (newH a b c) :=
  ⟨List.nodup_nil, fun i t h => by simp [newH] at h, fun i o h => by simp [newH] at h, fun i o h => by simp [newH] at h, fun i o h => by simp [newH] at h, ⟨fun _ => 0, fun i o h => by simp [newH] at h⟩, ⟨by simp [newH]; omega, by simp [newH], by simp [newH]; omega⟩⟩
theorem newH_pro (a b c : Int) : HPro (newH a b c) := fun i o h => by simp [newH] at h
set_option maxHeartbeats 8000000 in
theorem hnew_spec {a b c d n : Int} (h : ∀ s' p, HpAt s.next s' p (newH a c n) 0 (fun b => s.next ≤ b ∧ b < s'.next) → s.le s' → R (.pointer (some ⟨p, 0, none⟩)) s') : CCalls Try.prog w0 4 #[.agg #[.int .i64 a, .int .i64 b, .int .i64 c, .int .i64 d], .int .i64 n] s R := by
  refine wfun2 hmix ok4 (l := [.agg #[.int .i64 a, .int .i64 b, .int .i64 c, .int .i64 d], .int .i64 n]) func4 rfl ntmps4 results4 (by simp) ?_
  simp -implicitDefEqProofs only [↓Zd, (Zp), if_true, if_false, ne_eq, implies_true, forall_const, Nat.reduceEqDiff, reduceIte, reduceCtorEq, Int.reduceEq, Int.reduceNeg, Int.reduceLE, Int.reduceLT, Nat.reduceAdd, Nat.reduceLeDiff, Int.reduceToNat, Nat.reduceMul, Nat.reduceBEq, okPart, Value.cells, cut, okCell, cld2, (HEx), vA, underlying31, sz31, is31, ce31, ag31, ze31, fa31x0, fa31x1, fa31x2, fa31x3, ord4, co18]
  refine fnew_spec fun s1 pf hF1 hs1 => ?_
  have hn1 := hs1.1
  simp only [St.next_new] at hn1
  have hbx1 : s1.at' s.next = some (.cells [.int .i64 a, .int .i64 b, .int .i64 c, .int .i64 d] 31 true) := by rw [hs1.2 _ (by simp only [St.next_new]; omega), St.at_new, if_pos rfl]
  simp -implicitDefEqProofs only [↓Zd, (Zp), if_true, if_false, ne_eq, implies_true, forall_const, Nat.reduceEqDiff, reduceIte, reduceCtorEq, Int.reduceEq, Int.reduceNeg, Int.reduceLE, Int.reduceLT, Nat.reduceAdd, Nat.reduceLeDiff, Int.reduceToNat, Nat.reduceMul, Nat.reduceBEq, okPart, Value.cells, cut, okCell, cld2, (HEx), vA, underlying31, sz31, is31, ce31, ag31, ze31, fa31x0, fa31x1, fa31x2, fa31x3, hbx1, ord4, co19]
  refine tnew_spec fun s2 pn hT2 hs2 => ?_
  have hn2 := hs2.1
  have hbx2 : s2.at' s.next = _ := (hs2.2 _ (by omega)).trans hbx1
  have hbH : ∀ (u v : Value) (e f : Int), cbuild Try.prog 62 #[(1, .pointer (some ⟨pf, 0, none⟩)), (2, .pointer (some ⟨pn, 0, none⟩)), (3, .int .i64 e), (4, .int .i64 f)] = some (.agg #[.slice none 0 0, .pointer (some ⟨pf, 0, none⟩), .pointer (some ⟨pn, 0, none⟩), .int .i64 e, .int .i64 f]) := fun u v e f => by kernel_rfl
  simp -implicitDefEqProofs only [↓Zd, (Zp), if_true, if_false, ne_eq, implies_true, forall_const, Nat.reduceEqDiff, reduceIte, reduceCtorEq, Int.reduceEq, Int.reduceNeg, Int.reduceLE, Int.reduceLT, Nat.reduceAdd, Nat.reduceLeDiff, Int.reduceToNat, Nat.reduceMul, Nat.reduceBEq, okPart, Value.cells, cut, okCell, cld2, (HEx), vA, underlying31, sz31, is31, ce31, ag31, ze31, fa31x0, fa31x1, fa31x2, fa31x3, hbx2, ord4, co20]
  refine between_spec ?_
  simp -implicitDefEqProofs only [↓Zd, (Zp), if_true, if_false, ne_eq, implies_true, forall_const, Nat.reduceEqDiff, reduceIte, reduceCtorEq, Int.reduceEq, Int.reduceNeg, Int.reduceLE, Int.reduceLT, Nat.reduceAdd, Nat.reduceLeDiff, Int.reduceToNat, Nat.reduceMul, Nat.reduceBEq, okPart, Value.cells, cut, okCell, cld2, (HEx), vA, underlying31, sz31, is31, ce31, ag31, ze31, fa31x0, fa31x1, fa31x2, fa31x3, hbx2, ord4, co20]
  refine between_spec ?_
  simp -implicitDefEqProofs only [↓Zd, (Zp), if_true, if_false, ne_eq, implies_true, forall_const, Nat.reduceEqDiff, reduceIte, reduceCtorEq, Int.reduceEq, Int.reduceNeg, Int.reduceLE, Int.reduceLT, Nat.reduceAdd, Nat.reduceLeDiff, Int.reduceToNat, Nat.reduceMul, Nat.reduceBEq, okPart, Value.cells, cut, okCell, cld2, (HEx), vA, underlying31, sz31, is31, ce31, ag31, ze31, fa31x0, fa31x1, fa31x2, fa31x3, hbx2, ord4, hbH .nilFunc .nilFunc]
  have hl : s.le (s2.new (.cells [.slice none 0 0, .pointer (some ⟨pf, 0, none⟩), .pointer (some ⟨pn, 0, none⟩), .int .i64 (max 0 (min a 200)), .int .i64 (max 0 (min c 32))] 62 true)) := St.le_new (St.le_trans (St.le_trans (St.le_new (St.le_refl _)) hs1) hs2)
  refine h _ _ ⟨newH_pro a c n, (fun c => if s1.next ≤ c ∧ c < s2.next then 2 else if s.next + 1 ≤ c ∧ c < s1.next then 1 else 0), pf, pn, .slice none 0 0, [], ⟨fun b hb => hb, newH_ok a c n, Nat.zero_le _, ⟨⟨by omega, by simp only [St.next_new]; omega⟩, by rw [if_neg (by omega), if_neg (by omega)]⟩, ?_, .inl ⟨rfl, rfl, rfl⟩, (fun q n c e => by cases e), ?_, ?_, rfl, fun i b o hb _ => by simp at hb⟩⟩ hl
  · rw [St.at_new, if_pos rfl]
    have e1 : ((newH a c n).maxO : Int) = max 0 (min a 200) := by simp only [newH]; omega
    have e2 : ((newH a c n).maxP : Int) = max 0 (min c 32) := by simp only [newH]; omega
    rw [e1, e2]
  · have e : (fun b => (s.next ≤ b ∧ b < (s2.new (.cells [.slice none 0 0, .pointer (some ⟨pf, 0, none⟩), .pointer (some ⟨pn, 0, none⟩), .int .i64 (max 0 (min a 200)), .int .i64 (max 0 (min c 32))] 62 true)).next) ∧ (if s1.next ≤ b ∧ b < s2.next then 2 else if s.next + 1 ≤ b ∧ b < s1.next then 1 else 0) = 1) = fun b => s.next + 1 ≤ b ∧ b < s1.next := by
      funext b
      apply propext
      simp only [St.next_new]
      split
      · omega
      · split <;> omega
    rw [e]
    simp only [St.next_new] at hF1
    refine (hF1.low (by omega)).same (by simp only [St.next_new]; omega) fun c hc => ?_
    rw [St.at_new, if_neg (by omega), hs2.2 c (by omega)]
  · have e : (fun b => (s.next ≤ b ∧ b < (s2.new (.cells [.slice none 0 0, .pointer (some ⟨pf, 0, none⟩), .pointer (some ⟨pn, 0, none⟩), .int .i64 (max 0 (min a 200)), .int .i64 (max 0 (min c 32))] 62 true)).next) ∧ (if s1.next ≤ b ∧ b < s2.next then 2 else if s.next + 1 ≤ b ∧ b < s1.next then 1 else 0) = 2) = fun b => s1.next ≤ b ∧ b < s2.next := by
      funext b
      apply propext
      simp only [St.next_new]
      split
      · omega
      · split <;> omega
    rw [e]
    refine (hT2.low (by omega)).same (by simp only [St.next_new]; omega) fun c hc => ?_
    rw [St.at_new, if_neg (by omega)]
end
end Go.Proofs.Try
set_option linter.unusedSimpArgs false
set_option linter.unusedVariables false
set_option linter.unusedSectionVars false
namespace Go.Proofs.Try
open Go.Cs
open Go.RowKit (Below)
set_option maxRecDepth 100000
attribute [local irreducible] CCalls WLoop WScope CRound WRange
def PSz (B : Nat) (p : ByteArray × V3) : Prop := p.1.size ≤ B ∧ p.2.2.2.size ≤ B ∧ -9223372036854775808 ≤ p.2.2.1 ∧ p.2.2.1 ≤ 9223372036854775807
def HSz (B : Nat) (H : Hp) : Prop := ∀ (i : Nat) (o : Ob), H.obs[i]? = some o → ∀ p ∈ o.L, PSz B p
def headB (k : Nat) (q : Nat) : ByteArray := (⟨#[35]⟩ : ByteArray) ++ digS ((k + 1 : Nat) : Int) ++ (⟨#[32, 35]⟩ : ByteArray) ++ digS (q : Int)
def propB (p : ByteArray × V3) : ByteArray := (⟨#[32]⟩ : ByteArray) ++ p.1 ++ (⟨#[58]⟩ : ByteArray) ++ printV p.2.1 p.2.2.1 p.2.2.2
def propsL (L : List (ByteArray × V3)) : List UInt8 := L.flatMap fun p => (propB p).data.toList
def lineL (H : Hp) (k : Nat) : List UInt8 := match H.obs[k]? with
  | some o => (headB k o.proto).data.toList ++ propsL o.L ++ [10]
  | none => []
def linesL (H : Hp) (k : Nat) : List UInt8 := (List.range k).flatMap (lineL H)
def dumpB (H : Hp) : ByteArray := ⟨(linesL H H.obs.length).toArray⟩
theorem printV_len {k n : Int} {x : ByteArray} (hn : -9223372036854775808 ≤ n ∧ n ≤ 9223372036854775807) : (printV k n x).size ≤ 4 * x.size + 30 := by
  have hd := digS_len hn
  rcases kinds k with rfl | rfl | rfl | rfl | rfl | rfl | ⟨h0, h1, h2, h3, h4, h5⟩
  · show 4 ≤ _; omega
  · by_cases hz : n = 0
    · simp only [printV, showV, hz]; show 5 ≤ _; omega
    · simp only [printV, showV, hz]; show 4 ≤ _; omega
  · simp only [printV, showV]; show (digS n).size ≤ _; omega
  · simp only [printV]
    show (quoteS x).size ≤ _
    have := flat_len x.data.toList
    show (quoteL x.data.toList).length ≤ _
    unfold quoteL
    simp only [List.length_cons, List.length_append, List.length_nil]
    have e : x.data.toList.length = x.size := rfl
    omega
  · simp only [printV]; show ((⟨#[35]⟩ : ByteArray) ++ digS n).size ≤ _
    rw [ByteArray.size_append]; show 1 + _ ≤ _; omega
  · simp only [printV]; show ((⟨#[38]⟩ : ByteArray) ++ digS n).size ≤ _
    rw [ByteArray.size_append]; show 1 + _ ≤ _; omega
  · simp only [printV, showV, h0, h1, h2, h3, h4, h5, if_false]; show 0 ≤ _; omega
theorem headB_len {k q : Nat} (hk : k ≤ 1000) (hq : q ≤ 1000) : (headB k q).size ≤ 50 := by
  unfold headB
  have h1 := digS_len (n := ((k + 1 : Nat) : Int)) (by omega)
  have h2 := digS_len (n := (q : Int)) (by omega)
  simp only [ByteArray.size_append]
  show 1 + _ + 2 + _ ≤ _
  omega
theorem propB_len {p : ByteArray × V3} (h : PSz 1000000 p) : (propB p).size ≤ 6000000 := by
  obtain ⟨h1, h2, h3, h4⟩ := h
  have := printV_len (k := p.2.1) (x := p.2.2.2) ⟨h3, h4⟩
  unfold propB
  simp only [ByteArray.size_append]
  show 1 + _ + 1 + _ ≤ _
  omega
theorem propsL_len : ∀ {L : List (ByteArray × V3)}, (∀ p ∈ L, PSz 1000000 p) → (propsL L).length ≤ L.length * 6000000 := by
  intro L
  induction L with
  | nil => intro _; simp [propsL]
  | cons p L ih =>
    intro h
    have h1 := propB_len (h p (List.mem_cons_self))
    have h2 := ih fun q hq => h q (List.mem_cons_of_mem _ hq)
    show ((propB p).data.toList ++ propsL L).length ≤ _
    rw [List.length_append, List.length_cons]
    have e : (propB p).data.toList.length = (propB p).size := rfl
    omega
theorem lineL_len {H : Hp} (hok : HOk H) (hs : HSz 1000000 H) (k : Nat) : (lineL H k).length ≤ 200000000 := by
  unfold lineL
  cases ho : H.obs[k]? with
  | none => simp
  | some o =>
    simp only [List.length_append, List.length_cons, List.length_nil]
    have hk := (List.getElem?_eq_some_iff.1 ho).1
    have hlim := hok.lim
    have hl := hok.lens k o ho
    obtain ⟨d, hd⟩ := hok.up
    have hq : o.proto ≤ 200 := by rcases hd k o ho with h | ⟨h, _⟩ <;> omega
    have h1 := headB_len (k := k) (q := o.proto) (by omega) (by omega)
    have h2 := propsL_len (hs k o ho)
    have e : (headB k o.proto).data.toList.length = (headB k o.proto).size := rfl
    omega
theorem linesL_succ (H : Hp) (k : Nat) : linesL H (k + 1) = linesL H k ++ lineL H k := by
  unfold linesL; rw [List.range_succ]; simp
theorem linesL_len {H : Hp} (hok : HOk H) (hs : HSz 1000000 H) (k : Nat) : (linesL H k).length ≤ k * 200000000 := by
  induction k with
  | zero => simp [linesL]
  | succ k ih =>
    have := lineL_len hok hs k
    rw [linesL_succ, List.length_append]; omega
theorem ba_list_append (a b : ByteArray) : (a ++ b).data.toList = a.data.toList ++ b.data.toList := by
  rw [ByteArray.data_append, Array.toList_append]
section
variable {M : Type} [Mem M] {w0 : World} {s : St M} {R : Value → St M → Prop} {lo p N : Nat} {H : Hp} {O : Nat → Prop}
theorem BAt.go {s0 s s' : St M} {p : Nat} {l : List UInt8} (h : BAt s0 s p l) (hs : s.le s') : BAt s0 s' p l := by
  obtain ⟨h1, h2, h3, ad, sl, h4, h5, h6⟩ := h
  have := hs.1
  refine ⟨St.le_trans h1 hs, h2, by omega, ad, sl, (hs.2 p h3).trans h4, h5, ?_⟩
  rcases h6 with h6 | ⟨g1, b, g2, g3, g4, g5, g6⟩
  · exact .inl h6
  · exact .inr ⟨g1, b, g2, (hs.2 b g6).trans g3, g4, g5, by omega⟩
theorem Fix.sub {W W' : List Nat} {a b : Env} (h : Fix W a b) (hs : ∀ t, W'.contains t = false → W.contains t = false) : Fix W' a b := fun t ht => h t (hs t ht)
set_option maxHeartbeats 8000000 in
theorem hdump_spec (h : HpAt lo s p H N O) (hN : N ≤ 1000000) (hsz : HSz 1000000 H) (hR : ∀ s', s.le s' → R (.string (dumpB H)) s') : CCalls Try.prog w0 17 #[.pointer (some ⟨p, 0, none⟩)] s R := by
  refine wfun2 hmix ok17 (l := [.pointer (some ⟨p, 0, none⟩)]) func17 rfl ntmps17 results17 (by simp) ?_
  obtain ⟨hpro, tg, pf, pn, sl, bs, h⟩ := h
  have hlim := h.ok.lim
  simp -implicitDefEqProofs only [↓Zd, (Zp), if_true, if_false, ne_eq, implies_true, forall_const, Nat.reduceEqDiff, reduceIte, reduceCtorEq, Int.reduceEq, Int.reduceNeg, Int.reduceLE, Int.reduceLT, Nat.reduceAdd, Nat.reduceLeDiff, Int.reduceToNat, Nat.reduceMul, Nat.reduceBEq, okPart, Value.cells, cut, okCell, cld2, (HEx), vA, underlying112, sz112, is112, ce112, ag112, ze112, fa112x0, fa112x1, underlying109, sz109, is109, ce109, ag109, ze109, nt109, nn109, nf109, ng109, underlying5, sz5, is5, ce5, ag5, ze5, underlying116, sz116, is116, ce116, ag116, underlying115, sz115, is115, ce115, ag115, ze115]
  have hB0 : BAt s (s.new (.cells [.pointer none, .slice none 0 0] 112 true)) s.next (linesL H 0) :=
    ⟨St.le_new (St.le_refl _), Nat.le_refl _, by simp only [St.next_new]; omega, _, _, by rw [St.at_new, if_pos rfl], .inl rfl, .inl ⟨rfl, rfl⟩⟩
  refine wloop_fix hmix [10, 11, 12, 13, 16, 17, 18, 19, 20, 21, 22, 23, 24, 25, 26, 27, 28, 29, 30, 31, 5, 32, 33, 34, 35, 36, 37, 38, 6, 7, 39, 40, 41, 42, 43, 44, 45, 8, 9, 46, 47, 48, 49, 50, 51, 52, 53, 54, 14, 15, 4] (fun fuel env s1 => ∃ k : Nat, fuel = H.obs.length - k ∧ k ≤ H.obs.length ∧ env 4 = .int .i64 ((k + 1 : Nat) : Int) ∧ BAt s s1 s.next (linesL H k)) H.obs.length ⟨0, rfl, by omega, rfl, hB0⟩ ?_
  rintro fuel env s1 hFx ⟨k, rfl, hk, e4, hB⟩
  have e0 : env 0 = .pointer (some ⟨p, 0, none⟩) := by rw [hFx 0 rfl]; rfl
  have e3 : env 3 = .pointer (some ⟨s.next, 0, none⟩) := by rw [hFx 3 rfl]; rfl
  have hll := linesL_len h.ok hsz k
  simp -implicitDefEqProofs only [↓Zd, (Zp), if_true, if_false, ne_eq, implies_true, forall_const, Nat.reduceEqDiff, reduceIte, reduceCtorEq, Int.reduceEq, Int.reduceNeg, Int.reduceLE, Int.reduceLT, Nat.reduceAdd, Nat.reduceLeDiff, Int.reduceToNat, Nat.reduceMul, Nat.reduceBEq, okPart, Value.cells, cut, okCell, cld2, (HEx), vA, e0, e4, co45]
  refine hlen_spec (h.le hB.le) ?_
  by_cases hkn : k < H.obs.length
  · have hle1 : ((k + 1 : Nat) : Int) ≤ (H.obs.length : Int) := by omega
    obtain ⟨o, ho⟩ : ∃ o, H.obs[k]? = some o := ⟨H.obs[k], by simp [hkn]⟩
    have hat : obAt H ((k + 1 : Nat) : Int) = some o := by rw [obAt_get]; exact ho
    obtain ⟨d, hd⟩ := h.ok.up
    have hq : o.proto ≤ 200 := by rcases hd k o ho with h | ⟨h, _⟩ <;> omega
    have hd1 := digS_len (n := ((k + 1 : Nat) : Int)) (by omega)
    have hd2 := digS_len (n := (o.proto : Int)) (by omega)
    have hml : o.L.length ≤ 32 := by have := h.ok.lens k o ho; omega
    have z1 : (⟨#[35]⟩ : ByteArray).size + (digS ((k + 1 : Nat) : Int)).size ≤ 9223372036854775807 := by show 1 + _ ≤ _; omega
    have z2 : ((⟨#[35]⟩ : ByteArray) ++ digS ((k + 1 : Nat) : Int)).size + (⟨#[32, 35]⟩ : ByteArray).size ≤ 9223372036854775807 := by rw [ByteArray.size_append]; show 1 + _ + 2 ≤ _; omega
    have z3 : ((⟨#[35]⟩ : ByteArray) ++ digS ((k + 1 : Nat) : Int) ++ (⟨#[32, 35]⟩ : ByteArray)).size + (digS (o.proto : Int)).size ≤ 9223372036854775807 := by rw [ByteArray.size_append, ByteArray.size_append]; show 1 + _ + 2 + _ ≤ _; omega
    simp -implicitDefEqProofs only [↓Zd, (Zp), if_true, if_false, ne_eq, implies_true, forall_const, Nat.reduceEqDiff, reduceIte, reduceCtorEq, Int.reduceEq, Int.reduceNeg, Int.reduceLE, Int.reduceLT, Nat.reduceAdd, Nat.reduceLeDiff, Int.reduceToNat, Nat.reduceMul, Nat.reduceBEq, okPart, Value.cells, cut, okCell, cld2, (HEx), vA, e0, e3, e4, hle1, co47]
    refine digits_spec (by omega) fun s2 hs2 => ?_
    have hB2 := hB.go hs2
    simp -implicitDefEqProofs only [↓Zd, (Zp), if_true, if_false, ne_eq, implies_true, forall_const, Nat.reduceEqDiff, reduceIte, reduceCtorEq, Int.reduceEq, Int.reduceNeg, Int.reduceLE, Int.reduceLT, Nat.reduceAdd, Nat.reduceLeDiff, Int.reduceToNat, Nat.reduceMul, Nat.reduceBEq, okPart, Value.cells, cut, okCell, cld2, (HEx), vA, e0, e3, e4, z1, z2, co48]
    refine hproto_spec (h.le hB2.le) (by omega) ?_
    have hpv : protoV H ((k + 1 : Nat) : Int) = (o.proto : Int) := by unfold protoV; rw [hat]
    rw [hpv]
    simp -implicitDefEqProofs only [↓Zd, (Zp), if_true, if_false, ne_eq, implies_true, forall_const, Nat.reduceEqDiff, reduceIte, reduceCtorEq, Int.reduceEq, Int.reduceNeg, Int.reduceLE, Int.reduceLT, Nat.reduceAdd, Nat.reduceLeDiff, Int.reduceToNat, Nat.reduceMul, Nat.reduceBEq, okPart, Value.cells, cut, okCell, cld2, (HEx), vA, e0, e3, e4, co47]
    refine digits_spec (by omega) fun s3 hs3 => ?_
    have hB3 := hB2.go hs3
    simp -implicitDefEqProofs only [↓Zd, (Zp), if_true, if_false, ne_eq, implies_true, forall_const, Nat.reduceEqDiff, reduceIte, reduceCtorEq, Int.reduceEq, Int.reduceNeg, Int.reduceLE, Int.reduceLT, Nat.reduceAdd, Nat.reduceLeDiff, Int.reduceToNat, Nat.reduceMul, Nat.reduceBEq, okPart, Value.cells, cut, okCell, cld2, (HEx), vA, e0, e3, e4, z3, co46]
    have hh : (⟨#[35]⟩ : ByteArray) ++ digS ((k + 1 : Nat) : Int) ++ (⟨#[32, 35]⟩ : ByteArray) ++ digS (o.proto : Int) = headB k o.proto := rfl
    rw [hh]
    have hhl := headB_len (k := k) (q := o.proto) (by omega) (by omega)
    refine writeString_spec hB3 (by omega) (by rw [← hh]; simp only [ba_list_append]; simp) (by omega) fun s4 hB4 => ?_
    simp -implicitDefEqProofs only [↓Zd, (Zp), if_true, if_false, ne_eq, implies_true, forall_const, Nat.reduceEqDiff, reduceIte, reduceCtorEq, Int.reduceEq, Int.reduceNeg, Int.reduceLE, Int.reduceLT, Nat.reduceAdd, Nat.reduceLeDiff, Int.reduceToNat, Nat.reduceMul, Nat.reduceBEq, okPart, Value.cells, cut, okCell, cld2, (HEx), vA, underlying116, sz116, is116, ce116, ag116, e0, e3, e4, co49]
    refine hcount_spec (i := ((k + 1 : Nat) : Int)) (h.le hB4.le) (by omega) fun s5 hs5 => ?_
    have hB5 := hB4.go hs5
    have hcv : countV H ((k + 1 : Nat) : Int) = (o.L.length : Int) := by unfold countV; rw [hat]
    rw [hcv]
    simp -implicitDefEqProofs only [↓Zd, (Zp), if_true, if_false, ne_eq, implies_true, forall_const, Nat.reduceEqDiff, reduceIte, reduceCtorEq, Int.reduceEq, Int.reduceNeg, Int.reduceLE, Int.reduceLT, Nat.reduceAdd, Nat.reduceLeDiff, Int.reduceToNat, Nat.reduceMul, Nat.reduceBEq, okPart, Value.cells, cut, okCell, cld2, (HEx), vA, e0, e3, e4]
    refine wloop_fix hmix [30, 31, 5, 32, 33, 34, 35, 36, 37, 38, 6, 7, 39, 40, 41, 42, 43, 44, 45, 8, 9, 46, 47, 48, 49, 50, 51, 52, 53, 29] (fun fuel env s1 => ∃ m : Nat, fuel = o.L.length - m ∧ m ≤ o.L.length ∧ env 29 = .int .i64 (m : Int) ∧ BAt s s1 s.next (linesL H k ++ (headB k o.proto).data.toList ++ propsL (o.L.take m))) o.L.length ⟨0, rfl, by omega, rfl, by simpa [propsL] using hB5⟩ ?_
    rintro fuel2 env2 s6 hFx2 ⟨m, rfl, hm, e29, hB6⟩
    have f0 : env2 0 = .pointer (some ⟨p, 0, none⟩) := by rw [hFx2 0 rfl]; simp only [upd_apply]; simpa using e0
    have f3 : env2 3 = .pointer (some ⟨s.next, 0, none⟩) := by rw [hFx2 3 rfl]; simp only [upd_apply]; simpa using e3
    have f4 : env2 4 = .int .i64 ((k + 1 : Nat) : Int) := by rw [hFx2 4 rfl]; simp only [upd_apply]; simpa using e4
    have f28 : env2 28 = .int .i64 (o.L.length : Int) := by rw [hFx2 28 rfl]; rfl
    have hpl := propsL_len (L := o.L.take m) (fun q hq => hsz k o ho q (List.mem_of_mem_take hq))
    have htl : (o.L.take m).length ≤ 32 := by rw [List.length_take]; omega
    have hel : (headB k o.proto).data.toList.length = (headB k o.proto).size := rfl
    have hlen6 : (linesL H k ++ (headB k o.proto).data.toList ++ propsL (o.L.take m)).length ≤ 100000000000 := by
      simp only [List.length_append]; omega
    by_cases hml2 : (m : Int) < (o.L.length : Int)
    · have hmlt : m < o.L.length := by omega
      obtain ⟨x, v, hLm⟩ : ∃ x v, o.L[m]? = some (x, v) := ⟨o.L[m].1, o.L[m].2, by simp [hmlt]⟩
      obtain ⟨v1, v2, v3⟩ := v
      have hpsz := hsz k o ho _ (List.mem_of_getElem? hLm)
      obtain ⟨q1, q2, q3, q4⟩ := hpsz
      simp only at q1 q2 q3 q4
      have hgp := getP_get (h.ok.keys k o ho) hLm
      have hkV : keyV o.L (m : Int) = .tuple #[.string x, .bool true] := by
        unfold keyV
        rw [if_pos (by omega), Int.toNat_natCast, List.getD_eq_getElem?_getD, hLm]; rfl
      simp -implicitDefEqProofs only [↓Zd, (Zp), if_true, if_false, ne_eq, implies_true, forall_const, Nat.reduceEqDiff, reduceIte, reduceCtorEq, Int.reduceEq, Int.reduceNeg, Int.reduceLE, Int.reduceLT, Nat.reduceAdd, Nat.reduceLeDiff, Int.reduceToNat, Nat.reduceMul, Nat.reduceBEq, okPart, Value.cells, cut, okCell, cld2, (HEx), vA, f0, f3, f4, f28, e29, hml2, co50]
      refine hkey_spec (i := ((k + 1 : Nat) : Int)) (k := (m : Int)) (h.le hB6.le) hN (by omega) (by omega) fun s7 hs7 => ?_
      rw [hat]
      simp only [hkV]
      have hB7 := hB6.go hs7
      simp -implicitDefEqProofs only [↓Zd, (Zp), if_true, if_false, ne_eq, implies_true, forall_const, Nat.reduceEqDiff, reduceIte, reduceCtorEq, Int.reduceEq, Int.reduceNeg, Int.reduceLE, Int.reduceLT, Nat.reduceAdd, Nat.reduceLeDiff, Int.reduceToNat, Nat.reduceMul, Nat.reduceBEq, okPart, Value.cells, cut, okCell, cld2, (HEx), vA, f0, f3, f4, co51]
      refine hown_spec (i := ((k + 1 : Nat) : Int)) (h.le hB7.le) (by omega) fun s8 hs8 => ?_
      rw [hat]
      simp only [Option.bind_some, hgp, gotV, vOf]
      have hB8 := hB7.go hs8
      have hw1 : (⟨#[32]⟩ : ByteArray).size + x.size ≤ 9223372036854775807 := by show 1 + _ ≤ _; omega
      have hw2 : ((⟨#[32]⟩ : ByteArray) ++ x).size + (⟨#[58]⟩ : ByteArray).size ≤ 9223372036854775807 := by rw [ByteArray.size_append]; show 1 + _ + 1 ≤ _; omega
      have hpl1 := printV_len (k := v1) (n := v2) (x := v3) ⟨q3, q4⟩
      have hw3 : ((⟨#[32]⟩ : ByteArray) ++ x ++ (⟨#[58]⟩ : ByteArray)).size + (printV v1 v2 v3).size ≤ 9223372036854775807 := by rw [ByteArray.size_append, ByteArray.size_append]; show 1 + _ + 1 + _ ≤ _; omega
      simp -implicitDefEqProofs only [↓Zd, (Zp), if_true, if_false, ne_eq, implies_true, forall_const, Nat.reduceEqDiff, reduceIte, reduceCtorEq, Int.reduceEq, Int.reduceNeg, Int.reduceLE, Int.reduceLT, Nat.reduceAdd, Nat.reduceLeDiff, Int.reduceToNat, Nat.reduceMul, Nat.reduceBEq, okPart, Value.cells, cut, okCell, cld2, (HEx), vA, f0, f3, f4, hw1, hw2, co52]
      have hB9 := hB8.go (s' := (s8.new (.cells [.int .i64 0, .int .i64 0, .string ⟨#[]⟩] 37 true)).put s8.next (.cells [.int .i64 v1, .int .i64 v2, .string v3] 37 true)) (St.le_put (St.le_new (St.le_refl _)) (Nat.le_refl _))
      have hpr := print_spec (w0 := w0) (k := v1) (n := v2) (x := v3) (s := (s8.new (.cells [.int .i64 0, .int .i64 0, .string ⟨#[]⟩] 37 true)).put s8.next (.cells [.int .i64 v1, .int .i64 v2, .string v3] 37 true)) ⟨q3, q4⟩ q2 (R := fun v s' => v = .string (printV v1 v2 v3) ∧ BAt s s' s.next (linesL H k ++ (headB k o.proto).data.toList ++ propsL (o.L.take m))) (fun s' hs' => ⟨rfl, hB9.go hs'⟩)
      unfold vA at hpr
      refine CCalls.mono hpr fun v s9 hv => ?_
      obtain ⟨rfl, hB10⟩ := hv
      simp -implicitDefEqProofs only [↓Zd, (Zp), if_true, if_false, ne_eq, implies_true, forall_const, Nat.reduceEqDiff, reduceIte, reduceCtorEq, Int.reduceEq, Int.reduceNeg, Int.reduceLE, Int.reduceLT, Nat.reduceAdd, Nat.reduceLeDiff, Int.reduceToNat, Nat.reduceMul, Nat.reduceBEq, okPart, Value.cells, cut, okCell, cld2, (HEx), vA, f0, f3, f4, hw3, co46]
      have hpb : (⟨#[32]⟩ : ByteArray) ++ x ++ (⟨#[58]⟩ : ByteArray) ++ printV v1 v2 v3 = propB (x, v1, v2, v3) := rfl
      rw [hpb]
      have hpbl := propB_len (p := (x, v1, v2, v3)) ⟨q1, q2, q3, q4⟩
      refine writeString_spec hB10 (by omega) (by rw [← hpb]; simp only [ba_list_append]; simp) (by omega) fun s11 hB11 => ?_
      have w1 : IntKind.i64.wrap ((m : Int) + 1) = ((m + 1 : Nat) : Int) := by rw [wrap_i64 (by omega)]; omega
      simp -implicitDefEqProofs only [↓Zd, (Zp), if_true, if_false, ne_eq, implies_true, forall_const, Nat.reduceEqDiff, reduceIte, reduceCtorEq, Int.reduceEq, Int.reduceNeg, Int.reduceLE, Int.reduceLT, Nat.reduceAdd, Nat.reduceLeDiff, Int.reduceToNat, Nat.reduceMul, Nat.reduceBEq, okPart, Value.cells, cut, okCell, cld2, (HEx), vA, underlying116, sz116, is116, ce116, ag116, e29, w1]
      refine ⟨by repeat (first | exact hFx2 | refine Fix.upd (by decide) ?_), o.L.length - (m + 1), by omega, m + 1, rfl, by omega, rfl, ?_⟩
      have e : propsL (o.L.take (m + 1)) = propsL (o.L.take m) ++ (propB (x, v1, v2, v3)).data.toList := by
        rw [List.take_add_one, hLm]
        show (o.L.take m ++ [_]).flatMap _ = _
        rw [List.flatMap_append]
        simp [propsL]
      rw [e, ← List.append_assoc]
      exact hB11
    · have : m = o.L.length := by omega
      subst this
      rw [List.take_length] at hB6 hlen6
      have w1 : IntKind.i64.wrap (((k + 1 : Nat) : Int) + 1) = ((k + 1 + 1 : Nat) : Int) := by rw [wrap_i64 (by omega)]; omega
      simp -implicitDefEqProofs only [↓Zd, (Zp), if_true, if_false, ne_eq, implies_true, forall_const, Nat.reduceEqDiff, reduceIte, reduceCtorEq, Int.reduceEq, Int.reduceNeg, Int.reduceLE, Int.reduceLT, Nat.reduceAdd, Nat.reduceLeDiff, Int.reduceToNat, Nat.reduceMul, Nat.reduceBEq, okPart, Value.cells, cut, okCell, cld2, (HEx), vA, f0, f3, f4, f28, e29, hml2, co53]
      refine writeByte_spec (c := 10) hB6 (by omega) fun s7 hB7 => ?_
      simp -implicitDefEqProofs only [↓Zd, (Zp), if_true, if_false, ne_eq, implies_true, forall_const, Nat.reduceEqDiff, reduceIte, reduceCtorEq, Int.reduceEq, Int.reduceNeg, Int.reduceLE, Int.reduceLT, Nat.reduceAdd, Nat.reduceLeDiff, Int.reduceToNat, Nat.reduceMul, Nat.reduceBEq, okPart, Value.cells, cut, okCell, cld2, (HEx), vA, underlying115, sz115, is115, ce115, ag115, ze115, f4, w1]
      refine ⟨?_, H.obs.length - (k + 1), by omega, k + 1, rfl, by omega, rfl, ?_⟩
      · repeat (first | exact (Fix.trans (by repeat (first | exact hFx | refine Fix.upd (by decide) ?_)) (Fix.sub hFx2 (by intro t ht; simp only [List.contains_cons, List.contains_nil, Bool.or_false, Bool.or_eq_false_iff] at ht ⊢; simp only [ht, and_self]))) | refine Fix.upd (by decide) ?_)
      · have e : linesL H k ++ (headB k o.proto).data.toList ++ propsL o.L ++ [10] = linesL H (k + 1) := by
          rw [linesL_succ]
          unfold lineL
          rw [ho]
          simp only [List.append_assoc]
        rw [← e]
        exact hB7
  · have hnle : ¬ ((k + 1 : Nat) : Int) ≤ (H.obs.length : Int) := by omega
    have : k = H.obs.length := by omega
    subst this
    simp -implicitDefEqProofs only [↓Zd, (Zp), if_true, if_false, ne_eq, implies_true, forall_const, Nat.reduceEqDiff, reduceIte, reduceCtorEq, Int.reduceEq, Int.reduceNeg, Int.reduceLE, Int.reduceLT, Nat.reduceAdd, Nat.reduceLeDiff, Int.reduceToNat, Nat.reduceMul, Nat.reduceBEq, okPart, Value.cells, cut, okCell, cld2, (HEx), vA, e3, hnle, co54]
    refine string_spec hB (by omega) fun s2 hs2 => ?_
    simp -implicitDefEqProofs only [↓Zd, (Zp), if_true, if_false, ne_eq, implies_true, forall_const, Nat.reduceEqDiff, reduceIte, reduceCtorEq, Int.reduceEq, Int.reduceNeg, Int.reduceLE, Int.reduceLT, Nat.reduceAdd, Nat.reduceLeDiff, Int.reduceToNat, Nat.reduceMul, Nat.reduceBEq, okPart, Value.cells, cut, okCell, cld2, (HEx), vA]
    exact hR _ hs2
end
end Go.Proofs.Try
