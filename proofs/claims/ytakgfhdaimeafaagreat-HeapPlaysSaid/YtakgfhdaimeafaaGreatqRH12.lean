/- The document's heaps: the walk of Make. A lemma file: no statement of its own. -/
import Derived.Test.YtakgfhdaimeafaaGreatqFwF
import Derived.Test.YtakgfhdaimeafaaGreatqRH11
set_option linter.unusedSimpArgs false
set_option linter.unusedVariables false
set_option linter.unusedSectionVars false
namespace Go.Proofs.Tryz
open Go.Cs
open Go.RowKit (Below)
set_option maxRecDepth 100000
attribute [local irreducible] CCalls WLoop WScope CRound WRange
theorem rowRPtr (a : Option Addr) : crow Tryz.prog 74 1 #[(0, .pointer a)] = some (.cells [.pointer a] 107 true) := by kernel_rfl
theorem infoRPtr : ∃ ie, Tryz.prog.info? 107 = some ie ∧ ie.size = 1 ∧ 0 < ie.bytes ∧ ie.bytes ≤ 100 := by
  obtain ⟨ie, h⟩ := Option.isSome_iff_exists.1 is107
  have h1 := ce107
  have h2 : decide (0 < Tryz.prog.bytesOf 107 ∧ Tryz.prog.bytesOf 107 ≤ 100) = true := by kernel_rfl
  rw [cellsOf_info h] at h1
  simp only [Program.bytesOf, h, decide_eq_true_eq] at h2
  exact ⟨ie, h, h1, h2.1, h2.2⟩
section
variable {M : Type} [Mem M] {w0 : World} {s : St M} {R : Value → St M → Prop} {lo p N : Nat} {H : Hp} {O : Nat → Prop}
theorem wch_app_rptr {s : St M} {sl : Value} {l : List Nat} {a : Nat} {K : Value → St M → Prop} (hlen : l.length ≤ 1000000) (hsl : SlU 107 1 s sl (ptrs l) l.length) (hfr : ∀ q m c, sl = .slice (some q) m c → q.block < s.next)
    (h : ∀ s', s'.next = s.next + 2 → s'.at' (s.next + 1) = some (.cells (ptrs (l ++ [a])) 107 true) → (∀ b, b < s.next → (∀ q n c, sl = .slice (some q) n c → b ≠ q.block) → s'.at' b = s.at' b) → K (.slice (some ⟨s.next + 1, 0, none⟩) (l.length + 1) UNK) s') :
    wch (capp Tryz.prog #[74, 74] #[sl, .slice (some ⟨s.next, 0, none⟩) 1 1] (s.new (.cells [.pointer (some ⟨a, 0, none⟩)] 107 true))) K := by
  obtain ⟨ie, hie, h1, h2, h3⟩ := infoRPtr
  have hcapp : capp Tryz.prog #[74, 74] #[sl, .slice (some ⟨s.next, 0, none⟩) 1 1] (s.new (.cells [.pointer (some ⟨a, 0, none⟩)] 107 true)) = capp3 Tryz.prog 107 ie sl (s.new (.cells [.pointer (some ⟨a, 0, none⟩)] 107 true)) (cmore ie.size (.slice (some ⟨s.next, 0, none⟩) 1 1) (s.new (.cells [.pointer (some ⟨a, 0, none⟩)] 107 true))) :=
    app_eq underlying74 underlying74 hie
  have hv : cmore ie.size (.slice (some ⟨s.next, 0, none⟩) 1 1) (s.new (.cells [.pointer (some ⟨a, 0, none⟩)] 107 true)) = some (1, [.pointer (some ⟨a, 0, none⟩)]) := by
    simp only [more_at, St.at_new, if_true, more2, h1]; rfl
  obtain ⟨s', h3, h4, h5, h6⟩ := app_rowU (n := l.length) (k := 1) hie ze107 (by rw [h1]; rfl) h2 hcapp (by omega) (by
    have : (l.length + 1) * ie.bytes ≤ 1000001 * 100 := Nat.mul_le_mul (by omega) h3
    omega) rfl hv (by rw [h1]; exact hsl.same fun q m c e => by rw [St.at_new, if_neg (by have := hfr q m c e; omega)])
  refine ⟨_, s', h3, h s' (by simp at h4; omega) (by simpa [ptrs] using h5) fun b hb hq => ?_⟩
  rw [h6 b (by simp; omega) hq, St.at_new, if_neg (by omega)]
open Classical in
theorem RHpIn.addO {s' : St M} {tg : Nat → Nat} {pf b r : Nat} {sl sl' tl : Value} {bs : List Nat} {o' : Ob} {OO : Nat → Prop} (h : RHpIn lo s p H N O tg pf sl tl bs) (hn : s.next ≤ s'.next) (hk : ∀ c, O c → tg c ≠ 0 → s'.at' c = s.at' c)
    (hp : s'.at' p = some (.cells [sl', .int .i64 (H.maxO : Int), .int .i64 (H.maxP : Int), .pointer (some ⟨pf, 0, none⟩), tl] 78 true)) (hsl : SlU 107 1 s' sl' (ptrs (bs ++ [b])) (bs ++ [b]).length) (hr : ∀ q n c, sl' = .slice (some q) n c → q.block = r)
    (hr1 : ¬ O r ∧ lo ≤ r ∧ r < s'.next) (hOO : ∀ c, OO c → ¬ O c ∧ c ≠ r) (hB : RObAt lo s' N b o' OO) (hok : HOk { H with obs := H.obs ++ [o'] }) :
    RHpIn lo s' p { H with obs := H.obs ++ [o'] } N (fun c => (O c ∧ tg c ≠ bs.length + 3) ∨ OO c ∨ c = r) (fun c => if OO c then bs.length + 3 else if c = r then 0 else tg c) pf sl' tl (bs ++ [b]) := by
  have hrp : r ≠ p := fun e => hr1.1 (e ▸ h.pin.1)
  have hold : ∀ k, k ≠ bs.length + 3 → k ≠ 0 → (fun c => ((O c ∧ tg c ≠ bs.length + 3) ∨ OO c ∨ c = r) ∧ (if OO c then bs.length + 3 else if c = r then 0 else tg c) = k) = fun c => O c ∧ tg c = k := by
    intro k hk1 hk2
    funext c
    apply propext
    by_cases h1 : OO c
    · simp only [h1, if_true, true_or, or_true, true_and]
      exact ⟨fun e => absurd e.symm hk1, fun e => absurd e.1 (hOO c h1).1⟩
    · by_cases h2 : c = r
      · subst h2
        simp only [h1, if_false, if_true, or_true, true_and]
        exact ⟨fun e => absurd e.symm hk2, fun e => absurd e.1 hr1.1⟩
      · simp only [h1, h2, if_false, or_false]
        exact ⟨fun ⟨⟨a, _⟩, b⟩ => ⟨a, b⟩, fun ⟨a, b⟩ => ⟨⟨a, by omega⟩, b⟩⟩
  have hnew : (fun c => ((O c ∧ tg c ≠ bs.length + 3) ∨ OO c ∨ c = r) ∧ (if OO c then bs.length + 3 else if c = r then 0 else tg c) = bs.length + 3) = OO := by
    funext c
    apply propext
    by_cases h1 : OO c
    · simp [h1]
    · by_cases h2 : c = r
      · subst h2
        simp [h1]
      · simp only [h1, h2, if_false, or_false, iff_false]
        exact fun ⟨⟨_, a⟩, b⟩ => a b
  have hpO : ¬ OO p := fun hc => (hOO p hc).1 h.pin.1
  refine ⟨fun c hc => ?_, hok, h.tn, ⟨.inl ⟨h.pin.1, by rw [h.pin.2]; omega⟩, ?_⟩, hp, hsl, fun q n c e => ?_, ?_, h.ta.same fun q n c e => ?_, fun q n c e => ?_, by simp [h.len], fun i b' o h1 h2 => ?_⟩
  · rcases hc with ⟨hc, _⟩ | hc | rfl
    · have := h.own c hc; omega
    · exact hB.own c hc
    · exact hr1.2
  · rw [if_neg hpO, if_neg (fun e => hrp e.symm)]; exact h.pin.2
  · have := hr q n c e
    rw [this]
    exact ⟨.inr (.inr rfl), by rw [if_neg (fun hc => (hOO r hc).2 rfl), if_pos rfl], hrp⟩
  · rw [hold 1 (by omega) (by omega)]
    exact h.fo.same hn fun c hc => hk c hc.1 (by rw [hc.2]; omega)
  · have := h.taO q n c e
    exact hk _ this.1 (by rw [this.2]; omega)
  · have h3 := congrFun (hold 2 (by omega) (by omega)) q.block
    exact h3.mpr (h.taO q n c e)
  · by_cases hi : i < bs.length
    · rw [List.getElem?_append_left hi] at h1
      rw [List.getElem?_append_left (by rw [← h.len]; exact hi)] at h2
      rw [hold (i + 3) (by omega) (by omega)]
      exact (h.obj i b' o h1 h2).same hn fun c hc => hk c hc.1 (by rw [hc.2]; omega)
    · have h0 : i = bs.length := by
        have := (List.getElem?_eq_some_iff.1 h1).1
        simp at this; omega
      subst h0
      rw [List.getElem?_append_right (Nat.le_refl _)] at h1
      rw [List.getElem?_append_right (by rw [← h.len]; exact Nat.le_refl _), ← h.len] at h2
      simp at h1 h2
      subst h1 h2
      rw [hnew]; exact hB
set_option maxHeartbeats 8000000 in
theorem rmake_spec (h : RHpAt lo s p H N O) (hlo : lo ≤ s.next) (hR : ∀ s' O', RHpAt lo s' p (makeH H) N O' → Upd s s' O O' → R (makeV H) s') : CCalls Tryz.prog w0 30 #[.pointer (some ⟨p, 0, none⟩)] s R := by
  refine wfun2 hmix ok30 (l := [.pointer (some ⟨p, 0, none⟩)]) func30 rfl ntmps30 results30 (by simp) ?_
  obtain ⟨hpro, tg, pf, sl, tl, bs, h⟩ := h
  have hhb := h.bl
  have hlim := h.ok.lim
  have hlen := h.len
  obtain ⟨an, cn, rfl⟩ : ∃ a c, sl = .slice a bs.length c := by
    rcases h.row with ⟨e1, _, rfl⟩ | ⟨b2, junk, rfl, _⟩
    · exact ⟨none, 0, by rw [e1]⟩
    · exact ⟨_, _, rfl⟩
  by_cases hmx : (H.maxO : Int) ≤ (bs.length : Int)
  · have e1 : makeH H = H := by unfold makeH; rw [if_pos (by omega)]
    have e2 : makeV H = .tuple #[.int .i64 0, .int .i64 40] := by unfold makeV; rw [if_pos (by omega)]
    rw [e1, e2] at hR
    simp -implicitDefEqProofs only [↓Zd, (Zp), if_true, if_false, Nat.reduceEqDiff, reduceCtorEq, cld2, (HEx), (REx), hhb, hmx, ord30]
    exact hR _ _ ⟨hpro, tg, pf, _, tl, bs, h⟩ .refl
  · have e1 : makeH H = { H with obs := H.obs ++ [{ L := [], shape := growN H.F H.most (0, []), proto := 0, epoch := 0 }], F := growF H.F H.most (0, []) } := by unfold makeH; rw [if_neg (by omega)]
    have e2 : makeV H = .tuple #[.int .i64 ((bs.length + 1 : Nat) : Int), .int .i64 0] := by unfold makeV; rw [if_neg (by omega), hlen]
    have hok := make_ok h.ok
    have hpr := make_pro hpro
    rw [e1] at hok hpr
    rw [e1, e2] at hR
    have hbo : ∀ (v : Int), cbuild Tryz.prog 106 #[(3, .int .i64 v)] = some (.agg #[.int .i64 0, .slice none 0 0, .slice none 0 0, .int .i64 0, .int .i64 v]) := fun v => by kernel_rfl
    simp -implicitDefEqProofs only [↓Zd, (Zp), if_true, if_false, Nat.reduceEqDiff, reduceCtorEq, cld2, (HEx), (REx), hhb, hmx, ord30, co74]
    refine rroot_spec (q := 0) h.fo hlo fun s3 O3 hF3 hU3 _ => ?_
    have hn3 := hU3.next
    have hokF : HOk { H with F := growF H.F H.most (0, []) } := h.ok.more (F' := growF H.F H.most (0, [])) (T' := H.T) (fun j t ht => growF_get ht) (fun _ _ _ => rfl) (Nat.le_refl _) h.ok.nodup (fun j t ht y hy => by
      rcases growF_mem ht with h1 | rfl
      · exact h.ok.ids j t h1 y hy
      · cases hy)
    have h3 := h.newF hU3 hF3 hokF
    have hU3' := re_upd hU3
    have hhb3 := h3.bl
    generalize hO4 : reO O tg 1 O3 = O4 at h3 hU3'
    generalize hT4 : reT tg 1 O3 = tg4 at h3
    have hpO4 := h3.pin.1
    have hpn3 := (h3.own p hpO4).2
    have hpne3 : ¬ p = s3.next := by omega
    have hfr3 : ∀ q m c, Value.slice an bs.length cn = .slice (some q) m c → q.block < s3.next := fun q m c e => (h3.own _ (h3.rowO q m c e).1).2
    simp -implicitDefEqProofs only [↓Zd, (Zp), if_true, if_false, Nat.reduceEqDiff, Nat.reduceBEq, okPart, Value.cells, cld2, (HEx), (REx), hhb3, hbo, rowRPtr]
    have l4 : s3.le (s3.new (.cells [.int .i64 0, .slice none 0 0, .slice none 0 0, .int .i64 0, .int .i64 ((growN H.F H.most (0, []) : Nat) : Int)] 106 true)) := St.le_new (St.le_refl _)
    refine wch_app_rptr (l := bs) (a := s3.next) (by omega) (h3.row.same fun q n c e => l4.2 _ (hfr3 q n c e)) (fun q m c e => by have := hfr3 q m c e; simp only [St.next_new]; omega) fun s5 hn5 hb5 hk5 => ?_
    simp only [St.next_new] at hn5 hb5 hk5
    have hold : ∀ c, c < s3.next → (∀ q m k, Value.slice an bs.length cn = .slice (some q) m k → c ≠ q.block) → s5.at' c = s3.at' c := fun c hc hq => by rw [hk5 c (by omega) hq, St.at_new, if_neg (by omega)]
    have hp5 : s5.at' p = some (.cells [.slice an bs.length cn, .int .i64 (H.maxO : Int), .int .i64 (H.maxP : Int), .pointer (some ⟨pf, 0, none⟩), tl] 78 true) := by
      rw [hold p hpn3 (fun q m c e e2 => (h3.rowO q m c e).2.2 e2.symm)]; exact hhb3
    simp -implicitDefEqProofs only [↓Zd, (Zp), if_true, if_false, Nat.reduceEqDiff, reduceCtorEq, Nat.reduceAdd, Nat.reduceLeDiff, Nat.reduceBEq, okPart, Value.cells, okCell, cld2, (REx), hp5]
    have hB : RObAt lo (s5.put p (.cells [.slice (some ⟨s3.next + 1 + 1, 0, none⟩) (bs.length + 1) UNK, .int .i64 (H.maxO : Int), .int .i64 (H.maxP : Int), .pointer (some ⟨pf, 0, none⟩), tl] 78 true)) N s3.next { L := [], shape := growN H.F H.most (0, []), proto := 0, epoch := 0 } (fun c => c = s3.next) := by
      refine ⟨?_, rfl, Nat.zero_le _, .slice none 0 0, .slice none 0 0, ⟨?_, .inl ⟨rfl, rfl, rfl⟩, .inl ⟨rfl, rfl, rfl⟩, Nat.zero_le _⟩, ⟨?_, (fun q n c e => by cases e), (fun q n c e => by cases e), (fun q n c q' n' c' e => by cases e)⟩, ?_⟩
      · rintro c rfl
        simp only [St.next_put]; omega
      · rw [St.at_put, if_neg (fun e => hpne3 e.symm), hk5 _ (by omega) (fun q m c e e2 => by have := hfr3 q m c e; omega), St.at_new, if_pos rfl]; rfl
      · simp only [St.next_put]; omega
      · rintro c (rfl | ⟨q, n, k, e, _⟩ | ⟨q, n, k, e, _⟩)
        · rfl
        · cases e
        · cases e
    have h6 := h3.addO (r := s3.next + 1 + 1) (b := s3.next) (by simp only [St.next_put]; omega) (fun c hc hct => by
        rw [St.at_put, if_neg (fun e => hct (by rw [e]; exact h3.pin.2)), hold c (h3.own c hc).2 (fun q m k e e2 => hct (by rw [e2]; exact (h3.rowO q m k e).2.1))]) (by rw [St.at_put, if_pos rfl]) (.inr ⟨s3.next + 1 + 1, [], by simp, by rw [St.at_put, if_neg (by omega), List.append_nil]; exact hb5, by rw [ptrs_len, Nat.mul_one]⟩) (fun q n c e => by cases e; rfl) ⟨fun hc => by have := (h3.own _ hc).2; omega, by omega, by simp only [St.next_put]; omega⟩ (fun c hc => by
        subst hc
        exact ⟨fun hc => by have := (h3.own _ hc).2; omega, by omega⟩) hB hok
    refine hR _ _ ⟨hpr, _, _, _, _, _, h6⟩ ⟨by simp only [St.next_put]; omega, fun c hc hno => ?_, fun c hc => ?_⟩
    · have hno4 : ¬ O4 c := fun h4 => by
        rcases hU3'.own c h4 with g | g
        · exact hno g
        · omega
      rw [St.at_put, if_neg (fun e : c = p => hno4 (e ▸ hpO4)), hold c (by omega) (fun q m k e e2 => hno4 (by rw [e2]; exact (h3.rowO q m k e).1))]
      exact hU3'.keep c hc hno
    · rcases hc with ⟨hc, _⟩ | rfl | rfl
      · exact hU3'.own c hc
      · exact .inr (by omega)
      · exact .inr (by omega)
end
end Go.Proofs.Tryz
