/- Sites beside heaps: what all laws on them need. A lemma file: no statement of its own. -/
import Derived.Test.YtnkichmojbanlaaGreatqFwF
import Derived.Test.YtnkichmojbanlaaGreatqST12
import Derived.Test.YtnkichmojbanlaaGreatqHTw
import Derived.Test.YtnkichmojbanlaaGreatqRowA17
import Derived.Test.YtnkichmojbanlaaGreatqVEq
import Derived.Test.YtnkichmojbanlaaGreatqSite0
import Derived.Test.YtnkichmojbanlaaGreatqW17
set_option linter.unusedSimpArgs false
set_option linter.unusedVariables false
set_option linter.unusedSectionVars false
namespace Go.Proofs.Tryz
open Go.Cs
open Go.RowKit (Below)
set_option maxRecDepth 100000
attribute [local irreducible] CCalls WLoop WScope CRound WRange
theorem rowSites : crow Tryz.prog 31 3 #[(0, .int .i64 3), (1, .int .i64 2), (2, .int .i64 (-1))] = some (.cells [.int .i64 3, .int .i64 2, .int .i64 (-1)] 3 true) := by kernel_rfl
theorem mks3 : cmks Tryz.prog 85 (.int .i64 3) (.int .i64 3) = some (.cells (rows (fun _ => sitC s0 (.slice none 0 0)) 3) 96 true, fun b => .slice (some ⟨b, 0, none⟩) 3 3) := by kernel_rfl
theorem mks2 : cmks Tryz.prog 85 (.int .i64 2) (.int .i64 2) = some (.cells (rows (fun _ => sitC s0 (.slice none 0 0)) 2) 96 true, fun b => .slice (some ⟨b, 0, none⟩) 2 2) := by kernel_rfl
theorem mks0 : cmks Tryz.prog 85 (.int .i64 0) (.int .i64 0) = some (.cells (rows (fun _ => sitC s0 (.slice none 0 0)) 0) 96 true, fun b => .slice (some ⟨b, 0, none⟩) 0 0) := by kernel_rfl
theorem newT_ok (H : Hp) (L : List Int) : TabOk H (newT L) := fun a b _ _ => s0_ok H false
section
variable {M : Type} [Mem M] {w0 : World} {s : St M} {R : Value → St M → Prop}
theorem sites_spec (hR : R (.slice (some ⟨s.next, 0, none⟩) 3 3) (s.new (.cells [.int .i64 3, .int .i64 2, .int .i64 (-1)] 3 true))) : CCalls Tryz.prog w0 9 #[] s R := by
  refine wfun2 hmix ok9 (l := []) func9 rfl ntmps9 results9 (by simp) ?_
  simp -implicitDefEqProofs only [↓Zd, (Zp), if_true, if_false, reduceCtorEq, Int.reduceNeg, rowSites]
  exact hR
theorem snew3_spec {lb : Nat} (hL : s.at' lb = some (.cells [.int .i64 3, .int .i64 2, .int .i64 (-1)] 3 true)) (hlbn : lb < s.next) (hR : ∀ s' t O, STab PY s.next s' t (newT [3, 2, -1]) 0 O → s.le s' → R (.pointer (some ⟨t, 0, none⟩)) s') : CCalls Tryz.prog w0 8 #[.slice (some ⟨lb, 0, none⟩) 3 3] s R := by
  refine snew_spec (L := [3, 2, -1]) (lc := 3) hL hlbn (by decide) (by decide) (fun i hi => ?_) hR
  match i, hi with
  | 0, _ => exact mks3
  | 1, _ => exact mks2
  | 2, _ => exact mks0
structure HideAt (n0 : Nat) (s0 s : St M) (p1 p2 t : Nat) (H G : Hp) (T : Tab) (N k : Nat) (O1 O2 O3 : Nat → Prop) : Prop where
  two : TwoAt n0 s0 s p1 p2 H G N O1 O2
  tab : STab PY n0 s t T k O3
  d13 : ∀ b, O1 b → ¬ O3 b
  d23 : ∀ b, O2 b → ¬ O3 b
  ok : TabOk H T
  fs : 0 < T.fs
variable {n0 p1 p2 t N k : Nat} {s0 : St M} {H G : Hp} {T : Tab} {O1 O2 O3 : Nat → Prop}
theorem HideAt.le {s' : St M} (h : HideAt n0 s0 s p1 p2 t H G T N k O1 O2 O3) (hs : s.le s') : HideAt n0 s0 s' p1 p2 t H G T N k O1 O2 O3 := ⟨h.two.le hs, h.tab.le hs, h.d13, h.d23, h.ok, h.fs⟩
theorem TwoAt.mono {N' : Nat} (h : TwoAt n0 s0 s p1 p2 H G N O1 O2) (hN : N ≤ N') : TwoAt n0 s0 s p1 p2 H G N' O1 O2 := ⟨h.one.mono hN, h.two.mono hN, h.apart, h.lo, h.old, h.sim, h.sz⟩
theorem HideAt.mono {N' k' : Nat} (h : HideAt n0 s0 s p1 p2 t H G T N k O1 O2 O3) (hN : N ≤ N') (hk : k ≤ k') : HideAt n0 s0 s p1 p2 t H G T N' k' O1 O2 O3 := ⟨h.two.mono hN, h.tab.mono hk, h.d13, h.d23, h.ok, h.fs⟩
theorem HideAt.step {s1 s2 : St M} {H' G' : Hp} {N' : Nat} {P1 P2 : Nat → Prop} (h : HideAt n0 s0 s p1 p2 t H G T N k O1 O2 O3) (h1 : HpAt n0 s1 p1 H' N' P1) (hU1 : Upd s s1 O1 P1) (h2 : HpAt n0 s2 p2 G' N' P2) (hU2 : Upd s1 s2 O2 P2) (hsim : Sim H' G') (hsz : HSz 1000000 H') (hg : Grows H H') :
    HideAt n0 s0 s2 p1 p2 t H' G' T N' k P1 P2 O3 := by
  obtain ⟨a1, b1⟩ := h.tab.other hU1 h.d13
  obtain ⟨a2, b2⟩ := a1.other hU2 h.d23
  exact ⟨h.two.step h1 hU1 h2 hU2 hsim hsz, a2, b1, b2, h.ok.grows h.two.one.ok h1.ok hg, h.fs⟩
theorem HideAt.table {s1 : St M} {T' : Tab} {k' : Nat} {P3 : Nat → Prop} (h : HideAt n0 s0 s p1 p2 t H G T N k O1 O2 O3) (h1 : STab PY n0 s1 t T' k' P3) (hU1 : Upd s s1 O3 P3) (hok : TabOk H T') (hfs : T'.fs = T.fs) :
    HideAt n0 s0 s1 p1 p2 t H G T' N k' O1 O2 P3 := by
  obtain ⟨g1, e1⟩ := h.two.one.other hU1 (fun b h1 h2 => h.d13 b h2 h1)
  obtain ⟨g2, e2⟩ := h.two.two.other hU1 (fun b h1 h2 => h.d23 b h2 h1)
  have hn := hU1.next
  have hlo := h.two.lo
  refine ⟨⟨g1, g2, h.two.apart, by omega, fun c hc => ?_, h.two.sim, h.two.sz⟩, h1, fun b hb hb3 => e1 b hb3 hb, fun b hb hb3 => e2 b hb3 hb, hok, by rw [hfs]; exact h.fs⟩
  rw [hU1.keep c (by omega) (fun hb => by have := (h.tab.own c hb).1; omega)]
  exact h.two.old c hc
theorem HideAt.all {s1 s2 : St M} {H' G' : Hp} {T' : Tab} {N' k' : Nat} {P1 P2 P3 : Nat → Prop} (h : HideAt n0 s0 s p1 p2 t H G T N k O1 O2 O3) (h1 : HpAt n0 s1 p1 H' N' P1) (h3 : STab PY n0 s1 t T' k' P3) (hd : ∀ b, P1 b → ¬ P3 b) (hn : s.next ≤ s1.next) (hk : ∀ b, b < s.next → ¬ O1 b → ¬ O3 b → s1.at' b = s.at' b) (ho1 : ∀ b, P1 b → O1 b ∨ s.next ≤ b) (ho3 : ∀ b, P3 b → O3 b ∨ s.next ≤ b)
    (h2 : HpAt n0 s2 p2 G' N' P2) (hU2 : Upd s1 s2 O2 P2) (hsim : Sim H' G') (hsz : HSz 1000000 H') (hok : TabOk H' T') (hfs : T'.fs = T.fs) :
    HideAt n0 s0 s2 p1 p2 t H' G' T' N' k' P1 P2 P3 := by
  have d12 : ∀ b, O2 b → ¬ P1 b := fun b hb h4 => by
    rcases ho1 b h4 with h5 | h5
    · exact h.two.apart b h5 hb
    · have := (h.two.two.own b hb).2; omega
  have d32 : ∀ b, O2 b → ¬ P3 b := fun b hb h4 => by
    rcases ho3 b h4 with h5 | h5
    · exact h.d23 b hb h5
    · have := (h.two.two.own b hb).2; omega
  obtain ⟨g1, e1⟩ := h1.other hU2 d12
  obtain ⟨g3, e3⟩ := h3.other hU2 d32
  have hn2 := hU2.next
  have hlo := h.two.lo
  refine ⟨⟨g1, h2, fun b hb hb2 => e1 b hb2 hb, by omega, fun c hc => ?_, hsim, hsz⟩, g3, hd, e3, hok, by rw [hfs]; exact h.fs⟩
  rw [hU2.keep c (by omega) (fun hb => by have := (h.two.two.own c hb).1; omega), hk c (by omega) (fun hb => by have := (h.two.one.own c hb).1; omega) (fun hb => by have := (h.tab.own c hb).1; omega)]
  exact h.two.old c hc
end
end Go.Proofs.Tryz
