/- Two heaps that differ in shapes alone, side by side. A lemma file: no statement of its own. -/
import Derived.Test.YtnkichmojbanlaaqHH0
set_option linter.unusedSimpArgs false
set_option linter.unusedVariables false
set_option linter.unusedSectionVars false
namespace Go.Proofs.Try
open Go.Cs
open Go.RowKit (Below)
set_option maxRecDepth 100000
section
variable {M : Type} [Mem M] {w0 : World} {s : St M} {R : Value → St M → Prop} {lo p N : Nat} {H : Hp} {O : Nat → Prop}
theorem ObAt.low {lo lo' b : Nat} {o : Ob} {O : Nat → Prop} (h : ObAt lo s N b o O) (hl : lo' ≤ lo) : ObAt lo' s N b o O := by
  obtain ⟨h1, h2, h3, h4⟩ := h
  refine ⟨fun c hc => ⟨by have := (h1 c hc).1; omega, (h1 c hc).2⟩, h2, h3, ?_⟩
  rcases h4 with ⟨h5, pd, OD, h6, h7, h8⟩ | h4
  · exact .inl ⟨h5, pd, OD, h6, h7.low hl, h8⟩
  · exact .inr h4
theorem HpAt.low {lo lo' : Nat} (h : HpAt lo s p H N O) (hl : lo' ≤ lo) : HpAt lo' s p H N O := by
  obtain ⟨hp, tg, pf, pn, sl, bs, h⟩ := h
  exact ⟨hp, tg, pf, pn, sl, bs, fun b hb => ⟨by have := (h.own b hb).1; omega, (h.own b hb).2⟩, h.ok, h.tn, h.pin, h.bl, h.row, h.rowO, h.fo.low hl, h.ta.low hl, h.len, fun i b o h1 h2 => (h.obj i b o h1 h2).low hl⟩
theorem HpAt.other {s' : St M} {O1 O1' : Nat → Prop} (h : HpAt lo s p H N O) (hU : Upd s s' O1 O1') (hd : ∀ b, O1 b → ¬ O b) : HpAt lo s' p H N O ∧ ∀ b, O1' b → ¬ O b := by
  refine ⟨h.same hU.next fun c hc => hU.keep c (h.own c hc).2 fun h1 => hd c h1 hc, fun b hb hO => ?_⟩
  rcases hU.own b hb with h1 | h1
  · exact hd b h1 hO
  · have := (h.own b hO).2; omega
structure TwoAt (n0 : Nat) (s0 s : St M) (p1 p2 : Nat) (H G : Hp) (N : Nat) (O1 O2 : Nat → Prop) : Prop where
  one : HpAt n0 s p1 H N O1
  two : HpAt n0 s p2 G N O2
  apart : ∀ b, O1 b → ¬ O2 b
  lo : n0 ≤ s.next
  old : ∀ c, c < n0 → s.at' c = s0.at' c
  sim : Sim H G
  sz : HSz 1000000 H
theorem TwoAt.le {n0 : Nat} {s0 s s' : St M} {p1 p2 : Nat} {H G : Hp} {N : Nat} {O1 O2 : Nat → Prop} (h : TwoAt n0 s0 s p1 p2 H G N O1 O2) (hs : s.le s') : TwoAt n0 s0 s' p1 p2 H G N O1 O2 :=
  ⟨h.one.le hs, h.two.le hs, h.apart, by have := h.lo; have := hs.1; omega, fun c hc => by rw [hs.2 c (by have := h.lo; omega)]; exact h.old c hc, h.sim, h.sz⟩
theorem TwoAt.step {n0 : Nat} {s0 s s1 s2 : St M} {p1 p2 : Nat} {H G H' G' : Hp} {N N' : Nat} {O1 O2 O1' O2' : Nat → Prop} (h : TwoAt n0 s0 s p1 p2 H G N O1 O2) (h1 : HpAt n0 s1 p1 H' N' O1') (hU1 : Upd s s1 O1 O1') (h2 : HpAt n0 s2 p2 G' N' O2') (hU2 : Upd s1 s2 O2 O2') (hsim : Sim H' G') (hsz : HSz 1000000 H') :
    TwoAt n0 s0 s2 p1 p2 H' G' N' O1' O2' := by
  obtain ⟨g2, d2⟩ := h.two.other hU1 h.apart
  obtain ⟨g1, d1⟩ := h1.other hU2 (fun b hb h1b => d2 b h1b hb)
  have hn1 := hU1.next
  have hn2 := hU2.next
  have hlo := h.lo
  refine ⟨g1, h2, fun b hb hb2 => d1 b hb2 hb, by omega, fun c hc => ?_, hsim, hsz⟩
  rw [hU2.keep c (by omega) (fun hb => by have := (h.two.own c hb).1; omega), hU1.keep c (by omega) (fun hb => by have := (h.one.own c hb).1; omega)]
  exact h.old c hc
theorem sim_sz {B : Nat} {H G : Hp} (h : Sim H G) (hs : HSz B H) : HSz B G := fun i o ho p hp => by
  have hH : H.obs[i]? = some (H.obs[i]'(by have := (List.getElem?_eq_some_iff.1 ho).1; rw [h.len]; exact this)) := List.getElem?_eq_getElem _
  obtain ⟨h1, _⟩ := h.obs i _ o hH ho
  rw [← h1] at hp
  exact hs i _ hH p hp
end
end Go.Proofs.Try
