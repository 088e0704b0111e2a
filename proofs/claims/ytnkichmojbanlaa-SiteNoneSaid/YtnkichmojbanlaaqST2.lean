/- Sites: where a table of them lies. A lemma file: no statement of its own. -/
import Derived.Test.YtnkichmojbanlaaqST1
import Derived.Test.YtnkichmojbanlaaqHPN
set_option linter.unusedSimpArgs false
set_option linter.unusedVariables false
set_option linter.unusedSectionVars false
namespace Go.Proofs.Try
open Go.Cs
open Go.RowKit (Below)
set_option maxRecDepth 100000
attribute [local irreducible] CCalls WLoop WScope CRound WRange
def depC (d : Nat × Nat) : List Value := [.int .i64 (d.1 : Int), .int .i64 (d.2 : Int)]
def entC (e : Ent) (dl : Value) : List Value := [.int .i64 (e.shape : Int), .int .i64 e.holder, .int .i64 e.slot, .int .i64 (e.to : Int), dl]
structure STy where
  tT : TypeId
  tA : TypeId
  tR : TypeId
  tE : TypeId
  tD : TypeId
  w : Nat
  sc : Sit → Value → List Value
  len : ∀ z v, (sc z v).length = w
  tr : tT ≠ tR
  ar : tA ≠ tR
  er : tE ≠ tR
  dr : tD ≠ tR
  te : tT ≠ tE
  ae : tA ≠ tE
  de : tD ≠ tE
  at' : tA ≠ tT
  dt : tD ≠ tT
section
variable {M : Type} [Mem M] {w0 : World} {s : St M} {R : Value → St M → Prop}
theorem at_apart {b c : Nat} {cs ds : List Value} {t u : TypeId} {x y : Bool} (h1 : s.at' b = some (.cells cs t x)) (h2 : s.at' c = some (.cells ds u y)) (htu : t ≠ u) : b ≠ c := by
  intro e
  subst e
  rw [h1] at h2
  injection h2 with h2
  injection h2 with h3 h4 h5
  exact htu h4
def DepsAt (Y : STy) (s : St M) (O : Nat → Prop) (dl : Value) (ds : List (Nat × Nat)) : Prop := SlU Y.tD 2 s dl (rows (fun j => depC (ds.getD j (0, 0))) ds.length) ds.length ∧ (∀ q n c, dl = .slice (some q) n c → O q.block) ∧ (ds = [] → dl = .slice none 0 0)
def EntsAt (Y : STy) (s : St M) (O : Nat → Prop) (sl : Value) (es : List Ent) : Prop := ∃ dl : Nat → Value, SlU Y.tE 5 s sl (rows (fun j => entC (es.getD j e0) (dl j)) es.length) es.length ∧ (∀ q n c, sl = .slice (some q) n c → O q.block) ∧ (∀ j, j < es.length → DepsAt Y s O (dl j) (es.getD j e0).deps) ∧ (es = [] → sl = .slice none 0 0)
theorem DepsAt.same {Y : STy} {s' : St M} {O O' : Nat → Prop} {dl : Value} {ds : List (Nat × Nat)} (h : DepsAt Y s O dl ds) (hs : ∀ b, O b → O' b ∧ s'.at' b = s.at' b) : DepsAt Y s' O' dl ds := ⟨h.1.same fun q n c e => (hs _ (h.2.1 q n c e)).2, fun q n c e => (hs _ (h.2.1 q n c e)).1, h.2.2⟩
theorem EntsAt.same {Y : STy} {s' : St M} {O O' : Nat → Prop} {sl : Value} {es : List Ent} (h : EntsAt Y s O sl es) (hs : ∀ b, O b → O' b ∧ s'.at' b = s.at' b) : EntsAt Y s' O' sl es := by
  obtain ⟨dl, h1, h2, h3, h4⟩ := h
  exact ⟨dl, h1.same fun q n c e => (hs _ (h2 q n c e)).2, fun q n c e => (hs _ (h2 q n c e)).1, fun j hj => (h3 j hj).same hs, h4⟩
structure SAt (Y : STy) (lo : Nat) (s : St M) (t : Nat) (T : Tab) (N : Nat) (O : Nat → Prop) (al : Value) (rb cp : Nat → Nat) (sl : Nat → Nat → Value) : Prop where
  own : ∀ b, O b → lo ≤ b ∧ b < s.next
  pin : O t
  bl : s.at' t = some (.cells [al, .int .i64 (T.hits : Int), .int .i64 (T.misses : Int)] Y.tT true)
  cnt : T.hits ≤ N ∧ T.misses ≤ N
  all : SlU Y.tA 1 s al (rows (fun i => [.slice (some ⟨rb i, 0, none⟩) (T.n i) (cp i)]) T.fs) T.fs
  allO : ∀ q n c, al = .slice (some q) n c → O q.block
  pinR : ∀ i, i < T.fs → O (rb i)
  row : ∀ i, i < T.fs → s.at' (rb i) = some (.cells (rows (fun j => Y.sc (T.st i j) (sl i j)) (T.n i)) Y.tR true)
  inj : ∀ i j, i < T.fs → j < T.fs → rb i = rb j → i = j
  es : ∀ i j, i < T.fs → j < T.n i → EntsAt Y s O (sl i j) (T.st i j).es
  apart : ∀ i j i' j' q n c q' n' c', i < T.fs → j < T.n i → i' < T.fs → j' < T.n i' → sl i j = .slice (some q) n c → sl i' j' = .slice (some q') n' c' → q.block = q'.block → i = i' ∧ j = j'
  small : T.fs ≤ 100 ∧ ∀ i, i < T.fs → T.n i ≤ 4000
def STab (Y : STy) (lo : Nat) (s : St M) (t : Nat) (T : Tab) (N : Nat) (O : Nat → Prop) : Prop := ∃ al rb cp sl, SAt Y lo s t T N O al rb cp sl
variable {Y : STy} {lo t N : Nat} {T : Tab} {O : Nat → Prop} {al : Value} {rb cp : Nat → Nat} {sl : Nat → Nat → Value}
theorem SAt.same {s' : St M} (h : SAt Y lo s t T N O al rb cp sl) (hn : s.next ≤ s'.next) (hs : ∀ b, O b → s'.at' b = s.at' b) : SAt Y lo s' t T N O al rb cp sl :=
  ⟨fun b hb => ⟨(h.own b hb).1, by have := (h.own b hb).2; omega⟩, h.pin, by rw [hs _ h.pin]; exact h.bl, h.cnt, h.all.same fun q n c e => hs _ (h.allO q n c e), h.allO, h.pinR, fun i hi => by rw [hs _ (h.pinR i hi)]; exact h.row i hi, h.inj, fun i j hi hj => (h.es i j hi hj).same fun b hb => ⟨hb, hs b hb⟩, h.apart, h.small⟩
theorem STab.same {s' : St M} (h : STab Y lo s t T N O) (hn : s.next ≤ s'.next) (hs : ∀ b, O b → s'.at' b = s.at' b) : STab Y lo s' t T N O := by
  obtain ⟨al, rb, cp, sl, h⟩ := h
  exact ⟨al, rb, cp, sl, h.same hn hs⟩
theorem SAt.le {s' : St M} (h : SAt Y lo s t T N O al rb cp sl) (hs : s.le s') : SAt Y lo s' t T N O al rb cp sl := h.same hs.1 fun b hb => hs.2 b (h.own b hb).2
theorem STab.own (h : STab Y lo s t T N O) : ∀ b, O b → lo ≤ b ∧ b < s.next := by
  obtain ⟨al, rb, cp, sl, h⟩ := h
  exact h.own
theorem STab.le {s' : St M} (h : STab Y lo s t T N O) (hs : s.le s') : STab Y lo s' t T N O := h.same hs.1 fun b hb => hs.2 b (h.own b hb).2
theorem STab.mono {N' : Nat} (h : STab Y lo s t T N O) (hN : N ≤ N') : STab Y lo s t T N' O := by
  obtain ⟨al, rb, cp, sl, h⟩ := h
  exact ⟨al, rb, cp, sl, { h with cnt := ⟨by have := h.cnt.1; omega, by have := h.cnt.2; omega⟩ }⟩
theorem STab.low {lo' : Nat} (h : STab Y lo s t T N O) (hl : lo' ≤ lo) : STab Y lo' s t T N O := by
  obtain ⟨al, rb, cp, sl, h⟩ := h
  exact ⟨al, rb, cp, sl, { h with own := fun b hb => ⟨by have := (h.own b hb).1; omega, (h.own b hb).2⟩ }⟩
theorem STab.other {s' : St M} {O1 O1' : Nat → Prop} (h : STab Y lo s t T N O) (hU : Upd s s' O1 O1') (hd : ∀ b, O1 b → ¬ O b) : STab Y lo s' t T N O ∧ ∀ b, O1' b → ¬ O b := by
  refine ⟨h.same hU.next fun c hc => hU.keep c (h.own c hc).2 fun h1 => hd c h1 hc, fun b hb hO => ?_⟩
  rcases hU.own b hb with h1 | h1
  · exact hd b h1 hO
  · have := (h.own b hO).2; omega
theorem EntsAt.blk {es : List Ent} {v : Value} (h : EntsAt Y s O v es) {q : Addr} {n c : Nat} (e : v = .slice (some q) n c) : ∃ cs, s.at' q.block = some (.cells cs Y.tE true) ∧ q = ⟨q.block, 0, none⟩ := by
  obtain ⟨dl, h1, _, _⟩ := h
  rcases h1 with ⟨_, _, h1⟩ | ⟨b, junk, h1, h2, _⟩
  · rw [h1] at e; cases e
  · rw [h1] at e; cases e; exact ⟨_, h2, rfl⟩
theorem EntsAt.keep {s' : St M} {O' : Nat → Prop} {es : List Ent} {v : Value} (h : EntsAt Y s O v es) (hO : ∀ b, O b → O' b) (hs : ∀ b cs ty, O b → s.at' b = some (.cells cs ty true) → (ty = Y.tD ∨ (ty = Y.tE ∧ ∃ q n c, v = .slice (some q) n c ∧ q.block = b)) → s'.at' b = s.at' b) : EntsAt Y s' O' v es := by
  obtain ⟨dl, h1, h2, h3, h3n⟩ := h
  refine ⟨dl, ?_, fun q n c e => hO _ (h2 q n c e), fun j hj => ⟨?_, fun q n c e => hO _ ((h3 j hj).2.1 q n c e), (h3 j hj).2.2⟩, h3n⟩
  · rcases h1 with h1 | ⟨b, junk, g1, g2, g3⟩
    · exact .inl h1
    · exact .inr ⟨b, junk, g1, (hs b _ _ (h2 _ _ _ g1) g2 (.inr ⟨rfl, _, _, _, g1, rfl⟩)).trans g2, g3⟩
  · obtain ⟨h4, h5, _⟩ := h3 j hj
    rcases h4 with h4 | ⟨b, junk, g1, g2, g3⟩
    · exact .inl h4
    · exact .inr ⟨b, junk, g1, (hs b _ _ (h5 _ _ _ g1) g2 (.inl rfl)).trans g2, g3⟩
theorem SAt.set {s' : St M} {O' : Nat → Prop} (h : SAt Y lo s t T N O al rb cp sl) {i j : Nat} {z' : Sit} {v' : Value} (hi : i < T.fs) (hj : j < T.n i) (hn : s.next ≤ s'.next) (hO : ∀ b, O b → O' b) (hO' : ∀ b, O' b → lo ≤ b ∧ b < s'.next)
    (hrow : s'.at' (rb i) = some (.cells (rows (fun m => if m = j then Y.sc z' v' else Y.sc (T.st i m) (sl i m)) (T.n i)) Y.tR true))
    (hkeep : ∀ b, O b → b ≠ rb i → (∀ q n c, sl i j = .slice (some q) n c → b ≠ q.block) → s'.at' b = s.at' b) (hes : EntsAt Y s' O' v' z'.es)
    (hap : ∀ q n c, v' = .slice (some q) n c → (∃ q0 n0 c0, sl i j = .slice (some q0) n0 c0 ∧ q.block = q0.block) ∨ s.next ≤ q.block) :
    SAt Y lo s' t (putT T i j z') N O' al rb cp (fun a b => if a = i ∧ b = j then v' else sl a b) := by
  have hrb := h.row i hi
  have hold : ∀ b cs ty, O b → s.at' b = some (.cells cs ty true) → ty ≠ Y.tR → ty ≠ Y.tE → s'.at' b = s.at' b := fun b cs ty hb h1 h2 h3 => hkeep b hb (at_apart h1 hrb h2) fun q n c e => by
    obtain ⟨cs2, h4, _⟩ := (h.es i j hi hj).blk e
    exact at_apart h1 h4 h3
  have hst : ∀ a b, (putT T i j z').st a b = if a = i ∧ b = j then z' else T.st a b := fun a b => by
    show (if a = (i : Int).toNat ∧ b = (j : Int).toNat then z' else T.st a b) = _
    rw [Int.toNat_natCast, Int.toNat_natCast]
  have hall : SlU Y.tA 1 s' al (rows (fun i => [.slice (some ⟨rb i, 0, none⟩) (T.n i) (cp i)]) T.fs) T.fs := by
    rcases h.all with h1 | ⟨b, junk, g1, g2, g3⟩
    · exact .inl h1
    · exact .inr ⟨b, junk, g1, (hold _ _ _ (h.allO _ _ _ g1) g2 Y.ar Y.ae).trans g2, g3⟩
  refine ⟨hO', hO _ h.pin, (hold _ _ _ h.pin h.bl Y.tr Y.te).trans h.bl, h.cnt, hall, fun q n c e => hO _ (h.allO q n c e), fun a ha => hO _ (h.pinR a ha), fun a ha2 => ?_, h.inj, fun a b ha2 hb2 => ?_, fun a b a' b' q n c q' n' c' h1 h2 h3 h4 e1 e2 eb => ?_, h.small⟩
  · by_cases e : a = i
    · subst e
      rw [hrow]
      congr 2
      refine rows_congr fun m hm => ?_
      show (if m = j then Y.sc z' v' else Y.sc (T.st a m) (sl a m)) = Y.sc ((putT T a j z').st a m) (if a = a ∧ m = j then v' else sl a m)
      rw [hst]
      by_cases em : m = j
      · rw [if_pos em, if_pos ⟨rfl, em⟩, if_pos ⟨rfl, em⟩]
      · rw [if_neg em, if_neg (fun hc => em hc.2), if_neg (fun hc => em hc.2)]
    · have hr := h.row a ha2
      have hra : rb a ≠ rb i := fun hc => e (h.inj a i ha2 hi hc)
      have : s'.at' (rb a) = s.at' (rb a) := hkeep _ (h.pinR a ha2) hra fun q n c e2 => by
        obtain ⟨cs2, h4, _⟩ := (h.es i j hi hj).blk e2
        exact at_apart hr h4 (fun e => Y.er e.symm)
      rw [this, hr]
      congr 2
      refine rows_congr fun m hm => ?_
      show Y.sc (T.st a m) (sl a m) = Y.sc ((putT T i j z').st a m) (if a = i ∧ m = j then v' else sl a m)
      rw [hst, if_neg (fun hc => e hc.1), if_neg (fun hc => e hc.1)]
  · show EntsAt Y s' O' (if a = i ∧ b = j then v' else sl a b) ((putT T i j z').st a b).es
    rw [hst]
    by_cases e : a = i ∧ b = j
    · rw [if_pos e, if_pos e]; exact hes
    · rw [if_neg e, if_neg e]
      refine (h.es a b ha2 hb2).keep hO fun b2 cs ty h1 h2 h3 => ?_
      rcases h3 with rfl | ⟨rfl, q, n, c, h4, h5⟩
      · exact hold _ _ _ h1 h2 Y.dr Y.de
      · refine hkeep _ h1 (at_apart h2 hrb Y.er) fun q0 n0 c0 e0 hc => ?_
        have := h.apart a b i j q n c q0 n0 c0 ha2 hb2 hi hj h4 e0 (by rw [h5, hc])
        exact e this
  · have key : ∀ a b q n c q' n' c', a < T.fs → b < T.n a → ¬ (a = i ∧ b = j) → sl a b = .slice (some q) n c → v' = .slice (some q') n' c' → q.block ≠ q'.block := fun a b q n c q' n' c' g1 g2 g3 g4 g5 g6 => by
      rcases hap q' n' c' g5 with ⟨q0, n0, c0, g7, g8⟩ | g7
      · exact g3 (h.apart a b i j q n c q0 n0 c0 g1 g2 hi hj g4 g7 (g6.trans g8))
      · obtain ⟨dl, _, g9, _⟩ := h.es a b g1 g2
        have := (h.own _ (g9 _ _ _ g4)).2
        omega
    have e1 : (if a = i ∧ b = j then v' else sl a b) = .slice (some q) n c := e1
    have e2 : (if a' = i ∧ b' = j then v' else sl a' b') = .slice (some q') n' c' := e2
    by_cases c1 : a = i ∧ b = j
    · by_cases c2 : a' = i ∧ b' = j
      · exact ⟨by rw [c1.1, c2.1], by rw [c1.2, c2.2]⟩
      · rw [if_pos c1] at e1
        rw [if_neg c2] at e2
        exact absurd eb.symm (key a' b' _ _ _ _ _ _ h3 h4 c2 e2 e1)
    · by_cases c2 : a' = i ∧ b' = j
      · rw [if_neg c1] at e1
        rw [if_pos c2] at e2
        exact absurd eb (key a b _ _ _ _ _ _ h1 h2 c1 e1 e2)
      · rw [if_neg c1] at e1
        rw [if_neg c2] at e2
        exact h.apart a b a' b' _ _ _ _ _ _ h1 h2 h3 h4 e1 e2 eb
theorem SAt.count {s' : St M} {T' : Tab} {N' : Nat} (h : SAt Y lo s t T N O al rb cp sl) (hT : T'.fs = T.fs ∧ T'.n = T.n ∧ T'.st = T.st) (hc : T'.hits ≤ N' ∧ T'.misses ≤ N') (hn : s'.next = s.next) (hb : s'.at' t = some (.cells [al, .int .i64 (T'.hits : Int), .int .i64 (T'.misses : Int)] Y.tT true)) (hk : ∀ b, b ≠ t → s'.at' b = s.at' b) : SAt Y lo s' t T' N' O al rb cp sl := by
  obtain ⟨fs, n, st, hits, misses⟩ := T'
  obtain ⟨rfl, rfl, rfl⟩ := hT
  have hd : ∀ b cs ty, s.at' b = some (.cells cs ty true) → ty ≠ Y.tT → s'.at' b = s.at' b := fun b cs ty h1 h2 => hk b (at_apart h1 h.bl h2)
  have hall : SlU Y.tA 1 s' al (rows (fun i => [.slice (some ⟨rb i, 0, none⟩) (T.n i) (cp i)]) T.fs) T.fs := by
    rcases h.all with h1 | ⟨b, junk, g1, g2, g3⟩
    · exact .inl h1
    · exact .inr ⟨b, junk, g1, (hd _ _ _ g2 Y.at').trans g2, g3⟩
  exact ⟨fun b hb => ⟨(h.own b hb).1, by have := (h.own b hb).2; omega⟩, h.pin, hb, hc, hall, h.allO, h.pinR, fun i hi => (hd _ _ _ (h.row i hi) (fun e => Y.tr e.symm)).trans (h.row i hi), h.inj, fun i j hi hj => (h.es i j hi hj).keep (fun _ h => h) fun b cs ty h1 h2 h3 => hd b cs ty h2 (by rcases h3 with rfl | ⟨rfl, _⟩; exact Y.dt; exact fun e => Y.te e.symm), h.apart, h.small⟩
end
end Go.Proofs.Try
