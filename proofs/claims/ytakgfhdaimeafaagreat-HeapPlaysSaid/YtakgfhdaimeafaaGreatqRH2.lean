/- The document's forests and tables: the walks of Parent, and of tables. A lemma file: no statement of its own. -/
import Derived.Test.YtakgfhdaimeafaaGreatqFwF
import Derived.Test.YtakgfhdaimeafaaGreatqRH1
set_option linter.unusedSimpArgs false
set_option linter.unusedVariables false
set_option linter.unusedSectionVars false
namespace Go.Proofs.Tryz
open Go.Cs
open Go.RowKit (Below)
set_option maxRecDepth 100000
attribute [local irreducible] CCalls WLoop WScope CRound WRange
theorem slc_to {P : Program} {t e : TypeId} {ie : TypeInfo} (hu : P.underlying t = some (.slice e)) (hie : P.info? e = some ie) {a : Addr} {n h : Nat} (hh : h ≤ n) : cslice P t (.slice (some a) n UNK) none (some (.int .i64 (h : Int))) none = some (.slice (some a) h UNK) := by
  have hb : cbound (some (.int .i64 (h : Int))) n n = some h := by
    show (if 0 ≤ (h : Int) ∧ (h : Int) ≤ (n : Int) then some (h : Int).toNat else none) = some h
    rw [if_pos ⟨by omega, by omega⟩, Int.toNat_natCast]
  unfold cslice
  simp only [hu, hie]
  have h0 : cbound none UNK (if UNK = UNK then n else UNK) = some n ∨ True := .inr trivial
  simp only [cbound, if_true, Option.isNone_none, beq_self_eq_true, Bool.and_self, Option.isSome_none, Bool.false_and, Bool.false_eq_true, if_false]
  rw [if_pos ⟨by omega, by omega⟩, Int.toNat_natCast]
section
variable {M : Type} [Mem M] {w0 : World} {s : St M} {R : Value → St M → Prop} {lo p most : Nat} {F : List Sh} {O : Nat → Prop}
theorem SlI.less {v : Addr} {l : List Nat} {n : Nat} (h : SlI s (.slice (some v) l.length UNK) l) (hn : n ≤ l.length) : SlI s (.slice (some v) n UNK) (l.take n) := by
  have hl : (l.take n).length = n := by rw [List.length_take]; omega
  rcases h with ⟨_, _, e⟩ | ⟨b, junk, e, hb, _⟩
  · cases e
  · cases e
    refine .inr ⟨b, ints (l.drop n) ++ junk, by rw [hl], ?_, by rw [ints_len, Nat.mul_one]⟩
    rw [hb]
    congr 1
    rw [← List.append_assoc]
    congr 1
    unfold ints
    rw [← List.map_append, List.take_append_drop]
set_option maxHeartbeats 8000000 in
theorem rfparent_spec {i : Int} (hF : RFAt lo s p F most O) (hi : -9223372036854775808 ≤ i ∧ i ≤ 9223372036854775807)
    (hR : R (.int .i64 (match shAt F i with | some t => (parId F t : Int) | none => 0)) s) : CCalls Tryz.prog w0 80 #[.pointer (some ⟨p, 0, none⟩), .int .i64 i] s R := by
  refine wfun2 hmix ok80 (l := [.pointer (some ⟨p, 0, none⟩), .int .i64 i]) func80 rfl ntmps80 results80 (by simp) ?_
  simp -implicitDefEqProofs only [↓Zd, (Zp), if_true, if_false, Nat.reduceEqDiff, reduceCtorEq, co81]
  refine rfnames_spec hF hi fun v hv hvO => ?_
  cases ht : shAt F i with
  | none =>
    have e0 : namesOf F i = [] := by unfold namesOf; rw [ht]
    rw [e0] at hv
    rw [ht] at hR
    obtain ⟨a, c, rfl⟩ := hv.form
    simp -implicitDefEqProofs only [↓Zd, (Zp), if_true, if_false, Nat.reduceEqDiff, (REx), List.reverse_nil]
    exact hR
  | some t =>
    have e0 : namesOf F i = t.2 := by unfold namesOf; rw [ht]
    rw [e0] at hv
    rw [ht] at hR
    simp only at hR
    obtain ⟨j, rfl, hj, hFj⟩ := shAt_ix ht
    obtain ⟨q, l⟩ := t
    obtain ⟨hnd, hl12⟩ := hF.ok.names j q l hFj
    have hle := hF.le
    cases l with
    | nil =>
      obtain ⟨a, c, rfl⟩ := hv.form
      simp -implicitDefEqProofs only [↓Zd, (Zp), if_true, if_false, Nat.reduceEqDiff, (REx), List.reverse_nil]
      exact hR
    | cons x r =>
      obtain ⟨jp, hjp, hFp, hpar⟩ := hF.ok.par hFj
      have hl : (x :: r).reverse.length = r.length + 1 := by simp
      rcases hv with ⟨e, _⟩ | ⟨bv, jv, rfl, hbv, hlv⟩
      · simp at e
      have hv : SlI s (.slice (some ⟨bv, 0, none⟩) (x :: r).reverse.length UNK) (x :: r).reverse := .inr ⟨bv, jv, rfl, hbv, hlv⟩
      have hz : ¬ (((x :: r).reverse.length : Nat) : Int) = 0 := by omega
      simp only [List.length_cons] at hl12
      have wl : IntKind.i64.wrap ((((x :: r).reverse.length : Nat) : Int) - 1) = ((r.length : Nat) : Int) := by rw [wrap_i64 (by omega)]; omega
      have w1 : IntKind.i64.wrap (((j + 1 : Nat) : Int) - 1) = (j : Int) := by rw [wrap_i64 (by omega)]; omega
      have hkj : (0 : Int) ≤ (j : Int) ∧ (j : Int) < (F.length : Int) := by omega
      obtain ⟨ie, hie, _⟩ := infoInt
      have hsl := slc_to (P := Tryz.prog) (a := ⟨bv, 0, none⟩) (n := (x :: r).reverse.length) (h := r.length) underlying130 hie (by omega)
      have htk : (x :: r).reverse.take r.length = r.reverse := by
        rw [List.reverse_cons, List.take_append_of_le_length (by simp), List.take_of_length_le (by simp)]
      have hless := hv.less (n := r.length) (by omega)
      rw [htk] at hless
      simp -implicitDefEqProofs only [↓Zd, (Zp), if_true, if_false, Nat.reduceEqDiff, (REx), hz]
      refine wloop_inv hmix (fun fuel env s1 => ∃ k : Nat, fuel = F.length - k ∧ k ≤ jp ∧ env 6 = .int .i64 (k : Int) ∧ env 0 = .pointer (some ⟨p, 0, none⟩) ∧ env 1 = .int .i64 ((j + 1 : Nat) : Int) ∧ env 5 = .slice (some ⟨bv, 0, none⟩) (x :: r).reverse.length UNK ∧ s1 = s) F.length ⟨0, rfl, by omega, rfl, rfl, rfl, rfl, rfl⟩ ?_
      rintro fuel env s1 ⟨k, rfl, hk, e6, e0, e1, e5, rfl⟩
      have hkF : k < F.length := by omega
      obtain ⟨u, hu⟩ : ∃ u, F[k]? = some u := ⟨F[k], by simp [hkF]⟩
      obtain ⟨b, vs, own, mv, nm, g1, g2, g3, g4, g5, g6, g7, g8⟩ := hF.get hFj
      obtain ⟨b2, vs2, own2, mv2, nm2, f1, f2, f3, f4, f5, f6, f7, f8⟩ := hF.get hu
      rw [g1] at f1
      simp only [Option.some.injEq, Blk.cells.injEq, List.cons.injEq, Value.slice.injEq, Addr.mk.injEq, and_true] at f1
      obtain ⟨rfl, _⟩ := f1
      rw [g2] at f2
      cases f2
      have hkk : (0 : Int) ≤ (k : Int) ∧ (k : Int) < (F.length : Int) := by omega
      have hkl : (k : Int) < (F.length : Int) := by omega
      have wk : IntKind.i64.wrap ((k : Int) + 1) = ((k + 1 : Nat) : Int) := by rw [wrap_i64 (by omega)]; omega
      have f30 : vs[k * 2 + 0]? = some (.int .i64 ((u.1 : Nat) : Int)) := f3
      have g30 : vs[j * 2 + 0]? = some (.int .i64 ((q : Nat) : Int)) := g3
      have hgo : F[k]? ≠ some (q, r) → k + 1 ≤ jp := fun hne => by
        by_cases e : k = jp
        · subst e; exact absurd hFp hne
        · omega
      by_cases hq : ((u.1 : Nat) : Int) = ((q : Nat) : Int)
      case neg =>
        simp -implicitDefEqProofs only [↓Zd, (Zp), if_true, if_false, Nat.reduceEqDiff, reduceCtorEq, cld2, (HEx), (REx), e6, e0, e1, e5, g1, g2, hkl, hkk, hkj, w1, f30, g30, hq, wk, ord80]
        exact ⟨F.length - (k + 1), by omega, k + 1, rfl, hgo (fun e => by rw [hu] at e; cases e; exact hq rfl), rfl⟩
      obtain ⟨na, nc, rfl⟩ := f5.form
      simp -implicitDefEqProofs only [↓Zd, (Zp), if_true, if_false, Nat.reduceEqDiff, reduceCtorEq, cld2, (HEx), (REx), e6, e0, e1, e5, g1, g2, hkl, hkk, hkj, w1, wl, f30, f4, g30, hq, hsl, ord80, co112]
      refine .inl ?_
      refine rsame_spec f5 hless (by have := (hF.ok.names k u.1 u.2 hu).2; simp; omega) (by simp; omega) ?_
      by_cases hll : u.2.reverse = r.reverse
      · have hur : u = (q, r) := by
          obtain ⟨u1, u2⟩ := u
          simp only at hll hq
          rw [List.reverse_inj.1 hll, show u1 = q by omega]
        subst hur
        have hkp : k = jp := hF.ok.one hu hFp
        subst hkp
        rw [hpar] at hR
        have hd : decide (r.reverse = r.reverse) = true := by simp
        rw [hd]
        simp -implicitDefEqProofs only [↓Zd, (Zp), if_true, if_false, Nat.reduceEqDiff, (HEx), e6, wk]
        exact hR
      · have hd : decide (u.2.reverse = r.reverse) = false := by simpa using hll
        rw [hd]
        simp -implicitDefEqProofs only [↓Zd, (Zp), if_true, if_false, Nat.reduceEqDiff, reduceCtorEq, (HEx), e6, e0, e1, e5, wk]
        exact ⟨F.length - (k + 1), by omega, k + 1, rfl, hgo (fun e => by rw [hu] at e; cases e; exact hll rfl), rfl⟩
end
end Go.Proofs.Tryz
