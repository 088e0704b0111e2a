/- The document's heaps: the walk of Dump. A lemma file: no statement of its own. -/
import Derived.Test.YtakgfhdaimeafaaGreatqFwF
import Derived.Test.YtakgfhdaimeafaaGreatqRH14
set_option linter.unusedSimpArgs false
set_option linter.unusedVariables false
set_option linter.unusedSectionVars false
namespace Go.Proofs.Tryz
open Go.Cs
open Go.RowKit (Below)
set_option maxRecDepth 100000
attribute [local irreducible] CCalls WLoop WScope CRound WRange
def SB (l : List UInt8) : ByteArray := ⟨l.toArray⟩
theorem SB_size (l : List UInt8) : (SB l).size = l.length := by simp [SB, ByteArray.size]
theorem SB_app (l : List UInt8) (x : ByteArray) : SB l ++ x = SB (l ++ x.data.toList) := by
  apply ByteArray.ext
  rw [ByteArray.data_append]
  apply Array.ext'
  simp [SB]
section
variable {M : Type} [Mem M] {w0 : World} {s : St M} {R : Value → St M → Prop} {lo p N : Nat} {H : Hp} {O : Nat → Prop}
set_option maxHeartbeats 16000000 in
theorem rdump_spec (h : RHpAt lo s p H N O) (hN : N ≤ 1000000) (hsz : HSz 1000000 H) (hR : ∀ s', s.le s' → R (.string (dumpB H)) s') : CCalls Tryz.prog w0 55 #[.pointer (some ⟨p, 0, none⟩)] s R := by
  refine wfun2 hmix ok55 (l := [.pointer (some ⟨p, 0, none⟩)]) func55 rfl ntmps55 results55 (by simp) ?_
  obtain ⟨hpro, tg, pf, sl, tl, bs, h⟩ := h
  have hlim := h.ok.lim
  obtain ⟨qs, cs, es⟩ := h.form
  have hbl := h.len
  simp -implicitDefEqProofs only [↓Zd, (Zp)]
  refine wloop_inv hmix (fun fuel env s1 => ∃ k : Nat, fuel = H.obs.length - k ∧ k ≤ H.obs.length ∧ env 4 = .int .i64 (k : Int) ∧ env 0 = .pointer (some ⟨p, 0, none⟩) ∧ env 3 = .string (SB (linesL H k)) ∧ s.le s1) H.obs.length ⟨0, rfl, by omega, rfl, rfl, rfl, St.le_refl _⟩ ?_
  rintro fuel env s1 ⟨k, rfl, hk, e4, e0, e3, hs1⟩
  have h1 := h.le hs1
  have hb1 := h1.bl
  have hll := linesL_len h.ok hsz k
  by_cases hkn : (k : Int) < (H.obs.length : Int)
  case neg =>
    have : k = H.obs.length := by omega
    subst this
    rw [es] at hb1
    simp -implicitDefEqProofs only [↓Zd, (Zp), if_true, if_false, Nat.reduceEqDiff, reduceCtorEq, cld2, (REx), e4, e0, e3, hb1, hkn]
    exact hR _ hs1
  obtain ⟨o, ho⟩ : ∃ o, H.obs[k]? = some o := ⟨H.obs[k]'(by omega), List.getElem?_eq_getElem _⟩
  obtain ⟨b, br, vs, own, ns, vv, hb, hB, esl, hbr, hg, hbrn, hob, hfr, hO⟩ := h1.at ho
  rw [esl] at hb1
  have hkn2 : (k : Int) < (bs.length : Int) := by omega
  have hk2 := ix_ok (n := bs.length) (j := k) (by omega)
  have g1 := hob.bl
  obtain ⟨d, hd⟩ := h.ok.up
  have hq : o.proto ≤ 200 := by rcases hd k o ho with h | ⟨h, _⟩ <;> omega
  have hd1 := digS_len (n := ((k + 1 : Nat) : Int)) (by omega)
  have hd2 := digS_len (n := (o.proto : Int)) (by omega)
  have hml : o.L.length ≤ 32 := by have := h.ok.lens k o ho; omega
  have wk : IntKind.i64.wrap ((k : Int) + 1) = ((k + 1 : Nat) : Int) := by rw [wrap_i64 (by omega)]; omega
  have z0 : (SB (linesL H k)).size + (⟨#[35]⟩ : ByteArray).size ≤ 9223372036854775807 := by rw [SB_size]; show _ + 1 ≤ _; omega
  have z1 : (SB (linesL H k) ++ (⟨#[35]⟩ : ByteArray)).size + (digS ((k + 1 : Nat) : Int)).size ≤ 9223372036854775807 := by rw [ByteArray.size_append, SB_size]; show _ + 1 + _ ≤ _; omega
  have z2 : (SB (linesL H k) ++ (⟨#[35]⟩ : ByteArray) ++ digS ((k + 1 : Nat) : Int)).size + (⟨#[32, 35]⟩ : ByteArray).size ≤ 9223372036854775807 := by rw [ByteArray.size_append, ByteArray.size_append, SB_size]; show _ + 1 + _ + 2 ≤ _; omega
  have z3 : (SB (linesL H k) ++ (⟨#[35]⟩ : ByteArray) ++ digS ((k + 1 : Nat) : Int) ++ (⟨#[32, 35]⟩ : ByteArray)).size + (digS (o.proto : Int)).size ≤ 9223372036854775807 := by rw [ByteArray.size_append, ByteArray.size_append, ByteArray.size_append, SB_size]; show _ + 1 + _ + 2 + _ ≤ _; omega
  simp -implicitDefEqProofs only [↓Zd, (Zp), if_true, if_false, Nat.reduceEqDiff, reduceCtorEq, cld2, (HEx), (REx), e4, e0, e3, hb1, hkn2, hk2, hbr, hg, g1, z0, wk, ord55, co99]
  refine rDigits_spec (by omega) fun s2 hs2 => ?_
  have g2 := (hob.le hfr hs2).bl
  simp -implicitDefEqProofs only [↓Zd, (Zp), if_true, if_false, Nat.reduceEqDiff, Nat.reduceBEq, cld2, (HEx), g2, z1, z2, co99]
  refine rDigits_spec (by omega) fun s3 hs3 => ?_
  have hle3 := St.le_trans hs1 (St.le_trans hs2 hs3)
  simp -implicitDefEqProofs only [↓Zd, (Zp), if_true, if_false, Nat.reduceEqDiff, Nat.reduceBEq, (HEx), z3]
  have hhd : SB (linesL H k) ++ (⟨#[35]⟩ : ByteArray) ++ digS ((k + 1 : Nat) : Int) ++ (⟨#[32, 35]⟩ : ByteArray) ++ digS (o.proto : Int) = SB (linesL H k ++ (headB k o.proto).data.toList ++ propsL (o.L.take 0)) := by
    rw [SB_app, SB_app, SB_app, SB_app]
    congr 1
    unfold headB
    simp only [ba_list_append, List.append_assoc, List.take_zero, propsL, List.flatMap_nil, List.append_nil]
  rw [hhd]
  have hhl := headB_len (k := k) (q := o.proto) (by omega) (by omega)
  have hel : (headB k o.proto).data.toList.length = (headB k o.proto).size := rfl
  have hkl := keysP_len o.L
  refine wloop_inv hmix (fun fuel env s4 => ∃ m : Nat, fuel = o.L.length - m ∧ m ≤ o.L.length ∧ env 6 = .int .i64 (m : Int) ∧ env 5 = .pointer (some ⟨b, 0, none⟩) ∧ env 0 = .pointer (some ⟨p, 0, none⟩) ∧ env 4 = .int .i64 (k : Int) ∧ env 3 = .string (SB (linesL H k ++ (headB k o.proto).data.toList ++ propsL (o.L.take m))) ∧ s1.le s4) o.L.length ⟨0, rfl, by omega, rfl, rfl, (by simp only [upd_apply]; simpa using e0), (by simp only [upd_apply]; simpa using e4), rfl, St.le_trans hs2 hs3⟩ ?_
  rintro fuel2 env2 s4 ⟨m, rfl, hm, f6, f5, f0, f4, f3, hs4⟩
  have hob4 := hob.le hfr hs4
  have g4 := hob4.bl
  have hpl := propsL_len (L := o.L.take m) (fun q hq => hsz k o ho q (List.mem_of_mem_take hq))
  have htl : (o.L.take m).length ≤ 32 := by rw [List.length_take]; omega
  have hlen6 : (linesL H k ++ (headB k o.proto).data.toList ++ propsL (o.L.take m)).length ≤ 100000000000 := by
    simp only [List.length_append]; omega
  obtain ⟨qn, cn, en⟩ := slc_form hob4.nm
  by_cases hmn : (m : Int) < ((keysP o.L).length : Int)
  case neg =>
    have : m = o.L.length := by omega
    subst this
    rw [List.take_length] at f3 hlen6
    rw [en] at g4
    have y0 : (SB (linesL H k ++ (headB k o.proto).data.toList ++ propsL o.L)).size + (⟨#[10]⟩ : ByteArray).size ≤ 9223372036854775807 := by rw [SB_size]; show _ + 1 ≤ _; omega
    simp -implicitDefEqProofs only [↓Zd, (Zp), if_true, if_false, Nat.reduceEqDiff, reduceCtorEq, Nat.reduceAdd, cld2, (REx), f6, f5, f0, f4, f3, g4, hmn, y0, wk]
    refine ⟨H.obs.length - (k + 1), by omega, k + 1, rfl, by omega, rfl, ?_, St.le_trans hs1 hs4⟩
    rw [SB_app, linesL_succ]
    unfold lineL
    rw [ho]
    simp only [List.append_assoc]
  have hmlt : m < o.L.length := by omega
  obtain ⟨x, v, hLm⟩ : ∃ x v, o.L[m]? = some (x, v) := ⟨o.L[m].1, o.L[m].2, by simp [hmlt]⟩
  obtain ⟨v1, v2, v3⟩ := v
  have hpsz := hsz k o ho _ (List.mem_of_getElem? hLm)
  obtain ⟨q1, q2, q3, q4⟩ := hpsz
  simp only at q1 q2 q3 q4
  obtain ⟨bn, cn', en', hbn, hx⟩ := slc_str hob4.nm (k := m) (by omega)
  have hxe : (keysP o.L)[m]'(by omega) = x := by
    have h2 : (keysP o.L)[m]? = some x := by unfold keysP; rw [List.getElem?_map, hLm]; rfl
    rw [List.getElem?_eq_getElem (by omega)] at h2
    exact Option.some.inj h2
  rw [hxe] at hx
  rcases hob4.vl with ⟨e9, _⟩ | ⟨bv, junk, ev, hbv, _⟩
  · omega
  subst en'
  subst ev
  obtain ⟨c1, c2⟩ := valsC_cut o.L m _ _ junk hLm
  have hk3 := ix_ok (n := (keysP o.L).length) (j := m) (by omega)
  have hk4 := ix_ok (n := o.L.length) (j := m) (by omega)
  have wm : IntKind.i64.wrap ((m : Int) + 1) = ((m + 1 : Nat) : Int) := by rw [wrap_i64 (by omega)]; omega
  have hpl1 := printV_len (k := v1) (n := v2) (x := v3) ⟨q3, q4⟩
  generalize hSS : linesL H k ++ (headB k o.proto).data.toList ++ propsL (o.L.take m) = SS at *
  have y0 : (SB SS).size + (⟨#[32]⟩ : ByteArray).size ≤ 9223372036854775807 := by rw [SB_size]; show _ + 1 ≤ _; omega
  have y1 : (SB SS ++ (⟨#[32]⟩ : ByteArray)).size + x.size ≤ 9223372036854775807 := by rw [ByteArray.size_append, SB_size]; show _ + 1 + _ ≤ _; omega
  have y2 : (SB SS ++ (⟨#[32]⟩ : ByteArray) ++ x).size + (⟨#[58]⟩ : ByteArray).size ≤ 9223372036854775807 := by rw [ByteArray.size_append, ByteArray.size_append, SB_size]; show _ + 1 + _ + 1 ≤ _; omega
  have y3 : (SB SS ++ (⟨#[32]⟩ : ByteArray) ++ x ++ (⟨#[58]⟩ : ByteArray)).size + (printV v1 v2 v3).size ≤ 9223372036854775807 := by rw [ByteArray.size_append, ByteArray.size_append, ByteArray.size_append, SB_size]; show _ + 1 + _ + 1 + _ ≤ _; omega
  simp -implicitDefEqProofs only [↓Zd, (Zp), if_true, if_false, Nat.reduceEqDiff, Nat.reduceAdd, cut, cld2, (HEx), (REx), f6, f5, f3, g4, hmn, hk3, hk4, hbn, hx, hbv, c1, c2, y0, y1, y2, co100]
  have hpr := rPrint_spec (w0 := w0) (k := v1) (n := v2) (x := v3) (s := s4) ⟨q3, q4⟩ q2 (R := fun v s' => v = .string (printV v1 v2 v3) ∧ s4.le s') (fun s' hs' => ⟨rfl, hs'⟩)
  unfold vA at hpr
  refine CCalls.mono hpr fun v s9 hv => ?_
  obtain ⟨rfl, hs9⟩ := hv
  have hbn1 := (hfr.n _ _ _ rfl).1
  have hbv1 := (hfr.v _ _ _ rfl).1
  have hb1n := hfr.bn
  have hn4 := hs4.1
  simp only at hbn1 hbv1
  have k1 := (hs9.2 bn (by omega)).trans hbn
  have k2 := (hs9.2 bv (by omega)).trans hbv
  have k3 := (hs9.2 b (by omega)).trans g4
  simp -implicitDefEqProofs only [↓Zd, (Zp), if_true, if_false, Nat.reduceEqDiff, reduceCtorEq, Nat.reduceBEq, cld2, (HEx), (REx), f6, f5, f0, f4, f3, y3, wm, k1, k3, hx]
  refine ⟨o.L.length - (m + 1), by omega, m + 1, rfl, by omega, rfl, ?_, St.le_trans hs4 hs9⟩
  have e : propsL (o.L.take (m + 1)) = propsL (o.L.take m) ++ (propB (x, v1, v2, v3)).data.toList := by
    rw [List.take_add_one, hLm]
    show (o.L.take m ++ [_]).flatMap _ = _
    rw [List.flatMap_append]
    simp [propsL]
  rw [SB_app, SB_app, SB_app, SB_app, e, ← List.append_assoc, hSS]
  unfold propB
  simp only [ba_list_append, List.append_assoc]
end
end Go.Proofs.Tryz
