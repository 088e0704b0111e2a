/- A program as an argument. A lemma file: no statement of its own. -/
import Derived.Test.YtjjbmmgafclcaaaGreatqRowsN
import Derived.Test.YtjjbmmgafclcaaaGreatqRowAI
set_option linter.unusedSimpArgs false
set_option linter.unusedVariables false
set_option linter.unusedSectionVars false
set_option maxRecDepth 100000
namespace Go.Proofs.Tryz
open Go.Cs Go.ChangeShapes Go.WideShapes Go.ChangeAt Go.RowKit Go.ChangeMaps
theorem I64.le {n : Int} (h : I64 n) : -9223372036854775808 ≤ n ∧ n ≤ 9223372036854775807 := h
structure CodeD where
  p : Int
  l : Int
  s : Int
  d : Int
  ins : List AID
  us : List AID
  cp : Nat
  oi : Option BI
  ad : Nat → Option Addr
structure CodeV where
  p : Int
  l : Int
  s : Int
  d : Int
  ins : List AID
  ad : Option Addr
  cp : Nat
def codeC (c : CodeV) : List Value := [.int .i64 c.p, .int .i64 c.l, .int .i64 c.s, .int .i64 c.d, .slice c.ad c.ins.length c.cp]
def codeV (j : Nat) (c : CodeD) : CodeV := ⟨c.p, c.l, c.s, c.d, c.ins, c.ad j, c.cp⟩
structure CodeOk (c : CodeV) : Prop where
  p : I64 c.p
  l : I64 c.l
  s : I64 c.s
  d : I64 c.d
  ins : ∀ a ∈ c.ins, ActIOk a
  len : c.ins.length ≤ 9223372036854775807
def CodeRel (W : World) (c : CodeD) (cs : List Value) : Prop := ∃ v, cs = [.int .i64 c.p, .int .i64 c.l, .int .i64 c.s, .int .i64 c.d, v] ∧ (∀ j, CodeOk (codeV j c)) ∧ (∀ ρ, QIn ρ W c.oi (c.us.flatMap actIC)) ∧ (∀ (ρ : Ren) j, ρ j = c.oi → VRel ρ (.slice (c.ad j) c.ins.length c.cp) v) ∧ (c.ins = [] ∨ (c.ad = fun j => some ⟨j, 0, none⟩) ∧ ∀ k, k < c.ins.length → c.us[k]? = c.ins[k]?)
theorem actI_plain (a : AID) : ∀ x ∈ actIC a, plain 6 x = true := by
  intro x hx
  simp only [actIC, List.mem_cons, List.not_mem_nil, or_false] at hx
  rcases hx with rfl | rfl | rfl <;> rfl
theorem el_Code {H : Type} {enc : TypeId × Value → H} {W : World} (n : Nat) (l : List Value) (y : DataW H × List MemPlace) (hf : DataW.trod enc Tryz.prog W 0 (fun _ => true) true n 38 l = some y) : ∃ c, CodeRel W c l := by
  obtain ⟨xs, m, _, hx, hl, hlen, hp⟩ := DataW.trod_struct underlying38 hf
  rw [ce38] at hl
  have h0 : DataW.trod enc Tryz.prog W 0 (fun _ => true) true m 3 (List.take (Tryz.prog.cellsOf 3) (List.drop 0 l)) = xs[0]? := hp 0 _ rfl
  have h1 : DataW.trod enc Tryz.prog W 0 (fun _ => true) true m 3 (List.take (Tryz.prog.cellsOf 3) (List.drop 1 l)) = xs[1]? := hp 1 _ rfl
  have h2 : DataW.trod enc Tryz.prog W 0 (fun _ => true) true m 3 (List.take (Tryz.prog.cellsOf 3) (List.drop 2 l)) = xs[2]? := hp 2 _ rfl
  have h3 : DataW.trod enc Tryz.prog W 0 (fun _ => true) true m 3 (List.take (Tryz.prog.cellsOf 3) (List.drop 3 l)) = xs[3]? := hp 3 _ rfl
  have h4 : DataW.trod enc Tryz.prog W 0 (fun _ => true) true m 36 (List.take (Tryz.prog.cellsOf 36) (List.drop 4 l)) = xs[4]? := hp 4 _ rfl
  rw [ce3] at h0 h1 h2 h3
  rw [ce36] at h4
  have hlen : xs.length = 5 := hlen
  match l, hl, xs, hlen with
  | [c0, c1, c2, c3, c4], _, [y0, y1, y2, y3, y4], _ =>
    simp only [List.drop_zero, List.drop_succ_cons, List.take_succ_cons, List.take_zero, List.getElem?_cons_zero, List.getElem?_cons_succ] at h0 h1 h2 h3 h4
    obtain ⟨a0, e0, rfl, w0⟩ := DataW.trod_int underlying3 h0
    simp only [List.cons.injEq, and_true] at e0
    subst e0
    obtain ⟨a1, e1, rfl, w1⟩ := DataW.trod_int underlying3 h1
    simp only [List.cons.injEq, and_true] at e1
    subst e1
    obtain ⟨a2, e2, rfl, w2⟩ := DataW.trod_int underlying3 h2
    simp only [List.cons.injEq, and_true] at e2
    subst e2
    obtain ⟨a3, e3, rfl, w3⟩ := DataW.trod_int underlying3 h3
    simp only [List.cons.injEq, and_true] at e3
    subst e3
    obtain ⟨A, us, cp, oi, ad, g1, g2, g3, g4, g5⟩ := open_in (c := 3) actIC ActIOk underlying36 ce41 (fun _ => rfl) actI_plain (by omega) el_AID h4
    exact ⟨⟨a0, a1, a2, a3, A, us, cp, oi, ad⟩, c4, rfl, fun j => ⟨Go.Cs.fits_i64 w0, Go.Cs.fits_i64 w1, Go.Cs.fits_i64 w2, Go.Cs.fits_i64 w3, g3, g5⟩, g1, g2, g4⟩
def strC (x : ByteArray) : List Value := [.string x]
def valC (x : Int × Int × ByteArray) : List Value := [.int .i64 x.1, .int .i64 x.2.1, .string x.2.2]
def ValOk (x : Int × Int × ByteArray) : Prop := I64 x.1 ∧ I64 x.2.1
theorem el_str {H : Type} {enc : TypeId × Value → H} {W : World} (n : Nat) (l : List Value) (y : DataW H × List MemPlace) (hf : DataW.trod enc Tryz.prog W 0 (fun _ => true) true n 9 l = some y) : ∃ a, l = strC a ∧ True := by
  obtain ⟨a, e, _, _⟩ := DataW.trod_string underlying9 hf
  exact ⟨a, e, trivial⟩
theorem el_val {H : Type} {enc : TypeId × Value → H} {W : World} (n : Nat) (l : List Value) (y : DataW H × List MemPlace) (hf : DataW.trod enc Tryz.prog W 0 (fun _ => true) true n 27 l = some y) : ∃ a, l = valC a ∧ ValOk a := by
  have hl : l.length = 3 := by
    obtain ⟨xs, m, _, _, hl, _⟩ := DataW.trod_struct underlying27 hf
    rw [ce27] at hl
    exact hl
  match l, hl with
  | [c0, c1, c2], _ =>
    obtain ⟨k, n, x, rfl, rfl, rfl, _, h1, h2, _⟩ := open_value_c hf
    exact ⟨(k, n, x), rfl, Go.Cs.fits_i64 h1, Go.Cs.fits_i64 h2⟩
theorem cellsP : Tryz.prog.cellTypes Tryz.prog.depth 25 = some [3, 22, 23] := by kernel_rfl
theorem open_prog {H : Type} {enc : TypeId × Value → H} {W : World} {r : Reach} {b0 : Nat} {v : Value} {d : DataW H} {ps : List MemPlace} (hval : Value.okWide Tryz.prog W r b0 25 v) (hd : DataW.Trod enc Tryz.prog W 0 (fun _ => true) true 25 v d ps) :
    ∃ (g : Int) (v1 v2 : Value), v = .agg #[.int .i64 g, v1, v2] ∧ I64 g ∧
    (∃ (A us : List ByteArray) (cp : Nat) (oi : Option BI) (ad : Nat → Option Addr), (∀ ρ, QIn ρ W oi (us.flatMap strC)) ∧ (∀ (ρ : Ren) j, ρ j = oi → VRel ρ (.slice (ad j) A.length cp) v1) ∧ (∀ a ∈ A, True) ∧ (A = [] ∨ (ad = fun j => some ⟨j, 0, none⟩) ∧ ∀ k, k < A.length → us[k]? = A[k]?) ∧ A.length ≤ 9223372036854775807) ∧
    ∃ (len cp : Nat) (us : List CodeD) (oi : Option BI) (ad : Nat → Option Addr), (∀ (ρ : Ren) (cl : Nat → List Value), (∀ i, (cl i).length = 5) → (∀ i u, us[i]? = some u → ∀ cs, cs.length = 5 → CodeRel W u cs → ∀ k, k < 5 → VRel ρ ((cl i).getD k Go.undef) (cs.getD k Go.undef)) → QIn ρ W oi (rowsN cl us.length)) ∧ (∀ (ρ : Ren) j, ρ j = oi → VRel ρ (.slice (ad j) len cp) v2) ∧ (len = 0 ∨ ad = fun j => some ⟨j, 0, none⟩) ∧ len ≤ us.length ∧ len ≤ 9223372036854775807 ∧ ∀ u ∈ us, ∃ cs, cs.length = 5 ∧ CodeRel W u cs := by
  have hval0 := hval
  simp only [Value.okWide, underlying25] at hval
  obtain ⟨cs, rfl, hcs, ts, hts, _, hrow⟩ := hval
  rw [cellsP] at hts
  cases hts
  rw [ce25] at hcs
  obtain ⟨fuel, hf⟩ := hd
  obtain ⟨xs, m, _, hx, hl, hlen, hp⟩ := DataW.trod_struct underlying25 hf
  have h0 : DataW.trod enc Tryz.prog W 0 (fun _ => true) true m 3 (List.take (Tryz.prog.cellsOf 3) (List.drop 0 cs.toList)) = xs[0]? := hp 0 _ rfl
  have h1 : DataW.trod enc Tryz.prog W 0 (fun _ => true) true m 22 (List.take (Tryz.prog.cellsOf 22) (List.drop 1 cs.toList)) = xs[1]? := hp 1 _ rfl
  have h2 : DataW.trod enc Tryz.prog W 0 (fun _ => true) true m 23 (List.take (Tryz.prog.cellsOf 23) (List.drop 2 cs.toList)) = xs[2]? := hp 2 _ rfl
  rw [ce3] at h0
  rw [ce22] at h1
  rw [ce23] at h2
  have hlen : xs.length = 3 := hlen
  obtain ⟨l⟩ := cs
  match l, hcs, xs, hlen with
  | [c0, c1, c2], _, [y0, y1, y2], _ =>
    simp only [List.drop_zero, List.drop_succ_cons, List.take_succ_cons, List.take_zero, List.getElem?_cons_zero, List.getElem?_cons_succ] at h0 h1 h2
    obtain ⟨g, e0, rfl, w0⟩ := DataW.trod_int underlying3 h0
    simp only [List.cons.injEq, and_true] at e0
    subst e0
    have hv1 : Value.okWide Tryz.prog W r b0 22 c1 := by
      obtain ⟨u, hu, hk⟩ := hrow 1 c1 rfl
      cases hu
      simp only [Value.okWide, underlying22]
      exact hk
    have hv2 : Value.okWide Tryz.prog W r b0 23 c2 := by
      obtain ⟨u, hu, hk⟩ := hrow 2 c2 rfl
      cases hu
      simp only [Value.okWide, underlying23]
      exact hk
    obtain ⟨d1, p1⟩ := y1
    obtain ⟨d2, p2⟩ := y2
    have e1 : ∀ (v : Value), (∃ l n c, v = Value.slice l n c) → v.cells.toList = [v] := by rintro _ ⟨_, _, _, rfl⟩; rfl
    obtain ⟨l1, n1, k1, f1⟩ := okWide_slice underlying22 hv1
    obtain ⟨l2, n2, k2, f2⟩ := okWide_slice underlying23 hv2
    have t1 : DataW.Trod enc Tryz.prog W 0 (fun _ => true) true 22 c1 d1 p1 := ⟨m, by rw [e1 c1 ⟨_, _, _, f1⟩]; exact h1⟩
    have t2 : DataW.Trod enc Tryz.prog W 0 (fun _ => true) true 23 c2 d2 p2 := ⟨m, by rw [e1 c2 ⟨_, _, _, f2⟩]; exact h2⟩
    refine ⟨g, c1, c2, rfl, Go.Cs.fits_i64 w0, ?_, ?_⟩
    · exact open_rows (c := 1) strC (fun _ => True) underlying22 ce9 (fun _ => rfl) (fun a x hx => by
        simp only [strC, List.mem_cons, List.not_mem_nil, or_false] at hx
        subst hx; rfl) (by omega) el_str hv1 t1
    · exact open_rowsN (c := 5) (CodeRel W) underlying23 ce38 (by omega) el_Code hv2 t2
end Go.Proofs.Tryz
