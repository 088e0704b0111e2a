/- A frame begins: the law's walk over its arguments. A lemma file: no statement of its own. -/
import Derived.Test.YtjjbmmgafclcaaaGreatqBB8
import Derived.Test.YtjjbmmgafclcaaaGreatqRowsV
set_option linter.unusedSimpArgs false
set_option linter.unusedVariables false
set_option linter.unusedSectionVars false
set_option maxRecDepth 100000
namespace Go.Proofs.Tryz
open Go.Cs Go.ChangeShapes Go.WideShapes Go.ChangeAt Go.RowKit Go.ChangeMaps
def cd0 : CodeD := ⟨0, 0, 0, 0, [], [], 0, none, fun _ => none⟩
def codeAt (us : List CodeD) (i : Nat) : CodeV := codeV (3 + i) (us.getD i cd0)
theorem baseBegins_walk {H : Type} {enc : TypeId × Value → H} {W : World} {r : Reach} {b0 : Nat} {v0 v2 : Value} {d0 d2 : DataW H} {p0 p2 : List MemPlace} {k n : Int} {x : ByteArray} (hval0 : Value.okWide Tryz.prog W r b0 25 v0) (h0 : DataW.Trod enc Tryz.prog W 0 (fun _ => true) true 25 v0 d0 p0) (hval2 : Value.okWide Tryz.prog W r b0 28 v2) (h2 : DataW.Trod enc Tryz.prog W 0 (fun _ => true) true 28 v2 d2 p2) :
    Calls Tryz.prog 3 #[v0, vA k n x, v2] W fun e w' => e = .returned (.bool true) ∧ Below W.heap.size W w' := by
  obtain ⟨g, u1, u2, rfl, hg, ⟨Pl, Pus, Pcp, Poi, Pad, pq, pv, _, pt, pl⟩, len, Ccp, us, Coi, Cad, cq, cv, ct, cl1, cl2, crel⟩ := open_prog hval0 h0
  obtain ⟨A, Aus, Acp, Aoi, Aad, aq, av, aok, at1, al, an, ac, au⟩ := open_vals2 hval2 h2
  have hget : ∀ i u, us[i]? = some u → us.getD i cd0 = u := fun i u h => by rw [List.getD_eq_getElem?_getD, h]; rfl
  have hrow : ∀ i u, us[i]? = some u → ∃ cs, cs.length = 5 ∧ CodeRel W u cs := fun i u h => crel u (List.mem_of_getElem? h)
  let C : List CodeV := (List.range len).map (codeAt us)
  have hCl : C.length = len := by simp [C]
  have hCg : ∀ i c, C[i]? = some c → i < len ∧ c = codeAt us i := fun i c h => by
    simp only [C, List.getElem?_map] at h
    obtain ⟨q, h1, h2⟩ := Option.map_eq_some_iff.1 h
    have h3 := List.getElem?_range (n := len) (i := i)
    have hi : i < len := by
      have := (List.getElem?_eq_some_iff.1 h1).1
      simpa using this
    rw [List.getElem?_range hi] at h1
    cases h1
    exact ⟨hi, h2.symm⟩
  let L : List (TypeId × List Value) := (9, Pus.flatMap strC) :: (27, Aus.flatMap valC) :: (38, rowsN (fun i => codeC (codeAt us i)) us.length) :: us.map fun u => (41, u.us.flatMap actIC)
  let B : List (Option BI) := Poi :: Aoi :: Coi :: us.map (·.oi)
  have hB3 : ∀ i u, us[i]? = some u → qRen B (3 + i) = u.oi := fun i u h => by
    show (B[3 + i]?).join = u.oi
    have : B[3 + i]? = some u.oi := by
      show (Poi :: Aoi :: Coi :: us.map (·.oi))[3 + i]? = _
      rw [show 3 + i = i + 1 + 1 + 1 by omega, List.getElem?_cons_succ, List.getElem?_cons_succ, List.getElem?_cons_succ, List.getElem?_map, h]
      rfl
    rw [this]; rfl
  have hat : ∀ i u, us[i]? = some u → (qSt L).at' (3 + i) = some (.cells (u.us.flatMap actIC) 41 false) := fun i u h => by
    rw [q_at]
    have : L[3 + i]? = some (41, u.us.flatMap actIC) := by
      show ((9, Pus.flatMap strC) :: (27, Aus.flatMap valC) :: (38, rowsN (fun i => codeC (codeAt us i)) us.length) :: us.map fun u => (41, u.us.flatMap actIC))[3 + i]? = _
      rw [show 3 + i = i + 1 + 1 + 1 by omega, List.getElem?_cons_succ, List.getElem?_cons_succ, List.getElem?_cons_succ, List.getElem?_map, h]
      rfl
    rw [this]; rfl
  have hnx : (qSt L).next = us.length + 3 := by show L.length = _; simp [L]
  have hP : PAt (qSt L) (Pad 0) Pl (Cad 2) C := by
    refine ⟨?_, ?_, fun c hc => ?_, fun c hc => ?_, pl, by rw [hCl]; exact cl2⟩
    · rcases pt with pt | ⟨rfl, pt⟩
      · exact .inl pt
      · exact .inr ⟨0, Pus, rfl, by rw [hnx]; omega, rfl, pt⟩
    · rcases ct with ct | rfl
      · exact .inl (List.eq_nil_of_length_eq_zero (by rw [hCl]; exact ct))
      · exact .inr ⟨2, us.length, fun i => codeC (codeAt us i), rfl, by rw [hnx]; omega, rfl, fun _ => rfl, by rw [hCl]; exact cl1, fun i c h => by rw [(hCg i c h).2]⟩
    · obtain ⟨i, hi⟩ := List.getElem?_of_mem hc
      obtain ⟨h1, rfl⟩ := hCg i c hi
      have hu : us[i]? = some (us[i]'(by omega)) := List.getElem?_eq_getElem _
      generalize us[i]'(by omega) = u at hu
      obtain ⟨cs, _, v, _, _, _, _, ht⟩ := hrow i u hu
      unfold codeAt
      rw [hget i u hu]
      rcases ht with ht | ⟨ht1, ht2⟩
      · exact .inl ht
      · refine .inr ⟨3 + i, u.us, ?_, by rw [hnx]; omega, hat i u hu, ht2⟩
        show u.ad (3 + i) = _
        rw [ht1]
    · obtain ⟨i, hi⟩ := List.getElem?_of_mem hc
      obtain ⟨h1, rfl⟩ := hCg i c hi
      have hu : us[i]? = some (us[i]'(by omega)) := List.getElem?_eq_getElem _
      generalize us[i]'(by omega) = u at hu
      obtain ⟨cs, _, v, _, ho, _⟩ := hrow i u hu
      unfold codeAt
      rw [hget i u hu]
      exact ho _
  have hA : AAt (qSt L) (Aad 1) A Acp := by
    rcases an with ⟨rfl, h1, h2⟩ | rfl
    · exact .inl ⟨rfl, h1, h2⟩
    · refine .inr ⟨1, Aus, rfl, by rw [hnx]; omega, rfl, fun i hi => ?_⟩
      rcases at1 with h | ⟨_, h⟩
      · rw [h] at hi; cases hi
      · exact h i hi
  refine calls_q (L := L) (B := B) (args := #[.agg #[.int .i64 g, .slice (Pad 0) Pl.length Pcp, .slice (Cad 2) C.length Ccp], vA k n x, .slice (Aad 1) A.length Acp]) (by simp [L, B]) ?_ ⟨rfl, ?_⟩ (baseBegins_spec hP hA ac au al fun _ => rfl)
  · intro j oi' r' g1 g2
    match j, g1, g2 with
    | 0, g1, g2 => cases g1; cases g2; exact pq _
    | 1, g1, g2 => cases g1; cases g2; exact aq _
    | 2, g1, g2 =>
      cases g1; cases g2
      refine cq _ _ (fun _ => rfl) fun i u hu cs hcs hrel q hq => ?_
      obtain ⟨v, rfl, ho, _, hv, _⟩ := hrel
      have e : codeC (codeAt us i) = [.int .i64 u.p, .int .i64 u.l, .int .i64 u.s, .int .i64 u.d, .slice (u.ad (3 + i)) u.ins.length u.cp] := by
        unfold codeAt
        rw [hget i u hu]
        rfl
      show VRel _ ((codeC (codeAt us i)).getD q Go.undef) _
      rw [e]
      match q, hq with
      | 0, _ => exact .int _ _
      | 1, _ => exact .int _ _
      | 2, _ => exact .int _ _
      | 3, _ => exact .int _ _
      | 4, _ => exact hv _ (3 + i) (hB3 i u hu)
    | j + 3, g1, g2 =>
      have g1 : (us.map (·.oi))[j]? = some oi' := g1
      have g2 : (us.map fun u => ((41, u.us.flatMap actIC) : TypeId × List Value))[j]? = some r' := g2
      rw [List.getElem?_map] at g1 g2
      obtain ⟨u, hu, rfl⟩ := Option.map_eq_some_iff.1 g1
      rw [hu] at g2
      cases g2
      obtain ⟨cs, _, v, _, _, hq, _⟩ := hrow j u hu
      exact hq _
  · intro i hi
    match i, hi with
    | 0, _ =>
      refine .agg rfl fun q hq => ?_
      match q, hq with
      | 0, _ => exact .int _ _
      | 1, _ => exact pv _ 0 rfl
      | 2, _ => show VRel _ (.slice (Cad 2) C.length Ccp) _; rw [hCl]; exact cv _ 2 rfl
    | 1, _ => exact VRel.of_plain 6 rfl
    | 2, _ => exact av _ 1 rfl
end Go.Proofs.Tryz
