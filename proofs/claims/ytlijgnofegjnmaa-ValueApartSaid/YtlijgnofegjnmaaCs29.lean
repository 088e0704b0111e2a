/- Rows that grow: what append makes of them. A lemma file: no statement of its own. -/
import Derived.Test.YtlijgnofegjnmaaCs28
set_option linter.unusedSimpArgs false
set_option linter.unusedVariables false
set_option linter.unusedSectionVars false
namespace Go.Cs
section
variable {M : Type} [Mem M] {P : Program} {w0 : World}
variable {d : Option Tmp} {ty : TypeId} {pos : String} {af : Array Edge} {g : Option (Nat × Bool)} {ev : Operand → Value} {s : St M} {K : Value → St M → Prop} {F : Value → St M → Option Value → Prop} {x y : Operand} {t t2 : TypeId}
theorem o_and : wop P w0 ⟨d, .binOp .and t x y t2, ty, pos, af, g⟩ ev s K = wbin P .and t x y (ev x) (ev y) fun v => K v s := rfl
theorem f_and : wfop P ⟨d, .binOp .and t x y t2, ty, pos, af, g⟩ ev s F = wbin P .and t x y (ev x) (ev y) fun v => F v s none := rfl
theorem wb_and {k : IntKind} {a b : Int} {G : Value → Prop} : wbin P .and t x y (.int k a) (.int k b) G = must (cbin P .and t x y (.int k a) (.int k b)) G := rfl
end
section
variable {M : Type} [Mem M]

theorem setCells_nil (vs : List Value) (o : Nat) : setCells vs o [] = vs := rfl
theorem setCells_cons (vs : List Value) (o : Nat) (c : Value) (cs : List Value) : setCells vs o (c :: cs) = setCells (vs.set o c) (o + 1) cs := rfl

theorem cut_all {vs : List Value} {n : Nat} (h : n = vs.length) : cut vs 0 n = some vs := by subst h; simp [cut]

/-- A slice of n elements of type e, whose cells are these; it is the whole of its block. -/
def SlC (e : TypeId) (sz : Nat) (s : St M) (sl : Value) (cs : List Value) (n : Nat) : Prop :=
  (n = 0 ∧ cs = [] ∧ sl = .slice none 0 0) ∨ (∃ b c, sl = .slice (some ⟨b, 0, none⟩) n c ∧ (c = UNK ∨ (c = n ∧ c < UNK)) ∧ s.at' b = some (.cells cs e true) ∧ cs.length = n * sz)

theorem SlC.same {e : TypeId} {sz : Nat} {s s' : St M} {sl : Value} {cs : List Value} {n : Nat} (h : SlC e sz s sl cs n) (hs : ∀ q m c, sl = .slice (some q) m c → s'.at' q.block = s.at' q.block) : SlC e sz s' sl cs n := by
  rcases h with h | ⟨b, c, h1, h2, h3, h4⟩
  · exact .inl h
  · exact .inr ⟨b, c, h1, h2, by rw [hs _ _ _ h1]; exact h3, h4⟩

/-- What append makes of a row. -/
theorem app_row {P : Program} {s : St M} {e t1 t2 : TypeId} {ie : TypeInfo} {z sl v : Value} {old new : List Value} {n k : Nat} (hie : P.info? e = some ie) (hz : czero P e = some z) (hzs : z.cells.size = ie.size) (hb : 0 < ie.bytes)
    (happ : capp P #[t1, t2] #[sl, v] s = capp3 P e ie sl s (cmore ie.size v s)) (hk : k ≠ 0) (hlen : (n + k) * ie.bytes ≤ 140737488355328) (hok : new.all okCell = true) (hv : cmore ie.size v s = some (k, new)) (hsl : SlC e ie.size s sl old n) :
    ∃ s', capp P #[t1, t2] #[sl, v] s = some (.slice (some ⟨s.next, 0, none⟩) (n + k) UNK, s') ∧ s'.next = s.next + 1 ∧ s'.at' s.next = some (.cells (old ++ new) e true) ∧
      (∀ b, b ≠ s.next → (∀ q m c, sl = .slice (some q) m c → b ≠ q.block) → s'.at' b = s.at' b) := by
  rw [happ, hv]
  unfold capp3
  simp only [hok, Bool.true_eq_false, if_false]
  rcases hsl with ⟨rfl, rfl, rfl⟩ | ⟨b, c, rfl, hc, hb', hl⟩
  · simp only [hk, if_false]
    unfold cgrow
    rw [hz]
    simp only [hzs]
    rw [if_pos ⟨trivial, hb, by simpa using hlen⟩]
    exact ⟨s.new (.cells new e true), by simp, by simp, by simp, fun c hc _ => by rw [St.at_new, if_neg hc]⟩
  · have hcut : cut old 0 (n * ie.size) = some old := cut_all (by rw [hl])
    rcases hc with rfl | ⟨rfl, hc2⟩
    · simp only [if_true, hk, if_false, hb']
      unfold capp4
      simp only [hcut, Nat.zero_mod, and_self, if_true]
      unfold cgrow
      rw [hz]
      simp only [hzs]
      rw [if_pos ⟨trivial, hb, hlen⟩]
      refine ⟨(s.kill b).new (.cells (old ++ new) e true), by simp, by simp, by simp, fun c hc hq => ?_⟩
      rw [St.at_new, St.next_kill, if_neg hc, St.at_kill, if_neg (hq _ _ _ rfl)]
    · have hc3 : ¬ c = UNK := by omega
      have hc4 : ¬ c + k ≤ c := by omega
      simp only [hc3, if_false, hc4]
      unfold capp5
      simp only [hb', hcut]
      unfold cgrow
      rw [hz]
      simp only [hzs]
      rw [if_pos ⟨trivial, hb, hlen⟩]
      exact ⟨_, rfl, rfl, by simp, fun c hc _ => by rw [St.at_new, if_neg hc]⟩
end
end Go.Cs
