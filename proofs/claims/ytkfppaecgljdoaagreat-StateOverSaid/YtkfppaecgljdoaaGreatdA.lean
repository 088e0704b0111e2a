/- Lemmas, laid one behind the other by squeeze2.py. -/
import Derived.Orders
import Derived.Below
import Derived.KernelRfl
import Derived.RangeFuncRecord
import Derived.Laws.Sem
import Derived.Laws.Append
import Derived.OrdersIn
import Derived.OwnWalkIn
import Derived.RangeFuncSeq
import Derived.Scope
import Derived.ControlIn
set_option linter.unusedSimpArgs false
set_option linter.unusedVariables false
set_option linter.unusedSectionVars false
set_option linter.defProp false
section
namespace Go.Cs
theorem aI {a b:Prop}(x:a)(y:b):a∧b:=⟨x,y⟩
theorem oM{p:Prop}(h:p:=by omega):p:=h
theorem oK{p:Prop}(h:p:=by kernel_rfl):p:=h
open Go.RowKit (Below)
def unk:Value := .tuple #[.tuple #[]]
def oneCell:Value→Bool
 |.agg _=>false
 |.tuple _=>false
 |_=>true
def UNK:Nat:=9223372036854775808
structure BI where
 blk:Nat
 sh:Nat
 n:Nat
 esz:Nat
 kd:Nat
abbrev Ren:=Nat→Option BI
def ARel(ρ:Ren)(a a':Addr):Prop:=∃ i,ρ a.block=some i∧a.spot=none∧a'=⟨i.blk,a.off+i.sh,none⟩
def CapRel(ρ:Ren)(a:Addr)(n c c':Nat):Prop:=
 (c=c'∧c<UNK)∨(c=UNK∧n≤c'∧c' < UNK∧∀ i,ρ a.block=some i→i.esz=0∨a.off+i.sh+c'*i.esz≤i.n)
inductive VRel (ρ:Ren):Value→Value→Prop
 |unk (v':Value) (h:oneCell v'=true):VRel ρ unk v'
 |bool (b:Bool):VRel ρ (.bool b) (.bool b)
 |int (k:IntKind) (n:Int):VRel ρ (.int k n) (.int k n)
 |string (s:ByteArray):VRel ρ (.string s) (.string s)
 |nilPtr:VRel ρ (.pointer none) (.pointer none)
 |ptr {a a':Addr}(h:ARel ρ a a'):VRel ρ (.pointer (some a)) (.pointer (some a'))
 |nilSlice:VRel ρ (.slice none 0 0) (.slice none 0 0)
 |slice {a a':Addr}{n c c':Nat}(h:ARel ρ a a') (hc:CapRel ρ a n c c'):VRel ρ (.slice (some a) n c) (.slice (some a') n c')
 |void {a a':Addr}:VRel ρ (.slice (some a) 0 0) (.slice (some a') 0 0)
 |nilMap:VRel ρ (.map none) (.map none)
 |map {r:Nat}{i:BI}(h:ρ r=some i):VRel ρ (.map (some r)) (.map (some i.blk))
 |func (fn:Fn) {f f' c c':Array Value}(hfn:∀ l,fn ≠ .yield l) (hf:f.size=f'.size) (hfv:∀ i,i<f.size→VRel ρ (f.getD i undef) (f'.getD i undef))
   (hc:c.size=c'.size) (hcv:∀ i,i<c.size→VRel ρ (c.getD i undef) (c'.getD i undef)):VRel ρ (.func fn f c) (.func fn f' c')
 |yield {l:Nat}{i:BI}(h:ρ l=some i):VRel ρ (.func (.yield l) #[] #[]) (.func (.yield i.blk) #[] #[])
 |nilFunc:VRel ρ .nilFunc .nilFunc
 |nilIface:VRel ρ .nilIface .nilIface
 |iface (t:TypeId) {v v':Value}(h:VRel ρ v v'):VRel ρ (.iface t v) (.iface t v')
 |agg {c c':Array Value}(hc:c.size=c'.size) (hcv:∀ i,i<c.size→VRel ρ (c.getD i undef) (c'.getD i undef)):VRel ρ (.agg c) (.agg c')
 |over:VRel ρ (.tuple #[.bool false]) (.tuple #[.bool false])
 |tuple {c c':Array Value}(h1:c.size≠1) (hc:c.size=c'.size) (hcv:∀ i,i<c.size→VRel ρ (c.getD i undef) (c'.getD i undef)):VRel ρ (.tuple c) (.tuple c')
def VsRel(ρ:Ren)(c c':Array Value):Prop:=c.size=c'.size∧∀ i,i<c.size→VRel ρ (c.getD i undef) (c'.getD i undef)
def Ren.le(ρ ρ':Ren):Prop:=∀ b i,ρ b=some i→ρ' b=some i
theorem Ren.le_refl(ρ:Ren):ρ.le ρ:=fun _ _ h=>h
theorem Ren.le_trans{a b c:Ren}(h:a.le b)(h':b.le c):a.le c:=fun x i hx=>h' x i (h x i hx)
theorem ARel.mono{ρ ρ':Ren}(h:ρ.le ρ'){a a':Addr}:ARel ρ a a'→ARel ρ' a a':=fun ⟨i,hi,r⟩=>⟨i,h _ _ hi,r⟩
theorem CapRel.mono{ρ ρ':Ren}(h:ρ.le ρ'){a a':Addr}(ha:ARel ρ a a'){n c c':Nat}:CapRel ρ a n c c'→CapRel ρ' a n c c':=by
 rintro (h1|⟨h1,h2,h3,h4⟩)
 ·exact .inl h1
 ·refine .inr ⟨h1,h2,h3,fun i hi=>h4 i ?_⟩
  obtain⟨j,hj,_⟩:=ha
  have:=h _ _ hj
  rw[this]at hi
  cases hi
  exact hj
theorem VRel.mono{ρ ρ':Ren}(h:ρ.le ρ'){v v':Value}(hv:VRel ρ v v'):VRel ρ' v v':=by
 induction hv with
 |unk v' h1=>exact .unk v' h1
 |bool b=>exact .bool b
 |int k n=>exact .int k n
 |string s=>exact .string s
 |nilPtr=>exact .nilPtr
 |ptr ha=>exact .ptr (ha.mono h)
 |nilSlice=>exact .nilSlice
 |slice ha hc=>exact .slice (ha.mono h) (hc.mono h ha)
 |void=>exact .void
 |nilMap=>exact .nilMap
 |map hr=>exact .map (h _ _ hr)
 |func fn hfn hf _ hc _ ih1 ih2=>exact .func fn hfn hf ih1 hc ih2
 |yield hl=>exact .yield (h _ _ hl)
 |nilFunc=>exact .nilFunc
 |nilIface=>exact .nilIface
 |iface t _ ih=>exact .iface t ih
 |agg hc _ ih=>exact .agg hc ih
 |over=>exact .over
 |tuple h1 hc _ ih=>exact .tuple h1 hc ih
theorem VsRel.mono{ρ ρ':Ren}(h:ρ.le ρ'){c c':Array Value}(hc:VsRel ρ c c'):VsRel ρ' c c':=⟨hc.1,fun i hi=>(hc.2 i hi).mono h⟩
theorem VRel.undef(ρ:Ren):VRel ρ undef undef := .tuple (by simp) rfl (fun i hi=>by simp at hi)
theorem VsRel.getD{ρ:Ren}{c c':Array Value}(h:VsRel ρ c c')(i:Nat):VRel ρ (c.getD i Go.undef) (c'.getD i Go.undef):=by
 by_cases hi:i<c.size
 ·exact h.2 i hi
 ·have h1:c.getD i Go.undef=Go.undef:=by simp[Array.getD,hi]
  have h2:c'.getD i Go.undef=Go.undef:=by simp[Array.getD,← h.1,hi]
  rw[h1,h2]
  exact VRel.undef ρ
theorem VsRel.set{ρ:Ren}{c c':Array Value}(h:VsRel ρ c c')(t:Nat){v v':Value}(hv:VRel ρ v v') :
  VsRel ρ (c.setIfInBounds t v) (c'.setIfInBounds t v'):=by
 refine⟨by simp[h.1],fun i hi=>?_⟩
 simp only[Array.size_setIfInBounds]at hi
 have hi':i<c'.size:=h.1▸hi
 have h0:=h.2 i hi
 have e1:∀ (d:Array Value) (u:Value),i<d.size→(d.setIfInBounds t u).getD i Go.undef=if t=i then u else d.getD i Go.undef:=by
  intro d u hd
  rw[Array.getD_eq_getD_getElem?,Array.getElem?_setIfInBounds]
  by_cases e:t=i
  ·subst e;simp[hd]
  ·simp[e]
 rw[e1 c v hi,e1 c' v' hi']
 by_cases e:t=i
 ·simp[e,hv]
 ·simpa [e] using h0
def plain:Nat→Value→Bool
 |_,.bool _=>true
 |_,.int _ _=>true
 |_,.string _=>true
 |_,.nilIface=>true
 |_,.nilFunc=>true
 |_,.pointer none=>true
 |_,.map none=>true
 |_,.slice none 0 0=>true
 |n+1,.iface _ v=>plain n v
 |n+1,.agg cs=>cs.toList.all (plain n)
 |_,_=>false
theorem VRel.eq_of_plain{ρ:Ren}:∀ (n:Nat) {v v':Value},plain n v=true→VRel ρ v v'→v'=v:=by
 intro n
 induction n with
 |zero=>intro v v' hp hv;cases hv<;>first|rfl|(simp[plain,Cs.unk]at hp)
 |succ n ih =>
  intro v v' hp hv
  cases hv<;>first
   |rfl
   |(simp[plain,Cs.unk]at hp;done)
   |skip
  case iface t v v' h=>simp only[plain]at hp;rw[ih hp h]
  case agg c c' hc hcv =>
   simp only[plain,List.all_eq_true]at hp
   congr 1
   apply Array.ext hc.symm
   intro i h1 h2
   have h0:=hcv i h2
   simp only[Array.getD,h1,h2,dif_pos]at h0
   exact ih (hp _ (by simp)) h0
theorem VRel.of_plain{ρ:Ren}:∀ (n:Nat) {v:Value},plain n v=true→VRel ρ v v:=by
 intro n
 induction n with
 |zero =>
  intro v hp
  unfold plain at hp
  split at hp<;>first
   |exact .bool _
   |exact .int _ _
   |exact .string _
   |exact .nilIface
   |exact .nilFunc
   |exact .nilPtr
   |exact .nilMap
   |exact .nilSlice
   |cases hp
   |simp at *
 |succ n ih =>
  intro v hp
  unfold plain at hp
  split at hp<;>first
   |exact .bool _
   |exact .int _ _
   |exact .string _
   |exact .nilIface
   |exact .nilFunc
   |exact .nilPtr
   |exact .nilMap
   |exact .nilSlice
   |(cases hp;done)
   |skip
  case h_9 m t u hm=>cases hm;exact .iface t (ih hp)
  case h_10 m cs hm =>
   cases hm
   simp only[List.all_eq_true]at hp
   refine .agg rfl fun i hi=>?_
   have:=ih (hp cs[i] (by simp))
   simpa [Array.getD,hi] using this
inductive Blk where
 |cells (vs:List Value) (e:TypeId) (own:Bool)
 |map (es:List MapEntry) (clock:Nat)
 |strIter (s:ByteArray) (pos:Nat)
 |mapIter (m:Option Nat) (since:Nat) (seen:List Nat) (stepped:Nat)
 |loop (st:LoopState) (pend:Option Code) (ps:Array Tmp) (tmps:Array Value) (assign body:Code)
 deriving Inhabited
def Blk.isLoop:Blk→Bool
 |.loop ..=>true
 |_=>false
def Blk.owned:Blk→Bool
 |.cells _ _ own=>own
 |_=>true
def BRel(P:Program)(ρ:Ren)(i:BI):Blk→Obj→Prop
 |.cells vs e own,o=>∃ cs e' fr,o = .cells cs e' fr∧i.sh+vs.length≤cs.size∧(∀ k,k<vs.length→VRel ρ (vs.getD k undef) (cs.getD (i.sh+k) undef)) ∧
   (i.esz=0∨i.esz=P.cellsOf e)∧(own=true→e'=e∧(∀ j,j<cs.size→¬ (fr.1≤j∧j<fr.2))∧cs.size=i.n∧i.esz=P.cellsOf e∧i.sh % P.cellsOf e=0)
 |.map es clock,o=>∃ es',o = .map es' clock∧es'.size=es.length ∧
   ∀ k (h:k<es.length) (h':k<es'.size),es'[k].key=es[k].key∧es'[k].born=es[k].born∧plain 6 es[k].key=true∧VRel ρ es[k].val es'[k].val
 |.strIter s pos,o=>o = .stringIter s pos∧i.sh=0
 |.mapIter none since seen stepped,o=>o = .mapIter none since seen.toArray stepped
 |.mapIter (some m) since seen stepped,o=>∃ j,ρ m=some j∧o = .mapIter (some j.blk) since seen.toArray stepped
 |.loop st pend ps tmps assign body,o=>i.kd=2∧∃ fn tmps' D,o = .loop { state:=st,pending:=pend,fn:=fn,tmps:=tmps',params:=ps,assign:=assign,body:=body,defers:=D }∧VsRel ρ tmps tmps'
theorem BRel.mono{P:Program}{ρ ρ':Ren}(h:ρ.le ρ'){i:BI}{B:Blk}{o:Obj}:BRel P ρ i B o→BRel P ρ' i B o:=by
 cases B with
 |cells vs e own =>
  rintro⟨cs,e',fr,h1,h2,h3,h4⟩
  exact⟨cs,e',fr,h1,h2,fun k hk=>(h3 k hk).mono h,h4⟩
 |map es clock =>
  rintro⟨es',h1,h2,h3⟩
  exact⟨es',h1,h2,fun k hk hk'=>let ⟨a,b,c,d⟩:=h3 k hk hk';⟨a,b,c,d.mono h⟩⟩
 |strIter s pos=>exact id
 |mapIter m since seen stepped =>
  cases m with
  |none=>exact id
  |some m=>rintro⟨j,hj,ho⟩;exact⟨j,h _ _ hj,ho⟩
 |loop st pend ps tmps assign body=>rintro⟨h0,fn,tmps',D,ho,hv⟩;exact⟨h0,fn,tmps',D,ho,hv.mono h⟩
theorem BRel.not_deferred{P:Program}{ρ:Ren}{i:BI}{B:Blk}{ds:Option (List Deferred)}(h:BRel P ρ i B (.deferred ds)):False:=by
 cases B with
 |cells vs e own=>obtain⟨cs,e',fr,h1,_⟩:=h;cases h1
 |map es clock=>obtain⟨es',h1,_⟩:=h;cases h1
 |strIter s pos=>cases h.1
 |mapIter m since seen stepped =>
  cases m with
  |none=>cases h
  |some m=>obtain⟨j,hj,ho⟩:=h;cases ho
 |loop st pend ps tmps assign body=>obtain⟨h0,fn,tmps',D,ho,hv⟩:=h;cases ho
theorem BRel.is_loop{P:Program}{ρ:Ren}{i:BI}{B:Blk}{r:Loop}(h:BRel P ρ i B (.loop r)):B.isLoop=true:=by
 cases B with
 |cells vs e own=>obtain⟨cs,e',fr,h1,_⟩:=h;cases h1
 |map es clock=>obtain⟨es',h1,_⟩:=h;cases h1
 |strIter s pos=>cases h.1
 |mapIter m since seen stepped =>
  cases m with
  |none=>cases h
  |some m=>obtain⟨j,hj,ho⟩:=h;cases ho
 |loop st pend ps tmps assign body=>rfl
theorem BRel.loop_obj{P:Program}{ρ:Ren}{i:BI}{B:Blk}{o:Obj}(h:BRel P ρ i B o)(hB:B.isLoop=true):∃ r,o = .loop r:=by
 cases B with
 |loop st pend ps tmps assign body=>obtain⟨h0,fn,tmps',D,ho,hv⟩:=h;exact⟨_,ho⟩
 |_=>cases hB
class Mem (M:Type) where
 get:M→Nat→Option Blk
 set:M→Nat→Option Blk→M
 get_set:∀ m k v j,get (set m k v) j=if j=k then v else get m j
instance:Mem (Nat→Option Blk) where
 get m k:=m k
 set m k v:=fun j=>if j=k then v else m j
 get_set _ _ _ _:=rfl
structure St(M:Type) where
 mem:M
 next:Nat
def St.skip{M:Type}(s:St M):St M:={ s with next:=s.next+1 }
@[simp] theorem St.next_skip {M:Type}(s:St M):s.skip.next=s.next+1:=rfl
namespace St
variable {M:Type}[Mem M]
def at'(s:St M)(b:Nat):Option Blk:=Mem.get s.mem b
def put(s:St M)(b:Nat)(B:Blk):St M:={ s with mem:=Mem.set s.mem b (some B) }
def kill(s:St M)(b:Nat):St M:={ s with mem:=Mem.set s.mem b none }
def new(s:St M)(B:Blk):St M:={ mem:=Mem.set s.mem s.next (some B),next:=s.next+1 }
@[simp] theorem at_put (s:St M) (b:Nat) (B:Blk) (j:Nat):(s.put b B).at' j=if j=b then some B else s.at' j:=Mem.get_set _ _ _ _
@[simp] theorem at_kill (s:St M) (b:Nat) (j:Nat):(s.kill b).at' j=if j=b then none else s.at' j:=Mem.get_set _ _ _ _
@[simp] theorem at_new (s:St M) (B:Blk) (j:Nat):(s.new B).at' j=if j=s.next then some B else s.at' j:=Mem.get_set _ _ _ _
@[simp] theorem next_put (s:St M) (b:Nat) (B:Blk):(s.put b B).next=s.next:=rfl
@[simp] theorem next_kill (s:St M) (b:Nat):(s.kill b).next=s.next:=rfl
@[simp] theorem next_new (s:St M) (B:Blk):(s.new B).next=s.next+1:=rfl
end St
section
variable {M:Type}[Mem M](P:Program)(w0:World)
structure Rel(ρ:Ren)(s:St M)(w:World):Prop where
 dom:∀ b i,ρ b=some i→b<s.next
 lt:∀ b i,ρ b=some i→i.blk<w.heap.size
 blk:∀ b i B,ρ b=some i→s.at' b=some B→∃ o,w.heap[i.blk]?=some o∧BRel P ρ i B o
 own:∀ b i B,ρ b=some i→s.at' b=some B→B.owned=true→w0.heap.size≤i.blk
 inj:∀ b i B b2 i2 B2,ρ b=some i→s.at' b=some B→ρ b2=some i2→s.at' b2=some B2→i.blk=i2.blk→B.owned=true→b=b2
 below:Below w0.heap.size w0 w
 fresh:∀ b,s.next≤b→s.at' b=none
 one:∀ b i,ρ b=some i→i.kd=1→w.heap[i.blk]?=some (.deferred (some []))∧w0.heap.size≤i.blk∧∀ b2 i2,ρ b2=some i2→i2.blk=i.blk→b2=b
 two:∀ b i,ρ b=some i→i.kd=2→∃ r,w.heap[i.blk]?=some (.loop r)
structure Ext(ρ:Ren)(s:St M)(ρ':Ren)(s':St M):Prop where
 le:ρ.le ρ'
 old:∀ b,b<s.next→ρ' b=ρ b
 next:s.next≤s'.next
 unr:∀ b,b<s.next→ρ b=none→s'.at' b=s.at' b
end
section
variable {M:Type}[Mem M]{P:Program}{w0:World}
theorem Ext.refl(ρ:Ren)(s:St M):Ext ρ s ρ s:=⟨ρ.le_refl,fun _ _=>rfl,Nat.le_refl _,fun _ _ _=>rfl⟩
theorem Ext.trans{ρ ρ1 ρ2:Ren}{s s1 s2:St M}(h:Ext ρ s ρ1 s1)(h':Ext ρ1 s1 ρ2 s2):Ext ρ s ρ2 s2 where
 le:=Ren.le_trans h.le h'.le
 old b hb:=by rw[h'.old b (Nat.lt_of_lt_of_le hb h.next),h.old b hb]
 next:=Nat.le_trans h.next h'.next
 unr b hb hn:=by rw[h'.unr b (Nat.lt_of_lt_of_le hb h.next) (by rw[h.old b hb];exact hn),h.unr b hb hn]
theorem Rel.drew{ρ:Ren}{s:St M}{w:World}(h:Rel P w0 ρ s w)(n:Nat):Rel P w0 ρ s { w with drawn:=n } where
 dom:=h.dom
 lt:=h.lt
 blk:=h.blk
 own:=h.own
 inj:=h.inj
 below:=⟨h.below.os,h.below.tape,h.below.output,h.below.size,h.below.block⟩
 fresh:=h.fresh
 one:=h.one
 two:=h.two
def Ren.add(ρ:Ren)(b:Nat)(i:BI):Ren:=fun j=>if j=b then some i else ρ j
theorem Ren.le_add{ρ:Ren}{b:Nat}{i:BI}(h:ρ b=none):ρ.le (ρ.add b i):=by
 intro x j hx
 unfold Ren.add
 split
 ·subst_vars;rw[h]at hx;cases hx
 ·exact hx
@[simp] theorem Ren.add_same (ρ:Ren) (b:Nat) (i:BI):ρ.add b i b=some i:=by simp[Ren.add]
theorem Rel.place{ρ:Ren}{s:St M}{w:World}(h:Rel P w0 ρ s w){b:Nat}{B:Blk}{o:Obj}{i:BI}(hb:b<s.next)(hn:ρ b=none)(hB:s.at' b=some B)
  (hi:i.blk=w.heap.size)(ho:BRel P (ρ.add b i) i B o)(hk:i.kd=0∨i.kd=2∧∃ r,o = .loop r):Rel P w0 (ρ.add b i) s { w with heap:=w.heap.push o }:=by
 have hle:=Ren.le_add (ρ:=ρ) (b:=b) (i:=i) hn
 have hcase:∀ {x j},ρ.add b i x=some j→(x=b∧j=i)∨(x≠b∧ρ x=some j):=by
  intro x j hx
  unfold Ren.add at hx
  split at hx
  ·cases hx;exact .inl ⟨by assumption,rfl⟩
  ·exact .inr ⟨by assumption,hx⟩
 have hpush:∀ {x j},ρ x=some j→(w.heap.push o)[j.blk]?=w.heap[j.blk]?:=by
  intro x j hx
  have:=h.lt _ _ hx
  rw[Array.getElem?_push,if_neg oM]
 refine⟨?_,?_,?_,?_,?_,?_,h.fresh,?_,?_⟩
 rotate_left 6
 ·intro x j hx hj
  rcases hcase hx with ⟨rfl,rfl⟩|⟨hne,hx'⟩
  ·rcases hk with hk|hk<;>omega
  ·obtain⟨h1,h2,h3⟩:=h.one x j hx' hj
   refine⟨(hpush hx').trans h1,h2,fun x2 j2 hx2 he=>?_⟩
   rcases hcase hx2 with ⟨_,e2⟩|⟨_,hx2⟩
   ·have:=h.lt _ _ hx';rw[e2]at he;omega
   ·exact h3 _ _ hx2 he
 ·intro x j hx hj
  rcases hcase hx with ⟨rfl,rfl⟩|⟨hne,hx⟩
  ·rcases hk with hk|⟨_,r,rfl⟩
   ·omega
   ·exact⟨r,by simp[hi]⟩
  ·obtain⟨r,hr⟩:=h.two x j hx hj
   exact⟨r,(hpush hx).trans hr⟩
 ·intro x j hx
  rcases hcase hx with ⟨rfl,rfl⟩|⟨_,hx⟩
  ·exact hb
  ·exact h.dom _ _ hx
 ·intro x j hx
  simp only[Array.size_push]
  rcases hcase hx with ⟨rfl,rfl⟩|⟨_,hx⟩
  ·omega
  ·have:=h.lt _ _ hx;omega
 ·intro x j C hx hC
  rcases hcase hx with ⟨rfl,rfl⟩|⟨_,hx⟩
  ·rw[hB]at hC;cases hC
   exact⟨o,by simp[hi],ho⟩
  ·obtain⟨o',ho',hr⟩:=h.blk _ _ _ hx hC
   have:=h.lt _ _ hx
   refine⟨o',?_,hr.mono hle⟩
   simp only[Array.getElem?_push]
   rw[if_neg oM];exact ho'
 ·intro x j C hx hC hw
  rcases hcase hx with ⟨rfl,rfl⟩|⟨_,hx⟩
  ·have:=h.below.size;omega
  ·exact h.own _ _ _ hx hC hw
 ·intro x j C x2 j2 C2 hx hC hx2 hC2 he hw
  rcases hcase hx with ⟨rfl,rfl⟩|⟨hne,hx⟩
  ·rcases hcase hx2 with ⟨rfl,rfl⟩|⟨_,hx2⟩
   ·rfl
   ·have:=h.lt _ _ hx2;omega
  ·rcases hcase hx2 with ⟨e1,e2⟩|⟨_,hx2⟩
   ·have:=h.lt _ _ hx;rw[e2]at he;omega
   ·exact h.inj _ _ _ _ _ _ hx hC hx2 hC2 he hw
 ·refine⟨h.below.os,h.below.tape,h.below.output,by have:=h.below.size;simp;omega,fun k hk=>?_⟩
  have:=h.below.size
  simp only[Array.getElem?_push]
  rw[if_neg oM]
  exact h.below.block k hk
theorem Rel.new{ρ:Ren}{s:St M}{w:World}(h:Rel P w0 ρ s w)(B:Blk):Rel P w0 ρ (s.new B) w where
 dom b i hb:=by have:=h.dom b i hb;simp;omega
 lt:=h.lt
 blk b i C hb hC:=by
  have:=h.dom b i hb
  rw[St.at_new,if_neg oM]at hC
  exact h.blk b i C hb hC
 own b i C hb hC:=by
  have:=h.dom b i hb
  rw[St.at_new,if_neg oM]at hC
  exact h.own b i C hb hC
 inj b i C b2 i2 C2 hb hC hb2 hC2:=by
  have:=h.dom b i hb
  have:=h.dom b2 i2 hb2
  rw[St.at_new,if_neg oM]at hC hC2
  exact h.inj b i C b2 i2 C2 hb hC hb2 hC2
 below:=h.below
 fresh b hb:=by simp at hb;rw[St.at_new,if_neg oM];exact h.fresh b oM
 one:=h.one
 two:=h.two
theorem Rel.none_next{ρ:Ren}{s:St M}{w:World}(h:Rel P w0 ρ s w){b:Nat}(hb:s.next≤b):ρ b=none:=by
 cases e:ρ b with
 |none=>rfl
 |some i=>have:=h.dom b i e;omega
theorem Ext.new(ρ:Ren)(s:St M)(B:Blk):Ext ρ s ρ (s.new B):=
 ⟨ρ.le_refl,fun _ _=>rfl,by simp,fun b hb _=>by rw[St.at_new,if_neg oM]⟩
theorem Ext.place{ρ:Ren}{s:St M}{b:Nat}(i:BI)(hn:ρ b=none)(s1:St M)(hb:s1.next≤b)(h:Ext ρ s1 ρ s):Ext ρ s1 (ρ.add b i) s where
 le:=Ren.le_add hn
 old x hx:=by unfold Ren.add;rw[if_neg oM]
 next:=h.next
 unr:=h.unr
theorem Rel.alloc{ρ:Ren}{s:St M}{w:World}(h:Rel P w0 ρ s w){B:Blk}{o:Obj}{i:BI}(hi:i.blk=w.heap.size)
  (ho:BRel P (ρ.add s.next i) i B o)(hk:i.kd=0∨i.kd=2∧∃ r,o = .loop r):Rel P w0 (ρ.add s.next i) (s.new B) { w with heap:=w.heap.push o }∧Ext ρ s (ρ.add s.next i) (s.new B):=
 have hn:=h.none_next (Nat.le_refl s.next)
 ⟨(h.new B).place (by simp) hn (by simp) hi ho hk,Ext.place i hn s (Nat.le_refl _) (Ext.new ρ s B)⟩
theorem Rel.write{ρ:Ren}{s:St M}{w:World}(h:Rel P w0 ρ s w){b:Nat}{i:BI}{B C:Blk}{o:Obj}(hb:ρ b=some i)(hB:s.at' b=some B)(hw:B.owned=true)
  (ho:BRel P ρ i C o)(hk:C.isLoop=B.isLoop:=by rfl):Rel P w0 ρ (s.put b C) { w with heap:=w.heap.setIfInBounds i.blk o }∧Ext ρ s ρ (s.put b C):=by
 obtain⟨oB,hoB,hBR⟩:=h.blk _ _ _ hb hB
 refine⟨⟨h.dom,fun x j hx=>by simpa using h.lt x j hx,?_,?_,?_,?_,fun x hx=>by rw[St.at_put,if_neg (by have:=h.dom _ _ hb;simp at hx;omega)];exact h.fresh x hx,?_,?_⟩,⟨ρ.le_refl,fun _ _=>rfl,Nat.le_refl _,fun x _ hn=>?_⟩⟩
 rotate_left 4
 ·intro x j hx hj
  obtain⟨h1,h2,h3⟩:=h.one x j hx hj
  refine⟨?_,h2,h3⟩
  simp only[Array.getElem?_setIfInBounds]
  rw[if_neg]
  ·exact h1
  ·intro he
   rw[← he,hoB]at h1
   cases h1
   exact hBR.not_deferred
 ·intro x j hx hj
  obtain⟨r,hr⟩:=h.two x j hx hj
  simp only[Array.getElem?_setIfInBounds]
  by_cases he:i.blk=j.blk
  ·rw[if_pos he,if_pos (h.lt _ _ hb)]
   rw[← he,hoB]at hr
   cases hr
   obtain⟨r',rfl⟩:=ho.loop_obj (hk.trans hBR.is_loop)
   exact⟨r',rfl⟩
  ·rw[if_neg he];exact⟨r,hr⟩
 rotate_left 1
 ·intro x j D hx hD
  rw[St.at_put]at hD
  by_cases e:x=b
  ·subst e
   rw[if_pos rfl]at hD
   cases hD
   rw[hb]at hx;cases hx
   exact⟨o,by simp[h.lt _ _ hb],ho⟩
  ·rw[if_neg e]at hD
   obtain⟨o',ho',hr⟩:=h.blk _ _ _ hx hD
   refine⟨o',?_,hr⟩
   simp only[Array.getElem?_setIfInBounds]
   rw[if_neg]
   ·exact ho'
   ·intro he
    exact e (h.inj _ _ _ _ _ _ hb hB hx hD he hw).symm
 ·intro x j D hx hD hDw
  rw[St.at_put]at hD
  by_cases e:x=b
  ·subst e
   exact h.own _ _ _ hx hB hw
  ·rw[if_neg e]at hD
   exact h.own _ _ _ hx hD hDw
 ·intro x j D x2 j2 D2 hx hD hx2 hD2 he hDw
  rw[St.at_put]at hD hD2
  by_cases e:x=b
  ·subst e
   by_cases e2:x2=x
   ·exact e2.symm
   ·rw[if_neg e2]at hD2
    exact h.inj _ _ _ _ _ _ hx hB hx2 hD2 he hw
  ·rw[if_neg e]at hD
   by_cases e2:x2=b
   ·subst e2
    exact h.inj _ _ _ _ _ _ hx hD hx2 hB he hDw
   ·rw[if_neg e2]at hD2
    exact h.inj _ _ _ _ _ _ hx hD hx2 hD2 he hDw
 ·refine⟨h.below.os,h.below.tape,h.below.output,by have:=h.below.size;simpa using this,fun k hk=>?_⟩
  have:=h.own _ _ _ hb hB hw
  simp only[Array.getElem?_setIfInBounds]
  rw[if_neg oM]
  exact h.below.block k hk
 ·rw[St.at_put,if_neg]
  intro e;subst e;rw[hn]at hb;cases hb
theorem Rel.noput{ρ:Ren}{s:St M}{w:World}(h:Rel P w0 ρ s w){b:Nat}{C:Blk}(hB:s.at' b=some C):Rel P w0 ρ (s.put b C) w∧Ext ρ s ρ (s.put b C):=by
 have hat:∀ x,(s.put b C).at' x=s.at' x:=fun x=>by
  rw[St.at_put]
  split
  ·rename_i e;rw[e,hB]
  ·rfl
 exact⟨⟨h.dom,h.lt,fun x i B hx hb=>h.blk x i B hx (by rw[← hat];exact hb),fun x i B hx hb=>h.own x i B hx (by rw[← hat];exact hb),fun x i B x2 i2 B2 hx hb hx2 hb2=>h.inj x i B x2 i2 B2 hx (by rw[← hat];exact hb) hx2 (by rw[← hat];exact hb2),h.below,fun x hx=>by rw[hat];exact h.fresh x hx,h.one,h.two⟩,
  ρ.le_refl,fun _ _=>rfl,Nat.le_refl _,fun x _ _=>hat x⟩
theorem Rel.kill{ρ:Ren}{s:St M}{w:World}(h:Rel P w0 ρ s w){b:Nat}{i:BI}(hb:ρ b=some i):Rel P w0 ρ (s.kill b) w∧Ext ρ s ρ (s.kill b):=by
 have hat:∀ {x C},(s.kill b).at' x=some C→s.at' x=some C:=by
  intro x C hx
  rw[St.at_kill]at hx
  split at hx
  ·cases hx
  ·exact hx
 refine⟨⟨h.dom,h.lt,fun x j C hx hC=>h.blk x j C hx (hat hC),fun x j C hx hC=>h.own x j C hx (hat hC),
  fun x j C x2 j2 C2 hx hC hx2 hC2=>h.inj x j C x2 j2 C2 hx (hat hC) hx2 (hat hC2),h.below,(fun x hx=>by rw[St.at_kill];split<;>first|rfl|exact h.fresh x hx),h.one,h.two⟩,⟨ρ.le_refl,fun _ _=>rfl,Nat.le_refl _,fun x _ hn=>?_⟩⟩
 rw[St.at_kill,if_neg]
 intro e;subst e;rw[hn]at hb;cases hb
theorem Rel.takeOver{ρ:Ren}{s:St M}{w:World}(h:Rel P w0 ρ s w){b:Nat}{i j:BI}{B C:Blk}{o:Obj}(hb:ρ b=some i)(hB:s.at' b=some B)(hw:B.owned=true)(hj:j.blk=i.blk)
  (ho:BRel P (ρ.add s.next j) j C o)(hk:j.kd=0)(hkB:B.isLoop=false):Rel P w0 (ρ.add s.next j) ((s.kill b).new C) { w with heap:=w.heap.setIfInBounds i.blk o }:=by
 obtain⟨oB,hoB,hBR⟩:=h.blk _ _ _ hb hB
 have hn:=h.none_next (Nat.le_refl s.next)
 have hle:=Ren.le_add (ρ:=ρ) (b:=s.next) (i:=j) hn
 have hlt:=h.dom _ _ hb
 have hcase:∀ {x k},ρ.add s.next j x=some k→(x=s.next∧k=j)∨(x≠s.next∧ρ x=some k):=by
  intro x k hx
  unfold Ren.add at hx
  split at hx
  ·cases hx;exact .inl ⟨by assumption,rfl⟩
  ·exact .inr ⟨by assumption,hx⟩
 have hat:∀ {x D},x≠s.next→((s.kill b).new C).at' x=some D→x≠b∧s.at' x=some D:=by
  intro x D hx hD
  rw[St.at_new,St.next_kill,if_neg hx,St.at_kill]at hD
  split at hD
  ·cases hD
  ·exact⟨by assumption,hD⟩
 have hat0:∀ {D},((s.kill b).new C).at' s.next=some D→D=C:=by
  intro D hD
  rw[St.at_new,St.next_kill,if_pos rfl]at hD
  exact (Option.some.inj hD).symm
 refine⟨?_,?_,?_,?_,?_,?_,(fun x hx=>by simp at hx;rw[St.at_new,St.next_kill,if_neg oM,St.at_kill];split<;>first|rfl|exact h.fresh x oM),?_,?_⟩
 rotate_left 6
 ·intro x k hx hk1
  rcases hcase hx with ⟨_,rfl⟩|⟨_,hx⟩
  ·omega
  ·obtain⟨h1,h2,h3⟩:=h.one x k hx hk1
   have hne:¬ i.blk=k.blk:=by
    intro he
    rw[← he,hoB]at h1
    cases h1
    exact hBR.not_deferred
   refine⟨?_,h2,fun x2 k2 hx2 he=>?_⟩
   ·simp only[Array.getElem?_setIfInBounds]
    rw[if_neg hne];exact h1
   ·rcases hcase hx2 with ⟨_,rfl⟩|⟨_,hx2⟩
    ·omega
    ·exact h3 _ _ hx2 he
 ·intro x k hx hk2
  rcases hcase hx with ⟨_,rfl⟩|⟨_,hx⟩
  ·omega
  ·obtain⟨r,hr⟩:=h.two x k hx hk2
   refine⟨r,?_⟩
   simp only[Array.getElem?_setIfInBounds]
   rw[if_neg]
   ·exact hr
   ·intro he
    rw[← he,hoB]at hr
    cases hr
    have:=hBR.is_loop
    rw[hkB]at this;cases this
 ·intro x k hx
  simp only[St.next_new,St.next_kill]
  rcases hcase hx with ⟨rfl,_⟩|⟨_,hx⟩
  ·omega
  ·have:=h.dom _ _ hx;omega
 ·intro x k hx
  simp only[Array.size_setIfInBounds]
  rcases hcase hx with ⟨_,rfl⟩|⟨_,hx⟩
  ·rw[hj];exact h.lt _ _ hb
  ·exact h.lt _ _ hx
 ·intro x k D hx hD
  rcases hcase hx with ⟨rfl,rfl⟩|⟨hne,hx⟩
  ·obtain rfl:=hat0 hD
   exact⟨o,by simp[hj,h.lt _ _ hb],ho⟩
  ·obtain⟨hxb,hD⟩:=hat hne hD
   obtain⟨o',ho',hr⟩:=h.blk _ _ _ hx hD
   refine⟨o',?_,hr.mono hle⟩
   simp only[Array.getElem?_setIfInBounds]
   rw[if_neg]
   ·exact ho'
   ·intro he
    exact hxb (h.inj _ _ _ _ _ _ hb hB hx hD he hw).symm
 ·intro x k D hx hD hDw
  rcases hcase hx with ⟨rfl,rfl⟩|⟨hne,hx⟩
  ·rw[hj];exact h.own _ _ _ hb hB hw
  ·exact h.own _ _ _ hx (hat hne hD).2 hDw
 ·intro x k D x2 k2 D2 hx hD hx2 hD2 he hDw
  rcases hcase hx with ⟨e1,e2⟩|⟨hne,hx⟩
  ·rcases hcase hx2 with ⟨e3,e4⟩|⟨hne2,hx2⟩
   ·rw[e1,e3]
   ·obtain⟨hxb,hD2⟩:=hat hne2 hD2
    rw[e2,hj]at he
    exact (hxb (h.inj _ _ _ _ _ _ hb hB hx2 hD2 he hw).symm).elim
  ·obtain⟨hxb,hD⟩:=hat hne hD
   rcases hcase hx2 with ⟨e3,e4⟩|⟨hne2,hx2⟩
   ·rw[e4,hj]at he
    exact (hxb (h.inj _ _ _ _ _ _ hb hB hx hD he.symm hw).symm).elim
   ·exact h.inj _ _ _ _ _ _ hx hD hx2 (hat hne2 hD2).2 he hDw
 ·refine⟨h.below.os,h.below.tape,h.below.output,by have:=h.below.size;simpa using this,fun k hk=>?_⟩
  have:=h.own _ _ _ hb hB hw
  simp only[Array.getElem?_setIfInBounds]
  rw[if_neg oM]
  exact h.below.block k hk
def Ren.flip(ρ ρ':Ren):Prop:=∀ b,(ρ b=none∧ρ' b=none)∨∃ i k,ρ b=some i∧ρ' b=some { i with kd:=k }
theorem Ren.flip.some{ρ ρ':Ren}(h:ρ.flip ρ'){b:Nat}{i:BI}(hb:ρ b=some i):∃ k,ρ' b = .some { i with kd:=k }:=by
 rcases h b with ⟨h1,_⟩|⟨j,k,h1,h2⟩
 ·rw[h1]at hb;cases hb
 ·rw[h1]at hb;cases hb;exact⟨k,h2⟩
theorem Ren.flip.back{ρ ρ':Ren}(h:ρ.flip ρ'){b:Nat}{i:BI}(hb:ρ' b=Option.some i):∃ k,ρ b = .some { i with kd:=k }:=by
 rcases h b with ⟨_,h1⟩|⟨j,k,h1,h2⟩
 ·rw[h1]at hb;cases hb
 ·rw[h2]at hb;cases hb;exact⟨j.kd,h1⟩
theorem VRel.flip{ρ ρ':Ren}(h:ρ.flip ρ'){v v':Value}(hv:VRel ρ v v'):VRel ρ' v v':=by
 have hA:∀ {a a':Addr},ARel ρ a a'→ARel ρ' a a':=by
  rintro a a' ⟨i,hi,h1,h2⟩
  obtain⟨k,hk⟩:=h.some hi
  exact⟨_,hk,h1,h2⟩
 induction hv with
 |unk v' h1=>exact .unk v' h1
 |bool b=>exact .bool b
 |int k n=>exact .int k n
 |string s=>exact .string s
 |nilPtr=>exact .nilPtr
 |ptr ha=>exact .ptr (hA ha)
 |nilSlice=>exact .nilSlice
 |slice ha hc =>
  refine .slice (hA ha) ?_
  rcases hc with h1|⟨h1,h2,h3,h4⟩
  ·exact .inl h1
  ·refine .inr ⟨h1,h2,h3,fun i hi=>?_⟩
   obtain⟨k,hk⟩:=h.back hi
   have:=h4 _ hk
   exact this
 |void=>exact .void
 |nilMap=>exact .nilMap
 |map hr =>
  obtain⟨k,hk⟩:=h.some hr
  exact .map (i:=⟨_,_,_,_,k⟩) hk
 |func fn hfn hf _ hc _ ih1 ih2=>exact .func fn hfn hf ih1 hc ih2
 |yield hl =>
  obtain⟨k,hk⟩:=h.some hl
  exact .yield (i:=⟨_,_,_,_,k⟩) hk
 |nilFunc=>exact .nilFunc
 |nilIface=>exact .nilIface
 |iface t _ ih=>exact .iface t ih
 |agg hc _ ih=>exact .agg hc ih
 |over=>exact .over
 |tuple h1 hc _ ih=>exact .tuple h1 hc ih
theorem VsRel.flip{ρ ρ':Ren}(h:ρ.flip ρ'){c c':Array Value}(hc:VsRel ρ c c'):VsRel ρ' c c':=⟨hc.1,fun i hi=>(hc.2 i hi).flip h⟩
theorem BRel.flip{ρ ρ':Ren}(h:ρ.flip ρ'){i:BI}{B:Blk}{o:Obj}(hB:BRel P ρ i B o):BRel P ρ' i B o:=by
 cases B with
 |cells vs e own =>
  obtain⟨cs,e',fr,h1,h2,h3,h4⟩:=hB
  exact⟨cs,e',fr,h1,h2,fun k hk=>(h3 k hk).flip h,h4⟩
 |map es clock =>
  obtain⟨es',h1,h2,h3⟩:=hB
  exact⟨es',h1,h2,fun k hk hk'=>let ⟨a,b,c,d⟩:=h3 k hk hk';⟨a,b,c,d.flip h⟩⟩
 |strIter s pos=>exact hB
 |mapIter m since seen stepped =>
  cases m with
  |none=>exact hB
  |some m =>
   obtain⟨j,hj,ho⟩:=hB
   obtain⟨k,hk⟩:=h.some hj
   exact⟨_,hk,ho⟩
 |loop st pend ps tmps assign body=>obtain⟨h0,fn,tmps',D,ho,hv⟩:=hB;exact⟨h0,fn,tmps',D,ho,hv.flip h⟩
theorem Rel.mark{ρ:Ren}{s:St M}{w:World}(h:Rel P w0 ρ s w) :
  Rel P w0 (ρ.add s.next ⟨w.heap.size,0,0,0,1⟩) s.skip { w with heap:=w.heap.push (.deferred (some [])) }∧Ext ρ s (ρ.add s.next ⟨w.heap.size,0,0,0,1⟩) s.skip:=by
 have hn:=h.none_next (Nat.le_refl s.next)
 have hle:=Ren.le_add (ρ:=ρ) (b:=s.next) (i:=⟨w.heap.size,0,0,0,1⟩) hn
 have hcase:∀ {x j},ρ.add s.next ⟨w.heap.size,0,0,0,1⟩ x=some j→(x=s.next∧j=⟨w.heap.size,0,0,0,1⟩)∨(x≠s.next∧ρ x=some j):=by
  intro x j hx
  unfold Ren.add at hx
  split at hx
  ·cases hx;exact .inl ⟨by assumption,rfl⟩
  ·exact .inr ⟨by assumption,hx⟩
 have hpush:∀ {x j},ρ x=some j→(w.heap.push (.deferred (some [])))[j.blk]?=w.heap[j.blk]?:=by
  intro x j hx
  have:=h.lt _ _ hx
  rw[Array.getElem?_push,if_neg oM]
 have hnone:∀ {B},s.skip.at' s.next=some B→False:=by
  intro B hB
  have:s.at' s.next=some B:=hB
  rw[h.fresh _ (Nat.le_refl _)]at this;cases this
 refine⟨⟨?_,?_,?_,?_,?_,?_,fun b hb=>h.fresh b (by simp at hb;omega),?_,?_⟩,⟨hle,fun x hx=>by unfold Ren.add;rw[if_neg oM],by simp,fun _ _ _=>rfl⟩⟩
 ·intro x j hx
  rcases hcase hx with ⟨rfl,_⟩|⟨_,hx⟩
  ·simp
  ·have:=h.dom _ _ hx;simp;omega
 ·intro x j hx
  simp only[Array.size_push]
  rcases hcase hx with ⟨_,rfl⟩|⟨_,hx⟩
  ·simp
  ·have:=h.lt _ _ hx;omega
 ·intro x j C hx hC
  rcases hcase hx with ⟨rfl,_⟩|⟨_,hx⟩
  ·exact (hnone hC).elim
  ·obtain⟨o',ho',hr⟩:=h.blk _ _ _ hx hC
   exact⟨o',(hpush hx).trans ho',hr.mono hle⟩
 ·intro x j C hx hC hw
  rcases hcase hx with ⟨rfl,_⟩|⟨_,hx⟩
  ·exact (hnone hC).elim
  ·exact h.own _ _ _ hx hC hw
 ·intro x j C x2 j2 C2 hx hC hx2 hC2 he hw
  rcases hcase hx with ⟨rfl,_⟩|⟨_,hx⟩
  ·exact (hnone hC).elim
  ·rcases hcase hx2 with ⟨rfl,_⟩|⟨_,hx2⟩
   ·exact (hnone hC2).elim
   ·exact h.inj _ _ _ _ _ _ hx hC hx2 hC2 he hw
 ·refine⟨h.below.os,h.below.tape,h.below.output,by have:=h.below.size;simp;omega,fun k hk=>?_⟩
  have:=h.below.size
  simp only[Array.getElem?_push]
  rw[if_neg oM]
  exact h.below.block k hk
 ·intro x j hx hj
  rcases hcase hx with ⟨rfl,rfl⟩|⟨hne,hx⟩
  ·refine⟨by simp,by have:=h.below.size;exact this,fun x2 j2 hx2 he=>?_⟩
   rcases hcase hx2 with ⟨rfl,_⟩|⟨_,hx2⟩
   ·rfl
   ·have:=h.lt _ _ hx2;simp only at he;omega
  ·obtain⟨h1,h2,h3⟩:=h.one x j hx hj
   refine⟨(hpush hx).trans h1,h2,fun x2 j2 hx2 he=>?_⟩
   rcases hcase hx2 with ⟨_,rfl⟩|⟨_,hx2⟩
   ·have:=h.lt _ _ hx;simp only at he;omega
   ·exact h3 _ _ hx2 he
 ·intro x j hx hj
  rcases hcase hx with ⟨_,rfl⟩|⟨hne,hx⟩
  ·simp at hj
  ·obtain⟨r,hr⟩:=h.two x j hx hj
   exact⟨r,(hpush hx).trans hr⟩
theorem Rel.skip{ρ:Ren}{s:St M}{w:World}(h:Rel P w0 ρ s w):Rel P w0 ρ s.skip w∧Ext ρ s ρ s.skip:=
 ⟨⟨fun b i hb=>by have:=h.dom b i hb;simp;omega,h.lt,h.blk,h.own,h.inj,h.below,fun b hb=>h.fresh b (by simp at hb;omega),h.one,h.two⟩,⟨ρ.le_refl,fun _ _=>rfl,by simp,fun _ _ _=>rfl⟩⟩
theorem Rel.take{ρ:Ren}{s:St M}{w:World}(h:Rel P w0 ρ s w){b:Nat}{i:BI}(hb:ρ b=some i)(hk:i.kd=1) :
  ∃ ρ':Ren,Ren.flip ρ ρ'∧(∀ x,x≠b→ρ' x=ρ x)∧Rel P w0 ρ' s (w.putObj i.blk (.deferred none)):=by
 obtain⟨h1,h2,h3⟩:=h.one b i hb hk
 have hoff:∀ x,x≠b→(fun x=>if x=b then some { i with kd:=0 } else ρ x) x=ρ x:=by intro x hx;simp[hx]
 have hat:(fun x=>if x=b then some { i with kd:=0 } else ρ x) b=some { i with kd:=0 }:=by simp
 have hfl:Ren.flip ρ (fun x=>if x=b then some { i with kd:=0 } else ρ x):=by
  intro x
  by_cases e:x=b
  ·subst e;exact .inr ⟨i,0,hb,by simp⟩
  ·rw[hoff x e]
   cases hx:ρ x with
   |none=>exact .inl ⟨rfl,rfl⟩
   |some j=>exact .inr ⟨j,j.kd,rfl,rfl⟩
 generalize (fun x=>if x=b then some { i with kd:=0 } else ρ x:Ren)=ρ' at hoff hfl hat
 have hcase:∀ {x j},ρ' x=some j→∃ k,ρ x=some { j with kd:=k }:=fun hx=>hfl.back hx
 have hput:∀ {k:Nat},k≠i.blk→(w.putObj i.blk (.deferred none)).heap[k]?=w.heap[k]?:=by
  intro k hk
  exact World.putObj_heap_other hk
 have hnb:∀ {x j C},ρ x=some j→s.at' x=some C→j.blk≠i.blk:=by
  intro x j C hx hC he
  have:=h3 x j hx he
  subst this
  obtain⟨o,ho,hr⟩:=h.blk _ _ _ hx hC
  rw[he,h1]at ho
  cases ho
  exact hr.not_deferred
 refine⟨ρ',hfl,hoff,⟨?_,?_,?_,?_,?_,?_,h.fresh,?_,?_⟩⟩
 ·intro x j hx
  obtain⟨k,hx⟩:=hcase hx
  exact h.dom _ _ hx
 ·intro x j hx
  obtain⟨k,hx⟩:=hcase hx
  simpa [World.putObj] using h.lt _ _ hx
 ·intro x j C hx hC
  obtain⟨k,hx'⟩:=hcase hx
  obtain⟨o,ho,hr⟩:=h.blk _ _ _ hx' hC
  have hne:=hnb hx' hC
  have hxb:x≠b:=by intro e;subst e;rw[hb]at hx';cases hx';exact hne rfl
  rw[hoff x hxb]at hx
  obtain⟨o,ho,hr⟩:=h.blk _ _ _ hx hC
  exact⟨o,(hput (hnb hx hC)).trans ho,hr.flip hfl⟩
 ·intro x j C hx hC hw
  obtain⟨k,hx⟩:=hcase hx
  have:=h.own _ _ _ hx hC hw
  exact this
 ·intro x j C x2 j2 C2 hx hC hx2 hC2 he hw
  obtain⟨k,hx⟩:=hcase hx
  obtain⟨k2,hx2⟩:=hcase hx2
  have:=h.inj _ _ _ _ _ _ hx hC hx2 hC2 he hw
  exact this
 ·refine⟨h.below.os,h.below.tape,h.below.output,by have:=h.below.size;simpa [World.putObj] using this,fun k hk=>?_⟩
  exact (hput oM).trans (h.below.block k hk)
 ·intro x j hx hj
  by_cases e:x=b
  ·subst e
   rw[hat]at hx;cases hx;cases hj
  ·have hx0:=hx
   rw[hoff x e]at hx
   obtain⟨g1,g2,g3⟩:=h.one x j hx hj
   have hne:j.blk≠i.blk:=fun he=>e (h3 x j hx he)
   refine⟨(hput hne).trans g1,g2,fun x2 j2 hx2 he=>?_⟩
   obtain⟨k2,hx2⟩:=hcase hx2
   have:=g3 _ _ hx2 he
   exact this
 ·intro x j hx hj
  by_cases e:x=b
  ·subst e
   rw[hat]at hx;cases hx;cases hj
  ·rw[hoff x e]at hx
   obtain⟨r,hr⟩:=h.two x j hx hj
   refine⟨r,(hput ?_).trans hr⟩
   intro he
   rw[he,h1]at hr
   cases hr
end
end Go.Cs
namespace Go.Cs
def pureRun{α:Type}(P:Program):Sem α→Option α
 |.pure a=>some a
 |.program k=>pureRun P (k P)
 |.mark _ k=>pureRun P k
 |_=>none
theorem run_of_pureRun{α:Type}{P:Program}:∀ {s:Sem α}{a:α},pureRun P s=some a→∀ w,s.run P w = .ok a w:=by
 intro s
 induction s with
 |pure a=>intro b h w;simp only[pureRun,Option.some.injEq]at h;subst h;rfl
 |program k ih=>intro b h w;simp only[pureRun]at h;simp only[Sem.run];exact ih _ h w
 |mark m k ih=>intro b h w;simp only[pureRun]at h;simp only[Sem.run];exact ih h w
 |_=>intro b h w;simp[pureRun]at h
def pure6(P:Program)(s:Sem Value):Option Value:=
 match pureRun P s with
 |some v=>if plain 6 v=true then some v else none
 |none=>none
def aggT(P:Program)(t:TypeId):Option Bool:=
 match P.underlying t with
 |some (.struct _)=>some true
 |some (.array _ _)=>some true
 |some _=>some false
 |none=>none
def isUnk(cs:Array Value):Bool:=match cs.toList with
 | [.tuple _]=>true
 |_=>false
theorem isUnk_size{cs:Array Value}(h:isUnk cs=true):cs.size=1:=by
 unfold isUnk at h
 split at h
 ·rename_i e;rw[← Array.length_toList,e];rfl
 ·cases h
def qC:Value→Bool
 |.agg _=>false
 |.tuple cs=>isUnk cs
 |_=>true
def qP:Value→Bool
 |.tuple cs=>isUnk cs
 |_=>true
def cut(vs:List Value)(off n:Nat):Option (List Value):=if off+n≤vs.length then some ((vs.drop off).take n) else none
def setCells:List Value→Nat→List Value→List Value
 |vs,_,[]=>vs
 |vs,o,c::cs=>setCells (vs.set o c) (o+1) cs
section
variable {M:Type}[Mem M](P:Program)
def cload(t:TypeId)(a:Addr)(s:St M):Option Value:=
 match s.at' a.block with
 |some (.cells vs _ _) =>
  match aggT P t with
  |some true=>(cut vs a.off (P.cellsOf t)).map fun l => .agg l.toArray
  |some false=>vs[a.off]?
  |none=>none
 |_=>none
def cstoreCells(a:Addr)(l:List Value)(s:St M):Option (St M):=
 match s.at' a.block with
 |some (.cells vs e true)=>if a.off+l.length≤vs.length∧l.all qC=true then some (s.put a.block (.cells (setCells vs a.off l) e true)) else none
 |_=>none
def cstore(t:TypeId)(a:Addr)(v:Value)(s:St M):Option (St M):=
 match P.info? t with
 |some i=>if v.cells.size=i.size then cstoreCells a v.cells.toList s else none
 |none=>none
def cpart(t:TypeId)(cs:Array Value)(off:Nat):Option Value:=
 match aggT P t with
 |some true=>if off+P.cellsOf t≤cs.size then some (.agg (cs.extract off (off+P.cellsOf t))) else none
 |some false=>cs[off]?
 |none=>none
def nilCmp(d:TypeDesc):Value→Value→Option Bool
 |.pointer none,.pointer (some _)=>match d with | .pointer _=>some false|_=>none
 |.pointer (some _),.pointer none=>match d with | .pointer _=>some false|_=>none
 |.nilIface,.iface _ _=>match d with | .interface _=>some false|_=>none
 |.iface _ _,.nilIface=>match d with | .interface _=>some false|_=>none
 |.slice none _ _,.slice (some _) _ _=>match d with | .slice _=>some false|_=>none
 |.slice (some _) _ _,.slice none _ _=>match d with | .slice _=>some false|_=>none
 |.map none,.map (some _)=>match d with | .map _ _=>some false|_=>none
 |.map (some _),.map none=>match d with | .map _ _=>some false|_=>none
 |.nilFunc,.func _ _ _=>match d with | .func _ _ _=>some false|_=>none
 |.func _ _ _,.nilFunc=>match d with | .func _ _ _=>some false|_=>none
 |_,_=>none
def cbin(op:BinOp)(t:TypeId)(ox oy:Operand)(x y:Value):Option Value:=
 match x,y with
 |.int k a,.int k' b =>
  if k=k' then
   match op with
   |.add=>some (.int k (k.wrap (a+b)))
   |.sub=>some (.int k (k.wrap (a - b)))
   |.mul=>some (.int k (k.wrap (a*b)))
   |.eql=>some (.bool (a == b))
   |.neq=>some (.bool (a != b))
   |.lss=>some (.bool (a<b))
   |.leq=>some (.bool (a≤b))
   |.gtr=>some (.bool (a>b))
   |.geq=>some (.bool (a ≥ b))
   |_=>pure6 P (Go.binOp op t x y)
  else pure6 P (Go.binOp op t x y)
 |_,_ =>
  if plain 6 x=true∧plain 6 y=true then pure6 P (do eqGuard op t ox oy x y;Go.binOp op t x y)
  else
   match P.underlying t with
   |none=>none
   |some d =>
    match op,nilCmp d x y with
    |.eql,some b=>some (.bool b)
    |.neq,some b=>some (.bool !b)
    |_,_=>none
def cidxAddr(t:TypeId)(x ix:Value):Option Value:=
 match ix with
 |.int _ i =>
  match P.underlying t,x with
  |some (.slice e),.slice (some a) n _=>match P.info? e with
   |some ie=>if 0≤i∧i<n then some (.pointer (some (a.add (i.toNat*ie.size)))) else none
   |none=>none
  |some (.array n e),.pointer (some a)=>match P.info? e with
   |some ie=>if 0≤i∧i<n then some (.pointer (some (a.add (i.toNat*ie.size)))) else none
   |none=>none
  |_,_=>none
 |_=>none
def cbound(v:Option Value)(d most:Nat):Option Nat:=
 match v with
 |none=>some d
 |some (.int _ i)=>if 0≤i∧i≤most then some i.toNat else none
 |some _=>none
def cslice(t:TypeId)(x:Value)(lo hi mx:Option Value):Option Value:=
 match P.underlying t,x with
 |some .string,.string s =>
  match mx with
  |some _=>none
  |none =>
   match cbound hi s.size s.size with
   |none=>none
   |some h=>match cbound lo 0 h with
    |none=>none
    |some l=>some (.string (s.extract l h))
 |some (.slice e),.slice none n c =>
  match P.info? e,cbound mx 0 0,cbound hi 0 0,cbound lo 0 0 with
  |some _,some _,some _,some _=>if n=0∧c=0∧(mx.isSome && hi.isNone)=false then some (.slice none 0 0) else none
  |_,_,_,_=>none
 |some (.slice e),.slice (some a) n c =>
  match P.info? e with
  |none=>none
  |some ie =>
   match cbound mx c (if c=UNK then n else c) with
   |none=>none
   |some m=>match (if mx.isSome && hi.isNone then none else cbound hi n (if mx.isNone && c == UNK then n else m)) with
    |none=>none
    |some h=>match cbound lo 0 h with
     |none=>none
     |some l =>
      if mx.isNone && c == UNK then (if l=0 then some (.slice (some a) h c) else none)
      else if m<UNK then some (.slice (some (if m=l then a else a.add (l*ie.size))) (h - l) (m - l)) else none
 |some (.array n e),.pointer (some a) =>
  match P.info? e with
  |none=>none
  |some ie =>
   match cbound mx n n with
   |none=>none
   |some m=>match (if mx.isSome && hi.isNone then none else cbound hi n m) with
    |none=>none
    |some h=>match cbound lo 0 h with
     |none=>none
     |some l=>if m<UNK then some (.slice (some (if m=l then a else a.add (l*ie.size))) (h - l) (m - l)) else none
 |_,_=>none
def cassert(x:Value)(asserted:TypeId)(ok:Bool):Option Value:=
 let holds (v:Value):Option Value:=some (if ok then .tuple #[v,.bool true] else v)
 let fails:Option Value:=if ok then ((P.info? asserted).bind (·.zero)).bind fun z=>if plain 6 z then some (.tuple #[z,.bool false]) else none else none
 match P.underlying asserted,x with
 |some (.interface want),.iface t _=>match P.info? t with
  |some i=>match Instr.missingMethod want i.methods with
   |none=>holds x
   |some _=>fails
  |none=>none
 |some (.interface _),.nilIface=>fails
 |some _,.iface t v=>if t=asserted then holds v else fails
 |some _,.nilIface=>fails
 |_,_=>none
def cbuiltin(b:Builtin)(ts:Array TypeId)(ty:TypeId)(args:Array Value):Option Value:=
 match b with
 |.len =>
  match ts[0]?.bind P.underlying,(args[0]?:Option Value) with
  |some (.slice _),some (.slice _ n _)=>some (.int .i64 n)
  |some .string,some (.string s)=>some (.int .i64 s.size)
  |some (.array n _),some _=>some (.int .i64 n)
  |some (.map _ _),some (.map none)=>some (.int .i64 0)
  |_,_=>none
 |.cap =>
  match ts[0]?.bind P.underlying,(args[0]?:Option Value) with
  |some (.slice _),some (.slice _ _ c)=>if c=UNK then none else some (.int .i64 c)
  |_,_=>none
 |.unsafeSliceData=>match args.toList with
  | [.slice none _ _]=>some (.pointer none)
  | [.slice (some a) n c]=>if c≠0∧(c=UNK→n≠0) then some (.pointer (some a)) else none
  |_=>none
 |.min=>if args.toList.all (plain 1) then pure6 P (Builtin.min_ ts ty args) else none
 |.max=>if args.toList.all (plain 1) then pure6 P (Builtin.max_ ts ty args) else none
 |_=>none
def zeroPlain(t:TypeId):Bool:=
 match pureRun P (zeroValue t) with
 |some z=>plain 6 z
 |none=>false
def cpure(ev:Operand→Value)(ty:TypeId):Op→Option Value
 |.move x=>some (ev x)
 |.assign x=>some (ev x)
 |.pick c a b=>match ev c with
  |.bool t=>some (if t then ev a else ev b)
  |_=>none
 |.build t parts=>if (parts.toList.all fun x=>qP (ev x.2))=true∧zeroPlain P t=true then pureRun P (Instr.build t (parts.map fun x=>(x.1,ev x.2))) else none
 |.nilCheck x=>match ev x with
  |.pointer (some a)=>some (.pointer (some a))
  |.iface t v=>some (.iface t v)
  |.func (.func f) a b=>some (.func (.func f) a b)
  |_=>none
 |.binOp op t x y _=>cbin P op t x y (ev x) (ev y)
 |.unOp op _ x=>if plain 1 (ev x)=true then pure6 P (Op.unary op (ev x)) else none
 |.convert src dst x=>if plain 1 (ev x)=true then pure6 P (Go.convert src dst (ev x)) else none
 |.makeInterface t x=>match P.underlying t with
  |some (.interface _)=>none
  |some _=>some (.iface t (ev x))
  |none=>none
 |.makeFunc fn first captured=>match fn with
  |.yield _=>none
  |fn=>some (.func fn (first.map ev) (captured.map ev))
 |.fieldAddr t x f=>match P.underlying t,ev x with
  |some (.struct fs),.pointer (some a)=>match fs[f]? with
   |some fl=>match P.info? fl.type with
    |some i=>if i.size=0 then none else some (.pointer (some (a.add fl.offset)))
    |none=>none
   |none=>none
  |_,_=>none
 |.field t x f=>match P.underlying t,ev x with
  |some (.struct fs),.agg cs=>match fs[f]? with
   |some fl=>cpart P fl.type cs fl.offset
   |none=>none
  |_,_=>none
 |.indexAddr t x ix=>cidxAddr P t (ev x) (ev ix)
 |.index t x ix=>match P.underlying t,ev x,ev ix with
  |some .string,.string s,.int _ i=>if 0≤i then (s[i.toNat]?).map fun b => .int .u8 b.toNat else none
  |some (.array n e),.agg cs,.int _ i=>match P.info? e with
   |some ie=>if 0≤i∧i<n then cpart P e cs (i.toNat*ie.size) else none
   |none=>none
  |_,_,_=>none
 |.slice t x lo hi mx=>cslice P t (ev x) (lo.map ev) (hi.map ev) (mx.map ev)
 |.typeAssert x _ asserted ok=>cassert P (ev x) asserted ok
 |.extract x i=>match ev x with
  |.tuple vs=>if vs.size=1 then (match vs.toList with
   | [.bool false]=>if i=0 then some (.bool false) else none
   |_=>none) else vs[i]?
  |_=>none
 |.call c=>match c.callee with
  |.builtin b=>cbuiltin P b c.argTypes ty (c.args.map ev)
  |_=>none
 |_=>none
end
end Go.Cs
namespace Go.Cs
section
variable {P:Program}{ρ:Ren}
theorem qU'{t:TypeId}{d:TypeDesc}(h:P.underlying t=some d)(w:World):(underlying t).run P w = .ok d w:=by
 simp[underlying,program,Sem.run,h]
theorem run_typeInfo'{t:TypeId}{i:TypeInfo}(h:P.info? t=some i)(w:World):(typeInfo t).run P w = .ok i w:=by
 simp[typeInfo,program,Sem.run,h]
theorem run_sizeOf'{t:TypeId}{i:TypeInfo}(h:P.info? t=some i)(w:World):(sizeOf t).run P w = .ok i.size w:=by
 simp[sizeOf,run_typeInfo' h]
theorem info_of_underlying{t:TypeId}{d:TypeDesc}(h:P.underlying t=some d):∃ i,P.info? t=some i:=by
 unfold Program.underlying at h
 split at h
 ·exact⟨_,by assumption⟩
 ·exact⟨_,by assumption⟩
 ·cases h
theorem cellsOf_info{t:TypeId}{i:TypeInfo}(h:P.info? t=some i):P.cellsOf t=i.size:=by simp[Program.cellsOf,h]
theorem run_isAgg{t:TypeId}{b:Bool}(h:aggT P t=some b)(w:World):(isAgg t).run P w = .ok b w:=by
 unfold aggT at h
 split at h<;>(try cases h)<;>rename_i hu<;>simp only[isAgg,Sem.run_bind,qU' hu,Result.andThen_ok]<;>first|rfl|skip
theorem info_of_agg{t:TypeId}{b:Bool}(h:aggT P t=some b):∃ i,P.info? t=some i:=by
 unfold aggT at h
 split at h
 ·exact info_of_underlying (by assumption)
 ·exact info_of_underlying (by assumption)
 ·exact info_of_underlying (by assumption)
 ·cases h
theorem extract_rel{c c':Array Value}(h:VsRel ρ c c')(i j:Nat):VsRel ρ (c.extract i j) (c'.extract i j):=by
 refine⟨by simp[h.1],fun k hk=>?_⟩
 simp only[Array.size_extract]at hk
 have hk':i+k<c.size:=oM
 have h0:=h.2 (i+k) hk'
 have hk2:i+k<c'.size:=h.1▸hk'
 have e1:(c.extract i j).getD k undef=c.getD (i+k) undef:=by
  rw[Array.getD_eq_getD_getElem?,Array.getD_eq_getD_getElem?,Array.getElem?_extract,if_pos oM]
 have e2:(c'.extract i j).getD k undef=c'.getD (i+k) undef:=by
  rw[Array.getD_eq_getD_getElem?,Array.getD_eq_getD_getElem?,Array.getElem?_extract,if_pos (by rw[← h.1];omega)]
 rw[e1,e2]
 exact h0
theorem VsRel.getElem?{c c':Array Value}(h:VsRel ρ c c'){i:Nat}{v:Value}(hv:c[i]?=some v):∃ v',c'[i]?=some v'∧VRel ρ v v':=by
 obtain⟨hi,rfl⟩:=Array.getElem?_eq_some_iff.1 hv
 have hi':i<c'.size:=h.1▸hi
 refine⟨c'[i],by simp[hi'],?_⟩
 have:=h.2 i hi
 simpa [Array.getD,hi,hi'] using this
theorem cpart_sound{t:TypeId}{cs cs':Array Value}{off:Nat}{v:Value}(h:cpart P t cs off=some v)(hc:VsRel ρ cs cs')(w:World) :
  ∃ v',(part t cs' off).run P w = .ok v' w∧VRel ρ v v':=by
 unfold cpart at h
 split at h
 ·rename_i ha
  obtain⟨i,hi⟩:=info_of_agg ha
  split at h
  ·cases h
   refine⟨_,by simp only[part,Sem.run_bind,run_isAgg ha,Result.andThen_ok,if_true,run_sizeOf' hi];rfl,?_⟩
   rw[cellsOf_info hi]
   have:=extract_rel hc off (off+i.size)
   exact .agg this.1 this.2
  ·cases h
 ·rename_i ha
  obtain⟨v',hv',hr⟩:=hc.getElem? h
  refine⟨v',?_,hr⟩
  simp only[part,Sem.run_bind,run_isAgg ha,Result.andThen_ok,Bool.false_eq_true,if_false,hv']
  rfl
 ·cases h
theorem VRel.agg_inv{cs:Array Value}{v':Value}(h:VRel ρ (.agg cs) v'):∃ cs',v' = .agg cs'∧VsRel ρ cs cs':=by
 cases h with
 |agg hc hcv=>exact⟨_,rfl,hc,hcv⟩
theorem VRel.ptr_inv{a:Addr}{v':Value}(h:VRel ρ (.pointer (some a)) v'):∃ a',v' = .pointer (some a')∧ARel ρ a a':=by
 cases h with
 |ptr h=>exact⟨_,rfl,h⟩
theorem VRel.int_inv{k:IntKind}{n:Int}{v':Value}(h:VRel ρ (.int k n) v'):v' = .int k n:=by cases h;rfl
theorem VRel.bool_inv{b:Bool}{v':Value}(h:VRel ρ (.bool b) v'):v' = .bool b:=by cases h;rfl
theorem VRel.string_inv{b:ByteArray}{v':Value}(h:VRel ρ (.string b) v'):v' = .string b:=by cases h;rfl
theorem VRel.iface_inv{t:TypeId}{v v':Value}(h:VRel ρ (.iface t v) v'):∃ u,v' = .iface t u∧VRel ρ v u:=by
 cases h with
 |iface _ h=>exact⟨_,rfl,h⟩
theorem VRel.nilIface_inv{v':Value}(h:VRel ρ .nilIface v'):v' = .nilIface:=by cases h;rfl
theorem VRel.slice_inv{a:Addr}{n c:Nat}{v':Value}(h:VRel ρ (.slice (some a) n c) v'):∃ a' c',v' = .slice (some a') n c'∧(ARel ρ a a'∨n=0∧c=0∧c'=0)∧CapRel ρ a n c c':=by
 cases h with
 |slice h hc=>exact⟨_,_,rfl,.inl h,hc⟩
 |void=>exact⟨_,_,rfl,.inr ⟨rfl,rfl,rfl⟩,.inl ⟨rfl,by unfold UNK;omega⟩⟩
theorem VRel.nilSlice_inv{n c:Nat}{v':Value}(h:VRel ρ (.slice none n c) v'):v' = .slice none 0 0∧n=0∧c=0:=by cases h;exact⟨rfl,rfl,rfl⟩
theorem VRel.map_inv{r:Nat}{v':Value}(h:VRel ρ (.map (some r)) v'):∃ i,v' = .map (some i.blk)∧ρ r=some i:=by
 cases h with
 |map h=>exact⟨_,rfl,h⟩
theorem VRel.nilMap_inv{v':Value}(h:VRel ρ (.map none) v'):v' = .map none:=by cases h;rfl
theorem VRel.func_inv{f:FuncId}{a b:Array Value}{v':Value}(h:VRel ρ (.func (.func f) a b) v'):∃ a' b',v' = .func (.func f) a' b'∧VsRel ρ a a'∧VsRel ρ b b':=by
 cases h with
 |func _ _ hf hfv hc hcv=>exact⟨_,_,rfl,⟨hf,hfv⟩,⟨hc,hcv⟩⟩
theorem VRel.tuple_inv{cs:Array Value}{v':Value}(h:VRel ρ (.tuple cs) v')(hu:cs.size≠1):∃ cs',v' = .tuple cs'∧VsRel ρ cs cs':=by
 generalize hx:Value.tuple cs=x at h
 cases h with
 |unk=>cases hx;simp at hu
 |over=>cases hx;simp at hu
 |tuple _ hc hcv=>cases hx;exact⟨_,rfl,hc,hcv⟩
 |_=>cases hx
theorem okPart_cells{v v':Value}(h:VRel ρ v v')(hk:qP v=true):VsRel ρ v.cells v'.cells:=by
 cases h with
 |unk _ hu=>cases v'<;>first|(simp[oneCell]at hu;done)|exact⟨rfl,fun i hi=>by simp[Value.cells,Cs.unk]at hi ⊢;subst hi;exact .unk _ hu⟩
 |agg hc hcv=>exact⟨hc,hcv⟩
 |tuple h1=>exact (h1 (isUnk_size hk)).elim
 |over=>cases hk
 |bool b=>exact⟨rfl,fun i hi=>by simp[Value.cells]at hi ⊢;subst hi;exact .bool b⟩
 |int k n=>exact⟨rfl,fun i hi=>by simp[Value.cells]at hi ⊢;subst hi;exact .int k n⟩
 |string s=>exact⟨rfl,fun i hi=>by simp[Value.cells]at hi ⊢;subst hi;exact .string s⟩
 |nilPtr=>exact⟨rfl,fun i hi=>by simp[Value.cells]at hi ⊢;subst hi;exact .nilPtr⟩
 |ptr h=>exact⟨rfl,fun i hi=>by simp[Value.cells]at hi ⊢;subst hi;exact .ptr h⟩
 |nilSlice=>exact⟨rfl,fun i hi=>by simp[Value.cells]at hi ⊢;subst hi;exact .nilSlice⟩
 |slice h hc=>exact⟨rfl,fun i hi=>by simp[Value.cells]at hi ⊢;subst hi;exact .slice h hc⟩
 |void=>exact⟨rfl,fun i hi=>by simp[Value.cells]at hi ⊢;subst hi;exact .void⟩
 |nilMap=>exact⟨rfl,fun i hi=>by simp[Value.cells]at hi ⊢;subst hi;exact .nilMap⟩
 |map h=>exact⟨rfl,fun i hi=>by simp[Value.cells]at hi ⊢;subst hi;exact .map h⟩
 |func fn h1 h2 h3 h4 h5=>exact⟨rfl,fun i hi=>by simp[Value.cells]at hi ⊢;subst hi;exact .func fn h1 h2 h3 h4 h5⟩
 |yield h=>exact⟨rfl,fun i hi=>by simp[Value.cells]at hi ⊢;subst hi;exact .yield h⟩
 |nilFunc=>exact⟨rfl,fun i hi=>by simp[Value.cells]at hi ⊢;subst hi;exact .nilFunc⟩
 |nilIface=>exact⟨rfl,fun i hi=>by simp[Value.cells]at hi ⊢;subst hi;exact .nilIface⟩
 |iface t h=>exact⟨rfl,fun i hi=>by simp[Value.cells]at hi ⊢;subst hi;exact .iface t h⟩
theorem ARel.add{a a':Addr}(h:ARel ρ a a')(n:Nat):ARel ρ (a.add n) (a'.add n):=by
 obtain⟨i,hi,hs,rfl⟩:=h
 unfold Addr.add
 by_cases e:n=0
 ·simp only[e,if_true];exact⟨i,hi,hs,rfl⟩
 ·simp only[e,if_false]
  exact⟨i,hi,rfl,by simp;omega⟩
theorem nilCmp_sound{d:TypeDesc}{t:TypeId}{x y x' y':Value}{b:Bool}(hd:P.underlying t=some d)(h:nilCmp d x y=some b)(hx:VRel ρ x x')(hy:VRel ρ y y')(w:World) :
  (Op.equal t x' y').run P w = .ok b w:=by
 unfold nilCmp at h
 split at h<;>(try cases h)<;>(split at h<;>cases h)<;>cases hx<;>cases hy <;>
  (show (Op.equalIn (9999+1) t _ _).run P w=_)<;>rw[Op.equalIn]<;>simp only[Sem.run_bind,qU' hd,Result.andThen_ok]<;>rfl
theorem eqGuard_nil{d:TypeDesc}{op:BinOp}{t:TypeId}{ox oy:Operand}{x y x' y':Value}{b:Bool}(h:nilCmp d x y=some b)(hx:VRel ρ x x')(hy:VRel ρ y y')(w:World) :
  (eqGuard op t ox oy x' y').run P w = .ok () w:=by
 unfold nilCmp at h
 split at h<;>(try cases h)<;>(split at h<;>cases h)<;>cases hx<;>cases hy<;>cases op<;>rfl
theorem binOp_nil{d:TypeDesc}{op:BinOp}{t:TypeId}{x y x' y':Value}{b:Bool}(h:nilCmp d x y=some b)(hx:VRel ρ x x')(hy:VRel ρ y y') :
  (op = .eql→Go.binOp op t x' y'=(do pure (.bool (← Op.equal t x' y'))))∧(op = .neq→Go.binOp op t x' y'=(do pure (.bool (!(← Op.equal t x' y'))))):=by
 unfold nilCmp at h
 split at h<;>(try cases h)<;>(split at h<;>cases h)<;>cases hx<;>cases hy<;>exact⟨fun e=>by subst e;rfl,fun e=>by subst e;rfl⟩
theorem eqGuard_int{op:BinOp}{t:TypeId}{ox oy:Operand}{k k':IntKind}{a b:Int}(w:World):(eqGuard op t ox oy (.int k a) (.int k' b)).run P w = .ok () w:=by
 cases op<;>rfl
theorem pure6_sound{s:Sem Value}{v:Value}(h:pure6 P s=some v)(w:World):s.run P w = .ok v w∧VRel ρ v v:=by
 unfold pure6 at h
 split at h
 ·rename_i u hu
  split at h
  ·cases h
   exact⟨run_of_pureRun hu w,VRel.of_plain 6 (by assumption)⟩
  ·cases h
 ·cases h
theorem cbin_sound{op:BinOp}{t:TypeId}{ox oy:Operand}{x y x' y' v:Value}(h:cbin P op t ox oy x y=some v)(hx:VRel ρ x x')(hy:VRel ρ y y')(w:World) :
  ∃ v',(do eqGuard op t ox oy x' y';Go.binOp op t x' y':Sem Value).run P w = .ok v' w∧VRel ρ v v':=by
 unfold cbin at h
 split at h
 ·rename_i k a k' b
  cases hx;cases hy
  simp only[Sem.run_bind,eqGuard_int,Result.andThen_ok]
  have hpl:∀ u,pure6 P (Go.binOp op t (.int k a) (.int k' b))=some u→∃ v',(Go.binOp op t (.int k a) (.int k' b)).run P w = .ok v' w∧VRel ρ u v':=
   fun u hu=>⟨u,pure6_sound hu w⟩
  split at h
  ·rename_i hk
   subst hk
   split at h<;>first
    |exact hpl _ h
    |(cases h;exact⟨_,by simp only[Go.binOp,ne_eq,not_true_eq_false,if_false,Op.intArith,Op.intCmp];rfl,VRel.of_plain 1 rfl⟩)
  ·exact hpl _ h
 ·rename_i hni
  split at h
  ·rename_i hp
   rw[VRel.eq_of_plain 6 hp.1 hx,VRel.eq_of_plain 6 hp.2 hy]
   exact⟨v,pure6_sound h w⟩
  ·split at h
   ·cases h
   ·rename_i d hd
    split at h<;>(try cases h)<;>rename_i b hb
    ·refine⟨.bool b,?_,.bool b⟩
     simp only[Sem.run_bind,eqGuard_nil hb hx hy,Result.andThen_ok,(binOp_nil hb hx hy).1 rfl,nilCmp_sound hd hb hx hy]
     rfl
    ·refine⟨.bool !b,?_,.bool _⟩
     simp only[Sem.run_bind,eqGuard_nil hb hx hy,Result.andThen_ok,(binOp_nil hb hx hy).2 rfl,nilCmp_sound hd hb hx hy]
     rfl
end
end Go.Cs
namespace Go.Cs
section
variable {P:Program}{ρ:Ren}
theorem foldl_set_rel:∀ (l l':List Value) (k off:Nat) (cs cs':Array Value),VsRel ρ l.toArray l'.toArray→VsRel ρ cs cs' →
  VsRel ρ ((l.zipIdx k).foldl (fun cs x=>cs.setIfInBounds (off+x.2) x.1) cs) ((l'.zipIdx k).foldl (fun cs x=>cs.setIfInBounds (off+x.2) x.1) cs'):=by
 intro l
 induction l with
 |nil=>intro l' k off cs cs' hl hc;have:l'=[]:=by have:=hl.1;simp at this;exact List.eq_nil_of_length_eq_zero this.symm
       subst this;simpa using hc
 |cons v l ih =>
  intro l' k off cs cs' hl hc
  cases l' with
  |nil=>have:=hl.1;simp at this
  |cons v' l' =>
   simp only[List.zipIdx_cons,List.foldl_cons]
   refine ih l' (k+1) off _ _ ⟨by have:=hl.1;simpa using this,fun i hi=>?_⟩ (hc.set _ ?_)
   ·have:=hl.2 (i+1) (by simpa using hi)
    simpa [Array.getD_eq_getD_getElem?] using this
   ·have:=hl.2 0 (by simp)
    simpa [Array.getD_eq_getD_getElem?] using this
theorem fill_rel(place:Nat→Option (Nat×Nat)):∀ (l:List (Nat×Operand)) (ev ev':Operand→Value) (cells cells' r:Array Value),(∀ x∈l,VRel ρ (ev x.2) (ev' x.2)) →
  (l.all fun x=>qP (ev x.2))=true→VsRel ρ cells cells'→Instr.fill place cells (l.map fun x=>(x.1,ev x.2))=some r →
  ∃ r',Instr.fill place cells' (l.map fun x=>(x.1,ev' x.2))=some r'∧VsRel ρ r r':=by
 intro l
 induction l with
 |nil=>intro ev ev' cells cells' r _ _ hc h;simp only[List.map_nil,Instr.fill,Option.some.injEq]at h ⊢;subst h;exact⟨_,rfl,hc⟩
 |cons x l ih =>
  intro ev ev' cells cells' r hl hok hc h
  simp only[List.all_cons,Bool.and_eq_true]at hok
  have hx:=okPart_cells (hl x (by simp)) hok.1
  simp only[List.map_cons,Instr.fill]at h ⊢
  split at h
  ·cases h
  ·rename_i off size hp
   split at h
   ·cases h
   ·rename_i hn
    rw[if_neg (by rw[← hx.1,← hc.1];exact hn)]
    refine ih ev ev' _ _ r (fun y hy=>hl y (by simp[hy])) hok.2 ?_ h
    have e1:∀ (c:Array Value) (d:Array Value),(Array.zipIdx c).foldl (fun cs x=>cs.setIfInBounds (off+x.2) x.1) d=(c.toList.zipIdx 0).foldl (fun cs x=>cs.setIfInBounds (off+x.2) x.1) d:=by
     intro c d
     rw[← Array.foldl_toList];simp
    have:=foldl_set_rel (ρ:=ρ) (ev x.2).cells.toList (ev' x.2).cells.toList 0 off cells cells' (by simpa using hx) hc
    rw[← e1,← e1]at this
    exact this
theorem pureRun_bind{α β:Type}(x:Sem α)(f:α→Sem β):pureRun P (x >>= f)=(pureRun P x).bind fun a=>pureRun P (f a):=by
 show pureRun P (Sem.bind x f)=_
 induction x with
 |pure a=>rfl
 |program k ih=>simp only[Sem.bind,pureRun];exact ih _
 |mark m k ih=>simp only[Sem.bind,pureRun];exact ih
 |_=>rfl
theorem pureRun_pure{α:Type}(a:α):pureRun P (pure a:Sem α)=some a:=rfl
theorem VsRel.map{α:Type}(l:Array α)(f g:α→Value)(h:∀ x∈l,VRel ρ (f x) (g x)):VsRel ρ (l.map f) (l.map g):=by
 refine⟨by simp,fun i hi=>?_⟩
 simp only[Array.size_map]at hi
 have:=h l[i] (by simp)
 simpa [Array.getD,hi] using this
theorem build_sound{t:TypeId}{parts:Array (Nat×Operand)}{ev ev':Operand→Value}{v:Value}(h:pureRun P (Instr.build t (parts.map fun x=>(x.1,ev x.2)))=some v)
  (hz:∀ z,pureRun P (zeroValue t)=some z→VsRel ρ z.cells z.cells)
  (hok:(parts.toList.all fun x=>qP (ev x.2))=true)(hev:∀ x∈parts,VRel ρ (ev x.2) (ev' x.2))(w:World) :
  ∃ v',(Instr.build t (parts.map fun x=>(x.1,ev' x.2))).run P w = .ok v' w∧VRel ρ v v':=by
 have key:∃ v',pureRun P (Instr.build t (parts.map fun x=>(x.1,ev' x.2)))=some v'∧VRel ρ v v':=by
  unfold Instr.build at h ⊢
  rw[pureRun_bind]at h ⊢
  cases hz0:pureRun P (zeroValue t) with
  |none=>rw[hz0]at h;cases h
  |some z =>
   rw[hz0]at h
   simp only[Option.bind_some]at h ⊢
   rw[pureRun_bind]at h ⊢
   cases hu:pureRun P (underlying t) with
   |none=>rw[hu]at h;cases h
   |some d =>
    rw[hu]at h
    simp only[Option.bind_some]at h ⊢
    have hfin:∀ (place:Nat→Option (Nat×Nat)) (r:Array Value),Instr.fill place z.cells (parts.map fun x=>(x.1,ev x.2)).toList=some r →
      ∃ r',Instr.fill place z.cells (parts.map fun x=>(x.1,ev' x.2)).toList=some r'∧VsRel ρ r r':=by
     intro place r hr
     simp only[Array.toList_map]at hr ⊢
     exact fill_rel place parts.toList ev ev' _ _ r (fun x hx=>hev x (by simpa using hx)) hok (hz z hz0) hr
    cases d with
    |struct fields =>
     simp only[pureRun_bind]at h ⊢
     cases hm:pureRun P (Array.mapM (fun f=>do pure (f.offset,← sizeOf f.type)) fields) with
     |none=>rw[hm]at h;cases h
     |some places =>
      rw[hm]at h
      simp only[Option.bind_some]at h ⊢
      cases hf:Instr.fill (fun x=>places[x]?) z.cells (parts.map fun x=>(x.1,ev x.2)).toList with
      |none=>rw[hf]at h;simp[pureRun,stuck]at h
      |some r =>
       rw[hf]at h
       obtain⟨r',hr',hrel⟩:=hfin _ _ hf
       rw[hr']
       simp only[pureRun_pure,Option.some.injEq]at h
       subst h
       exact⟨_,rfl,.agg hrel.1 hrel.2⟩
    |array n elem =>
     simp only[pureRun_bind]at h ⊢
     cases hm:pureRun P (sizeOf elem) with
     |none=>rw[hm]at h;cases h
     |some size =>
      rw[hm]at h
      simp only[Option.bind_some]at h ⊢
      cases hf:Instr.fill (fun i=>some (i*size,size)) z.cells (parts.map fun x=>(x.1,ev x.2)).toList with
      |none=>rw[hf]at h;simp[pureRun,stuck]at h
      |some r =>
       rw[hf]at h
       obtain⟨r',hr',hrel⟩:=hfin _ _ hf
       rw[hr']
       simp only[pureRun_pure,Option.some.injEq]at h
       subst h
       exact⟨_,rfl,.agg hrel.1 hrel.2⟩
    |_=>simp[pureRun,stuck]at h
 obtain⟨v',hv',hr⟩:=key
 exact⟨v',run_of_pureRun hv' w,hr⟩
end
end Go.Cs
namespace Go.Cs
section
variable {P:Program}{ρ:Ren}
theorem run_sliceBound{k:IntKind}{i:Int}{y:Nat}{code:BoundsCode}(h:0≤i∧i≤y)(w:World):(Instr.sliceBound (.int k i) y code).run P w = .ok i.toNat w:=by
 simp only[Instr.sliceBound,asIntOf,Sem.run_bind,Sem.run_pure,Result.andThen_ok,h,and_self,if_true]
theorem cbound_sound{v:Option Value}{d most m most':Nat}{v':Option Value}(h:cbound v d most=some m)(hv:∀ x,v=some x→∃ x',v'=some x'∧VRel ρ x x')(hn:v=none→v'=none)(hm:most≤most') :
  (v=none∧v'=none∧m=d)∨(∃ x',v'=some x'∧m≤most∧∀ code w,(Instr.sliceBound x' most' code).run P w = .ok m w):=by
 unfold cbound at h
 split at h
 ·cases h;exact .inl ⟨rfl,hn rfl,rfl⟩
 ·rename_i k i
  obtain⟨x',rfl,hx⟩:=hv _ rfl
  cases hx
  split at h
  ·rename_i hi
   cases h
   exact .inr ⟨_,rfl,oM,fun code w=>run_sliceBound ⟨hi.1,oM⟩ w⟩
  ·cases h
 ·cases h
theorem addr_add_zero(a:Addr):a.add 0=a:=by simp[Addr.add]
theorem VRel.anySlice_inv{a:Option Addr}{n c:Nat}{x':Value}(h:VRel ρ (.slice a n c) x'):∃ a' c',x' = .slice a' n c'∧(c≠UNK→c'=c):=by
 cases a with
 |none=>obtain⟨rfl,rfl,rfl⟩:=h.nilSlice_inv;exact⟨_,_,rfl,fun _=>rfl⟩
 |some a =>
  obtain⟨a',c',e,_,hc⟩:=h.slice_inv
  refine⟨_,_,e,fun hne=>?_⟩
  rcases hc with ⟨h1,_⟩|⟨h1,_⟩
  ·exact h1.symm
  ·exact (hne h1).elim
theorem run_lenOf{ts:Array TypeId}{ty:TypeId}{args args':Array Value}{b:Builtin}{v:Value}(h:cbuiltin P b ts ty args=some v)(ha:VsRel ρ args args')(consts:Array Bool)(w:World) :
  ∃ v',(Go.builtin b ts ty consts args').run P w = .ok (.value v') w∧VRel ρ v v':=by
 have hplain:args.toList.all (plain 1)=true→args'=args:=by
  intro hp
  simp only[List.all_eq_true]at hp
  apply Array.ext ha.1.symm
  intro i h1 h2
  have h0:=ha.2 i h2
  simp only[Array.getD,h1,h2,dif_pos]at h0
  exact VRel.eq_of_plain 1 (hp _ (by simp)) h0
 have h0:∀ x,(args[0]?:Option Value)=some x→∃ x',(args'[0]?:Option Value)=some x'∧VRel ρ x x':=fun x hx=>ha.getElem? hx
 unfold cbuiltin at h
 split at h
 ·split at h
  ·rename_i hu hx
   obtain⟨t,ht,hu⟩:=Option.bind_eq_some_iff.1 hu
   obtain⟨x',hx',hr⟩:=h0 _ hx
   cases h
   refine⟨_,?_,.int _ _⟩
   obtain⟨a',c',rfl,_⟩:=hr.anySlice_inv
   simp only[Go.builtin,Builtin.len_,ht,hx',Sem.run_bind,qU' hu,Result.andThen_ok,Sem.run_pure];rfl
  ·rename_i hu hx
   obtain⟨t,ht,hu⟩:=Option.bind_eq_some_iff.1 hu
   obtain⟨x',hx',hr⟩:=h0 _ hx
   cases h
   obtain rfl:=hr.string_inv
   refine⟨_,?_,.int _ _⟩
   simp only[Go.builtin,Builtin.len_,ht,hx',Sem.run_bind,qU' hu,Result.andThen_ok,Sem.run_pure];rfl
  ·rename_i hu hx
   obtain⟨t,ht,hu⟩:=Option.bind_eq_some_iff.1 hu
   obtain⟨x',hx',hr⟩:=h0 _ hx
   cases h
   refine⟨_,?_,.int _ _⟩
   simp only[Go.builtin,Builtin.len_,ht,hx',Sem.run_bind,qU' hu,Result.andThen_ok,Sem.run_pure];rfl
  ·rename_i hu hx
   obtain⟨t,ht,hu⟩:=Option.bind_eq_some_iff.1 hu
   obtain⟨x',hx',hr⟩:=h0 _ hx
   cases h
   obtain rfl:=hr.nilMap_inv
   refine⟨_,?_,.int _ _⟩
   simp only[Go.builtin,Builtin.len_,ht,hx',Sem.run_bind,qU' hu,Result.andThen_ok,Sem.run_pure];rfl
  ·cases h
 ·split at h
  ·rename_i hu hx
   obtain⟨t,ht,hu⟩:=Option.bind_eq_some_iff.1 hu
   obtain⟨x',hx',hr⟩:=h0 _ hx
   split at h
   ·cases h
   ·rename_i hc
    cases h
    refine⟨_,?_,.int _ _⟩
    obtain⟨a',c',rfl,hcc⟩:=hr.anySlice_inv
    obtain rfl:=hcc hc
    simp only[Go.builtin,Builtin.cap_,ht,hx',Sem.run_bind,qU' hu,Result.andThen_ok,Sem.run_pure];rfl
  ·cases h
 ·have hone:∀ {x:Value},args.toList=[x]→∃ x',args'=#[x']∧VRel ρ x x':=by
   intro x he
   have he:args=#[x]:=by apply Array.ext';exact he
   subst he
   have hx:=ha
   have hsz:args'.size=1:=by have:=hx.1;simpa using this.symm
   refine⟨args'.getD 0 undef,?_,hx.2 0 (by simp)⟩
   apply Array.ext
   ·simp[hsz]
   ·intro i h1 h2
    have:i=0:=by simp at h2;omega
    subst this
    simp[Array.getD,hsz]
  split at h
  ·rename_i he
   cases h
   obtain⟨x',rfl,hr⟩:=hone he
   cases hr
   exact⟨_,rfl,.nilPtr⟩
  ·rename_i he
   split at h
   ·rename_i hc
    cases h
    obtain⟨x',rfl,hr⟩:=hone he
    cases hr with
    |void=>exact (hc.1 rfl).elim
    |slice har hcr =>
     rename_i a' c'
     have h0:c'≠0:=by
      rcases hcr with ⟨h1,_⟩|⟨h1,h2,_⟩
      ·omega
      ·have:=hc.2 h1;omega
     refine⟨_,?_,.ptr har⟩
     have hr:∀ {ts:Array TypeId}{ty:TypeId}{m:Nat},(Builtin.unsafeSliceData_ ts ty #[.slice (some a') m c']).run P w = .ok (.pointer (some a')) w:=by
      intro ts ty m
      show (if c'≠0 then (pure (Value.pointer (some a')):Sem Value) else _).run P w=_
      rw[if_pos h0]
      rfl
     simp only[Go.builtin,Sem.run_bind,hr,Sem.run_pure,Result.andThen_ok]
   ·cases h
  ·cases h
 ·split at h
  ·rename_i hp
   rw[hplain hp]
   obtain⟨h1,h2⟩:=pure6_sound (ρ:=ρ) h w
   exact⟨v,by simp only[Go.builtin,Sem.run_bind,h1,Result.andThen_ok,Sem.run_pure],h2⟩
  ·cases h
 ·split at h
  ·rename_i hp
   rw[hplain hp]
   obtain⟨h1,h2⟩:=pure6_sound (ρ:=ρ) h w
   exact⟨v,by simp only[Go.builtin,Sem.run_bind,h1,Result.andThen_ok,Sem.run_pure],h2⟩
  ·cases h
 ·cases h
theorem cidxAddr_sound{t:TypeId}{x ix x' ix' v:Value}(h:cidxAddr P t x ix=some v)(hx:VRel ρ x x')(hi:VRel ρ ix ix')(w:World) :
  ∃ v',(Instr.indexAt t x' ix').run P w = .ok v' w∧VRel ρ v v':=by
 unfold cidxAddr at h
 split at h
 ·rename_i k i
  cases hi
  split at h
  ·rename_i e a n c hu
   obtain⟨a',c',rfl,har,_⟩:=hx.slice_inv
   split at h
   ·rename_i ie hie
    split at h
    ·rename_i hb
     cases h
     have har:=har.resolve_right fun hz=>by omega
     refine⟨_,?_,.ptr (har.add _)⟩
     simp only[Instr.indexAt,asIntOf,Sem.run_bind,Sem.run_pure,Result.andThen_ok,qU' hu,hb,and_self,if_true,run_sizeOf' hie]
    ·cases h
   ·cases h
  ·rename_i n e a hu
   obtain⟨a',rfl,har⟩:=hx.ptr_inv
   split at h
   ·rename_i ie hie
    split at h
    ·rename_i hb
     cases h
     refine⟨_,?_,.ptr (har.add _)⟩
     simp only[Instr.indexAt,Instr.sureAddr,asIntOf,Sem.run_bind,Sem.run_pure,Result.andThen_ok,qU' hu,hb,and_self,if_true,run_sizeOf' hie]
    ·cases h
   ·cases h
  ·cases h
 ·cases h
theorem cslice_sound{t:TypeId}{x x' v:Value}{lo hi mx:Option Operand}{ev ev':Operand→Value}(h:cslice P t x (lo.map ev) (hi.map ev) (mx.map ev)=some v)(hx:VRel ρ x x')
  (hlo:∀ o,lo=some o→VRel ρ (ev o) (ev' o))(hhi:∀ o,hi=some o→VRel ρ (ev o) (ev' o))(hmx:∀ o,mx=some o→VRel ρ (ev o) (ev' o))(w:World) :
  ∃ v',(Instr.sliceAt t x' (lo.map ev') (hi.map ev') (mx.map ev')).run P w = .ok v' w∧VRel ρ v v':=by
 have hb:∀ {o:Option Operand}{d most most' m:Nat},(∀ u,o=some u→VRel ρ (ev u) (ev' u))→cbound (o.map ev) d most=some m→most≤most' →
   (o=none∧m=d)∨(∃ u,o=some u∧m≤most∧∀ code w,(Instr.sliceBound (ev' u) most' code).run P w = .ok m w):=by
  intro o d most most' m ho hc hm
  cases o with
  |none=>simp only[Option.map_none,cbound,Option.some.injEq]at hc;exact .inl ⟨rfl,hc.symm⟩
  |some u =>
   have:=cbound_sound (P:=P) (v':=some (ev' u)) hc (fun x hx=>by simp only[Option.map_some,Option.some.injEq]at hx;subst hx;exact⟨_,rfl,ho u rfl⟩) (by simp) hm
   rcases this with ⟨h1,_⟩|⟨x',h1,h2,h3⟩
   ·simp at h1
   ·cases h1;exact .inr ⟨u,rfl,h2,h3⟩
 unfold cslice at h
 split at h
 ·rename_i s hu
  cases mx with
  |some m=>simp at h
  |none =>
   obtain rfl:=hx.string_inv
   simp only[Option.map_none]at h
   split at h
   ·cases h
   ·rename_i hh hch
    split at h
    ·cases h
    ·rename_i l hcl
     cases h
     refine⟨_,?_,.string _⟩
     simp only[Instr.sliceAt,Sem.run_bind,qU' hu,Result.andThen_ok,Instr.slice,Option.map_none,Option.isSome_none,Bool.false_eq_true,if_false]
     rcases hb hhi hch (Nat.le_refl _) with ⟨rfl,rfl⟩|⟨u,rfl,_,hr⟩<;>rcases hb hlo hcl (Nat.le_refl _) with ⟨rfl,rfl⟩|⟨u2,rfl,_,hr2⟩ <;>
      simp only[Instr.sliceBounds,Option.map_none,Option.map_some,Option.isSome_none,Bool.false_eq_true,if_false,Sem.run_bind,Sem.run_pure,Result.andThen_ok, *]
 ·
  rename_i e n c hu
  obtain⟨rfl,rfl,rfl⟩:=hx.nilSlice_inv
  split at h
  ·rename_i ie mm hh l hie hcm hch hcl
   split at h
   ·rename_i hcond
    cases h
    refine⟨_,?_,.nilSlice⟩
    simp only[Instr.sliceAt,Sem.run_bind,qU' hu,Result.andThen_ok,Instr.slice]
    have ms:(mx.isSome && hi.isNone)=false:=by simpa using hcond.2.2
    rcases hb hmx hcm (Nat.le_refl _) with ⟨rfl,rfl⟩|⟨u,rfl,hm0,hr⟩<;>rcases hb hhi hch (Nat.le_refl _) with ⟨rfl,rfl⟩|⟨u1,rfl,hh0,hr1⟩<;>rcases hb hlo hcl (Nat.le_refl _) with ⟨rfl,rfl⟩|⟨u2,rfl,hl0,hr2⟩ <;>
     (try (simp at ms;done))<;>(try obtain rfl:=Nat.le_zero.1 hm0)<;>(try obtain rfl:=Nat.le_zero.1 hh0)<;>(try obtain rfl:=Nat.le_zero.1 hl0) <;>
     simp only[Instr.sliceBounds,Option.map_none,Option.map_some,Option.isSome_none,Option.isSome_some,Bool.false_eq_true,if_false,if_true,Sem.run_bind,Sem.run_pure,Result.andThen_ok,run_sizeOf' hie,Nat.sub_self, *]
   ·cases h
  ·cases h
 ·
  rename_i e a n c hu
  obtain⟨a',c',rfl,har,hcr⟩:=hx.slice_inv
  split at h
  ·cases h
  ·rename_i ie hie
   have hle:(if c=UNK then n else c)≤c':=by
    rcases hcr with ⟨h1,h2⟩|⟨h1,h2,_⟩
    ·subst h1;rw[if_neg oM];exact Nat.le_refl _
    ·rw[if_pos h1];exact h2
   have hex:c≠UNK→c'=c:=by
    intro hne;rcases hcr with ⟨h1,_⟩|⟨h1,_⟩
    ·exact h1.symm
    ·exact (hne h1).elim
   have hsl:∀ l hh m,m<UNK→(n=0→c'=0→hh=0∧m=0)→VRel ρ (.slice (some (if m=l then a else a.add (l*ie.size))) (hh - l) (m - l)) (.slice (if m=l then some a' else (some a').map (·.add (l*ie.size))) (hh - l) (m - l)):=by
    intro l hh m hm hz0
    rcases har with har|⟨hz1,_,hz⟩
    rotate_left
    ·obtain⟨hz2,hz3⟩:=hz0 hz1 hz
     have e1:hh - l=0:=oM
     have e2:m - l=0:=oM
     rw[e1,e2]
     by_cases e:m=l
     ·simp only[if_pos e];exact .void
     ·simp only[if_neg e,Option.map_some];exact .void
    by_cases e:m=l
    ·simp only[if_pos e];exact .slice har (.inl ⟨rfl,oM⟩)
    ·simp only[if_neg e,Option.map_some];exact .slice (har.add _) (.inl ⟨rfl,oM⟩)
   cases mx with
   |some ox =>
    simp only[Option.map_some,Option.isSome_some,Bool.true_and,Option.isNone_some,Bool.false_and,Bool.false_eq_true,if_false]at h
    split at h
    ·cases h
    ·rename_i m hcm
     cases hi with
     |none=>simp at h
     |some oh =>
      simp only[Option.map_some,Option.isNone_some,Bool.false_eq_true,if_false]at h
      split at h
      ·cases h
      ·rename_i hh hch
       split at h
       ·cases h
       ·rename_i l hcl
        split at h
        ·rename_i hmu
         cases h
         refine⟨_,?_,hsl l hh m hmu fun _ hz=>?_⟩
         rotate_left
         ·rcases hb (o:=some ox) hmx hcm hle with ⟨h1,_⟩|⟨u,hu1,hm0,hr⟩
          ·cases h1
          rcases hb (o:=some oh) hhi hch (Nat.le_refl _) with ⟨h1,_⟩|⟨u1,hu2,hh0,hr1⟩
          ·cases h1
          omega
         rcases hb (o:=some ox) hmx hcm hle with ⟨h1,_⟩|⟨u,hu1,hm0,hr⟩
         ·cases h1
         cases hu1
         rcases hb (o:=some oh) hhi hch (Nat.le_refl _) with ⟨h1,_⟩|⟨u1,hu2,hh0,hr1⟩
         ·cases h1
         cases hu2
         simp only[Instr.sliceAt,Sem.run_bind,qU' hu,Result.andThen_ok,Instr.slice,Instr.sliceBounds,Option.map_some,Option.isSome_some,if_true,hr,hr1]
         rcases hb hlo hcl (Nat.le_refl _) with ⟨rfl,rfl⟩|⟨u2,rfl,hl0,hr2⟩
         ·simp only[Option.map_none,Sem.run_bind,Sem.run_pure,Result.andThen_ok,run_sizeOf' hie]
         ·simp only[Option.map_some,hr2,Sem.run_bind,Sem.run_pure,Result.andThen_ok,run_sizeOf' hie]
        ·cases h
   |none =>
    simp only[Option.map_none,cbound,Option.isSome_none,Bool.false_and,Bool.false_eq_true,if_false,Option.isNone_none,Bool.true_and,beq_iff_eq]at h
    split at h
    ·cases h
    ·rename_i hh hch
     split at h
     ·cases h
     ·rename_i l hcl
      have hle2:(if c=UNK then n else c)≤c':=hle
      have hrun:∀ w,(Instr.sliceAt t (.slice (some a') n c') (lo.map ev') (hi.map ev') none).run P w = .ok (.slice (if c'=l then some a' else (some a').map (·.add (l*ie.size))) (hh - l) (c' - l)) w:=by
       intro w
       simp only[Instr.sliceAt,Sem.run_bind,qU' hu,Result.andThen_ok,Instr.slice,Instr.sliceBounds,Sem.run_pure,if_true]
       rcases hb hhi hch hle2 with ⟨rfl,rfl⟩|⟨u1,rfl,hh0,hr1⟩<;>rcases hb hlo hcl (Nat.le_refl _) with ⟨rfl,rfl⟩|⟨u2,rfl,hl0,hr2⟩ <;>
        simp only[Option.map_none,Option.map_some,Option.isSome_none,Bool.false_eq_true,if_false,Sem.run_bind,Sem.run_pure,Result.andThen_ok,run_sizeOf' hie, *]
      split at h
      ·rename_i hcu
       split at h
       ·rename_i hl0
        cases h
        subst hl0
        refine⟨_,hrun w,?_⟩
        have e1:(if c'=0 then some a' else (some a').map (·.add (0*ie.size)))=some a':=by
         split
         ·rfl
         ·simp[addr_add_zero]
        rw[e1]
        simp only[Nat.sub_zero]
        rcases hcr with ⟨h1,h2⟩|⟨h1,h2,h3,h4⟩
        ·omega
        ·have har:=har.resolve_right fun hz=>by rw[hcu]at hz;unfold UNK at hz;omega
         refine .slice har (.inr ⟨h1,?_,h3,h4⟩)
         rw[if_pos hcu]at hch
         rcases hb hhi hch h2 with ⟨_,rfl⟩|⟨_,_,h5,_⟩<;>omega
       ·cases h
      ·rename_i hcu
       split at h
       ·rename_i hmu
        cases h
        obtain rfl:=hex hcu
        refine⟨_,hrun w,hsl l hh c' hmu fun hz1 hz=>?_⟩
        rcases hb hhi hch hle2 with ⟨_,rfl⟩|⟨_,_,h5,_⟩<;>omega
       ·cases h
 ·
  rename_i n e a hu
  obtain⟨a',rfl,har⟩:=hx.ptr_inv
  split at h
  ·cases h
  ·rename_i ie hie
   split at h
   ·cases h
   ·rename_i m hcm
    split at h
    ·cases h
    ·rename_i hh hch0
     split at h
     ·cases h
     ·rename_i l hcl
      split at h
      ·rename_i hmu
       cases h
       refine⟨_,?_,.slice (a':=if m=l then a' else a'.add (l*ie.size)) ?_ (.inl ⟨rfl,oM⟩)⟩
       ·have ms:((mx.map ev).isSome && (hi.map ev).isNone)=false:=by
         cases hq:((mx.map ev).isSome && (hi.map ev).isNone) with
         |true=>rw[hq]at hch0;simp at hch0
         |false=>rfl
        have hch:cbound (hi.map ev) n m=some hh:=by rw[ms]at hch0;simpa using hch0
        simp only[Instr.sliceAt,Sem.run_bind,qU' hu,Result.andThen_ok,Instr.sureAddr,Sem.run_pure]
        rcases hb hmx hcm (Nat.le_refl _) with ⟨rfl,rfl⟩|⟨u,rfl,hm0,hr⟩<;>rcases hb hhi hch (Nat.le_refl _) with ⟨rfl,rfl⟩|⟨u1,rfl,hh0,hr1⟩<;>rcases hb hlo hcl (Nat.le_refl _) with ⟨rfl,rfl⟩|⟨u2,rfl,hl0,hr2⟩ <;>
         (try (simp at ms;done)) <;>
         simp only[Instr.sliceBounds,Option.map_none,Option.map_some,Option.isSome_none,Option.isSome_some,Bool.false_eq_true,if_false,if_true,Sem.run_bind,Sem.run_pure,Result.andThen_ok,run_sizeOf' hie, *] <;>
         (split<;>rfl)
       ·split
        ·exact har
        ·exact har.add _
      ·cases h
 ·cases h
end
end Go.Cs
namespace Go.Cs
section
variable {P:Program}{ρ:Ren}
theorem cassert_sound{x x' v:Value}{xt asserted:TypeId}{ok:Bool}(h:cassert P x asserted ok=some v)(hx:VRel ρ x x')(w:World) :
  ∃ v',(Instr.typeAssert x' xt asserted ok).run P w = .ok v' w∧VRel ρ v v':=by
 have hholds:∀ {u u':Value},VRel ρ u u'→VRel ρ (if ok then .tuple #[u,.bool true] else u) (if ok then .tuple #[u',.bool true] else u'):=by
  intro u u' hu
  cases ok
  ·exact hu
  ·refine .tuple (by simp) rfl fun i hi=>?_
   simp at hi
   match i,hi with
   |0,_=>exact hu
   |1,_=>exact .bool true
 have hfails:∀ {u:Value}(o1 o2:Option TypeId) (ms:String),(if ok then ((P.info? asserted).bind (·.zero)).bind fun z=>if plain 6 z then some (.tuple #[z,.bool false]) else none else none)=some u →
   ∃ u',(if ok then do pure (.tuple #[← zeroValue asserted,.bool false]) else runtimePanic (.typeAssertion o1 o2 asserted ms):Sem Value).run P w = .ok u' w∧VRel ρ u u':=by
  intro u o1 o2 ms hu
  cases ok with
  |false=>simp at hu
  |true =>
   simp only[if_true]at hu ⊢
   obtain⟨z,hz,hu⟩:=Option.bind_eq_some_iff.1 hu
   obtain⟨i,hi,hz⟩:=Option.bind_eq_some_iff.1 hz
   split at hu
   ·rename_i hp
    cases hu
    refine⟨_,by simp only[zeroValue,Sem.run_bind,run_typeInfo' hi,Result.andThen_ok,hz,Sem.run_pure],.tuple (by simp) rfl fun i hi=>?_⟩
    simp at hi
    match i,hi with
    |0,_=>exact VRel.of_plain 6 hp
    |1,_=>exact .bool false
   ·cases hu
 unfold cassert at h
 simp only at h
 split at h
 ·rename_i want t u hu
  obtain⟨u',rfl,hr⟩:=hx.iface_inv
  split at h
  ·rename_i i hi
   split at h
   ·rename_i hm
    cases h
    refine⟨_,?_,hholds (.iface t hr)⟩
    simp only[Instr.typeAssert,Sem.run_bind,qU' hu,Result.andThen_ok,run_typeInfo' hi,hm,Sem.run_pure]
   ·rename_i m hm
    obtain⟨u2,h1,h2⟩:=hfails none (some t) m h
    refine⟨u2,?_,h2⟩
    simp only[Instr.typeAssert,Sem.run_bind,qU' hu,Result.andThen_ok,run_typeInfo' hi,hm]
    exact h1
  ·cases h
 ·rename_i want hu
  obtain rfl:=hx.nilIface_inv
  obtain⟨u2,h1,h2⟩:=hfails none none "" h
  refine⟨u2,?_,h2⟩
  simp only[Instr.typeAssert,Sem.run_bind,qU' hu,Result.andThen_ok]
  exact h1
 ·rename_i d t u hni hu
  obtain⟨u',rfl,hr⟩:=hx.iface_inv
  split at h
  ·rename_i e
   cases h
   refine⟨_,?_,hholds hr⟩
   simp only[Instr.typeAssert,Sem.run_bind,qU' hu,Result.andThen_ok]
   split<;>simp_all
  ·rename_i e
   obtain⟨u2,h1,h2⟩:=hfails (some xt) (some t) "" h
   refine⟨u2,?_,h2⟩
   simp only[Instr.typeAssert,Sem.run_bind,qU' hu,Result.andThen_ok]
   split<;>first|(rename_i e1;cases e1;simp only[e,if_false];exact h1)|(simp_all;done)
 ·rename_i d hni hu
  obtain rfl:=hx.nilIface_inv
  obtain⟨u2,h1,h2⟩:=hfails (some xt) none "" h
  refine⟨u2,?_,h2⟩
  simp only[Instr.typeAssert,Sem.run_bind,qU' hu,Result.andThen_ok]
  split<;>first|exact h1|(simp_all;done)
 ·cases h
theorem cpure_sound{o:Oper}{ev ev':Operand→Value}{v:Value}(h:cpure P ev o.type o.op=some v)(hev:∀ x∈o.op.operands,VRel ρ (ev x) (ev' x))(w:World) :
  ∃ v',(execOp ev' o).run P w = .ok (.value v') w∧VRel ρ v v':=by
 obtain⟨dst,op,ty,pos,after,guard⟩:=o
 simp only at h hev
 cases op<;>simp only[cpure]at h<;>(try (cases h;done))<;>simp only[execOp]
 case move x=>cases h;exact⟨_,rfl,hev x (by simp[Op.operands])⟩
 case assign x=>cases h;exact⟨_,rfl,hev x (by simp[Op.operands])⟩
 case pick c a b =>
  split at h
  ·rename_i t ht
   cases h
   have hc:=hev c (by simp[Op.operands])
   rw[ht]at hc
   rw[hc.bool_inv]
   refine⟨_,by simp only[asBool,Sem.run_bind,Sem.run_pure,Result.andThen_ok];rfl,?_⟩
   cases t
   ·exact hev b (by simp[Op.operands])
   ·exact hev a (by simp[Op.operands])
  ·cases h
 case build t parts =>
  split at h
  ·rename_i hc
   have hz:∀ z,pureRun P (zeroValue t)=some z→VsRel ρ z.cells z.cells:=by
    intro z hz
    have h2:=hc.2
    unfold zeroPlain at h2
    rw[hz]at h2
    have h3:=VRel.of_plain (ρ:=ρ) 6 h2
    exact okPart_cells h3 (by cases z<;>first|rfl|(simp[plain]at h2))
   obtain⟨v',h1,h2⟩:=build_sound h hz hc.1 (fun x hx=>hev x.2 (by simp only[Op.operands,List.mem_toArray,List.mem_map];exact⟨x,by simpa using hx,rfl⟩)) w
   refine⟨v',?_,h2⟩
   simp only[Sem.run_bind]
   rw[show (parts.map fun (x:Nat×Operand)=>match x with|(i,x)=>(i,ev' x))=parts.map fun x=>(x.1,ev' x.2) from rfl,h1]
   rfl
  ·cases h
 case nilCheck x =>
  have hx:=hev x (by simp[Op.operands])
  split at h
  ·rename_i a ha
   cases h
   rw[ha]at hx
   obtain⟨a',e,har⟩:=hx.ptr_inv
   rw[e]
   exact⟨_,rfl,.ptr har⟩
  ·rename_i t u hu
   cases h
   rw[hu]at hx
   obtain⟨u',e,hr⟩:=hx.iface_inv
   rw[e]
   exact⟨_,rfl,.iface t hr⟩
  ·rename_i f a b hf
   cases h
   rw[hf]at hx
   obtain⟨a',b',e,h1,h2⟩:=hx.func_inv
   rw[e]
   exact⟨_,rfl,.func _ (by simp) h1.1 h1.2 h2.1 h2.2⟩
  ·cases h
 case binOp op t x y yt =>
  obtain⟨v',h1,h2⟩:=cbin_sound h (hev x (by simp[Op.operands])) (hev y (by simp[Op.operands])) w
  exact⟨v',by rw[Sem.run_bind,h1];rfl,h2⟩
 case unOp op t x =>
  split at h
  ·rename_i hp
   rw[VRel.eq_of_plain 1 hp (hev x (by simp[Op.operands]))]
   obtain⟨h1,h2⟩:=pure6_sound (ρ:=ρ) h w
   exact⟨v,by simp only[Sem.run_bind,h1,Result.andThen_ok,Sem.run_pure],h2⟩
  ·cases h
 case convert src d x =>
  split at h
  ·rename_i hp
   rw[VRel.eq_of_plain 1 hp (hev x (by simp[Op.operands]))]
   obtain⟨h1,h2⟩:=pure6_sound (ρ:=ρ) h w
   exact⟨v,by simp only[Sem.run_bind,h1,Result.andThen_ok,Sem.run_pure],h2⟩
  ·cases h
 case makeInterface t x =>
  split at h
  ·cases h
  ·rename_i d hne hd
   cases h
   refine⟨_,?_,.iface t (hev x (by simp[Op.operands]))⟩
   simp only[Instr.makeInterface,Sem.run_bind,qU' hd,Result.andThen_ok]
   cases d<;>first|rfl|simp_all
  ·cases h
 case makeFunc fn first captured =>
  split at h
  ·cases h
  ·rename_i hfn
   cases h
   refine⟨_,rfl,?_⟩
   have h1:=VsRel.map (ρ:=ρ) first ev ev' (fun x hx=>hev x (by simp[Op.operands,hx]))
   have h2:=VsRel.map (ρ:=ρ) captured ev ev' (fun x hx=>hev x (by simp[Op.operands,hx]))
   exact .func fn (fun l e=>hfn l e) h1.1 h1.2 h2.1 h2.2
 case fieldAddr t x f =>
  have hx:=hev x (by simp[Op.operands])
  split at h
  ·rename_i fs a hu ha
   rw[ha]at hx
   obtain⟨a',e,har⟩:=hx.ptr_inv
   split at h
   ·rename_i fl hfl
    split at h
    ·rename_i i hi
     split at h
     ·cases h
     ·rename_i hne
      cases h
      rw[e]
      refine⟨_,?_,.ptr (har.add _)⟩
      simp only[Instr.fieldAt,Sem.run_bind,qU' hu,Result.andThen_ok,hfl,Instr.sureAddr,Sem.run_pure,fieldPlace,run_sizeOf' hi,hne,if_false]
    ·cases h
   ·cases h
  ·cases h
 case field t x f =>
  have hx:=hev x (by simp[Op.operands])
  split at h
  ·rename_i fs cs hu ha
   rw[ha]at hx
   obtain⟨cs',e,hcs⟩:=hx.agg_inv
   split at h
   ·rename_i fl hfl
    obtain⟨v',h1,h2⟩:=cpart_sound h hcs w
    rw[e]
    refine⟨v',?_,h2⟩
    simp only[Instr.field,Sem.run_bind,qU' hu,Result.andThen_ok,hfl,asAgg,Sem.run_pure,h1]
   ·cases h
  ·cases h
 case indexAddr t x ix =>
  obtain⟨v',h1,h2⟩:=cidxAddr_sound h (hev x (by simp[Op.operands])) (hev ix (by simp[Op.operands])) w
  exact⟨v',by simp only[Sem.run_bind,h1,Result.andThen_ok,Sem.run_pure],h2⟩
 case index t x ix =>
  have hx:=hev x (by simp[Op.operands])
  have hi:=hev ix (by simp[Op.operands])
  split at h
  ·rename_i s k i hu hs hix
   rw[hs]at hx;rw[hix]at hi
   rw[hx.string_inv,hi.int_inv]
   split at h
   ·rename_i h0
    obtain⟨b,hb,rfl⟩:=Option.map_eq_some_iff.1 h
    refine⟨_,?_,.int _ _⟩
    simp only[Instr.index,asIntOf,Sem.run_bind,Sem.run_pure,Result.andThen_ok,qU' hu,h0,if_true,hb]
   ·cases h
  ·rename_i n e cs k i hu hs hix
   rw[hs]at hx;rw[hix]at hi
   rw[hi.int_inv]
   obtain⟨cs',e',hcs⟩:=hx.agg_inv
   rw[e']
   split at h
   ·rename_i ie hie
    split at h
    ·rename_i hb
     obtain⟨v',h1,h2⟩:=cpart_sound h hcs w
     refine⟨v',?_,h2⟩
     simp only[Instr.index,asIntOf,Sem.run_bind,Sem.run_pure,Result.andThen_ok,qU' hu,hb,and_self,if_true,run_sizeOf' hie,h1]
    ·cases h
   ·cases h
  ·cases h
 case slice t x lo hi mx =>
  obtain⟨v',h1,h2⟩:=cslice_sound (ev':=ev') h (hev x (by simp[Op.operands])) (fun o ho=>hev o (by simp[Op.operands,ho])) (fun o ho=>hev o (by simp[Op.operands,ho])) (fun o ho=>hev o (by simp[Op.operands,ho])) w
  exact⟨v',by simp only[Sem.run_bind,h1,Result.andThen_ok,Sem.run_pure],h2⟩
 case typeAssert x xt asserted ok =>
  obtain⟨v',h1,h2⟩:=cassert_sound (xt:=xt) h (hev x (by simp[Op.operands])) w
  exact⟨v',by simp only[Sem.run_bind,h1,Result.andThen_ok,Sem.run_pure],h2⟩
 case extract x i =>
  have hx:=hev x (by simp[Op.operands])
  split at h
  ·rename_i vs hvs
   split at h
   ·split at h
    ·rename_i e1
     split at h
     ·rename_i e2
      cases h
      subst e2
      have:vs=#[.bool false]:=by apply Array.ext';exact e1
      subst this
      rw[hvs]at hx
      have hx':ev' x = .tuple #[.bool false]:=by
       generalize ev' x=y at hx
       generalize hz:Value.tuple #[.bool false]=z at hx
       cases hx with
       |over=>rfl
       |tuple h1=>cases hz;exact absurd rfl h1
       |unk=>cases hz
       |_=>cases hz
      rw[hx']
      exact⟨.bool false,rfl,.bool false⟩
     ·cases h
    ·cases h
   ·rename_i hne
    rw[hvs]at hx
    obtain⟨vs',e,hr⟩:=hx.tuple_inv hne
    obtain⟨v',hv',hrel⟩:=hr.getElem? h
    rw[e]
    refine⟨v',?_,hrel⟩
    simp only[Instr.extract,hv',Sem.run_bind,Sem.run_pure,Result.andThen_ok]
  ·cases h
 case call c =>
  split at h
  ·rename_i b hb
   have ha:=VsRel.map (ρ:=ρ) c.args ev ev' (fun x hx=>hev x (by simp[Op.operands,Call.operands,hx]))
   obtain⟨v',h1,h2⟩:=run_lenOf h ha (c.args.map fun | .const _=>true|_=>false) w
   refine⟨v',?_,h2⟩
   simp only[resolve,hb,Sem.run_bind,Sem.run_pure,Result.andThen_ok,invoke]
   exact h1
  ·cases h
end
end Go.Cs
end
section
namespace Go.Cs
section
variable {M:Type}[Mem M](P:Program)
def byteOf?:Value→Option UInt8
 |.int .u8 n=>some (UInt8.ofNat n.toNat)
 |_=>none
def cfind(t:TypeId)(k:Value)(es:List MapEntry):Option (Option (Nat×Value)):=
 if plain 6 k=true then
  match P.underlying t with
  |some (.int i)=>Instr.findNow (.int i) k es 0
  |some .string=>Instr.findNow .string k es 0
  |some .bool=>Instr.findNow .bool k es 0
  |_=>none
 else none
def czero(t:TypeId):Option Value:=((P.info? t).bind (·.zero)).bind fun z=>if plain 6 z=true then some z else none
def clookup(t:TypeId)(m k:Value)(ok:Bool)(s:St M):Option Value:=
 match P.underlying t with
 |some (.map kt et) =>
  let look (es:List MapEntry):Option Value:=
   match cfind P kt k es with
   |some (some (_,v))=>some (if ok then .tuple #[v,.bool true] else v)
   |some none=>(czero P et).map fun z=>if ok then .tuple #[z,.bool false] else z
   |none=>none
  match m with
  |.map none=>look []
  |.map (some r)=>match s.at' r with
   |some (.map es _)=>look es
   |_=>none
  |_=>none
 |_=>none
def upOk(e u:TypeId):Bool:=(P.info? e).any (fun i=>i.size != 0) && sameLayout P P.depth e u && P.depth != 0 && (P.info? u).any (fun i=>i.size != 0)
def cread(ev:Operand→Value)(s:St M):Op→Option Value
 |.load t x=>match ev x with
  |.pointer (some a)=>cload P t a s
  |_=>none
 |.lookup t m k ok=>clookup P t (ev m) (ev k) ok s
 |.binOp op t x y _=>match ev x,ev y,P.underlying t with
  |.pointer (some a),.pointer (some b),some (.pointer e)=>match P.info? e with
   |some ie =>
    if a.block=b.block∧ie.size≠0∧a.spot=none∧b.spot=none then
     match op with
     |.eql=>some (.bool (a.off == b.off))
     |.neq=>some (.bool (!(a.off == b.off)))
     |_=>none
    else none
   |none=>none
  |_,_,_=>none
 |.convert src dst x=>match P.underlying src,P.underlying dst,ev x with
  |some (.slice e),some .string,.slice (some a) n _=>match P.underlying e,s.at' a.block with
   |some (.int .u8),some (.cells vs _ _)=>match cut vs a.off n with
    |some l=>(l.mapM byteOf?).map fun bs => .string ⟨bs.toArray⟩
    |none=>none
   |_,_=>none
  |some (.slice e),some .string,.slice none _ _=>match P.underlying e with
   |some (.int .u8)=>some (.string .empty)
   |_=>none
  |some (.pointer t),some .unsafePointer,.pointer (some a)=>match s.at' a.block with
   |some (.cells vs _ _)=>if (P.info? t).any (fun i=>i.size != 0)=true∧a.off<vs.length then some (.pointer (some a)) else none
   |_=>none
  |some .unsafePointer,some (.pointer u),.pointer (some a)=>match s.at' a.block with
   |some (.cells vs e true)=>if upOk P e u=true∧a.off % P.cellsOf e=0∧a.off+P.cellsOf e≤vs.length then some (.pointer (some a)) else none
   |_=>none
  |_,_,_=>none
 |.slice t x lo hi none=>match P.underlying t,ev x with
  |some (.slice e),.slice (some a) n c=>match P.info? e,cbound (hi.map ev) n n with
   |some ie,some h=>match cbound (lo.map ev) 0 h,s.at' a.block with
    |some l,some (.cells _ e' _)=>if c=UNK∧l<n∧P.cellsOf e'=ie.size then some (.slice (some (a.add (l*ie.size))) (h - l) UNK) else none
    |_,_=>none
   |_,_=>none
  |_,_=>none
 |.call c=>match c.callee with
  |.builtin .len=>match c.argTypes[0]?.bind P.underlying,(c.args[0]?).map ev with
   |some (.map _ _),some (.map (some r))=>match s.at' r with
    |some (.map es _)=>some (.int .i64 es.length)
    |_=>none
   |_,_=>none
  |_=>none
 |_=>none
def czeros(z:Value)(n:Nat):List Value:=((Array.range n).map (z.cells[· % z.cells.size]!)).toList
def zerosOf(e:TypeId)(n:Nat):Option (List Value):=
 if n=0 then some []
 else match czero P e with
  |some z=>if z.cells.size=0 then none else some (czeros z n)
  |none=>none
def calloc(ev:Operand→Value):Op→Option (Blk×(Nat→Value))
 |.alloc t=>(czero P t).map fun z=>(.cells z.cells.toList t true,fun b => .pointer (some ⟨b,0,none⟩))
 |.box t x=>if qP (ev x)=true∧(P.info? t).isSome then some (.cells (ev x).cells.toList t true,fun b => .pointer (some ⟨b,0,none⟩)) else none
 |.buildSlice t len parts=>match P.underlying t with
  |some (.slice e)=>match P.info? e with
   |some ie=>if len*ie.size≤65536∧len<UNK∧(parts.toList.all fun x=>qP (ev x.2))=true then
     match zerosOf P e (len*ie.size) with
     |some z=>match Instr.fill (fun i=>some (i*ie.size,ie.size)) z.toArray (parts.map fun x=>(x.1,ev x.2)).toList with
      |some cells=>some (.cells cells.toList e true,fun b => .slice (some ⟨b,0,none⟩) len len)
      |none=>none
     |none=>none
    else none
   |none=>none
  |_=>none
 |.makeMap _ none=>some (.map [] 0,fun b => .map (some b))
 |.makeSlice t l c=>match P.underlying t,ev l,ev c with
  |some (.slice e),.int _ l,.int _ c=>match P.info? e with
   |some ie=>if 0≤l∧l≤c∧c≤4294967296∧c*ie.bytes≤281474976710656 then
     match zerosOf P e (c.toNat*ie.size) with
     |some z=>some (.cells z e true,fun b => .slice (some ⟨b,0,none⟩) l.toNat c.toNat)
     |none=>none
    else none
   |none=>none
  |_,_,_=>none
 |.range t x=>match P.underlying t,ev x with
  |some .string,.string s=>some (.strIter s 0,fun b => .pointer (some ⟨b,0,none⟩))
  |_,_=>none
 |.convert src dst x=>match P.underlying src,P.underlying dst,ev x with
  |some .string,some (.slice e),.string s=>match P.underlying e with
   |some (.int .u8)=>if s.size<UNK∧(P.info? e).any (fun i=>i.size == 1) then some (.cells (s.data.toList.map fun b => .int .u8 b.toNat) e true,fun b => .slice (some ⟨b,0,none⟩) s.size UNK) else none
   |_=>none
  |_,_,_=>none
 |_=>none
end
section
variable {M:Type}[Mem M]{P:Program}{w0:World}{ρ:Ren}{s:St M}{w:World}
theorem run_load_at{w:World}{b o:Nat}{cs:Array Value}{e:TypeId}{fr:Nat×Nat}{v:Value}(hb:w.heap[b]?=some (.cells cs e fr))(h:cs[o]?=some v) :
  (load ⟨b,o,none⟩).run P w = .ok v w:=by
 simp[load,Sem.run,World.cell?,hb,h]
theorem addr_add_mk(b o i:Nat):(⟨b,o,none⟩:Addr).add i=⟨b,o+i,none⟩:=by
 unfold Addr.add
 split
 ·simp[*]
 ·rfl
theorem run_loadCellsFrom{w:World}{b o:Nat}{cs:Array Value}{e:TypeId}{fr:Nat×Nat}(hb:w.heap[b]?=some (.cells cs e fr)) :
  ∀ (n i:Nat) (acc:Array Value),o+i+n≤cs.size→(loadCellsFrom ⟨b,o,none⟩ i n acc).run P w = .ok (acc++cs.extract (o+i) (o+i+n)) w:=by
 intro n
 induction n with
 |zero=>intro i acc _;simp[loadCellsFrom];omega
 |succ n ih =>
  intro i acc h
  have hv:cs[o+i]?=some cs[o+i]:=by simp
  simp only[loadCellsFrom,Sem.run_bind,addr_add_mk,run_load_at hb hv,Result.andThen_ok]
  rw[ih (i+1) _ oM]
  congr 1
  rw[Array.push_eq_append,Array.append_assoc]
  congr 1
  apply Array.ext'
  have hl:o+i<cs.toList.length:=by simp;omega
  simp only[Array.toList_append,Array.toList_extract,List.extract_eq_take_drop]
  rw[show o+i+(n+1) - (o+i)=n+1 from oM,show o+(i+1)+n - (o+(i+1))=n from oM]
  rw[show o+(i+1)=o+i+1 from oM,List.drop_eq_getElem_cons hl]
  simp
theorem run_loadCells{w:World}{b o n:Nat}{cs:Array Value}{e:TypeId}{fr:Nat×Nat}(hb:w.heap[b]?=some (.cells cs e fr))(h:o+n≤cs.size) :
  (loadCells ⟨b,o,none⟩ n).run P w = .ok (cs.extract o (o+n)) w:=by
 have:=run_loadCellsFrom (P:=P) hb n 0 #[] (by simpa using h)
 simpa [loadCells] using this
theorem cut_rel{vs l:List Value}{cs:Array Value}{sh off n:Nat}(h:cut vs off n=some l)(hsz:sh+vs.length≤cs.size)(hv:∀ k,k<vs.length→VRel ρ (vs.getD k undef) (cs.getD (sh+k) undef)) :
  off+sh+n≤cs.size∧VsRel ρ l.toArray (cs.extract (off+sh) (off+sh+n)):=by
 unfold cut at h
 split at h
 ·rename_i hle
  cases h
  refine⟨oM,⟨by simp;omega,fun i hi=>?_⟩⟩
  simp only[List.size_toArray,List.length_take,List.length_drop]at hi
  have h0:=hv (off+i) oM
  have e1:(((vs.drop off).take n).toArray).getD i undef=vs.getD (off+i) undef:=by
   rw[Array.getD_eq_getD_getElem?,List.getElem?_toArray,List.getElem?_take,if_pos oM,List.getElem?_drop,← List.getD_eq_getElem?_getD]
  have e2:(cs.extract (off+sh) (off+sh+n)).getD i undef=cs.getD (sh+(off+i)) undef:=by
   rw[Array.getD_eq_getD_getElem?,Array.getD_eq_getD_getElem?,Array.getElem?_extract,if_pos oM]
   congr 2;omega
  rw[e1,e2]
  exact h0
 ·cases h
theorem cload_sound{t:TypeId}{a:Addr}{a':Addr}{v:Value}(h:cload P t a s=some v)(hR:Rel P w0 ρ s w)(ha:ARel ρ a a') :
  ∃ v',(loadVar t a').run P w = .ok v' w∧VRel ρ v v':=by
 unfold cload at h
 obtain⟨i,hi,hsp,rfl⟩:=ha
 split at h
 ·rename_i vs e own hat
  obtain⟨o,ho,hb⟩:=hR.blk _ _ _ hi hat
  obtain⟨cs,e',fr,rfl,hsz,hv,_⟩:=hb
  split at h
  ·rename_i hagg
   obtain⟨ti,hti⟩:=info_of_agg hagg
   obtain⟨l,hl,rfl⟩:=Option.map_eq_some_iff.1 h
   obtain⟨h1,h2⟩:=cut_rel hl hsz hv
   rw[cellsOf_info hti]at h1 h2
   refine⟨_,?_,.agg h2.1 h2.2⟩
   simp only[loadVar,Sem.run_bind,run_isAgg hagg,Result.andThen_ok,if_true,run_sizeOf' hti,run_loadCells ho h1,Sem.run_pure]
  ·rename_i hagg
   have hlt:a.off<vs.length:=by
    rcases Nat.lt_or_ge a.off vs.length with h'|h'
    ·exact h'
    ·rw[List.getElem?_eq_none h']at h;cases h
   have hc:a.off+i.sh<cs.size:=oM
   have hr:=hv a.off hlt
   rw[List.getD_eq_getElem?_getD,h,Nat.add_comm i.sh]at hr
   have hcv:cs[a.off+i.sh]?=some cs[a.off+i.sh]:=by simp
   refine⟨cs[a.off+i.sh],?_,by simpa [Array.getD,hc] using hr⟩
   simp only[loadVar,Sem.run_bind,run_isAgg hagg,Result.andThen_ok,Bool.false_eq_true,if_false]
   exact run_load_at ho hcv
  ·cases h
 ·cases h
end
end Go.Cs
namespace Go.Cs
section
variable {M:Type}[Mem M]{P:Program}{w0:World}{ρ:Ren}{s:St M}{w:World}
theorem sameNow_eq(kd:TypeDesc)(k a b:Value)(h:a=b):Instr.sameNow kd k a=Instr.sameNow kd k b:=by rw[h]
def EsRel(ρ:Ren)(es:List MapEntry)(es':Array MapEntry):Prop:=
 es'.size=es.length∧∀ k (h:k<es.length) (h':k<es'.size),es'[k].key=es[k].key∧es'[k].born=es[k].born∧plain 6 es[k].key=true∧VRel ρ es[k].val es'[k].val
theorem EsRel.cons{e:MapEntry}{es:List MapEntry}{e':MapEntry}{es':List MapEntry}(h:EsRel ρ (e::es) (e'::es').toArray):e'.key=e.key∧VRel ρ e.val e'.val∧EsRel ρ es es'.toArray:=by
 obtain⟨h1,h2⟩:=h
 have h0:=h2 0 (by simp) (by simp)
 simp only[List.getElem_toArray,List.getElem_cons_zero]at h0
 refine⟨h0.1,h0.2.2.2,by simpa using h1,fun k hk hk'=>?_⟩
 have:=h2 (k+1) (by simp;omega) (by simp at hk' ⊢;omega)
 simpa using this
theorem findNow_rel(kd:TypeDesc)(k:Value):∀ (es:List MapEntry) (es':List MapEntry) (i:Nat) (r:Option (Nat×Value)),EsRel ρ es es'.toArray→Instr.findNow kd k es i=some r →
  (r=none→Instr.findNow kd k es' i=some none)∧(∀ j v,r=some (j,v)→∃ v',Instr.findNow kd k es' i=some (some (j,v'))∧VRel ρ v v'):=by
 intro es
 induction es with
 |nil =>
  intro es' i r h hf
  have:es'=[]:=by have:=h.1;simp at this;exact this
  subst this
  simp only[Instr.findNow,Option.some.injEq]at hf
  subst hf
  exact⟨fun _=>rfl,fun j v e=>by cases e⟩
 |cons e es ih =>
  intro es' i r h hf
  cases es' with
  |nil=>have:=h.1;simp at this
  |cons e' es' =>
   obtain⟨h1,h2,h3⟩:=h.cons
   simp only[Instr.findNow]at hf ⊢
   rw[sameNow_eq kd k _ _ h1]
   split at hf
   ·cases hf
    refine⟨fun e=>(by cases e),fun j v e=>?_⟩
    cases e
    exact⟨_,rfl,h2⟩
   ·exact ih es' (i+1) r h3 hf
   ·cases hf
theorem run_checkKey{b:Bool}{t:TypeId}{k:Value}(h:(∃ i,P.underlying t=some (.int i))∨P.underlying t=some .string∨P.underlying t=some .bool)(w:World) :
  (Instr.checkKey b 10000 t k).run P w = .ok () w:=by
 show (Instr.checkKey b (9999+1) t k).run P w=_
 rw[Instr.checkKey]
 rcases h with ⟨i,h⟩|h|h<;>simp only[Sem.run_bind,qU' h,Result.andThen_ok]<;>rfl
theorem cfind_kind{t:TypeId}{k:Value}{es:List MapEntry}{r:Option (Nat×Value)}(h:cfind P t k es=some r) :
  plain 6 k=true∧∃ kd,P.underlying t=some kd∧Instr.findNow kd k es 0=some r∧((∃ i,P.underlying t=some (.int i))∨P.underlying t=some .string∨P.underlying t=some .bool):=by
 unfold cfind at h
 split at h
 ·rename_i hp
  refine⟨hp,?_⟩
  split at h
  ·rename_i i hu;exact⟨_,hu,h,.inl ⟨i,hu⟩⟩
  ·rename_i hu;exact⟨_,hu,h,.inr (.inl hu)⟩
  ·rename_i hu;exact⟨_,hu,h,.inr (.inr hu)⟩
  ·cases h
 ·cases h
theorem run_findKey{t:TypeId}{kd:TypeDesc}{k:Value}{es:List MapEntry}{r:Option (Nat×Value)}(hu:P.underlying t=some kd)(h:Instr.findNow kd k es 0=some r)(w:World) :
  (Instr.findKey t k es).run P w = .ok r w:=by
 simp only[Instr.findKey,Sem.run_bind,qU' hu,Result.andThen_ok,h,Sem.run_pure]
theorem run_getObj{b:Nat}{o:Obj}(h:w.heap[b]?=some o)(hc:∀ c e f,o ≠ .cells c e f):(getObj b).run P w = .ok o w:=by
 unfold getObj
 simp only[Sem.run,h]
theorem czero_run{t:TypeId}{z:Value}(h:czero P t=some z)(w:World):(zeroValue t).run P w = .ok z w∧plain 6 z=true:=by
 unfold czero at h
 obtain⟨z',hz,h⟩:=Option.bind_eq_some_iff.1 h
 obtain⟨i,hi,hz⟩:=Option.bind_eq_some_iff.1 hz
 split at h
 ·cases h
  exact⟨by simp only[zeroValue,Sem.run_bind,run_typeInfo' hi,Result.andThen_ok,hz,Sem.run_pure],by assumption⟩
 ·cases h
theorem clookup_sound{t:TypeId}{m k m' k' v:Value}{ok:Bool}(h:clookup P t m k ok s=some v)(hR:Rel P w0 ρ s w)(hm:VRel ρ m m')(hk:VRel ρ k k') :
  ∃ v',(Instr.lookup t m' k' ok).run P w = .ok v' w∧VRel ρ v v':=by
 unfold clookup at h
 split at h
 ·rename_i kt et hu
  simp only at h
  have hlook:∀ (es:List MapEntry) (es':Array MapEntry) (m':Value),EsRel ρ es es' →
    ((m' = .map none∧es'=#[])∨∃ r clock,m' = .map (some r)∧w.heap[r]?=some (.map es' clock)) →
    (match cfind P kt k es with|some (some (_,v))=>some (if ok then .tuple #[v,.bool true] else v)|some none=>(czero P et).map fun z=>if ok then .tuple #[z,.bool false] else z|none=>none)=some v →
    ∃ v',(Instr.lookup t m' k' ok).run P w = .ok v' w∧VRel ρ v v':=by
   intro es es' m' hes hrun hv
   have hpair:∀ {u u':Value}(b:Bool),VRel ρ u u'→VRel ρ (if ok then .tuple #[u,.bool b] else u) (if ok then .tuple #[u',.bool b] else u'):=by
    intro u u' b hu
    cases ok
    ·exact hu
    ·refine .tuple (by simp) rfl fun i hi=>?_
     simp at hi
     match i,hi with
     |0,_=>exact hu
     |1,_=>exact .bool b
   split at hv
   ·rename_i j u hf
    cases hv
    obtain⟨hp,kd,hkd,hfn,hck⟩:=cfind_kind hf
    obtain⟨u',hu1,hu2⟩:=(findNow_rel kd k es es'.toList 0 _ (by simpa using hes) hfn).2 j u rfl
    refine⟨_,?_,hpair true hu2⟩
    rw[VRel.eq_of_plain 6 hp hk]
    rcases hrun with ⟨rfl,rfl⟩|⟨r,clock,rfl,hr⟩
    ·simp only[Instr.lookup,Sem.run_bind,qU' hu,Result.andThen_ok,run_checkKey hck,run_findKey hkd hu1,Sem.run_pure]
    ·simp only[Instr.lookup,Sem.run_bind,qU' hu,Result.andThen_ok,run_getObj hr (by simp),run_checkKey hck,run_findKey hkd hu1,Sem.run_pure]
   ·rename_i hf
    obtain⟨z,hz,rfl⟩:=Option.map_eq_some_iff.1 hv
    obtain⟨hp,kd,hkd,hfn,hck⟩:=cfind_kind hf
    have hu1:=(findNow_rel kd k es es'.toList 0 _ (by simpa using hes) hfn).1 rfl
    obtain⟨hz1,hz2⟩:=czero_run hz w
    refine⟨_,?_,hpair false (VRel.of_plain 6 hz2)⟩
    rw[VRel.eq_of_plain 6 hp hk]
    rcases hrun with ⟨rfl,rfl⟩|⟨r,clock,rfl,hr⟩
    ·simp only[Instr.lookup,Sem.run_bind,qU' hu,Result.andThen_ok,run_checkKey hck,run_findKey hkd hu1,hz1,Sem.run_pure]
    ·simp only[Instr.lookup,Sem.run_bind,qU' hu,Result.andThen_ok,run_getObj hr (by simp),run_checkKey hck,run_findKey hkd hu1,hz1,Sem.run_pure]
   ·cases hv
  split at h
  ·obtain rfl:=hm.nilMap_inv
   exact hlook [] #[] _ ⟨rfl,fun k hk=>by simp at hk⟩ (.inl ⟨rfl,rfl⟩) h
  ·rename_i r
   obtain⟨i,rfl,hi⟩:=hm.map_inv
   split at h
   ·rename_i es clock hat
    obtain⟨o,ho,hb⟩:=hR.blk _ _ _ hi hat
    obtain⟨es',rfl,hes⟩:=hb
    exact hlook es es' _ hes (.inr ⟨_,_,rfl,ho⟩) h
   ·cases h
  ·cases h
 ·cases h
def byteStep:Value→ByteArray→Sem (ForInStep ByteArray):=fun c s=>match c with
 |.int .u8 n=>pure (.yield (s.push (UInt8.ofNat n.toNat)))
 |_=>do
  (stuck "bytesToString: byte expected":Sem PUnit)
  pure (.yield s)
theorem run_byteSteps:∀ (l:List Value) (bs:List UInt8) (acc:ByteArray),l.mapM byteOf?=some bs→(forIn l acc byteStep:Sem ByteArray).run P w = .ok ⟨acc.data++bs.toArray⟩ w:=by
 intro l
 induction l with
 |nil=>intro bs acc h;simp at h;subst h;simp
 |cons v l ih =>
  intro bs acc h
  simp only[List.mapM_cons,Option.bind_eq_bind,Option.bind_eq_some_iff]at h
  obtain⟨b,hb,bs',hbs,h⟩:=h
  cases h
  unfold byteOf? at hb
  split at hb
  ·cases hb
   rename_i n
   simp only[List.forIn_cons,byteStep,Sem.run_bind,Sem.run_pure,Result.andThen_ok]
   rw[ih bs' _ hbs]
   simp[ByteArray.push]
  ·cases hb
theorem ints_of_bytes:∀ (l:List Value) (bs:List UInt8) (l':List Value),l.mapM byteOf?=some bs→VsRel ρ l.toArray l'.toArray→l'=l:=by
 intro l
 induction l with
 |nil=>intro bs l' _ h;have:=h.1;simp at this;exact List.eq_nil_of_length_eq_zero this.symm
 |cons v l ih =>
  intro bs l' h hr
  simp only[List.mapM_cons,Option.bind_eq_bind,Option.bind_eq_some_iff]at h
  obtain⟨b,hb,bs',hbs,h⟩:=h
  cases l' with
  |nil=>have:=hr.1;simp at this
  |cons v' l' =>
   have h0:=hr.2 0 (by simp)
   have h1:v'=v:=by
    unfold byteOf? at hb
    split at hb
    ·simpa using h0.int_inv
    ·cases hb
   rw[h1,ih bs' l' hbs ⟨by have:=hr.1;simpa using this,fun i hi=>by have:=hr.2 (i+1) (by simpa using hi);simpa [Array.getD_eq_getD_getElem?] using this⟩]
theorem cbytes_sound{src dst e:TypeId}{a a':Addr}{n c':Nat}{vs l:List Value}{et:TypeId}{own:Bool}{bs:List UInt8}(hR:Rel P w0 ρ s w)(hs:P.underlying src=some (.slice e))(hd:P.underlying dst=some .string)
  (he:P.underlying e=some (.int .u8))(ha:ARel ρ a a')(hat:s.at' a.block=some (.cells vs et own))(hc:cut vs a.off n=some l)(hb:l.mapM byteOf?=some bs) :
  (Go.convert src dst (.slice (some a') n c')).run P w = .ok (.string ⟨bs.toArray⟩) w:=by
 obtain⟨i,hi,hsp,rfl⟩:=ha
 obtain⟨o,ho,hbr⟩:=hR.blk _ _ _ hi hat
 obtain⟨cs,e',fr,rfl,hsz,hv,_⟩:=hbr
 obtain⟨h1,h2⟩:=cut_rel hc hsz hv
 have hl:=ints_of_bytes (ρ:=ρ) l bs (cs.extract (a.off+i.sh) (a.off+i.sh+n)).toList hb (by rw[Array.toArray_toList];exact h2)
 simp only[Go.convert,Sem.run_bind,qU' hs,qU' hd,qU' he,Result.andThen_ok,Conv.bytesToString,run_loadCells ho h1]
 have:=run_byteSteps (P:=P) (w:=w) l bs ByteArray.empty hb
 rw[← hl,Array.forIn_toList]at this
 change ((forIn (cs.extract (a.off+i.sh) (a.off+i.sh+n)) ByteArray.empty byteStep:Sem ByteArray).run P w).andThen _=_
 rw[this]
 simp[ByteArray.empty,ByteArray.emptyWithCapacity]
 rfl
theorem run_shapeAt{b:Nat}{cs:Array Value}{e:TypeId}{fr:Nat×Nat}(hb:w.heap[b]?=some (.cells cs e fr)):(Go.shape b).run P w = .ok (some (e,cs.size)) w:=by
 simp[Go.shape,Sem.run,World.shape?,hb]
theorem run_viewAt{b:Nat}{cs:Array Value}{e:TypeId}{fr:Nat×Nat}(hb:w.heap[b]?=some (.cells cs e fr)):(viewAt b).run P w = .ok none w:=by
 simp only[viewAt,Sem.run_bind,run_shapeAt hb,Result.andThen_ok,Option.isSome_some,if_true,Sem.run_pure]
theorem run_seenAt{b o:Nat}{cs:Array Value}{e:TypeId}{fr:Nat×Nat}(hb:w.heap[b]?=some (.cells cs e fr)):(Conv.seenAt ⟨b,o,none⟩).run P w = .ok ⟨b,o,none⟩ w:=by
 simp only[Conv.seenAt,Sem.run_bind,run_viewAt hb,Result.andThen_ok,Sem.run_pure]
theorem run_cellsIn{b:Nat}{cs:Array Value}{e:TypeId}{fr:Nat×Nat}(hb:w.heap[b]?=some (.cells cs e fr)):(cellsIn b).run P w = .ok (some cs.size) w:=by
 simp only[cellsIn,Sem.run_bind,run_shapeAt hb,Result.andThen_ok,Sem.run_pure]
theorem run_variablesAt{b o n:Nat}{u:TypeId}{cs:Array Value}{e:TypeId}{fr:Nat×Nat}(hb:w.heap[b]?=some (.cells cs e fr)):(variablesAt ⟨b,o,none⟩ u n).run P w = .ok (liesAt P P.depth e (cs.size / P.cellsOf e) o u n) w:=by
 simp only[variablesAt,program,Sem.run_bind,Sem.run,run_shapeAt hb,Result.andThen_ok,Sem.run_pure]
theorem liesAt_of{e u:TypeId}{count off n:Nat}(hd:P.depth≠0)(hs:P.cellsOf e≠0)(hl:sameLayout P P.depth e u=true)(ho:off % P.cellsOf e=0)(hn:off / P.cellsOf e+n≤count):liesAt P P.depth e count off u n=true:=by
 obtain⟨d,hd⟩:∃ d,P.depth=d+1:=⟨P.depth - 1,oM⟩
 rw[hd]at hl ⊢
 rw[liesAt,hd,rowAt]
 simp only[hs,if_false,ho,beq_self_eq_true,Bool.true_and,hl,Bool.and_true]
 simp[hn]
theorem run_toUnsafe{src dst t e:TypeId}{a a':Addr}{vs:List Value}{own:Bool}(hR:Rel P w0 ρ s w)(hs:P.underlying src=some (.pointer t))(hd:P.underlying dst=some .unsafePointer)(ht:(P.info? t).any (fun i=>i.size != 0)=true)
  (ha:ARel ρ a a')(hat:s.at' a.block=some (.cells vs e own))(ho:a.off<vs.length):(Go.convert src dst (.pointer (some a'))).run P w = .ok (.pointer (some a')) w:=by
 obtain⟨i,hi,hsp,rfl⟩:=ha
 obtain⟨o,hob,hbr⟩:=hR.blk _ _ _ hi hat
 obtain⟨cs,e',fr,rfl,hsz,_⟩:=hbr
 obtain⟨ti,hti,hts⟩:∃ ti,P.info? t=some ti∧ti.size≠0:=by
  cases h:P.info? t with
  |none=>rw[h]at ht;cases ht
  |some ti=>rw[h]at ht;exact⟨ti,rfl,by simpa using ht⟩
 simp only[Go.convert,Sem.run_bind,qU' hs,qU' hd,Result.andThen_ok,Conv.unsafePointer,run_seenAt hob,run_cellsIn hob,run_sizeOf' hti]
 rw[if_neg]
 ·rfl
 ·simp only[hts,Bool.or_eq_true,decide_eq_true_eq,false_or]
  simp
  omega
theorem run_ofUnsafe{src dst u e:TypeId}{a a':Addr}{vs:List Value}(hR:Rel P w0 ρ s w)(hs:P.underlying src=some .unsafePointer)(hd:P.underlying dst=some (.pointer u))(hu:upOk P e u=true)
  (ha:ARel ρ a a')(hat:s.at' a.block=some (.cells vs e true))(hal:a.off % P.cellsOf e=0)(ho:a.off+P.cellsOf e≤vs.length):(Go.convert src dst (.pointer (some a'))).run P w = .ok (.pointer (some a')) w:=by
 obtain⟨i,hi,hsp,rfl⟩:=ha
 obtain⟨o,hob,hbr⟩:=hR.blk _ _ _ hi hat
 obtain⟨cs,e',fr,rfl,hsz,_,_,hown⟩:=hbr
 obtain⟨rfl,_,_,_,hsh⟩:=hown rfl
 unfold upOk at hu
 simp only[Bool.and_eq_true,bne_iff_ne,ne_eq]at hu
 obtain⟨⟨⟨h1,h2⟩,h3⟩,h4⟩:=hu
 obtain⟨ei,hei,hes⟩:∃ ti,P.info? e'=some ti∧ti.size≠0:=by
  cases h:P.info? e' with
  |none=>rw[h]at h1;cases h1
  |some ti=>rw[h]at h1;exact⟨ti,rfl,by simpa using h1⟩
 obtain⟨ui,hui,hus⟩:∃ ti,P.info? u=some ti∧ti.size≠0:=by
  cases h:P.info? u with
  |none=>rw[h]at h4;cases h4
  |some ti=>rw[h]at h4;exact⟨ti,rfl,by simpa using h4⟩
 have hce:P.cellsOf e'≠0:=by rw[cellsOf_info hei];exact hes
 have hlies:=liesAt_of (P:=P) (e:=e') (u:=u) (count:=cs.size / P.cellsOf e') (off:=a.off+i.sh) (n:=1) h3 hce h2 (by rw[Nat.add_mod,hal,hsh];simp) (by
  rw[← Nat.add_div_right _ oM]
  exact Nat.div_le_div_right oM)
 simp only[Go.convert,Sem.run_bind,qU' hs,qU' hd,Result.andThen_ok,Conv.unsafePointer,run_seenAt hob,run_sizeOf' hui,run_variablesAt hob,hlies]
 simp
theorem cread_sound{o:Oper}{ev ev':Operand→Value}{v:Value}(h:cread P ev s o.op=some v)(hR:Rel P w0 ρ s w)(hev:∀ x∈o.op.operands,VRel ρ (ev x) (ev' x)) :
  ∃ v',(execOp ev' o).run P w = .ok (.value v') w∧VRel ρ v v':=by
 obtain⟨dst,op,ty,pos,after,guard⟩:=o
 simp only at h hev
 cases op<;>(try (simp only[cread]at h;cases h;done))<;>simp only[execOp]
 case load t x =>
  simp only[cread]at h
  have hx:=hev x (by simp[Op.operands])
  split at h
  ·rename_i a ha
   rw[ha]at hx
   obtain⟨a',e,har⟩:=hx.ptr_inv
   obtain⟨v',h1,h2⟩:=cload_sound h hR har
   rw[e]
   exact⟨v',by simp only[Instr.loadAt,Instr.sureAddr,Sem.run_bind,Sem.run_pure,Result.andThen_ok,h1],h2⟩
  ·cases h
 case lookup t m k ok =>
  simp only[cread]at h
  obtain⟨v',h1,h2⟩:=clookup_sound h hR (hev m (by simp[Op.operands])) (hev k (by simp[Op.operands]))
  exact⟨v',by simp only[Sem.run_bind,h1,Result.andThen_ok,Sem.run_pure],h2⟩
 case binOp op t x y yt =>
  simp only[cread]at h
  have hx:=hev x (by simp[Op.operands])
  have hy:=hev y (by simp[Op.operands])
  split at h
  ·rename_i a b e hxa hyb hu
   rw[hxa]at hx;rw[hyb]at hy
   obtain⟨a',e1,i,hi,hsa,rfl⟩:=hx.ptr_inv
   obtain⟨b',e2,j,hj,hsb,rfl⟩:=hy.ptr_inv
   split at h
   ·rename_i ie hie
    split at h
    ·rename_i hc
     obtain⟨hc1,hc2,_,_⟩:=hc
     have hij:j=i:=by rw[hc1,hj]at hi;exact Option.some.inj hi
     subst hij
     have heq:(Op.equal t (.pointer (some ⟨j.blk,a.off+j.sh,none⟩)) (.pointer (some ⟨j.blk,b.off+j.sh,none⟩))).run P w = .ok (a.off == b.off) w:=by
      show (Op.equalIn (9999+1) t _ _).run P w=_
      rw[Op.equalIn]
      simp only[Sem.run_bind,qU' hu,Result.andThen_ok,run_sizeOf' hie,hc2,ne_eq,not_false_eq_true,if_true,sameAddr,beq_self_eq_true,Sem.run_pure]
      congr 1
      rw[Bool.eq_iff_iff]
      simp
     rw[e1,e2]
     split at h
     ·cases h
      refine⟨_,?_,.bool _⟩
      simp only[eqGuard,Go.binOp,Sem.run_bind,Sem.run_pure,Result.andThen_ok,Bool.not_true,Bool.false_eq_true,if_false,heq]
     ·cases h
      refine⟨_,?_,.bool _⟩
      simp only[eqGuard,Go.binOp,Sem.run_bind,Sem.run_pure,Result.andThen_ok,Bool.not_true,Bool.false_eq_true,if_false,heq]
     ·cases h
    ·cases h
   ·cases h
  ·cases h
 case convert src d x =>
  simp only[cread]at h
  have hx:=hev x (by simp[Op.operands])
  split at h
  ·rename_i e a n c hs hd hxa
   rw[hxa]at hx
   obtain⟨a',c',e1,har,_⟩:=hx.slice_inv
   split at h
   ·rename_i vs et own he hat
    split at h
    ·rename_i l hl
     obtain⟨bs,hbs,rfl⟩:=Option.map_eq_some_iff.1 h
     rw[e1]
     rcases har with har|⟨rfl,_,_⟩
     rotate_left
     ·obtain rfl:l=[]:=by
       unfold cut at hl
       split at hl
       ·cases hl;simp
       ·cases hl
      obtain rfl:bs=[]:=by simpa using hbs.symm
      exact⟨_,by simp only[Go.convert,Sem.run_bind,qU' hs,qU' hd,qU' he,Result.andThen_ok,Conv.bytesToString];rfl,.string _⟩
     exact⟨_,by rw[Sem.run_bind,cbytes_sound hR hs hd he har hat hl hbs];rfl,.string _⟩
    ·cases h
   ·cases h
  ·rename_i e n c hs hd hxa
   rw[hxa]at hx
   obtain⟨e1,_,_⟩:=hx.nilSlice_inv
   split at h
   ·rename_i he
    cases h
    rw[e1]
    exact⟨_,by simp only[Go.convert,Sem.run_bind,qU' hs,qU' hd,qU' he,Result.andThen_ok,Conv.bytesToString,Sem.run_pure],.string _⟩
   ·cases h
  ·rename_i t a hs hd hxa
   rw[hxa]at hx
   obtain⟨a',e1,har⟩:=hx.ptr_inv
   split at h
   ·rename_i vs e own hat
    split at h
    ·rename_i hc
     cases h
     rw[e1]
     exact⟨_,by rw[Sem.run_bind,run_toUnsafe hR hs hd hc.1 har hat hc.2];rfl,.ptr har⟩
    ·cases h
   ·cases h
  ·rename_i u a hs hd hxa
   rw[hxa]at hx
   obtain⟨a',e1,har⟩:=hx.ptr_inv
   split at h
   ·rename_i vs e hat
    split at h
    ·rename_i hc
     cases h
     rw[e1]
     exact⟨_,by rw[Sem.run_bind,run_ofUnsafe hR hs hd hc.1 har hat hc.2.1 hc.2.2];rfl,.ptr har⟩
    ·cases h
   ·cases h
  ·cases h
 case slice t x lo hi mx =>
  cases mx with
  |some _=>simp only[cread]at h;cases h
  |none =>
   simp only[cread]at h
   have hx:=hev x (by simp[Op.operands])
   split at h
   ·rename_i e a n c hu hxa
    rw[hxa]at hx
    obtain⟨a',c',e1,har,hcr⟩:=hx.slice_inv
    split at h
    ·rename_i ie hh hie hch
     split at h
     ·rename_i l vs et own hcl hat
      split at h
      ·rename_i hcond
       cases h
       obtain⟨rfl,hln,hes⟩:=hcond
       obtain⟨h1,h2⟩|⟨_,h2,h3,h4⟩:=hcr
       ·omega
       obtain⟨i,hi',hsp,rfl⟩:=har.resolve_right fun hz=>by unfold UNK at hz;omega
       obtain⟨o,ho,hbr⟩:=hR.blk _ _ _ hi' hat
       obtain⟨cs,e'',fr,rfl,hsz,hv,hesz,_⟩:=hbr
       have hb:∀ {o:Option Operand}{d most most' m:Nat},(∀ u,o=some u→VRel ρ (ev u) (ev' u))→cbound (o.map ev) d most=some m→most≤most' →
         (o=none∧m=d)∨(∃ u,o=some u∧m≤most∧∀ code w,(Instr.sliceBound (ev' u) most' code).run P w = .ok m w):=by
        intro o d most most' m ho hc hm
        cases o with
        |none=>simp only[Option.map_none,cbound,Option.some.injEq]at hc;exact .inl ⟨rfl,hc.symm⟩
        |some u =>
         have:=cbound_sound (P:=P) (v':=some (ev' u)) hc (fun x hx=>by simp only[Option.map_some,Option.some.injEq]at hx;subst hx;exact⟨_,rfl,ho u rfl⟩) (by simp) hm
         rcases this with ⟨h1,_⟩|⟨x',h1,h2,h3⟩
         ·simp at h1
         ·cases h1;exact .inr ⟨u,rfl,h2,h3⟩
       have hhn:hh≤n:=by
        rcases hb (fun u hu=>hev u (by simp[Op.operands,hu])) hch (Nat.le_refl _) with ⟨_,rfl⟩|⟨_,_,h5,_⟩<;>omega
       rw[e1]
       refine⟨.slice (some ((⟨i.blk,a.off+i.sh,none⟩:Addr).add (l*ie.size))) (hh - l) (c' - l),?_,.slice (ARel.add ⟨i,hi',hsp,rfl⟩ _) (.inr ⟨rfl,oM,oM,?_⟩)⟩
       ·simp only[Instr.sliceAt,Sem.run_bind,qU' hu,Result.andThen_ok,Instr.slice,Instr.sliceBounds,Sem.run_pure,Option.map_none]
        rcases hb (o:=hi) (fun u hu=>hev u (by simp[Op.operands,hu])) hch h2 with ⟨rfl,rfl⟩|⟨u1,rfl,hh0,hr1⟩<;>rcases hb (o:=lo) (fun u hu=>hev u (by simp[Op.operands,hu])) hcl (Nat.le_refl _) with ⟨rfl,rfl⟩|⟨u2,rfl,hl0,hr2⟩ <;>
         simp only[Option.map_none,Option.map_some,Option.isSome_none,Bool.false_eq_true,if_false,Sem.run_bind,Sem.run_pure,Result.andThen_ok,run_sizeOf' hie, *] <;>
         (rw[if_neg oM])
       ·intro i2 hi2
        have hb2:(a.add (l*ie.size)).block=a.block:=by unfold Addr.add;split<;>rfl
        have ho2:(a.add (l*ie.size)).off=a.off+l*ie.size:=by unfold Addr.add;split<;>simp_all
        rw[hb2,hi']at hi2
        cases hi2
        rcases h4 i hi' with h5|h5
        ·exact .inl h5
        ·rcases hesz with h6|h6
         ·exact .inl h6
         ·right
          rw[ho2,h6,hes]
          rw[h6,hes]at h5
          have:(c' - l)*ie.size+l*ie.size=c'*ie.size:=by rw[← Nat.add_mul];congr 1;omega
          omega
      ·cases h
     ·cases h
    ·cases h
   ·cases h
 case call c =>
  simp only[cread]at h
  split at h
  ·rename_i hb
   split at h
   ·rename_i kt et r hu hx
    obtain⟨t,ht,hu⟩:=Option.bind_eq_some_iff.1 hu
    obtain⟨x,hx0,hx1⟩:=Option.map_eq_some_iff.1 hx
    have hxr:=hev x (by simp only[Op.operands,Call.operands,hb];simp;exact Array.mem_of_getElem? hx0)
    rw[hx1]at hxr
    obtain⟨i,e,hi⟩:=hxr.map_inv
    split at h
    ·rename_i es clock hat
     cases h
     obtain⟨o,ho,hbr⟩:=hR.blk _ _ _ hi hat
     obtain⟨es',rfl,hes⟩:=hbr
     refine⟨_,?_,.int _ _⟩
     have hx':(c.args.map ev')[0]?=some (.map (some i.blk)):=by rw[Array.getElem?_map,hx0];simp[e]
     simp only[resolve,hb,Sem.run_bind,Sem.run_pure,Result.andThen_ok,invoke,Go.builtin,Builtin.len_,ht,hx',qU' hu,run_getObj ho (by simp),hes.1]
     rfl
    ·cases h
   ·cases h
  ·cases h
end
end Go.Cs
namespace Go.Cs
section
variable {P:Program}{ρ:Ren}{w:World}
theorem brel_cells{i:BI}{b:Nat}{l:List Value}{t:TypeId}{cs:Array Value}{fr:Nat×Nat}(hb:ρ b=none)(h:VsRel ρ l.toArray cs)(hfr:∀ j,j<cs.size→¬ (fr.1≤j∧j<fr.2))(hsh:i.sh=0)(hn:i.n=cs.size)(he:i.esz=P.cellsOf t) :
  BRel P (ρ.add b i) i (.cells l t true) (.cells cs t fr):=by
 have hle:=Ren.le_add (i:=i) hb
 have hsz:l.length=cs.size:=by simpa using h.1
 refine⟨cs,t,fr,rfl,oM,fun k hk=>?_,.inr he,fun _=>⟨rfl,hfr,hn.symm,he,by rw[hsh];exact Nat.zero_mod _⟩⟩
 have:=(h.2 k (by simpa using hk)).mono hle
 rw[hsh,Nat.zero_add]
 simpa [Array.getD_eq_getD_getElem?] using this
theorem brel_cells_more{i:BI}{b:Nat}{l:List Value}{t:TypeId}{cs more:Array Value}{fr:Nat×Nat}(hb:ρ b=none)(h:VsRel ρ l.toArray cs)(hfr:∀ j,j<(cs++more).size→¬ (fr.1≤j∧j<fr.2))(hsh:i.sh=0)(hn:i.n=(cs++more).size)(he:i.esz=P.cellsOf t) :
  BRel P (ρ.add b i) i (.cells l t true) (.cells (cs++more) t fr):=by
 have hle:=Ren.le_add (i:=i) hb
 have hsz:l.length=cs.size:=by simpa using h.1
 refine⟨cs++more,t,fr,rfl,by simp;omega,fun k hk=>?_,.inr he,fun _=>⟨rfl,hfr,hn.symm,he,by rw[hsh];exact Nat.zero_mod _⟩⟩
 have:=(h.2 k (by simpa using hk)).mono hle
 rw[hsh,Nat.zero_add]
 have e1:(cs++more).getD k undef=cs.getD k undef:=by
  rw[Array.getD_eq_getD_getElem?,Array.getD_eq_getD_getElem?,Array.getElem?_append_left oM]
 rw[e1]
 simpa [Array.getD_eq_getD_getElem?] using this
theorem plain_cells{z:Value}(h:plain 6 z=true):VsRel ρ z.cells z.cells:=
 okPart_cells (VRel.of_plain 6 h) (by cases z<;>first|rfl|(simp[plain]at h))
theorem czeros_rel{z:Value}(h:VsRel ρ z.cells z.cells)(n:Nat)(hz:n=0∨z.cells.size≠0):VsRel ρ (czeros z n).toArray ((Array.range n).map (z.cells[· % z.cells.size]!)):=by
 unfold czeros
 rw[Array.toArray_toList]
 refine⟨rfl,fun i hi=>?_⟩
 simp only[Array.size_map,Array.size_range]at hi
 have hz':z.cells.size≠0:=oM
 have hm:i % z.cells.size<z.cells.size:=Nat.mod_lt _ oM
 have:=h.2 _ hm
 simp[Array.getD,hi,hm]at this ⊢
 exact this
theorem zerosOf_run{e:TypeId}{n:Nat}{l:List Value}(h:zerosOf P e n=some l)(w:World) :
  ∃ zs:Array Value,((n=0∧zs=#[])∨(n≠0∧∃ z,(zeroValue e).run P w = .ok z w∧zs=z.cells))∧VsRel ρ l.toArray ((Array.range n).map (zs[· % zs.size]!)):=by
 unfold zerosOf at h
 split at h
 ·rename_i h0
  cases h
  subst h0
  exact⟨#[],.inl ⟨rfl,rfl⟩,by simp,fun i hi=>by simp at hi⟩
 ·rename_i h0
  split at h
  ·rename_i z hz
   split at h
   ·cases h
   ·rename_i hne
    cases h
    obtain⟨h1,h2⟩:=czero_run hz w
    exact⟨z.cells,.inr ⟨h0,z,h1,rfl⟩,czeros_rel (plain_cells h2) n (.inr hne)⟩
  ·cases h
theorem run_newRow{t:TypeId}{cs:Array Value}:(newRow t cs).run P w = .ok ⟨w.heap.size,0,none⟩ { w with heap:=w.heap.push (.cells cs t) }:=rfl
theorem push_modify(h:Array Obj)(x:Obj)(f:Obj→Obj):(h.push x).modify h.size f=h.push (f x):=by
 apply Array.ext
 ·simp
 ·intro i h1 h2
  rw[Array.getElem_modify]
  simp only[Array.getElem_push]
  split
  ·subst_vars;simp
  ·split
   ·rfl
   ·simp at h2;omega
theorem run_markStringish(w:World)(C:Array Value)(t:TypeId):(markStringish ⟨w.heap.size,0,none⟩).run P { w with heap:=w.heap.push (.cells C t) } = .ok () { w with heap:=w.heap.push (.cells C t (C.size,C.size+1)) }:=by
 simp only[markStringish,shape,freeze,Sem.run_bind,Sem.run,World.shape?,Array.getElem?_push,if_true,Result.andThen_ok,World.freeze,Nat.one_ne_zero,if_false,push_modify]
 simp
theorem ptr_new{b:Nat}(hb:ρ b=none){i:BI}(hi:i.blk=w.heap.size)(hs:i.sh=0):VRel (ρ.add b i) (.pointer (some ⟨b,0,none⟩)) (.pointer (some ⟨w.heap.size,0,none⟩)):=
 .ptr ⟨i,by simp,rfl,by simp[hi,hs]⟩
theorem calloc_sound{o:Oper}{ev ev':Operand→Value}{B:Blk}{f:Nat→Value}(h:calloc P ev o.op=some (B,f))(hev:∀ x∈o.op.operands,VRel ρ (ev x) (ev' x))(hw:∀ z:Value,True) :
  ∃ (obj:Obj) (i:BI) (n:Nat) (v':Value),(execOp ev' o).run P w = .ok (.value v') { w with heap:=w.heap.push obj,drawn:=n }∧i.blk=w.heap.size∧i.kd=0 ∧
   ∀ b,ρ b=none→BRel P (ρ.add b i) i B obj∧VRel (ρ.add b i) (f b) v':=by
 obtain⟨dst,op,ty,pos,after,guard⟩:=o
 simp only at h hev
 cases op<;>(try (simp only[calloc]at h;cases h;done))<;>simp only[execOp]
 case alloc t =>
  simp only[calloc]at h
  obtain⟨z,hz,h⟩:=Option.map_eq_some_iff.1 h
  cases h
  obtain⟨h1,h2⟩:=czero_run hz w
  refine⟨.cells z.cells t,⟨w.heap.size,0,z.cells.size,P.cellsOf t,0⟩,w.drawn,.pointer (some ⟨w.heap.size,0,none⟩),?_,rfl,rfl,fun b hb=>⟨?_,ptr_new hb rfl rfl⟩⟩
  ·simp only[Instr.alloc,newVar,Sem.run_bind,h1,Result.andThen_ok,run_newRow,Sem.run_pure]
  exact brel_cells hb (by simpa using plain_cells h2) (fun j _=>by simp) rfl rfl rfl
 case box t x =>
  simp only[calloc]at h
  split at h
  ·rename_i hc
   cases h
   have hx:=okPart_cells (hev x (by simp[Op.operands])) hc.1
   refine⟨.cells (ev' x).cells t,⟨w.heap.size,0,(ev' x).cells.size,P.cellsOf t,0⟩,w.drawn,.pointer (some ⟨w.heap.size,0,none⟩),?_,rfl,rfl,fun b hb=>⟨?_,ptr_new hb rfl rfl⟩⟩
   ·simp only[Instr.box,newVar,Sem.run_bind,Result.andThen_ok,run_newRow,Sem.run_pure]
   exact brel_cells hb (by simpa using hx) (fun j _=>by simp) rfl rfl rfl
  ·cases h
 case buildSlice t len parts =>
  simp only[calloc]at h
  split at h
  ·rename_i e hu
   split at h
   ·rename_i ie hie
    split at h
    ·rename_i hc
     split at h
     ·rename_i z hz
      split at h
      ·rename_i cells hf
       cases h
       obtain⟨zs,hz1,hz2⟩:=zerosOf_run (ρ:=ρ) hz w
       obtain⟨r',hr',hrel⟩:=fill_rel (ρ:=ρ) (fun i=>some (i*ie.size,ie.size)) parts.toList ev ev' _ _ cells (fun x hx=>hev x.2 (by simp only[Op.operands,List.mem_toArray,List.mem_map];exact⟨x,by simpa using hx,rfl⟩)) hc.2.2 hz2 (by simpa using hf)
       refine⟨.cells r' e,⟨w.heap.size,0,r'.size,P.cellsOf e,0⟩,w.drawn,.slice (some ⟨w.heap.size,0,none⟩) len len,?_,rfl,rfl,fun b hb=>⟨?_,.slice ⟨⟨w.heap.size,0,r'.size,P.cellsOf e,0⟩,by simp,rfl,by simp⟩ (.inl ⟨rfl,?_⟩)⟩⟩
       ·have hr2:Instr.fill (fun i=>some (i*ie.size,ie.size)) ((Array.range (len*ie.size)).map (zs[· % zs.size]!)) (parts.map fun x=>(x.1,ev' x.2)).toList=some r':=by simpa using hr'
        simp only[Instr.buildSlice,Sem.run_bind,qU' hu,Result.andThen_ok,run_sizeOf' hie]
        rw[if_neg (by have:=hc.1;omega)]
        rcases hz1 with ⟨h0,rfl⟩|⟨h0,zv,hzv,rfl⟩
        ·simp only[h0,if_true,Sem.run_bind,Sem.run_pure,Result.andThen_ok]
         rw[h0]at hr2
         rw[hr2]
         simp only[Sem.run_bind,run_newRow,Result.andThen_ok,Sem.run_pure]
        ·simp only[h0,if_false,Sem.run_bind,Sem.run_pure,Result.andThen_ok,hzv]
         rw[hr2]
         simp only[Sem.run_bind,run_newRow,Result.andThen_ok,Sem.run_pure]
       ·exact brel_cells hb (by simpa using hrel) (fun j _=>by simp) rfl rfl rfl
       ·exact hc.2.1
      ·cases h
     ·cases h
    ·cases h
   ·cases h
  ·cases h
 case makeMap t r =>
  cases r with
  |some _=>simp only[calloc]at h;cases h
  |none =>
   simp only[calloc]at h
   cases h
   refine⟨.map #[] 0,⟨w.heap.size,0,0,0,0⟩,w.drawn,.map (some w.heap.size),rfl,rfl,rfl,fun b hb=>⟨⟨#[],rfl,rfl,fun k hk=>by simp at hk⟩,?_⟩⟩
   exact .map (i:=⟨w.heap.size,0,0,0,0⟩) (by simp)
 case makeSlice t ol oc =>
  simp only[calloc]at h
  split at h
  ·rename_i e k l k' c hu hl hc
   have hxl:=hev ol (by simp[Op.operands])
   have hxc:=hev oc (by simp[Op.operands])
   rw[hl]at hxl;rw[hc]at hxc
   rw[hxl.int_inv,hxc.int_inv]
   split at h
   ·rename_i ie hie
    split at h
    ·rename_i hcond
     obtain⟨h0,h1,h2,h3⟩:=hcond
     split at h
     ·rename_i z hz
      cases h
      obtain⟨zs,hz1,hz2⟩:=zerosOf_run (ρ:=ρ) hz w
      have hwl:IntKind.i64.wrap l=l:=by simp[IntKind.wrap,IntKind.bits,IntKind.signed];omega
      have hwc:IntKind.i64.wrap c=c:=by simp[IntKind.wrap,IntKind.bits,IntKind.signed];omega
      refine⟨.cells ((Array.range (c.toNat*ie.size)).map (zs[· % zs.size]!)) e,⟨w.heap.size,0,((Array.range (c.toNat*ie.size)).map (zs[· % zs.size]!)).size,P.cellsOf e,0⟩,w.drawn,.slice (some ⟨w.heap.size,0,none⟩) l.toNat c.toNat,?_,rfl,rfl,
       fun b hb=>⟨brel_cells hb (by simpa using hz2) (fun j _=>by simp) rfl rfl rfl,.slice ⟨⟨w.heap.size,0,((Array.range (c.toNat*ie.size)).map (zs[· % zs.size]!)).size,P.cellsOf e,0⟩,by simp,rfl,by simp⟩ (.inl ⟨rfl,by unfold UNK;omega⟩)⟩⟩
      have hb2:(ie.bytes:Int)*c≤281474976710656:=by rw[Int.mul_comm];exact h3
      simp only[Instr.makeSlice,Sem.run_bind,qU' hu,Result.andThen_ok,asInt,asIntOf,Sem.run_pure,run_typeInfo' hie,hwl,hwc]
      rw[if_neg (by simp only[Bool.or_eq_true,decide_eq_true_eq];omega)]
      have hroom:(askRoom (c.toNat*ie.bytes)).run P w = .ok () w:=by unfold askRoom;split<;>rfl
      simp only[Sem.run_bind,hroom,Result.andThen_ok,run_sizeOf' hie]
      rcases hz1 with ⟨h0,rfl⟩|⟨h0,zv,hzv,rfl⟩
      ·simp only[h0,if_true,Sem.run_bind,Sem.run_pure,Result.andThen_ok,run_newRow]
      ·simp only[h0,if_false,Sem.run_bind,Sem.run_pure,Result.andThen_ok,hzv,run_newRow]
     ·cases h
    ·cases h
   ·cases h
  ·cases h
 case range t x =>
  simp only[calloc]at h
  split at h
  ·rename_i str hu hs
   cases h
   have hx:=hev x (by simp[Op.operands])
   rw[hs]at hx
   rw[hx.string_inv]
   refine⟨.stringIter str 0,⟨w.heap.size,0,0,0,0⟩,w.drawn,.pointer (some ⟨w.heap.size,0,none⟩),?_,rfl,rfl,fun b hb=>⟨⟨rfl,rfl⟩,ptr_new hb rfl rfl⟩⟩
   simp only[Instr.range,Sem.run_bind,qU' hu,Result.andThen_ok,Sem.run_pure]
   rfl
  ·cases h
 case convert src d x =>
  simp only[calloc]at h
  split at h
  ·rename_i e str hs hd hx0
   have hx:=hev x (by simp[Op.operands])
   rw[hx0]at hx
   rw[hx.string_inv]
   split at h
   ·rename_i he
    split at h
    ·rename_i hsz
     cases h
     obtain⟨hs1,hs2⟩:=hsz
     obtain⟨ie,hie,hie1⟩:∃ ie,P.info? e=some ie∧ie.size=1:=by
      cases hq:P.info? e with
      |none=>rw[hq]at hs2;simp at hs2
      |some ie=>rw[hq]at hs2;exact⟨ie,rfl,by simpa using hs2⟩
     have hcap:=Nat.le_add_right str.size (w.tape w.drawn (.appendCap str.size 0 e) % (2 ^ 63 - str.size))
     have hcap2:str.size+w.tape w.drawn (.appendCap str.size 0 e) % (2 ^ 63 - str.size)<UNK:=by
      have:0<2 ^ 63 - str.size:=by unfold UNK at hs1;omega
      have:=Nat.mod_lt (w.tape w.drawn (.appendCap str.size 0 e)) this
      unfold UNK at *;omega
     generalize hcp:str.size+w.tape w.drawn (.appendCap str.size 0 e) % (2 ^ 63 - str.size)=cap at hcap hcap2
     let cs:Array Value:=str.data.map fun b => .int .u8 b.toNat
     let more:Array Value:=Array.replicate (cap - str.size) (.int .u8 0)
     have hcs:cs.size=str.size:=by simp[cs]
     have hms:(cs++more).size=cap:=by simp[cs,more];omega
     refine⟨.cells (cs++more) e (cap,cap+1),⟨w.heap.size,0,cap,P.cellsOf e,0⟩,w.drawn+1,.slice (some ⟨w.heap.size,0,none⟩) str.size cap,?_,rfl,rfl,fun b hb=>⟨?_,.slice ⟨⟨w.heap.size,0,cap,P.cellsOf e,0⟩,by simp,rfl,by simp⟩ (.inr ⟨rfl,hcap,hcap2,?_⟩)⟩⟩
     ·simp only[Go.convert,Sem.run_bind,qU' hs,qU' hd,qU' he,Result.andThen_ok,Conv.stringToBytes,choose,Sem.run,Question.forced,Question.cut,Bool.false_eq_true,if_false,hcp]
      rw[run_newRow]
      simp only[Result.andThen_ok]
      rw[run_markStringish { w with drawn:=w.drawn+1 }]
      simp only[Result.andThen_ok,Sem.run_pure]
      rw[show (str.data.map fun b=>Value.int .u8 b.toNat)++Array.replicate (cap - str.size) (Value.int .u8 0)=cs++more from rfl,hms]
     ·refine brel_cells_more hb ⟨by simp[cs],fun i hi=>?_⟩ (fun j hj=>by rw[hms]at hj;simp;omega) rfl hms.symm rfl
      simp only[List.size_toArray,List.length_map,Array.length_toList]at hi
      have:cs.getD i undef=(str.data.toList.map fun b=>Value.int .u8 b.toNat).toArray.getD i undef:=by
       simp[cs,Array.getD]
      rw[this,show (str.data.toList.map fun b=>Value.int .u8 b.toNat).toArray.getD i undef = .int .u8 (str.data[i]'hi).toNat from by simp only[Array.getD_eq_getD_getElem?,List.getElem?_toArray,List.getElem?_map,Array.getElem?_toList,Array.getElem?_eq_getElem hi];rfl]
      exact .int _ _
     ·intro i hi
      simp only[Ren.add_same,Option.some.injEq]at hi
      subst hi
      right
      simp[cellsOf_info hie,hie1]
    ·cases h
   ·cases h
  ·cases h
end
end Go.Cs
namespace Go.Cs
section
variable {M:Type}[Mem M]{P:Program}{w0:World}{ρ:Ren}{s:St M}{w:World}
inductive LRel (ρ:Ren):List Value→List Value→Prop
 |nil:LRel ρ [] []
 |cons {v v':Value}{l l':List Value}(h:VRel ρ v v') (t:LRel ρ l l'):LRel ρ (v::l) (v'::l')
theorem LRel.length{l l':List Value}(h:LRel ρ l l'):l.length=l'.length:=by
 induction h with
 |nil=>rfl
 |cons _ _ ih=>simp[ih]
theorem LRel.mono{ρ ρ':Ren}(hle:ρ.le ρ'){l l':List Value}(h:LRel ρ l l'):LRel ρ' l l':=by
 induction h with
 |nil=>exact .nil
 |cons h _ ih=>exact .cons (h.mono hle) ih
theorem VsRel.toL:∀ {l l':List Value},VsRel ρ l.toArray l'.toArray→LRel ρ l l':=by
 intro l
 induction l with
 |nil=>intro l' h;have:=h.1;simp at this;rw[List.eq_nil_of_length_eq_zero this.symm];exact .nil
 |cons v l ih =>
  intro l' h
  cases l' with
  |nil=>have:=h.1;simp at this
  |cons v' l' =>
   refine .cons (by simpa using h.2 0 (by simp)) (ih ⟨by have:=h.1;simpa using this,fun i hi=>?_⟩)
   have:=h.2 (i+1) (by simpa using hi)
   simpa [Array.getD_eq_getD_getElem?] using this
theorem VsRel.ofL{l l':List Value}(h:LRel ρ l l'):VsRel ρ l.toArray l'.toArray:=by
 induction h with
 |nil=>exact⟨rfl,fun i hi=>by simp at hi⟩
 |cons h _ ih =>
  refine⟨by have:=ih.1;simpa using this,fun i hi=>?_⟩
  cases i with
  |zero=>simpa using h
  |succ i =>
   have:=ih.2 i (by simpa using hi)
   simpa [Array.getD_eq_getD_getElem?] using this
theorem LRel.append{a a' b b':List Value}(h:LRel ρ a a')(h':LRel ρ b b'):LRel ρ (a++b) (a'++b'):=by
 induction h with
 |nil=>exact h'
 |cons h _ ih=>exact .cons h ih
theorem okCell_one{v v':Value}(h:VRel ρ v v')(hk:qC v=true):oneCell v'=true:=by
 cases h<;>first
  |rfl
  |assumption
  |(simp[qC]at hk;done)
  |(cases hk;done)
  |(rename_i h1 _ _;exact (h1 (isUnk_size hk)).elim)
def setA:Array Value→Nat→List Value→Array Value
 |cs,_,[]=>cs
 |cs,o,v::l=>setA (cs.setIfInBounds o v) (o+1) l
theorem setA_size:∀ (l:List Value) (cs:Array Value) (o:Nat),(setA cs o l).size=cs.size:=by
 intro l
 induction l with
 |nil=>intro cs o;rfl
 |cons v l ih=>intro cs o;simp[setA,ih]
theorem setCells_length:∀ (l:List Value) (vs:List Value) (o:Nat),(setCells vs o l).length=vs.length:=by
 intro l
 induction l with
 |nil=>intro vs o;rfl
 |cons v l ih=>intro vs o;simp[setCells,ih]
def CRel(ρ:Ren)(sh:Nat)(vs:List Value)(cs:Array Value):Prop:=sh+vs.length≤cs.size∧∀ k,k<vs.length→VRel ρ (vs.getD k undef) (cs.getD (sh+k) undef)
theorem CRel.set{sh:Nat}{vs:List Value}{cs:Array Value}(h:CRel ρ sh vs cs)(o:Nat){v v':Value}(hv:VRel ρ v v'):CRel ρ sh (vs.set o v) (cs.setIfInBounds (sh+o) v'):=by
 refine⟨by simpa using h.1,fun k hk=>?_⟩
 simp only[List.length_set]at hk
 have h0:=h.2 k hk
 have hk':sh+k<cs.size:=by have:=h.1;omega
 rw[List.getD_eq_getElem?_getD,List.getElem?_set,Array.getD_eq_getD_getElem?,Array.getElem?_setIfInBounds]
 by_cases e:o=k
 ·subst e;simp[hk,hk',hv]
 ·rw[if_neg e,if_neg oM,← List.getD_eq_getElem?_getD,← Array.getD_eq_getD_getElem?];exact h0
theorem CRel.setCells{sh:Nat}:∀ {l l':List Value},LRel ρ l l'→∀ {vs:List Value}{cs:Array Value}(o:Nat),CRel ρ sh vs cs→CRel ρ sh (setCells vs o l) (setA cs (sh+o) l'):=by
 intro l l' hl
 induction hl with
 |nil=>intro vs cs o h;exact h
 |cons hv _ ih =>
  intro vs cs o h
  exact ih (o+1) (h.set o hv)
theorem run_store{w:World}{b o:Nat}{cs:Array Value}{e:TypeId}{fr:Nat×Nat}{v:Value}(hb:w.heap[b]?=some (.cells cs e fr))(ho:o<cs.size)(hfr:¬ (fr.1≤o∧o<fr.2))(hv:oneCell v=true) :
  (store ⟨b,o,none⟩ v).run P w = .ok () { w with heap:=w.heap.setIfInBounds b (.cells (cs.setIfInBounds o v) e fr) }:=by
 have hc:w.cell? ⟨b,o,none⟩=some cs[o]:=by simp[World.cell?,hb]
 have hf:w.frozen? ⟨b,o,none⟩=false:=by
  simp only[World.frozen?,hb]
  simpa using hfr
 have hs:w.setCell ⟨b,o,none⟩ v={ w with heap:=w.heap.setIfInBounds b (.cells (cs.setIfInBounds o v) e fr) }:=by
  simp only[World.setCell]
  congr 1
  apply Array.ext_getElem?
  intro i
  rw[Array.getElem?_modify,Array.getElem?_setIfInBounds]
  split
  ·subst_vars
   have hlt:i<w.heap.size:=by
    rcases Nat.lt_or_ge i w.heap.size with h'|h'
    ·exact h'
    ·rw[Array.getElem?_eq_none h']at hb;cases hb
   rw[hb]
   simp[hlt]
  ·rfl
 rw[← hs]
 cases v<;>first|(simp[oneCell]at hv;done)|simp[store,Sem.run,hc,hf]
theorem run_storeCells:∀ (l:List Value) {w:World}{b o i:Nat}{cs:Array Value}{e:TypeId}{fr:Nat×Nat},w.heap[b]?=some (.cells cs e fr)→(∀ j,j<cs.size→¬ (fr.1≤j∧j<fr.2))→o+i+l.length≤cs.size →
  (∀ v∈l,oneCell v=true)→(storeCells ⟨b,o,none⟩ l i).run P w = .ok () { w with heap:=w.heap.setIfInBounds b (.cells (setA cs (o+i) l) e fr) }:=by
 intro l
 induction l with
 |nil =>
  intro w b o i cs e fr hb _ _ _
  simp only[storeCells,Sem.run_pure,setA]
  congr 1
  have:w.heap.setIfInBounds b (.cells cs e fr)=w.heap:=by
   apply Array.ext
   ·simp
   ·intro j h1 h2
    rw[Array.getElem_setIfInBounds]
    split
    ·subst_vars
     rw[Array.getElem?_eq_getElem h2]at hb
     exact (Option.some.inj hb).symm
    ·rfl
  rw[this]
 |cons v l ih =>
  intro w b o i cs e fr hb hfr hsz hv
  simp only[List.length_cons]at hsz
  simp only[storeCells,Sem.run_bind,addr_add_mk]
  rw[run_store hb oM (hfr _ oM) (hv v (by simp))]
  simp only[Result.andThen_ok]
  have hlt:b<w.heap.size:=by
   rcases Nat.lt_or_ge b w.heap.size with h'|h'
   ·exact h'
   ·rw[Array.getElem?_eq_none h']at hb;cases hb
  rw[ih (w:={ w with heap:=w.heap.setIfInBounds b (.cells (cs.setIfInBounds (o+i) v) e fr) }) (cs:=cs.setIfInBounds (o+i) v) (e:=e) (fr:=fr)
   (by simp[hlt]) (by simpa using hfr) (by simp;omega) (fun u hu=>hv u (by simp[hu]))]
  simp only[setA,Array.setIfInBounds_setIfInBounds]
  rfl
def EffOk(P:Program)(w0:World)(ρ:Ren)(s:St M)(s':St M)(v:Value)(r:Result Next):Prop:=
 ∃ n w' ρ',r = .ok n w'∧((∃ v',n = .value v'∧VRel ρ' v v')∨(n = .skip∧v=undef))∧Rel P w0 ρ' s' w'∧Ext ρ s ρ' s'
theorem cstoreCells_nil{ρ:Ren}{w:World}{a:Addr}{s s1:St M}(h:cstoreCells a [] s=some s1)(hR:Rel P w0 ρ s w):Rel P w0 ρ s1 w∧Ext ρ s ρ s1:=by
 unfold cstoreCells at h
 split at h
 ·rename_i vs e hat
  split at h
  ·cases h
   exact hR.noput hat
  ·cases h
 ·cases h
theorem cstoreCells_sound{a a':Addr}{l l':List Value}{s':St M}(h:cstoreCells a l s=some s')(hR:Rel P w0 ρ s w)(ha:ARel ρ a a')(hl:LRel ρ l l') :
  ∃ w',(storeCells a' l').run P w = .ok () w'∧Rel P w0 ρ s' w'∧Ext ρ s ρ s':=by
 unfold cstoreCells at h
 split at h
 ·rename_i vs e hat
  split at h
  ·rename_i hc
   cases h
   obtain⟨i,hi,hsp,rfl⟩:=ha
   obtain⟨o,ho,hbr⟩:=hR.blk _ _ _ hi hat
   obtain⟨cs,e',fr,rfl,hsz,hv,hesz,hown⟩:=hbr
   obtain⟨rfl,hfr,hn,hes,hsh⟩:=hown rfl
   have hll:=hl.length
   refine⟨_,run_storeCells l' ho hfr (by have:=hc.1;omega) (fun v hv=>?_),?_⟩
   ·have:∀ {l l':List Value},LRel ρ l l'→l.all qC=true→∀ v∈l',oneCell v=true:=by
     intro l l' h
     induction h with
     |nil=>intro _ v hv;cases hv
     |cons h _ ih =>
      intro hk v hv
      simp only[List.all_cons,Bool.and_eq_true]at hk
      rcases List.mem_cons.1 hv with rfl|hv
      ·exact okCell_one h hk.1
      ·exact ih hk.2 v hv
    exact this hl hc.2 v hv
   ·refine hR.write hi hat rfl ⟨setA cs (a.off+i.sh+0) l',e',fr,rfl,?_,?_,hesz,fun _=>⟨rfl,by rw[setA_size];exact hfr,by rw[setA_size];exact hn,hes,hsh⟩⟩
    ·rw[setA_size,setCells_length];exact hsz
    ·have:=CRel.setCells hl (a.off) (⟨hsz,hv⟩:CRel ρ i.sh vs cs)
     rw[Nat.add_zero,Nat.add_comm a.off]
     exact this.2
  ·cases h
 ·cases h
theorem cstore_sound{t:TypeId}{a a':Addr}{v v':Value}{s':St M}(h:cstore P t a v s=some s')(hR:Rel P w0 ρ s w)(ha:ARel ρ a a')(hv:VRel ρ v v')(hok:qP v=true) :
  ∃ w',(storeVar t a' v').run P w = .ok () w'∧Rel P w0 ρ s' w'∧Ext ρ s ρ s':=by
 unfold cstore at h
 split at h
 ·rename_i i hi
  split at h
  ·rename_i hsz
   have hc:=okPart_cells hv hok
   obtain⟨w',h1,h2⟩:=cstoreCells_sound (l':=v'.cells.toList) h hR ha (VsRel.toL (by simpa using hc))
   refine⟨w',?_,h2⟩
   simp only[storeVar,Sem.run_bind,run_sizeOf' hi,Result.andThen_ok]
   rw[if_neg (by rw[← hc.1];simpa using hsz)]
   exact h1
  ·cases h
 ·cases h
end
end Go.Cs
namespace Go.Cs
section
variable {M:Type}[Mem M](P:Program)
def cmore(size:Nat)(x:Value)(s:St M):Option (Nat×List Value):=
 match x with
 |.slice none _ _=>some (0,[])
 |.slice (some b) n _=>match s.at' b.block with
  |some (.cells vs _ _)=>(cut vs b.off (n*size)).map fun l=>(n,l)
  |_=>none
 |.string str=>if size=1 then some (str.size,str.data.toList.map fun b => .int .u8 b.toNat) else none
 |_=>none
def cgrow(e:TypeId)(ie:TypeInfo)(need:Nat)(l:List Value)(s:St M):Option (Value×St M):=
 match czero P e with
 |some z=>if z.cells.size=ie.size∧0<ie.bytes∧need*ie.bytes≤140737488355328 then some (.slice (some ⟨s.next,0,none⟩) need UNK,s.new (.cells l e true)) else none
 |none=>none
def capp(ts:Array TypeId)(args:Array Value)(s:St M):Option (Value×St M):=
 match ts[0]?.bind P.underlying,ts[1]?.bind P.underlying,(args[0]?:Option Value),(args[1]?:Option Value) with
 |some (.slice _),some (.int _),_,_=>none
 |some (.slice e),some _,some sl,some x =>
  match P.info? e with
  |none=>none
  |some ie=>match cmore ie.size x s with
   |none=>none
   |some (n,new) =>
    if new.all qC=false then none else
    match sl with
    |.slice none _ _=>if n=0 then some (.slice none 0 0,s) else cgrow P e ie n new s
    |.slice (some a) k c =>
     if c=UNK then
      if n=0 then some (.slice (some a) k c,s)
      else match s.at' a.block with
       |some (.cells vs et true)=>if et=e∧a.off % ie.size=0 then (match cut vs a.off (k*ie.size) with
        |some old=>cgrow P e ie (k+n) (old++new) (s.kill a.block)
        |none=>none) else none
       |_=>none
     else if k+n≤c then
      if n=0 then some (.slice (some a) k c,s) else (cstoreCells (a.add (k*ie.size)) new s).map fun s'=>(.slice (some a) (k+n) c,s')
     else match s.at' a.block with
      |some (.cells vs _ _)=>match cut vs a.off (k*ie.size) with
       |some old=>cgrow P e ie (k+n) (old++new) s
       |none=>none
      |_=>none
    |_=>none
 |_,_,_,_=>none
end
section
variable {M:Type}[Mem M]{P:Program}{w0:World}{ρ:Ren}{s:St M}{w:World}
theorem cut_length{vs l:List Value}{o n:Nat}(h:cut vs o n=some l):l.length=n:=by
 unfold cut at h
 split at h
 ·cases h;simp;omega
 ·cases h
theorem run_firstCells{size n k c':Nat}{a:Addr}{vs l:List Value}{et:TypeId}{own:Bool}{a':Addr}(hR:Rel P w0 ρ s w)(hat:s.at' a.block=some (.cells vs et own))(ha:ARel ρ a a')(hc:cut vs a.off (n*size)=some l) :
  ∃ l':Array Value,(Builtin.firstCells size n (.slice (some a') k c')).run P w = .ok l' w∧LRel ρ l l'.toList:=by
 obtain⟨i,hi,hsp,rfl⟩:=ha
 obtain⟨o,ho,hbr⟩:=hR.blk _ _ _ hi hat
 obtain⟨cs,e',fr,rfl,hsz,hv,hesz,hown⟩:=hbr
 obtain⟨h1,h2⟩:=cut_rel hc hsz hv
 exact⟨_,run_loadCells ho h1,VsRel.toL (by rw[Array.toArray_toList];exact h2)⟩
theorem cmore_sound{size n:Nat}{x x':Value}{new:List Value}(h:cmore size x s=some (n,new))(hR:Rel P w0 ρ s w)(hx:VRel ρ x x') :
  (Builtin.lenOf x').run P w = .ok n w∧∃ new':Array Value,(Builtin.firstCells size n x').run P w = .ok new' w∧LRel ρ new new'.toList∧new.length=n*size:=by
 unfold cmore at h
 split at h
 ·obtain⟨rfl,_,_⟩:=hx.nilSlice_inv
  cases h
  exact⟨rfl,#[],rfl,.nil,by simp⟩
 ·rename_i b m c
  obtain⟨b',c',rfl,hb,_⟩:=hx.slice_inv
  split at h
  ·rename_i vs et own hat
   obtain⟨l,hl,he⟩:=Option.map_eq_some_iff.1 h
   cases he
   rcases hb with hb|⟨rfl,_,_⟩
   rotate_left
   ·obtain rfl:new=[]:=List.eq_nil_of_length_eq_zero (by rw[cut_length hl,Nat.zero_mul])
    exact⟨rfl,#[],by simp only[Builtin.firstCells,Nat.zero_mul];rfl,.nil,by simp⟩
   obtain⟨l',h1,h2⟩:=run_firstCells (k:=n) (c':=c') hR hat hb hl
   exact⟨rfl,l',h1,h2,cut_length hl⟩
  ·cases h
 ·rename_i str
  obtain rfl:=hx.string_inv
  split at h
  ·rename_i h1
   cases h
   subst h1
   refine⟨rfl,str.data.map fun b => .int .u8 b.toNat,?_,?_,by simp⟩
   ·have:str.extract 0 str.size=str:=by
     simp
    simp only[Builtin.firstCells,this]
    rfl
   ·refine VsRel.toL ⟨by simp,fun i hi=>?_⟩
    simp only[List.size_toArray,List.length_map,Array.length_toList]at hi
    have hi2:i<str.size:=by simpa using hi
    have:((str.data.map fun b=>Value.int .u8 b.toNat).toList.toArray).getD i undef = .int .u8 (str.data[i]'hi).toNat:=by
     simp[Array.getD,hi2]
    rw[this,show (str.data.toList.map fun b=>Value.int .u8 b.toNat).toArray.getD i undef = .int .u8 (str.data[i]'hi).toNat from by simp only[Array.getD_eq_getD_getElem?,List.getElem?_toArray,List.getElem?_map,Array.getElem?_toList,Array.getElem?_eq_getElem hi];rfl]
    exact .int _ _
  ·cases h
 ·cases h
theorem okCells_one:∀ {l l':List Value},LRel ρ l l'→l.all qC=true→∀ v∈l',oneCell v=true:=by
 intro l l' h
 induction h with
 |nil=>intro _ v hv;cases hv
 |cons h _ ih =>
  intro hk v hv
  simp only[List.all_cons,Bool.and_eq_true]at hk
  rcases List.mem_cons.1 hv with rfl|hv
  ·exact okCell_one h hk.1
  ·exact ih hk.2 v hv
theorem run_append_room'{t t2 e:TypeId}{d2:TypeDesc}{ie:TypeInfo}{x:Value}{base:Option Addr}{k c n:Nat}{new:Array Value}{ty:TypeId}{ts:Array TypeId}{args:Array Value}
  (ht0:ts[0]?=some t)(ht1:ts[1]?=some t2)(ha0:args[0]?=some (.slice base k c))(ha1:args[1]?=some x)(ht:P.underlying t=some (.slice e))(ht2:P.underlying t2=some d2)(hd2:∀ i,d2 ≠ .int i)(hie:P.info? e=some ie)
  (hlen:(Builtin.lenOf x).run P w = .ok n w)(hnew:(Builtin.firstCells ie.size n x).run P w = .ok new w)(hle:k+n≤c) :
  (Builtin.append_ ts ty args).run P w=((match base with|some a=>storeCells (a.add (k*ie.size)) new.toList|none=>pure ():Sem Unit).run P w).andThen fun _ w' => .ok (.slice base (k+n) c) w':=by
 have hd:(d2 matches .int _)=false:=by cases d2<;>first|rfl|exact absurd rfl (hd2 _)
 simp only[Builtin.append_,ht0,ha0,ha1,ht1,Sem.run_bind,qU' ht,qU' ht2,Result.andThen_ok,run_sizeOf' hie,Sem.run_pure]
 cases d2<;>first|exact absurd rfl (hd2 _)|skip
 all_goals
  simp only[Bool.false_eq_true,if_false,Sem.run_bind,hlen,Result.andThen_ok,Bool.not_false,if_true,hle,hnew]
  cases base<;>simp only[Sem.run_bind,Sem.run_pure,Result.andThen_ok]
theorem setA_getD:∀ (l:List Value) (cs:Array Value) (o m:Nat),o+l.length≤cs.size→(setA cs o l).getD m undef=if o≤m∧m<o+l.length then l.getD (m - o) undef else cs.getD m undef:=by
 intro l
 induction l with
 |nil=>intro cs o m _;rw[if_neg (by simp)];rfl
 |cons v l ih =>
  intro cs o m h
  simp only[List.length_cons]at h
  rw[setA,ih _ _ _ (by simp;omega)]
  simp only[List.length_cons]
  by_cases e:m=o
  ·subst e
   rw[if_neg oM,if_pos oM]
   rw[Array.getD_eq_getD_getElem?,Array.getElem?_setIfInBounds,if_pos rfl,if_pos oM]
   simp
  ·have e0:(cs.setIfInBounds o v).getD m undef=cs.getD m undef:=by
    rw[Array.getD_eq_getD_getElem?,Array.getElem?_setIfInBounds,if_neg (fun h=>e h.symm),← Array.getD_eq_getD_getElem?]
   rw[e0]
   by_cases e2:o+1≤m∧m<o+1+l.length
   ·rw[if_pos e2,if_pos oM,show m - o=(m - (o+1))+1 from oM,List.getD_cons_succ]
   ·rw[if_neg e2,if_neg oM]
theorem LRel.getD{l l':List Value}(h:LRel ρ l l')(q:Nat)(hq:q<l.length):VRel ρ (l.getD q undef) (l'.getD q undef):=by
 have:=(VsRel.ofL h).2 q (by simpa using hq)
 simpa [Array.getD_eq_getD_getElem?,List.getD_eq_getElem?_getD] using this
theorem run_append_grow'{t t2 e:TypeId}{d2:TypeDesc}{ie:TypeInfo}{x z:Value}{base:Option Addr}{k c n:Nat}{old new:Array Value}{ty:TypeId}{ts:Array TypeId}{args:Array Value}
  (ht0:ts[0]?=some t)(ht1:ts[1]?=some t2)(ha0:args[0]?=some (.slice base k c))(ha1:args[1]?=some x)(ht:P.underlying t=some (.slice e))(ht2:P.underlying t2=some d2)(hd2:∀ i,d2 ≠ .int i)(hie:P.info? e=some ie)
  (hlen:(Builtin.lenOf x).run P w = .ok n w)(hnew:(Builtin.firstCells ie.size n x).run P { w with drawn:=w.drawn+1 } = .ok new { w with drawn:=w.drawn+1 })(hold:(Builtin.firstCells ie.size k (.slice base k c)).run P { w with drawn:=w.drawn+1 } = .ok old { w with drawn:=w.drawn+1 })
  (hz:∀ w,(zeroValue e).run P w = .ok z w)(hb0:0<ie.bytes)(hb:(k+n)*ie.bytes≤140737488355328)(hgt:c<k+n) :
  ∃ cap,k+n≤cap∧cap<UNK∧(Builtin.append_ ts ty args).run P w = .ok (.slice (some ⟨w.heap.size,0,none⟩) (k+n) cap)
   { w with heap:=w.heap.push (.cells (old++new++Builtin.zeroCells z.cells (cap - (k+n))) e),drawn:=w.drawn+1 }:=by
 have hneed:k+n≤140737488355328:=by
  have:(k+n)*1≤(k+n)*ie.bytes:=Nat.mul_le_mul_left _ hb0
  omega
 refine⟨(Question.appendCap (k+n) c e).cut (w.tape w.drawn (.appendCap (k+n) c e)),?_,?_,?_⟩
 ·simp only[Question.cut];omega
 ·simp only[Question.cut]
  have:0<2 ^ 63 - (k+n):=oM
  have:=Nat.mod_lt (w.tape w.drawn (.appendCap (k+n) c e)) this
  unfold UNK;omega
 ·have h48:¬ (Builtin.nextslicecap (k+n) c*ie.bytes>2 ^ 48):=by have:=growslice_fits hgt hb;omega
  have h63:¬ (((k+n:Nat):Int)>IntKind.i64.max):=by simp[IntKind.max,IntKind.bits,IntKind.signed];omega
  have hroom:∀ (b:Nat) (w:World),(askRoom b).run P w = .ok () w:=by intro b w;unfold askRoom;split<;>rfl
  simp only[Builtin.append_,ht0,ha0,ha1,ht1,Sem.run_bind,qU' ht,qU' ht2,Result.andThen_ok,run_sizeOf' hie,Sem.run_pure]
  cases d2<;>first|exact absurd rfl (hd2 _)|skip
  all_goals
   simp only[Bool.false_eq_true,if_false,Sem.run_bind,hlen,Result.andThen_ok,Bool.not_false,if_true,show ¬ (k+n≤c) from oM,run_typeInfo' hie,h63,false_and,false_or,if_false,h48,Sem.run_pure]
   simp only[choose,Sem.run,Question.forced,Bool.false_eq_true,if_false,Result.andThen_ok,hroom,hold,hnew,hz,run_newRow]
theorem cgrow_sound{e:TypeId}{ie:TypeInfo}{need:Nat}{l:List Value}{v:Value}{s1 s':St M}{cs:Array Value}{c:Nat}{z:Value}(h:cgrow P e ie need l s1=some (v,s'))(hie:P.info? e=some ie)(hz:czero P e=some z)(hR:Rel P w0 ρ s1 w)(hl:LRel ρ l cs.toList)(hlen:l.length=need*ie.size)(hc:need≤c)(hc2:c<UNK) :
  ∃ ρ' v',v' = .slice (some ⟨w.heap.size,0,none⟩) need c∧VRel ρ' v v'∧Rel P w0 ρ' s' { w with heap:=w.heap.push (.cells (cs++Builtin.zeroCells z.cells (c - need)) e),drawn:=w.drawn+1 }∧Ext ρ s1 ρ' s':=by
 unfold cgrow at h
 rw[hz]at h
 simp only at h
 split at h
 ·rename_i hcond
  cases h
  have hsz:cs.size=need*ie.size:=by have:=hl.length;simp at this;omega
  have hmore:(cs++Builtin.zeroCells z.cells (c - need)).size=c*ie.size:=by
   simp only[Array.size_append,Builtin.zeroCells,Array.size_map,Array.size_range,hsz,hcond.1]
   rw[← Nat.add_mul];congr 1;omega
  have hn:=hR.none_next (Nat.le_refl s1.next)
  let i:BI:=⟨w.heap.size,0,c*ie.size,P.cellsOf e,0⟩
  obtain⟨h1,h2⟩:=(hR.drew (w.drawn+1)).alloc (B := .cells l e true) (o := .cells (cs++Builtin.zeroCells z.cells (c - need)) e) (i:=i) rfl (brel_cells_more hn (by simpa using VsRel.ofL hl) (fun j _=>by simp) rfl hmore.symm rfl) (.inl rfl)
  refine⟨ρ.add s1.next i,_,rfl,.slice ⟨i,by simp,rfl,by simp[i]⟩ (.inr ⟨rfl,hc,hc2,fun j hj=>?_⟩),h1,h2⟩
  simp only[Ren.add_same,Option.some.injEq]at hj
  subst hj
  right
  simp[i,cellsOf_info hie]
 ·cases h
theorem capp_sound{ts:Array TypeId}{ty:TypeId}{args args':Array Value}{v:Value}{s':St M}(h:capp P ts args s=some (v,s'))(hR:Rel P w0 ρ s w)(ha:VsRel ρ args args') :
  ∃ v' w' ρ',(Builtin.append_ ts ty args').run P w = .ok v' w'∧VRel ρ' v v'∧Rel P w0 ρ' s' w'∧Ext ρ s ρ' s':=by
 unfold capp at h
 split at h
 ·cases h
 ·rename_i e d2 sl x hnint hu hu2 hsl hx
  obtain⟨t,ht0,hu⟩:=Option.bind_eq_some_iff.1 hu
  obtain⟨t2,ht1,hu2⟩:=Option.bind_eq_some_iff.1 hu2
  have hd2:∀ i,d2 ≠ .int i:=by
   intro i he
   exact hnint i he
  obtain⟨sl',hsl',hslr⟩:=ha.getElem? hsl
  obtain⟨x',hx',hxr⟩:=ha.getElem? hx
  split at h
  ·cases h
  ·rename_i ie hie
   split at h
   ·cases h
   ·rename_i n new hmore
    obtain⟨hlen,new',hnew,hnl,hnlen⟩:=cmore_sound hmore hR hxr
    obtain⟨hlenD,newD,hnewD,hnlD,_⟩:=cmore_sound hmore (hR.drew (w.drawn+1)) hxr
    split at h
    ·cases h
    ·rename_i hok
     have hok:new.all qC=true:=by simpa using hok
     split at h
     ·
      obtain⟨rfl,rfl,rfl⟩:=hslr.nilSlice_inv
      split at h
      ·rename_i h0
       cases h
       subst h0
       refine⟨_,w,ρ,?_,.nilSlice,hR,Ext.refl _ _⟩
       rw[run_append_room' ht0 ht1 hsl' hx' hu hu2 hd2 hie hlen hnew oM]
       rfl
      ·rename_i h0
       have h1:=h
       unfold cgrow at h1
       split at h1
       ·rename_i z hz
        split at h1
        ·rename_i hcond
         have hold:(Builtin.firstCells ie.size 0 (.slice none 0 0)).run P { w with drawn:=w.drawn+1 } = .ok #[] { w with drawn:=w.drawn+1 }:=rfl
         obtain⟨cap,hc1,hc2,hrun⟩:=run_append_grow' (k:=0) (c:=0) ht0 ht1 hsl' hx' hu hu2 hd2 hie hlen hnewD hold (fun w=>(czero_run hz w).1) hcond.2.1 (by simpa using hcond.2.2) oM
         obtain⟨ρ',v',e1,h3,h4,h5⟩:=cgrow_sound (cs:=#[]++newD) (c:=cap) h hie hz hR (by simpa using hnlD) hnlen oM hc2
         refine⟨v',{ w with heap:=w.heap.push (.cells (#[]++newD++Builtin.zeroCells z.cells (cap - n)) e),drawn:=w.drawn+1 },ρ',?_,h3,h4,h5⟩
         rw[hrun,e1];simp only[Nat.zero_add]
        ·cases h1
       ·cases h1
     ·rename_i a k c
      obtain⟨a',c',rfl,har,hcr⟩:=hslr.slice_inv
      have hgrowAny:∀ {vs old:List Value}{et:TypeId}{own:Bool}(s1:St M),s.at' a.block=some (.cells vs et own)→cut vs a.off (k*ie.size)=some old→Rel P w0 ρ s1 w→Ext ρ s ρ s1→cgrow P e ie (k+n) (old++new) s1=some (v,s')→c' < k+n →
        ∃ v' w' ρ',(Builtin.append_ ts ty args').run P w = .ok v' w'∧VRel ρ' v v'∧Rel P w0 ρ' s' w'∧Ext ρ s ρ' s':=by
       intro vs old et own s1 hat hcut hR1 hE1 h hlt
       have h1:=h
       unfold cgrow at h1
       split at h1
       ·rename_i z hz
        split at h1
        ·rename_i hcond
         obtain⟨oldD,hold,hol⟩:∃ oldD:Array Value,(Builtin.firstCells ie.size k (.slice (some a') k c')).run P { w with drawn:=w.drawn+1 } = .ok oldD { w with drawn:=w.drawn+1 }∧LRel ρ old oldD.toList:=by
          rcases har with har|⟨rfl,_,_⟩
          ·exact run_firstCells (k:=k) (c':=c') (hR.drew (w.drawn+1)) hat har hcut
          ·obtain rfl:old=[]:=List.eq_nil_of_length_eq_zero (by rw[cut_length hcut,Nat.zero_mul])
           exact⟨#[],by simp only[Builtin.firstCells,Nat.zero_mul];rfl,.nil⟩
         obtain⟨cap,hc1,hc2,hrun⟩:=run_append_grow' ht0 ht1 hsl' hx' hu hu2 hd2 hie hlen hnewD hold (fun w=>(czero_run hz w).1) hcond.2.1 hcond.2.2 hlt
         obtain⟨ρ',v',e1,h3,h4,h5⟩:=cgrow_sound (cs:=oldD++newD) (c:=cap) h hie hz hR1 (by simpa using hol.append hnlD) (by rw[List.length_append,cut_length hcut,hnlen,Nat.add_mul]) hc1 hc2
         exact⟨v',_,ρ',by rw[hrun,e1],h3,h4,hE1.trans h5⟩
        ·cases h1
       ·cases h1
      split at h
      ·
       rename_i hcu
       obtain⟨h1,h2⟩|⟨_,h2,h3,h4⟩:=hcr
       ·omega
       have har:=har.resolve_right fun hz=>by rw[hcu]at hz;unfold UNK at hz;omega
       split at h
       ·rename_i h0
        cases h
        subst h0
        refine⟨_,w,ρ,?_,.slice har (.inr ⟨hcu,h2,h3,h4⟩),hR,Ext.refl _ _⟩
        rw[run_append_room' ht0 ht1 hsl' hx' hu hu2 hd2 hie hlen hnew oM]
        have:new=[]:=List.eq_nil_of_length_eq_zero oM
        subst this
        have hn0:new'.toList=[]:=List.eq_nil_of_length_eq_zero (by rw[← hnl.length];rfl)
        simp only[hn0,storeCells,Sem.run_pure,Result.andThen_ok]
        rfl
       ·rename_i h0
        split at h
        ·rename_i vs et hat
         split at h
         ·rename_i het
          obtain⟨rfl,hal⟩:=het
          split at h
          ·rename_i old hcut
           obtain⟨i,hi,hsp,rfl⟩:=har
           obtain⟨hRk,hEk⟩:=hR.kill hi
           by_cases hroom:k+n≤c'
           ·
            obtain⟨o,ho,hbr⟩:=hR.blk _ _ _ hi hat
            obtain⟨cs,e',fr,rfl,hsz,hv,hesz,hown⟩:=hbr
            obtain⟨rfl,hfr,hn,hes,hsh⟩:=hown rfl
            have hes':i.esz=ie.size:=by rw[hes,cellsOf_info hie]
            have hlim:a.off+i.sh+c'*ie.size≤cs.size:=by
             rcases h4 i hi with h5|h5
             ·rw[hes']at h5
              have h6:=cut_rel hcut hsz hv
              rw[h5]at h6 ⊢
              simp at h6 ⊢
              omega
             ·rw[hes',← hn]at h5;exact h5
            have hkn:(k+n)*ie.size≤c'*ie.size:=Nat.mul_le_mul_right _ hroom
            have hnl2:new'.toList.length=n*ie.size:=by rw[← hnl.length];exact hnlen
            have hone:=okCells_one hnl hok
            unfold cgrow at h
            split at h
            ·rename_i z hz
             split at h
             ·rename_i hcond
              cases h
              have hrun:=run_append_room' (ty:=ty) ht0 ht1 hsl' hx' hu hu2 hd2 hie hlen hnew hroom
              simp only[addr_add_mk]at hrun
              rw[run_storeCells (P:=P) new'.toList ho hfr (by rw[Nat.add_mul]at hkn;omega) hone]at hrun
              simp only[Result.andThen_ok]at hrun
              let j:BI:=⟨i.blk,a.off+i.sh,i.n,i.esz,0⟩
              have hnx:ρ s.next=none:=hR.none_next (Nat.le_refl _)
              refine⟨_,_,ρ.add s.next j,hrun,.slice ⟨j,by simp,rfl,by simp[j]⟩ (.inr ⟨rfl,hroom,h3,fun q hq=>?_⟩),?_,?_⟩
              ·simp only[Ren.add_same,St.next_kill,Option.some.injEq]at hq
               subst hq
               right
               simp only[j,hes',← hn]
               omega
              ·refine hR.takeOver (j:=j) hi hat rfl rfl (C := .cells (old++new) _ true) ⟨_,_,fr,rfl,?_,fun q hq=>?_,.inr hes,fun _=>⟨rfl,by rw[setA_size];exact hfr,by rw[setA_size];exact hn,hes,by rw[cellsOf_info hie]at hsh ⊢;rw[Nat.add_mod,hal,hsh];simp⟩⟩ rfl rfl
               ·rw[setA_size,List.length_append,cut_length hcut,hnlen]
                have:c'*ie.size ≥ (k+n)*ie.size:=hkn
                rw[Nat.add_mul]at this
                simp only[j]
                omega
               ·have hle2:=Ren.le_add (ρ:=ρ) (b:=s.next) (i:=j) hnx
                obtain⟨_,hco⟩:=cut_rel hcut hsz hv
                rw[List.length_append,cut_length hcut,hnlen]at hq
                have hbig:a.off+i.sh+k*ie.size+0+new'.toList.length≤cs.size:=by rw[hnl2];rw[Nat.add_mul]at hkn;omega
                rw[setA_getD _ _ _ _ hbig]
                simp only[j]
                by_cases e:q<k*ie.size
                ·rw[if_neg oM]
                 have h6:=hco.2 q (by simp[cut_length hcut,e])
                 have e1:(old++new).getD q undef=old.toArray.getD q undef:=by
                  rw[List.getD_eq_getElem?_getD,List.getElem?_append_left (by rw[cut_length hcut];exact e),Array.getD_eq_getD_getElem?,List.getElem?_toArray]
                 have e2:cs.getD (a.off+i.sh+q) undef=(cs.extract (a.off+i.sh) (a.off+i.sh+k*ie.size)).getD q undef:=by
                  rw[Array.getD_eq_getD_getElem?,Array.getD_eq_getD_getElem?,Array.getElem?_extract,if_pos oM]
                 rw[e1,e2]
                 exact h6.mono hle2
                ·rw[if_pos (by rw[hnl2];omega)]
                 have e1:(old++new).getD q undef=new.getD (q - k*ie.size) undef:=by
                  rw[List.getD_eq_getElem?_getD,List.getElem?_append_right (by rw[cut_length hcut];omega),cut_length hcut,← List.getD_eq_getElem?_getD]
                 rw[e1,show a.off+i.sh+q - (a.off+i.sh+k*ie.size+0)=q - k*ie.size from oM]
                 exact (hnl.getD _ (by rw[hnlen];omega)).mono hle2
              ·exact hEk.trans (Ext.place j hnx (s.kill a.block) (by simp) (Ext.new ρ (s.kill a.block) _))
             ·cases h
            ·cases h
           ·exact hgrowAny (s.kill a.block) hat hcut hRk hEk h oM
          ·cases h
         ·cases h
        ·cases h
      ·rename_i hcu
       have hcc:c'=c:=by
        obtain⟨h1,_⟩|⟨h1,_⟩:=hcr
        ·exact h1.symm
        ·exact (hcu h1).elim
       subst hcc
       split at h
       ·rename_i hroom
        have hrun:=run_append_room' (ty:=ty) ht0 ht1 hsl' hx' hu hu2 hd2 hie hlen hnew hroom
        split at h
        ·rename_i h0
         cases h
         subst h0
         rcases har with har|⟨rfl,rfl,_⟩
         rotate_left
         ·refine⟨.slice (some a') 0 0,w,ρ,?_,.void,hR,Ext.refl _ _⟩
          rw[hrun]
          have:new=[]:=List.eq_nil_of_length_eq_zero oM
          subst this
          have hn0:new'.toList=[]:=List.eq_nil_of_length_eq_zero (by rw[← hnl.length];rfl)
          simp only[hn0,storeCells,Sem.run_pure,Result.andThen_ok]
         refine⟨_,w,ρ,?_,.slice har (.inl ⟨rfl,?_⟩),hR,Ext.refl _ _⟩
         ·rw[hrun]
          have:new=[]:=List.eq_nil_of_length_eq_zero oM
          subst this
          have hn0:new'.toList=[]:=List.eq_nil_of_length_eq_zero (by rw[← hnl.length];rfl)
          simp only[hn0,storeCells,Sem.run_pure,Result.andThen_ok]
          rfl
         ·obtain⟨_,h2⟩|⟨h1,_⟩:=hcr
          ·exact h2
          ·exact (hcu h1).elim
        ·rename_i hn0
         have har:=har.resolve_right fun hz=>by omega
         obtain⟨s1,hs1,h⟩:=Option.map_eq_some_iff.1 h
         cases h
         obtain⟨w',h1,h2,h3⟩:=cstoreCells_sound (P:=P) (l':=new'.toList) hs1 hR (har.add _) hnl
         refine⟨_,w',ρ,by rw[hrun];simp only[h1,Result.andThen_ok],.slice har (.inl ⟨rfl,?_⟩),h2,h3⟩
         obtain⟨_,h2⟩|⟨h1,_⟩:=hcr
         ·exact h2
         ·exact (hcu h1).elim
       ·rename_i hroom
        split at h
        ·rename_i vs et own hat
         split at h
         ·rename_i old hcut
          exact hgrowAny s hat hcut hR (Ext.refl _ _) h oM
         ·cases h
        ·cases h
     ·cases h
 ·cases h
end
end Go.Cs
namespace Go.Cs
section
variable {M:Type}[Mem M](P:Program)
def cmapset(t:TypeId)(m k v:Value)(s:St M):Option (St M):=
 match P.underlying t,m with
 |some (.map kt _),.map (some r)=>match s.at' r with
  |some (.map es clock)=>match cfind P kt k es with
   |some (some (i,_))=>some (s.put r (.map (es.modify i fun e=>{ e with key:=k,val:=v }) clock))
   |some none=>some (s.put r (.map (es ++ [{ key:=k,val:=v,born:=clock }]) (clock+1)))
   |none=>none
  |_=>none
 |_,_=>none
def keyKind(t:TypeId):Bool:=
 match P.underlying t with
 |some (.int _)=>true
 |some .string=>true
 |some .bool=>true
 |_=>false
def cdelete(t:TypeId)(m k:Value)(s:St M):Option (St M):=
 match P.underlying t,m with
 |some (.map kt _),.map (some r)=>match s.at' r with
  |some (.map es clock)=>match cfind P kt k es with
   |some (some (i,_))=>some (s.put r (.map (es.eraseIdx i) clock))
   |some none=>some s
   |none=>none
  |_=>none
 |some (.map kt _),.map none=>if plain 6 k=true∧keyKind P kt=true then some s else none
 |_,_=>none
def cextern(f:FuncId)(args:Array Value):Option Value:=match P.funcs[f]? with
 |some fn=>if fn.body.isNone=true∧(fn.origin == "" || fn.origin == fn.name)=true then
   (if fn.name = "internal/abi.NoEscape" then (match args.toList with | [x]=>some x|_=>none)
    else if fn.name = "internal/bytealg.abigen_runtime_cmpstring" then (match args.toList with | [.string a,.string b]=>some (.int .i64 (Extern.BytealgCompare.cmp a b))|_=>none) else none)
  else none
 |none=>none
def cnumAt(a:Addr)(s:St M):Option Int:=match s.at' a.block with
 |some (.cells vs _ _)=>match vs[a.off]? with
  |some (.int .i64 n)=>some n
  |_=>none
 |_=>none
def catom(f:FuncId)(args:Array Value)(s:St M):Option (Value×St M):=match P.funcs[f]? with
 |some fn=>if fn.body.isNone=true∧(fn.origin == "" || fn.origin == fn.name)=true then
   (if fn.name = "sync/atomic.LoadInt64" then (match args.toList with
    | [.pointer (some a)]=>(cnumAt a s).map fun n=>(.int .i64 n,s)
    |_=>none)
    else if fn.name = "sync/atomic.StoreInt64" then (match args.toList with
    | [.pointer (some a),.int .i64 n]=>(cstoreCells a [.int .i64 n] s).map fun s'=>(undef,s')
    |_=>none)
    else if fn.name = "sync/atomic.AddInt64" then (match args.toList with
    | [.pointer (some a),.int .i64 d]=>match cnumAt a s with
     |some n=>(cstoreCells a [.int .i64 (IntKind.i64.wrap (n+d))] s).map fun s'=>(.int .i64 (IntKind.i64.wrap (n+d)),s')
     |none=>none
    |_=>none)
    else none)
  else none
 |none=>none
def ceff(ev:Operand→Value)(s:St M):Op→Option (Value×St M)
 |.store t a x=>match ev a with
  |.pointer (some a)=>if qP (ev x)=true then (cstore P t a (ev x) s).map fun s'=>(undef,s') else none
  |_=>none
 |.mapUpdate t m k x=>(cmapset P t (ev m) (ev k) (ev x) s).map fun s'=>(undef,s')
 |.insert t m k x=>(cmapset P t (ev m) (ev k) (ev x) s).map fun s'=>(undef,s')
 |.next it str=>match str,ev it with
  |true,.pointer (some a)=>if a.off=0∧a.spot=none then (match s.at' a.block with
   |some (.strIter x pos) =>
    if pos<x.size then some (.tuple #[.bool true,.int .i64 pos,.int .i32 (Utf8.decode x pos).1],s.put a.block (.strIter x (pos+(Utf8.decode x pos).2)))
    else some (.tuple #[.bool false],s)
   |_=>none) else none
  |_,_=>none
 |.call c=>match c.callee with
  |.builtin .append=>capp P c.argTypes (c.args.map ev) s
  |.builtin .delete=>match (c.argTypes[0]?:Option TypeId),(c.args[0]?).map ev,(c.args[1]?).map ev with
   |some t,some m,some k=>(cdelete P t m k s).map fun s'=>(undef,s')
   |_,_,_=>none
  |.builtin .unsafeString=>match (c.argTypes[0]?:Option TypeId).bind P.underlying,(c.args[0]?).map ev,(c.args[1]?).map ev with
   |some (.pointer u),some (.pointer p),some (.int _ n) =>
    if (c.args.size == 2)=false then none
    else if n=0 then some (.string .empty,s)
    else match p with
     |some a=>match s.at' a.block with
      |some (.cells vs e true)=>if 0<n∧n≤9223372036854775807∧upOk P e u=true∧P.cellsOf e=1 then
        (match (cut vs a.off n.toNat).bind fun l=>l.mapM byteOf? with
         |some bs=>some (.string ⟨bs.toArray⟩,s.put a.block (.cells vs e false))
         |none=>none)
       else none
      |_=>none
     |none=>none
   |_,_,_=>none
  |.value f=>match ev f with
   |.func (.func f) first captured=>match cextern P f (first++c.args.map ev++captured) with
    |some v=>some (v,s)
    |none=>catom P f (first++c.args.map ev++captured) s
   |_=>none
  |.builtin .clear=>match (c.argTypes[0]?:Option TypeId).bind P.underlying,(c.args[0]?).map ev with
   |some (.map _ _),some (.map none)=>some (undef,s)
   |some (.slice _),some (.slice none _ _)=>some (undef,s)
   |some (.slice e),some (.slice (some a) n _) =>
    if n=0 then some (undef,s)
    else match czero P e with
     |some z=>if z.cells.size=0 then none else (cstoreCells a (czeros z (n*z.cells.size)) s).map fun s'=>(undef,s')
     |none=>none
   |_,_=>none
  |.builtin .copy=>match (c.argTypes[0]?:Option TypeId).bind P.underlying,(c.args[0]?).map ev,(c.args[1]?).map ev with
   |some (.slice e),some (.slice d n _),some (.slice x m _)=>match P.info? e with
    |some ie=>match x with
     |none=>some (.int .i64 (Nat.min m n),s)
     |some b=>match s.at' b.block with
      |some (.cells vs _ _)=>match cut vs b.off (Nat.min m n*ie.size) with
       |some l=>match d with
        |none=>some (.int .i64 (Nat.min m n),s)
        |some a=>(cstoreCells a l s).map fun s'=>(.int .i64 (Nat.min m n),s')
       |none=>none
      |_=>none
    |none=>none
   |_,_,_=>none
  |_=>none
 |_=>none
end
section
variable {M:Type}[Mem M]{P:Program}{w0:World}{ρ:Ren}{s:St M}{w:World}
theorem run_setObj{b:Nat}{o o':Obj}(h:w.heap[b]?=some o)(hc:∀ c e f,o ≠ .cells c e f):(setObj b o').run P w = .ok () { w with heap:=w.heap.setIfInBounds b o' }:=by
 unfold setObj
 simp only[Sem.run,h]
theorem findNow_bound(kd:TypeDesc)(k:Value):∀ (es:List MapEntry) (i j:Nat) (v:Value),Instr.findNow kd k es i=some (some (j,v))→i≤j∧∃ (h:j - i<es.length),Instr.sameNow kd k es[j - i].key=some true:=by
 intro es
 induction es with
 |nil=>intro i j v h;simp[Instr.findNow]at h
 |cons e es ih =>
  intro i j v h
  simp only[Instr.findNow]at h
  split at h
  ·rename_i hs
   simp only[Option.some.injEq,Prod.mk.injEq]at h
   obtain⟨rfl,_⟩:=h
   exact⟨Nat.le_refl _,by simp,by simpa using hs⟩
  ·obtain⟨h1,h2,h3⟩:=ih _ _ _ h
   refine⟨oM,by simp;omega,?_⟩
   have:j - i=(j - (i+1))+1:=oM
   simp only[this,List.getElem_cons_succ]
   exact h3
  ·cases h
theorem ba_beq_iff{a b:ByteArray}:(a == b)=true↔a=b:=by
 show (a.data == b.data)=true↔a=b
 rw[beq_iff_eq]
 exact⟨fun h=>ByteArray.ext h,fun h=>by rw[h]⟩
theorem sameNow_bits{kd:TypeDesc}{k k':Value}(h:Instr.sameNow kd k k'=some true):Instr.sameBits 10000 k' k=true:=by
 unfold Instr.sameNow at h
 split at h
 ·split at h
  ·rename_i hk
   subst hk
   simp only[Option.some.injEq,beq_iff_eq]at h
   subst h
   simp[Instr.sameBits]
  ·cases h
 ·simp only[Option.some.injEq,ba_beq_iff]at h
  subst h
  simp only[Instr.sameBits,ba_beq_iff]
 ·simp only[Option.some.injEq,beq_iff_eq]at h
  subst h
  simp[Instr.sameBits]
 ·cases h
theorem run_keyThatStays{old new:Value}(h:Instr.sameBits 10000 old new=true)(w:World):(Instr.keyThatStays old new).run P w = .ok new w:=by
 simp only[Instr.keyThatStays,h,if_true,Sem.run_pure]
theorem EsRel.modify{es:List MapEntry}{es':Array MapEntry}(h:EsRel ρ es es')(i:Nat){k v v':Value}(hp:plain 6 k=true)(hv:VRel ρ v v') :
  EsRel ρ (es.modify i fun e=>{ e with key:=k,val:=v }) (es'.modify i fun e=>{ e with key:=k,val:=v' }):=by
 refine⟨by simp[h.1],fun j hj hj'=>?_⟩
 simp only[List.length_modify]at hj
 simp only[Array.size_modify]at hj'
 obtain⟨h1,h2,h3,h4⟩:=h.2 j hj hj'
 simp only[List.getElem_modify,Array.getElem_modify]
 by_cases e:i=j
 ·simp only[if_pos e];exact⟨trivial,h2,hp,hv⟩
 ·simp only[if_neg e];exact⟨h1,h2,h3,h4⟩
theorem EsRel.push{es:List MapEntry}{es':Array MapEntry}(h:EsRel ρ es es'){k v v':Value}{n:Nat}(hp:plain 6 k=true)(hv:VRel ρ v v') :
  EsRel ρ (es ++ [{ key:=k,val:=v,born:=n }]) (es'.push { key:=k,val:=v',born:=n }):=by
 refine⟨by simp[h.1],fun j hj hj'=>?_⟩
 simp only[List.length_append,List.length_cons,List.length_nil]at hj
 have hsz:=h.1
 simp only[List.getElem_append,Array.getElem_push]
 by_cases e:j<es.length
 ·have e':j<es'.size:=oM
  simp only[dif_pos e,dif_pos e']
  exact h.2 j e e'
 ·have e':¬ j<es'.size:=oM
  simp only[dif_neg e,dif_neg e']
  have:j - es.length=0:=oM
  simp only[this,List.getElem_cons_zero]
  exact⟨trivial,trivial,hp,hv⟩
theorem EsRel.erase{es:List MapEntry}{es':Array MapEntry}(h:EsRel ρ es es')(i:Nat)(hi:i<es.length):EsRel ρ (es.eraseIdx i) (es'.eraseIdxIfInBounds i):=by
 have hsz:=h.1
 have hi':i<es'.size:=oM
 rw[Array.eraseIdxIfInBounds,dif_pos hi']
 refine⟨by simp[List.length_eraseIdx,hi,hsz],fun j hj hj'=>?_⟩
 simp only[List.length_eraseIdx,hi,if_true]at hj
 simp only[List.getElem_eraseIdx,Array.getElem_eraseIdx]
 by_cases e:j<i
 ·simp only[dif_pos e];exact h.2 j oM oM
 ·simp only[dif_neg e];exact h.2 (j+1) oM oM
theorem cmapset_sound{t:TypeId}{m k v m' k' v':Value}{s':St M}(h:cmapset P t m k v s=some s')(hR:Rel P w0 ρ s w)(hm:VRel ρ m m')(hk:VRel ρ k k')(hv:VRel ρ v v') :
  ∃ w',(Instr.mapUpdate t m' k' v').run P w = .ok () w'∧Rel P w0 ρ s' w'∧Ext ρ s ρ s':=by
 unfold cmapset at h
 split at h
 ·rename_i kt et r hu
  obtain⟨i,rfl,hi⟩:=hm.map_inv
  split at h
  ·rename_i es clock hat
   obtain⟨o,ho,hbr⟩:=hR.blk _ _ _ hi hat
   obtain⟨es',rfl,hes⟩:=hbr
   have hes:EsRel ρ es es':=hes
   split at h
   ·rename_i j u hf
    cases h
    obtain⟨hp,kd,hkd,hfn,hck⟩:=cfind_kind hf
    obtain⟨u',hu1,hu2⟩:=(findNow_rel kd k es es'.toList 0 _ (by rw[Array.toArray_toList];exact hes) hfn).2 j u rfl
    obtain⟨_,hjl,hsame⟩:=findNow_bound kd k es 0 j u hfn
    have hjl:j<es.length:=hjl
    have hj':j<es'.size:=by have:=hes.1;omega
    obtain⟨hkey,_⟩:=hes.2 j hjl hj'
    have hbits:Instr.sameBits 10000 (((es'[j]?).map (·.key)).getD k) k=true:=by
     rw[Array.getElem?_eq_getElem hj']
     simp only[Option.map_some,Option.getD_some]
     rw[hkey]
     exact sameNow_bits hsame
    rw[VRel.eq_of_plain 6 hp hk]
    refine⟨_,?_,hR.write hi hat rfl ⟨_,rfl,hes.modify j hp hv⟩⟩
    simp only[Instr.mapUpdate,Sem.run_bind,qU' hu,Result.andThen_ok,run_getObj ho (by simp),run_checkKey hck,run_findKey hkd hu1,run_keyThatStays hbits,run_setObj ho (by simp)]
   ·rename_i hf
    cases h
    obtain⟨hp,kd,hkd,hfn,hck⟩:=cfind_kind hf
    have hu1:=(findNow_rel kd k es es'.toList 0 _ (by rw[Array.toArray_toList];exact hes) hfn).1 rfl
    rw[VRel.eq_of_plain 6 hp hk]
    refine⟨_,?_,hR.write hi hat rfl ⟨_,rfl,hes.push hp hv⟩⟩
    simp only[Instr.mapUpdate,Sem.run_bind,qU' hu,Result.andThen_ok,run_getObj ho (by simp),run_checkKey hck,run_findKey hkd hu1,run_setObj ho (by simp)]
   ·cases h
  ·cases h
 ·cases h
theorem setObj_same{b:Nat}{o:Obj}(h:w.heap[b]?=some o):{ w with heap:=w.heap.setIfInBounds b o }=w:=by
 have:w.heap.setIfInBounds b o=w.heap:=by
  apply Array.ext_getElem?
  intro j
  rw[Array.getElem?_setIfInBounds]
  split
  ·subst_vars
   have hlt:j<w.heap.size:=by
    rcases Nat.lt_or_ge j w.heap.size with h'|h'
    ·exact h'
    ·rw[Array.getElem?_eq_none h']at h;cases h
   rw[if_pos hlt];exact h.symm
  ·rfl
 rw[this]
theorem cdelete_sound{t:TypeId}{m k m' k':Value}{s':St M}{ts:Array TypeId}{args':Array Value}{ty:TypeId}(h:cdelete P t m k s=some s')(hR:Rel P w0 ρ s w)(hm:VRel ρ m m')(hk:VRel ρ k k')
  (ht:ts[0]?=some t)(ha0:args'[0]?=some m')(ha1:args'[1]?=some k') :
  ∃ w',(Builtin.delete_ ts ty args').run P w = .ok undef w'∧Rel P w0 ρ s' w'∧Ext ρ s ρ s':=by
 unfold cdelete at h
 split at h
 ·rename_i kt et r hu
  obtain⟨i,rfl,hi⟩:=hm.map_inv
  split at h
  ·rename_i es clock hat
   obtain⟨o,ho,hbr⟩:=hR.blk _ _ _ hi hat
   obtain⟨es',rfl,hes⟩:=hbr
   have hes:EsRel ρ es es':=hes
   split at h
   ·rename_i j u hf
    cases h
    obtain⟨hp,kd,hkd,hfn,hck⟩:=cfind_kind hf
    obtain⟨u',hu1,hu2⟩:=(findNow_rel kd k es es'.toList 0 _ (by rw[Array.toArray_toList];exact hes) hfn).2 j u rfl
    obtain⟨_,hjl,_⟩:=findNow_bound kd k es 0 j u hfn
    rw[VRel.eq_of_plain 6 hp hk]at ha1
    refine⟨_,?_,hR.write hi hat rfl ⟨_,rfl,hes.erase j hjl⟩⟩
    simp only[Builtin.delete_,ht,ha0,ha1,Sem.run_bind,qU' hu,Result.andThen_ok,run_getObj ho (by simp),run_checkKey hck,run_findKey hkd hu1,run_setObj ho (by simp),Sem.run_pure]
    rfl
   ·rename_i hf
    cases h
    obtain⟨hp,kd,hkd,hfn,hck⟩:=cfind_kind hf
    have hu1:=(findNow_rel kd k es es'.toList 0 _ (by rw[Array.toArray_toList];exact hes) hfn).1 rfl
    rw[VRel.eq_of_plain 6 hp hk]at ha1
    refine⟨w,?_,hR,Ext.refl _ _⟩
    simp only[Builtin.delete_,ht,ha0,ha1,Sem.run_bind,qU' hu,Result.andThen_ok,run_getObj ho (by simp),run_checkKey hck,run_findKey hkd hu1,run_setObj ho (by simp),Sem.run_pure,setObj_same ho]
    rfl
   ·cases h
  ·cases h
 ·rename_i kt et hu
  split at h
  ·rename_i hc
   cases h
   obtain rfl:=hm.nilMap_inv
   have hck:(∃ i,P.underlying kt=some (.int i))∨P.underlying kt=some .string∨P.underlying kt=some .bool:=by
    have h2:=hc.2
    unfold keyKind at h2
    split at h2
    ·rename_i i hi;exact .inl ⟨i,hi⟩
    ·exact .inr (.inl (by assumption))
    ·exact .inr (.inr (by assumption))
    ·cases h2
   refine⟨w,?_,hR,Ext.refl _ _⟩
   simp only[Builtin.delete_,ht,ha0,ha1,Sem.run_bind,qU' hu,Result.andThen_ok,run_checkKey hck,Sem.run_pure]
   rfl
  ·cases h
 ·cases h
theorem runSkip{α:Type}{x:Sem Unit}{w':World}(h:x.run P w = .ok () w'):(do x;pure Next.skip:Sem Next).run P w = .ok .skip w':=by simp[h]
theorem append_rel{a a' b b':Array Value}(h:VsRel ρ a a')(h':VsRel ρ b b'):VsRel ρ (a++b) (a'++b'):=by
 have h1:=VsRel.toL (l:=a.toList) (l':=a'.toList) (by simpa using h)
 have h2:=VsRel.toL (l:=b.toList) (l':=b'.toList) (by simpa using h')
 have:=VsRel.ofL (h1.append h2)
 rw[show (a.toList++b.toList).toArray=a++b from by apply Array.ext';simp,show (a'.toList++b'.toList).toArray=a'++b' from by apply Array.ext';simp]at this
 exact this
theorem find_noEscape{fn:Func}(h:fn.name = "internal/abi.NoEscape"):Extern.find fn=some Extern.AbiNoEscape.same:=by
 unfold Extern.find
 rw[h]
 rfl
theorem find_cmpstring{fn:Func}(h:fn.name = "internal/bytealg.abigen_runtime_cmpstring"):Extern.find fn=some Extern.BytealgCompare.compare:=by
 unfold Extern.find
 rw[h]
 rfl
theorem findNext_none{fn:Func}(h:fn.name = "internal/abi.NoEscape"∨fn.name = "internal/bytealg.abigen_runtime_cmpstring")(ho:(fn.origin == "" || fn.origin == fn.name)=true):Extern.findNext fn=none:=by
 simp only[Bool.or_eq_true,beq_iff_eq]at ho
 unfold Extern.findNext
 rcases h with h|h<;>rcases ho with ho|ho<;>rw[ho,h]<;>rfl
theorem cextern_sound{f:FuncId}{args args':Array Value}{v:Value}(h:cextern P f args=some v)(ha:VsRel ρ args args'):∃ v',(callFunc f args').run P w = .ok (.value v') w∧VRel ρ v v':=by
 unfold cextern at h
 split at h
 ·rename_i fn hfn
  split at h
  ·rename_i hc
   have hnum:∀ {nm:String},fn.name=nm→(nm == "runtime.NumGoroutine")=false→(fn.name == "runtime.NumGoroutine")=false:=fun e h=>by rw[e];exact h
   split at h
   ·rename_i hn
    split at h
    ·rename_i x he
     cases h
     have he:args=#[v]:=by apply Array.ext';exact he
     subst he
     have hsz:args'.size=1:=by have:=ha.1;simpa using this.symm
     have hx:=ha.2 0 (by simp)
     have e:args'=#[args'.getD 0 undef]:=by
      apply Array.ext
      ·simp[hsz]
      ·intro i h1 h2
       have:i=0:=by simp at h2;omega
       subst this
       simp[Array.getD,hsz]
     generalize args'.getD 0 undef=x' at e hx
     subst e
     refine⟨x',?_,by simpa [Array.getD] using hx⟩
     have hsame:∀ w:World,(Extern.AbiNoEscape.same #[x']).run P w = .ok x' w:=fun w=>rfl
     simp only[callFunc,program,Sem.run_bind,Sem.run,Result.andThen_ok,hfn,hnum hn rfl,hc.1,Bool.false_eq_true,if_false,if_true,mark,findNext_none (.inl hn) hc.2,find_noEscape hn,hsame,Sem.run_pure]
    ·cases h
   ·split at h
    ·rename_i hn
     split at h
     ·rename_i a b he
      cases h
      have he:args=#[.string a,.string b]:=by apply Array.ext';exact he
      subst he
      have hsz:args'.size=2:=by have:=ha.1;simpa using this.symm
      have hx:=ha.2 0 (by simp)
      have hy:=ha.2 1 (by simp)
      have e:args'=#[.string a,.string b]:=by
       have e0:args'.getD 0 undef = .string a:=by simpa [Array.getD] using hx.string_inv
       have e1:args'.getD 1 undef = .string b:=by simpa [Array.getD] using hy.string_inv
       apply Array.ext
       ·simp[hsz]
       ·intro i h1 h2
        have:i=0∨i=1:=by simp at h2;omega
        rcases this with rfl|rfl
        ·simpa [Array.getD,hsz] using e0
        ·simpa [Array.getD,hsz] using e1
      subst e
      refine⟨_,?_,.int _ _⟩
      have hcmp:∀ w:World,(Extern.BytealgCompare.compare #[.string a,.string b]).run P w = .ok (.int .i64 (Extern.BytealgCompare.cmp a b)) w:=fun w=>rfl
      simp only[callFunc,program,Sem.run_bind,Sem.run,Result.andThen_ok,hfn,hnum hn rfl,hc.1,Bool.false_eq_true,if_false,if_true,mark,findNext_none (.inr hn) hc.2,find_cmpstring hn,hcmp,Sem.run_pure]
     ·cases h
    ·cases h
  ·cases h
 ·cases h
theorem run_loadBytes{b:Nat}{cs:Array Value}{e:TypeId}{fr:Nat×Nat}(hb:w.heap[b]?=some (.cells cs e fr)):∀ (l:List Value) (bs:List UInt8) (o:Nat) (acc:ByteArray),
  l.mapM byteOf?=some bs→o+l.length≤cs.size→(∀ k,k<l.length→VRel ρ (l.getD k undef) (cs.getD (o+k) undef))→(Go.loadBytes ⟨b,o,none⟩ acc l.length).run P w = .ok ⟨acc.data++bs.toArray⟩ w:=by
 intro l
 induction l with
 |nil=>intro bs o acc h _ _;simp at h;subst h;simp[Go.loadBytes]
 |cons v l ih =>
  intro bs o acc h ho hv
  simp only[List.mapM_cons,Option.bind_eq_bind,Option.bind_eq_some_iff]at h
  obtain⟨x,hx,bs',hbs,h⟩:=h
  cases h
  have h0:=hv 0 (by simp)
  simp only[List.length_cons]at ho
  have hlt:o<cs.size:=oM
  simp only[List.getD_cons_zero,Nat.add_zero,Array.getD,hlt,dif_pos]at h0
  have hcell:cs[o]?=some cs[o]:=by simp
  unfold byteOf? at hx
  split at hx
  ·rename_i m
   cases hx
   have h1:cs[o] = .int .u8 m:=h0.int_inv
   simp only[List.length_cons,Go.loadBytes,Sem.run_bind,run_load_at hb hcell,Result.andThen_ok,h1,addr_add_mk]
   rw[ih bs' (o+1) _ hbs oM (fun k hk=>by have:=hv (k+1) (by simp;omega);rw[List.getD_cons_succ]at this;rw[show o+1+k=o+(k+1) from oM];exact this)]
   congr 1
   apply ByteArray.ext
   simp[ByteArray.push]
  ·cases hx
theorem freeze_eq{b o n:Nat}{cs:Array Value}{e:TypeId}{fr:Nat×Nat}(hb:w.heap[b]?=some (.cells cs e fr)):∃ fr',w.freeze ⟨b,o,none⟩ n={ w with heap:=w.heap.setIfInBounds b (.cells cs e fr') }:=by
 unfold World.freeze
 by_cases hn:n=0
 ·rw[if_pos hn]
  refine⟨fr,?_⟩
  have:w.heap.setIfInBounds b (.cells cs e fr)=w.heap:=by
   apply Array.ext_getElem?
   intro i
   rw[Array.getElem?_setIfInBounds]
   split
   ·rename_i h;subst h;split
    ·exact hb.symm
    ·rename_i h2;rw[Array.getElem?_eq_none oM]at hb;cases hb
   ·rfl
  rw[this]
 ·rw[if_neg hn]
  refine⟨if fr.1 == fr.2 then (o,o+n) else (min fr.1 o,max fr.2 (o+n)),?_⟩
  congr 1
  apply Array.ext_getElem?
  intro i
  rw[Array.getElem?_setIfInBounds,Array.getElem?_modify]
  split
  ·rename_i h;subst h
   rw[hb]
   have hlt:b<w.heap.size:=by
    rcases Nat.lt_or_ge b w.heap.size with h|h
    ·exact h
    ·rw[Array.getElem?_eq_none h]at hb;cases hb
   simp[hlt]
  ·rfl
theorem unsafeString_sound{ts:Array TypeId}{ty t u e:TypeId}{a a':Addr}{k:IntKind}{n:Int}{vs l:List Value}{bs:List UInt8}(hR:Rel P w0 ρ s w)(ht:ts[0]?=some t)(hu:P.underlying t=some (.pointer u))(ha:ARel ρ a a')(hat:s.at' a.block=some (.cells vs e true))
  (h0:0<n)(h1:n≤9223372036854775807)(hup:upOk P e u=true)(hce:P.cellsOf e=1)(hl:cut vs a.off n.toNat=some l)(hbs:l.mapM byteOf?=some bs) :
  (Builtin.unsafeString_ ts ty #[.pointer (some a'),.int k n]).run P w = .ok (.string ⟨bs.toArray⟩) (w.freeze a' n.toNat)∧Rel P w0 ρ (s.put a.block (.cells vs e false)) (w.freeze a' n.toNat)∧Ext ρ s ρ (s.put a.block (.cells vs e false)):=by
 obtain⟨i,hi,hsp,rfl⟩:=ha
 obtain⟨o,hob,hbr⟩:=hR.blk _ _ _ hi hat
 obtain⟨cs,e',fr,rfl,hsz,hv,hesz,hown⟩:=hbr
 obtain⟨rfl,_,_,_,hsh⟩:=hown rfl
 unfold upOk at hup
 simp only[Bool.and_eq_true,bne_iff_ne,ne_eq]at hup
 obtain⟨⟨⟨_,h2⟩,h3⟩,_⟩:=hup
 obtain⟨hle,hvr⟩:=cut_rel hl hsz hv
 have hlen:=cut_length hl
 have hlies:=liesAt_of (P:=P) (e:=e') (u:=u) (count:=cs.size / P.cellsOf e') (off:=a.off+i.sh) (n:=n.toNat) h3 (by rw[hce];omega) h2 (by rw[hce];exact Nat.mod_one _) (by rw[hce];simpa using hle)
 have hload:=run_loadBytes (P:=P) (ρ:=ρ) hob l bs (a.off+i.sh) .empty hbs (by rw[hlen];exact hle) (fun k hk=>by
  have:=hvr.2 k (by simpa using hk)
  have e1:(cs.extract (a.off+i.sh) (a.off+i.sh+n.toNat)).getD k undef=cs.getD (a.off+i.sh+k) undef:=by
   rw[Array.getD_eq_getD_getElem?,Array.getD_eq_getD_getElem?,Array.getElem?_extract,if_pos oM]
  rw[e1]at this
  simpa [Array.getD_eq_getD_getElem?] using this)
 rw[hlen]at hload
 have hn0:¬ n<0:=oM
 have hn1:¬ n>IntKind.i64.max:=by simp[IntKind.max,IntKind.bits,IntKind.signed];omega
 have hn2:¬ n=0:=oM
 obtain⟨fr',hfz⟩:=freeze_eq (n:=n.toNat) (o:=a.off+i.sh) hob
 refine⟨?_,?_⟩
 ·have helem:(elemOf t).run P w = .ok u w:=by
   simp only[elemOf,Sem.run_bind,qU' hu,Result.andThen_ok,Sem.run_pure]
  have hdef:Builtin.unsafeString_ ts ty #[.pointer (some ⟨i.blk,a.off+i.sh,none⟩),.int k n]=(do
   let m ← asInt (.int k n)
   let some pt:=ts[0]?|stuck _
   if m<0 then runtimePanic (.error _)
   if m>IntKind.i64.max then unsupported (.unsafePointer _)
   if m=0 then pure (.string .empty)
   else if ← variablesAt ⟨i.blk,a.off+i.sh,none⟩ (← elemOf pt) m.toNat then do
    let x ← Go.loadBytes ⟨i.blk,a.off+i.sh,none⟩ .empty m.toNat
    freeze ⟨i.blk,a.off+i.sh,none⟩ m.toNat
    pure (.string x)
   else unsupported (.unsafePointer _)):=rfl
  rw[hdef]
  simp only[asInt,asIntOf,Sem.run_bind,Sem.run_pure,Result.andThen_ok,ht,hn0,hn1,hn2,if_false,helem,run_variablesAt hob,hlies,if_true,hload,freeze,Sem.run]
  simp
 ·rw[hfz]
  exact hR.write hi hat rfl ⟨cs,e',fr',rfl,hsz,hv,hesz,fun h=>by cases h⟩
theorem find_loadInt64{fn:Func}(h:fn.name = "sync/atomic.LoadInt64"):Extern.find fn=some (Extern.Atomic.loadT (.int .i64)):=by
 unfold Extern.find
 rw[h]
 rfl
theorem find_storeInt64{fn:Func}(h:fn.name = "sync/atomic.StoreInt64"):Extern.find fn=some Extern.Atomic.storeT:=by
 unfold Extern.find
 rw[h]
 rfl
theorem find_addInt64{fn:Func}(h:fn.name = "sync/atomic.AddInt64"):Extern.find fn=some (Extern.Atomic.update (Op.intArith .add) .i64 true):=by
 unfold Extern.find
 rw[h]
 rfl
theorem findNext_atomic{fn:Func}(h:fn.name = "sync/atomic.LoadInt64"∨fn.name = "sync/atomic.StoreInt64"∨fn.name = "sync/atomic.AddInt64")(ho:(fn.origin == "" || fn.origin == fn.name)=true):Extern.findNext fn=none:=by
 simp only[Bool.or_eq_true,beq_iff_eq]at ho
 unfold Extern.findNext
 rcases h with h|h|h<;>rcases ho with ho|ho<;>rw[ho,h]<;>rfl
theorem cnumAt_sound{a a':Addr}{n:Int}(h:cnumAt a s=some n)(hR:Rel P w0 ρ s w)(ha:ARel ρ a a'):w.cell? a'=some (.int .i64 n):=by
 unfold cnumAt at h
 obtain⟨i,hi,hsp,rfl⟩:=ha
 split at h
 ·rename_i vs e own hat
  obtain⟨o,ho,hb⟩:=hR.blk _ _ _ hi hat
  obtain⟨cs,e',fr,rfl,hsz,hv,_⟩:=hb
  split at h
  ·rename_i m hm
   cases h
   have hlt:a.off<vs.length:=by
    rcases Nat.lt_or_ge a.off vs.length with h'|h'
    ·exact h'
    ·rw[List.getElem?_eq_none h']at hm;cases hm
   have hr:=hv a.off hlt
   rw[List.getD_eq_getElem?_getD,hm]at hr
   have:=hr.int_inv
   have hc:i.sh+a.off<cs.size:=oM
   simp only[Array.getD,hc,dif_pos]at this
   simp only[World.cell?,ho]
   rw[Nat.add_comm,Array.getElem?_eq_getElem hc]
   exact congrArg some this
  ·cases h
 ·cases h
theorem run_load_mode{w:World}{a:Addr}{v:Value}(h:w.cell? a=some v)(m:Mode):(load a m).run P w = .ok v w:=by
 simp[load,Sem.run,h]
theorem store_mode{w:World}{a:Addr}{u v:Value}(h:w.cell? a=some u)(m:Mode):(store a v m).run P w=(store a v).run P w:=by
 cases v<;>simp[store,Sem.run,h]
theorem storeCells_one{w w':World}{a:Addr}{v:Value}(h:(storeCells a [v]).run P w = .ok () w'):(store a v).run P w = .ok () w':=by
 have e:a.add 0=a:=by cases a;simp[Addr.add]
 unfold storeCells at h
 rw[e]at h
 simpa [Sem.run_bind,storeCells] using h
theorem cell_of_cstore{a a':Addr}{v:Value}{l:List Value}{s1:St M}(h:cstoreCells a (v::l) s=some s1)(hR:Rel P w0 ρ s w)(ha:ARel ρ a a'):∃ u,w.cell? a'=some u:=by
 unfold cstoreCells at h
 obtain⟨i,hi,hsp,rfl⟩:=ha
 split at h
 ·rename_i vs e hat
  split at h
  ·rename_i hc
   obtain⟨o,ho,hb⟩:=hR.blk _ _ _ hi hat
   obtain⟨cs,e',fr,rfl,hsz,hv,_⟩:=hb
   have h1:=hc.1
   simp only[List.length_cons]at h1
   have hlt:a.off+i.sh<cs.size:=oM
   exact⟨cs[a.off+i.sh],by simp only[World.cell?,ho];simp[hlt]⟩
  ·cases h
 ·cases h
theorem run_read{a:Addr}{n:Int}(h:w.cell? a=some (.int .i64 n)):(Extern.Atomic.read (.int .i64) a).run P w = .ok (.int .i64 n) w:=by
 simp only[Extern.Atomic.read,Sem.run_bind,run_load_mode h,Result.andThen_ok]
 rfl
theorem args_of{l:List Value}{args args':Array Value}(he:args.toList=l)(ha:VsRel ρ args args'):∃ l',args'=⟨l'⟩∧LRel ρ l l':=
 ⟨args'.toList,rfl,by
  have:args=⟨l⟩:=by apply Array.ext';exact he
  subst this
  exact VsRel.toL (by simpa using ha)⟩
theorem catom_sound{f:FuncId}{args args':Array Value}{v:Value}{s':St M}(h:catom P f args s=some (v,s'))(hR:Rel P w0 ρ s w)(ha:VsRel ρ args args') :
  ∃ v' w',(callFunc f args').run P w = .ok (.value v') w'∧VRel ρ v v'∧Rel P w0 ρ s' w'∧Ext ρ s ρ s':=by
 unfold catom at h
 split at h
 case h_2=>cases h
 rename_i fn hfn
 split at h
 case isFalse=>cases h
 rename_i hc
 have hnum:∀ {nm:String},fn.name=nm→(nm == "runtime.NumGoroutine")=false→(fn.name == "runtime.NumGoroutine")=false:=fun e h=>by rw[e];exact h
 split at h
 ·rename_i hn
  split at h
  case h_2=>cases h
  rename_i a he
  obtain⟨n,hcn,h⟩:=Option.map_eq_some_iff.1 h
  cases h
  obtain⟨l',rfl,hl⟩:=args_of he ha
  cases hl with
  |cons hx ht =>
   cases ht
   obtain⟨a',rfl,har⟩:=hx.ptr_inv
   have hcell:=cnumAt_sound hcn hR har
   have hsame:(Extern.Atomic.loadT (.int .i64) #[.pointer (some a')]).run P w = .ok (.int .i64 n) w:=by
    have hdef:Extern.Atomic.loadT (.int .i64) #[.pointer (some a')]=(do Extern.Atomic.read (.int .i64) (← asAddr (.pointer (some a')))):=rfl
    rw[hdef]
    simp only[asAddr,Sem.run_bind,Sem.run_pure,Result.andThen_ok,run_read hcell]
   refine⟨_,w,?_,.int _ _,hR,Ext.refl _ _⟩
   simp only[callFunc,program,Sem.run_bind,Sem.run,Result.andThen_ok,hfn,hnum hn rfl,hc.1,Bool.false_eq_true,if_false,if_true,mark,findNext_atomic (.inl hn) hc.2,find_loadInt64 hn,hsame,Sem.run_pure]
 ·split at h
  ·rename_i hn
   split at h
   case h_2=>cases h
   rename_i a n he
   obtain⟨s1,hs1,h⟩:=Option.map_eq_some_iff.1 h
   cases h
   obtain⟨l',rfl,hl⟩:=args_of he ha
   cases hl with
   |cons hx ht =>
    cases ht with
    |cons hy ht =>
     cases ht
     obtain⟨a',rfl,har⟩:=hx.ptr_inv
     obtain rfl:=hy.int_inv
     obtain⟨w',h1,h2,h3⟩:=cstoreCells_sound hs1 hR har (.cons (.int .i64 n) .nil)
     have h1:=storeCells_one h1
     obtain⟨u,hu⟩:=cell_of_cstore hs1 hR har
     have hsame:(Extern.Atomic.storeT #[.pointer (some a'),.int .i64 n]).run P w = .ok undef w':=by
      have hdef:Extern.Atomic.storeT #[.pointer (some a'),.int .i64 n]=(do store (← asAddr (.pointer (some a'))) (.int .i64 n) .atomic;pure Extern.Atomic.none_):=rfl
      rw[hdef]
      simp only[asAddr,Sem.run_bind,Sem.run_pure,Result.andThen_ok,store_mode hu,h1]
      rfl
     refine⟨_,w',?_,VRel.undef _,h2,h3⟩
     simp only[callFunc,program,Sem.run_bind,Sem.run,Result.andThen_ok,hfn,hnum hn rfl,hc.1,Bool.false_eq_true,if_false,if_true,mark,findNext_atomic (.inr (.inl hn)) hc.2,find_storeInt64 hn,hsame,Sem.run_pure]
  ·split at h
   case isFalse=>cases h
   rename_i hn
   split at h
   case h_2=>cases h
   rename_i a d he
   split at h
   case h_2=>cases h
   rename_i n hcn
   obtain⟨s1,hs1,h⟩:=Option.map_eq_some_iff.1 h
   cases h
   obtain⟨l',rfl,hl⟩:=args_of he ha
   cases hl with
   |cons hx ht =>
    cases ht with
    |cons hy ht =>
     cases ht
     obtain⟨a',rfl,har⟩:=hx.ptr_inv
     obtain rfl:=hy.int_inv
     have hcell:=cnumAt_sound hcn hR har
     obtain⟨w',h1,h2,h3⟩:=cstoreCells_sound hs1 hR har (.cons (.int .i64 (IntKind.i64.wrap (n+d))) .nil)
     have h1:=storeCells_one h1
     have hsame:(Extern.Atomic.update (Op.intArith .add) .i64 true #[.pointer (some a'),.int .i64 d]).run P w = .ok (.int .i64 (IntKind.i64.wrap (n+d))) w':=by
      have hdef:Extern.Atomic.update (Op.intArith .add) .i64 true #[.pointer (some a'),.int .i64 d]=(do
        let a ← asAddr (.pointer (some a'))
        let old ← Extern.Atomic.read (.int .i64) a
        let new ← Op.intArith .add .i64 (← asInt old) (← asInt (.int .i64 d))
        store a new .atomic
        pure (if true=true then new else old)):=rfl
      rw[hdef]
      simp only[asAddr,Sem.run_bind,Sem.run_pure,Result.andThen_ok,run_read hcell,asInt,asIntOf,Op.intArith,store_mode hcell]
      simp only[if_true,h1,Result.andThen_ok]
     refine⟨_,w',?_,.int _ _,h2,h3⟩
     simp only[callFunc,program,Sem.run_bind,Sem.run,Result.andThen_ok,hfn,hnum hn rfl,hc.1,Bool.false_eq_true,if_false,if_true,mark,findNext_atomic (.inr (.inr hn)) hc.2,find_addInt64 hn,hsame,Sem.run_pure]
theorem ceff_sound{o:Oper}{ev ev':Operand→Value}{v:Value}{s':St M}(h:ceff P ev s o.op=some (v,s'))(hR:Rel P w0 ρ s w)(hev:∀ x∈o.op.operands,VRel ρ (ev x) (ev' x)) :
  EffOk P w0 ρ s s' v ((execOp ev' o).run P w):=by
 obtain⟨dst,op,ty,pos,after,guard⟩:=o
 simp only at h hev
 cases op<;>(try (simp only[ceff]at h;cases h;done))<;>simp only[execOp]
 case store t a x =>
  simp only[ceff]at h
  have ha:=hev a (by simp[Op.operands])
  split at h
  ·rename_i ad had
   rw[had]at ha
   obtain⟨a',e,har⟩:=ha.ptr_inv
   split at h
   ·rename_i hok
    obtain⟨s1,hs1,h⟩:=Option.map_eq_some_iff.1 h
    cases h
    obtain⟨w',h1,h2,h3⟩:=cstore_sound hs1 hR har (hev x (by simp[Op.operands])) hok
    exact⟨.skip,w',ρ,runSkip (α:=Unit) (by rw[e];simp only[Instr.storeAt,Instr.sureAddr,Sem.run_bind,Sem.run_pure,Result.andThen_ok,h1]),.inr ⟨rfl,rfl⟩,h2,h3⟩
   ·cases h
  ·cases h
 case mapUpdate t m k x =>
  simp only[ceff]at h
  obtain⟨s1,hs1,h⟩:=Option.map_eq_some_iff.1 h
  cases h
  obtain⟨w',h1,h2,h3⟩:=cmapset_sound hs1 hR (hev m (by simp[Op.operands])) (hev k (by simp[Op.operands])) (hev x (by simp[Op.operands]))
  exact⟨.skip,w',ρ,runSkip (α:=Unit) h1,.inr ⟨rfl,rfl⟩,h2,h3⟩
 case insert t m k x =>
  simp only[ceff]at h
  obtain⟨s1,hs1,h⟩:=Option.map_eq_some_iff.1 h
  cases h
  obtain⟨w',h1,h2,h3⟩:=cmapset_sound hs1 hR (hev m (by simp[Op.operands])) (hev k (by simp[Op.operands])) (hev x (by simp[Op.operands]))
  exact⟨.skip,w',ρ,runSkip (α:=Unit) h1,.inr ⟨rfl,rfl⟩,h2,h3⟩
 case next it str =>
  simp only[ceff]at h
  have hi:=hev it (by simp[Op.operands])
  split at h
  case h_2=>cases h
  rename_i a hit
  rw[hit]at hi
  obtain⟨a',e,har⟩:=hi.ptr_inv
  split at h
  case isFalse=>cases h
  rename_i ha0
  obtain⟨b,off,spot⟩:=a
  obtain⟨rfl,rfl⟩:=ha0
  obtain⟨i,hib,_,rfl⟩:=har
  split at h
  case h_2=>cases h
  rename_i x pos hat
  obtain⟨o,ho,hbr⟩:=hR.blk _ _ _ hib hat
  obtain⟨rfl,hsh⟩:o = .stringIter x pos∧i.sh=0:=hbr
  have hget:=run_getObj (P:=P) ho (by intro c e f hc;cases hc)
  rw[e]
  split at h
  ·rename_i hlt
   cases h
   obtain⟨h2,h3⟩:=hR.write (C := .strIter x (pos+(Utf8.decode x pos).2)) (o := .stringIter x (pos+(Utf8.decode x pos).2)) hib hat rfl ⟨rfl,hsh⟩
   refine⟨.value (.tuple #[.bool true,.int .i64 pos,.int .i32 (Utf8.decode x pos).1]),_,ρ,?_,.inl ⟨_,rfl,.tuple (by simp) rfl fun k hk=>?_⟩,h2,h3⟩
   ·simp only[Instr.next,hsh,Nat.add_zero,Sem.run_bind,hget,Result.andThen_ok,hlt,if_true,run_setObj ho (by intro c e f hc;cases hc),Sem.run_pure]
    rfl
   ·simp at hk
    have:k=0∨k=1∨k=2:=oM
    rcases this with rfl|rfl|rfl
    ·exact .bool true
    ·exact .int _ _
    ·exact .int _ _
  ·rename_i hlt
   cases h
   refine⟨.value (.tuple #[.bool false]),w,ρ,?_,.inl ⟨_,rfl,.over⟩,hR,Ext.refl _ _⟩
   simp only[Instr.next,hsh,Nat.add_zero,Sem.run_bind,hget,Result.andThen_ok,hlt,if_false,Sem.run_pure]
 case call c =>
  simp only[ceff]at h
  have ha:=VsRel.map (ρ:=ρ) c.args ev ev' (fun x hx=>hev x (by simp[Op.operands,Call.operands,hx]))
  have harg:∀ {i:Nat}{x:Value},(c.args[i]?).map ev=some x→∃ x',(c.args.map ev')[i]?=some x'∧VRel ρ x x':=by
   intro i x hx
   exact ha.getElem? (by rw[Array.getElem?_map];exact hx)
  have hrun:∀ {b:Builtin}{x:Sem Value}{v':Value}{w':World},c.callee = .builtin b→(∀ cs,Go.builtin b c.argTypes ty cs (c.args.map ev')=do pure (.value (← x)))→x.run P w = .ok v' w' →
    (do let d ← resolve ev' c ty;invoke d.target d.args:Sem Next).run P w = .ok (.value v') w':=by
   intro b x v' w' hc hb hx
   simp only[resolve,hc,Sem.run_bind,Sem.run_pure,Result.andThen_ok,invoke,hb,hx]
  split at h
  ·rename_i hb
   obtain⟨v',w',ρ',h1,h2,h3,h4⟩:=capp_sound (ty:=ty) h hR ha
   exact⟨.value v',w',ρ',hrun hb (fun _=>rfl) h1,.inl ⟨v',rfl,h2⟩,h3,h4⟩
  ·rename_i hb
   split at h
   ·rename_i t m k ht hm hk
    obtain⟨s1,hs1,h⟩:=Option.map_eq_some_iff.1 h
    cases h
    obtain⟨m',hm1,hm2⟩:=harg hm
    obtain⟨k',hk1,hk2⟩:=harg hk
    obtain⟨w',h1,h2,h3⟩:=cdelete_sound (ty:=ty) hs1 hR hm2 hk2 ht hm1 hk1
    exact⟨.value undef,w',ρ,hrun hb (fun _=>rfl) h1,.inl ⟨_,rfl,VRel.undef ρ⟩,h2,h3⟩
   ·cases h
  ·rename_i hb
   split at h
   ·rename_i u p k n hu hp hn
    obtain⟨t,ht,hu⟩:=Option.bind_eq_some_iff.1 hu
    obtain⟨p',hp1,hp2⟩:=harg hp
    obtain⟨n',hn1,hn2⟩:=harg hn
    obtain rfl:=hn2.int_inv
    have hsz:(c.args.map ev').size=2:=by
     split at h
     ·cases h
     ·rename_i h2;simpa using h2
    have hargs:c.args.map ev'=#[p',.int k n]:=by
     apply Array.ext
     ·simpa using hsz
     ·intro i h1 h2
      have:i=0∨i=1:=by simp at h2;omega
      rcases this with rfl|rfl
      ·rw[Array.getElem?_eq_getElem h1]at hp1;simpa using hp1
      ·rw[Array.getElem?_eq_getElem h1]at hn1;simpa using hn1
    split at h
    ·cases h
    split at h
    ·rename_i h0
     cases h
     subst h0
     refine⟨.value (.string .empty),w,ρ,hrun hb (fun _=>rfl) (x:=Builtin.unsafeString_ c.argTypes ty (c.args.map ev')) ?_,.inl ⟨_,rfl,.string _⟩,hR,Ext.refl _ _⟩
     rw[hargs]
     have hdef:∀ q:Option Addr,(Builtin.unsafeString_ c.argTypes ty #[.pointer q,.int k 0]).run P w = .ok (.string .empty) w:=by
      intro q
      have hdef:∀ q:Option Addr,Builtin.unsafeString_ c.argTypes ty #[.pointer q,.int k 0]=(do
        let m ← asInt (.int k 0)
        let some pt:=c.argTypes[0]?|stuck _
        if m<0 then runtimePanic (.error _)
        if m>IntKind.i64.max then unsupported (.unsafePointer _)
        match q with
        |none=>if m=0 then pure (.string .empty) else runtimePanic (.error _)
        |some a =>
         if m=0 then pure (.string .empty)
         else if ← variablesAt a (← elemOf pt) m.toNat then do
          let x ← Go.loadBytes a .empty m.toNat
          freeze a m.toNat
          pure (.string x)
         else unsupported (.unsafePointer _)):=fun q=>by cases q<;>rfl
      rw[hdef]
      simp only[asInt,asIntOf,Sem.run_bind,Sem.run_pure,Result.andThen_ok,ht,IntKind.max]
      cases q<;>rfl
     cases p with
     |none =>
      obtain rfl:=(show p' = .pointer none by cases hp2;rfl)
      exact hdef none
     |some a =>
      obtain⟨a',rfl,_⟩:=hp2.ptr_inv
      exact hdef (some a')
    ·split at h
     ·rename_i a
      obtain⟨a',rfl,har⟩:=hp2.ptr_inv
      split at h
      ·rename_i vs e hat
       split at h
       ·rename_i hc
        split at h
        ·rename_i bs hbs
         cases h
         obtain⟨l,hl,hbs⟩:=Option.bind_eq_some_iff.1 hbs
         obtain⟨h1,h2,h3⟩:=unsafeString_sound (ts:=c.argTypes) (ty:=ty) (k:=k) hR ht hu har hat hc.1 hc.2.1 hc.2.2.1 hc.2.2.2 hl hbs
         exact⟨.value (.string ⟨bs.toArray⟩),_,ρ,hrun hb (fun _=>rfl) (by rw[hargs];exact h1),.inl ⟨_,rfl,.string _⟩,h2,h3⟩
        ·cases h
       ·cases h
      ·cases h
     ·cases h
   ·cases h
  ·rename_i f hb
   split at h
   ·rename_i f0 first captured hfv
    have hx:=hev f (by simp[Op.operands,Call.operands,hb])
    rw[hfv]at hx
    obtain⟨first',captured',e,h1,h2⟩:=hx.func_inv
    split at h
    ·rename_i v1 hv1
     cases h
     obtain⟨v',h3,h4⟩:=cextern_sound (w:=w) hv1 (append_rel (append_rel h1 ha) h2)
     refine⟨.value v',w,ρ,?_,.inl ⟨v',rfl,h4⟩,hR,Ext.refl _ _⟩
     simp only[resolve,hb,e,Deferred.ofValue,Sem.run_bind,Sem.run_pure,Result.andThen_ok,invoke,h3]
    ·obtain⟨v',w',h3,h4,h5,h6⟩:=catom_sound h hR (append_rel (append_rel h1 ha) h2)
     refine⟨.value v',w',ρ,?_,.inl ⟨v',rfl,h4⟩,h5,h6⟩
     simp only[resolve,hb,e,Deferred.ofValue,Sem.run_bind,Sem.run_pure,Result.andThen_ok,invoke,h3]
   ·cases h
  ·rename_i hb
   have hone:∀ {x:Value},(c.args[0]?).map ev=some x→∃ x',(c.args.map ev')[0]?=some x'∧VRel ρ x x':=harg
   split at h
   ·rename_i kt et ht hx
    cases h
    obtain⟨t,ht1,hu⟩:=Option.bind_eq_some_iff.1 ht
    obtain⟨x',hx1,hx2⟩:=harg hx
    obtain rfl:=(show x' = .map none by cases hx2;rfl)
    exact⟨.value undef,w,ρ,hrun hb (fun _=>rfl) (x:=Builtin.clear_ c.argTypes ty (c.args.map ev')) (by simp only[Builtin.clear_,ht1,hx1,Sem.run_bind,qU' hu,Result.andThen_ok,Sem.run_pure];rfl),.inl ⟨_,rfl,VRel.undef ρ⟩,hR,Ext.refl _ _⟩
   ·rename_i et n cp ht hx
    cases h
    obtain⟨t,ht1,hu⟩:=Option.bind_eq_some_iff.1 ht
    obtain⟨x',hx1,hx2⟩:=harg hx
    obtain⟨n',cp',rfl⟩:∃ n' cp',x' = .slice none n' cp':=by cases hx2;exact⟨_,_,rfl⟩
    exact⟨.value undef,w,ρ,hrun hb (fun _=>rfl) (x:=Builtin.clear_ c.argTypes ty (c.args.map ev')) (by simp only[Builtin.clear_,ht1,hx1,Sem.run_bind,qU' hu,Result.andThen_ok,Sem.run_pure];rfl),.inl ⟨_,rfl,VRel.undef ρ⟩,hR,Ext.refl _ _⟩
   ·rename_i et a n cp ht hx
    obtain⟨t,ht1,hu⟩:=Option.bind_eq_some_iff.1 ht
    obtain⟨x',hx1,hx2⟩:=harg hx
    obtain⟨a',cp',rfl,har⟩:∃ a' cp',x' = .slice (some a') n cp'∧(ARel ρ a a'∨n=0):=by
     cases hx2 with
     |slice h1 h2=>exact⟨_,_,rfl,.inl h1⟩
     |void=>exact⟨_,_,rfl,.inr rfl⟩
    split at h
    ·rename_i h0
     cases h
     subst h0
     exact⟨.value undef,w,ρ,hrun hb (fun _=>rfl) (x:=Builtin.clear_ c.argTypes ty (c.args.map ev')) (by simp only[Builtin.clear_,ht1,hx1,Sem.run_bind,qU' hu,Result.andThen_ok,Sem.run_pure];rfl),.inl ⟨_,rfl,VRel.undef ρ⟩,hR,Ext.refl _ _⟩
    ·rename_i h0
     have har:=har.resolve_right h0
     split at h
     case h_2=>cases h
     rename_i z hz
     split at h
     ·cases h
     rename_i hz0
     obtain⟨s1,hs1,h⟩:=Option.map_eq_some_iff.1 h
     cases h
     obtain⟨hzr,hzp⟩:=czero_run hz w
     have hcz:=czeros_rel (ρ:=ρ) (plain_cells hzp) (n*z.cells.size) (.inr hz0)
     obtain⟨w',h1,h2,h3⟩:=cstoreCells_sound hs1 hR har (VsRel.toL (l':=(Builtin.zeroCells z.cells n).toList) (by rw[Array.toArray_toList];exact hcz))
     obtain⟨k,rfl⟩:∃ k,n=k+1:=⟨n - 1,oM⟩
     exact⟨.value undef,w',ρ,hrun hb (fun _=>rfl) (x:=Builtin.clear_ c.argTypes ty (c.args.map ev')) (by
      simp only[Builtin.clear_,ht1,hx1,Sem.run_bind,qU' hu,Result.andThen_ok,hzr,h1,Sem.run_pure];rfl),.inl ⟨_,rfl,VRel.undef ρ⟩,h2,h3⟩
   ·cases h
  ·rename_i hb
   split at h
   ·rename_i et d n cd x m cx ht hd hx
    obtain⟨t,ht1,hu⟩:=Option.bind_eq_some_iff.1 ht
    obtain⟨d',hd1,hd2⟩:=harg hd
    obtain⟨x',hx1,hx2⟩:=harg hx
    split at h
    case h_2=>cases h
    rename_i ie hie
    obtain⟨dc,cd',rfl,hdr⟩:∃ dc cd',d' = .slice dc n cd'∧((d=none∧dc=none)∨∃ a a',d=some a∧dc=some a'∧(ARel ρ a a'∨n=0)):=by
     cases hd2 with
     |nilSlice=>exact⟨_,_,rfl,.inl ⟨rfl,rfl⟩⟩
     |void=>exact⟨_,_,rfl,.inr ⟨_,_,rfl,rfl,.inr rfl⟩⟩
     |slice h1 h2=>exact⟨_,_,rfl,.inr ⟨_,_,rfl,rfl,.inl h1⟩⟩
    obtain⟨xc,cx',rfl,hxr⟩:∃ xc cx',x' = .slice xc m cx'∧((x=none∧xc=none∧m=0)∨∃ a a',x=some a∧xc=some a'∧(ARel ρ a a'∨m=0)):=by
     cases hx2 with
     |nilSlice=>exact⟨_,_,rfl,.inl ⟨rfl,rfl,rfl⟩⟩
     |void=>exact⟨_,_,rfl,.inr ⟨_,_,rfl,rfl,.inr rfl⟩⟩
     |slice h1 h2=>exact⟨_,_,rfl,.inr ⟨_,_,rfl,rfl,.inl h1⟩⟩
    have hdef:∀ (cells:Array Value) (w1:World),(Builtin.firstCells ie.size (Nat.min m n) (.slice xc m cx')).run P w = .ok cells w→(match dc with|some a=>storeCells a cells.toList|none=>pure ():Sem Unit).run P w = .ok () w1 →
      (Builtin.copy_ c.argTypes ty (c.args.map ev')).run P w = .ok (.int .i64 (Nat.min m n)) w1:=by
     intro cells w1 h1 h2
     simp only[Builtin.copy_,ht1,hd1,hx1,Sem.run_bind,qU' hu,Result.andThen_ok,run_sizeOf' hie,Builtin.lenOf,Sem.run_pure]
     rw[show (Builtin.firstCells ie.size (Nat.min m n) (.slice xc m cx')).run P w = .ok cells w from h1]
     simp only[Result.andThen_ok]
     cases dc with
     |none=>simp only[Sem.run_pure,Result.ok.injEq]at h2;rw[← h2.2];rfl
     |some a=>simp only at h2;simp only[Sem.run_bind,h2,Result.andThen_ok];rfl
    split at h
    ·cases h
     rcases hxr with ⟨_,rfl,_⟩|⟨a,a',e,_⟩
     ·refine⟨.value _,w,ρ,hrun hb (fun _=>rfl) (hdef #[] w rfl ?_),.inl ⟨_,rfl,.int _ _⟩,hR,Ext.refl _ _⟩
      cases dc with
      |none=>rfl
      |some a=>rfl
     ·cases e
    ·rename_i b
     rcases hxr with ⟨e,_⟩|⟨b0,b',e,rfl,har⟩
     ·cases e
     cases e
     split at h
     case h_2=>cases h
     rename_i vs e own hat
     split at h
     case h_2=>cases h
     rename_i l hl
     obtain⟨cells,hload,hvr⟩:∃ cells:Array Value,(Builtin.firstCells ie.size (Nat.min m n) (.slice (some b') m cx')).run P w = .ok cells w∧VsRel ρ l.toArray cells:=by
      rcases har with ⟨i,hi,hsp,rfl⟩|h0
      ·obtain⟨o,ho,cs,e',fr,rfl,hsz,hv,_⟩:=hR.blk _ _ _ hi hat
       obtain⟨hle,hvr⟩:=cut_rel hl hsz hv
       exact⟨_,run_loadCells ho hle,hvr⟩
      ·subst h0
       have e0:Nat.min 0 n=0:=Nat.zero_min n
       obtain rfl:l=[]:=List.eq_nil_of_length_eq_zero (by rw[cut_length hl,e0,Nat.zero_mul])
       exact⟨#[],by simp only[Builtin.firstCells,e0,Nat.zero_mul];rfl,rfl,fun q hq=>by simp at hq⟩
     rcases hdr with ⟨rfl,rfl⟩|⟨a,a',rfl,rfl,hda⟩
     ·cases h
      exact⟨.value _,w,ρ,hrun hb (fun _=>rfl) (hdef _ w hload rfl),.inl ⟨_,rfl,.int _ _⟩,hR,Ext.refl _ _⟩
     ·obtain⟨s1,hs1,h⟩:=Option.map_eq_some_iff.1 h
      cases h
      rcases hda with hda|h0
      rotate_left
      ·subst h0
       have e0:Nat.min m 0=0:=Nat.min_zero m
       obtain rfl:l=[]:=List.eq_nil_of_length_eq_zero (by rw[cut_length hl,e0,Nat.zero_mul])
       have hc0:cells.toList=[]:=List.eq_nil_of_length_eq_zero (by have:=hvr.1;simp at this;simpa using this.symm)
       obtain⟨h2,h3⟩:=cstoreCells_nil hs1 hR
       exact⟨.value _,w,ρ,hrun hb (fun _=>rfl) (hdef _ w hload (by rw[hc0];rfl)),.inl ⟨_,rfl,.int _ _⟩,h2,h3⟩
      obtain⟨w',h1,h2,h3⟩:=cstoreCells_sound hs1 hR hda (VsRel.toL (l':=cells.toList) (by rw[Array.toArray_toList];exact hvr))
      exact⟨.value _,w',ρ,hrun hb (fun _=>rfl) (hdef _ w' hload h1),.inl ⟨_,rfl,.int _ _⟩,h2,h3⟩
   ·cases h
  ·cases h
end
end Go.Cs
end
section
namespace Go.Cs
section
variable {M:Type}[Mem M](P:Program)(w0:World)
def rF(ro:Option Nat):Fence:={ Fence.wide with round:=ro }
theorem callsIn_rF{ro:Option Nat}{n:Nat}{P:Program}{f:FuncId}{args:Array Value}{w:World}{R:Ending→World→Prop}:CallsIn (rF ro) n P f args w R↔Calls P f args w R:=callsIn_wide
theorem room_rF(ro:Option Nat)(n:Nat):(rF ro).room n:=room_wide n
abbrev CEnd(ρ:Ren)(s:St M)(R:Value→St M→Prop):Ending→World→Prop:=fun e w'=>∃ v s' ρ' v',e = .returned v'∧R v s'∧VRel ρ' v v'∧Rel P w0 ρ' s' w'∧Ext ρ s ρ' s'
def QC(f:FuncId)(args:Array Value)(s:St M)(R:Value→St M→Prop):Prop:=
 ∀ ρ w args',Rel P w0 ρ s w→VsRel ρ args args' →
  Calls P f args' w fun e w'=>∃ v s' ρ' v',e = .returned v'∧R v s'∧VRel ρ' v v'∧Rel P w0 ρ' s' w'∧Ext ρ s ρ' s'
def CRound(l:Nat)(args:Array Value)(s:St M)(R:Value→St M→Prop):Prop:=
 ∀ ρ w args' i ro,Rel P w0 ρ s w→VsRel ρ args args'→ρ l=some i→YieldAt (rF ro) 0 P i.blk args' w (CEnd P w0 ρ s R)
def ccallee(ev:Operand→Value)(c:Call):Option (FuncId×Array Value):=
 match c.callee with
 |.value f=>match ev f with
  |.func (.func f) first captured=>match P.funcs[f]? with
   |some fn=>if fn.body.isSome && fn.name != "runtime.NumGoroutine" then some (f,first++c.args.map ev++captured) else none
   |none=>none
  |_=>none
 |_=>none
def cyield(ev:Operand→Value)(c:Call):Option (Nat×Array Value):=
 match c.callee with
 |.value f=>match ev f with
  |.func (.yield l) _ _=>some (l,c.args.map ev)
  |_=>none
 |_=>none
def ccall(ev:Operand→Value)(s:St M)(K:Value→St M→Prop):Op→Prop
 |.call c=>match ccallee P ev c with
  |some (f,args)=>QC P w0 f args s K
  |none=>match cyield ev c with
   |some (l,args)=>CRound P w0 l args s K
   |none=>False
 |_=>False
def cstep(o:Oper)(ev:Operand→Value)(s:St M)(K:Value→St M→Prop):Prop:=
 (∃ v,cpure P ev o.type o.op=some v∧K v s)∨(∃ v,cread P ev s o.op=some v∧K v s)∨(∃ B f,calloc P ev o.op=some (B,f)∧K (f s.next) (s.new B)) ∨
 (∃ v s',ceff P ev s o.op=some (v,s')∧K v s')∨ccall P w0 ev s K o.op
def opOk:Operand→Bool
 |.tmp _=>true
 |.const v=>plain 6 v
 |.global _=>false
 |.func _=>true
def cwanted(ops:Array Oper)(o:Oper)(tmps:Array Value):Option Bool:=
 match o.guard with
 |none=>some true
 |some (j,want)=>match (ops[j]?).bind (·.dst) with
  |none=>some false
  |some d=>match tmps[d]? with
   |some (.bool b)=>some (b == want)
   |some (.tuple cs)=>if cs.size=1 then none else some false
   |_=>some false
def cregion(ops:Array Oper)(Q:Act→St M→Prop):List Nat→Act→St M→Prop
 | [],a,s=>Q a s
 |i::rest,a,s=>match ops[i]? with
  |none=>cregion ops Q rest a s
  |some o=>match cwanted ops o a.tmps with
   |some true=>match o.op.operands.all opOk with
    |true=>cstep P w0 o a.eval s fun v s'=>cregion ops Q rest (a.put o.dst v) s'
    |false=>False
   |some false=>cregion ops Q rest (a.put o.dst undef) s
   |none=>False
structure DK where
 base:Nat
 ro:Option Nat
def marksOk(ρ:Ren)(base:Nat):List Deferred→Prop
 | []=>True
 |m::ds=>(∃ b i,base≤b∧ρ b=some i∧i.kd=1∧m={ target := .collected i.blk,args:=#[] }∧m ∉ ds)∧marksOk ρ base ds
structure DOk(k:DK)(ρ:Ren)(ds:List Deferred):Prop where
 marks:marksOk ρ k.base ds
 round:∀ l,k.ro=some l→∃ b i,ρ b=some i∧i.kd=2∧i.blk=l
theorem marksOk.mono{ρ ρ':Ren}(h:ρ.le ρ'){base:Nat}:∀ {ds:List Deferred},marksOk ρ base ds→marksOk ρ' base ds
 | [],_=>trivial
 |_::_,⟨⟨b,i,h1,h2,h3⟩,hr⟩=>⟨⟨b,i,h1,h _ _ h2,h3⟩,marksOk.mono h hr⟩
theorem DOk.mono{ρ ρ':Ren}(h:ρ.le ρ'){k:DK}{ds:List Deferred}(hd:DOk k ρ ds):DOk k ρ' ds:=
 ⟨hd.marks.mono h,fun l hl=>let ⟨b,i,h1,h2⟩:=hd.round l hl;⟨b,i,h _ _ h1,h2⟩⟩
structure ActRel(k:DK)(ρ:Ren)(a a':Act):Prop where
 tmps:VsRel ρ a.tmps a'.tmps
 d:a.defers=[]
 d':DOk k ρ a'.defers
def CPost(k:DK)(ρ:Ren)(s:St M)(Q:Exit→Act→St M→Prop):Exit→Act→World→Prop:=fun e a2' w2 =>
 ∃ a2 s2 ρ2,Q e a2 s2∧(∀ ch,e ≠ .panic ch)∧e ≠ .outgrown∧Rel P w0 ρ2 s2 w2∧ActRel k ρ2 a2 a2'∧Ext ρ s ρ2 s2
def CWp(c:Code)(Q:Exit→Act→St M→Prop)(a:Act)(s:St M):Prop:=
 ∀ k ρ a' w,Rel P w0 ρ s w→ActRel k ρ a a'→k.base≤s.next→c.wpIn (rF k.ro) 0 P (CPost P w0 k ρ s Q) a' w
end
section
variable {M:Type}[Mem M]{P:Program}{w0:World}{ρ:Ren}{s:St M}{w:World}
theorem QC.mono{f:FuncId}{args:Array Value}{R R':Value→St M→Prop}(h:QC P w0 f args s R)(hr:∀ v s',R v s'→R' v s'):QC P w0 f args s R':=
 fun ρ w args' hR ha=>(h ρ w args' hR ha).mono fun _ _ ⟨v,s',ρ',v',e,r,rest⟩=>⟨v,s',ρ',v',e,hr _ _ r,rest⟩
theorem CRound.mono{l:Nat}{args:Array Value}{R R':Value→St M→Prop}(h:CRound P w0 l args s R)(hr:∀ v s',R v s'→R' v s'):CRound P w0 l args s R':=by
 intro ρ w args' i ro hR ha hi
 obtain⟨fn,tmps,assign,body,h1,h2⟩:=h ρ w args' i ro hR ha hi
 exact⟨fn,tmps,assign,body,h1,h2.mono fun _ _ ⟨v,s',ρ',v',e,r,rest⟩=>⟨v,s',ρ',v',e,hr _ _ r,rest⟩⟩
theorem ccall_mono{op:Op}{ev:Operand→Value}{K K':Value→St M→Prop}(hk:∀ v s',K v s'→K' v s')(h:ccall P w0 ev s K op):ccall P w0 ev s K' op:=by
 cases op<;>simp only[ccall]at h ⊢
 split at h
 ·rename_i f args hf;exact QC.mono h hk
 ·split at h
  ·exact CRound.mono h hk
  ·exact h
theorem cstep_mono{o:Oper}{ev:Operand→Value}{K K':Value→St M→Prop}(hk:∀ v s',K v s'→K' v s')(h:cstep P w0 o ev s K):cstep P w0 o ev s K':=by
 rcases h with ⟨v,h1,h2⟩|⟨v,h1,h2⟩|⟨B,f,h1,h2⟩|⟨v,s',h1,h2⟩|h
 ·exact .inl ⟨v,h1,hk _ _ h2⟩
 ·exact .inr (.inl ⟨v,h1,hk _ _ h2⟩)
 ·exact .inr (.inr (.inl ⟨B,f,h1,hk _ _ h2⟩))
 ·exact .inr (.inr (.inr (.inl ⟨v,s',h1,hk _ _ h2⟩)))
 ·exact .inr (.inr (.inr (.inr (ccall_mono hk h))))
theorem VRel.yield_inv{l:Nat}{f c:Array Value}{v':Value}(h:VRel ρ (.func (.yield l) f c) v'):∃ i,ρ l=some i∧v' = .func (.yield i.blk) #[] #[]:=by
 cases h with
 |func fn hfn=>exact absurd rfl (hfn l)
 |yield h=>exact⟨_,h,rfl⟩
theorem ev_rel{a a':Act}(h:VsRel ρ a.tmps a'.tmps){x:Operand}(hx:opOk x=true):VRel ρ (a.eval x) (a'.eval x):=by
 cases x with
 |tmp t=>exact h.getD t
 |const v=>exact VRel.of_plain 6 hx
 |global g=>simp[opOk]at hx
 |func f=>exact .func _ (by simp) rfl (fun i hi=>by simp at hi) rfl (fun i hi=>by simp at hi)
theorem cstep_sound{o:Oper}{a a':Act}{K:Value→St M→Prop}(h:cstep P w0 o a.eval s K)(hR:Rel P w0 ρ s w)(hev:∀ x∈o.op.operands,VRel ρ (a.eval x) (a'.eval x))
  {next:Act→World→Prop}{Q:Exit→Act→World→Prop}
  (hn:∀ v s' v' w' ρ',K v s'→VRel ρ' v v'→Rel P w0 ρ' s' w'→Ext ρ s ρ' s'→next (a'.put o.dst v') w')(ro:Option Nat):o.wpIn (rF ro) 0 P a' w next Q:=by
 have hnd:∀ c,o.op ≠ .defer c:=by
  intro c hc
  rcases h with ⟨v,hv,_⟩|⟨v,hv,_⟩|⟨B,f,hB,_⟩|⟨v,s',hv,_⟩|h
  ·rw[hc]at hv;simp[cpure]at hv
  ·rw[hc]at hv;simp[cread]at hv
  ·rw[hc]at hB;simp[calloc]at hB
  ·rw[hc]at hv;simp[ceff]at hv
  ·rw[hc]at h;exact h
 refine⟨fun _ _=>trivial,?_⟩
 rw[Oper.semAt_plain _ _ _ hnd]
 rcases h with ⟨v,hv,h⟩|⟨v,hv,h⟩|⟨B,f,hB,h⟩|⟨v,s',hv,h⟩|h
 ·obtain⟨v',h1,h2⟩:=cpure_sound (ev':=a'.eval) hv hev w
  rw[h1]
  exact hn _ _ _ _ _ h h2 hR (Ext.refl _ _)
 ·obtain⟨v',h1,h2⟩:=cread_sound (ev':=a'.eval) hv hR hev
  rw[h1]
  exact hn _ _ _ _ _ h h2 hR (Ext.refl _ _)
 ·obtain⟨obj,i,n,v',h1,h2,hk0,h3⟩:=calloc_sound (ev':=a'.eval) (w:=w) hB hev (fun _=>trivial)
  obtain⟨h4,h5⟩:=h3 s.next (hR.none_next (Nat.le_refl _))
  obtain⟨h6,h7⟩:=(hR.drew n).alloc h2 h4 (.inl hk0)
  rw[h1]
  exact hn _ _ _ _ _ h h5 h6 h7
 ·obtain⟨n,w',ρ',h1,h2,h3,h4⟩:=ceff_sound (ev':=a'.eval) hv hR hev
  rw[h1]
  rcases h2 with ⟨v',rfl,h2⟩|⟨rfl,rfl⟩
  ·exact hn _ _ _ _ _ h h2 h3 h4
  ·exact hn _ _ _ _ _ h (VRel.undef _) h3 h4
 ·unfold ccall at h
  split at h
  ·rename_i c hc
   split at h
   ·rename_i f args hf
    unfold ccallee at hf
    split at hf
    ·rename_i fo hfo
     split at hf
     ·rename_i f0 first captured hfv
      split at hf
      ·rename_i fn hfn
       split at hf
       ·rename_i hb
        cases hf
        simp only[Bool.and_eq_true,bne_iff_ne,ne_eq]at hb
        have hx:=hev fo (by rw[hc];simp[Op.operands,Call.operands,hfo])
        rw[hfv]at hx
        obtain⟨first',captured',e,h1,h2⟩:=hx.func_inv
        have ha:=VsRel.map (ρ:=ρ) c.args a.eval a'.eval (fun x hx=>hev x (by rw[hc];simp[Op.operands,Call.operands,hx]))
        have hrun:(execOp a'.eval o).run P w = .ok (.enter f (first'++c.args.map a'.eval++captured')) w:=by
         simp only[execOp,hc,resolve,hfo,e,Deferred.ofValue,Sem.run_bind,Sem.run_pure,Result.andThen_ok,invoke,callFunc,program,Sem.run,hfn]
         rw[if_neg (by simpa using hb.2),if_neg (by intro hn;have h9:=hb.1;cases h8:fn.body<;>simp_all)]
         rfl
        rw[hrun]
        refine⟨fun e=>(by cases e),callsIn_rF.2 ((h ρ w _ hR (append_rel (append_rel h1 ha) h2)).mono ?_)⟩
        rintro e w' ⟨v,s',ρ',v',rfl,hk,h3,h4,h5⟩
        exact hn _ _ _ _ _ hk h3 h4 h5
       ·cases hf
      ·cases hf
     ·cases hf
    ·cases hf
   ·split at h
    ·rename_i l args hf
     unfold cyield at hf
     split at hf
     ·rename_i fo hfo
      split at hf
      ·rename_i l0 f0 c0 hfv
       cases hf
       have hx:=hev fo (by rw[hc];simp[Op.operands,Call.operands,hfo])
       rw[hfv]at hx
       obtain⟨i,hi,e⟩:=hx.yield_inv
       have ha:=VsRel.map (ρ:=ρ) c.args a.eval a'.eval (fun x hx=>hev x (by rw[hc];simp[Op.operands,Call.operands,hx]))
       obtain⟨fn,tmps,assign,body,h1,h2⟩:=h ρ w _ i ro hR ha hi
       have hrun:(execOp a'.eval o).run P w = .ok (.round i.blk fn tmps assign body) w:=by
        simp only[execOp,hc,resolve,hfo,e,Deferred.ofValue,Sem.run_bind,Sem.run_pure,Result.andThen_ok,invoke,Array.empty_append]
        exact h1
       rw[hrun]
       refine⟨fun e=>(by cases e),h2.mono ?_⟩
       rintro e w' ⟨v,s',ρ',v',rfl,hk,h3,h4,h5⟩
       exact hn _ _ _ _ _ hk h3 h4 h5
      ·cases hf
     ·cases hf
    ·exact h.elim
  ·exact h.elim
theorem cwanted_sound{ops:Array Oper}{o:Oper}{t t':Array Value}{b:Bool}(h:cwanted ops o t=some b)(hr:∀ j want d,o.guard=some (j,want)→(ops[j]?).bind (·.dst)=some d→d<t.size∨d<t'.size→VRel ρ (t.getD d undef) (t'.getD d undef))(hsz:t.size=t'.size) :
  Region.wanted o (yielded ops t')=b:=by
 unfold cwanted at h
 unfold Region.wanted
 split at h
 ·rename_i hg;cases h;rw[hg]
 ·rename_i j want hg
  rw[hg]
  simp only
  unfold yielded
  split at h
  ·rename_i hd
   cases h
   rw[hd]
   simp
  ·rename_i d hd
   rw[hd]
   simp only[Option.bind_some]
   by_cases hlt:d<t.size
   ·have hlt':d<t'.size:=hsz▸hlt
    have hv:=hr j want d hg hd (.inl hlt)
    rw[Array.getElem?_eq_getElem hlt']
    rw[Array.getElem?_eq_getElem hlt]at h
    simp only[Array.getD,hlt,hlt',dif_pos]at hv
    change VRel ρ t[d] t'[d]at hv
    generalize t[d]=x at h hv
    generalize t'[d]=x' at hv ⊢
    split at h
    ·rename_i b' hx;cases hx;cases h;rw[hv.bool_inv];cases b'<;>cases want<;>rfl
    ·rename_i cs hx
     cases hx
     split at h
     ·cases h
     ·rename_i hne
      cases h
      obtain⟨cs',rfl,_⟩:=hv.tuple_inv hne
      cases want<;>rfl
    ·rename_i hb ht
     cases h
     cases hv<;>first
      |(exact absurd rfl (hb _))
      |(exact absurd rfl (ht _))
      |(cases want<;>rfl)
   ·have hlt':¬ d<t'.size:=hsz▸hlt
    rw[Array.getElem?_eq_none (Nat.le_of_not_lt hlt)]at h
    rw[Array.getElem?_eq_none (Nat.le_of_not_lt hlt')]
    cases h
    cases want<;>rfl
theorem cwp_region{id:Nat}{ops:Array Oper}{Q:Exit→Act→St M→Prop}{a:Act}(h:cregion P w0 ops (fun a s=>Q .normal a s) (List.range ops.size) a s):CWp P w0 (.region id ops false) Q a s:=by
 intro k ρ a' w hR ha hb
 refine wpIn_region ?_
 generalize List.range ops.size=l at h
 have key:∀ (l:List Nat) (a:Act) (s1:St M) (a':Act) (w:World) (ρ1:Ren),cregion P w0 ops (fun a s=>Q .normal a s) l a s1→Rel P w0 ρ1 s1 w→ActRel k ρ1 a a'→Ext ρ s ρ1 s1 →
   wpOpsIn (rF k.ro) 0 P ops (CPost P w0 k ρ s Q) l a' w:=by
  intro l
  induction l with
  |nil=>intro a s1 a' w ρ1 h hR ha hE;exact⟨a,s1,ρ1,h,by simp,by simp,hR,ha,hE⟩
  |cons i rest ih =>
   intro a s1 a' w ρ1 h hR ha hE
   simp only[wpOpsIn]
   simp only[cregion]at h
   split
   ·rename_i ho;rw[ho]at h;exact ih _ _ _ _ _ h hR ha hE
   ·rename_i o ho
    rw[ho]at h
    simp only at h
    split at h
    ·rename_i hw
     rw[cwanted_sound hw (fun j want d _ _ _=>ha.tmps.getD d) ha.tmps.1]
     simp only[if_true]
     split at h
     case h_2=>exact h.elim
     rename_i hop
     refine cstep_sound h hR (fun x hx=>ev_rel ha.tmps (by have:=hop;rw[Array.all_eq_true_iff_forall_mem]at this;exact this x hx)) ?_ k.ro
     intro v s' v' w' ρ' hk hv hR' hE'
     refine ih _ _ _ _ _ hk hR' ⟨?_,?_,?_⟩ (hE.trans hE')
     ·unfold Act.put
      split
      ·exact (ha.tmps.mono hE'.le).set _ hv
      ·exact ha.tmps.mono hE'.le
     ·unfold Act.put;split<;>exact ha.d
     ·unfold Act.put;split<;>exact ha.d'.mono hE'.le
    ·rename_i hw
     rw[cwanted_sound hw (fun j want d _ _ _=>ha.tmps.getD d) ha.tmps.1]
     simp only[Bool.false_eq_true,if_false]
     refine⟨fun _ _=>trivial,?_⟩
     refine ih _ _ _ _ _ h hR ⟨?_,?_,?_⟩ hE
     ·unfold Act.put
      split
      ·exact ha.tmps.set _ (VRel.undef _)
      ·exact ha.tmps
     ·unfold Act.put;split<;>exact ha.d
     ·unfold Act.put;split<;>exact ha.d'
    ·exact h.elim
 exact key l a s a' w ρ h hR ha (Ext.refl _ _)
end
end Go.Cs
namespace Go.Cs
def acts(P:Program)(o:Oper):Bool:=(Region.marks P.types o.op).effect
def bindsAll(o:Oper):List Nat:=(o.after.toList.filter (Region.binds .any)).map (·.on)
def chkOrder(P:Program)(ops:Array Oper)(bf:Array Nat):List Nat→List Nat→Bool
 |_,[]=>true
 |pre,i::rest=>match ops[i]? with
  |none=>false
  |some o => !rest.contains i && (bindsAll o).all (fun j=>pre.contains j) && (!acts P o || rest.all fun x=>(bf.getD x 0).testBit i) && chkOrder P ops bf (pre ++ [i]) rest
def chkTable(ops:Array Oper)(bf:Array Nat):Bool:=
 (List.range ops.size).all fun i=>match ops[i]? with
  |none=>false
  |some o=>(List.range ops.size).all fun j => !(bf.getD i 0).testBit j || (bindsAll o).any fun k=>k<i && (k == j || (bf.getD k 0).testBit j)
def chkTmps(P:Program)(ops:Array Oper)(bf:Array Nat):Bool:=
 (List.range ops.size).all fun i=>match ops[i]? with
  |none=>false
  |some oi =>
   (match oi.guard with|none=>true|some (g,_)=>(bf.getD i 0).testBit g) &&
   (match oi.dst with|none=>true|some d=>acts P oi || !((oi.looksAt ops).contains d)) &&
   (List.range ops.size).all fun j=>i == j || (match ops[j]? with
    |none=>false
    |some oj=>match oj.dst with
     |none=>true
     |some d =>
      (!((oi.looksAt ops).contains d) || (bf.getD i 0).testBit j || (acts P oj && (bf.getD j 0).testBit i)) &&
      (oi.dst != some d || (acts P oi && acts P oj)))
def drawOk(P:Program)(ops:Array Oper)(canon:List Nat):Bool:=
 let bf:=Region.before ops
 ((List.range ops.size).all fun i=>canon.contains i) && chkTable ops bf && chkTmps P ops bf && chkOrder P ops bf [] canon
def asapGo(P:Program)(ops:Array Oper):Nat→List Nat→List Nat→List Nat
 |0,_,acc=>acc.reverse
 |fuel+1,left,acc =>
  let ready (i:Nat):Bool:=match ops[i]? with|none=>false|some o=>(bindsAll o).all fun j=>acc.contains j
  match left.find? (fun i=>ready i && (match ops[i]? with|none=>false|some o => !acts P o)) with
  |some i=>asapGo P ops fuel (left.filter (· != i)) (i::acc)
  |none=>match left.find? ready with
   |some i=>asapGo P ops fuel (left.filter (· != i)) (i::acc)
   |none=>acc.reverse
def asap(P:Program)(ops:Array Oper):List Nat:=asapGo P ops ops.size (List.range ops.size) []
section
variable {M:Type}[Mem M](P:Program)(w0:World)
def fstep(o:Oper)(ev:Operand→Value)(s:St M)(K:Value→St M→Option Value→Prop):Prop:=
 (∃ v,cpure P ev o.type o.op=some v∧K v s none)∨(∃ v,cread P ev s o.op=some v∧K v s (some v))∨(∃ B f,calloc P ev o.op=some (B,f)∧K (f s.next) (s.new B) none)
structure Fl(M:Type) where
 i:Nat
 op:Op
 ev:Operand→Value
 v:Option Value
def Fl.still(f:Fl M)(P:Program)(s:St M):Prop:=match f.v with
 |none=>True
 |some v=>cread P f.ev s f.op=some v
def stillAll(P:Program)(s:St M):List (Fl M)→Prop→Prop
 | [],K=>K
 |f::l,K=>match f.v with
  |none=>stillAll P s l K
  |some v=>cread P f.ev s f.op=some v∧stillAll P s l K
def cregionD(ops:Array Oper)(bf:Array Nat)(Q:Act→St M→Prop):List Nat→List (Fl M)→Act→St M→Prop
 | [],_,a,s=>Q a s
 |i::rest,fl,a,s=>match ops[i]? with
  |none=>False
  |some o=>match cwanted ops o a.tmps with
   |none=>False
   |some false=>cregionD ops bf Q rest (if acts P o then fl else ⟨i,o.op,a.eval,none⟩::fl) (a.put o.dst undef) s
   |some true=>match o.op.operands.all opOk with
    |true =>
     if acts P o then cstep P w0 o a.eval s fun v s'=>stillAll P s' (fl.filter fun f => !(bf.getD i 0).testBit f.i) (cregionD ops bf Q rest fl (a.put o.dst v) s')
     else fstep P o a.eval s fun v s' r=>cregionD ops bf Q rest (⟨i,o.op,a.eval,r⟩::fl) (a.put o.dst v) s'
    |false=>False
end
section
variable {M:Type}[Mem M]{P:Program}{w0:World}
theorem stillAll_spec{s:St M}{K:Prop}:∀ (l:List (Fl M)),stillAll P s l K→K∧∀ f∈l,f.still P s:=by
 intro l
 induction l with
 |nil=>intro h;exact⟨h,fun f hf=>by cases hf⟩
 |cons x l ih =>
  intro h
  simp only[stillAll]at h
  split at h
  ·rename_i e
   obtain⟨h1,h2⟩:=ih h
   refine⟨h1,fun f hf=>?_⟩
   rcases List.mem_cons.1 hf with rfl|hf
   ·unfold Fl.still;rw[e];trivial
   ·exact h2 f hf
  ·rename_i v e
   obtain⟨h1,h2⟩:=ih h.2
   refine⟨h1,fun f hf=>?_⟩
   rcases List.mem_cons.1 hf with rfl|hf
   ·unfold Fl.still;rw[e];exact h.1
   ·exact h2 f hf
structure Stat(P:Program)(ops:Array Oper)(bf:Array Nat)(canon:List Nat):Prop where
 nodup:canon.Nodup
 mem:∀ i:Nat,i∈canon↔i<ops.size
 tab:∀ (i j:Nat) (o:Oper),ops[i]?=some o→(bf.getD i 0).testBit j=true→j<ops.size→∃ k∈bindsAll o,k<i∧(k=j∨(bf.getD k 0).testBit j=true)
 guard:∀ (i:Nat) (o:Oper) (g:Nat) (want:Bool),ops[i]?=some o→o.guard=some (g,want)→(bf.getD i 0).testBit g=true
 looks:∀ (i j:Nat) (oi oj:Oper) (d:Tmp),ops[i]?=some oi→ops[j]?=some oj→i≠j→oj.dst=some d→d∈oi.looksAt ops→(bf.getD i 0).testBit j=true∨(acts P oj=true∧(bf.getD j 0).testBit i=true)
 self:∀ (i:Nat) (o:Oper) (d:Tmp),ops[i]?=some o→o.dst=some d→acts P o=false→d ∉ o.looksAt ops
 dsts:∀ (i j:Nat) (oi oj:Oper) (d:Tmp),ops[i]?=some oi→ops[j]?=some oj→i≠j→oj.dst=some d→oi.dst=some d→acts P oi=true∧acts P oj=true
 before:∀ (pre:List Nat) (i:Nat) (rest:List Nat) (o:Oper),canon=pre++i::rest→ops[i]?=some o→∀ j∈bindsAll o,j∈pre
 later:∀ (pre:List Nat) (i:Nat) (rest:List Nat) (o:Oper),canon=pre++i::rest→ops[i]?=some o→acts P o=true→∀ x∈rest,(bf.getD x 0).testBit i=true
theorem chkOrder_spec{ops:Array Oper}{bf:Array Nat}:∀ (l pre0:List Nat),chkOrder P ops bf pre0 l=true→l.Nodup∧(∀ i∈l,i<ops.size)∧∀ (pre:List Nat) (i:Nat) (rest:List Nat) (o:Oper),l=pre++i::rest→ops[i]?=some o →
  (∀ j∈bindsAll o,j∈pre0++pre)∧(acts P o=true→∀ x∈rest,(bf.getD x 0).testBit i=true):=by
 intro l
 induction l with
 |nil=>intro pre0 _;exact⟨.nil,(fun i hi=>by cases hi),fun pre i rest o h=>by cases pre<;>cases h⟩
 |cons x l ih =>
  intro pre0 h
  simp only[chkOrder]at h
  split at h
  ·cases h
  ·rename_i ox hox
   simp only[Bool.and_eq_true,List.all_eq_true,List.contains_iff_mem,Bool.or_eq_true,Bool.not_eq_true']at h
   obtain⟨⟨⟨h0,h1⟩,h2⟩,h3⟩:=h
   obtain⟨g1,g2,g3⟩:=ih _ h3
   refine⟨List.nodup_cons.2 ⟨fun hx=>?_,g1⟩,fun i hi=>?_,fun pre i rest o hl ho=>?_⟩
   ·have:l.contains x=true:=by simpa using hx
    rw[this]at h0;cases h0
   ·rcases List.mem_cons.1 hi with rfl|hi
    ·rcases Nat.lt_or_ge i ops.size with h'|h'
     ·exact h'
     ·rw[Array.getElem?_eq_none h']at hox;cases hox
    ·exact g2 i hi
   ·cases pre with
    |nil =>
     simp only[List.nil_append,List.cons.injEq]at hl
     obtain⟨rfl,rfl⟩:=hl
     rw[hox]at ho;cases ho
     refine⟨fun j hj=>by simpa using h1 j hj,fun ha y hy=>?_⟩
     rcases h2 with h2|h2
     ·rw[ha]at h2;cases h2
     ·exact h2 y hy
    |cons y pre =>
     simp only[List.cons_append,List.cons.injEq]at hl
     obtain⟨rfl,rfl⟩:=hl
     have:=g3 pre i rest o rfl ho
     simpa using this
theorem stat_of{ops:Array Oper}{canon:List Nat}(h:drawOk P ops canon=true):Stat P ops (Region.before ops) canon:=by
 unfold drawOk at h
 simp only[Bool.and_eq_true]at h
 obtain⟨⟨⟨h2,h3⟩,h4⟩,h5⟩:=h
 simp only[List.all_eq_true,List.mem_range,List.contains_iff_mem]at h2
 have hlt:∀ {i:Nat}{o:Oper},ops[i]?=some o→i<ops.size:=by
  intro i o ho
  rcases Nat.lt_or_ge i ops.size with h'|h'
  ·exact h'
  ·rw[Array.getElem?_eq_none h']at ho;cases ho
 obtain⟨hO1,hO2,hO⟩:=chkOrder_spec canon [] h5
 refine⟨hO1,fun i=>⟨hO2 i,h2 i⟩,?_,?_,?_,?_,?_,?_,?_⟩
 ·intro i j o ho hb hj
  simp only[chkTable,List.all_eq_true,List.mem_range]at h3
  have:=h3 i (hlt ho)
  rw[ho]at this
  simp only[List.all_eq_true,List.mem_range]at this
  have:=this j hj
  simp only[hb,Bool.not_true,Bool.false_or,List.any_eq_true,Bool.and_eq_true,decide_eq_true_eq,Bool.or_eq_true,beq_iff_eq]at this
  exact this
 ·intro i o g want ho hg
  simp only[chkTmps,List.all_eq_true,List.mem_range]at h4
  have:=h4 i (hlt ho)
  rw[ho]at this
  simp only[hg,Bool.and_eq_true]at this
  exact this.1.1
 ·intro i j oi oj d hi hj hne hd hl
  simp only[chkTmps,List.all_eq_true,List.mem_range]at h4
  have:=h4 i (hlt hi)
  rw[hi]at this
  simp only[Bool.and_eq_true,List.all_eq_true,List.mem_range]at this
  have:=this.2 j (hlt hj)
  rw[hj]at this
  simp only[hd,Bool.or_eq_true,beq_iff_eq,hne,false_or,Bool.and_eq_true,Bool.not_eq_true']at this
  rcases this.1 with (h6|h6)|h6
  ·have:(oi.looksAt ops).contains d=true:=by simpa using hl
   rw[this]at h6;cases h6
  ·exact .inl h6
  ·exact .inr h6
 ·intro i o d ho hd ha
  simp only[chkTmps,List.all_eq_true,List.mem_range]at h4
  have:=h4 i (hlt ho)
  rw[ho]at this
  simp only[hd,Bool.and_eq_true]at this
  have:=this.1.2
  rw[ha]at this
  simpa using this
 ·intro i j oi oj d hi hj hne hd hl
  simp only[chkTmps,List.all_eq_true,List.mem_range]at h4
  have:=h4 i (hlt hi)
  rw[hi]at this
  simp only[Bool.and_eq_true,List.all_eq_true,List.mem_range]at this
  have:=this.2 j (hlt hj)
  rw[hj]at this
  simp only[hd,hl,Bool.or_eq_true,beq_iff_eq,hne,false_or,Bool.and_eq_true,bne_self_eq_false,Bool.false_eq_true]at this
  exact this.2
 ·intro pre i rest o hc ho j hj
  simpa using (hO pre i rest o hc ho).1 j hj
 ·intro pre i rest o hc ho ha
  exact (hO pre i rest o hc ho).2 ha
def Down(ops:Array Oper)(D:Array Bool):Prop:=∀ i o,ops[i]?=some o→D.getD i false=true→∀ j∈bindsAll o,D.getD j false=true
theorem Stat.chain{ops:Array Oper}{bf:Array Nat}{canon:List Nat}(S:Stat P ops bf canon){D:Array Bool}(hd:Down ops D):∀ (i j:Nat) (o:Oper),ops[i]?=some o→(∀ k∈bindsAll o,D.getD k false=true)→(bf.getD i 0).testBit j=true→j<ops.size→D.getD j false=true:=by
 intro i
 induction i using Nat.strongRecOn with
 |_ i ih =>
  intro j o ho hall hb hj
  obtain⟨k,hk,hki,h⟩:=S.tab i j o ho hb hj
  rcases h with rfl|h
  ·exact hall _ hk
  ·cases hok:ops[k]? with
   |none =>
    have:ops.size≤k:=by
     rcases Nat.lt_or_ge k ops.size with h'|h'
     ·rw[Array.getElem?_eq_getElem h']at hok;cases hok
     ·exact h'
    have:i<ops.size:=by
     rcases Nat.lt_or_ge i ops.size with h'|h'
     ·exact h'
     ·rw[Array.getElem?_eq_none h']at ho;cases ho
    omega
   |some ok=>exact ih k hki j ok hok (hd k ok hok (hall k hk)) h hj
theorem cread_new{s:St M}(hf:∀ b,s.next≤b→s.at' b=none)(B:Blk){ev:Operand→Value}{op:Op}{v:Value}(h:cread P ev s op=some v):cread P ev (s.new B) op=some v:=by
 have hat:∀ {b:Nat}{C:Blk},s.at' b=some C→(s.new B).at' b=some C:=by
  intro b C hb
  rw[St.at_new,if_neg]
  ·exact hb
  ·intro e;subst e;rw[hf _ (Nat.le_refl _)]at hb;cases hb
 cases op<;>simp only[cread]at h ⊢<;>(try (cases h;done))
 case load t x =>
  split at h
  ·rename_i a ha
   unfold cload at h ⊢
   split at h
   ·rename_i vs e own hb;rw[hat hb];exact h
   ·cases h
  ·cases h
 case lookup t m k ok =>
  unfold clookup at h ⊢
  split at h
  ·rename_i kt et hu
   simp only at h ⊢
   split at h
   ·rename_i hm;exact h
   ·rename_i r hm
    split at h
    ·rename_i es clock hb;simp only[hat hb];exact h
    ·cases h
   ·cases h
  ·cases h
 case binOp=>exact h
 case convert src d x =>
  split at h
  ·rename_i e a n c hs hd hx
   split at h
   ·rename_i vs et own he hb
    simp only[he,hat hb];exact h
   ·cases h
  ·exact h
  ·split at h
   ·rename_i vs e own hb
    simp only[hat hb];exact h
   ·cases h
  ·split at h
   ·rename_i vs e hb
    simp only[hat hb];exact h
   ·cases h
  ·cases h
 case slice t x lo hi mx =>
  cases mx with
  |some _=>cases h
  |none =>
   simp only[]at h ⊢
   split at h
   ·rename_i e a n c hu hx
    split at h
    ·rename_i ie hh hie hch
     split at h
     ·rename_i l vs et own hcl hb
      simp only[hcl,hat hb];exact h
     ·cases h
    ·cases h
   ·cases h
 case call c =>
  split at h
  ·rename_i hc
   split at h
   ·rename_i kt et r hu hx
    split at h
    ·rename_i es clock hb;simp only[hat hb];exact h
    ·cases h
   ·cases h
  ·cases h
theorem Stat.noLater{ops:Array Oper}{bf:Array Nat}{canon:List Nat}(S:Stat P ops bf canon){pre rest:List Nat}{k:Nat}(hc:canon=pre++k::rest)(hklt:k<ops.size) :
  ∀ (i:Nat) (oi:Oper),ops[i]?=some oi→i∈pre→(bf.getD i 0).testBit k=true→False:=by
 have hknot:k ∉ pre:=by
  intro h1
  have h2:=S.nodup
  rw[hc,List.nodup_append]at h2
  exact absurd rfl (h2.2.2 k h1 k (by simp))
 intro i
 induction i using Nat.strongRecOn with
 |_ i ih =>
  intro oi hoi hi hb
  obtain⟨m,hm,hmi,h3⟩:=S.tab i k oi hoi hb hklt
  obtain⟨p1,p2,hp⟩:=List.append_of_mem hi
  have hmp:=S.before p1 i (p2++k::rest) oi (by rw[hc,hp];simp) hoi m hm
  have hmpre:m∈pre:=by rw[hp];simp[hmp]
  rcases h3 with rfl|h3
  ·exact hknot hmpre
  ·cases hom:ops[m]? with
   |none =>
    have:m∈canon:=by rw[hc];simp[hmpre]
    have:=(S.mem m).1 this
    rw[Array.getElem?_eq_getElem this]at hom;cases hom
   |some om=>exact ih m hmi om hom hmpre h3
theorem put_eval{a:Act}{d:Tmp}{v:Value}{x:Operand}(h:x ≠ .tmp d):(a.put (some d) v).eval x=a.eval x:=by
 cases x with
 |tmp t =>
  have:d≠t:=fun e=>h (by rw[e])
  simp only[Act.put,Act.eval]
  rw[Array.getD_eq_getD_getElem?,Array.getElem?_setIfInBounds,if_neg this,← Array.getD_eq_getD_getElem?]
 |_=>rfl
theorem put_getD{a:Act}{d t:Tmp}{v:Value}(h:d≠t):(a.put (some d) v).tmps.getD t undef=a.tmps.getD t undef:=by
 have:=put_eval (a:=a) (d:=d) (v:=v) (x := .tmp t) (fun e=>h (by cases e;rfl))
 exact this
theorem put_size{a:Act}{d:Option Tmp}{v:Value}:(a.put d v).tmps.size=a.tmps.size:=by
 cases d<;>simp[Act.put]
theorem mem_looks_op{ops:Array Oper}{o:Oper}{d:Tmp}(h:(.tmp d)∈o.op.operands):d∈o.looksAt ops:=by
 simp only[Oper.looksAt,List.mem_append,List.mem_filterMap]
 exact .inl ⟨.tmp d,by simpa using h,rfl⟩
theorem mem_looks_guard{ops:Array Oper}{o:Oper}{j:Nat}{want:Bool}{d:Tmp}(hg:o.guard=some (j,want))(hd:(ops[j]?).bind (·.dst)=some d):d∈o.looksAt ops:=by
 simp only[Oper.looksAt,List.mem_append]
 right
 rw[hg]
 simp only
 rw[hd]
 simp
theorem cwanted_put{ops:Array Oper}{o:Oper}{a:Act}{d:Tmp}{v:Value}(h:d ∉ o.looksAt ops):cwanted ops o (a.put (some d) v).tmps=cwanted ops o a.tmps:=by
 unfold cwanted
 cases hg:o.guard with
 |none=>rfl
 |some g =>
  obtain⟨j,want⟩:=g
  simp only
  cases hd:(ops[j]?).bind (·.dst) with
  |none=>rfl
  |some e =>
   simp only
   have hne:d≠e:=fun he=>h (he▸mem_looks_guard hg hd)
   simp only[Act.put]
   rw[Array.getElem?_setIfInBounds,if_neg hne]
def Pend(P:Program)(ops:Array Oper)(o:Oper)(i:Nat)(fl:List (Fl M))(β:Nat→Option Nat)(ρ:Ren)(a:Act)(s:St M):Prop:=
 ∃ (ev0:Operand→Value) (val:Value),(∀ x∈o.op.operands,a.eval x=ev0 x)∧(∀ d,o.dst=some d→d<a.tmps.size→a.tmps.getD d undef=val) ∧
  ((cwanted ops o a.tmps=some false∧val=undef) ∨
   (cwanted ops o a.tmps=some true∧o.op.operands.all opOk=true ∧
   (cpure P ev0 o.type o.op=some val ∨
    (cread P ev0 s o.op=some val∧∃ f∈fl,f.i=i∧f.op=o.op∧f.ev=ev0∧f.v=some val) ∨
    (∃ B g b,calloc P ev0 o.op=some (B,g)∧β i=some b∧s.at' b=some B∧ρ b=none∧val=g b))))
theorem Pend.put{ops:Array Oper}{o:Oper}{i:Nat}{fl:List (Fl M)}{β:Nat→Option Nat}{ρ:Ren}{a:Act}{s:St M}(h:Pend P ops o i fl β ρ a s){d:Tmp}{v:Value}(hl:d ∉ o.looksAt ops)(hd:o.dst≠some d) :
  Pend P ops o i fl β ρ (a.put (some d) v) s:=by
 obtain⟨ev0,val,h1,h2,h3⟩:=h
 refine⟨ev0,val,fun x hx=>?_,fun e he hlt=>?_,?_⟩
 ·rw[put_eval,h1 x hx]
  intro e;subst e
  exact hl (mem_looks_op hx)
 ·rw[put_getD (fun e'=>hd (by rw[he,e']))]
  exact h2 e he (by rwa [put_size]at hlt)
 ·rw[cwanted_put hl];exact h3
structure DInv(P:Program)(w0:World)(dk:DK)(ops:Array Oper)(D:Array Bool)(pre:List Nat)(fl:List (Fl M))(β:Nat→Option Nat)(ρ:Ren)(a:Act)(s:St M)(a':Act)(w:World):Prop where
 rel:Rel P w0 ρ s w
 size:a.tmps.size=a'.tmps.size
 d:a.defers=[]
 d':DOk dk ρ a'.defers
 tm:∀ t,(∀ i∈pre,∀ o,ops[i]?=some o→D.getD i false=false→o.dst≠some t)→VRel ρ (a.tmps.getD t undef) (a'.tmps.getD t undef)
 pend:∀ i∈pre,D.getD i false=false→∃ o,ops[i]?=some o∧acts P o=false∧Pend P ops o i fl β ρ a s
 inj:∀ i j b,β i=some b→β j=some b→i=j
 blt:∀ i b,β i=some b→b<s.next
 bpre:∀ i b,β i=some b→i∈pre
variable {dk:DK}
theorem dinv_advance{ops:Array Oper}{bf:Array Nat}{canon:List Nat}(S:Stat P ops bf canon){D:Array Bool}{ρ:Ren}{a':Act}{w:World}{Q:Act→St M→Prop}(hDsz:D.size=ops.size)(hDown:Down ops D) :
  ∀ (rest pre:List Nat) (fl:List (Fl M)) (β:Nat→Option Nat) (a:Act) (s:St M),canon=pre++rest→cregionD P w0 ops bf Q rest fl a s→DInv P w0 dk ops D pre fl β ρ a s a' w→(∀ i,D.getD i false=true→i∈pre) →
   ∃ pre2 rest2 fl2 β2 a2 s2,canon=pre2++rest2∧cregionD P w0 ops bf Q rest2 fl2 a2 s2∧DInv P w0 dk ops D pre2 fl2 β2 ρ a2 s2 a' w∧(∀ i,D.getD i false=true→i∈pre2) ∧
    (∀ i r o,rest2=i::r→ops[i]?=some o→acts P o=true)∧Ext ρ s ρ s2∧(∀ i∈pre2,i∈pre∨∀ o,ops[i]?=some o→acts P o=false)∧(∀ i b,β2 i=some b→β i=some b∨s.next≤b):=by
 intro rest
 induction rest with
 |nil =>
  intro pre fl β a s hc h hI hD
  exact⟨pre,[],fl,β,a,s,hc,h,hI,hD,(fun i r o e=>by cases e),Ext.refl _ _,fun i hi => .inl hi,fun i b hb => .inl hb⟩
 |cons k rest ih =>
  intro pre fl β a s hc h hI hD
  cases hok:ops[k]? with
  |none=>simp only[cregionD,hok]at h
  |some o =>
   by_cases hact:acts P o=true
   ·refine⟨pre,k::rest,fl,β,a,s,hc,h,hI,hD,fun i r o2 e ho2=>?_,Ext.refl _ _,fun i hi => .inl hi,fun i b hb => .inl hb⟩
    cases e;rw[hok]at ho2;cases ho2;exact hact
   ·have hact:acts P o=false:=by simpa using hact
    have hkD:D.getD k false=false:=by
     cases hk:D.getD k false with
     |false=>rfl
     |true =>
      have h1:=hD k hk
      have h2:=S.nodup
      rw[hc,List.nodup_append]at h2
      exact absurd rfl (h2.2.2 k h1 k (by simp))
    have hklt:k<ops.size:=by
     rcases Nat.lt_or_ge k ops.size with h'|h'
     ·exact h'
     ·rw[Array.getElem?_eq_none h']at hok;cases hok
    have hknot:k ∉ pre:=by
     intro h1
     have h2:=S.nodup
     rw[hc,List.nodup_append]at h2
     exact absurd rfl (h2.2.2 k h1 k (by simp))
    have hfree:∀ i∈pre,∀ oi,ops[i]?=some oi→∀ d,o.dst=some d→d ∉ oi.looksAt ops∧oi.dst≠some d:=by
     intro i hi oi hoi d hd
     have hne:i≠k:=fun e=>hknot (e▸hi)
     refine⟨fun hl=>?_,fun he=>?_⟩
     ·rcases S.looks i k oi o d hoi hok hne hd hl with h1|⟨h1,_⟩
      ·exact S.noLater hc hklt i oi hoi hi h1
      ·rw[hact]at h1;cases h1
     ·have:=(S.dsts i k oi o d hoi hok hne hd he).2
      rw[hact]at this;cases this
    have hgo:∀ (v:Value) (s2:St M) (r:Option Value) (β2:Nat→Option Nat),cregionD P w0 ops bf Q rest (⟨k,o.op,a.eval,r⟩::fl) (a.put o.dst v) s2→Rel P w0 ρ s2 w→Ext ρ s ρ s2 →
      (∀ op ev0 r,cread P ev0 s op=some r→cread P ev0 s2 op=some r)→(∀ b,b<s.next→s2.at' b=s.at' b)→(∀ i∈pre,β2 i=β i)→(∀ i j b,β2 i=some b→β2 j=some b→i=j)→(∀ i b,β2 i=some b→b<s2.next)→(∀ i b,β2 i=some b→i∈pre ++ [k])→(∀ i b,β2 i=some b→β i=some b∨s.next≤b) →
      ((cwanted ops o a.tmps=some false∧v=undef)∨(cwanted ops o a.tmps=some true∧o.op.operands.all opOk=true ∧
       (cpure P a.eval o.type o.op=some v∨(cread P a.eval s2 o.op=some v∧r=some v)∨(∃ B g b,calloc P a.eval o.op=some (B,g)∧β2 k=some b∧s2.at' b=some B∧ρ b=none∧v=g b)))) →
      ∃ pre2 rest2 fl2 β3 a2 s2,canon=pre2++rest2∧cregionD P w0 ops bf Q rest2 fl2 a2 s2∧DInv P w0 dk ops D pre2 fl2 β3 ρ a2 s2 a' w∧(∀ i,D.getD i false=true→i∈pre2) ∧
       (∀ i r o,rest2=i::r→ops[i]?=some o→acts P o=true)∧Ext ρ s ρ s2∧(∀ i∈pre2,i∈pre∨∀ o,ops[i]?=some o→acts P o=false)∧(∀ i b,β3 i=some b→β i=some b∨s.next≤b):=by
     intro v s2 r β2 h2 hR2 hE2 hrd hat hβ hinj hblt hbpre hnew hk
     have hI2:DInv P w0 dk ops D (pre ++ [k]) (⟨k,o.op,a.eval,r⟩::fl) β2 ρ (a.put o.dst v) s2 a' w:=by
      refine⟨hR2,by rw[put_size];exact hI.size,?_,hI.d',fun t ht=>?_,fun i hi hun=>?_,hinj,hblt,hbpre⟩
      ·unfold Act.put;split<;>exact hI.d
      ·have h3:=hI.tm t (fun i hi oi hoi hun=>ht i (by simp[hi]) oi hoi hun)
       have h4:=ht k (by simp) o hok hkD
       cases hd:o.dst with
       |none=>exact h3
       |some d =>
        rw[put_getD (fun e=>h4 (by rw[hd,e]))]
        exact h3
      ·rcases List.mem_append.1 hi with hi|hi
       ·obtain⟨oi,hoi,ha,hp⟩:=hI.pend i hi hun
        refine⟨oi,hoi,ha,?_⟩
        have hp2:Pend P ops oi i (⟨k,o.op,a.eval,r⟩::fl) β2 ρ a s2:=by
         obtain⟨ev0,val,h1,h2,h3⟩:=hp
         refine⟨ev0,val,h1,h2,?_⟩
         rcases h3 with h3|⟨h3,h4,h5⟩
         ·exact .inl h3
         ·refine .inr ⟨h3,h4,?_⟩
          rcases h5 with h5|⟨h5,f,hf,h6⟩|⟨B,g,b,h5,h6,h7,h8,h9⟩
          ·exact .inl h5
          ·exact .inr (.inl ⟨hrd _ _ _ h5,f,by simp[hf],h6⟩)
          ·exact .inr (.inr ⟨B,g,b,h5,by rw[hβ i hi];exact h6,by rw[hat b (hI.blt i b h6)];exact h7,h8,h9⟩)
        cases hd:o.dst with
        |none=>exact hp2
        |some d=>exact hp2.put (hfree i hi oi hoi d hd).1 (hfree i hi oi hoi d hd).2
       ·simp only[List.mem_singleton]at hi
        subst hi
        refine⟨o,hok,hact,a.eval,v,fun x hx=>?_,fun d hd hlt=>?_,?_⟩
        ·cases hd:o.dst with
         |none=>rfl
         |some d =>
          rw[put_eval]
          intro e;subst e
          exact S.self i o d hok hd hact (mem_looks_op hx)
        ·rw[put_size]at hlt
         rw[hd]
         simp only[Act.put]
         rw[Array.getD_eq_getD_getElem?,Array.getElem?_setIfInBounds,if_pos rfl,if_pos hlt]
         rfl
        ·have hw:cwanted ops o (a.put o.dst v).tmps=cwanted ops o a.tmps:=by
          cases hd:o.dst with
          |none=>rfl
          |some d=>exact cwanted_put (S.self i o d hok hd hact)
         rw[hw]
         rcases hk with hk|⟨hk1,hk2,hk3⟩
         ·exact .inl hk
         ·refine .inr ⟨hk1,hk2,?_⟩
          rcases hk3 with hk3|⟨hk3,rfl⟩|hk3
          ·exact .inl hk3
          ·exact .inr (.inl ⟨hk3,⟨i,o.op,a.eval,some v⟩,by simp,rfl,rfl,rfl,rfl⟩)
          ·exact .inr (.inr hk3)
     obtain⟨pre2,rest2,fl2,β3,a2,s3,g1,g2,g3,g4,g5,g6,g7,g8⟩:=ih (pre ++ [k]) _ β2 (a.put o.dst v) s2 (by rw[hc];simp) h2 hI2 (fun i hi=>by simp[hD i hi])
     refine⟨pre2,rest2,fl2,β3,a2,s3,g1,g2,g3,g4,g5,hE2.trans g6,fun i hi=>?_,fun i b hb=>(g8 i b hb).elim (fun h=>hnew i b h) (fun h => .inr (Nat.le_trans hE2.next h))⟩
     rcases g7 i hi with g7|g7
     ·rcases List.mem_append.1 g7 with g7|g7
      ·exact .inl g7
      ·simp only[List.mem_singleton]at g7
       subst g7
       exact .inr fun o2 ho2=>by rw[hok]at ho2;cases ho2;exact hact
     ·exact .inr g7
    have hβk:∀ i b,β i=some b→i∈pre ++ [k]:=fun i b hb=>by simp[hI.bpre i b hb]
    simp only[cregionD,hok]at h
    split at h
    ·exact h.elim
    ·rename_i hw
     rw[hact]at h
     simp only[Bool.false_eq_true,if_false]at h
     exact hgo undef s none β h hI.rel (Ext.refl _ _) (fun _ _ _ h=>h) (fun _ _=>rfl) (fun _ _=>rfl) hI.inj hI.blt hβk (fun _ _ h => .inl h) (.inl ⟨hw,rfl⟩)
    ·rename_i hw
     split at h
     case h_2=>exact h.elim
     rename_i hop
     rw[hact]at h
     simp only[Bool.false_eq_true,if_false]at h
     rcases h with ⟨v,h1,h⟩|⟨v,h2,h⟩|⟨B,g,h3,h⟩
     ·exact hgo v s none β h hI.rel (Ext.refl _ _) (fun _ _ _ h=>h) (fun _ _=>rfl) (fun _ _=>rfl) hI.inj hI.blt hβk (fun _ _ h => .inl h) (.inr ⟨hw,hop,.inl h1⟩)
     ·exact hgo v s (some v) β h hI.rel (Ext.refl _ _) (fun _ _ _ h=>h) (fun _ _=>rfl) (fun _ _=>rfl) hI.inj hI.blt hβk (fun _ _ h => .inl h) (.inr ⟨hw,hop,.inr (.inl ⟨h2,rfl⟩)⟩)
     ·(
        have hne:∀ i b,β i=some b→b≠s.next:=fun i b hb=>by have:=hI.blt i b hb;omega
        refine hgo (g s.next) (s.new B) none (fun i=>if i=k then some s.next else β i) h (hI.rel.new B) (Ext.new ρ s B) (fun op ev0 r hr=>cread_new hI.rel.fresh B hr)
         (fun b hb=>by rw[St.at_new,if_neg oM]) (fun i hi=>by show (if i=k then some s.next else β i)=β i;rw[if_neg];intro e;subst e;exact hknot hi) ?_ ?_ ?_ ?_ (.inr ⟨hw,hop,.inr (.inr ⟨B,g,s.next,h3,by simp,by simp,hI.rel.none_next (Nat.le_refl _),rfl⟩)⟩)
        ·intro i j b hi hj
         change (if i=k then some s.next else β i)=some b at hi
         change (if j=k then some s.next else β j)=some b at hj
         split at hi
         ·split at hj
          ·rename_i e1 e2;rw[e1,e2]
          ·cases hi;exact absurd rfl (hne _ _ hj)
         ·split at hj
          ·cases hj;exact absurd rfl (hne _ _ hi)
          ·exact hI.inj _ _ _ hi hj
        ·intro i b hi
         change (if i=k then some s.next else β i)=some b at hi
         split at hi
         ·cases hi;simp
         ·have:=hI.blt _ _ hi;simp;omega
        ·intro i b hi
         change (if i=k then some s.next else β i)=some b at hi
         split at hi
         ·rename_i e;subst e;simp
         ·exact hβk _ _ hi
        ·intro i b hi
         change (if i=k then some s.next else β i)=some b at hi
         split at hi
         ·cases hi;exact .inr (Nat.le_refl _)
         ·exact .inl hi)
end
end Go.Cs
namespace Go.Cs
def cnt(D:Array Bool):Nat→Nat
 |0=>0
 |n+1=>cnt D n+(if D.getD n false then 0 else 1)
theorem cnt_le{D D':Array Bool}(h:∀ j,D.getD j false=true→D'.getD j false=true):∀ n,cnt D' n≤cnt D n:=by
 intro n
 induction n with
 |zero=>simp[cnt]
 |succ n ih =>
  simp only[cnt]
  have:=h n
  cases h1:D.getD n false<;>cases h2:D'.getD n false<;>simp_all<;>omega
theorem cnt_lt{D D':Array Bool}(h:∀ j,D.getD j false=true→D'.getD j false=true){i:Nat}(hi:D.getD i false=false)(hi':D'.getD i false=true):∀ n,i<n→cnt D' n<cnt D n:=by
 intro n
 induction n with
 |zero=>intro hn;omega
 |succ n ih =>
  intro hn
  simp only[cnt]
  by_cases e:i=n
  ·subst e
   rw[hi,hi']
   have:=cnt_le h i
   simp;omega
  ·have:=ih oM
   have:=h n
   cases h1:D.getD n false<;>cases h2:D'.getD n false<;>simp_all<;>omega
theorem cnt_zero{D:Array Bool}:∀ n,cnt D n=0→∀ j,j<n→D.getD j false=true:=by
 intro n
 induction n with
 |zero=>intro _ j hj;omega
 |succ n ih =>
  intro h j hj
  simp only[cnt]at h
  by_cases e:j=n
  ·subst e
   cases h1:D.getD j false with
   |true=>rfl
   |false=>rw[h1]at h;simp at h
  ·exact ih oM j oM
theorem getD_set_same{D:Array Bool}{i:Nat}(h:i<D.size):(D.setIfInBounds i true).getD i false=true:=by
 rw[Array.getD_eq_getD_getElem?,Array.getElem?_setIfInBounds,if_pos rfl,if_pos h];rfl
section
variable {M:Type}[Mem M]{P:Program}{w0:World}
def DPost(P:Program)(w0:World)(dk:DK)(ρ0:Ren)(s0:St M)(Q:Act→St M→Prop):Exit→Act→World→Prop:=fun e a2' w2 =>
 e = .normal∧∃ a2 s2 ρ2,Q a2 s2∧Rel P w0 ρ2 s2 w2∧ActRel dk ρ2 a2 a2'∧Ext ρ0 s0 ρ2 s2
theorem draw_any{dk:DK}{ops:Array Oper}{bf:Array Nat}{canon:List Nat}(S:Stat P ops bf canon){ρ0:Ren}{s0:St M}{Q:Act→St M→Prop} :
  ∀ (fuel:Nat) (D:Array Bool) (pre rest:List Nat) (fl:List (Fl M)) (β:Nat→Option Nat) (ρ:Ren) (a:Act) (s:St M) (a':Act) (w:World),
   canon=pre++rest→D.size=ops.size→cnt D ops.size≤fuel→Down ops D→(∀ i,D.getD i false=true→i∈pre)→(∀ i r o,rest=i::r→ops[i]?=some o→acts P o=true) →
   cregionD P w0 ops bf Q rest fl a s→DInv P w0 dk ops D pre fl β ρ a s a' w→Ext ρ0 s0 ρ s→(∀ i b,β i=some b→s0.next≤b)→wpAnyIn (rF dk.ro) 0 P .any ops (DPost P w0 dk ρ0 s0 Q) fuel D a' w:=by
 have hend:∀ (D:Array Bool) (pre rest:List Nat) (fl:List (Fl M)) (β:Nat→Option Nat) (ρ:Ren) (a:Act) (s:St M) (a':Act) (w:World),
   canon=pre++rest→(∀ i,D.getD i false=true→i∈pre)→cregionD P w0 ops bf Q rest fl a s→DInv P w0 dk ops D pre fl β ρ a s a' w→Ext ρ0 s0 ρ s→(∀ i,i<ops.size→D.getD i false=true) →
   DPost P w0 dk ρ0 s0 Q .normal a' w:=by
  intro D pre rest fl β ρ a s a' w hc hD h hI hE hall
  have hr:rest=[]:=by
   cases rest with
   |nil=>rfl
   |cons k r =>
    have hk:k∈canon:=by rw[hc];simp
    have h1:=hD k (hall k ((S.mem k).1 hk))
    have h2:=S.nodup
    rw[hc,List.nodup_append]at h2
    exact absurd rfl (h2.2.2 k h1 k (by simp))
  subst hr
  refine⟨rfl,a,s,ρ,h,hI.rel,⟨⟨hI.size,fun t ht=>hI.tm t fun i hi o ho hun=>?_⟩,hI.d,hI.d'⟩,hE⟩
  have hi2:i∈canon:=by rw[hc];simp[hi]
  have:=hall i ((S.mem i).1 hi2)
  rw[this]at hun;cases hun
 intro fuel
 induction fuel with
 |zero =>
  intro D pre rest fl β ρ a s a' w hc hsz hcnt hDown hD hhead h hI hE hβ
  have hall:=cnt_zero ops.size (by omega:cnt D ops.size=0)
  refine⟨?_,hend D pre rest fl β ρ a s a' w hc hD h hI hE hall⟩
  cases hr:Region.ready .any ops D with
  |nil=>rfl
  |cons j l =>
   have hj:j∈Region.ready .any ops D:=by rw[hr];simp
   obtain⟨h1,o,ho,_⟩:=mem_ready.1 hj
   have hjlt:j<ops.size:=by
    rcases Nat.lt_or_ge j ops.size with h'|h'
    ·exact h'
    ·rw[Array.getElem?_eq_none h']at ho;cases ho
   have h2:=hall j hjlt
   have:j<D.size:=oM
   simp only[Array.getD,this,dif_pos]at h1 h2
   rw[h2]at h1;cases h1
 |succ fuel ih =>
  intro D pre rest fl β ρ a s a' w hc hsz hcnt hDown hD hhead h hI hE hβ
  refine⟨fun hr=>?_,fun i hi=>?_⟩
  ·
   refine hend D pre rest fl β ρ a s a' w hc hD h hI hE ?_
   have key:∀ n,∀ i∈canon.take n,D.getD i false=true:=by
    intro n
    induction n with
    |zero=>intro i hi;simp at hi
    |succ n ihn =>
     intro i hi
     rcases Nat.lt_or_ge n canon.length with hn|hn
     ·rw[List.take_succ_eq_append_getElem hn,List.mem_append,List.mem_singleton]at hi
      rcases hi with hi|hi
      ·exact ihn i hi
      ·subst hi
       cases hun:D.getD canon[n] false with
       |true=>rfl
       |false =>
        have hlt:canon[n] < ops.size:=(S.mem _).1 (List.getElem_mem hn)
        have ho:ops[canon[n]]?=some ops[canon[n]]:=by simp
        have:canon[n]∈Region.ready .any ops D:=by
         rw[mem_ready]
         refine⟨?_,ops[canon[n]],ho,fun e he hb=>?_⟩
         ·have:canon[n] < D.size:=oM
          simp only[Array.getD,this,dif_pos]at hun ⊢
          exact hun
         ·refine ihn _ (S.before (canon.take n) canon[n] (canon.drop (n+1)) _ ?_ ho _ ?_)
          ·rw[← List.drop_eq_getElem_cons hn,List.take_append_drop]
          ·simp only[bindsAll,List.mem_map,List.mem_filter]
           exact⟨e,⟨by simpa using he,hb⟩,rfl⟩
        rw[hr]at this;cases this
     ·rw[List.take_of_length_le oM]at hi
      exact ihn i (by rw[List.take_of_length_le hn];exact hi)
   intro i hi
   exact key canon.length i (by rw[List.take_length];exact (S.mem i).2 hi)
  ·
   obtain⟨hun0,o,ho,hall0⟩:=mem_ready.1 hi
   have hilt:i<ops.size:=by
    rcases Nat.lt_or_ge i ops.size with h'|h'
    ·exact h'
    ·rw[Array.getElem?_eq_none h']at ho;cases ho
   have hiD:i<D.size:=oM
   have hun:D.getD i false=false:=by
    simp only[Array.getD,hiD,dif_pos]at hun0 ⊢;exact hun0
   have hall:∀ k∈bindsAll o,D.getD k false=true:=by
    intro k hk
    simp only[bindsAll,List.mem_map,List.mem_filter]at hk
    obtain⟨e,⟨he,hb⟩,rfl⟩:=hk
    exact hall0 e (by simpa using he) hb
   have hchain:∀ j,(bf.getD i 0).testBit j=true→j<ops.size→D.getD j false=true:=fun j hb hj=>S.chain hDown i j o ho hall hb hj
   have hlooks:∀ t,t∈o.looksAt ops→VRel ρ (a.tmps.getD t undef) (a'.tmps.getD t undef):=by
    intro t ht
    refine hI.tm t fun j hj oj hoj hunj he=>?_
    obtain⟨oj',hoj',hactj,_⟩:=hI.pend j hj hunj
    rw[hoj]at hoj';cases hoj'
    have hjlt:j<ops.size:=(S.mem j).1 (by rw[hc];simp[hj])
    by_cases e:i=j
    ·subst e
     rw[ho]at hoj;cases hoj
     exact S.self i o t ho he hactj ht
    ·rcases S.looks i j o oj t ho hoj e he ht with h1|⟨h1,_⟩
     ·rw[hchain j h1 hjlt]at hunj;cases hunj
     ·rw[hactj]at h1;cases h1
   have hops:o.op.operands.all opOk=true→∀ x∈o.op.operands,VRel ρ (a.eval x) (a'.eval x):=by
    intro hk x hx
    rw[Array.all_eq_true_iff_forall_mem]at hk
    cases x with
    |tmp t=>exact hlooks t (mem_looks_op hx)
    |const v=>exact VRel.of_plain 6 (hk _ hx)
    |global g=>have:=hk _ hx;simp[opOk]at this
    |func f=>exact .func _ (by simp) rfl (fun i hi=>by simp at hi) rfl (fun i hi=>by simp at hi)
   have hwant:∀ b,cwanted ops o a.tmps=some b→Region.wanted o (yielded ops a'.tmps)=b:=by
    intro b hb
    exact cwanted_sound hb (fun j want d hg hd _=>hlooks d (mem_looks_guard hg hd)) hI.size
   have hmono:∀ j,D.getD j false=true→(D.setIfInBounds i true).getD j false=true:=by
    intro j hj
    by_cases e:i=j
    ·subst e;exact getD_set_same hiD
    ·rw[getD_set_ne false e];exact hj
   have hself:(D.setIfInBounds i true).getD i false=true:=getD_set_same hiD
   have hne:∀ j,i≠j→(D.setIfInBounds i true).getD j false=D.getD j false:=fun j e=>getD_set_ne false e
   have hcnt':cnt (D.setIfInBounds i true) ops.size≤fuel:=by
    have:=cnt_lt hmono hun hself ops.size hilt
    omega
   have hDown':Down ops (D.setIfInBounds i true):=by
    intro j oj hoj hj k hk
    by_cases e:i=j
    ·subst e;rw[ho]at hoj;cases hoj;exact hmono k (hall k hk)
    ·rw[hne j e]at hj;exact hmono k (hDown j oj hoj hj k hk)
   have hsz':(D.setIfInBounds i true).size=ops.size:=by simpa using hsz
   unfold wpOpIn
   rw[ho]
   simp only
   by_cases hact:acts P o=true
   ·
    have hirest:∃ r,rest=i::r:=by
     have hic:i∈canon:=(S.mem i).2 hilt
     rw[hc,List.mem_append]at hic
     rcases hic with hic|hic
     ·obtain⟨oi,hoi,ha,_⟩:=hI.pend i hic hun
      rw[ho]at hoi;cases hoi
      rw[hact]at ha;cases ha
     ·cases rest with
      |nil=>cases hic
      |cons k r =>
       rcases List.mem_cons.1 hic with rfl|hic
       ·exact⟨r,rfl⟩
       ·
        have hk:k<ops.size:=(S.mem k).1 (by rw[hc];simp)
        have hok:ops[k]?=some ops[k]:=by simp
        have hka:=hhead k r _ rfl hok
        have hb:=S.later pre k r _ hc hok hka i hic
        have hkD:=hchain k hb hk
        have h2:=S.nodup
        rw[hc,List.nodup_append]at h2
        exact absurd rfl (h2.2.2 k (hD k hkD) k (by simp))
    obtain⟨r,rfl⟩:=hirest
    simp only[cregionD,ho]at h
    have hinot:i ∉ pre:=by
     intro h1
     have h2:=S.nodup
     rw[hc,List.nodup_append]at h2
     exact absurd rfl (h2.2.2 i h1 i (by simp))
    have hnext:∀ (v v':Value) (s':St M) (w':World) (ρ':Ren),cregionD P w0 ops bf Q r fl (a.put o.dst v) s'→(∀ f∈fl,(bf.getD i 0).testBit f.i=false→f.still P s→f.still P s')→VRel ρ' v v'→Rel P w0 ρ' s' w'→Ext ρ s ρ' s' →
      wpAnyIn (rF dk.ro) 0 P .any ops (DPost P w0 dk ρ0 s0 Q) fuel (D.setIfInBounds i true) (a'.put o.dst v') w':=by
     intro v v' s' w' ρ' h2 hstill hv hR2 hE2
     have hI2:DInv P w0 dk ops (D.setIfInBounds i true) (pre ++ [i]) fl β ρ' (a.put o.dst v) s' (a'.put o.dst v') w':=by
      refine⟨hR2,by rw[put_size,put_size];exact hI.size,?_,?_,fun t ht=>?_,fun j hj hunj=>?_,hI.inj,fun j b hb=>Nat.lt_of_lt_of_le (hI.blt j b hb) hE2.next,fun j b hb=>by simp[hI.bpre j b hb]⟩
      ·unfold Act.put;split<;>exact hI.d
      ·unfold Act.put;split<;>exact hI.d'.mono hE2.le
      ·have hold:o.dst≠some t→VRel ρ' ((a.put o.dst v).tmps.getD t undef) ((a'.put o.dst v').tmps.getD t undef):=by
        intro hdt
        have h3:=(hI.tm t (fun j hj oj hoj hunj=>ht j (by simp[hj]) oj hoj (by
         rw[hne j]
         ·exact hunj
         ·intro e;subst e;exact hinot hj))).mono hE2.le
        cases hd:o.dst with
        |none=>exact h3
        |some d =>
         have:d≠t:=fun e=>hdt (by rw[hd,e])
         rw[put_getD this,put_getD this];exact h3
       by_cases e:o.dst=some t
       ·rw[e]
        simp only[Act.put]
        rw[Array.getD_eq_getD_getElem?,Array.getElem?_setIfInBounds,if_pos rfl,Array.getD_eq_getD_getElem?,Array.getElem?_setIfInBounds,if_pos rfl,hI.size]
        split
        ·exact hv
        ·exact VRel.undef _
       ·exact hold e
      ·rcases List.mem_append.1 hj with hj|hj
       ·have hji:i≠j:=fun e=>hinot (e▸hj)
        rw[hne j hji]at hunj
        obtain⟨oj,hoj,haj,hp⟩:=hI.pend j hj hunj
        have hjlt:j<ops.size:=(S.mem j).1 (by rw[hc];simp[hj])
        have hbij:(bf.getD i 0).testBit j=false:=by
         cases hb:(bf.getD i 0).testBit j with
         |false=>rfl
         |true=>rw[hchain j hb hjlt]at hunj;cases hunj
        refine⟨oj,hoj,haj,?_⟩
        have hp2:Pend P ops oj j fl β ρ' a s':=by
         obtain⟨ev0,val,h1,h2,h3⟩:=hp
         refine⟨ev0,val,h1,h2,?_⟩
         rcases h3 with h3|⟨h3,h4,h5⟩
         ·exact .inl h3
         ·refine .inr ⟨h3,h4,?_⟩
          rcases h5 with h5|⟨h5,f,hf,h6,h7,h8,h9⟩|⟨B,g,b,h5,h6,h7,h8,h9⟩
          ·exact .inl h5
          ·have:=hstill f hf (by rw[h6];exact hbij) (by unfold Fl.still;rw[h9,h8,h7];exact h5)
           unfold Fl.still at this
           rw[h9,h8,h7]at this
           exact .inr (.inl ⟨this,f,hf,h6,h7,h8,h9⟩)
          ·exact .inr (.inr ⟨B,g,b,h5,h6,by rw[hE2.unr b (hI.blt j b h6) h8];exact h7,by rw[hE2.old b (hI.blt j b h6)];exact h8,h9⟩)
        cases hd:o.dst with
        |none=>exact hp2
        |some d =>
         refine hp2.put (fun hl=>?_) (fun he=>?_)
         ·rcases S.looks j i oj o d hoj ho (Ne.symm hji) hd hl with h1|⟨_,h1⟩
          ·exact S.noLater hc hilt j oj hoj hj h1
          ·rw[hbij]at h1;cases h1
         ·have:=(S.dsts j i oj o d hoj ho (Ne.symm hji) hd he).1
          rw[haj]at this;cases this
       ·simp only[List.mem_singleton]at hj
        subst hj
        rw[hself]at hunj;cases hunj
     have hD2:∀ j,(D.setIfInBounds i true).getD j false=true→j∈pre ++ [i]:=by
      intro j hj
      by_cases e:i=j
      ·subst e;simp
      ·rw[hne j e]at hj;simp[hD j hj]
     obtain⟨pre2,rest2,fl2,β2,a2,s2,g1,g2,g3,g4,g5,g6,g7,g8⟩:=dinv_advance S hsz' hDown' r (pre ++ [i]) fl β (a.put o.dst v) s' (by rw[hc];simp) h2 hI2 hD2
     refine ih (D.setIfInBounds i true) pre2 rest2 fl2 β2 ρ' a2 s2 _ w' g1 hsz' hcnt' hDown' g4 g5 g2 g3 ((hE.trans hE2).trans g6) (fun j b hb=>?_)
     rcases g8 j b hb with g8|g8
     ·exact hβ j b g8
     ·have:=hE.next;have:=hE2.next;omega
    split at h
    ·exact h.elim
    ·rename_i hw
     rw[hwant _ hw]
     simp only[Bool.false_eq_true,if_false]
     rw[hact]at h
     simp only[if_true]at h
     refine⟨fun _ _=>trivial,?_⟩
     exact hnext undef undef s w ρ h (fun f hf hb hs=>hs) (VRel.undef _) hI.rel (Ext.refl _ _)
    ·rename_i hw
     rw[hwant _ hw]
     simp only[if_true]
     split at h
     case h_2=>exact h.elim
     rename_i hop
     rw[hact]at h
     simp only[if_true]at h
     refine cstep_sound h hI.rel (hops hop) ?_ dk.ro
     intro v s' v' w' ρ' hk hv hR2 hE2
     obtain⟨hk1,hk2⟩:=stillAll_spec _ hk
     exact hnext v v' s' w' ρ' hk1 (fun f hf hb _=>hk2 f (List.mem_filter.2 ⟨hf,by rw[hb];rfl⟩)) hv hR2 hE2
   ·
    have hact:acts P o=false:=by simpa using hact
    have hipre:i∈pre:=by
     have hic:i∈canon:=(S.mem i).2 hilt
     rw[hc,List.mem_append]at hic
     rcases hic with hic|hic
     ·exact hic
     ·exfalso
      cases rest with
      |nil=>cases hic
      |cons k r =>
       have hk:k<ops.size:=(S.mem k).1 (by rw[hc];simp)
       have hok:ops[k]?=some ops[k]:=by simp
       have hka:=hhead k r _ rfl hok
       rcases List.mem_cons.1 hic with e|hic
       ·subst e
        rw[ho]at hok;cases hok
        rw[hka]at hact;cases hact
       ·have hb:=S.later pre k r _ hc hok hka i hic
        have hkD:=hchain k hb hk
        have h2:=S.nodup
        rw[hc,List.nodup_append]at h2
        exact absurd rfl (h2.2.2 k (hD k hkD) k (by simp))
    obtain⟨oi,hoi,_,ev0,val,g1,g2,g3⟩:=hI.pend i hipre hun
    rw[ho]at hoi;cases hoi
    have hnext:∀ (v':Value) (w':World) (ρ':Ren),VRel ρ' val v'→Rel P w0 ρ' s w'→ρ.le ρ'→Ext ρ0 s0 ρ' s→(∀ j b,j≠i→β j=some b→ρ b=none→ρ' b=none) →
      wpAnyIn (rF dk.ro) 0 P .any ops (DPost P w0 dk ρ0 s0 Q) fuel (D.setIfInBounds i true) (a'.put o.dst v') w':=by
     intro v' w' ρ' hv hR2 hle hE2 hnone
     refine ih (D.setIfInBounds i true) pre rest fl β ρ' a s (a'.put o.dst v') w' hc hsz' hcnt' hDown' (fun j hj=>?_) hhead h ⟨hR2,by rw[put_size];exact hI.size,hI.d,?_,fun t ht=>?_,fun j hj hunj=>?_,hI.inj,hI.blt,hI.bpre⟩ hE2 hβ
     ·by_cases e:i=j
      ·subst e;exact hipre
      ·rw[hne j e]at hj;exact hD j hj
     ·unfold Act.put;split<;>exact hI.d'.mono hle
     ·by_cases e:o.dst=some t
      ·rw[e]
       simp only[Act.put]
       rw[Array.getD_eq_getD_getElem? (xs:=a'.tmps.setIfInBounds t v'),Array.getElem?_setIfInBounds,if_pos rfl]
       by_cases hlt:t<a.tmps.size
       ·rw[if_pos (by rw[← hI.size];exact hlt),g2 t e hlt];exact hv
       ·rw[if_neg (by rw[← hI.size];exact hlt)]
        have:a.tmps.getD t undef=undef:=by simp[Array.getD,hlt]
        rw[this];exact VRel.undef _
      ·have h3:=(hI.tm t (fun j hj oj hoj hunj=>by
        by_cases e2:i=j
        ·subst e2;rw[ho]at hoj;cases hoj;exact e
        ·exact ht j hj oj hoj (by rw[hne j e2];exact hunj))).mono hle
       cases hd:o.dst with
       |none=>exact h3
       |some d =>
        have:d≠t:=fun e2=>e (by rw[hd,e2])
        rw[put_getD this];exact h3
     ·have hji:i≠j:=by intro e;subst e;rw[hself]at hunj;cases hunj
      rw[hne j hji]at hunj
      obtain⟨oj,hoj,haj,ev1,val1,f1,f2,f3⟩:=hI.pend j hj hunj
      refine⟨oj,hoj,haj,ev1,val1,f1,f2,?_⟩
      rcases f3 with f3|⟨f3,f4,f5⟩
      ·exact .inl f3
      ·refine .inr ⟨f3,f4,?_⟩
       rcases f5 with f5|f5|⟨B,g,b,f5,f6,f7,f8,f9⟩
       ·exact .inl f5
       ·exact .inr (.inl f5)
       ·exact .inr (.inr ⟨B,g,b,f5,f6,f7,hnone j b (Ne.symm hji) f6 f8,f9⟩)
    rcases g3 with ⟨hw,rfl⟩|⟨hw,hop,g3⟩
    ·rw[hwant _ hw]
     simp only[Bool.false_eq_true,if_false]
     refine⟨fun _ _=>trivial,?_⟩
     exact hnext undef w ρ (VRel.undef _) hI.rel ρ.le_refl hE (fun _ _ _ _ h=>h)
    ·rw[hwant _ hw]
     simp only[if_true]
     have hev:∀ x∈o.op.operands,VRel ρ (ev0 x) (a'.eval x):=by
      intro x hx
      rw[← g1 x hx]
      exact hops hop x hx
     have hnd:∀ c,o.op ≠ .defer c:=by
      intro c hc
      rcases g3 with g3|⟨g3,_⟩|⟨B,g,b,g3,_⟩
      ·rw[hc]at g3;simp[cpure]at g3
      ·rw[hc]at g3;simp[cread]at g3
      ·rw[hc]at g3;simp[calloc]at g3
     refine⟨fun _ _=>trivial,?_⟩
     rw[Oper.semAt_plain _ _ _ hnd]
     rcases g3 with g3|⟨g3,_⟩|⟨B,g,b,g3,g4,g5,g6,rfl⟩
     ·obtain⟨v',h1,h2⟩:=cpure_sound (ev':=a'.eval) g3 hev w
      rw[h1]
      exact hnext v' w ρ h2 hI.rel ρ.le_refl hE (fun _ _ _ _ h=>h)
     ·obtain⟨v',h1,h2⟩:=cread_sound (ev':=a'.eval) g3 hI.rel hev
      rw[h1]
      exact hnext v' w ρ h2 hI.rel ρ.le_refl hE (fun _ _ _ _ h=>h)
     ·obtain⟨obj,bi,n,v',h1,h2,hk0,h3⟩:=calloc_sound (ev':=a'.eval) (w:=w) g3 hev (fun _=>trivial)
      obtain⟨h4,h5⟩:=h3 b g6
      have hR2:=(hI.rel.drew n).place (hI.blt i b g4) g6 g5 h2 h4 (.inl hk0)
      rw[h1]
      refine hnext v' _ (ρ.add b bi) h5 hR2 (Ren.le_add g6) ?_ (fun j b' hji hb' hn=>?_)
      ·have hb0:=hβ i b g4
       exact⟨fun x y hx=>Ren.le_add g6 _ _ (hE.le _ _ hx),fun x hx=>by unfold Ren.add;rw[if_neg oM];exact hE.old x hx,hE.next,hE.unr⟩
      ·unfold Ren.add
       rw[if_neg]
       ·exact hn
       ·intro e;subst e;exact hji (hI.inj _ _ _ hb' g4)
theorem cwp_regionD{id:Nat}{ops:Array Oper}{canon:List Nat}{Q:Exit→Act→St M→Prop}{a:Act}{s:St M}(hm:P.follows .mixedOrders=true)(hc:drawOk P ops canon=true)
  (h:cregionD P w0 ops (Region.before ops) (fun a s=>Q .normal a s) canon [] a s):CWp P w0 (.region id ops true) Q a s:=by
 intro dk ρ a' w hR ha hb
 have S:=stat_of hc
 refine wpIn_mono (wpIn_region_any hm (Q:=DPost P w0 dk ρ s (fun a s=>Q .normal a s)) ?_) ?_
 ·have hRd:=hR.drew (w.drawn+1)
  have hfalse:∀ i,(Array.replicate ops.size false).getD i false=false:=by
   intro i
   rw[Array.getD_eq_getD_getElem?,Array.getElem?_replicate]
   split<;>rfl
  have hI:DInv P w0 dk ops (Array.replicate ops.size false) [] [] (fun _=>none) ρ a s a' { w with drawn:=w.drawn+1 }:=
   ⟨hRd,ha.tmps.1,ha.d,ha.d',fun t _=>ha.tmps.getD t,fun i hi=>(by cases hi),fun _ _ _ h=>(by cases h),fun _ _ h=>(by cases h),fun _ _ h=>(by cases h)⟩
  have hdown:Down ops (Array.replicate ops.size false):=fun i o _ hi=>by rw[hfalse i]at hi;cases hi
  have hD:∀ i,(Array.replicate ops.size false).getD i false=true→i∈([]:List Nat):=fun i hi=>by rw[hfalse i]at hi;cases hi
  obtain⟨pre2,rest2,fl2,β2,a2,s2,g1,g2,g3,g4,g5,g6,g7,g8⟩:=dinv_advance S (by simp) hdown canon [] [] (fun _=>none) a s rfl h hI hD
  refine draw_any S ops.size (Array.replicate ops.size false) pre2 rest2 fl2 β2 ρ a2 s2 a' _ g1 (by simp) ?_ hdown g4 g5 g2 g3 g6 (fun j b hb=>?_)
  ·have:∀ (D:Array Bool) n,cnt D n≤n:=by
    intro D n
    induction n with
    |zero=>simp[cnt]
    |succ n ih=>simp only[cnt];split<;>omega
   exact this _ _
  ·rcases g8 j b hb with g8|g8
   ·cases g8
   ·exact g8
 ·rintro e a2' w2 ⟨rfl,a2,s2,ρ2,h1,h2,h3,h4⟩
  exact⟨a2,s2,ρ2,h1,by simp,by simp,h2,h3,h4⟩
end
end Go.Cs
namespace Go.Cs
section
variable {M:Type}[Mem M](P:Program)(w0:World)
theorem stepR_scope{b:Frame}{a:Act}{k:List Item}{cs:List Frame}{w:World}{c:Code}:step P (lone (b.atR a (.code (.scope c)::k)) cs w) = .next (lone (b.atR a (.code c :: .inScope c::k)) cs w):=
 step_lone_go (by simp[stepG,stepG.exec,Frame.atR])
theorem stepR_inScope{b:Frame}{a:Act}{k:List Item}{cs:List Frame}{w:World}{c:Code}:step P (lone (b.atR a (.inScope c::k)) cs w) = .next (lone (b.atR a k) cs w):=
 step_lone_go (by simp[stepG,stepG.exec,Frame.atR])
def CLoop(c:Code)(Q:Exit→Act→St M→Prop)(a:Act)(s:St M):Prop:=
 ∀ dk ρ a' w,Rel P w0 ρ s w→ActRel dk ρ a a'→dk.base≤s.next→∀ (b:Frame) (k:List Item) (cs:List Frame),b.roundOf=dk.ro →
  ∃ e a2' w2,CPost P w0 dk ρ s Q e a2' w2∧ArrivesIn (Machine.fenced P (rF dk.ro)) P (lone (b.atR a' (.code c :: .inLoop c::k)) cs w) b k cs e a2' w2
def CScope(c x:Code)(Q:Exit→Act→St M→Prop)(a:Act)(s:St M):Prop:=
 ∀ dk ρ a' w,Rel P w0 ρ s w→ActRel dk ρ a a'→dk.base≤s.next→∀ (b:Frame) (k:List Item) (cs:List Frame),b.roundOf=dk.ro →
  ∃ e a2' w2,CPost P w0 dk ρ s Q e a2' w2∧ArrivesIn (Machine.fenced P (rF dk.ro)) P (lone (b.atR a' (.code x :: .inScope c::k)) cs w) b k cs e a2' w2
def cthen(K:Act→St M→Prop)(Q:Exit→Act→St M→Prop):Exit→Act→St M→Prop
 |.normal,a,s=>K a s
 |e,a,s=>Q e a s
def cblock(id:Nat)(Q:Exit→Act→St M→Prop):Exit→Act→St M→Prop
 |.exit j,a,s=>if j=id then Q .normal a s else Q (.exit j) a s
 |e,a,s=>Q e a s
def cscope(c:Code)(Q:Exit→Act→St M→Prop)(J:Code→Act→St M→Prop):Exit→Act→St M→Prop
 |.goto l,a,s=>match findLabel c l with
  |some rest=>J rest a s
  |none=>Q (.goto l) a s
 |e,a,s=>Q e a s
def cresult(tmps:Array Value)(s:St M):ResultVar→Option Value
 |.tmp t=>some (tmps.getD t undef)
 |.cell a t=>match tmps.getD a undef with
  |.pointer (some ad)=>cload P t ad s
  |_=>none
def cresults(fn:Func)(tmps:Array Value)(s:St M):Option Value:=
 (fn.results.toList.mapM (cresult P tmps s)).map fun vs=>match vs with
  | [v]=>v
  |vs => .tuple vs.toArray
def cbody(fn:Func)(R:Value→St M→Prop):Exit→Act→St M→Prop
 |.normal,a,s=>match cresults P fn a.tmps s with
  |some v=>R v s
  |none=>False
 |.ret,a,s=>match cresults P fn a.tmps s with
  |some v=>R v s
  |none=>False
 |_,_,_=>False
end
section
variable {M:Type}[Mem M]{P:Program}{w0:World}{Q:Exit→Act→St M→Prop}{a:Act}{s:St M}
theorem CPost.trans{dk:DK}{ρ ρ1:Ren}{s s1:St M}(hE:Ext ρ s ρ1 s1){e:Exit}{a':Act}{w:World}(h:CPost P w0 dk ρ1 s1 Q e a' w):CPost P w0 dk ρ s Q e a' w:=
 let ⟨a2,s2,ρ2,h1,h2,h3,h4,h5,h6⟩:=h;⟨a2,s2,ρ2,h1,h2,h3,h4,h5,hE.trans h6⟩
theorem CPost.mono{dk:DK}{ρ:Ren}{s:St M}{Q':Exit→Act→St M→Prop}(hq:∀ e a s,Q e a s→Q' e a s){e:Exit}{a':Act}{w:World}(h:CPost P w0 dk ρ s Q e a' w):CPost P w0 dk ρ s Q' e a' w:=
 let ⟨a2,s2,ρ2,h1,h2⟩:=h;⟨a2,s2,ρ2,hq _ _ _ h1,h2⟩
theorem cwp_mono{c:Code}{Q':Exit→Act→St M→Prop}(hq:∀ e a s,Q e a s→Q' e a s)(h:CWp P w0 c Q a s):CWp P w0 c Q' a s:=
 fun dk ρ a' w hR ha hb=>wpIn_mono (h dk ρ a' w hR ha hb) fun _ _ _ h=>CPost.mono (P:=P) (w0:=w0) hq h
theorem cwp_skip(h:Q .normal a s):CWp P w0 .skip Q a s:=fun dk ρ a' w hR ha hb=>wpIn_skip ⟨a,s,ρ,h,by simp,by simp,hR,ha,Ext.refl _ _⟩
theorem cwp_label{l:Nat}(h:Q .normal a s):CWp P w0 (.label l) Q a s:=fun dk ρ a' w hR ha hb=>wpIn_label ⟨a,s,ρ,h,by simp,by simp,hR,ha,Ext.refl _ _⟩
theorem cwp_exit{id:Nat}(h:Q (.exit id) a s):CWp P w0 (.exit id) Q a s:=fun dk ρ a' w hR ha hb=>wpIn_exit ⟨a,s,ρ,h,by simp,by simp,hR,ha,Ext.refl _ _⟩
theorem cwp_goto{l:Nat}(h:Q (.goto l) a s):CWp P w0 (.goto l) Q a s:=fun dk ρ a' w hR ha hb=>wpIn_goto ⟨a,s,ρ,h,by simp,by simp,hR,ha,Ext.refl _ _⟩
theorem cwp_ret(h:Q .ret a s):CWp P w0 .ret Q a s:=fun dk ρ a' w hR ha hb=>wpIn_ret ⟨a,s,ρ,h,by simp,by simp,hR,ha,Ext.refl _ _⟩
theorem cwp_seq{x y:Code}(h:CWp P w0 x (cthen (CWp P w0 y Q) Q) a s):CWp P w0 (.seq x y) Q a s:=by
 intro dk ρ a' w hR ha hb
 refine wpIn_seq (wpIn_mono (h dk ρ a' w hR ha hb) ?_)
 rintro e a2' w2 ⟨a2,s2,ρ2,hq,h1,h2,hR2,ha2,hE⟩
 cases e with
 |normal=>exact wpIn_mono (hq dk ρ2 a2' w2 hR2 ha2 (Nat.le_trans hb hE.next)) fun _ _ _ h=>CPost.trans (P:=P) (w0:=w0) hE h
 |panic ch=>exact absurd rfl (h1 ch)
 |outgrown=>exact absurd rfl h2
 |exit id=>exact⟨a2,s2,ρ2,hq,h1,h2,hR2,ha2,hE⟩
 |goto l=>exact⟨a2,s2,ρ2,hq,h1,h2,hR2,ha2,hE⟩
 |ret=>exact⟨a2,s2,ρ2,hq,h1,h2,hR2,ha2,hE⟩
theorem cwp_cond{c:Operand}{x y:Code}{t:Bool}(hc:opOk c=true)(he:a.eval c = .bool t)(h:if t=true then CWp P w0 x Q a s else CWp P w0 y Q a s):CWp P w0 (.cond c x y) Q a s:=by
 intro dk ρ a' w hR ha hb
 have hv:=ev_rel ha.tmps hc
 rw[he]at hv
 refine wpIn_cond hv.bool_inv ?_
 cases t
 ·exact h dk ρ a' w hR ha hb
 ·exact h dk ρ a' w hR ha hb
theorem cwp_block{id:Nat}{c:Code}(h:CWp P w0 c (cblock id Q) a s):CWp P w0 (.block id c) Q a s:=by
 intro dk ρ a' w hR ha hb
 refine wpIn_block (wpIn_mono (h dk ρ a' w hR ha hb) ?_)
 rintro e a2' w2 ⟨a2,s2,ρ2,hq,h1,h2,hR2,ha2,hE⟩
 cases e with
 |panic ch=>exact absurd rfl (h1 ch)
 |outgrown=>exact absurd rfl h2
 |exit j =>
  simp only[cblock]at hq
  simp only[Exit.inBlock]
  split at hq
  ·rename_i e;rw[if_pos e];exact⟨a2,s2,ρ2,hq,by simp,by simp,hR2,ha2,hE⟩
  ·rename_i e;rw[if_neg e];exact⟨a2,s2,ρ2,hq,by simp,by simp,hR2,ha2,hE⟩
 |normal=>exact⟨a2,s2,ρ2,hq,h1,h2,hR2,ha2,hE⟩
 |goto l=>exact⟨a2,s2,ρ2,hq,h1,h2,hR2,ha2,hE⟩
 |ret=>exact⟨a2,s2,ρ2,hq,h1,h2,hR2,ha2,hE⟩
theorem cwp_loop{c:Code}(h:CLoop P w0 c Q a s):CWp P w0 (.loop c) Q a s:=by
 intro dk ρ a' w hR ha hb b k cs hro hF hr
 obtain⟨e,a2',w2,hq,harr⟩:=h dk ρ a' w hR ha hb b k cs hro
 exact⟨e,a2',w2,hq,.of_steps (.one (fenced_calm hF hr rfl) stepR_loop) harr⟩
theorem cloop_round{c:Code}(h:CWp P w0 c (cthen (CLoop P w0 c Q) Q) a s):CLoop P w0 c Q a s:=by
 intro dk ρ a' w hR ha hb b k cs hro
 obtain⟨e,a1,w1,⟨a2,s2,ρ2,hq,h1,h2,hR2,ha2,hE⟩,harr⟩:=h dk ρ a' w hR ha hb b (.inLoop c::k) cs hro trivial (room_rF _ _)
 cases e with
 |normal =>
  obtain⟨e2,a3,w3,hq3,harr3⟩:=hq dk ρ2 a1 w1 hR2 ha2 (Nat.le_trans hb hE.next) b k cs hro
  exact⟨e2,a3,w3,CPost.trans (P:=P) (w0:=w0) hE hq3,.of_steps (StepsIn.trans harr (.one (fenced_calm (n:=0) trivial (room_rF _ _) rfl) stepR_inLoop)) harr3⟩
 |panic ch=>exact absurd rfl (h1 ch)
 |outgrown=>exact absurd rfl h2
 |exit id=>exact⟨_,a1,w1,⟨a2,s2,ρ2,hq,h1,h2,hR2,ha2,hE⟩,.pass (x := .inLoop c) rfl (fun _ _ => .inl (by simp)) harr⟩
 |goto l=>exact⟨_,a1,w1,⟨a2,s2,ρ2,hq,h1,h2,hR2,ha2,hE⟩,.pass (x := .inLoop c) rfl (fun _ _ => .inl (by simp)) harr⟩
 |ret=>exact⟨_,a1,w1,⟨a2,s2,ρ2,hq,h1,h2,hR2,ha2,hE⟩,.pass (x := .inLoop c) rfl (fun _ _ => .inl (by simp)) harr⟩
theorem cwp_scope{c:Code}(h:CScope P w0 c c Q a s):CWp P w0 (.scope c) Q a s:=by
 intro dk ρ a' w hR ha hb b k cs hro hF hr
 obtain⟨e,a2',w2,hq,harr⟩:=h dk ρ a' w hR ha hb b k cs hro
 exact⟨e,a2',w2,hq,.of_steps (.one (fenced_calm hF hr rfl) (stepR_scope P)) harr⟩
theorem cscope_piece{c x:Code}(h:CWp P w0 x (cscope c Q (fun rest=>CScope P w0 c rest Q)) a s):CScope P w0 c x Q a s:=by
 intro dk ρ a' w hR ha hb b k cs hro
 obtain⟨e,a1,w1,⟨a2,s2,ρ2,hq,h1,h2,hR2,ha2,hE⟩,harr⟩:=h dk ρ a' w hR ha hb b (.inScope c::k) cs hro trivial (room_rF _ _)
 cases e with
 |normal=>exact⟨_,a1,w1,⟨a2,s2,ρ2,hq,h1,h2,hR2,ha2,hE⟩,StepsIn.trans harr (.one (fenced_calm (n:=0) trivial (room_rF _ _) rfl) (stepR_inScope P))⟩
 |panic ch=>exact absurd rfl (h1 ch)
 |outgrown=>exact absurd rfl h2
 |exit id =>
  have hx:exitTo id (.inScope c::k)=exitTo id k:=by simp[exitTo]
  exact⟨_,a1,w1,⟨a2,s2,ρ2,hq,h1,h2,hR2,ha2,hE⟩,fun k' hk=>harr.1 k' (by rw[hx];exact hk),fun hr hk=>harr.2 hr (by rw[hx];exact hk)⟩
 |goto l =>
  simp only[cscope]at hq
  split at hq
  ·rename_i rest hf
   have hg:gotoIn l (.inScope c::k)=some (.code rest :: .inScope c::k):=by simp[gotoIn,hf]
   obtain⟨e2,a3,w3,hq3,harr3⟩:=hq dk ρ2 a1 w1 hR2 ha2 (Nat.le_trans hb hE.next) b k cs hro
   exact⟨e2,a3,w3,CPost.trans (P:=P) (w0:=w0) hE hq3,.of_steps (harr.1 _ hg) harr3⟩
  ·rename_i hf
   have hg:gotoIn l (.inScope c::k)=gotoIn l k:=by simp[gotoIn,hf]
   exact⟨_,a1,w1,⟨a2,s2,ρ2,hq,h1,h2,hR2,ha2,hE⟩,fun k' hk=>harr.1 k' (by rw[hg];exact hk),fun hr hk=>harr.2 hr (by rw[hg];exact hk)⟩
 |ret=>exact⟨_,a1,w1,⟨a2,s2,ρ2,hq,h1,h2,hR2,ha2,hE⟩,harr⟩
theorem mapM_results{ρ:Ren}{w:World}{t t':Array Value}(ht:VsRel ρ t t')(hR:Rel P w0 ρ s w):∀ (l:List ResultVar) (vs:List Value),l.mapM (cresult P t s)=some vs →
  ∃ vs',(l.mapM (fun | .tmp i=>pure (t'.getD i undef) | .cell a ty=>do loadVar ty (← asAddr (t'.getD a undef)):ResultVar→Sem Value)).run P w = .ok vs' w∧LRel ρ vs vs':=by
 intro l
 induction l with
 |nil=>intro vs h;simp at h;subst h;exact⟨[],rfl,.nil⟩
 |cons r l ih =>
  intro vs h
  simp only[List.mapM_cons,Option.bind_eq_bind,Option.bind_eq_some_iff]at h
  obtain⟨v,hv,vs1,hvs,h⟩:=h
  cases h
  obtain⟨vs',h1,h2⟩:=ih vs1 hvs
  have hr:∃ v',((fun | .tmp i=>pure (t'.getD i undef) | .cell a ty=>do loadVar ty (← asAddr (t'.getD a undef)):ResultVar→Sem Value) r).run P w = .ok v' w∧VRel ρ v v':=by
   cases r with
   |tmp i=>simp only[cresult,Option.some.injEq]at hv;subst hv;exact⟨_,rfl,ht.getD i⟩
   |cell ad ty =>
    simp only[cresult]at hv
    split at hv
    ·rename_i x hx
     have:=ht.getD ad
     rw[hx]at this
     obtain⟨x',e,hxr⟩:=this.ptr_inv
     obtain⟨v',h3,h4⟩:=cload_sound hv hR hxr
     exact⟨v',by simp only[e,asAddr,Sem.run_bind,Sem.run_pure,Result.andThen_ok,h3],h4⟩
    ·cases hv
  obtain⟨v',h3,h4⟩:=hr
  refine⟨v'::vs',?_,.cons h4 h2⟩
  simp only[List.mapM_cons,Sem.run_bind,h3,h1,Result.andThen_ok,Sem.run_pure]
theorem results_sound{fn:Func}{ρ:Ren}{w:World}{t t':Array Value}{v:Value}(h:cresults P fn t s=some v)(ht:VsRel ρ t t')(hR:Rel P w0 ρ s w) :
  ∃ v',(results fn t').run P w = .ok v' w∧VRel ρ v v':=by
 unfold cresults at h
 obtain⟨vs,hvs,hv⟩:=Option.map_eq_some_iff.1 h
 obtain⟨vs',h1,h2⟩:=mapM_results ht hR _ _ hvs
 have hrun:(results fn t').run P w = .ok (if h:vs'.toArray.size=1 then vs'.toArray[0] else .tuple vs'.toArray) w:=by
  unfold results
  rw[Sem.run_bind,Array.mapM_eq_mapM_toList,Sem.run_map]
  erw [h1]
  rfl
 refine⟨_,hrun,?_⟩
 have hl:=h2.length
 split at hv
 ·rename_i u
  cases h2 with
  |cons h3 h4=>cases h4;subst hv;simpa using h3
 ·rename_i hne
  subst hv
  have hs:vs.length≠1:=by
   intro he
   match vs,he with
   | [u],_=>exact hne u rfl
  rw[dif_neg (by simp;omega)]
  have:=VsRel.ofL h2
  exact .tuple (by simpa using hs) this.1 this.2
theorem leaves_marks{fn:Func}{tmps:Array Value}{R:Ending→World→Prop}{base:Nat}{s:St M}{v':Value}:∀ (ds:List Deferred) (ρ:Ren) (w:World),Rel P w0 ρ s w→marksOk ρ base ds →
  (∀ ρ' w',Ren.flip ρ ρ'→(∀ b,b<base→ρ' b=ρ b)→Rel P w0 ρ' s w'→∃ v',(results fn tmps).run P w' = .ok v' w'∧R (.returned v') w')→LeavesInM (rF none) 0 P fn tmps R ds .returning w:=by
 intro ds
 induction ds with
 |nil =>
  intro ρ w hR _ h
  obtain⟨v',h1,h2⟩:=h ρ w (fun b=>by cases hb:ρ b with|none=>exact .inl ⟨rfl,rfl⟩|some i=>exact .inr ⟨i,i.kd,rfl,rfl⟩) (fun _ _=>rfl) hR
  exact⟨v',h1,h2⟩
 |cons m ds ih =>
  intro ρ w hR hm h
  obtain⟨⟨b,i,hb,hi,hk,rfl,hnin⟩,hrest⟩:=hm
  obtain⟨g1,g2,g3⟩:=hR.one b i hi hk
  obtain⟨ρ1,hfl,hoff,hR1⟩:=hR.take hi hk
  refine⟨by simp,.inl ⟨i.blk,_,rfl,run_takeDeferred g1,ih ρ1 _ hR1 ?_ fun ρ' w' hf ho hR'=>h ρ' w' ?_ ?_ hR'⟩⟩
  ·clear ih h hR1
   induction ds with
   |nil=>trivial
   |cons m2 ds ih2 =>
    obtain⟨⟨b2,i2,e1,e2,e3,e4,e5⟩,e6⟩:=hrest
    refine⟨⟨b2,i2,e1,?_,e3,e4,e5⟩,ih2 e6 (by simp at hnin;exact hnin.2)⟩
    rw[hoff b2]
    ·exact e2
    ·intro e
     subst e
     rw[hi]at e2;cases e2
     simp[e4]at hnin
  ·intro x
   rcases hfl x with ⟨a1,a2⟩|⟨j,k,a1,a2⟩
   ·rcases hf x with ⟨b1,b2⟩|⟨j2,k2,b1,b2⟩
    ·exact .inl ⟨a1,b2⟩
    ·rw[a2]at b1;cases b1
   ·rcases hf x with ⟨b1,b2⟩|⟨j2,k2,b1,b2⟩
    ·rw[a2]at b1;cases b1
    ·rw[a2]at b1;cases b1
     exact .inr ⟨j,k2,a1,b2⟩
  ·intro x hx
   rw[ho x hx,hoff x oM]
theorem ccalls_enter{f:FuncId}{fn:Func}{c:Code}{args:Array Value}{R:Value→St M→Prop}(hf:P.funcs[f]?=some fn)(hb:fn.body=some c)
  (h:CWp P w0 c (cbody P fn R) { tmps:=args++Array.replicate (fn.ntmps - args.size) undef,defers:=[] } s):QC P w0 f args s R:=by
 intro ρ w args' hR ha
 refine (callsIn_rF (ro:=none) (n:=0)).1 (callsIn_of_wp_marks hf hb trivial (wpIn_mono (h ⟨s.next,none⟩ ρ { tmps:=args'++Array.replicate (fn.ntmps - args'.size) undef,defers:=[] } w hR ⟨?_,rfl,trivial,fun l hl=>by cases hl⟩ (Nat.le_refl _)) ?_))
 ·rw[← ha.1]
  exact append_rel ha ⟨rfl,fun i hi=>by simp at hi;simp[Array.getD,hi];exact VRel.undef ρ⟩
 ·rintro e a2' w2 ⟨a2,s2,ρ2,hq,h1,h2,hR2,ha2,hE⟩
  have key:∀ v,cresults P fn a2.tmps s2=some v→R v s2→LeavesInM (rF none) 0 P fn a2'.tmps (CEnd P w0 ρ s R) a2'.defers .returning w2:=by
   intro v hv hk
   refine leaves_marks (base:=s.next) (v':=v) a2'.defers ρ2 w2 hR2 ha2.d'.marks fun ρ' w' hfl hoff hR'=>?_
   obtain⟨v',h3,h4⟩:=results_sound hv (ha2.tmps.flip hfl) hR'
   refine⟨v',h3,v,s2,ρ',v',rfl,hk,h4,hR',⟨?_,?_,hE.next,hE.unr⟩⟩
   ·intro b i hbi
    rw[hoff b (hR.dom _ _ hbi)]
    exact hE.le _ _ hbi
   ·intro b hb
    rw[hoff b hb]
    exact hE.old b hb
  cases e with
  |normal =>
   simp only[cbody]at hq
   split at hq
   ·rename_i v hv;exact key v hv hq
   ·exact hq.elim
  |ret =>
   simp only[cbody]at hq
   split at hq
   ·rename_i v hv;exact key v hv hq
   ·exact hq.elim
  |panic ch=>exact hq.elim
  |outgrown=>exact hq.elim
  |exit id=>exact hq.elim
  |goto l=>exact hq.elim
end
section
variable {M:Type}[Mem M](P:Program)(w0:World)
def cbeginRound(l:Nat)(K:St M→Prop)(s:St M):Prop:=
 match s.at' l with
 |some (.loop .ready pend ps tmps as bd)=>K (s.put l (.loop .busy pend ps tmps as bd))
 |_=>False
def cendRound(l:Nat)(jump:Option Code)(K:Value→St M→Prop)(s:St M):Prop:=
 match s.at' l with
 |some (.loop _ _ ps tmps as bd)=>K (.bool jump.isNone) (s.put l (.loop (if jump.isNone then .ready else .done) jump ps tmps as bd))
 |_=>False
def cendLoop(l:Nat)(K:Option Code→St M→Prop)(s:St M):Prop:=
 match s.at' l with
 |some (.loop st pend ps tmps as bd)=>st ≠ .busy∧K pend (s.put l (.loop .exhausted pend ps tmps as bd))
 |_=>False
def croundPost(l:Nat)(K:Value→St M→Prop):Exit→Act→St M→Prop
 |.normal,_,s=>cendRound l none K s
 |.ret,_,s=>cendRound l (some .ret) K s
 |.exit id,_,s=>cendRound l (some (.exit id)) K s
 |.goto t,_,s=>cendRound l (some (.goto t)) K s
 |_,_,_=>False
def cassignPost(l:Nat)(body:Code)(K:Value→St M→Prop):Exit→Act→St M→Prop
 |.normal,a,s=>cbeginRound l (fun s=>CWp P w0 body (croundPost l K) a s) s
 |_,_,_=>False
def cloopPost(l:Nat)(Q:Exit→Act→St M→Prop)(a:Act):Value→St M→Prop:=fun _ s =>
 cendLoop l (fun jump s=>match jump with
  |none=>Q .normal a s
  |some c=>CWp P w0 c Q a s) s
end
section
variable {M:Type}[Mem M]{P:Program}{w0:World}
theorem params_rel{ρ:Ren}:∀ (l:List Tmp) (b b':List Value) (t t':Array Value),LRel ρ b b'→VsRel ρ t t'→VsRel ρ ((l.zip b).foldl (fun t (p,v)=>t.setIfInBounds p v) t) ((l.zip b').foldl (fun t (p,v)=>t.setIfInBounds p v) t'):=by
 intro l
 induction l with
 |nil=>intro b b' t t' _ h;exact h
 |cons p l ih =>
  intro b b' t t' hb h
  cases hb with
  |nil=>exact h
  |cons hv hb=>exact ih _ _ _ _ hb (h.set p hv)
theorem cround_enter{l:Nat}{args:Array Value}{s:St M}{ps:Array Tmp}{tmps:Array Value}{assign body:Code}{K:Value→St M→Prop}
  (hl:s.at' l=some (.loop .ready none ps tmps assign body))(hs:args.size=ps.size)
  (h:CWp P w0 assign (cassignPost P w0 l body K) { tmps:=(ps.toList.zip args.toList).foldl (fun t (p,v)=>t.setIfInBounds p v) tmps,defers:=[] } s):CRound P w0 l args s K:=by
 intro ρ w args' i ro hR ha hi
 obtain⟨o,ho,hkd,fn,tmps',D,rfl,htm⟩:=hR.blk l i _ hi hl
 refine⟨fn,_,assign,body,run_yield ho (by rw[← ha.1];exact hs),roundIn_of_wpIn trivial ?_⟩
 have hfold:VsRel ρ ((ps.toList.zip args.toList).foldl (fun t (p,v)=>t.setIfInBounds p v) tmps) ((ps.zip args').foldl (fun tmps (t,a)=>tmps.setIfInBounds t a) tmps'):=by
  have:=params_rel ps.toList args.toList args'.toList tmps tmps' (VsRel.toL (by simpa using ha)) htm
  rw[← Array.foldl_toList,Array.toList_zip]
  exact this
 refine wpIn_mono (F:=rF (some i.blk)) (h ⟨s.next,some i.blk⟩ ρ { tmps:=_,defers:=[] } w hR ⟨hfold,rfl,trivial,fun l' hl'=>by cases hl';exact⟨l,i,hi,hkd,rfl⟩⟩ (Nat.le_refl _)) ?_
 rintro e a1' w1 ⟨a1,s1,ρ1,hq,g1,g2,hR1,ha1,hE1⟩
 cases e with
 |panic ch=>exact absurd rfl (g1 ch)
 |outgrown=>exact absurd rfl g2
 |exit j=>exact hq.elim
 |goto j=>exact hq.elim
 |ret=>exact hq.elim
 |normal =>
  simp only[cassignPost,cbeginRound]at hq
  split at hq
  case h_2=>exact hq.elim
  rename_i pend1 ps1 tmps1 as1 bd1 hat1
  have hi1:=hE1.le _ _ hi
  obtain⟨o1,ho1,hkd1,fn1,tmps1',D1,rfl,htm1⟩:=hR1.blk l i _ hi1 hat1
  refine⟨_,run_beginRound ho1 rfl,?_⟩
  obtain⟨hR2,hE2⟩:=hR1.write (C := .loop .busy pend1 ps1 tmps1 as1 bd1) (o := .loop { state := .busy,pending:=pend1,fn:=fn1,tmps:=tmps1',params:=ps1,assign:=as1,body:=bd1,defers:=D1 }) hi1 hat1 rfl ⟨hkd1,fn1,tmps1',D1,rfl,htm1⟩
  refine wpIn_mono (F:=rF (some i.blk)) (hq ⟨s.next,some i.blk⟩ ρ1 a1' _ hR2 ha1 (Nat.le_trans hE1.next hE2.next)) ?_
  rintro e a3' w3 ⟨a3,s3,ρ3,hq3,g31,g32,hR3,ha3,hE3⟩
  have hi3:=hE3.le _ _ hi1
  have fin:∀ jump:Option Code,cendRound l jump K s3→∃ v w',(Instr.endRound i.blk jump).run P w3 = .ok v w'∧CEnd P w0 ρ s K (.returned v) w':=by
   intro jump hj
   unfold cendRound at hj
   split at hj
   case h_2=>exact hj.elim
   rename_i st3 pend3 ps3 tmps3 as3 bd3 hat3
   obtain⟨o3,ho3,hkd3,fn3,tmps3',D3,rfl,htm3⟩:=hR3.blk l i _ hi3 hat3
   obtain⟨hR4,hE4⟩:=hR3.write (C := .loop (if jump.isNone then .ready else .done) jump ps3 tmps3 as3 bd3) (o := .loop { state:=if jump.isNone then .ready else .done,pending:=jump,fn:=fn3,tmps:=tmps3',params:=ps3,assign:=as3,body:=bd3,defers:=D3 }) hi3 hat3 rfl ⟨hkd3,fn3,tmps3',D3,rfl,htm3⟩
   exact⟨_,_,run_endRound jump ho3,_,_,ρ3,_,rfl,hj,.bool _,hR4,((hE1.trans hE2).trans hE3).trans hE4⟩
  cases e with
  |normal=>exact fin none hq3
  |ret=>exact fin (some .ret) hq3
  |exit j=>exact fin (some (.exit j)) hq3
  |goto t=>exact fin (some (.goto t)) hq3
  |panic ch=>exact absurd rfl (g31 ch)
  |outgrown=>exact absurd rfl g32
theorem marksOk.of_mem{ρ:Ren}{base:Nat}{m:Deferred}:∀ {ds:List Deferred},marksOk ρ base ds→m∈ds→∃ b i,ρ b=some i∧m={ target := .collected i.blk,args:=#[] }
 | [],_,h=>by cases h
 |_::_,⟨⟨b,i,_,h2,_,h4,_⟩,hr⟩,h=>by
  rcases List.mem_cons.1 h with rfl|h
  ·exact⟨b,i,h2,h4⟩
  ·exact marksOk.of_mem hr h
theorem run_enterLoop_inner{w:World}{l:Nat}{r:Loop}(h:w.heap[l]?=some (.loop r))(fn:FuncId)(tmps:Array Value)(ps:Array Tmp)(assign body:Code) :
  (Instr.enterLoop fn tmps ps assign body (some l)).run P w = .ok (w.heap.size,[]) { w with heap:=w.heap.push (.loop { state := .ready,pending:=none,fn,tmps,params:=ps,assign,body,defers:=r.defers }) }:=by
 unfold Instr.enterLoop
 simp only[Sem.run_bind,run_getLoop h,Result.andThen,Sem.run_pure]
 rfl
theorem cwp_rangeFunc{g:Operand}{ps:Array Tmp}{assign body:Code}{Q:Exit→Act→St M→Prop}{a:Act}{s:St M}{gf:Nat}{first caps:Array Value}{fn:Func}
  (hg:opOk g=true)(he:a.eval g = .func (.func gf) first caps)(hf:P.funcs[gf]?=some fn)(hb:(fn.body.isSome && fn.name != "runtime.NumGoroutine")=true)
  (h:QC P w0 gf (first ++ #[.func (.yield (s.next+1)) #[] #[]]++caps) (s.skip.new (.loop .ready none ps a.tmps assign body)) (cloopPost P w0 (s.next+1) Q a)):CWp P w0 (.rangeFunc g ps assign body) Q a s:=by
 intro dk ρ a' w hR ha hbase
 refine wpIn_rangeFunc fun fn0 _=>?_
 simp only[Bool.and_eq_true,bne_iff_ne,ne_eq]at hb
 have hent:∃ (l:Nat) (mark:List Deferred) (w1:World) (ρ1:Ren),(Instr.enterLoop fn0 a'.tmps ps assign body dk.ro).run P w = .ok (l,mark) w1∧ρ1 (s.next+1)=some ⟨l,0,0,0,2⟩ ∧
   Rel P w0 ρ1 (s.skip.new (.loop .ready none ps a.tmps assign body)) w1∧Ext ρ s ρ1 (s.skip.new (.loop .ready none ps a.tmps assign body))∧DOk dk ρ1 (mark++a'.defers):=by
  cases hro:dk.ro with
  |none =>
   obtain⟨hR1,hE1⟩:=hR.mark
   obtain⟨hR2,hE2⟩:=hR1.alloc (B := .loop .ready none ps a.tmps assign body) (o := .loop { state := .ready,pending:=none,fn:=fn0,tmps:=a'.tmps,params:=ps,assign:=assign,body:=body,defers:=w.heap.size }) (i:=⟨w.heap.size+1,0,0,0,2⟩) (by simp)
    ⟨rfl,fn0,a'.tmps,_,rfl,((ha.tmps.mono hE1.le).mono (Ren.le_add (hR1.none_next (Nat.le_refl _))))⟩ (.inr ⟨rfl,_,rfl⟩)
   refine⟨_,_,_,_,run_enterLoop_outer _ _ _ _ _,by rw[← St.next_skip];exact Ren.add_same _ _ _,hR2,hE1.trans hE2,?_⟩
   have hd:=(ha.d'.mono hE1.le).mono hE2.le
   refine⟨⟨⟨s.next,⟨w.heap.size,0,0,0,1⟩,hbase,hE2.le _ _ (Ren.add_same _ _ _),rfl,rfl,fun hm=>?_⟩,hd.marks⟩,hd.round⟩
   obtain⟨b,i,hbi,e⟩:=ha.d'.marks.of_mem hm
   have:=hR.lt _ _ hbi
   simp only[Deferred.mk.injEq,Target.collected.injEq,and_true]at e
   omega
  |some l0 =>
   obtain⟨b,i,hbi,hk2,rfl⟩:=ha.d'.round l0 hro
   obtain⟨r,hr⟩:=hR.two b i hbi hk2
   obtain⟨hR1,hE1⟩:=hR.skip
   obtain⟨hR2,hE2⟩:=hR1.alloc (B := .loop .ready none ps a.tmps assign body) (o := .loop { state := .ready,pending:=none,fn:=fn0,tmps:=a'.tmps,params:=ps,assign:=assign,body:=body,defers:=r.defers }) (i:=⟨w.heap.size,0,0,0,2⟩) rfl
    ⟨rfl,fn0,a'.tmps,_,rfl,((ha.tmps.mono hE1.le).mono (Ren.le_add (hR1.none_next (Nat.le_refl _))))⟩ (.inr ⟨rfl,_,rfl⟩)
   exact⟨_,_,_,_,run_enterLoop_inner hr _ _ _ _ _,by rw[← St.next_skip];exact Ren.add_same _ _ _,hR2,hE1.trans hE2,(ha.d'.mono hE1.le).mono hE2.le⟩
 obtain⟨l,mark,w1,ρ1,hrun,hl1,hR1,hE1,hd1⟩:=hent
 have hx:=ev_rel ha.tmps hg
 rw[he]at hx
 obtain⟨first',caps',e,h1,h2⟩:=hx.func_inv
 refine⟨l,mark,w1,{ target := .fn (.func gf) caps',args:=first' ++ #[.func (.yield l) #[] #[]] },w1,gf,first' ++ #[.func (.yield l) #[] #[]]++caps',w1,hrun,?_,fun _ _=>trivial,?_,fun e=>(by cases e),callsIn_rF.2 ?_⟩
 ·have hm:Array.map a'.eval #[Operand.const (Value.func (Fn.yield l) #[] #[])]=#[Value.func (Fn.yield l) #[] #[]]:=by simp[Act.eval]
  simp only[resolve,e,Deferred.ofValue,Sem.run_pure,hm]
 ·simp only[invoke,callFunc,program,Sem.run_bind,Sem.run,hf,Result.andThen_ok]
  rw[if_neg (by simpa using hb.2),if_neg (by intro hn;have h9:=hb.1;cases h8:fn.body<;>simp_all)]
  rfl
 ·have hargs:VsRel ρ1 (first ++ #[.func (.yield (s.next+1)) #[] #[]]++caps) (first' ++ #[.func (.yield l) #[] #[]]++caps'):=by
   refine append_rel (append_rel (h1.mono hE1.le) ⟨rfl,fun i hi=>?_⟩) (h2.mono hE1.le)
   have:i=0:=by simp at hi;exact hi
   subst this
   exact .yield (i:=⟨l,0,0,0,2⟩) hl1
  refine (h ρ1 w1 _ hR1 hargs).mono ?_
  rintro e w3 ⟨v,s3,ρ3,v',rfl,hk,_,hR3,hE3⟩
  unfold cloopPost cendLoop at hk
  split at hk
  case h_2=>exact hk.elim
  rename_i st pend ps3 tmps3 as3 bd3 hat3
  obtain⟨hst,hk⟩:=hk
  have hi3:=hE3.le _ _ hl1
  obtain⟨o3,ho3,hkd3,fn3,tmps3',D3,rfl,htm3⟩:=hR3.blk _ _ _ hi3 hat3
  obtain⟨hR4,hE4⟩:=hR3.write (C := .loop .exhausted pend ps3 tmps3 as3 bd3) (o := .loop { state := .exhausted,pending:=pend,fn:=fn3,tmps:=tmps3',params:=ps3,assign:=as3,body:=bd3,defers:=D3 }) hi3 hat3 rfl ⟨hkd3,fn3,tmps3',D3,rfl,htm3⟩
  have hE:Ext ρ s ρ3 (s3.put (s.next+1) (.loop .exhausted pend ps3 tmps3 as3 bd3)):=(hE1.trans hE3).trans hE4
  have hA:ActRel dk ρ3 a { a' with defers:=mark++a'.defers }:=⟨ha.tmps.mono hE.le,ha.d,hd1.mono hE3.le⟩
  refine⟨pend,_,run_endLoop ho3 hst,?_⟩
  cases pend with
  |none=>exact⟨a,_,ρ3,hk,by simp,by simp,hR4,hA,hE⟩
  |some c=>exact wpIn_mono (hk dk ρ3 _ _ hR4 hA (Nat.le_trans hbase hE.next)) fun _ _ _ h=>CPost.trans (P:=P) (w0:=w0) hE h
end
end Go.Cs
end
