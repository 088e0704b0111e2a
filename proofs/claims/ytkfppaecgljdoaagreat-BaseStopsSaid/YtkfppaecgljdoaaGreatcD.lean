/- Lemmas, laid one behind the other by squeeze2.py. -/
import Derived.Test.YtkfppaecgljdoaaGreatcC
set_option linter.unusedSimpArgs false
set_option linter.unusedVariables false
set_option linter.unusedSectionVars false
set_option linter.defProp false
section
namespace Go.Proofs.Tryz
open Go.Cs
open Go.RowKit (Below)
abbrev V3:=Int×Int×ByteArray
abbrev Pl:=Option (ByteArray×V3)
def plCells:Pl→List Value
 |none=>[.string ⟨#[]⟩,.int .i64 0,.int .i64 0,.string ⟨#[]⟩,.bool false]
 |some (x,k,n,y)=>[.string x,.int .i64 k,.int .i64 n,.string y,.bool true]
def plsCells(P:List Pl):List Value:=P.flatMap plCells
theorem plCells_len(p:Pl):(plCells p).length=5:=by
 cases p with
 |none=>rfl
 |some q=>obtain⟨x,k,n,y⟩:=q;rfl
theorem plsCells_len(P:List Pl):(plsCells P).length=P.length*5:=by
 induction P with
 |nil=>rfl
 |cons p P ih =>
  show (plCells p++plsCells P).length=_
  rw[List.length_append,plCells_len,ih,List.length_cons];omega
theorem plsCells_app(P:List Pl)(p:Pl):plsCells (P ++ [p])=plsCells P++plCells p:=by
 unfold plsCells;simp
theorem plsCells_get:∀ (P:List Pl) (i j:Nat) (p:Pl),P[i]?=some p→j<5→(plsCells P)[i*5+j]?=(plCells p)[j]?:=by
 intro P
 induction P with
 |nil=>intro i j p h;simp at h
 |cons q P ih =>
  intro i j p h hj
  show (plCells q++plsCells P)[i*5+j]?=_
  cases i with
  |zero =>
   simp only[List.getElem?_cons_zero,Option.some.injEq]at h
   subst h
   rw[Nat.zero_mul,Nat.zero_add,List.getElem?_append_left (by rw[plCells_len];exact hj)]
  |succ i =>
   rw[List.getElem?_append_right (by rw[plCells_len];omega),plCells_len,show (i+1)*5+j - 5=i*5+j from by omega]
   exact ih i j p (by simpa using h) hj
def KV(es:List MapEntry)(kv:List (ByteArray×Nat)):Prop:=
 es.length=kv.length∧∀ (i:Nat) (e:MapEntry) (x:ByteArray) (j:Nat),es[i]?=some e→kv[i]?=some (x,j)→e.key = .string x∧e.val = .int .i64 (j:Int)
theorem KV.nil:KV [] []:=⟨rfl,fun i e x j h=>by simp at h⟩
def kvIdx:List (ByteArray×Nat)→ByteArray→Option (Nat×Nat)
 | [],_=>none
 |(y,j)::r,x=>if y=x then some (0,j) else (kvIdx r x).map fun p=>(p.1+1,p.2)
theorem KV.tail{e:MapEntry}{es:List MapEntry}{y:ByteArray}{j:Nat}{kv:List (ByteArray×Nat)}(h:KV (e::es) ((y,j)::kv)):e.key = .string y∧e.val = .int .i64 (j:Int)∧KV es kv:=by
 obtain⟨h1,h2⟩:=h
 obtain⟨h3,h4⟩:=h2 0 e y j rfl rfl
 exact⟨h3,h4,by simpa using h1,fun i e' x j' a b=>h2 (i+1) e' x j' (by simpa using a) (by simpa using b)⟩
theorem findKV:∀ (es:List MapEntry) (kv:List (ByteArray×Nat)) (x:ByteArray) (i:Nat),KV es kv→Instr.findNow .string (.string x) es i=some ((kvIdx kv x).map fun p=>(i+p.1,.int .i64 (p.2:Int))):=by
 intro es
 induction es with
 |nil =>
  intro kv x i h
  have:kv=[]:=by have:=h.1;simp at this;exact List.eq_nil_of_length_eq_zero this.symm
  subst this
  rfl
 |cons e es ih =>
  intro kv x i h
  cases kv with
  |nil=>have:=h.1;simp at this
  |cons p kv =>
   obtain⟨y,j⟩:=p
   obtain⟨h1,h2,h3⟩:=h.tail
   simp only[Instr.findNow,Instr.sameNow,h1,kvIdx]
   by_cases e1:y=x
   ·subst e1
    have:(y == y)=true:=ba_beq_iff.2 rfl
    rw[this]
    simp[h2]
   ·have:(x == y)=false:=by rw[Bool.eq_false_iff];intro h;exact e1 (ba_beq_iff.1 h).symm
    rw[this]
    simp only[if_neg e1,ih kv x (i+1) h3]
    cases kvIdx kv x with
    |none=>rfl
    |some p=>simp;omega
theorem cfind_kv{es:List MapEntry}{kv:List (ByteArray×Nat)}(h:KV es kv)(x:ByteArray):cfind Tryz.prog 9 (.string x) es=some ((kvIdx kv x).map fun p=>(p.1,.int .i64 (p.2:Int))):=by
 unfold cfind
 rw[if_pos (show plain 6 (Value.string x)=true from rfl),underlying9]
 simp only[findKV es kv x 0 h,Nat.zero_add]
theorem kvIdx_some:∀ {kv:List (ByteArray×Nat)}{x:ByteArray}{i j:Nat},kvIdx kv x=some (i,j)→kv[i]?=some (x,j):=by
 intro kv
 induction kv with
 |nil=>intro x i j h;cases h
 |cons p kv ih =>
  intro x i j h
  obtain⟨y,j0⟩:=p
  unfold kvIdx at h
  split at h
  ·rename_i e;cases h;simp[e]
  ·obtain⟨q,hq,e⟩:=Option.map_eq_some_iff.1 h
   obtain⟨i',j'⟩:=q
   cases e
   simpa using ih hq
theorem kvIdx_none:∀ {kv:List (ByteArray×Nat)}{x:ByteArray},kvIdx kv x=none→∀ j,(x,j) ∉ kv:=by
 intro kv
 induction kv with
 |nil=>intro x _ j h;cases h
 |cons p kv ih =>
  intro x h j hm
  obtain⟨y,j0⟩:=p
  unfold kvIdx at h
  split at h
  ·cases h
  ·rename_i hne
   have h1:=Option.map_eq_none_iff.1 h
   rcases List.mem_cons.1 hm with e|hm
   ·cases e;exact hne rfl
   ·exact ih h1 j hm
theorem KV.app{es:List MapEntry}{kv:List (ByteArray×Nat)}(h:KV es kv){x:ByteArray}{j b:Nat}:KV (es ++ [{ key := .string x,val := .int .i64 (j:Int),born:=b }]) (kv ++ [(x,j)]):=by
 refine⟨by simp[h.1],fun i e y k h1 h2=>?_⟩
 by_cases hi:i<es.length
 ·rw[List.getElem?_append_left hi]at h1
  rw[List.getElem?_append_left (by rw[← h.1];exact hi)]at h2
  exact h.2 i e y k h1 h2
 ·rw[List.getElem?_append_right (by omega)]at h1
  rw[List.getElem?_append_right (by rw[← h.1];omega),← h.1]at h2
  by_cases h0:i - es.length=0
  ·rw[h0]at h1 h2
   simp at h1 h2
   subst h1
   exact⟨by rw[h2.1],by rw[h2.2]⟩
  ·rw[List.getElem?_eq_none (by simp;omega)]at h1;cases h1
theorem KV.erase{es:List MapEntry}{kv:List (ByteArray×Nat)}(h:KV es kv)(i:Nat):KV (es.eraseIdx i) (kv.eraseIdx i):=by
 refine⟨by rw[List.length_eraseIdx,List.length_eraseIdx,h.1],fun k e x j h1 h2=>?_⟩
 rw[List.getElem?_eraseIdx]at h1 h2
 split at h1
 ·rename_i hk;rw[if_pos hk]at h2;exact h.2 k e x j h1 h2
 ·rename_i hk;rw[if_neg hk]at h2;exact h.2 (k+1) e x j h1 h2
theorem KV.set{es:List MapEntry}{kv:List (ByteArray×Nat)}(h:KV es kv){i:Nat}{x:ByteArray}{j0:Nat}(hi:kv[i]?=some (x,j0))(j:Nat) :
  KV (es.modify i fun e=>{ e with key := .string x,val := .int .i64 (j:Int) }) (kv.set i (x,j)):=by
 refine⟨by rw[List.length_modify,List.length_set,h.1],fun k e y m h1 h2=>?_⟩
 rw[List.getElem?_modify]at h1
 rw[List.getElem?_set]at h2
 by_cases e1:i=k
 ·subst e1
  have hlt:=(List.getElem?_eq_some_iff.1 hi).1
  simp only[if_true,hlt]at h1 h2
  cases h2
  obtain⟨e0,_,rfl⟩:=Option.map_eq_some_iff.1 h1
  exact⟨rfl,rfl⟩
 ·simp only[e1,if_false]at h1 h2
  exact h.2 k e y m (by simpa using h1) h2
structure KP(kv:List (ByteArray×Nat))(P:List Pl):Prop where
 nodup:(kv.map (·.1)).Nodup
 mem:∀ x j,(x,j)∈kv↔∃ v,P[j]?=some (some (x,v))
def props(P:List Pl):List (ByteArray×V3):=P.filterMap id
theorem KP.nil:KP [] []:=⟨List.nodup_nil,fun x j=>by simp⟩
theorem KP.one{kv:List (ByteArray×Nat)}{P:List Pl}(h:KP kv P){x:ByteArray}{j k:Nat}(h1:(x,j)∈kv)(h2:(x,k)∈kv):j=k:=by
 have key:∀ (l:List (ByteArray×Nat)),(l.map (·.1)).Nodup→(x,j)∈l→(x,k)∈l→j=k:=by
  intro l
  induction l with
  |nil=>intro _ h;cases h
  |cons p l ih =>
   intro hn a b
   simp only[List.map_cons,List.nodup_cons]at hn
   rcases List.mem_cons.1 a with ea|a<;>rcases List.mem_cons.1 b with eb|b
   ·rw[← ea]at eb;cases eb;rfl
   ·exact absurd (List.mem_map_of_mem b) (by rw[← ea]at hn;exact hn.1)
   ·exact absurd (List.mem_map_of_mem a) (by rw[← eb]at hn;exact hn.1)
   ·exact ih hn.2 a b
 exact key kv h.nodup h1 h2
theorem KP.idx{kv:List (ByteArray×Nat)}{P:List Pl}(h:KP kv P){x:ByteArray}{i j:Nat}(hi:kvIdx kv x=some (i,j)):∃ v,P[j]?=some (some (x,v)):=
 (h.mem x j).1 (List.mem_of_getElem? (kvIdx_some hi))
theorem KP.no{kv:List (ByteArray×Nat)}{P:List Pl}(h:KP kv P){x:ByteArray}(hi:kvIdx kv x=none)(j:Nat)(v:V3):P[j]?≠some (some (x,v)):=
 fun e=>kvIdx_none hi j ((h.mem x j).2 ⟨v,e⟩)
theorem KP.app{kv:List (ByteArray×Nat)}{P:List Pl}(h:KP kv P){x:ByteArray}(hx:kvIdx kv x=none)(v:V3):KP (kv ++ [(x,P.length)]) (P ++ [some (x,v)]):=by
 refine⟨?_,fun y j=>?_⟩
 ·rw[List.map_append,List.nodup_append]
  refine⟨h.nodup,by simp,fun a ha b hb e=>?_⟩
  simp at hb
  subst hb;subst e
  obtain⟨⟨y,j⟩,hm,e⟩:=List.mem_map.1 ha
  simp only at e
  subst e
  exact kvIdx_none hx j hm
 ·rw[List.mem_append,h.mem]
  constructor
  ·rintro (⟨v',hv⟩|hm)
   ·exact⟨v',by rw[List.getElem?_append_left (List.getElem?_eq_some_iff.1 hv).1];exact hv⟩
   ·simp at hm
    obtain⟨rfl,rfl⟩:=hm
    exact⟨v,by simp⟩
  ·rintro⟨v',hv⟩
   by_cases hj:j<P.length
   ·rw[List.getElem?_append_left hj]at hv;exact .inl ⟨v',hv⟩
   ·rw[List.getElem?_append_right (by omega)]at hv
    by_cases h0:j - P.length=0
    ·rw[h0]at hv
     simp at hv
     right
     simp[hv.1,show j=P.length by omega]
    ·rw[List.getElem?_eq_none (by simp;omega)]at hv;cases hv
theorem KP.put{kv:List (ByteArray×Nat)}{P:List Pl}(h:KP kv P){x:ByteArray}{i j:Nat}(hi:kvIdx kv x=some (i,j))(v:V3):KP kv (P.set j (some (x,v))):=by
 refine⟨h.nodup,fun y k=>?_⟩
 obtain⟨v0,h0⟩:=h.idx hi
 have hlt:=(List.getElem?_eq_some_iff.1 h0).1
 rw[h.mem,List.getElem?_set]
 by_cases e:j=k
 ·subst e
  simp only[if_true,hlt]
  constructor
  ·rintro⟨v',hv⟩
   rw[h0]at hv
   simp at hv
   exact⟨v,by rw[hv.1]⟩
  ·rintro⟨v',hv⟩
   simp at hv
   exact⟨v0,by rw[← hv.1];exact h0⟩
 ·simp only[e,if_false]
theorem KP.del{kv:List (ByteArray×Nat)}{P:List Pl}(h:KP kv P){x:ByteArray}{i j:Nat}(hi:kvIdx kv x=some (i,j)):KP (kv.eraseIdx i) (P.set j none):=by
 obtain⟨v0,h0⟩:=h.idx hi
 have hlt:=(List.getElem?_eq_some_iff.1 h0).1
 have hat:=kvIdx_some hi
 have hmem:∀ y k,(y,k)∈kv.eraseIdx i↔(y,k)∈kv∧y≠x:=by
  intro y k
  rw[List.mem_eraseIdx_iff_getElem?]
  constructor
  ·rintro⟨m,hm,hk⟩
   refine⟨List.mem_of_getElem? hk,fun e=>?_⟩
   subst e
   have hlt1:=(List.getElem?_eq_some_iff.1 hk).1
   have hlt2:=(List.getElem?_eq_some_iff.1 hat).1
   have hnd:=h.nodup
   have e1:(kv.map (·.1))[m]'(by simpa using hlt1)=(kv.map (·.1))[i]'(by simpa using hlt2):=by
    simp only[List.getElem_map]
    rw[(List.getElem?_eq_some_iff.1 hk).2,(List.getElem?_eq_some_iff.1 hat).2]
   exact hm ((List.getElem_inj hnd).1 e1)
  ·rintro⟨hk,hne⟩
   obtain⟨m,hm⟩:=List.getElem?_of_mem hk
   exact⟨m,fun e=>by subst e;rw[hat]at hm;cases hm;exact hne rfl,hm⟩
 refine⟨?_,fun y k=>?_⟩
 ·exact (List.Sublist.map _ (List.eraseIdx_sublist kv i)).nodup h.nodup
 ·rw[hmem,h.mem,List.getElem?_set]
  constructor
  ·rintro⟨⟨v',hv⟩,hne⟩
   refine⟨v',?_⟩
   rw[if_neg]
   ·exact hv
   ·intro e
    subst e
    rw[h0]at hv
    simp at hv
    exact hne hv.1.symm
  ·rintro⟨v',hv⟩
   split at hv
   ·simp at hv
   ·rename_i hne
    refine⟨⟨v',hv⟩,fun e=>?_⟩
    subst e
    exact hne (h.one (List.mem_of_getElem? hat) ((h.mem _ _).2 ⟨v',hv⟩))
end Go.Proofs.Tryz
namespace Go.Proofs.Tryz
open Go.Cs
open Go.RowKit (Below)
set_option maxRecDepth 100000
attribute [local irreducible] QC WLoop WScope
section
variable {M:Type}[Mem M]{w0:World}{s:St M}{R:Value→St M→Prop}
def SlU(e:TypeId)(sz:Nat)(s:St M)(sl:Value)(cs:List Value)(n:Nat):Prop:=
 (n=0∧cs=[]∧sl = .slice none 0 0)∨(∃ b junk,sl = .slice (some ⟨b,0,none⟩) n UNK∧s.at' b=some (.cells (cs++junk) e true)∧cs.length=n*sz)
theorem SlU.same{e:TypeId}{sz:Nat}{s s':St M}{sl:Value}{cs:List Value}{n:Nat}(h:SlU e sz s sl cs n)(hs:∀ q m c,sl = .slice (some q) m c→s'.at' q.block=s.at' q.block):SlU e sz s' sl cs n:=by
 rcases h with h|⟨b,c,h1,h2,h4⟩
 ·exact .inl h
 ·exact .inr ⟨b,c,h1,by rw[hs _ _ _ h1];exact h2,h4⟩
structure DictAt(lo:Nat)(s:St M)(p:Nat)(L:List (ByteArray×V3))(N:Nat)(O:Nat→Prop):Prop where
 own:∀ b,O b→lo≤b∧b<s.next
 pin:O p
 bl:∃ P m sl es clock kv,props P=L∧P.length≤N∧s.at' p=some (.cells [.map (some m),sl] 264 true)∧s.at' m=some (.map es clock)∧KV es kv∧KP kv P∧O m∧m≠p ∧
  SlU 292 5 s sl (plsCells P) P.length∧(∀ q n c,sl = .slice (some q) n c→O q.block∧q.block≠p∧q.block≠m)
theorem DictAt.same{lo:Nat}{s s':St M}{p:Nat}{L:List (ByteArray×V3)}{N:Nat}{O:Nat→Prop}(h:DictAt lo s p L N O)(hn:s.next≤s'.next)(hs:∀ b,O b→s'.at' b=s.at' b):DictAt lo s' p L N O:=by
 obtain⟨h1,h2,P,m,sl,es,clock,kv,h3,hN,h4,h5,h6,h7,h8,h9,h10,h11⟩:=h
 exact⟨fun b hb=>⟨(h1 b hb).1,by have:=(h1 b hb).2;omega⟩,h2,P,m,sl,es,clock,kv,h3,hN,by rw[hs _ h2];exact h4,by rw[hs _ h8];exact h5,h6,h7,h8,h9,h10.same fun q n c e=>hs _ (h11 q n c e).1,h11⟩
def getP:List (ByteArray×V3)→ByteArray→Option V3
 | [],_=>none
 |(y,v)::L,x=>if y=x then some v else getP L x
def vOf(v:V3):Value:=vA v.1 v.2.1 v.2.2
def gotV(o:Option V3):Value:=match o with
 |some v => .tuple #[vOf v,.bool true]
 |none => .tuple #[vA 0 0 ⟨#[]⟩,.bool false]
theorem ddead_spec{p:Nat}{m:Nat}{sl:Value}(h0:s.at' p=some (.cells [.map (some m),sl] 264 true))(h:R (.bool false) s):QC Tryz.prog w0 228 #[.pointer (some ⟨p,0,none⟩)] s R:=by
 refine wfun2 hmix ok228 func228 rfl ntmps228 results228 (by simp) ?_
 simp -implicitDefEqProofs only[↓Zd,(Zp),Zr,simprocAttr,qP,Value.cells,cut,qC,cld2,underlying3,underlying4,underlying9,underlying5,underlying38,underlying0,be4,bn4,underlying238,h0,nf177,nf238,fa264x0,ag238]
 exact h
theorem dnew_spec(h:∀ s' p,DictAt s.next s' p [] 0 (fun b=>s.next≤b∧b<s'.next)→s.le s'→R (.pointer (some ⟨p,0,none⟩)) s'):QC Tryz.prog w0 134 #[] s R:=by
 refine wfun2 hmix ok134 func134 rfl ntmps134 results134 (by simp) ?_
 have hb:∀ m:Nat,cbuild Tryz.prog 264 #[(0,.map (some m))]=some (.agg #[.map (some m),.slice none 0 0]):=fun m=>by kernel_rfl
 simp -implicitDefEqProofs only[↓Zd,(Zp),Zr,simprocAttr,qP,Value.cells,cut,qC,cld2,underlying3,underlying4,underlying9,underlying5,underlying38,underlying0,be4,bn4,underlying238,hb,is264]
 refine h _ _ ⟨fun b hb=>hb,by simp,[],s.next,.slice none 0 0,[],0,[],rfl,Nat.le_refl _,by simp,by simp,.nil,.nil,⟨by omega,by simp only[St.next_new];omega⟩,by simp,.inl ⟨rfl,rfl,rfl⟩,fun q n c e=>by cases e⟩ (by repeat (first|exact lR _|assumption|refine lN ?_|refine lP ?_ (by first|omega|(simp only[(Sn)];omega))|refine lT ?_ (by assumption)))
theorem get_props{kv:List (ByteArray×Nat)}{P:List Pl}(h:KP kv P)(x:ByteArray):getP (props P) x=match kvIdx kv x with
  |some (_,j)=>(match P[j]? with|some (some (_,v))=>some v|_=>none)
  |none=>none:=by
 have key:∀ (P:List Pl),(∀ (j k:Nat) (v w:V3),P[j]?=some (some (x,v))→P[k]?=some (some (x,w))→j=k)→(∀ v:V3,getP (props P) x=some v↔∃ j:Nat,P[j]?=some (some (x,v))):=by
  intro P
  induction P with
  |nil=>intro _ v;simp[props,getP]
  |cons p P ih =>
   intro hu v
   have ih:=ih (fun j k v w a b=>by have:=hu (j+1) (k+1) v w (by simpa using a) (by simpa using b);omega) v
   cases p with
   |none =>
    show getP (props P) x=some v↔_
    rw[ih]
    constructor
    ·rintro⟨j,hj⟩;exact⟨j+1,by simpa using hj⟩
    ·rintro⟨j,hj⟩
     cases j with
     |zero=>simp at hj
     |succ j=>exact⟨j,by simpa using hj⟩
   |some q =>
    obtain⟨y,u⟩:=q
    show getP ((y,u)::props P) x=some v↔_
    simp only[getP]
    by_cases e:y=x
    ·subst e
     rw[if_pos rfl]
     constructor
     ·intro e;cases e;exact⟨0,rfl⟩
     ·rintro⟨j,hj⟩
      have:=hu 0 j u v rfl hj
      subst this
      simp at hj
      rw[hj]
    ·rw[if_neg e,ih]
     constructor
     ·rintro⟨j,hj⟩;exact⟨j+1,by simpa using hj⟩
     ·rintro⟨j,hj⟩
      cases j with
      |zero=>simp at hj;exact absurd hj.1 e
      |succ j=>exact⟨j,by simpa using hj⟩
 have hu:∀ (j k:Nat) (v w:V3),P[j]?=some (some (x,v))→P[k]?=some (some (x,w))→j=k:=fun j k v w a b=>h.one ((h.mem x j).2 ⟨v,a⟩) ((h.mem x k).2 ⟨w,b⟩)
 cases hi:kvIdx kv x with
 |none =>
  simp only
  cases hg:getP (props P) x with
  |none=>rfl
  |some v =>
   obtain⟨j,hj⟩:=(key P hu v).1 hg
   exact absurd hj (h.no hi j v)
 |some ij =>
  obtain⟨i,j⟩:=ij
  obtain⟨v,hv⟩:=h.idx hi
  simp only[hv]
  exact (key P hu v).2 ⟨j,hv⟩
theorem bVal:cbuild Tryz.prog 31 #[]=some (.agg #[.int .i64 0,.int .i64 0,.string (ByteArray.mk #[])]):=by kernel_rfl
theorem zc5:∀ (P:List Pl) (j:Nat) (x:ByteArray) (k n:Int) (y:ByteArray) (junk:List Value),P[j]?=some (some (x,k,n,y))→j*5+4≤(plsCells P++junk).length∧List.take 3 (List.drop (j*5+1) (plsCells P++junk))=[.int .i64 k,.int .i64 n,.string y]:=by
 intro P j x k n y junk h
 have hlt:=(List.getElem?_eq_some_iff.1 h).1
 have hl:=plsCells_len P
 refine⟨by rw[List.length_append];omega,?_⟩
 have g:∀ i:Nat,i<5→(plsCells P++junk)[j*5+i]?=[Value.string x,.int .i64 k,.int .i64 n,.string y,.bool true][i]?:=by
  intro i hi
  rw[List.getElem?_append_left (by omega),plsCells_get P j i _ h hi]
  rfl
 apply List.ext_getElem?
 intro i
 rw[List.getElem?_take]
 by_cases hi:i<3
 ·rw[if_pos hi,List.getElem?_drop,show j*5+1+i=j*5+(i+1) from by omega,g (i+1) (by omega)]
  have:i=0∨i=1∨i=2:=by omega
  rcases this with rfl|rfl|rfl<;>rfl
 ·rw[if_neg hi,List.getElem?_eq_none (by simp;omega)]
set_option maxHeartbeats 4000000 in
theorem dget_spec{lo p:Nat}{L:List (ByteArray×V3)}{N:Nat}{x:ByteArray}{O:Nat→Prop}(hD:DictAt lo s p L N O)(h:∀ s',s.le s'→R (gotV (getP L x)) s'):QC Tryz.prog w0 269 #[.pointer (some ⟨p,0,none⟩),.string x] s R:=by
 refine wfun2 hmix ok269 func269 rfl ntmps269 results269 (by simp) ?_
 obtain⟨h1,h2,P,m,sl,es,clock,kv,h3,hN,h4,h5,h6,h7,h8,h9,h10,h11⟩:=hD
 have hp:=(h1 p h2).2
 have hm:=(h1 m h8).2
 have hpn:¬ p=s.next:=by omega
 have hmn:¬ m=s.next:=by omega
 simp -implicitDefEqProofs only[↓Zd,(Zp),Zr,simprocAttr,qP,Value.cells,cut,qC,cld2,underlying3,underlying4,underlying9,underlying31,vA,is31,ag31,ce31,fa31x0,fa31x1,fa31x2,ag3,ce3,ag9,ce9,underlying3,underlying4,underlying9,underlying5,underlying38,underlying0,be4,bn4,ze31,co228]
 refine ddead_spec (m:=m) (sl:=sl) (by rw[St.at_new,if_neg hpn];exact h4) ?_
 subst h3
 have hcf:=cfind_kv h6 x
 rw[get_props h7]at h
 cases hi:kvIdx kv x with
 |none =>
  rw[hi]at h hcf
  simp -implicitDefEqProofs only[↓Zd,(Zp),Zr,simprocAttr,qP,Value.cells,cut,qC,cld2,underlying3,underlying4,underlying9,underlying31,vA,is31,ag31,ce31,fa31x0,fa31x1,fa31x2,ag3,ce3,ag9,ce9,underlying3,underlying4,underlying9,underlying5,underlying38,underlying0,be4,bn4,underlying238,underlying265,h4,h5,hpn,hmn,hcf,bVal,sz31,ze3,fa264x0,ag238]
  exact h _ (by repeat (first|exact lR _|assumption|refine lN ?_|refine lP ?_ (by first|omega|(simp only[(Sn)];omega))|refine lT ?_ (by assumption)))
 |some ij =>
  obtain⟨i,j⟩:=ij
  obtain⟨⟨k,n,y⟩,hv⟩:=h7.idx hi
  rw[hi]at h hcf
  simp only[hv]at h
  have hlt:=(List.getElem?_eq_some_iff.1 hv).1
  rcases h10 with ⟨e0,_⟩|⟨b,junk,rfl,hb,hl⟩
  ·omega
  have hbn:¬ b=s.next:=by have:=(h1 b (h11 _ _ _ rfl).1).2;omega
  have hlt':(j:Int)<(P.length:Int):=by omega
  have hge:(0:Int)≤(j:Int):=by omega
  obtain⟨hle,htk⟩:=zc5 P j x k n y junk hv
  simp -implicitDefEqProofs only[↓Zd,(Zp),Zr,simprocAttr,qP,Value.cells,cut,qC,cld2,underlying3,underlying4,underlying9,underlying31,vA,is31,ag31,ce31,fa31x0,fa31x1,fa31x2,ag3,ce3,ag9,ce9,underlying3,underlying4,underlying9,underlying5,underlying38,underlying0,be4,bn4,underlying238,underlying265,underlying262,underlying292,h4,h5,hpn,hmn,hcf,sz31,ze3,fa264x0,fa264x1,fa292x1,ag238,ag262,sz292,hlt',hge,Int.toNat_natCast,hb,hbn,hle,htk,Nat.zero_add]
  exact h _ (by repeat (first|exact lR _|assumption|refine lN ?_|refine lP ?_ (by first|omega|(simp only[(Sn)];omega))|refine lT ?_ (by assumption)))
end
end Go.Proofs.Tryz
namespace Go.Proofs.Tryz
open Go.Cs
open Go.RowKit (Below)
set_option maxRecDepth 100000
attribute [local irreducible] QC WLoop WScope
def setP:List (ByteArray×V3)→ByteArray→V3→List (ByteArray×V3)
 | [],x,v=>[(x,v)]
 |(y,w)::L,x,v=>if y=x then (x,v)::L else (y,w)::setP L x v
theorem setP_none:∀ (L:List (ByteArray×V3)) (x:ByteArray) (v:V3),getP L x=none→setP L x v=L ++ [(x,v)]:=by
 intro L
 induction L with
 |nil=>intro x v _;rfl
 |cons p L ih =>
  intro x v h
  obtain⟨y,w⟩:=p
  simp only[getP]at h
  simp only[setP]
  split at h
  ·cases h
  ·rename_i e;rw[if_neg e,ih x v h];rfl
theorem props_set:∀ (P:List Pl) (j:Nat) (x:ByteArray) (v w:V3),P[j]?=some (some (x,w))→(∀ (k:Nat) (u:V3),P[k]?=some (some (x,u))→k=j)→props (P.set j (some (x,v)))=setP (props P) x v:=by
 intro P
 induction P with
 |nil=>intro j x v w h;simp at h
 |cons p P ih =>
  intro j x v w h hu
  cases j with
  |zero =>
   simp at h
   subst h
   show (x,v)::props P=setP ((x,w)::props P) x v
   simp[setP]
  |succ j =>
   have ih:=ih j x v w (by simpa using h) (fun k u hk=>by have:=hu (k+1) u (by simpa using hk);omega)
   cases p with
   |none=>exact ih
   |some q =>
    obtain⟨y,u⟩:=q
    have hne:¬ y=x:=fun e=>by subst e;have:=hu 0 u rfl;omega
    show (y,u)::props (P.set j (some (x,v)))=setP ((y,u)::props P) x v
    simp only[setP,if_neg hne,ih]
theorem props_app(P:List Pl)(x:ByteArray)(v:V3):props (P ++ [some (x,v)])=props P ++ [(x,v)]:=by
 unfold props;simp
theorem set_pls:∀ (P:List Pl) (j:Nat) (x:ByteArray) (w:V3) (k n:Int) (y:ByteArray) (junk:List Value),P[j]?=some (some (x,w)) →
  setCells (plsCells P++junk) (j*5+1) [.int .i64 k,.int .i64 n,.string y]=plsCells (P.set j (some (x,k,n,y)))++junk:=by
 intro P j x w k n y junk h
 simp only[setCells_cons,setCells_nil]
 apply List.ext_getElem?
 intro i
 have hlt:=(List.getElem?_eq_some_iff.1 h).1
 have hl:=plsCells_len P
 have hl2:=plsCells_len (P.set j (some (x,k,n,y)))
 rw[List.length_set]at hl2
 by_cases hi:i<P.length*5
 ·rw[List.getElem?_append_left (by omega)]
  obtain⟨q,r,rfl,hr⟩:∃ q r,i=q*5+r∧r<5:=⟨i / 5,i % 5,by omega,Nat.mod_lt _ (by omega)⟩
  have hq:q<P.length:=by omega
  have hP:P[q]?=some P[q]:=by simp[hq]
  have base:(plsCells P++junk)[q*5+r]?=(plCells P[q])[r]?:=by rw[List.getElem?_append_left (by omega)];exact plsCells_get P q r _ hP hr
  by_cases e:q=j
  ·subst e
   rw[hP]at h
   simp at h
   rw[plsCells_get _ q r (some (x,k,n,y)) (by simp[hq]) hr]
   rw[h]at base
   have:r=0∨r=1∨r=2∨r=3∨r=4:=by omega
   have hlen:q*5+4<(plsCells P++junk).length:=by rw[List.length_append];omega
   rcases this with rfl|rfl|rfl|rfl|rfl
   ·rw[List.getElem?_set_ne (by omega),List.getElem?_set_ne (by omega),List.getElem?_set_ne (by omega),base];rfl
   ·rw[List.getElem?_set_ne (by omega),List.getElem?_set_ne (by omega),List.getElem?_set_self (by omega)];rfl
   ·rw[List.getElem?_set_ne (by omega),show q*5+2=q*5+1+1 from rfl,List.getElem?_set_self (by rw[List.length_set];omega)];rfl
   ·rw[show q*5+3=q*5+1+1+1 from rfl,List.getElem?_set_self (by rw[List.length_set,List.length_set];omega)];rfl
   ·rw[List.getElem?_set_ne (by omega),List.getElem?_set_ne (by omega),List.getElem?_set_ne (by omega),base];rfl
  ·rw[plsCells_get _ q r P[q] (by rw[List.getElem?_set,if_neg (Ne.symm e)];exact hP) hr,← base]
   rw[List.getElem?_set_ne (by omega),List.getElem?_set_ne (by omega),List.getElem?_set_ne (by omega)]
 ·rw[List.getElem?_append_right (by omega),hl2]
  rw[List.getElem?_set_ne (by omega),List.getElem?_set_ne (by omega),List.getElem?_set_ne (by omega),List.getElem?_append_right (by omega),hl]
section
variable {M:Type}[Mem M]{w0:World}{s:St M}{R:Value→St M→Prop}
theorem app_rowU{P:Program}{s:St M}{e t1 t2:TypeId}{ie:TypeInfo}{z sl v:Value}{old new:List Value}{n k:Nat}(hie:P.info? e=some ie)(hz:czero P e=some z)(hzs:z.cells.size=ie.size)(hb:0<ie.bytes)
  (happ:capp P #[t1,t2] #[sl,v] s=capp3 P e ie sl s (cmore ie.size v s))(hk:k≠0)(hlen:(n+k)*ie.bytes≤140737488355328)(hok:new.all qC=true)(hv:cmore ie.size v s=some (k,new))(hsl:SlU e ie.size s sl old n) :
  ∃ s',capp P #[t1,t2] #[sl,v] s=some (.slice (some ⟨s.next,0,none⟩) (n+k) UNK,s')∧s'.next=s.next+1∧s'.at' s.next=some (.cells (old++new) e true) ∧
   (∀ b,b≠s.next→(∀ q m c,sl = .slice (some q) m c→b≠q.block)→s'.at' b=s.at' b):=by
 rw[happ,hv]
 unfold capp3
 simp only[hok,Bool.true_eq_false,if_false]
 rcases hsl with ⟨rfl,rfl,rfl⟩|⟨b,junk,rfl,hb',hl⟩
 ·simp only[hk,if_false]
  unfold cgrow
  rw[hz]
  simp only[hzs]
  rw[if_pos ⟨trivial,hb,by simpa using hlen⟩]
  exact⟨s.new (.cells new e true),by simp,by simp,by simp,fun c hc _=>by rw[St.at_new,if_neg hc]⟩
 ·have hcut:cut (old++junk) 0 (n*ie.size)=some old:=by
   unfold cut
   rw[if_pos (by rw[List.length_append];omega),List.drop_zero,← hl,List.take_left']
   rfl
  simp only[if_true,hk,if_false,hb']
  unfold capp4
  simp only[hcut,Nat.zero_mod,and_self,if_true]
  unfold cgrow
  rw[hz]
  simp only[hzs]
  rw[if_pos ⟨trivial,hb,hlen⟩]
  refine⟨(s.kill b).new (.cells (old++new) e true),by simp,by simp,by simp,fun c hc hq=>?_⟩
  rw[St.at_new,St.next_kill,if_neg hc,St.at_kill,if_neg (hq _ _ _ rfl)]
theorem bPlace(x:ByteArray)(k n:Int)(y:ByteArray):cbuild Tryz.prog 292 #[(0,.string x),(1,.agg #[.int .i64 k,.int .i64 n,.string y]),(2,.bool true)]=some (.agg #[.string x,.int .i64 k,.int .i64 n,.string y,.bool true]):=by kernel_rfl
theorem rowPlace(x:ByteArray)(k n:Int)(y:ByteArray):crow Tryz.prog 262 1 #[(0,.agg #[.string x,.int .i64 k,.int .i64 n,.string y,.bool true])]=some (.cells [.string x,.int .i64 k,.int .i64 n,.string y,.bool true] 292 true):=by kernel_rfl
theorem infoPlace:∃ ie,Tryz.prog.info? 292=some ie∧ie.size=5∧0<ie.bytes∧ie.bytes≤100:=by
 obtain⟨ie,h⟩:=Option.isSome_iff_exists.1 is292
 have h1:=ce292
 have h2:decide (0<Tryz.prog.bytesOf 292∧Tryz.prog.bytesOf 292≤100)=true:=by kernel_rfl
 rw[cellsOf_info h]at h1
 simp only[Program.bytesOf,h,decide_eq_true_eq]at h2
 exact⟨ie,h,h1,h2.1,h2.2⟩
theorem app_place{s:St M}{sl:Value}{P:List Pl}{x:ByteArray}{k n:Int}{y:ByteArray}(hlen:P.length≤1000000)(hsl:SlU 292 5 s sl (plsCells P) P.length)(hfr:∀ q m c,sl = .slice (some q) m c→q.block<s.next) :
  ∃ s',capp Tryz.prog #[262,262] #[sl,.slice (some ⟨s.next,0,none⟩) 1 1] (s.new (.cells [.string x,.int .i64 k,.int .i64 n,.string y,.bool true] 292 true))=some (.slice (some ⟨s.next+1,0,none⟩) (P.length+1) UNK,s')∧s'.next=s.next+2 ∧
   s'.at' (s.next+1)=some (.cells (plsCells (P ++ [some (x,k,n,y)])) 292 true)∧(∀ b,b<s.next→(∀ q n c,sl = .slice (some q) n c→b≠q.block)→s'.at' b=s.at' b):=by
 obtain⟨ie,hie,h1,h2,h3⟩:=infoPlace
 have hcapp:capp Tryz.prog #[262,262] #[sl,.slice (some ⟨s.next,0,none⟩) 1 1] (s.new (.cells [.string x,.int .i64 k,.int .i64 n,.string y,.bool true] 292 true))=capp3 Tryz.prog 292 ie sl (s.new (.cells [.string x,.int .i64 k,.int .i64 n,.string y,.bool true] 292 true)) (cmore ie.size (.slice (some ⟨s.next,0,none⟩) 1 1) (s.new (.cells [.string x,.int .i64 k,.int .i64 n,.string y,.bool true] 292 true))):=
  app_eq underlying262 underlying262 hie
 have hv:cmore ie.size (.slice (some ⟨s.next,0,none⟩) 1 1) (s.new (.cells [.string x,.int .i64 k,.int .i64 n,.string y,.bool true] 292 true))=some (1,[.string x,.int .i64 k,.int .i64 n,.string y,.bool true]):=by
  simp only[more_at,St.at_new,if_true,more2,h1];rfl
 obtain⟨s',h3,h4,h5,h6⟩:=app_rowU (n:=P.length) (k:=1) hie ze292 (by rw[h1];rfl) h2 hcapp (by omega) (by
  have:(P.length+1)*ie.bytes≤1000001*100:=Nat.mul_le_mul (by omega) h3
  omega) rfl hv (by rw[h1];exact hsl.same fun q m c e=>by rw[St.at_new,if_neg (by have:=hfr q m c e;omega)])
 refine⟨s',by simpa using h3,by simp at h4;omega,by rw[plsCells_app];exact h5,fun b hb hq=>?_⟩
 rw[h6 b (by simp;omega) hq,St.at_new,if_neg (by omega)]
set_option maxHeartbeats 8000000 in
theorem dset_spec{lo p:Nat}{L:List (ByteArray×V3)}{N:Nat}{x:ByteArray}{k n:Int}{y:ByteArray}{O:Nat→Prop}(hD:DictAt lo s p L N O)(hlo:lo≤s.next)(hN:N≤1000000)
  (h:∀ s' O',DictAt lo s' p (setP L x (k,n,y)) (N+1) O'→s.next≤s'.next→(∀ b,b<s.next→¬ O b→s'.at' b=s.at' b)→(∀ b,O' b→O b∨s.next≤b)→R (.bool (getP L x).isNone) s') :
  QC Tryz.prog w0 166 #[.pointer (some ⟨p,0,none⟩),.string x,vA k n y] s R:=by
 refine wfun2 hmix ok166 func166 rfl ntmps166 results166 (by simp) ?_
 obtain⟨h1,h2,P,m,sl,es,clock,kv,h3,hPN,h4,h5,h6,h7,h8,h9,h10,h11⟩:=hD
 have hp:=(h1 p h2).2
 have hm:=(h1 m h8).2
 have hpn:¬ p=s.next:=by omega
 have hmn:¬ m=s.next:=by omega
 simp -implicitDefEqProofs only[↓Zd,(Zp),Zr,simprocAttr,qP,Value.cells,cut,qC,cld2,underlying3,underlying4,underlying9,underlying31,vA,is31,ag31,ce31,fa31x0,fa31x1,fa31x2,ag3,ce3,ag9,ce9,underlying3,underlying4,underlying9,underlying5,underlying38,underlying0,be4,bn4,co228]
 refine ddead_spec (m:=m) (sl:=sl) (by rw[St.at_new,if_neg hpn];exact h4) ?_
 subst h3
 have hcf:=cfind_kv h6 x
 have hg:=get_props h7 x
 cases hi:kvIdx kv x with
 |some ij =>
  obtain⟨i,j⟩:=ij
  obtain⟨v0,hv⟩:=h7.idx hi
  rw[hi]at hcf hg
  simp only[hv]at hg
  rw[hg]at h
  have hlt:=(List.getElem?_eq_some_iff.1 hv).1
  rcases h10 with ⟨e0,_⟩|⟨b,junk,rfl,hb,hl⟩
  ·omega
  have hbO:=h11 _ _ _ rfl
  have hbn:¬ b=s.next:=by have:=(h1 b hbO.1).2;omega
  have hlt':(j:Int)<(P.length:Int):=by omega
  have hge:(0:Int)≤(j:Int):=by omega
  obtain⟨hle,_⟩:=zc5 P j x v0.1 v0.2.1 v0.2.2 junk hv
  have hset:=set_pls P j x v0 k n y junk hv
  simp -implicitDefEqProofs only[↓Zd,(Zp),Zr,simprocAttr,qP,Value.cells,cut,qC,cld2,underlying3,underlying4,underlying9,underlying31,vA,is31,ag31,ce31,fa31x0,fa31x1,fa31x2,ag3,ce3,ag9,ce9,underlying3,underlying4,underlying9,underlying5,underlying38,underlying0,be4,bn4,underlying238,underlying265,underlying262,underlying292,ord166,h4,h5,hpn,hmn,hcf,sz31,ze3,fa264x0,fa264x1,fa292x1,ag238,ag262,sz292,hlt',hge,Int.toNat_natCast,hb,hbn,hle,hset,Nat.zero_add]
  have hpb:¬ p=b:=fun e=>hbO.2.1 e.symm
  have hmb:¬ m=b:=fun e=>hbO.2.2 e.symm
  refine h _ O ⟨fun c hc=>⟨(h1 c hc).1,by have:=(h1 c hc).2;simp only[(Sn)];omega⟩,h2,P.set j (some (x,k,n,y)),m,_,es,clock,kv,props_set P j x _ v0 hv (fun q u hq=>h7.one ((h7.mem x q).2 ⟨u,hq⟩) ((h7.mem x j).2 ⟨v0,hv⟩)),
   by rw[List.length_set];omega,?_,?_,h6,h7.put hi _,h8,h9,.inr ⟨b,junk,by rw[List.length_set],?_,by rw[plsCells_len,List.length_set]⟩,h11⟩ (by simp only[(Sn)];omega) ?_ (fun c hc => .inl hc)
  ·rw[St.at_put,if_neg hpb,St.at_new,if_neg hpn];exact h4
  ·rw[St.at_put,if_neg hmb,St.at_new,if_neg hmn];exact h5
  ·rw[St.at_put,if_pos rfl]
  ·intro c hc ho
   rw[St.at_put,if_neg (fun e:c=b=>ho (e▸hbO.1)),St.at_new,if_neg (by omega)]
 |none =>
  rw[hi]at hcf hg
  simp only at hg
  rw[hg]at h
  have hmap:s.at' m=some (.map es clock):=h5
  have h10':SlU 292 5 ((s.new (.cells [.int .i64 k,.int .i64 n,.string y] 31 true)).put m (.map (es ++ [{ key := .string x,val := .int .i64 (P.length:Int),born:=clock }]) (clock+1))) sl (plsCells P) P.length:=
   h10.same fun q a c e=>by rw[St.at_put,if_neg (h11 q a c e).2.2,St.at_new,if_neg (by have:=(h1 _ (h11 q a c e).1).2;omega)]
  obtain⟨s3,happ,hn3,hat3,hk3⟩:=app_place (x:=x) (k:=k) (n:=n) (y:=y) (by omega) h10' (fun q a c e=>by have:=(h1 _ (h11 q a c e).1).2;simp only[(Sn)];omega)
  simp only[(Sn)]at happ hn3 hat3 hk3
  have hmp:¬ m=p:=h9
  have hpm:¬ p=m:=fun e=>h9 e.symm
  have hp3:s3.at' p=some (.cells [.map (some m),sl] 264 true):=by rw[hk3 p (by omega) (fun q a c e e2=>(h11 q a c e).2.1 e2.symm),St.at_put,if_neg hpm,St.at_new,if_neg hpn];exact h4
  have hnm:¬ s.next=m:=fun e=>hmn e.symm
  have hnp:¬ s.next=p:=fun e=>hpn e.symm
  obtain⟨a0,c0,rfl⟩:∃ a0 c0,sl = .slice a0 P.length c0:=by
   rcases h10 with ⟨e0,_,rfl⟩|⟨b,junk,rfl,_⟩
   ·exact⟨none,0,by rw[e0]⟩
   ·exact⟨_,_,rfl⟩
  simp -implicitDefEqProofs only[↓Zd,(Zp),Zr,simprocAttr,qP,Value.cells,cut,qC,cld2,underlying3,underlying4,underlying9,underlying31,vA,is31,ag31,ce31,fa31x0,fa31x1,fa31x2,ag3,ce3,ag9,ce9,underlying3,underlying4,underlying9,underlying5,underlying38,underlying0,be4,bn4,underlying238,underlying265,underlying262,underlying292,ord166,h4,h5,hpn,hmn,hmp,hpm,hnm,hnp,hcf,sz31,ze3,fa264x0,fa264x1,fa292x1,ag238,ag262,sz262,bPlace,rowPlace,happ,hp3]
  rw[setP_none _ _ _ hg]at h
  have hb2:∀ q a c,Value.slice a0 P.length c0 = .slice (some q) a c→O q.block∧q.block≠p∧q.block≠m:=h11
  refine h _ (fun b=>b=p∨b=m∨b=s.next+2) ⟨?_,.inl rfl,P ++ [some (x,k,n,y)],m,.slice (some ⟨s.next+2,0,none⟩) (P.length+1) UNK,es ++ [{ key := .string x,val := .int .i64 (P.length:Int),born:=clock }],clock+1,kv ++ [(x,P.length)],props_app P x (k,n,y),(by rw[List.length_append];simp only[List.length_cons,List.length_nil];omega),?_,?_,h6.app,h7.app hi (k,n,y),.inr (.inl rfl),h9,.inr ⟨s.next+2,[],by simp,?_,plsCells_len _⟩,?_⟩ ?_ ?_ ?_
  ·rintro b (rfl|rfl|rfl)
   ·exact⟨(h1 _ h2).1,by simp only[St.next_put];omega⟩
   ·exact⟨(h1 _ h8).1,by simp only[St.next_put];omega⟩
   ·exact⟨by omega,by simp only[St.next_put];omega⟩
  ·rw[St.at_put,if_pos rfl]
  ·rw[St.at_put,if_neg hmp,hk3 m (by omega) (fun q a c e e2=>(h11 q a c e).2.2 e2.symm),St.at_put,if_pos rfl]
  ·rw[St.at_put,if_neg (by omega),List.append_nil]
   exact hat3
  ·intro q a c e
   cases e
   exact⟨.inr (.inr rfl),by show s.next+2≠p;omega,by show s.next+2≠m;omega⟩
  ·simp only[St.next_put];omega
  ·intro b hb ho
   rw[St.at_put,if_neg (fun e:b=p=>ho (e▸h2)),hk3 b (by omega) (fun q a c e e2=>ho (e2▸(h11 q a c e).1)),St.at_put,if_neg (fun e:b=m=>ho (e▸h8)),St.at_new,if_neg (by omega)]
  ·rintro b (rfl|rfl|rfl)
   ·exact .inl h2
   ·exact .inl h8
   ·exact .inr (by omega)
end
end Go.Proofs.Tryz
namespace Go.Proofs.Tryz
open Go.Cs
open Go.RowKit (Below)
set_option maxRecDepth 100000
attribute [local irreducible] QC WLoop WScope
def Uniq(P:List Pl):Prop:=∀ (j k:Nat) (x:ByteArray) (v w:V3),P[j]?=some (some (x,v))→P[k]?=some (some (x,w))→j=k
theorem KP.uniq{kv:List (ByteArray×Nat)}{P:List Pl}(h:KP kv P):Uniq P:=fun j k x v w a b=>h.one ((h.mem x j).2 ⟨v,a⟩) ((h.mem x k).2 ⟨w,b⟩)
theorem mem_props{P:List Pl}{x:ByteArray}:x∈(props P).map (·.1)↔∃ (j:Nat) (v:V3),P[j]?=some (some (x,v)):=by
 unfold props
 rw[List.mem_map]
 constructor
 ·rintro⟨⟨y,v⟩,hm,rfl⟩
  obtain⟨p,hp,e⟩:=List.mem_filterMap.1 hm
  simp only[id]at e
  subst e
  obtain⟨j,hj⟩:=List.getElem?_of_mem hp
  exact⟨j,v,hj⟩
 ·rintro⟨j,v,hj⟩
  exact⟨(x,v),List.mem_filterMap.2 ⟨some (x,v),List.mem_of_getElem? hj,rfl⟩,rfl⟩
theorem uniq_tail{p:Pl}{P:List Pl}(h:Uniq (p::P)):Uniq P:=fun j k x v w a b=>by
 have:=h (j+1) (k+1) x v w (by simpa using a) (by simpa using b)
 omega
theorem nodup_props:∀ {P:List Pl},Uniq P→((props P).map (·.1)).Nodup:=by
 intro P
 induction P with
 |nil=>intro _;exact List.nodup_nil
 |cons p P ih =>
  intro h
  cases p with
  |none=>exact ih (uniq_tail h)
  |some q =>
   obtain⟨x,v⟩:=q
   show (x::(props P).map (·.1)).Nodup
   rw[List.nodup_cons]
   refine⟨fun hm=>?_,ih (uniq_tail h)⟩
   obtain⟨j,w,hj⟩:=mem_props.1 hm
   have:=h 0 (j+1) x v w rfl (by simpa using hj)
   omega
theorem KP.len{kv:List (ByteArray×Nat)}{P:List Pl}(h:KP kv P):kv.length=(props P).length:=by
 have hp:(kv.map (·.1)).Perm ((props P).map (·.1)):=by
  rw[List.perm_ext_iff_of_nodup h.nodup (nodup_props h.uniq)]
  intro x
  rw[mem_props,List.mem_map]
  constructor
  ·rintro⟨⟨y,j⟩,hm,rfl⟩
   obtain⟨v,hv⟩:=(h.mem y j).1 hm
   exact⟨j,v,hv⟩
  ·rintro⟨j,v,hv⟩
   exact⟨(x,j),(h.mem x j).2 ⟨v,hv⟩,rfl⟩
 have:=hp.length_eq
 simpa using this
theorem zp5(P:List Pl)(j:Nat)(p:Pl)(junk:List Value)(h:P[j]?=some p):j*5+5≤(plsCells P++junk).length∧List.take 5 (List.drop (j*5) (plsCells P++junk))=plCells p:=by
 have hlt:=(List.getElem?_eq_some_iff.1 h).1
 have hl:=plsCells_len P
 refine⟨by rw[List.length_append];omega,?_⟩
 apply List.ext_getElem?
 intro i
 rw[List.getElem?_take]
 by_cases hi:i<5
 ·rw[if_pos hi,List.getElem?_drop,List.getElem?_append_left (by omega),plsCells_get P j i p h hi]
 ·rw[if_neg hi,List.getElem?_eq_none (by rw[plCells_len];omega)]
section
variable {M:Type}[Mem M]{w0:World}{s:St M}{R:Value→St M→Prop}
theorem dlen_spec{lo p:Nat}{L:List (ByteArray×V3)}{N:Nat}{O:Nat→Prop}(hD:DictAt lo s p L N O)(h:R (.int .i64 (L.length:Int)) s):QC Tryz.prog w0 270 #[.pointer (some ⟨p,0,none⟩)] s R:=by
 refine wfun2 hmix ok270 func270 rfl ntmps270 results270 (by simp) ?_
 obtain⟨h1,h2,P,m,sl,es,clock,kv,h3,hPN,h4,h5,h6,h7,h8,h9,h10,h11⟩:=hD
 have hl:es.length=L.length:=by rw[h6.1,h7.len,h3]
 have hlen1:clen (some (.map 9 3)) (some (.map (some m)))=none:=rfl
 have hlen2:clenM s (some (.map 9 3)) (some (.map (some m)))=some (.int .i64 (L.length:Int)):=by simp only[clenM,h5,hl]
 simp -implicitDefEqProofs only[↓Zd,(Zp),Zr,simprocAttr,qP,Value.cells,cut,qC,cld2,underlying3,underlying4,underlying9,underlying5,underlying38,underlying0,be4,bn4,co228]
 refine ddead_spec h4 ?_
 simp -implicitDefEqProofs only[↓Zd,(Zp),Zr,simprocAttr,qP,Value.cells,cut,qC,cld2,underlying3,underlying4,underlying9,underlying5,underlying38,underlying0,be4,bn4,underlying238,h4,h5,hlen1,hlen2,fa264x0,ag238]
 exact h
def keyV(L:List (ByteArray×V3))(i:Int):Value:=if 0≤i∧i<L.length then .tuple #[.string (L.getD i.toNat (⟨#[]⟩,0,0,⟨#[]⟩)).1,.bool true] else .tuple #[.string ⟨#[]⟩,.bool false]
set_option maxHeartbeats 4000000 in
theorem dkey_spec{lo p:Nat}{L:List (ByteArray×V3)}{N:Nat}{i:Int}{O:Nat→Prop}(hD:DictAt lo s p L N O)(hN:N≤1000000)(hi : -9223372036854775808≤i∧i≤9223372036854775807)(h:∀ s',s.le s'→R (keyV L i) s'):QC Tryz.prog w0 261 #[.pointer (some ⟨p,0,none⟩),.int .i64 i] s R:=by
 refine wfun2 hmix ok261 func261 rfl ntmps261 results261 (by simp) ?_
 obtain⟨h1,h2,P,m,sl,es,clock,kv,h3,hPN,h4,h5,h6,h7,h8,h9,h10,h11⟩:=hD
 have hl:es.length=L.length:=by rw[h6.1,h7.len,h3]
 have hlen1:clen (some (.map 9 3)) (some (.map (some m)))=none:=rfl
 have hlen2:clenM s (some (.map 9 3)) (some (.map (some m)))=some (.int .i64 (L.length:Int)):=by simp only[clenM,h5,hl]
 simp -implicitDefEqProofs only[↓Zd,(Zp),Zr,simprocAttr,qP,Value.cells,cut,qC,cld2,underlying3,underlying4,underlying9,underlying5,underlying38,underlying0,be4,bn4,co228]
 refine ddead_spec h4 ?_
 by_cases hneg:i<0
 ·simp -implicitDefEqProofs only[↓Zd,(Zp),Zr,simprocAttr,qP,Value.cells,cut,qC,cld2,underlying3,underlying4,underlying9,underlying5,underlying38,underlying0,be4,bn4,hneg]
  have:=h s (lR _)
  unfold keyV at this
  rw[if_neg (by omega)]at this
  exact this
 by_cases hbig:(L.length:Int)≤i
 ·simp -implicitDefEqProofs only[↓Zd,(Zp),Zr,simprocAttr,qP,Value.cells,cut,qC,cld2,underlying3,underlying4,underlying9,underlying5,underlying38,underlying0,be4,bn4,underlying238,h4,h5,hlen1,hlen2,hneg,hbig,fa264x0,ag238]
  have:=h s (lR _)
  unfold keyV at this
  rw[if_neg (by omega)]at this
  exact this
 obtain⟨i',rfl⟩:∃ i':Nat,i=(i':Int):=⟨i.toNat,by omega⟩
 have hi':i' < L.length:=by omega
 rcases h10 with ⟨e0,_⟩|⟨b,junk,rfl,hb,hlb⟩
 ·have:P=[]:=List.eq_nil_of_length_eq_zero e0
  subst this
  subst h3
  simp[props]at hi'
 have hbO:=h1 b (h11 _ _ _ rfl).1
 simp -implicitDefEqProofs only[↓Zd,(Zp),Zr,simprocAttr,qP,Value.cells,cut,qC,cld2,underlying3,underlying4,underlying9,underlying5,underlying38,underlying0,be4,bn4,underlying238,underlying262,h4,h5,hlen1,hlen2,hneg,hbig,fa264x0,fa264x1,ag238,ag262]
 refine wloop_fix hmix [29,30,31,7,32,33,34,35,36,37,38,4,5,39,40,1,41,28] (fun fuel env s'=>∃ q r:Nat,fuel=P.length - q∧env 28 = .int .i64 (q:Int)∧env 1 = .int .i64 (r:Int)∧(props (P.drop q))[r]?=L[i']?∧s.le s') (P.length - 0) ?_ ?_
 ·exact⟨0,i',rfl,rfl,rfl,by rw[List.drop_zero,h3],lR _⟩
 ·rintro fuel env s' hF ⟨q,r,rfl,e28,e1,hq,hs⟩
  have hsn:=hs.1
  have e26:env 26 = .slice (some ⟨b,0,none⟩) P.length UNK:=by rw[hF 26 rfl];rfl
  have e27:env 27 = .int .i64 (P.length:Int):=by rw[hF 27 rfl];rfl
  have hlt:q<P.length:=by
   rcases Nat.lt_or_ge q P.length with h'|h'
   ·exact h'
   ·rw[List.drop_eq_nil_of_le h']at hq
    simp[props]at hq
    omega
  have hlt':(q:Int)<(P.length:Int):=by omega
  have hge:(0:Int)≤(q:Int):=by omega
  have hb':s'.at' b=some (.cells (plsCells P++junk) 292 true):=by rw[hs.2 b hbO.2];exact hb
  have w1:IntKind.i64.wrap ((q:Int)+1)=((q+1:Nat):Int):=by rw[wrap_i64 (by omega)];omega
  rw[List.drop_eq_getElem_cons hlt]at hq
  obtain⟨hle5,htk5⟩:=zp5 P q P[q] junk (by simp[hlt])
  cases hp:P[q] with
  |none =>
   rw[hp]at hq htk5
   simp only[plCells]at htk5
   have hq':(props (P.drop (q+1)))[r]?=L[i']?:=hq
   simp -implicitDefEqProofs only[↓Zd,(Zp),Zr,simprocAttr,qP,Value.cells,cut,qC,cld2,underlying3,underlying4,underlying9,underlying5,underlying38,underlying0,be4,bn4,underlying262,underlying292,e1,e26,e27,e28,hlt',hge,Int.toNat_natCast,hb',hle5,htk5,Nat.zero_add,Nat.add_zero,sz292,ag292,ce292,ze292,fa292x0,fa292x2,ag4,ag9,w1]
   refine⟨?_,P.length - (q+1),by omega,q+1,r,rfl,rfl,rfl,hq',(by repeat (first|exact lR _|assumption|refine lN ?_|refine lP ?_ (by first|omega|(simp only[(Sn)];omega))|refine lT ?_ (by assumption)))⟩
   repeat (first|exact hF|refine Fix.upd (by decide) ?_)
  |some u =>
   obtain⟨x,k,n,y⟩:=u
   rw[hp]at hq htk5
   simp only[plCells]at htk5
   have hq':((x,k,n,y)::props (P.drop (q+1)))[r]?=L[i']?:=hq
   cases r with
   |zero =>
    simp -implicitDefEqProofs only[↓Zd,(Zp),Zr,simprocAttr,qP,Value.cells,cut,qC,cld2,underlying3,underlying4,underlying9,underlying5,underlying38,underlying0,be4,bn4,underlying262,underlying292,e1,e26,e27,e28,hlt',hge,Int.toNat_natCast,hb',hle5,htk5,Nat.zero_add,Nat.add_zero,sz292,ag292,ce292,ze292,fa292x0,fa292x2,ag4,ag9,w1]
    have hx:keyV L (i':Int) = .tuple #[.string x,.bool true]:=by
     unfold keyV
     rw[if_pos ⟨by omega,by omega⟩,Int.toNat_natCast,List.getD_eq_getElem?_getD,← hq']
     rfl
    rw[hx]at h
    exact h _ (by repeat (first|exact lR _|assumption|refine lN ?_|refine lP ?_ (by first|omega|(simp only[(Sn)];omega))|refine lT ?_ (by assumption)))
   |succ r =>
    have hr0:¬ ((r+1:Nat):Int)=0:=by omega
    have hrb:r<P.length:=by
     have h9:(props (P.drop (q+1))).length≤(P.drop (q+1)).length:=List.length_filterMap_le id _
     rw[List.length_drop]at h9
     rcases Nat.lt_or_ge r P.length with h'|h'
     ·exact h'
     ·have e9:L[i']?=some L[i']:=by simp[hi']
      rw[List.getElem?_cons_succ,List.getElem?_eq_none (by omega),e9]at hq'
      cases hq'
    have w2:IntKind.i64.wrap (((r+1:Nat):Int) - 1)=(r:Int):=by rw[wrap_i64 (by omega)];omega
    simp -implicitDefEqProofs only[↓Zd,(Zp),Zr,simprocAttr,qP,Value.cells,cut,qC,cld2,underlying3,underlying4,underlying9,underlying5,underlying38,underlying0,be4,bn4,hr0,w2,underlying262,underlying292,e1,e26,e27,e28,hlt',hge,Int.toNat_natCast,hb',hle5,htk5,Nat.zero_add,Nat.add_zero,sz292,ag292,ce292,ze292,fa292x0,fa292x2,ag4,ag9,w1]
    refine⟨?_,P.length - (q+1),by omega,q+1,r,rfl,rfl,rfl,by simpa using hq',(by repeat (first|exact lR _|assumption|refine lN ?_|refine lP ?_ (by first|omega|(simp only[(Sn)];omega))|refine lT ?_ (by assumption)))⟩
    repeat (first|exact hF|refine Fix.upd (by decide) ?_)
end
end Go.Proofs.Tryz
namespace Go.Proofs.Tryz
open Go.Cs
open Go.RowKit (Below)
def pressed(P:List Pl):List Pl:=P.filter Option.isSome
theorem props_pressed(P:List Pl):props (pressed P)=props P:=by
 induction P with
 |nil=>rfl
 |cons p P ih =>
  cases p with
  |none=>exact ih
  |some q =>
   show q::props (pressed P)=q::props P
   rw[ih]
theorem pressed_full{P:List Pl}{j:Nat}{p:Pl}(h:(pressed P)[j]?=some p):∃ q,p=some q:=by
 have:=(List.mem_filter.1 (List.mem_of_getElem? h)).2
 exact Option.isSome_iff_exists.1 this
theorem pressed_uniq:∀ {P:List Pl},Uniq P→Uniq (pressed P):=by
 intro P h j k x v w a b
 have hn:((props (pressed P)).map (·.1)).Nodup:=by rw[props_pressed];exact nodup_props h
 have key:∀ (Q:List Pl),(∀ p∈Q,p.isSome=true)→((props Q).map (·.1)).Nodup→∀ (j k:Nat) (v w:V3),Q[j]?=some (some (x,v))→Q[k]?=some (some (x,w))→j=k:=by
  intro Q
  induction Q with
  |nil=>intro _ _ j k v w a;simp at a
  |cons p Q ih =>
   intro hs hn j k v w a b
   obtain⟨⟨y,u⟩,rfl⟩:=Option.isSome_iff_exists.1 (hs p (by simp))
   have hn':(y::(props Q).map (·.1)).Nodup:=hn
   rw[List.nodup_cons]at hn'
   have mem:∀ (i:Nat) (t:V3),Q[i]?=some (some (x,t))→x∈(props Q).map (·.1):=fun i t h=>mem_props.2 ⟨i,t,h⟩
   cases j with
   |zero =>
    simp at a
    cases k with
    |zero=>rfl
    |succ k=>exact absurd (mem k w (by simpa using b)) (by rw[← a.1];exact hn'.1)
   |succ j =>
    cases k with
    |zero =>
     simp at b
     exact absurd (mem j v (by simpa using a)) (by rw[← b.1];exact hn'.1)
    |succ k=>rw[ih (fun p hp=>hs p (by simp[hp])) hn'.2 j k v w (by simpa using a) (by simpa using b)]
 exact key (pressed P) (fun p hp=>(List.mem_filter.1 hp).2) hn j k v w a b
structure KQ(kv0 kv:List (ByteArray×Nat))(Q:List Pl)(q:Nat):Prop where
 nd:(kv0.map (·.1)).Nodup
 keys:kv.map (·.1)=kv0.map (·.1)
 val:∀ (i:Nat) (x:ByteArray) (j:Nat),kv[i]?=some (x,j)→(j<q∧∃ v,Q[j]?=some (some (x,v)))∨(∀ (k:Nat) (v:V3),k<q→Q[k]?≠some (some (x,v)))
theorem KQ.start{kv0:List (ByteArray×Nat)}(hn:(kv0.map (·.1)).Nodup)(Q:List Pl):KQ kv0 kv0 Q 0:=⟨hn,rfl,fun i x j _ => .inr fun k v hk=>by omega⟩
theorem kvIdx_mem:∀ {kv:List (ByteArray×Nat)}{x:ByteArray},x∈kv.map (·.1)→∃ i j,kvIdx kv x=some (i,j):=by
 intro kv
 induction kv with
 |nil=>intro x h;cases h
 |cons p kv ih =>
  intro x h
  obtain⟨y,j⟩:=p
  unfold kvIdx
  by_cases e:y=x
  ·rw[if_pos e];exact⟨_,_,rfl⟩
  ·rw[if_neg e]
   rcases List.mem_cons.1 h with e2|h
   ·exact absurd e2.symm e
   ·obtain⟨i,j',hij⟩:=ih h
    rw[hij]
    exact⟨_,_,rfl⟩
theorem KQ.apart{kv0 kv:List (ByteArray×Nat)}{Q:List Pl}{q:Nat}(h:KQ kv0 kv Q q){i k:Nat}{x:ByteArray}{a b:Nat}(h1:kv[k]?=some (x,a))(h2:kv[i]?=some (x,b)):k=i:=by
 have hn:(kv.map (·.1)).Nodup:=by rw[h.keys];exact h.nd
 have l1:=(List.getElem?_eq_some_iff.1 h1).1
 have l2:=(List.getElem?_eq_some_iff.1 h2).1
 have e1:(kv.map (·.1))[k]'(by simpa using l1)=(kv.map (·.1))[i]'(by simpa using l2):=by
  simp only[List.getElem_map]
  rw[(List.getElem?_eq_some_iff.1 h1).2,(List.getElem?_eq_some_iff.1 h2).2]
 exact (List.getElem_inj hn).1 e1
theorem KQ.step{kv0 kv:List (ByteArray×Nat)}{Q:List Pl}{q i j0:Nat}{x:ByteArray}{v:V3}(h:KQ kv0 kv Q q)(hQ:Uniq Q)(hq:Q[q]?=some (some (x,v)))(hi:kvIdx kv x=some (i,j0)):KQ kv0 (kv.set i (x,q)) Q (q+1):=by
 have hat:=kvIdx_some hi
 have hlt:=(List.getElem?_eq_some_iff.1 hat).1
 refine⟨h.nd,?_,fun k y j hk=>?_⟩
 ·rw[List.map_set,← h.keys]
  apply List.ext_getElem?
  intro k
  rw[List.getElem?_set]
  split
  ·rename_i e
   subst e
   simp[hlt]
   exact ((Prod.ext_iff.1 (List.getElem?_eq_some_iff.1 hat).2).1).symm
  ·rfl
 ·rw[List.getElem?_set]at hk
  split at hk
  ·rename_i e
   subst e
   simp only[hlt,if_true,Option.some.injEq,Prod.mk.injEq]at hk
   obtain⟨rfl,rfl⟩:=hk
   exact .inl ⟨by omega,v,hq⟩
  ·rename_i e
   rcases h.val k y j hk with ⟨h1,h2⟩|h1
   ·exact .inl ⟨by omega,h2⟩
   ·by_cases hy:y=x
    ·subst hy
     right
     intro k' v' hk' hc
     by_cases h0:k' < q
     ·exact h1 k' v' h0 hc
     ·have:k'=q:=by omega
      subst this
      exact e (h.apart hk hat).symm
    ·right
     intro k' v' hk' hc
     by_cases h0:k' < q
     ·exact h1 k' v' h0 hc
     ·have:k'=q:=by omega
      subst this
      rw[hq]at hc
      simp at hc
      exact hy hc.1.symm
theorem KQ.done{kv0 kv:List (ByteArray×Nat)}{P:List Pl}(h0:KP kv0 P)(h:KQ kv0 kv (pressed P) (pressed P).length):KP kv (pressed P):=by
 have hU:=pressed_uniq h0.uniq
 refine⟨by rw[h.keys];exact h.nd,fun x j=>?_⟩
 have hnames:∀ x,x∈kv.map (·.1)↔∃ (k:Nat) (v:V3),(pressed P)[k]?=some (some (x,v)):=by
  intro x
  rw[h.keys,← mem_props,props_pressed,mem_props,List.mem_map]
  constructor
  ·rintro⟨⟨y,k⟩,hm,rfl⟩
   obtain⟨v,hv⟩:=(h0.mem y k).1 hm
   exact⟨k,v,hv⟩
  ·rintro⟨k,v,hv⟩
   exact⟨(x,k),(h0.mem x k).2 ⟨v,hv⟩,rfl⟩
 constructor
 ·intro hm
  obtain⟨i,hi⟩:=List.getElem?_of_mem hm
  rcases h.val i x j hi with ⟨_,h2⟩|h2
  ·exact h2
  ·obtain⟨k,v,hv⟩:=(hnames x).1 (List.mem_map_of_mem (f:=(·.1)) hm)
   exact absurd hv (h2 k v (List.getElem?_eq_some_iff.1 hv).1)
 ·rintro⟨v,hv⟩
  obtain⟨⟨y,j'⟩,hm,e⟩:=List.mem_map.1 ((hnames x).2 ⟨j,v,hv⟩)
  simp only at e
  subst e
  obtain⟨i,hi⟩:=List.getElem?_of_mem hm
  rcases h.val i y j' hi with ⟨_,w,hw⟩|h2
  ·have:=hU j' j y w v hw hv
   rw[← this];exact hm
  ·exact absurd hv (h2 j v (List.getElem?_eq_some_iff.1 hv).1)
def delP:List (ByteArray×V3)→ByteArray→List (ByteArray×V3)
 | [],_=>[]
 |(y,w)::L,x=>if y=x then L else (y,w)::delP L x
theorem props_del:∀ (P:List Pl) (j:Nat) (x:ByteArray) (w:V3),P[j]?=some (some (x,w))→(∀ (k:Nat) (u:V3),P[k]?=some (some (x,u))→k=j)→props (P.set j none)=delP (props P) x:=by
 intro P
 induction P with
 |nil=>intro j x w h;simp at h
 |cons p P ih =>
  intro j x w h hu
  cases j with
  |zero =>
   simp at h
   subst h
   show props P=delP ((x,w)::props P) x
   simp[delP]
  |succ j =>
   have ih:=ih j x w (by simpa using h) (fun k u hk=>by have:=hu (k+1) u (by simpa using hk);omega)
   cases p with
   |none=>exact ih
   |some q =>
    obtain⟨y,u⟩:=q
    have hne:¬ y=x:=fun e=>by subst e;have:=hu 0 u rfl;omega
    show (y,u)::props (P.set j none)=delP ((y,u)::props P) x
    simp only[delP,if_neg hne,ih]
end Go.Proofs.Tryz
namespace Go.Proofs.Tryz
open Go.Cs
open Go.RowKit (Below)
set_option maxRecDepth 100000
attribute [local irreducible] QC WLoop WScope
section
variable {M:Type}[Mem M]{w0:World}{s:St M}{R:Value→St M→Prop}
theorem hole_spec{p:Pl}(h:∀ s',s.le s'→R (.bool p.isNone) s'):QC Tryz.prog w0 284 #[.agg (plCells p).toArray] s R:=by
 refine wfun2 hmix ok284 func284 rfl ntmps284 results284 (by simp) ?_
 cases p with
 |none =>
  simp only[plCells]
  simp -implicitDefEqProofs only[↓Zd,(Zp),Zr,simprocAttr,qP,Value.cells,cut,qC,cld2,underlying3,underlying4,underlying9,underlying5,underlying38,underlying0,be4,bn4,underlying292,is292,ag292,ce292,fa292x2,ag4]
  exact h _ (by repeat (first|exact lR _|assumption|refine lN ?_|refine lP ?_ (by first|omega|(simp only[(Sn)];omega))|refine lT ?_ (by assumption)))
 |some q =>
  obtain⟨x,k,n,y⟩:=q
  simp only[plCells]
  simp -implicitDefEqProofs only[↓Zd,(Zp),Zr,simprocAttr,qP,Value.cells,cut,qC,cld2,underlying3,underlying4,underlying9,underlying5,underlying38,underlying0,be4,bn4,underlying292,is292,ag292,ce292,fa292x2,ag4]
  exact h _ (by repeat (first|exact lR _|assumption|refine lN ?_|refine lP ?_ (by first|omega|(simp only[(Sn)];omega))|refine lT ?_ (by assumption)))
set_option maxHeartbeats 4000000 in
theorem ixf_spec{P:List Pl}{b:Nat}{junk:List Value}(hb:s.at' b=some (.cells (plsCells P++junk) 292 true))(hbn:b<s.next)(hN:P.length≤1000001)
  (h:∀ s' (j:Nat),s.le s'→P[j]?=some none→(∀ k,k<j→P[k]?≠some none)→R (.int .i64 (j:Int)) s')(h':∀ s',s.le s'→(∀ k:Nat,P[k]?≠some none)→R (.int .i64 (-1)) s') :
  QC Tryz.prog w0 291 #[.slice (some ⟨b,0,none⟩) P.length UNK,.func (.func 284) #[] #[]] s R:=by
 refine wfun2 hmix ok291 func291 rfl ntmps291 results291 (by simp) ?_
 simp -implicitDefEqProofs only[↓Zd,(Zp),Zr,simprocAttr,qP,Value.cells,cut,qC,cld2,underlying3,underlying4,underlying9,underlying5,underlying38,underlying0,be4,bn4,underlying262]
 refine wloop_fix hmix [9,10,5,11,12,13,14,15,16,17,4,18,8] (fun fuel env s'=>∃ q:Nat,fuel=P.length - q∧q≤P.length∧env 8 = .int .i64 (q:Int)∧(∀ k:Nat,k<q→P[k]?≠some none)∧s.le s') (P.length - 0) ?_ ?_
 ·exact⟨0,rfl,by omega,rfl,fun k hk=>by omega,lR _⟩
 ·rintro fuel env s' hF ⟨q,rfl,hqP,e8,hno,hs⟩
  have hsn:=hs.1
  have e0:env 0 = .slice (some ⟨b,0,none⟩) P.length UNK:=by rw[hF 0 rfl];rfl
  have e1:env 1 = .func (.func 284) #[] #[]:=by rw[hF 1 rfl];rfl
  have e7:env 7 = .int .i64 (P.length:Int):=by rw[hF 7 rfl];rfl
  by_cases hlt:q<P.length
  ·have hlt':(q:Int)<(P.length:Int):=by omega
   have hge:(0:Int)≤(q:Int):=by omega
   have hb':s'.at' b=some (.cells (plsCells P++junk) 292 true):=by rw[hs.2 b hbn];exact hb
   have w1:IntKind.i64.wrap ((q:Int)+1)=((q+1:Nat):Int):=by rw[wrap_i64 (by omega)];omega
   obtain⟨hle5,htk5⟩:=zp5 P q P[q] junk (by simp[hlt])
   simp -implicitDefEqProofs only[↓Zd,(Zp),Zr,simprocAttr,qP,Value.cells,cut,qC,cld2,underlying3,underlying4,underlying9,underlying5,underlying38,underlying0,be4,bn4,underlying262,underlying292,e0,e1,e7,e8,hlt',hge,Int.toNat_natCast,hb',hle5,htk5,Nat.zero_add,Nat.add_zero,sz292,ag292,ce292,calv co284]
   refine hole_spec fun s2 hs2=>?_
   have hs02:s.le s2:=lT hs hs2
   cases hp:P[q] with
   |none =>
    simp -implicitDefEqProofs only[↓Zd,(Zp),Zr,simprocAttr,qP,Value.cells,cut,qC,cld2,underlying3,underlying4,underlying9,underlying5,underlying38,underlying0,be4,bn4,Option.isNone_none]
    exact h _ q hs02 (by simp[hlt,hp]) hno
   |some u =>
    simp -implicitDefEqProofs only[↓Zd,(Zp),Zr,simprocAttr,qP,Value.cells,cut,qC,cld2,underlying3,underlying4,underlying9,underlying5,underlying38,underlying0,be4,bn4,Option.isNone_some,w1,e8]
    refine⟨?_,P.length - (q+1),by omega,q+1,rfl,by omega,rfl,fun k hk=>?_,hs02⟩
    ·repeat (first|exact hF|refine Fix.upd (by decide) ?_)
    ·by_cases e:k<q
     ·exact hno k e
     ·have:k=q:=by omega
      subst this
      simp[hlt,hp]
  ·have hlt':¬ (q:Int)<(P.length:Int):=by omega
   simp -implicitDefEqProofs only[↓Zd,(Zp),Zr,simprocAttr,qP,Value.cells,cut,qC,cld2,underlying3,underlying4,underlying9,underlying5,underlying38,underlying0,be4,bn4,e7,e8,hlt']
   refine h' _ hs fun k hk=>?_
   have:=(List.getElem?_eq_some_iff.1 hk).1
   exact hno k (by omega) hk
end
end Go.Proofs.Tryz
namespace Go.Proofs.Tryz
open Go.Cs
open Go.RowKit (Below)
set_option maxRecDepth 100000
attribute [local irreducible] QC WLoop WScope
theorem setCells_eq:∀ (l vs:List Value) (o:Nat),o+l.length≤vs.length→setCells vs o l=vs.take o++l++vs.drop (o+l.length):=by
 intro l
 induction l with
 |nil=>intro vs o h;simp[setCells_nil]
 |cons c l ih =>
  intro vs o h
  simp only[List.length_cons]at h
  rw[setCells_cons,ih _ _ (by rw[List.length_set];omega)]
  apply List.ext_getElem?
  intro i
  have hl:(vs.take o).length=o:=by simp;omega
  have hl2:((vs.set o c).take (o+1)).length=o+1:=by simp;omega
  simp only[List.append_assoc]
  by_cases h1:i<o
  ·rw[List.getElem?_append_left (by omega),List.getElem?_append_left (by omega),List.getElem?_take,List.getElem?_take,if_pos h1,if_pos (by omega),List.getElem?_set_ne (by omega)]
  ·rw[List.getElem?_append_right (l₁:=vs.take o) (by omega),hl]
   by_cases h2:i=o
   ·subst h2
    rw[List.getElem?_append_left (by omega),List.getElem?_take,if_pos (by omega),List.getElem?_set_self (by omega),Nat.sub_self]
    rfl
   ·rw[List.getElem?_append_right (by omega),hl2,show i - o=(i - (o+1))+1 from by omega]
    show (l++List.drop (o+1+l.length) (vs.set o c))[i - (o+1)]?=(l++List.drop (o+(l.length+1)) vs)[i - (o+1)]?
    rw[show o+1+l.length=o+(l.length+1) from by omega]
    by_cases h3:i - (o+1)<l.length
    ·rw[List.getElem?_append_left h3,List.getElem?_append_left h3]
    ·rw[List.getElem?_append_right (by omega),List.getElem?_append_right (by omega),List.getElem?_drop,List.getElem?_drop,List.getElem?_set_ne (by omega)]
section
variable {M:Type}[Mem M]{w0:World}{s:St M}{R:Value→St M→Prop}
theorem cread_sl{P:Program}{ev:Operand→Value}{t e e':TypeId}{ie:TypeInfo}{x:Operand}{lo hi:Option Operand}{b n l h:Nat}{vs:List Value}{own:Bool}(hu:P.underlying t=some (.slice e))(hie:P.info? e=some ie)
  (hx:ev x = .slice (some ⟨b,0,none⟩) n UNK)(hhi:cbound (hi.map ev) n n=some h)(hlo:cbound (lo.map ev) 0 h=some l)(hat:s.at' b=some (.cells vs e' own))(hln:l<n)(hce:P.cellsOf e'=ie.size) :
  cread P ev s (.slice t x lo hi none)=some (.slice (some ((⟨b,0,none⟩:Addr).add (l*ie.size))) (h - l) UNK):=by
 unfold cread
 simp only[hu,hx,hie,hhi,hlo,hat,hln,hce,and_self,if_true]
structure Mid(P:List Pl)(junk C:List Value)(i q:Nat):Prop where
 lt:i<q
 len:C.length=(plsCells P++junk).length
 front:C.take (i*5)=plsCells (pressed (P.take q))
 back:C.drop (q*5)=(plsCells P++junk).drop (q*5)
 num:(pressed (P.take q)).length=i
theorem Mid.next{P:List Pl}{junk C:List Value}{i q:Nat}{u:ByteArray×V3}(h:Mid P junk C i q)(hq:P[q]?=some (some u)):Mid P junk (setCells C (i*5) (plCells (some u))) (i+1) (q+1):=by
 have hlt:=(List.getElem?_eq_some_iff.1 hq).1
 have hP:=plsCells_len P
 have hl:=h.len
 rw[List.length_append]at hl
 have hiq:=h.lt
 have htake:pressed (P.take (q+1))=pressed (P.take q) ++ [some u]:=by
  rw[List.take_add_one,hq]
  unfold pressed
  rw[List.filter_append]
  rfl
 have hlen5:(plCells (some u)).length=5:=plCells_len _
 have hfl:(C.take (i*5)).length=i*5:=by simp;omega
 rw[setCells_eq _ _ _ (by rw[hlen5];omega),hlen5]
 refine⟨by omega,?_,?_,?_,?_⟩
 ·simp only[List.length_append,List.length_take,List.length_drop,hlen5];omega
 ·rw[htake,plsCells_app,← h.front,show (i+1)*5=(C.take (i*5)++plCells (some u)).length from by rw[List.length_append,hfl,hlen5];omega,List.append_assoc,← List.append_assoc,List.take_left']
  rfl
 ·rw[List.drop_append,List.drop_eq_nil_of_le (by rw[List.length_append,hfl,hlen5];omega),List.nil_append,List.drop_drop,List.length_append,hfl,hlen5]
  have:(C.drop (q*5)).drop 5=((plsCells P++junk).drop (q*5)).drop 5:=by rw[h.back]
  rw[List.drop_drop,List.drop_drop]at this
  rw[show i*5+5+((q+1)*5 - (i*5+5))=q*5+5 from by omega,this]
  congr 1;omega
 ·rw[htake,List.length_append,h.num];rfl
theorem Mid.skip{P:List Pl}{junk C:List Value}{i q:Nat}(h:Mid P junk C i q)(hq:P[q]?=some none):Mid P junk C i (q+1):=by
 have htake:pressed (P.take (q+1))=pressed (P.take q):=by
  rw[List.take_add_one,hq]
  unfold pressed
  rw[List.filter_append]
  simp
 refine⟨by have:=h.lt;omega,h.len,by rw[htake];exact h.front,?_,by rw[htake];exact h.num⟩
 have:(C.drop (q*5)).drop 5=((plsCells P++junk).drop (q*5)).drop 5:=by rw[h.back]
 rw[List.drop_drop,List.drop_drop]at this
 rw[show (q+1)*5=q*5+5 from by omega]
 exact this
theorem Mid.start{P:List Pl}{junk:List Value}{j:Nat}(hj:P[j]?=some none)(hno:∀ k:Nat,k<j→P[k]?≠some none):Mid P junk (plsCells P++junk) j (j+1):=by
 have hlt:=(List.getElem?_eq_some_iff.1 hj).1
 have hall:pressed (P.take j)=P.take j:=by
  unfold pressed
  rw[List.filter_eq_self]
  intro p hp
  obtain⟨k,hk⟩:=List.getElem?_of_mem hp
  rw[List.getElem?_take]at hk
  split at hk
  ·cases p with
   |none=>exact absurd hk (hno k (by assumption))
   |some u=>rfl
  ·cases hk
 have htake:pressed (P.take (j+1))=P.take j:=by
  rw[List.take_add_one,hj]
  unfold pressed at hall ⊢
  rw[List.filter_append,hall]
  simp
 have hsplit:plsCells P=plsCells (P.take j)++plsCells (P.drop j):=by
  unfold plsCells
  rw[← List.flatMap_append,List.take_append_drop]
 have hl:(plsCells (P.take j)).length=j*5:=by rw[plsCells_len];simp;omega
 refine⟨by omega,rfl,?_,rfl,by rw[htake];simp;omega⟩
 rw[htake,hsplit,List.append_assoc,← hl,List.take_left']
 rfl
end
end Go.Proofs.Tryz
namespace Go.Proofs.Tryz
open Go.Cs
open Go.RowKit (Below)
set_option maxRecDepth 100000
attribute [local irreducible] QC WLoop WScope
section
variable {M:Type}[Mem M]{w0:World}{s:St M}{R:Value→St M→Prop}
theorem o_clear{P:Program}{d:Option Tmp}{ty:TypeId}{pos:String}{af:Array Edge}{g:Option (Nat×Bool)}{ev:Operand→Value}{K:Value→St M→Prop}{args:Array Operand}{ats:Array TypeId} :
  wop P w0 ⟨d,.call ⟨.builtin .clear,args,ats⟩,ty,pos,af,g⟩ ev s K=wch (ceff P ev s (.call ⟨.builtin .clear,args,ats⟩)) K:=rfl
theorem clear_places{C:List Value}{b i n:Nat}{ev:Operand→Value}{x:Operand}{K:Value→St M→Prop}(hC:s.at' b=some (.cells C 292 true))(hn:0<n)(hl:i*5+n*5≤C.length)(hx:ev x = .slice (some ⟨b,i*5,none⟩) n UNK)
  (h:∀ zs:List Value,zs.length=n*5→K undef (s.put b (.cells (setCells C (i*5) zs) 292 true))):wch (ceff Tryz.prog ev s (.call ⟨.builtin .clear,#[x],#[262]⟩)) K:=by
 obtain⟨z,hz,hzc⟩:∃ z,czero Tryz.prog 292=some z∧z.cells=#[.string ⟨#[]⟩,.int .i64 0,.int .i64 0,.string ⟨#[]⟩,.bool false]:=⟨_,ze292,rfl⟩
 have h5:z.cells.size=5:=by rw[hzc];rfl
 have hlen:(czeros z (n*5)).length=n*5:=by simp[czeros]
 have hok:(czeros z (n*5)).all qC=true:=by
  rw[List.all_eq_true]
  intro v hv
  unfold czeros at hv
  rw[Array.mem_toList_iff,Array.mem_map]at hv
  obtain⟨k,_,rfl⟩:=hv
  have:k % 5<5:=Nat.mod_lt _ (by omega)
  rw[h5,hzc]
  have h5:k % 5=0∨k % 5=1∨k % 5=2∨k % 5=3∨k % 5=4:=by omega
  rcases h5 with e|e|e|e|e<;>rw[e]<;>rfl
 refine⟨undef,_,?_,h _ hlen⟩
 unfold ceff
 simp only[List.getElem?_toArray,List.getElem?_cons_zero,Option.bind_some,Option.map_some,underlying262,hx]
 rw[if_neg (by omega),hz]
 simp only[h5]
 rw[if_neg (by omega)]
 unfold cstoreCells
 simp only[hC]
 rw[if_pos ⟨by rw[hlen];exact hl,hok⟩]
 rfl
set_option maxHeartbeats 8000000 in
theorem delf_spec{P:List Pl}{b:Nat}{junk:List Value}(hb:s.at' b=some (.cells (plsCells P++junk) 292 true))(hbn:b<s.next)(hN:P.length≤1000001)(hhole:∃ j:Nat,P[j]?=some none)
  (h:∀ s' junk',s.next≤s'.next→s'.at' b=some (.cells (plsCells (pressed P)++junk') 292 true)→(∀ c,c<s.next→c≠b→s'.at' c=s.at' c)→R (.slice (some ⟨b,0,none⟩) (pressed P).length UNK) s') :
  QC Tryz.prog w0 283 #[.slice (some ⟨b,0,none⟩) P.length UNK,.func (.func 284) #[] #[]] s R:=by
 refine wfun2 hmix ok283 func283 rfl ntmps283 results283 (by simp) ?_
 simp -implicitDefEqProofs only[↓Zd,(Zp),Zr,simprocAttr,qP,Value.cells,cut,qC,cld2,underlying3,underlying4,underlying9,underlying5,underlying38,underlying0,be4,bn4,underlying262,co291]
 refine ixf_spec hb hbn hN (fun s1 j hs1 hj hno=>?_) (fun s1 hs1 hno=>?_)
 case refine_2=>obtain⟨j,hj⟩:=hhole;exact absurd hj (hno j)
 have hjlt:=(List.getElem?_eq_some_iff.1 hj).1
 have hj1:¬ (j:Int) = -1:=by omega
 have w0':IntKind.i64.wrap ((j:Int)+1)=((j+1:Nat):Int):=by rw[wrap_i64 (by omega)];omega
 have hs1n:=hs1.1
 simp -implicitDefEqProofs only[↓Zd,(Zp),Zr,simprocAttr,qP,Value.cells,cut,qC,cld2,underlying3,underlying4,underlying9,underlying5,underlying38,underlying0,be4,bn4,underlying262,hj1,w0']
 refine wloop_fix hmix [16,17,18,19,22,23,24,25,7,26,27,28,29,30,31,32,33,34,35,5,20,21,6] (fun fuel env s'=>∃ (i q:Nat) (C:List Value),fuel=P.length - q∧q≤P.length∧env 5 = .int .i64 (i:Int)∧env 6 = .int .i64 (q:Int)∧Mid P junk C i q∧s1.next≤s'.next∧s'.at' b=some (.cells C 292 true)∧∀ c,c<s.next→c≠b→s'.at' c=s.at' c) (P.length - (j+1)) ?_ ?_
 ·exact⟨j,j+1,plsCells P++junk,rfl,by omega,rfl,rfl,.start hj hno,Nat.le_refl _,by rw[hs1.2 b hbn];exact hb,fun c hc _=>hs1.2 c hc⟩
 ·rintro fuel env s' hF ⟨i,q,C,rfl,hqP,e5,e6,hM,hn,hC,hfr⟩
  have e0:env 0 = .slice (some ⟨b,0,none⟩) P.length UNK:=by rw[hF 0 rfl];rfl
  have e1:env 1 = .func (.func 284) #[] #[]:=by rw[hF 1 rfl];rfl
  have hP5:=plsCells_len P
  have hCl:=hM.len
  rw[List.length_append]at hCl
  have hiq:=hM.lt
  have hbs':¬ b=s'.next:=by omega
  by_cases hlt:q<P.length
  ·have hlt':(q:Int)<(P.length:Int):=by omega
   have hge:(0:Int)≤(q:Int):=by omega
   have hilt:(i:Int)<(P.length:Int):=by omega
   have hige:(0:Int)≤(i:Int):=by omega
   have w1:IntKind.i64.wrap ((q:Int)+1)=((q+1:Nat):Int):=by rw[wrap_i64 (by omega)];omega
   have w2:IntKind.i64.wrap ((i:Int)+1)=((i+1:Nat):Int):=by rw[wrap_i64 (by omega)];omega
   have hpq:P[q]?=some P[q]:=by simp[hlt]
   obtain⟨hle5,htk5⟩:=zp5 P q P[q] junk hpq
   rw[← hM.back]at htk5
   have hle5':q*5+5≤C.length:=by omega
   have hle6:i*5+5≤C.length:=by omega
   cases hp:P[q] with
   |none =>
    rw[hp]at htk5 hpq
    simp only[plCells]at htk5
    simp -implicitDefEqProofs only[↓Zd,(Zp),Zr,simprocAttr,qP,Value.cells,cut,qC,cld2,underlying3,underlying4,underlying9,underlying5,underlying38,underlying0,be4,bn4,underlying262,underlying292,e0,e1,e5,e6,hlt',hge,Int.toNat_natCast,hC,hbs',hle5',htk5,Nat.zero_add,Nat.add_zero,sz292,ag292,ce292,ze292,calv co284]
    refine hole_spec (p:=none) fun s2 hs2=>?_
    have hs2n:=hs2.1
    simp only[(Sn)]at hs2n
    simp -implicitDefEqProofs only[↓Zd,(Zp),Zr,simprocAttr,qP,Value.cells,cut,qC,cld2,underlying3,underlying4,underlying9,underlying5,underlying38,underlying0,be4,bn4,Option.isNone_none,e6,w1]
    refine⟨?_,P.length - (q+1),by omega,i,q+1,C,rfl,by omega,e5,rfl,hM.skip hpq,by omega,?_,fun c hc hcb=>?_⟩
    ·repeat (first|exact hF|refine Fix.upd (by decide) ?_)
    ·rw[hs2.2 b (by simp only[(Sn)];omega),St.at_put,if_neg hbs',St.at_new,if_neg hbs'];exact hC
    ·rw[hs2.2 c (by simp only[(Sn)];omega),St.at_put,if_neg (by omega),St.at_new,if_neg (by omega)];exact hfr c hc hcb
   |some u =>
    rw[hp]at htk5 hpq
    have hMn:=hM.next hpq
    obtain⟨x,k,n,y⟩:=u
    simp only[plCells]at htk5 hMn
    simp -implicitDefEqProofs only[↓Zd,(Zp),Zr,simprocAttr,qP,Value.cells,cut,qC,cld2,underlying3,underlying4,underlying9,underlying5,underlying38,underlying0,be4,bn4,underlying262,underlying292,e0,e1,e5,e6,hlt',hge,Int.toNat_natCast,hC,hbs',hle5',htk5,Nat.zero_add,Nat.add_zero,sz292,ag292,ce292,ze292,calv co284]
    refine hole_spec (p:=some (x,k,n,y)) fun s2 hs2=>?_
    have hs2n:=hs2.1
    simp only[(Sn)]at hs2n
    have hC2:s2.at' b=some (.cells C 292 true):=by rw[hs2.2 b (by simp only[(Sn)];omega),St.at_put,if_neg hbs',St.at_new,if_neg hbs'];exact hC
    have hV2:s2.at' s'.next=some (.cells [.string x,.int .i64 k,.int .i64 n,.string y,.bool true] 292 true):=by rw[hs2.2 _ (by simp only[(Sn)];omega),St.at_put,if_pos rfl]
    simp -implicitDefEqProofs only[↓Zd,(Zp),Zr,simprocAttr,qP,Value.cells,cut,qC,cld2,underlying3,underlying4,underlying9,underlying5,underlying38,underlying0,be4,bn4,underlying262,underlying292,Option.isNone_some,e0,e5,e6,w1,w2,hilt,hige,hC2,hV2,hle6,Int.toNat_natCast,Nat.zero_add,Nat.add_zero,sz292,ag292,ce292]
    refine⟨?_,P.length - (q+1),by omega,i+1,q+1,_,rfl,by omega,rfl,rfl,hMn,?_,?_,fun c hc hcb=>?_⟩
    ·repeat (first|exact hF|refine Fix.upd (by decide) ?_)
    ·omega
    ·rfl
    ·rw[if_neg hcb,hs2.2 c (by simp only[(Sn)];omega),St.at_put,if_neg (by omega),St.at_new,if_neg (by omega)];exact hfr c hc hcb
  ·have hlt':¬ (q:Int)<(P.length:Int):=by omega
   simp -implicitDefEqProofs only[↓Zd,(Zp),Zr,simprocAttr,qP,Value.cells,cut,qC,cld2,underlying3,underlying4,underlying9,underlying5,underlying38,underlying0,be4,bn4,underlying262,e0,e5,e6,hlt']
   obtain⟨ie,hie,hsz,_⟩:=infoPlace
   have hqe:q=P.length:=by omega
   have hce:Tryz.prog.cellsOf 292=ie.size:=by rw[hsz];exact ce292
   refine .inr ⟨_,cread_sl (l:=i) (h:=P.length) underlying262 hie rfl rfl (by show (if 0≤(i:Int)∧(i:Int)≤(P.length:Int) then some (i:Int).toNat else none)=some i;rw[if_pos ⟨by omega,by omega⟩,Int.toNat_natCast]) hC (by omega) hce,?_⟩
   rw[hsz]
   have hadd:(⟨b,0,none⟩:Addr).add (i*5)=⟨b,i*5,none⟩:=by rw[addr_add_mk,Nat.zero_add]
   rw[hadd]
   simp -implicitDefEqProofs only[↓Zd,(Zp),Zr,simprocAttr,qP,Value.cells,cut,qC,cld2,underlying3,underlying4,underlying9,underlying5,underlying38,underlying0,be4,bn4,underlying262,o_clear]
   refine clear_places hC (by omega) (by have:=plsCells_len P;omega) rfl (fun zs hzl=>?_)
   simp -implicitDefEqProofs only[↓Zd,(Zp),Zr,simprocAttr,qP,Value.cells,cut,qC,cld2,underlying3,underlying4,underlying9,underlying5,underlying38,underlying0,be4,bn4,underlying262,e0,e5]
   refine .inr ⟨_,cread_sl (l:=0) (h:=i) underlying262 hie rfl (by show (if 0≤(i:Int)∧(i:Int)≤(P.length:Int) then some (i:Int).toNat else none)=some i;rw[if_pos ⟨by omega,by omega⟩,Int.toNat_natCast]) rfl (by rw[St.at_put,if_pos rfl]) (by omega) hce,?_⟩
   rw[Nat.zero_mul,addr_add_mk,Nat.sub_zero]
   simp -implicitDefEqProofs only[↓Zd,(Zp),Zr,simprocAttr,qP,Value.cells,cut,qC,cld2,underlying3,underlying4,underlying9,underlying5,underlying38,underlying0,be4,bn4,underlying262]
   have hfull:pressed (P.take q)=pressed P:=by rw[hqe,List.take_length]
   have hnum:=hM.num
   have hfront:=hM.front
   rw[hfull]at hnum hfront
   subst hnum
   refine h _ (zs++C.drop ((pressed P).length*5+zs.length)) (by simp only[St.next_put];omega) ?_ (fun c hc hcb=>?_)
   ·rw[St.at_put,if_pos rfl,setCells_eq _ _ _ (by rw[hzl];omega),hfront,List.append_assoc]
   ·rw[St.at_put,if_neg hcb];exact hfr c hc hcb
end
end Go.Proofs.Tryz
namespace Go.Proofs.Tryz
open Go.Cs
open Go.RowKit (Below)
set_option maxRecDepth 100000
attribute [local irreducible] QC WLoop WScope
theorem hole_of_few{P:List Pl}(h:(props P).length<P.length):∃ j:Nat,P[j]?=some none:=by
 induction P with
 |nil=>simp[props]at h
 |cons p P ih =>
  cases p with
  |none=>exact⟨0,rfl⟩
  |some q =>
   have h:(props P).length+1<P.length+1:=h
   obtain⟨j,hj⟩:=ih (by omega)
   exact⟨j+1,by simpa using hj⟩
section
variable {M:Type}[Mem M]{w0:World}{s:St M}{R:Value→St M→Prop}
set_option maxHeartbeats 8000000 in
theorem press_spec{lo p:Nat}{L:List (ByteArray×V3)}{N:Nat}{O:Nat→Prop}(hD:DictAt lo s p L N O)(hN:N≤1000001)
  (h:∀ s',DictAt lo s' p L N O→s.next≤s'.next→(∀ b,b<s.next→¬ O b→s'.at' b=s.at' b)→R (.tuple #[]) s') :
  QC Tryz.prog w0 271 #[.pointer (some ⟨p,0,none⟩)] s R:=by
 refine wfun2 hmix ok271 func271 rfl ntmps271 results271 (by simp) ?_
 have hD0:=hD
 obtain⟨h1,h2,P,m,sl,es,clock,kv,h3,hPN,h4,h5,h6,h7,h8,h9,h10,h11⟩:=hD
 have hp:=(h1 p h2).2
 have hm:=(h1 m h8).2
 have hl:es.length=L.length:=by rw[h6.1,h7.len,h3]
 have hlen1:clen (some (.map 9 3)) (some (.map (some m)))=none:=rfl
 have hlen2:clenM s (some (.map 9 3)) (some (.map (some m)))=some (.int .i64 (L.length:Int)):=by simp only[clenM,h5,hl]
 have hLP:L.length≤P.length:=by rw[← h3];exact List.length_filterMap_le id P
 obtain⟨a0,c0,rfl⟩:∃ a0 c0,sl = .slice a0 P.length c0:=by
  rcases h10 with ⟨e0,_,rfl⟩|⟨b,junk,rfl,_⟩
  ·exact⟨none,0,by rw[e0]⟩
  ·exact⟨_,_,rfl⟩
 have w2:IntKind.i64.wrap (2*(L.length:Int))=((2*L.length:Nat):Int):=by rw[wrap_i64 (by omega)];omega
 by_cases hsmall:(P.length:Int)<8
 ·simp -implicitDefEqProofs only[↓Zd,(Zp),Zr,simprocAttr,qP,Value.cells,cut,qC,cld2,underlying3,underlying4,underlying9,underlying5,underlying38,underlying0,be4,bn4,underlying262,underlying238,ord271,h4,hsmall,fa264x0,fa264x1,ag238,ag262]
  exact h _ hD0 (Nat.le_refl _) (fun _ _ _=>rfl)
 by_cases hmany:(P.length:Int)<((2*L.length:Nat):Int)
 ·simp -implicitDefEqProofs only[↓Zd,(Zp),Zr,simprocAttr,qP,Value.cells,cut,qC,cld2,underlying3,underlying4,underlying9,underlying5,underlying38,underlying0,be4,bn4,underlying262,underlying238,ord271,h4,hsmall,hmany,hlen1,hlen2,w2,fa264x0,fa264x1,ag238,ag262]
  exact h _ hD0 (Nat.le_refl _) (fun _ _ _=>rfl)
 simp -implicitDefEqProofs only[↓Zd,(Zp),Zr,simprocAttr,qP,Value.cells,cut,qC,cld2,underlying3,underlying4,underlying9,underlying5,underlying38,underlying0,be4,bn4,underlying262,underlying238,ord271,h4,hsmall,hmany,hlen1,hlen2,w2,fa264x0,fa264x1,ag238,ag262,co283]
 rcases h10 with ⟨e0,_⟩|⟨b,junk,hsl,hb,hlb⟩
 ·omega
 cases hsl
 have hbO:=h11 _ _ _ rfl
 have hbn:=(h1 b hbO.1).2
 refine delf_spec hb hbn (by omega) (hole_of_few (by rw[h3];omega)) fun s1 junk1 hn1 hb1 hfr1=>?_
 have hpb:¬ p=b:=fun e=>hbO.2.1 e.symm
 have hmb:¬ m=b:=fun e=>hbO.2.2 e.symm
 have hbp:¬ b=p:=hbO.2.1
 have hmp:¬ m=p:=h9
 have hpm:¬ p=m:=fun e=>h9 e.symm
 have hbm:¬ b=m:=hbO.2.2
 have hp1:s1.at' p=some (.cells [.map (some m),.slice (some ⟨b,0,none⟩) P.length UNK] 264 true):=by rw[hfr1 p hp hpb];exact h4
 have hm1:s1.at' m=some (.map es clock):=by rw[hfr1 m hm hmb];exact h5
 have hple:(pressed P).length≤P.length:=List.length_filter_le _ _
 simp -implicitDefEqProofs only[↓Zd,(Zp),Zr,simprocAttr,qP,Value.cells,cut,qC,cld2,underlying3,underlying4,underlying9,underlying5,underlying38,underlying0,be4,bn4,underlying262,underlying238,hp1,fa264x0,fa264x1,ag238,ag262,sz262]
 refine wloop_fix hmix [38,39,40,41,3,2,42,43,44,45,46,47,48,49,37] (fun fuel env s'=>∃ (q:Nat) (kvq:List (ByteArray×Nat)) (esq:List MapEntry),fuel=(pressed P).length - q∧q≤(pressed P).length∧env 37 = .int .i64 (q:Int)∧KV esq kvq∧KQ kv kvq (pressed P) q∧s'.at' m=some (.map esq clock)∧s1.next≤s'.next ∧
  s'.at' p=some (.cells [.map (some m),.slice (some ⟨b,0,none⟩) (pressed P).length UNK] 264 true)∧s'.at' b=some (.cells (plsCells (pressed P)++junk1) 292 true)∧∀ c,c<s.next→¬ O c→s'.at' c=s.at' c) ((pressed P).length - 0) ?_ ?_
 ·refine⟨0,kv,es,rfl,by omega,rfl,h6,.start h7.nodup _,?_,Nat.le_refl _,?_,?_,fun c hc ho=>?_⟩
  ·simp only[St.at_put,hmp,if_false];exact hm1
  ·simp only[St.at_put,if_true]
  ·simp only[St.at_put,hbp,if_false];exact hb1
  ·rw[St.at_put,if_neg (fun e:c=p=>ho (e▸h2))]
   exact hfr1 c hc (fun e=>ho (e▸hbO.1))
 ·rintro fuel env s' hF ⟨q,kvq,esq,rfl,hqP,e37,hKV,hKQ,hms,hns,hps,hbs,hfr⟩
  have e0:env 0 = .pointer (some ⟨p,0,none⟩):=by rw[hF 0 rfl];rfl
  have e35:env 35 = .slice (some ⟨b,0,none⟩) (pressed P).length UNK:=by rw[hF 35 rfl];rfl
  have e36:env 36 = .int .i64 ((pressed P).length:Int):=by rw[hF 36 rfl];rfl
  have hpn':¬ p=s'.next:=by omega
  have hmn':¬ m=s'.next:=by omega
  have hbn':¬ b=s'.next:=by omega
  by_cases hlt:q<(pressed P).length
  ·have hlt':(q:Int)<((pressed P).length:Int):=by omega
   have hge:(0:Int)≤(q:Int):=by omega
   have w1:IntKind.i64.wrap ((q:Int)+1)=((q+1:Nat):Int):=by rw[wrap_i64 (by omega)];omega
   have hpq:(pressed P)[q]?=some (pressed P)[q]:=by simp[hlt]
   obtain⟨⟨x,k,n,y⟩,hu⟩:=pressed_full hpq
   rw[hu]at hpq
   obtain⟨hle5,htk5⟩:=zp5 (pressed P) q _ junk1 hpq
   simp only[plCells]at htk5
   have hmem:x∈kvq.map (·.1):=by
    rw[hKQ.keys]
    obtain⟨j,v,hj⟩:=mem_props.1 (show x∈(props P).map (·.1) by rw[← props_pressed];exact mem_props.2 ⟨q,_,hpq⟩)
    exact List.mem_map_of_mem (f:=(·.1)) ((h7.mem x j).2 ⟨v,hj⟩)
   obtain⟨i,j0,hi⟩:=kvIdx_mem hmem
   have hcf:=cfind_kv hKV x
   rw[hi]at hcf
   simp -implicitDefEqProofs only[↓Zd,(Zp),Zr,simprocAttr,qP,Value.cells,cut,qC,cld2,underlying3,underlying4,underlying9,underlying5,underlying38,underlying0,be4,bn4,underlying262,underlying292,underlying238,ord271,e0,e35,e36,e37,hlt',hge,Int.toNat_natCast,hbs,hms,hps,hpn',hmn',hbn',hle5,htk5,hcf,Nat.zero_add,Nat.add_zero,sz292,ag292,ce292,ze292,fa264x0,fa292x0,ag238,ag9,w1]
   refine⟨by repeat (first|exact hF|refine Fix.upd (by decide) ?_),(pressed P).length - (q+1),by omega,q+1,kvq.set i (x,q),_,rfl,by omega,rfl,hKV.set (kvIdx_some hi) q,hKQ.step (pressed_uniq h7.uniq) hpq hi,?_,?_,?_,?_,fun c hc ho=>?_⟩
   ·simp only[St.at_put,if_true]
   ·omega
   ·rw[if_neg hpm]
   ·rw[if_neg hbm]
   ·have hcm:¬ c=m:=fun e=>ho (e▸h8)
    have hcn:¬ c=s'.next:=by omega
    simp only[if_neg hcm,if_neg hcn]
    exact hfr c hc ho
  ·have hlt':¬ (q:Int)<((pressed P).length:Int):=by omega
   simp -implicitDefEqProofs only[↓Zd,(Zp),Zr,simprocAttr,qP,Value.cells,cut,qC,cld2,underlying3,underlying4,underlying9,underlying5,underlying38,underlying0,be4,bn4,e36,e37,hlt']
   have hqe:q=(pressed P).length:=by omega
   subst hqe
   refine h _ ⟨fun c hc=>⟨(h1 c hc).1,by have:=(h1 c hc).2;omega⟩,h2,pressed P,m,_,esq,clock,kvq,by rw[props_pressed,h3],by omega,hps,hms,hKV,hKQ.done h7,h8,h9,.inr ⟨b,junk1,rfl,hbs,plsCells_len _⟩,fun q' a c e=>?_⟩ (by omega) hfr
   cases e
   exact hbO
end
end Go.Proofs.Tryz
namespace Go.Proofs.Tryz
open Go.Cs
open Go.RowKit (Below)
set_option maxRecDepth 100000
attribute [local irreducible] QC WLoop WScope
theorem set_hole(P:List Pl)(j:Nat)(junk:List Value)(hj:j<P.length):setCells (plsCells P++junk) (j*5) [.string ⟨#[]⟩,.int .i64 0,.int .i64 0,.string ⟨#[]⟩,.bool false]=plsCells (P.set j none)++junk:=by
 rw[setCells_eq _ _ _ (by rw[List.length_append,plsCells_len];simp only[List.length_cons,List.length_nil];omega)]
 have key:∀ (P:List Pl) (j:Nat),j<P.length→List.take (j*5) (plsCells P++junk)++([.string ⟨#[]⟩,.int .i64 0,.int .i64 0,.string ⟨#[]⟩,.bool false]++List.drop (j*5+5) (plsCells P++junk))=plsCells (P.set j none)++junk:=by
  intro P
  induction P with
  |nil=>intro j h;simp at h
  |cons p P ih =>
   intro j h
   cases j with
   |zero =>
    show List.take (0*5) ((plCells p++plsCells P)++junk)++([.string ⟨#[]⟩,.int .i64 0,.int .i64 0,.string ⟨#[]⟩,.bool false]++List.drop (0*5+5) ((plCells p++plsCells P)++junk))=(plCells none++plsCells P)++junk
    have:0*5+5=(plCells p).length:=by rw[plCells_len]
    rw[this,List.append_assoc,List.drop_left,Nat.zero_mul,List.take_zero]
    rfl
   |succ j =>
    have ih:=ih j (by simpa using h)
    show List.take ((j+1)*5) ((plCells p++plsCells P)++junk)++([.string ⟨#[]⟩,.int .i64 0,.int .i64 0,.string ⟨#[]⟩,.bool false]++List.drop ((j+1)*5+5) ((plCells p++plsCells P)++junk))=(plCells p++plsCells (P.set j none))++junk
    have e1:(j+1)*5=(plCells p).length+j*5:=by rw[plCells_len];omega
    have e2:(j+1)*5+5=(plCells p).length+(j*5+5):=by rw[plCells_len];omega
    rw[e2,e1,List.append_assoc,List.take_length_add_append,List.drop_length_add_append,List.append_assoc,ih,List.append_assoc]
 simpa [List.append_assoc] using key P j hj
section
variable {M:Type}[Mem M]{w0:World}{s:St M}{R:Value→St M→Prop}
theorem o_delete{P:Program}{d:Option Tmp}{ty:TypeId}{pos:String}{af:Array Edge}{g:Option (Nat×Bool)}{ev:Operand→Value}{K:Value→St M→Prop}{x y:Operand}{t t2:TypeId} :
  wop P w0 ⟨d,.call ⟨.builtin .delete,#[x,y],#[t,t2]⟩,ty,pos,af,g⟩ ev s K=wch ((cdelete P t (ev x) (ev y) s).map fun s'=>(undef,s')) K:=rfl
theorem bPlace0:cbuild Tryz.prog 292 #[]=some (.agg #[.string ⟨#[]⟩,.int .i64 0,.int .i64 0,.string ⟨#[]⟩,.bool false]):=by kernel_rfl
theorem wch_some{v:Value}{s':St M}{K:Value→St M→Prop}:wch (some (v,s')) K=K v s':=by
 apply propext
 constructor
 ·rintro⟨v',s'',h1,h2⟩;cases h1;exact h2
 ·intro h;exact⟨v,s',rfl,h⟩
theorem cdel_at{m:Nat}{es:List MapEntry}{clock:Nat}{x:ByteArray}{i:Nat}{u:Value}(hm:s.at' m=some (.map es clock))(hc:cfind Tryz.prog 9 (.string x) es=some (some (i,u))) :
  cdelete Tryz.prog 238 (.map (some m)) (.string x) s=some (s.put m (.map (es.eraseIdx i) clock)):=by
 unfold cdelete
 simp only[underlying238,hm,hc]
set_option maxHeartbeats 4000000 in
theorem ddel_spec{lo p:Nat}{L:List (ByteArray×V3)}{N:Nat}{x:ByteArray}{O:Nat→Prop}(hD:DictAt lo s p L N O)(hN:N≤1000001)
  (h:∀ s',DictAt lo s' p (delP L x) N O→s.next≤s'.next→(∀ b,b<s.next→¬ O b→s'.at' b=s.at' b)→R (.bool (getP L x).isSome) s')(hx:(getP L x).isSome=true) :
  QC Tryz.prog w0 229 #[.pointer (some ⟨p,0,none⟩),.string x] s R:=by
 refine wfun2 hmix ok229 func229 rfl ntmps229 results229 (by simp) ?_
 obtain⟨h1,h2,P,m,sl,es,clock,kv,h3,hPN,h4,h5,h6,h7,h8,h9,h10,h11⟩:=hD
 have hp:=(h1 p h2).2
 have hm:=(h1 m h8).2
 simp -implicitDefEqProofs only[↓Zd,(Zp),Zr,simprocAttr,qP,Value.cells,cut,qC,cld2,underlying3,underlying4,underlying9,underlying5,underlying38,underlying0,be4,bn4,co228]
 refine ddead_spec (m:=m) (sl:=sl) h4 ?_
 subst h3
 have hcf:=cfind_kv h6 x
 have hg:=get_props h7 x
 cases hi:kvIdx kv x with
 |none =>
  rw[hi]at hg
  rw[hg]at hx
  simp at hx
 |some ij =>
  obtain⟨i,j⟩:=ij
  obtain⟨v0,hv⟩:=h7.idx hi
  rw[hi]at hcf
  have hlt:=(List.getElem?_eq_some_iff.1 hv).1
  rcases h10 with ⟨e0,_⟩|⟨b,junk,rfl,hb,hl⟩
  ·omega
  have hbO:=h11 _ _ _ rfl
  have hbn:=(h1 b hbO.1).2
  have hlt':(j:Int)<(P.length:Int):=by omega
  have hge:(0:Int)≤(j:Int):=by omega
  have hle:j*5+5≤(plsCells P++junk).length:=by rw[List.length_append,plsCells_len];omega
  have hset:=set_hole P j junk hlt
  have hpm:¬ p=m:=fun e=>h9 e.symm
  have hpb:¬ p=b:=fun e=>hbO.2.1 e.symm
  have hmb:¬ m=b:=fun e=>hbO.2.2 e.symm
  have hbm:¬ b=m:=hbO.2.2
  have hcd:=cdel_at h5 hcf
  simp -implicitDefEqProofs only[↓Zd,(Zp),Zr,simprocAttr,qP,Value.cells,cut,qC,cld2,underlying3,underlying4,underlying9,underlying5,underlying38,underlying0,be4,bn4,underlying238,underlying265,underlying262,underlying292,ord229,h4,h5,hcf,o_delete,hcd,Option.map_some,wch_some,hpm,hbm,bPlace0,fa264x0,fa264x1,ag238,ag262,sz292,ce292,hlt',hge,Int.toNat_natCast,hb,hle,hset,Nat.zero_add,ze3,co271]
  refine press_spec (lo:=lo) (N:=N) (L:=delP (props P) x) (O:=O) ⟨fun c hc=>⟨(h1 c hc).1,(h1 c hc).2⟩,h2,P.set j none,m,.slice (some ⟨b,0,none⟩) P.length UNK,_,clock,kv.eraseIdx i,?_,?_,?_,?_,h6.erase i,h7.del hi,h8,h9,.inr ⟨b,junk,?_,?_,plsCells_len _⟩,h11⟩ hN ?_
  ·exact props_del P j x v0 hv fun k u hu=>h7.one ((h7.mem x k).2 ⟨u,hu⟩) ((h7.mem x j).2 ⟨v0,hv⟩)
  ·rw[List.length_set];exact hPN
  ·rw[St.at_put,if_neg hpb,St.at_put,if_neg hpm];exact h4
  ·rw[St.at_put,if_neg hmb,St.at_put,if_pos rfl]
  ·rw[List.length_set]
  ·rw[St.at_put,if_pos rfl]
  ·intro s' hD' hn' hfr'
   simp -implicitDefEqProofs only[↓Zd,(Zp),Zr,simprocAttr,qP,Value.cells,cut,qC,cld2,underlying3,underlying4,underlying9,underlying5,underlying38,underlying0,be4,bn4,ord229]
   rw[hx]at h
   refine h s' hD' (by simpa using hn') fun c hc ho=>?_
   rw[hfr' c (by simpa using hc) ho,St.at_put,if_neg (fun e:c=b=>ho (e▸hbO.1)),St.at_put,if_neg (fun e:c=m=>ho (e▸h8))]
end
end Go.Proofs.Tryz
end
section
namespace Go.Proofs.Tryz
open Go.Cs
open Go.RowKit (Below)
set_option maxRecDepth 100000
abbrev Sh:=Nat×List Nat
def shIs(F:List Sh)(t:Sh):Option Nat:=if t∈F then some (F.idxOf t+1) else none
def growF(F:List Sh)(most:Nat)(t:Sh):List Sh:=if t∈F then F else if F.length<most then F ++ [t] else F
def growN(F:List Sh)(most:Nat)(t:Sh):Nat:=if t∈F then F.idxOf t+1 else if F.length<most then F.length+1 else 0
theorem shIs_get{F:List Sh}{t:Sh}{j:Nat}(h:shIs F t=some j):1≤j∧j≤F.length∧F[j - 1]?=some t:=by
 unfold shIs at h
 split at h
 ·rename_i hm
  cases h
  have:=List.idxOf_lt_length_of_mem hm
  refine⟨by omega,by omega,?_⟩
  rw[Nat.add_sub_cancel,List.getElem?_eq_getElem this,List.getElem_idxOf this]
 ·cases h
theorem shIs_none{F:List Sh}{t:Sh}:shIs F t=none↔t ∉ F:=by
 unfold shIs
 split<;>simp_all
theorem shIs_app{F:List Sh}{t u:Sh}(h:t ∉ F):shIs (F ++ [t]) u=if u=t then some (F.length+1) else shIs F u:=by
 by_cases e:u=t
 ·subst e
  rw[if_pos rfl,shIs,if_pos (by simp),List.idxOf_append,if_neg h]
  simp
 ·rw[if_neg e]
  unfold shIs
  by_cases hu:u∈F
  ·rw[if_pos hu,if_pos (by simp[hu]),List.idxOf_append,if_pos hu]
  ·rw[if_neg hu,if_neg (by simp[hu,e])]
structure FOk(F:List Sh):Prop where
 nodup:F.Nodup
 up:∀ (i p x:Nat) (r:List Nat),F[i]?=some (p,x::r)→∃ j,j<i∧F[j]?=some (p,r)
 names:∀ (i p:Nat) (l:List Nat),F[i]?=some (p,l)→l.Nodup∧l.length≤12
theorem FOk.nil:FOk []:=⟨List.nodup_nil,fun i p x r h=>by simp at h,fun i p l h=>by simp at h⟩
theorem FOk.one{F:List Sh}(h:FOk F){i j:Nat}{t:Sh}(h1:F[i]?=some t)(h2:F[j]?=some t):i=j:=by
 obtain⟨l1,e1⟩:=List.getElem?_eq_some_iff.1 h1
 obtain⟨l2,e2⟩:=List.getElem?_eq_some_iff.1 h2
 exact (List.getElem_inj h.nodup).1 (e1.trans e2.symm)
theorem FOk.is{F:List Sh}(h:FOk F){i:Nat}{t:Sh}(h1:F[i]?=some t):shIs F t=some (i+1):=by
 have hm:=List.mem_of_getElem? h1
 have h2:shIs F t=some (F.idxOf t+1):=by unfold shIs;rw[if_pos hm]
 have:=(shIs_get h2).2.2
 rw[Nat.add_sub_cancel]at this
 rw[h2,h.one this h1]
theorem FOk.app{F:List Sh}(h:FOk F){p:Nat}{l:List Nat}(hm:(p,l) ∉ F)(hn:l.Nodup)(hl:l.length≤12)(hu:∀ x r,l=x::r→(p,r)∈F):FOk (F ++ [(p,l)]):=by
 have hlast:∀ (i:Nat) (t:Sh),(F ++ [(p,l)])[i]?=some t→F[i]?=some t∨(i=F.length∧t=(p,l)):=by
  intro i t hi
  by_cases h1:i<F.length
  ·rw[List.getElem?_append_left h1]at hi;exact .inl hi
  ·rw[List.getElem?_append_right (by omega)]at hi
   have:i - F.length=0:=by
    have:=(List.getElem?_eq_some_iff.1 hi).1
    simp at this;omega
   rw[this]at hi
   simp at hi
   exact .inr ⟨by omega,hi.symm⟩
 refine⟨?_,fun i q x r hi=>?_,fun i q r hi=>?_⟩
 ·rw[List.nodup_append]
  refine⟨h.nodup,by simp,fun a ha b hb e=>?_⟩
  simp at hb
  subst hb;subst e
  exact hm ha
 ·rcases hlast _ _ hi with h1|⟨rfl,e⟩
  ·obtain⟨j,hj,h2⟩:=h.up i q x r h1
   have hjl:=(List.getElem?_eq_some_iff.1 h2).1
   exact⟨j,hj,by rw[List.getElem?_append_left hjl];exact h2⟩
  ·cases e
   obtain⟨j,hjl,hj⟩:=List.getElem_of_mem (hu x r rfl)
   exact⟨j,hjl,by rw[List.getElem?_append_left hjl,List.getElem?_eq_getElem hjl,hj]⟩
 ·rcases hlast _ _ hi with h1|⟨rfl,e⟩
  ·exact h.names i q r h1
  ·cases e
   exact⟨hn,hl⟩
def parId(F:List Sh)(t:Sh):Nat:=match t.2 with
 | []=>0
 |_::r=>F.idxOf (t.1,r)+1
theorem FOk.par{F:List Sh}(h:FOk F){i p x:Nat}{r:List Nat}(hi:F[i]?=some (p,x::r)):∃ j,j<i∧F[j]?=some (p,r)∧parId F (p,x::r)=j+1:=by
 obtain⟨j,hj,h2⟩:=h.up i p x r hi
 refine⟨j,hj,h2,?_⟩
 have:=h.is h2
 unfold shIs at this
 rw[if_pos (List.mem_of_getElem? h2)]at this
 exact Option.some.inj this
def rows(c:Nat→List Value)(n:Nat):List Value:=(List.range n).flatMap c
theorem rows_succ(c:Nat→List Value)(n:Nat):rows c (n+1)=rows c n++c n:=by
 unfold rows;rw[List.range_succ];simp
theorem rows_congr{c d:Nat→List Value}{n:Nat}(h:∀ i,i<n→c i=d i):rows c n=rows d n:=by
 induction n with
 |zero=>rfl
 |succ n ih=>rw[rows_succ,rows_succ,ih (fun i hi=>h i (by omega)),h n (by omega)]
theorem rows_len{c:Nat→List Value}{k:Nat}(hc:∀ i,(c i).length=k)(n:Nat):(rows c n).length=n*k:=by
 induction n with
 |zero=>simp[rows]
 |succ n ih=>rw[rows_succ,List.length_append,ih,hc,Nat.succ_mul]
theorem rows_get{c:Nat→List Value}{k:Nat}(hc:∀ i,(c i).length=k){n i j:Nat}(junk:List Value)(hi:i<n)(hj:j<k):(rows c n++junk)[i*k+j]?=(c i)[j]?:=by
 have hb:∀ m,m≤n→i<m→i*k+j<m*k:=fun m _ h=>by
  have:(i+1)*k≤m*k:=Nat.mul_le_mul_right k h
  rw[Nat.succ_mul]at this;omega
 rw[List.getElem?_append_left (by rw[rows_len hc];exact hb n (Nat.le_refl _) hi)]
 induction n with
 |zero=>omega
 |succ n ih =>
  rw[rows_succ]
  by_cases e:i=n
  ·subst e
   rw[List.getElem?_append_right (by rw[rows_len hc];omega),rows_len hc]
   congr 1;omega
  ·have hi':i<n:=by omega
   rw[List.getElem?_append_left (by rw[rows_len hc];exact hb n (by omega) hi')]
   exact ih hi' (fun m hm h=>hb m (by omega) h)
theorem rows_cut{c:Nat→List Value}{k:Nat}(hc:∀ i,(c i).length=k){n i:Nat}(junk:List Value)(hi:i<n):i*k+k≤(rows c n++junk).length∧List.take k (List.drop (i*k) (rows c n++junk))=c i:=by
 have hb:(i+1)*k≤n*k:=Nat.mul_le_mul_right k hi
 rw[Nat.succ_mul]at hb
 refine⟨by rw[List.length_append,rows_len hc];omega,?_⟩
 apply List.ext_getElem?
 intro j
 rw[List.getElem?_take]
 by_cases hj:j<k
 ·rw[if_pos hj,List.getElem?_drop,rows_get hc junk hi hj]
 ·rw[if_neg hj,List.getElem?_eq_none (by rw[hc];omega)]
theorem rows_set{c d:Nat→List Value}{k:Nat}(hc:∀ i,(c i).length=k)(hd:∀ i,(d i).length=k){n i j:Nat}{v:Value}(junk:List Value)(hi:i<n)(hj:j<k)(he:∀ m,m≠i→d m=c m)(hs:d i=(c i).set j v) :
  (rows c n++junk).set (i*k+j) v=rows d n++junk:=by
 have hb:(i+1)*k≤n*k:=Nat.mul_le_mul_right k hi
 rw[Nat.succ_mul]at hb
 rw[List.set_append_left _ _ (by rw[rows_len hc];omega)]
 congr 1
 clear junk
 induction n with
 |zero=>omega
 |succ n ih =>
  rw[rows_succ,rows_succ]
  by_cases e:i=n
  ·subst e
   rw[List.set_append_right _ _ (by rw[rows_len hc];omega),rows_len hc,show i*k+j - i*k=j from by omega,hs,rows_congr (fun m hm=>(he m (by omega)).symm)]
  ·have hi':i<n:=by omega
   have hb':(i+1)*k≤n*k:=Nat.mul_le_mul_right k hi'
   rw[Nat.succ_mul]at hb'
   rw[List.set_append_left _ _ (by rw[rows_len hc];omega),ih hi' hb',he n (by omega)]
def oneC(F:List Sh)(nx:Nat→Option Nat)(i:Nat):List Value:=
 [.int .i64 ((parId F (F.getD i (0,[])):Nat):Int),.int .i64 (((F.getD i (0,[])).2.headD 0:Nat):Int),.int .i64 (((F.getD i (0,[])).2.length:Nat):Int),.int .i64 (((F.getD i (0,[])).1:Nat):Int),.map (nx i)]
theorem oneC_len(F:List Sh)(nx:Nat→Option Nat)(i:Nat):(oneC F nx i).length=5:=rfl
theorem oneC_at{F:List Sh}{nx:Nat→Option Nat}{i:Nat}{t:Sh}(h:F[i]?=some t):oneC F nx i=[.int .i64 ((parId F t:Nat):Int),.int .i64 ((t.2.headD 0:Nat):Int),.int .i64 ((t.2.length:Nat):Int),.int .i64 ((t.1:Nat):Int),.map (nx i)]:=by
 unfold oneC
 rw[List.getD_eq_getElem?_getD,h]
 rfl
theorem FOk.one_app{F:List Sh}(h:FOk F){t:Sh}{nx:Nat→Option Nat}{i:Nat}(hi:i<F.length):oneC (F ++ [t]) nx i=oneC F nx i:=by
 have e:F[i]?=some F[i]:=List.getElem?_eq_getElem hi
 rw[oneC_at e,oneC_at (t:=F[i]) (by rw[List.getElem?_append_left hi,e])]
 congr 2
 unfold parId
 rcases hF:F[i] with ⟨p,l⟩
 cases l with
 |nil=>rfl
 |cons x r =>
  rw[hF]at e
  obtain⟨j,hj,h2⟩:=h.up i p x r e
  simp only
  rw[List.idxOf_append,if_pos (List.mem_of_getElem? h2)]
def MI(es:List MapEntry)(f:Nat→Option Nat):Prop:=∀ x:Nat,∃ i,cfind Tryz.prog 3 (.int .i64 (x:Int)) es=some ((f x).map fun j=>(i,.int .i64 (j:Int)))
theorem MI.nil:MI [] (fun _=>none):=fun x=>⟨0,by unfold cfind;rw[if_pos (show plain 6 (Value.int .i64 (x:Int))=true from rfl),underlying3];rfl⟩
theorem find_app(k:Value)(kd:TypeDesc)(e:MapEntry):∀ (es:List MapEntry) (i:Nat),Instr.findNow kd k es i=some none→Instr.findNow kd k (es ++ [e]) i=Instr.findNow kd k [e] (i+es.length):=by
 intro es
 induction es with
 |nil=>intro i h;rfl
 |cons a es ih =>
  intro i h
  simp only[Instr.findNow,List.cons_append]at h ⊢
  cases hs:Instr.sameNow kd k a.key with
  |none=>rw[hs]at h;simp at h
  |some b =>
   cases b with
   |true=>rw[hs]at h;simp at h
   |false =>
    rw[hs]at h
    simp only at h ⊢
    rw[ih (i+1) h,List.length_cons]
    rw[show i+1+es.length=i+(es.length+1) from by omega]
    rfl
theorem find_app2(k:Value)(kd:TypeDesc)(e:MapEntry):∀ (es:List MapEntry) (i:Nat) (r:Nat×Value),Instr.findNow kd k es i=some (some r)→Instr.findNow kd k (es ++ [e]) i=some (some r):=by
 intro es
 induction es with
 |nil=>intro i r h;simp[Instr.findNow]at h
 |cons a es ih =>
  intro i r h
  simp only[Instr.findNow,List.cons_append]at h ⊢
  cases hs:Instr.sameNow kd k a.key with
  |none=>rw[hs]at h;simp at h
  |some b =>
   cases b with
   |true=>rw[hs]at h;exact h
   |false =>
    rw[hs]at h
    simp only at h ⊢
    exact ih (i+1) r h
theorem MI.app{es:List MapEntry}{f:Nat→Option Nat}(h:MI es f){x j c:Nat}(hx:f x=none):MI (es ++ [{ key := .int .i64 (x:Int),val := .int .i64 (j:Int),born:=c }]) (fun y=>if y=x then some j else f y):=by
 have hc:∀ (y:Nat) (es:List MapEntry),cfind Tryz.prog 3 (.int .i64 (y:Int)) es=Instr.findNow (.int .i64) (.int .i64 (y:Int)) es 0:=fun y es=>by
  unfold cfind;rw[if_pos (show plain 6 (Value.int .i64 (y:Int))=true from rfl),underlying3]
 intro y
 obtain⟨i,hi⟩:=h y
 rw[hc]at hi ⊢
 by_cases e:y=x
 ·subst e
  rw[hx]at hi
  refine⟨es.length,?_⟩
  rw[find_app _ _ _ _ _ hi]
  simp[Instr.findNow,Instr.sameNow]
 ·simp only[if_neg e]
  cases hf:f y with
  |none =>
   rw[hf]at hi
   refine⟨0,?_⟩
   rw[find_app _ _ _ _ _ hi]
   have:((y:Int) == (x:Int))=false:=by
    rw[Bool.eq_false_iff]
    intro h
    have:=eq_of_beq h
    omega
   simp[Instr.findNow,Instr.sameNow,this]
  |some k =>
   rw[hf]at hi
   exact⟨i,find_app2 _ _ _ _ _ _ hi⟩
def FOx:=(And.intro (And.intro (And.intro (And.intro (And.intro @underlying3 @underlying4) (And.intro @underlying9 @underlying5)) (And.intro (And.intro @underlying38 @underlying0) (And.intro @be4 (And.intro @bn4 @ag3)))) (And.intro (And.intro (And.intro @sz3 @sz234) (And.intro @ce234 @ce3)) (And.intro (And.intro @ze3 @sz268) (And.intro @underlying306 (And.intro @underlying235 @underlying234))))) (And.intro (And.intro (And.intro (And.intro @underlying143 @ag143) (And.intro @ag235 @ag234)) (And.intro (And.intro @nf306 @nt306) (And.intro @ng306 (And.intro @nn306 @nf143)))) (And.intro (And.intro (And.intro @nf234 @nt234) (And.intro @fa237x0 (And.intro @fa237x1 @fa237x2))) (And.intro (And.intro @fa268x0 @fa268x1) (And.intro @fa268x2 (And.intro @fa268x3 @fa268x4))))))
end Go.Proofs.Tryz
namespace Go.Proofs.Tryz
open Go.Cs
open Go.RowKit (Below)
set_option maxRecDepth 100000
attribute [local irreducible] QC WLoop WScope
section
variable {M:Type}[Mem M]{w0:World}{s:St M}{R:Value→St M→Prop}
def Kids(s:St M)(F:List Sh)(O:Nat→Prop)(p m:Nat)(nx:Nat→Option Nat):Prop:=
 (∀ i,nx i=none→∀ t,F[i]?=some t→∀ x,shIs F (t.1,x::t.2)=none) ∧
 (∀ i b,nx i=some b→O b∧b≠p∧b≠m∧(∀ j,nx j=some b→j=i)∧∃ t,F[i]?=some t∧∃ es c,s.at' b=some (.map es c)∧MI es (fun x=>shIs F (t.1,x::t.2)))
structure FAt(lo:Nat)(s:St M)(p:Nat)(F:List Sh)(most:Nat)(O:Nat→Prop):Prop where
 own:∀ b,O b→lo≤b∧b<s.next
 pin:O p
 ok:FOk F
 le:F.length≤most∧most≤150
 bl:∃ m sl es clock nx,s.at' p=some (.cells [sl,.map (some m),.int .i64 (most:Int)] 237 true)∧s.at' m=some (.map es clock)∧MI es (fun x=>shIs F (x,[]))∧O m∧m≠p ∧
  SlU 268 5 s sl (rows (oneC F nx) F.length) F.length∧(∀ q n c,sl = .slice (some q) n c→O q.block∧q.block≠p∧q.block≠m∧∀ i,nx i≠some q.block)∧Kids s F O p m nx
theorem Kids.same{s s':St M}{F:List Sh}{O:Nat→Prop}{p m:Nat}{nx:Nat→Option Nat}(h:Kids s F O p m nx)(hs:∀ i b,nx i=some b→s'.at' b=s.at' b):Kids s' F O p m nx:=by
 refine⟨h.1,fun i b hb=>?_⟩
 obtain⟨h1,h2,h3,h4,t,h5,es,c,h6,h7⟩:=h.2 i b hb
 exact⟨h1,h2,h3,h4,t,h5,es,c,by rw[hs i b hb];exact h6,h7⟩
theorem FAt.same{lo:Nat}{s s':St M}{p:Nat}{F:List Sh}{most:Nat}{O:Nat→Prop}(h:FAt lo s p F most O)(hn:s.next≤s'.next)(hs:∀ b,O b→s'.at' b=s.at' b):FAt lo s' p F most O:=by
 obtain⟨h1,h2,h3,h4,m,sl,es,clock,nx,h5,h6,h7,h8,h9,h10,h11,h12⟩:=h
 exact⟨fun b hb=>⟨(h1 b hb).1,by have:=(h1 b hb).2;omega⟩,h2,h3,h4,m,sl,es,clock,nx,by rw[hs _ h2];exact h5,by rw[hs _ h8];exact h6,h7,h8,h9,h10.same fun q n c e=>hs _ (h11 q n c e).1,h11,h12.same fun i b hb=>hs _ (h12.2 i b hb).1⟩
def shAt(F:List Sh)(i:Int):Option Sh:=if 1≤i then F[i.toNat - 1]? else none
theorem SlU.form{e:TypeId}{sz:Nat}{sl:Value}{cs:List Value}{n:Nat}(h:SlU e sz s sl cs n):(n=0∧sl = .slice none 0 0)∨∃ b,sl = .slice (some ⟨b,0,none⟩) n UNK:=by
 rcases h with ⟨h1,_,h2⟩|⟨b,_,h1,_⟩
 ·exact .inl ⟨h1,h2⟩
 ·exact .inr ⟨b,h1⟩
theorem ffind_spec{p:Nat}{i most:Int}{sl m:Value}{n:Nat}(hp:s.at' p=some (.cells [sl,m,.int .i64 most] 237 true))(hsl:(n=0∧sl = .slice none 0 0)∨∃ b,sl = .slice (some ⟨b,0,none⟩) n UNK)(hi : -9223372036854775808≤i∧i≤9223372036854775807)
  (hno:¬ (1≤i∧i≤n)→R (.pointer none) s)(hyes:∀ b j:Nat,i=((j+1:Nat):Int)→j<n→sl = .slice (some ⟨b,0,none⟩) n UNK→R (.pointer (some ⟨b,j*5,none⟩)) s) :
  QC Tryz.prog w0 266 #[.pointer (some ⟨p,0,none⟩),.int .i64 i] s R:=by
 refine wfun2 hmix ok266 func266 rfl ntmps266 results266 (by simp) ?_
 by_cases i1:i<1
 ·simp -implicitDefEqProofs only[↓Zd,(Zp),Zr,simprocAttr,qP,Value.cells,cut,qC,cld2,underlying3,underlying4,underlying9,underlying5,underlying38,underlying0,be4,bn4,nf143,i1]
  exact hno (by omega)
 ·rcases hsl with ⟨h0,rfl⟩|⟨b,rfl⟩
  ·have i2:0<i:=by omega
   simp -implicitDefEqProofs only[↓Zd,(Zp),Zr,simprocAttr,qP,Value.cells,cut,qC,cld2,underlying3,underlying4,underlying9,underlying5,underlying38,underlying0,be4,bn4,underlying235,hp,nf143,fa237x0,ag235,i1,i2]
   exact hno (by omega)
  ·by_cases i2:(n:Int)<i
   ·simp -implicitDefEqProofs only[↓Zd,(Zp),Zr,simprocAttr,qP,Value.cells,cut,qC,cld2,underlying3,underlying4,underlying9,underlying5,underlying38,underlying0,be4,bn4,underlying235,hp,nf143,fa237x0,ag235,i1,i2]
    exact hno (by omega)
   ·obtain⟨j,rfl⟩:∃ j:Nat,i=((j+1:Nat):Int):=⟨(i - 1).toNat,by omega⟩
    have w1:IntKind.i64.wrap (((j+1:Nat):Int) - 1)=(j:Int):=by rw[wrap_i64 (by omega)];omega
    have hj:(0:Int)≤(j:Int)∧(j:Int)<(n:Int):=by omega
    simp -implicitDefEqProofs only[↓Zd,(Zp),Zr,simprocAttr,qP,Value.cells,cut,qC,cld2,underlying3,underlying4,underlying9,underlying5,underlying38,underlying0,be4,bn4,underlying235,hp,nf143,fa237x0,ag235,sz268,i1,i2,w1,hj,Int.toNat_natCast,Nat.zero_add]
    exact hyes b j rfl (by omega) rfl
theorem shAt_out{F:List Sh}{i:Int}(h:¬ (1≤i∧i≤F.length)):shAt F i=none:=by
 unfold shAt
 split
 ·rw[List.getElem?_eq_none (by omega)]
 ·rfl
theorem shAt_in{F:List Sh}{j:Nat}:shAt F ((j+1:Nat):Int)=F[j]?:=by
 unfold shAt
 rw[if_pos (by omega)]
 congr 1
theorem fproto_spec{lo p:Nat}{F:List Sh}{most:Nat}{O:Nat→Prop}{i:Int}(hF:FAt lo s p F most O)(hi : -9223372036854775808≤i∧i≤9223372036854775807)
  (h:R (match shAt F i with|some t => .tuple #[.int .i64 (t.1:Int),.bool true]|none => .tuple #[.int .i64 0,.bool false]) s):QC Tryz.prog w0 225 #[.pointer (some ⟨p,0,none⟩),.int .i64 i] s R:=by
 refine wfun2 hmix ok225 func225 rfl ntmps225 results225 (by simp) ?_
 obtain⟨h1,h2,h3,h4,m,sl,es,clock,nx,h5,h6,h7,h8,h9,h10,h11,h12⟩:=hF
 simp -implicitDefEqProofs only[↓Zd,(Zp),Zr,simprocAttr,qP,Value.cells,cut,qC,cld2,underlying3,underlying4,underlying9,underlying5,underlying38,underlying0,be4,bn4,co266]
 refine ffind_spec h5 h10.form hi (fun hno=>?_) (fun b j hij hj hsl=>?_)
 ·rw[shAt_out hno]at h
  simp -implicitDefEqProofs only[↓Zd,(Zp),Zr,simprocAttr,qP,Value.cells,cut,qC,cld2,(FOx)]
  exact h
 ·rcases h10 with ⟨e0,_⟩|⟨b',junk,hs',hb,hl⟩
  ·omega
  cases hsl.symm.trans hs'
  have hF:F[j]?=some F[j]:=by simp[hj]
  rw[hij,shAt_in,hF]at h
  have g:=rows_get (oneC_len F nx) (n:=F.length) junk hj (show 3<5 by omega)
  rw[oneC_at hF]at g
  simp -implicitDefEqProofs only[↓Zd,(Zp),Zr,simprocAttr,qP,Value.cells,cut,qC,cld2,(FOx),hb,g]
  exact h
end
end Go.Proofs.Tryz
namespace Go.Proofs.Tryz
open Go.Cs
open Go.RowKit (Below)
set_option maxRecDepth 100000
attribute [local irreducible] QC WLoop WScope
def oneV(a b c d:Nat):List Value:=[.int .i64 (a:Int),.int .i64 (b:Int),.int .i64 (c:Int),.int .i64 (d:Int),.map none]
theorem rowOne(a b c d:Nat):crow Tryz.prog 235 1 #[(0,.agg #[.int .i64 (a:Int),.int .i64 (b:Int),.int .i64 (c:Int),.int .i64 (d:Int),.map none])]=some (.cells [.int .i64 (a:Int),.int .i64 (b:Int),.int .i64 (c:Int),.int .i64 (d:Int),.map none] 268 true):=by kernel_rfl
theorem infoOne:∃ ie,Tryz.prog.info? 268=some ie∧ie.size=5∧0<ie.bytes∧ie.bytes≤100:=by
 obtain⟨ie,h⟩:=Option.isSome_iff_exists.1 is268
 have h1:=ce268
 have h2:decide (0<Tryz.prog.bytesOf 268∧Tryz.prog.bytesOf 268≤100)=true:=by kernel_rfl
 rw[cellsOf_info h]at h1
 simp only[Program.bytesOf,h,decide_eq_true_eq]at h2
 exact⟨ie,h,h1,h2.1,h2.2⟩
section
variable {M:Type}[Mem M]{w0:World}{s:St M}{R:Value→St M→Prop}
theorem app_one{s:St M}{sl:Value}{cs:List Value}{k a b c d:Nat}(hlen:k≤1000000)(hsl:SlU 268 5 s sl cs k)(hfr:∀ q m c,sl = .slice (some q) m c→q.block<s.next) :
  ∃ s',capp Tryz.prog #[235,235] #[sl,.slice (some ⟨s.next,0,none⟩) 1 1] (s.new (.cells (oneV a b c d) 268 true))=some (.slice (some ⟨s.next+1,0,none⟩) (k+1) UNK,s')∧s'.next=s.next+2 ∧
   s'.at' (s.next+1)=some (.cells (cs++oneV a b c d) 268 true)∧(∀ b,b<s.next→(∀ q n c,sl = .slice (some q) n c→b≠q.block)→s'.at' b=s.at' b):=by
 obtain⟨ie,hie,h1,h2,h3⟩:=infoOne
 have hcapp:capp Tryz.prog #[235,235] #[sl,.slice (some ⟨s.next,0,none⟩) 1 1] (s.new (.cells (oneV a b c d) 268 true))=capp3 Tryz.prog 268 ie sl (s.new (.cells (oneV a b c d) 268 true)) (cmore ie.size (.slice (some ⟨s.next,0,none⟩) 1 1) (s.new (.cells (oneV a b c d) 268 true))):=
  app_eq underlying235 underlying235 hie
 have hv:cmore ie.size (.slice (some ⟨s.next,0,none⟩) 1 1) (s.new (.cells (oneV a b c d) 268 true))=some (1,oneV a b c d):=by
  simp only[more_at,St.at_new,if_true,more2,h1];rfl
 obtain⟨s',h3,h4,h5,h6⟩:=app_rowU (n:=k) (k:=1) hie ze268 (by rw[h1];rfl) h2 hcapp (by omega) (by
  have:(k+1)*ie.bytes≤1000001*100:=Nat.mul_le_mul (by omega) h3
  omega) rfl hv (by rw[h1];exact hsl.same fun q m c e=>by rw[St.at_new,if_neg (by have:=hfr q m c e;omega)])
 refine⟨s',by simpa using h3,by simp at h4;omega,h5,fun b hb hq=>?_⟩
 rw[h6 b (by simp;omega) hq,St.at_new,if_neg (by omega)]
set_option maxHeartbeats 4000000 in
theorem fgrow_spec{p most:Nat}{sl m:Value}{cs:List Value}{n a b c d:Nat}(hp:s.at' p=some (.cells [sl,m,.int .i64 (most:Int)] 237 true))(hsl:SlU 268 5 s sl cs n)(hfr:∀ q m c,sl = .slice (some q) m c→q.block<s.next∧q.block≠p)(hpn:p<s.next)(hn:n≤150)
  (hno:∀ s',most≤n→s.le s'→R (.int .i64 0) s')
  (hyes:∀ s' b',n<most→s.next≤b'→b' < s'.next→s.next≤s'.next→s'.at' p=some (.cells [.slice (some ⟨b',0,none⟩) (n+1) UNK,m,.int .i64 (most:Int)] 237 true)→s'.at' b'=some (.cells (cs++oneV a b c d) 268 true) →
   (∀ c,c<s.next→c≠p→(∀ q n k,sl = .slice (some q) n k→c≠q.block)→s'.at' c=s.at' c)→R (.int .i64 ((n+1:Nat):Int)) s') :
  QC Tryz.prog w0 201 #[.pointer (some ⟨p,0,none⟩),.agg #[.int .i64 (a:Int),.int .i64 (b:Int),.int .i64 (c:Int),.int .i64 (d:Int),.map none]] s R:=by
 refine wfun2 hmix ok201 func201 rfl ntmps201 results201 (by simp) ?_
 have hpn':¬ p=s.next:=by omega
 obtain⟨a0,c0,rfl⟩:∃ a0 c0,sl = .slice a0 n c0:=by
  rcases hsl.form with ⟨e0,rfl⟩|⟨b,rfl⟩
  ·exact⟨none,0,by rw[e0]⟩
  ·exact⟨_,_,rfl⟩
 by_cases hge:(most:Int)≤(n:Int)
 ·simp -implicitDefEqProofs only[↓Zd,(Zp),Zr,simprocAttr,qP,Value.cells,cut,qC,cld2,(FOx),underlying268,is268,ord201,ce268,ag268,hp,hpn',hge,sz235]
  exact hno _ (by omega) (by repeat (first|exact lR _|assumption|refine lN ?_|refine lP ?_ (by first|omega|(simp only[(Sn)];omega))|refine lT ?_ (by assumption)))
 ·have hsl':SlU 268 5 (s.new (.cells (oneV a b c d) 268 true)) (.slice a0 n c0) cs n:=hsl.same fun q m c e=>by rw[St.at_new,if_neg (by have:=(hfr q m c e).1;omega)]
  obtain⟨s3,happ,hn3,hat3,hk3⟩:=app_one (a:=a) (b:=b) (c:=c) (d:=d) (by omega) hsl' (fun q m c e=>by have:=(hfr q m c e).1;simp only[St.next_new];omega)
  simp only[St.next_new,oneV]at happ hn3 hat3 hk3
  have hp3:s3.at' p=some (.cells [.slice a0 n c0,m,.int .i64 (most:Int)] 237 true):=by rw[hk3 p (by omega) (fun q a c e=>(hfr q a c e).2.symm),St.at_new,if_neg hpn'];exact hp
  simp -implicitDefEqProofs only[↓Zd,(Zp),Zr,simprocAttr,qP,Value.cells,cut,qC,cld2,(FOx),underlying268,is268,ord201,ce268,ag268,hp,hpn',hge,sz235,rowOne,happ,hp3]
  refine hyes _ (s.next+2) (by omega) (by omega) (by simp only[St.next_put];omega) (by simp only[St.next_put];omega) ?_ ?_ ?_
  ·rw[St.at_put,if_pos rfl]
  ·rw[St.at_put,if_neg (by omega)];exact hat3
  ·intro c hc hcp hq
   rw[St.at_put,if_neg hcp,hk3 c (by omega) hq,St.at_new,if_neg (by omega)]
end
end Go.Proofs.Tryz
namespace Go.Proofs.Tryz
open Go.Cs
open Go.RowKit (Below)
set_option maxRecDepth 100000
attribute [local irreducible] QC WLoop WScope
theorem rows_app{F:List Sh}(h:FOk F){t:Sh}{nx:Nat→Option Nat}(hn:nx F.length=none):rows (oneC (F ++ [t]) nx) (F.length+1)=rows (oneC F nx) F.length++oneV (parId (F ++ [t]) t) (t.2.headD 0) t.2.length t.1:=by
 rw[rows_succ,rows_congr (fun i hi=>h.one_app hi)]
 congr 1
 rw[oneC_at (t:=t) (by simp),hn]
 rfl
section
variable {M:Type}[Mem M]{w0:World}{s:St M}{R:Value→St M→Prop}
structure Upd(s s':St M)(O O':Nat→Prop):Prop where
 next:s.next≤s'.next
 keep:∀ b,b<s.next→¬ O b→s'.at' b=s.at' b
 own:∀ b,O' b→O b∨s.next≤b
theorem Upd.of_le{s s':St M}{O:Nat→Prop}(h:s.le s'):Upd s s' O O:=⟨h.1,fun b hb _=>h.2 b hb,fun b hb => .inl hb⟩
theorem Upd.refl{s:St M}{O:Nat→Prop}:Upd s s O O := .of_le (lR s)
theorem Upd.trans{s s1 s2:St M}{O O1 O2:Nat→Prop}(h1:Upd s s1 O O1)(h2:Upd s1 s2 O1 O2):Upd s s2 O O2:=by
 have hn:=h1.next
 refine⟨Nat.le_trans h1.next h2.next,fun b hb ho=>?_,fun b hb=>?_⟩
 ·rw[h2.keep b (by omega) (fun h=>by rcases h1.own b h with h|h;exact ho h;omega),h1.keep b hb ho]
 ·rcases h2.own b hb with h|h
  ·exact h1.own b h
  ·exact .inr (by omega)
theorem Kids.last{s:St M}{F:List Sh}{O:Nat→Prop}{p m:Nat}{nx:Nat→Option Nat}(h:Kids s F O p m nx){i:Nat}(hi:F.length≤i):nx i=none:=by
 cases hx:nx i with
 |none=>rfl
 |some b =>
  obtain⟨_,_,_,_,t,h5,_⟩:=h.2 i b hx
  have:=(List.getElem?_eq_some_iff.1 h5).1
  omega
theorem Kids.root{s:St M}{F:List Sh}{O:Nat→Prop}{p m q:Nat}{nx:Nat→Option Nat}(h:Kids s F O p m nx)(hF:FOk F)(hq:(q,[]) ∉ F):Kids s (F ++ [(q,[])]) O p m nx:=by
 have hs:∀ (a x:Nat) (l:List Nat),shIs (F ++ [(q,[])]) (a,x::l)=shIs F (a,x::l):=fun a x l=>by
  rw[shIs_app hq,if_neg (by simp)]
 refine⟨fun i hi t ht x=>?_,fun i b hb=>?_⟩
 ·rw[hs]
  by_cases h1:i<F.length
  ·rw[List.getElem?_append_left h1]at ht
   exact h.1 i hi t ht x
  ·rw[List.getElem?_append_right (by omega)]at ht
   have h0:i - F.length=0:=by
    have:=(List.getElem?_eq_some_iff.1 ht).1
    simp at this;omega
   rw[h0]at ht
   simp at ht
   subst ht
   rw[shIs_none]
   intro hm
   obtain⟨k,hk,e⟩:=List.getElem_of_mem hm
   obtain⟨j,_,hj⟩:=hF.up k q x [] (by rw[List.getElem?_eq_getElem hk,e])
   exact hq (List.mem_of_getElem? hj)
 ·obtain⟨h1,h2,h3,h4,t,h5,es,c,h6,h7⟩:=h.2 i b hb
  refine⟨h1,h2,h3,h4,t,by rw[List.getElem?_append_left (List.getElem?_eq_some_iff.1 h5).1];exact h5,es,c,h6,?_⟩
  have:(fun x=>shIs (F ++ [(q,[])]) (t.1,x::t.2))=fun x=>shIs F (t.1,x::t.2):=by funext x;exact hs _ _ _
  rw[this]
  exact h7
theorem Kids.mono{s:St M}{F:List Sh}{O O':Nat→Prop}{p m:Nat}{nx:Nat→Option Nat}(h:Kids s F O p m nx)(ho:∀ b,O b→O' b):Kids s F O' p m nx:=
 ⟨h.1,fun i b hb=>⟨ho b (h.2 i b hb).1,(h.2 i b hb).2⟩⟩
theorem bOneR(q:Nat):cbuild Tryz.prog 268 #[(3,.int .i64 (q:Int))]=some (.agg #[.int .i64 ((0:Nat):Int),.int .i64 ((0:Nat):Int),.int .i64 ((0:Nat):Int),.int .i64 (q:Int),.map none]):=by kernel_rfl
set_option maxHeartbeats 4000000 in
theorem froot_spec{lo p:Nat}{F:List Sh}{most q:Nat}{O:Nat→Prop}(hF:FAt lo s p F most O)(hlo:lo≤s.next)
  (h:∀ s' O',FAt lo s' p (growF F most (q,[])) most O'→Upd s s' O O'→R (.int .i64 (growN F most (q,[]):Int)) s') :
  QC Tryz.prog w0 135 #[.pointer (some ⟨p,0,none⟩),.int .i64 (q:Int)] s R:=by
 refine wfun2 hmix ok135 func135 rfl ntmps135 results135 (by simp) ?_
 have hF0:=hF
 obtain⟨h1,h2,h3,h4,m,sl,es,clock,nx,h5,h6,h7,h8,h9,h10,h11,h12⟩:=hF
 have hq:¬ (q:Int)<0:=by omega
 obtain⟨i0,hc⟩:=h7 q
 simp only at hc
 have hpn:=(h1 p h2).2
 have hmn:=(h1 m h8).2
 by_cases hin:(q,[])∈F
 ·have hsh:shIs F (q,[])=some (F.idxOf (q,[])+1):=by unfold shIs;rw[if_pos hin]
  rw[hsh]at hc
  have hg:growN F most (q,[])=F.idxOf (q,[])+1:=by unfold growN;rw[if_pos hin]
  have hf:growF F most (q,[])=F:=by unfold growF;rw[if_pos hin]
  rw[hg,hf]at h
  simp -implicitDefEqProofs only[↓Zd,(Zp),Zr,simprocAttr,qP,Value.cells,cut,qC,cld2,(FOx),underlying265,h5,h6,hq,hc]
  exact h _ O hF0 .refl
 ·have hsh:shIs F (q,[])=none:=shIs_none.2 hin
  rw[hsh]at hc
  simp -implicitDefEqProofs only[↓Zd,(Zp),Zr,simprocAttr,qP,Value.cells,cut,qC,cld2,(FOx),underlying265,h5,h6,hq,hc,bOneR,co201]
  refine fgrow_spec h5 h10 (fun q a c e=>⟨(h1 _ (h11 q a c e).1).2,(h11 q a c e).2.1⟩) hpn (by omega) (fun s' hm hs'=>?_) (fun s' b' hlt hb1 hb2 hn' hp' hb' hk'=>?_)
  ·have hg:growN F most (q,[])=0:=by unfold growN;rw[if_neg hin,if_neg (by omega)]
   have hf:growF F most (q,[])=F:=by unfold growF;rw[if_neg hin,if_neg (by omega)]
   rw[hg,hf]at h
   simp -implicitDefEqProofs only[↓Zd,(Zp),Zr,simprocAttr,qP,Value.cells,cut,qC,cld2,(FOx)]
   exact h _ O (hF0.same hs'.1 fun b hb=>hs'.2 b (h1 b hb).2) (.of_le hs')
  ·have hg:growN F most (q,[])=F.length+1:=by unfold growN;rw[if_neg hin,if_pos hlt]
   have hf:growF F most (q,[])=F ++ [(q,[])]:=by unfold growF;rw[if_neg hin,if_pos hlt]
   rw[hg,hf]at h
   have hpos:(0:Int)<((F.length+1:Nat):Int):=by omega
   have hmp:¬ m=p:=h9
   have hm':s'.at' m=some (.map es clock):=by rw[hk' m hmn hmp (fun q a c e=>(h11 q a c e).2.2.1.symm)];exact h6
   simp only[Option.map_none]at hc
   simp -implicitDefEqProofs only[↓Zd,(Zp),Zr,simprocAttr,qP,Value.cells,cut,qC,cld2,(FOx),hpos,hp',hm',hc]
   have hpm:¬ p=m:=fun e=>h9 e.symm
   have hl:(F ++ [(q,([]:List Nat))]).length=F.length+1:=by simp
   refine h _ (fun b=>O b∨b=b') ⟨?_,.inl h2,h3.app hin List.nodup_nil (by simp) (fun x r e=>by cases e),⟨by rw[List.length_append];simp only[List.length_cons,List.length_nil];omega,h4.2⟩,m,.slice (some ⟨b',0,none⟩) (F.length+1) UNK,es ++ [{ key := .int .i64 (q:Int),val := .int .i64 ((F.length+1:Nat):Int),born:=clock }],clock+1,nx,?_,?_,?_,.inl h8,h9,.inr ⟨b',[],by simp,?_,?_⟩,?_,?_⟩ ⟨?_,?_,?_⟩
   ·rintro b (hb|rfl)
    ·exact⟨(h1 b hb).1,by have:=(h1 b hb).2;simp only[St.next_put];omega⟩
    ·exact⟨by omega,by simp only[St.next_put];omega⟩
   ·rw[St.at_put,if_neg hpm];exact hp'
   ·rw[St.at_put,if_pos rfl]
   ·have:=h7.app (x:=q) (j:=F.length+1) (c:=clock) hsh
    have e:(fun x=>shIs (F ++ [(q,[])]) (x,[]))=fun y=>if y=q then some (F.length+1) else shIs F (y,[]):=by
     funext y
     rw[shIs_app hin]
     by_cases e:y=q
     ·subst e;simp
     ·rw[if_neg e,if_neg (by simp[e])]
    rw[e];exact this
   ·rw[St.at_put,if_neg (by omega),hl,rows_app h3 (h12.last (Nat.le_refl _)),List.append_nil]
    exact hb'
   ·exact rows_len (oneC_len _ _) _
   ·intro a c k e
    cases e
    exact⟨.inr rfl,by show b'≠p;omega,by show b'≠m;omega,fun i hi=>by have:=(h1 _ (h12.2 i _ hi).1).2;simp only at this;omega⟩
   ·refine ((h12.root h3 hin).mono fun b hb=>Or.inl hb).same fun i b hb=>?_
    obtain⟨g1,g2,g3,_⟩:=h12.2 i b hb
    rw[St.at_put,if_neg g3]
    exact hk' b (h1 b g1).2 g2 (fun a c k e=>fun e2=>(h11 a c k e).2.2.2 i (by rw[hb,e2]))
   ·simp only[St.next_put];omega
   ·intro b hb ho
    rw[St.at_put,if_neg (fun e:b=m=>ho (e▸h8))]
    exact hk' b hb (fun e=>ho (e▸h2)) (fun a c k e e2=>ho (e2▸(h11 a c k e).1))
   ·rintro b (hb|rfl)
    ·exact .inl hb
    ·exact .inr hb1
end
end Go.Proofs.Tryz
namespace Go.Proofs.Tryz
open Go.Cs
open Go.RowKit (Below)
set_option maxRecDepth 100000
attribute [local irreducible] QC WLoop WScope CRound
section
variable {M:Type}[Mem M]{w0:World}{s:St M}{R:Value→St M→Prop}
def namesOf(F:List Sh)(i:Int):List Nat:=match shAt F i with
 |some t=>t.2
 |none=>[]
set_option maxHeartbeats 4000000 in
theorem fup_spec{p m most a1 a2 lb:Nat}{sl:Value}{F:List Sh}{i:Int}{nx:Nat→Option Nat}{junk:List Value}{x1 x2:Array Value}(J:List Nat→St M→Prop)(hF:FOk F)(hi : -9223372036854775808≤i∧i≤9223372036854775807)(hlen:F.length≤150)
  (hsl:(F.length=0∧sl = .slice none 0 0)∨∃ b,sl = .slice (some ⟨b,0,none⟩) F.length UNK)
  (hkeep:∀ l s1,J l s1→s1.at' a1=some (.cells [.pointer (some ⟨p,0,none⟩)] 143 true)∧s1.at' a2=some (.cells [.int .i64 i] 3 true)∧s1.at' p=some (.cells [sl,.map (some m),.int .i64 (most:Int)] 237 true)∧(∀ b,sl = .slice (some ⟨b,0,none⟩) F.length UNK→s1.at' b=some (.cells (rows (oneC F nx) F.length++junk) 268 true)))
  (h0:J (namesOf F i) s)(hend:∀ s1,J [] s1→R (.tuple #[]) s1)
  (hround:∀ (j q x:Nat) (r:List Nat) s1,F[j]?=some (q,x::r)→J (x::r) s1→CRound Tryz.prog w0 lb #[.agg #[.int .i64 ((parId F (q,x::r):Nat):Int),.int .i64 (x:Int),.int .i64 ((r.length+1:Nat):Int),.int .i64 (q:Int),.map (nx j)]] s1 (fun v s2=>(v = .bool true∧J r s2)∨(v = .bool false∧R (.tuple #[]) s2))) :
  QC Tryz.prog w0 282 #[.func (.yield lb) x1 x2,.pointer (some ⟨a1,0,none⟩),.pointer (some ⟨a2,0,none⟩)] s R:=by
 refine wfun2 hmix ok282 func282 rfl ntmps282 results282 (by simp) ?_
 obtain⟨k1,k2,k3,k4⟩:=hkeep _ _ h0
 simp -implicitDefEqProofs only[↓Zd,(Zp),Zr,simprocAttr,qP,Value.cells,cut,qC,cld2,(FOx),k1,k2,co266]
 refine ffind_spec (n:=F.length) k3 hsl hi (fun hno=>?_) (fun b j hij hj hs=>?_)
 ·have e0:namesOf F i=[]:=by unfold namesOf;rw[shAt_out hno]
  rw[e0]at h0
  simp -implicitDefEqProofs only[↓Zd,(Zp),Zr,simprocAttr,qP,Value.cells,cut,qC,cld2,(FOx)]
  refine wloop_fix hmix [8,9,10,11,12,13,14,15,16,23,24,25,26,27,28,17,18,19,20,21,22,4] (fun fuel env s1=>env 4 = .pointer none∧s1=s) 0 ⟨rfl,rfl⟩ ?_
  rintro fuel env s1 hFx ⟨e4,rfl⟩
  simp -implicitDefEqProofs only[↓Zd,(Zp),Zr,simprocAttr,qP,Value.cells,cut,qC,cld2,(FOx),e4]
  exact hend _ h0
 ·have hFj:F[j]?=some F[j]:=by simp[hj]
  have e0:namesOf F i=F[j].2:=by unfold namesOf;rw[hij,shAt_in,hFj]
  rw[e0]at h0
  subst hs
  simp -implicitDefEqProofs only[↓Zd,(Zp),Zr,simprocAttr,qP,Value.cells,cut,qC,cld2,(FOx)]
  refine wloop_fix hmix [8,9,10,11,12,13,14,15,16,23,24,25,26,27,28,17,18,19,20,21,22,4] (fun fuel env s1=>∃ (j q:Nat) (l:List Nat),fuel=l.length∧F[j]?=some (q,l)∧env 4 = .pointer (some ⟨b,j*5,none⟩)∧J l s1) F[j].2.length ⟨j,F[j].1,F[j].2,rfl,hFj,rfl,h0⟩ ?_
  rintro fuel env s1 hFx ⟨j,q,l,rfl,hFj,e4,hJ⟩
  have hjl:=(List.getElem?_eq_some_iff.1 hFj).1
  obtain⟨g1,g2,g3,g4⟩:=hkeep _ _ hJ
  have g4:=g4 b rfl
  have f2:=rows_get (oneC_len F nx) (n:=F.length) junk hjl (show 2<5 by omega)
  rw[oneC_at hFj]at f2
  have e0:env 0 = .func (.yield lb) x1 x2:=by rw[hFx 0 rfl];rfl
  have e1:env 1 = .pointer (some ⟨a1,0,none⟩):=by rw[hFx 1 rfl];rfl
  cases l with
  |nil =>
   have z0:¬ (0:Int)<((([]:List Nat).length:Nat):Int):=by simp
   simp -implicitDefEqProofs only[↓Zd,(Zp),Zr,simprocAttr,qP,Value.cells,cut,qC,cld2,(FOx),e4,g4,f2,z0]
   exact hend _ hJ
  |cons x r =>
   have z0:(0:Int)<((r.length+1:Nat):Int):=by omega
   obtain⟨jp,hjp,hFp,hpar⟩:=hF.par hFj
   have hjpl:=(List.getElem?_eq_some_iff.1 hFp).1
   obtain⟨hle5,htk5⟩:=rows_cut (oneC_len F nx) (n:=F.length) junk hjl
   rw[oneC_at hFj]at htk5
   simp -implicitDefEqProofs only[↓Zd,(Zp),Zr,simprocAttr,qP,Value.cells,cut,qC,cld2,(FOx),underlying268,ce268,ag268,e0,e4,g4,f2,z0,hle5,htk5]
   refine CRound.mono (hround j q x r s1 hFj hJ) fun v s2 hv=>?_
   rcases hv with ⟨rfl,hJ2⟩|⟨rfl,hR⟩
   ·obtain⟨u1,u2,u3,u4⟩:=hkeep _ _ hJ2
    have u4:=u4 b rfl
    have f0:=rows_get (oneC_len F nx) (n:=F.length) junk hjl (show 0<5 by omega)
    rw[oneC_at hFj]at f0
    simp -implicitDefEqProofs only[↓Zd,(Zp),Zr,simprocAttr,qP,Value.cells,cut,qC,cld2,(FOx),ord282,e1,e4,u1,u4,f0,hpar,co266]
    refine ffind_spec (n:=F.length) u3 hsl (by omega) (fun hno=>by omega) (fun b2 j2 hij2 hj2 hs2=>?_)
    cases hs2
    have:j2=jp:=by omega
    subst this
    simp -implicitDefEqProofs only[↓Zd,(Zp),Zr,simprocAttr,qP,Value.cells,cut,qC,cld2,(FOx),ord282]
    refine⟨by repeat (first|exact hFx|refine Fix.upd (by decide) ?_),r.length,by simp,j2,q,r,rfl,hFp,rfl,hJ2⟩
   ·simp -implicitDefEqProofs only[↓Zd,(Zp),Zr,simprocAttr,qP,Value.cells,cut,qC,cld2,(FOx)]
    exact hR
end
end Go.Proofs.Tryz
namespace Go.Cs
section
variable {M:Type}[Mem M]{P:Program}{w0:World}{s:St M}{ord:Ord}{n:Nat}
theorem wrange_rule{g:Operand}{ps:Array Tmp}{asg bd:Code}{Q:Exit→Env→St M→Prop}{env:Env}{f:FuncId}{a b args:Array Value}(hg:wev env g = .func (.func f) a b)(hok:qK P f=true)(ha:a ++ #[.func (.yield (s.next+1)) #[] #[]]++b=args)
  (h:∀ e asg' bd',e=env→asg'=asg→bd'=bd→codeOk P ord n (.rangeFunc g ps asg' bd')=true→(∀ t,n≤t→e t=undef)→QC P w0 f args (s.skip.new (.loop .ready none ps (arr n e) asg' bd')) fun _ s3=>cendLoop (s.next+1) (fun jump s4=>wpend Q e s4 jump) s3) :
  WRange P w0 ord n g ps asg bd Q env s:=by
 subst ha
 intro h1 h2
 have h:=h _ _ _ rfl rfl rfl h1 h2
 obtain⟨fn,h3,h4⟩:=callOk_spec hok
 have:ccallee P (wev env) (rangeCall g (s.next+1))=some (f,a ++ #[.func (.yield (s.next+1)) #[] #[]]++b):=by
  unfold ccallee rangeCall
  simp only[hg,h3,h4,if_true]
  simp[wev]
 rw[this]
 exact h
theorem assign_go{l:Nat}{body:Code}{K:Value→St M→Prop}{env:Env}{pd:Option Code}{ps:Array Tmp}{tm:Array Value}{asg bd:Code}(h:s.at' l=some (.loop .ready pd ps tm asg bd)) :
  wassignPost P w0 ord n l body K .normal env s=wvc P w0 ord n body (wroundPost l K) env (s.put l (.loop .busy pd ps tm asg bd)):=by
 simp only[wassignPost,cbeginRound,h]
theorem round_norm{l:Nat}{K:Value→St M→Prop}{env:Env}{st:LoopState}{pd:Option Code}{ps:Array Tmp}{tm:Array Value}{asg bd:Code}(h:s.at' l=some (.loop st pd ps tm asg bd)) :
  wroundPost l K .normal env s=K (.bool true) (s.put l (.loop .ready none ps tm asg bd)):=by
 simp only[wroundPost,cendRound,h,Option.isNone_none,if_true]
theorem round_ret{l:Nat}{K:Value→St M→Prop}{env:Env}{st:LoopState}{pd:Option Code}{ps:Array Tmp}{tm:Array Value}{asg bd:Code}(h:s.at' l=some (.loop st pd ps tm asg bd)) :
  wroundPost l K .ret env s=K (.bool false) (s.put l (.loop .done (some .ret) ps tm asg bd)):=by
 simp only[wroundPost,cendRound,h,Option.isNone_some]
 rfl
theorem end_go{l:Nat}{K:Option Code→St M→Prop}{st:LoopState}{pd:Option Code}{ps:Array Tmp}{tm:Array Value}{asg bd:Code}(h:s.at' l=some (.loop st pd ps tm asg bd))(hs:st ≠ .busy)(hk:K pd (s.put l (.loop .exhausted pd ps tm asg bd))):cendLoop l K s:=by
 unfold cendLoop
 rw[h]
 exact⟨hs,hk⟩
end
end Go.Cs
namespace Go.Proofs.Tryz
open Go.Cs
open Go.RowKit (Below)
set_option maxRecDepth 100000
attribute [local irreducible] QC WLoop WScope CRound WRange
section
variable {M:Type}[Mem M]{w0:World}{s:St M}{R:Value→St M→Prop}
def slotL:List Nat→Nat→Int
 | [],_ => -1
 |y::r,x=>if y=x then (r.length:Int) else slotL r x
theorem fupf_spec{p:Nat}{i:Int}(h:∀ s' a1 a2,s'=(s.new (.cells [.pointer (some ⟨p,0,none⟩)] 143 true)).new (.cells [.int .i64 i] 3 true)→a1=s.next→a2=s.next+1→R (.func (.func 282) #[] #[.pointer (some ⟨a1,0,none⟩),.pointer (some ⟨a2,0,none⟩)]) s') :
  QC Tryz.prog w0 268 #[.pointer (some ⟨p,0,none⟩),.int .i64 i] s R:=by
 refine wfun2 hmix ok268 func268 rfl ntmps268 results268 (by simp) ?_
 simp -implicitDefEqProofs only[↓Zd,(Zp),Zr,simprocAttr,qP,Value.cells,cut,qC,cld2,(FOx),is143,is3,ce143]
 exact h _ _ _ rfl rfl rfl
set_option maxHeartbeats 4000000 in
theorem fslot_spec{lo p:Nat}{F:List Sh}{most x:Nat}{O:Nat→Prop}{i:Int}(hF:FAt lo s p F most O)(hi : -9223372036854775808≤i∧i≤9223372036854775807)
  (h:∀ s',s.le s'→R (.int .i64 (slotL (namesOf F i) x)) s') :
  QC Tryz.prog w0 220 #[.pointer (some ⟨p,0,none⟩),.int .i64 i,.int .i64 (x:Int)] s R:=by
 refine wfun2 hmix ok220 func220 rfl ntmps220 results220 (by simp) ?_
 obtain⟨h1,h2,h3,h4,m,sl,es,clock,nx,h5,h6,h7,h8,h9,h10,h11,h12⟩:=hF
 simp -implicitDefEqProofs only[↓Zd,(Zp),Zr,simprocAttr,qP,Value.cells,cut,qC,cld2,(FOx),is3,co268]
 refine fupf_spec fun s1 a1 a2 hs1 ha1 ha2=>?_
 simp only[St.next_new]at hs1 ha1 ha2
 simp -implicitDefEqProofs only[↓Zd,(Zp),Zr,simprocAttr,qP,Value.cells,cut,qC,cld2,(FOx),underlying309]
 refine wrange_rule (f:=282) (a:=#[]) (b:=#[.pointer (some ⟨a1,0,none⟩),.pointer (some ⟨a2,0,none⟩)]) (args:=#[.func (.yield (s1.next+1)) #[] #[],.pointer (some ⟨a1,0,none⟩),.pointer (some ⟨a2,0,none⟩)]) rfl co282 rfl fun env asg bd hE hA hB hcode henv=>?_
 have hn1:s1.next=s.next+4:=by rw[hs1];rfl
 have hold:∀ c,c<s.next→s1.at' c=s.at' c:=fun c hc=>by
  rw[hs1]
  rw[St.at_new,if_neg (by simp only[St.next_new];omega),St.at_new,if_neg (by simp only[St.next_new];omega),St.at_new,if_neg (by simp only[St.next_new];omega),St.at_new,if_neg (by omega)]
 have e5:env 5 = .pointer (some ⟨s.next,0,none⟩):=by rw[hE];rfl
 have e6:env 6 = .pointer (some ⟨s.next+1,0,none⟩):=by rw[hE];rfl
 have hx:s1.at' s.next=some (.cells [.int .i64 (x:Int)] 3 true):=by
  rw[hs1]
  rw[St.at_new,if_neg (by simp only[St.next_new];omega),St.at_new,if_neg (by simp only[St.next_new];omega),St.at_new,if_neg (by simp only[St.next_new];omega),St.at_new,if_pos rfl]
 have hb6:∃ v,s1.at' (s.next+1)=some (.cells [.int .i64 v] 3 true):=by
  refine⟨0,?_⟩
  rw[hs1]
  rw[St.at_new,if_neg (by simp only[St.next_new];omega),St.at_new,if_neg (by simp only[St.next_new];omega),St.at_new,if_pos (by simp only[St.next_new])]
 have hb1:s1.at' a1=some (.cells [.pointer (some ⟨p,0,none⟩)] 143 true):=by
  rw[hs1,ha1]
  rw[St.at_new,if_neg (by simp only[St.next_new];omega),St.at_new,if_pos (by simp only[St.next_new])]
 have hb2:s1.at' a2=some (.cells [.int .i64 i] 3 true):=by
  rw[hs1,ha2]
  rw[St.at_new,if_pos (by simp only[St.next_new])]
 obtain⟨junk,hjunk⟩:∃ junk,∀ b,sl = .slice (some ⟨b,0,none⟩) F.length UNK→s.at' b=some (.cells (rows (oneC F nx) F.length++junk) 268 true):=by
  rcases h10 with ⟨_,_,rfl⟩|⟨b,junk,rfl,hb,_⟩
  ·exact⟨[],fun b e=>by cases e⟩
  ·exact⟨junk,fun b e=>by cases e;exact hb⟩
 have hpn:=(h1 p h2).2
 refine fup_spec (p:=p) (m:=m) (most:=most) (F:=F) (nx:=nx) (junk:=junk) (fun l s2=>s1.next+2≤s2.next∧(∀ c,c<s1.next→c≠s.next+1→s2.at' c=s1.at' c)∧(∃ v,s2.at' (s.next+1)=some (.cells [.int .i64 v] 3 true))∧s2.at' (s1.next+1)=some (.loop .ready none #[11] (arr 19 env) asg bd)∧slotL (namesOf F i) x=slotL l x)
  h3 hi (by omega) h10.form (fun l s2 hJ=>?_) ?_ (fun s2 hJ=>?_) (fun j q y r s2 hFj hJ=>?_)
 ·obtain⟨j1,j2,j3,j4,j5⟩:=hJ
  refine⟨by rw[j2 a1 (by omega) (by omega)];exact hb1,by rw[j2 a2 (by omega) (by omega)];exact hb2,by rw[j2 p (by omega) (by omega),hold p hpn];exact h5,fun b e=>?_⟩
  have hbn:=(h1 _ (h11 _ _ _ e).1).2
  simp only at hbn
  rw[j2 b (by omega) (by omega),hold b hbn]
  exact hjunk b e
 ·refine⟨by simp only[St.next_new,St.next_skip];omega,fun c hc _=>?_,?_,?_,rfl⟩
  ·rw[St.at_new,if_neg (by simp only[St.next_skip];omega)];rfl
  ·obtain⟨v,hv⟩:=hb6
   exact⟨v,by rw[St.at_new,if_neg (by simp only[St.next_skip];omega)];exact hv⟩
  ·rw[St.at_new,if_pos (by simp only[St.next_skip])]
 ·obtain⟨j1,j2,⟨v,j3⟩,j4,j5⟩:=hJ
  refine end_go j4 (by simp) ?_
  rw[j5]at h
  subst hA hB
  simp only[wpend]
  have hne:¬ s.next+1=s1.next+1:=by omega
  simp -implicitDefEqProofs only[↓Zd,(Zp),Zr,simprocAttr,qP,Value.cells,cut,qC,cld2,(FOx),e6,j3,hne]
  refine h _ ⟨by simp only[St.next_put];omega,fun c hc=>?_⟩
  rw[St.at_put,if_neg (by omega),St.at_put,if_neg (by omega),j2 c (by omega) (by omega),hold c hc]
 ·obtain⟨j1,j2,⟨v,j3⟩,j4,j5⟩:=hJ
  refine wround hmix hcode j4 henv rfl ?_
  show wvc _ _ _ _ _ _ (upd env 11 _) s2
  subst hA hB
  simp -implicitDefEqProofs only[↓Zd,(Zp),Zr,simprocAttr,qP,Value.cells,cut,qC,cld2,(FOx),underlying268,is268,ze268,ce268,ag268]
  have hl2:¬ s1.next+1=s2.next:=by omega
  rw[assign_go (by rw[St.at_put,if_neg hl2,St.at_new,if_neg hl2];exact j4)]
  have hx2:s2.at' s.next=some (.cells [.int .i64 (x:Int)] 3 true):=by rw[j2 _ (by omega) (by omega)];exact hx
  have n1:¬ s2.next=s1.next+1:=by omega
  have n2:¬ s.next=s1.next+1:=by omega
  have n3:¬ s.next=s2.next:=by omega
  have n4:¬ s1.next+1=s.next+1:=by omega
  have n5:¬ s2.next=s.next+1:=by omega
  have n6:¬ s.next+1=s1.next+1:=by omega
  have n7:¬ s.next+1=s2.next:=by omega
  have nl:s1.next<s2.next:=by omega
  simp -implicitDefEqProofs only[↓Zd,(Zp),Zr,simprocAttr,qP,Value.cells,cut,qC,cld2,(FOx),e5,hx2,n1,n2,n3]
  by_cases hy:(y:Int)=(x:Int)
  ·have w1:IntKind.i64.wrap (((r.length+1:Nat):Int) - 1)=((r.length:Nat):Int):=by
    have:=(h3.names _ _ _ hFj).2
    simp only[List.length_cons]at this
    rw[wrap_i64 (by omega)];omega
   have hsl2:slotL (y::r) x=(r.length:Int):=by unfold slotL;rw[if_pos (by omega)]
   rw[j5,hsl2]at h
   simp -implicitDefEqProofs only[↓Zd,(Zp),Zr,simprocAttr,qP,Value.cells,cut,qC,cld2,(FOx),e6,hy,decide_true,j3,w1,n1,n4,n5,n6,n7]
   rw[round_ret (st := .busy) (by rw[St.at_put,if_neg n4,St.at_put,if_pos rfl])]
   refine .inr ⟨rfl,end_go (by rw[St.at_put,if_pos rfl]) (by simp) ?_⟩
   simp only[wpend]
   simp -implicitDefEqProofs only[↓Zd,(Zp),Zr,simprocAttr,qP,Value.cells,cut,qC,cld2,(FOx),e6,n6]
   refine h _ ⟨by simp only[(Sn)];omega,fun c hc=>?_⟩
   rw[St.at_put,if_neg (by omega),St.at_put,if_neg (by omega),St.at_put,if_neg (by omega),St.at_put,if_neg (by omega),St.at_put,if_neg (by omega),St.at_new,if_neg (by omega),j2 c (by omega) (by omega),hold c hc]
  ·have hsl2:slotL (y::r) x=slotL r x:=by conv=>lhs;unfold slotL;rw[if_neg (by omega)]
   simp -implicitDefEqProofs only[↓Zd,(Zp),Zr,simprocAttr,qP,Value.cells,cut,qC,cld2,(FOx),hy,decide_false]
   rw[round_norm (st := .busy) (by rw[St.at_put,if_pos rfl])]
   refine .inl ⟨rfl,by simp only[(Sn)];omega,fun c hc hcn=>?_,⟨v,?_⟩,?_,by rw[j5,hsl2]⟩
   ·rw[St.at_put,if_neg (by omega),St.at_put,if_neg (by omega),St.at_put,if_neg (by omega),St.at_new,if_neg (by omega),j2 c hc hcn]
   ·rw[St.at_put,if_neg (by omega),St.at_put,if_neg (by omega),St.at_put,if_neg (by omega),St.at_new,if_neg (by omega),j3]
   ·rw[St.at_put,if_pos rfl]
end
end Go.Proofs.Tryz
namespace Go.Proofs.Tryz
open Go.Cs
open Go.RowKit (Below)
set_option maxRecDepth 100000
attribute [local irreducible] QC WLoop WScope CRound WRange
def ints(l:List Nat):List Value:=l.map fun (x:Nat) => .int .i64 (x:Int)
theorem ints_len(l:List Nat):(ints l).length=l.length:=by simp[ints]
theorem ints_get{l:List Nat}{k:Nat}(junk:List Value)(h:k<l.length):(ints l++junk)[k]?=some (.int .i64 ((l[k]:Nat):Int)):=by
 rw[List.getElem?_append_left (by rw[ints_len];exact h)]
 simp[ints,h]
theorem ints_set{l:List Nat}{k x:Nat}(junk:List Value)(h:k<l.length):(ints l++junk).set k (.int .i64 (x:Int))=ints (l.set k x)++junk:=by
 rw[List.set_append_left _ _ (by rw[ints_len];exact h)]
 simp[ints,List.map_set]
theorem rowInt(x:Nat):crow Tryz.prog 88 1 #[(0,.int .i64 (x:Int))]=some (.cells [.int .i64 (x:Int)] 3 true):=by kernel_rfl
theorem infoInt:∃ ie,Tryz.prog.info? 3=some ie∧ie.size=1∧ie.bytes=8:=by
 obtain⟨ie,h⟩:=Option.isSome_iff_exists.1 is3
 have h1:=ce3
 have h2:Tryz.prog.bytesOf 3=8:=by kernel_rfl
 rw[cellsOf_info h]at h1
 simp only[Program.bytesOf,h]at h2
 exact⟨ie,h,h1,h2⟩
section
variable {M:Type}[Mem M]{w0:World}{s:St M}{R:Value→St M→Prop}
theorem app_int{s:St M}{sl:Value}{l:List Nat}{x:Nat}(hlen:l.length≤1000000)(hsl:SlU 3 1 s sl (ints l) l.length)(hfr:∀ q m c,sl = .slice (some q) m c→q.block<s.next) :
  ∃ s',capp Tryz.prog #[88,88] #[sl,.slice (some ⟨s.next,0,none⟩) 1 1] (s.new (.cells [.int .i64 (x:Int)] 3 true))=some (.slice (some ⟨s.next+1,0,none⟩) (l.length+1) UNK,s')∧s'.next=s.next+2 ∧
   s'.at' (s.next+1)=some (.cells (ints (l ++ [x])) 3 true)∧(∀ b,b<s.next→(∀ q n c,sl = .slice (some q) n c→b≠q.block)→s'.at' b=s.at' b):=by
 obtain⟨ie,hie,h1,h2⟩:=infoInt
 have hcapp:capp Tryz.prog #[88,88] #[sl,.slice (some ⟨s.next,0,none⟩) 1 1] (s.new (.cells [.int .i64 (x:Int)] 3 true))=capp3 Tryz.prog 3 ie sl (s.new (.cells [.int .i64 (x:Int)] 3 true)) (cmore ie.size (.slice (some ⟨s.next,0,none⟩) 1 1) (s.new (.cells [.int .i64 (x:Int)] 3 true))):=
  app_eq underlying88 underlying88 hie
 have hv:cmore ie.size (.slice (some ⟨s.next,0,none⟩) 1 1) (s.new (.cells [.int .i64 (x:Int)] 3 true))=some (1,[.int .i64 (x:Int)]):=by
  simp only[more_at,St.at_new,if_true,more2,h1];rfl
 obtain⟨s',h3,h4,h5,h6⟩:=app_rowU (n:=l.length) (k:=1) hie ze3 (by rw[h1];rfl) (by omega) hcapp (by omega) (by rw[h2];omega) rfl hv (by rw[h1];exact hsl.same fun q m c e=>by rw[St.at_new,if_neg (by have:=hfr q m c e;omega)])
 refine⟨s',by simpa using h3,by simp at h4;omega,by simpa [ints] using h5,fun b hb hq=>?_⟩
 rw[h6 b (by simp;omega) hq,St.at_new,if_neg (by omega)]
structure Half(xs ys:List Nat)(i:Nat):Prop where
 len:ys.length=xs.length
 out:∀ k,k<xs.length→(k<i∨xs.length≤k+i)→ys[k]?=xs[xs.length - 1 - k]?
 mid:∀ k,i≤k→k+i<xs.length→ys[k]?=xs[k]?
theorem Half.start(xs:List Nat):Half xs xs 0:=⟨rfl,fun k h1 h2=>by omega,fun k _ _=>rfl⟩
theorem Half.done{xs ys:List Nat}{i:Nat}(h:Half xs ys i)(hi:xs.length≤2*i+1):ys=xs.reverse:=by
 apply List.ext_getElem?
 intro k
 by_cases hk:k<xs.length
 ·rw[List.getElem?_reverse hk]
  by_cases h1:k<i∨xs.length≤k+i
  ·exact h.out k hk h1
  ·have:k=xs.length - 1 - k:=by omega
   rw[h.mid k (by omega) (by omega),← this]
 ·rw[List.getElem?_eq_none (by rw[h.len];omega),List.getElem?_eq_none (by simp;omega)]
theorem Half.step{xs ys:List Nat}{i j:Nat}(h:Half xs ys i)(hij:i+j+1=xs.length)(hlt:i<j)(hi:i<ys.length)(hj:j<ys.length):Half xs ((ys.set i ys[j]).set j ys[i]) (i+1):=by
 have e1:ys[i]?=some ys[i]:=List.getElem?_eq_getElem hi
 have e2:ys[j]?=some ys[j]:=List.getElem?_eq_getElem hj
 have m1:=h.mid i (Nat.le_refl _) (by omega)
 have m2:=h.mid j (by omega) (by omega)
 have hl:=h.len
 refine⟨by simp[h.len],fun k hk hko=>?_,fun k h1 h2=>?_⟩
 ·rw[List.getElem?_set]
  by_cases c1:j=k
  ·subst c1
   simp only[if_true,List.length_set,hj]
   rw[← e1,m1];congr 1;omega
  ·rw[if_neg c1,List.getElem?_set]
   by_cases c2:i=k
   ·subst c2
    simp only[if_true,hi]
    rw[← e2,m2];congr 1;omega
   ·rw[if_neg c2]
    exact h.out k hk (by omega)
 ·rw[List.getElem?_set,if_neg (by omega),List.getElem?_set,if_neg (by omega)]
  exact h.mid k (by omega) (by omega)
set_option maxHeartbeats 4000000 in
theorem rev_spec{xs:List Nat}{sl:Value}{b:Nat}{junk:List Value}(hN:xs.length≤1000)(hsl:(xs=[]∧sl = .slice none 0 0)∨(sl = .slice (some ⟨b,0,none⟩) xs.length UNK∧s.at' b=some (.cells (ints xs++junk) 3 true)))
  (h:∀ s',s.next=s'.next→(∀ c,c≠b→s'.at' c=s.at' c)→(sl = .slice (some ⟨b,0,none⟩) xs.length UNK→s'.at' b=some (.cells (ints xs.reverse++junk) 3 true))→R (.tuple #[]) s') :
  QC Tryz.prog w0 280 #[sl] s R:=by
 refine wfun2 hmix ok280 func280 rfl ntmps280 results280 (by simp) ?_
 rcases hsl with ⟨rfl,rfl⟩|⟨rfl,hb⟩
 ·simp -implicitDefEqProofs only[↓Zd,(Zp),Zr,simprocAttr,qP,Value.cells,cut,qC,cld2,underlying3,underlying4,underlying9,underlying5,underlying38,underlying0,be4,bn4,underlying88]
  have w1:IntKind.i64.wrap ((0:Int) - 1) = -1:=by rfl
  simp -implicitDefEqProofs only[↓Zd,(Zp),Zr,simprocAttr,qP,Value.cells,cut,qC,cld2,underlying3,underlying4,underlying9,underlying5,underlying38,underlying0,be4,bn4,w1]
  refine wloop_fix hmix [7,8,9,14,15,16,17,18,19,20,21,22,23,24,25,26,27,10,11,12,13,2,3] (fun fuel env s1=>env 2 = .int .i64 0∧env 3 = .int .i64 (-1)∧s1=s) 0 ⟨rfl,rfl,rfl⟩ ?_
  rintro fuel env s1 hFx ⟨e2,e3,rfl⟩
  simp -implicitDefEqProofs only[↓Zd,(Zp),Zr,simprocAttr,qP,Value.cells,cut,qC,cld2,underlying3,underlying4,underlying9,underlying5,underlying38,underlying0,be4,bn4,e2,e3]
  exact h _ rfl (fun _ _=>rfl) (fun e=>by cases e)
 ·have w1:IntKind.i64.wrap ((xs.length:Int) - 1)=(xs.length:Int) - 1:=wrap_i64 (by omega)
  simp -implicitDefEqProofs only[↓Zd,(Zp),Zr,simprocAttr,qP,Value.cells,cut,qC,cld2,underlying3,underlying4,underlying9,underlying5,underlying38,underlying0,be4,bn4,underlying88,w1]
  refine wloop_fix hmix [7,8,9,14,15,16,17,18,19,20,21,22,23,24,25,26,27,10,11,12,13,2,3] (fun fuel env s1=>∃ (i:Nat) (ys:List Nat),fuel=xs.length - i∧i≤xs.length∧env 2 = .int .i64 (i:Int)∧env 3 = .int .i64 ((xs.length:Int) - 1 - (i:Int))∧Half xs ys i∧s1.next=s.next∧(∀ c,c≠b→s1.at' c=s.at' c)∧s1.at' b=some (.cells (ints ys++junk) 3 true)) xs.length
   ⟨0,xs,rfl,by omega,rfl,by show Value.int .i64 _=_;congr 1;omega,.start xs,rfl,fun _ _=>rfl,hb⟩ ?_
  rintro fuel env s1 hFx ⟨i,ys,rfl,hi,e2,e3,hH,hn,hk,hbs⟩
  have e0:env 0 = .slice (some ⟨b,0,none⟩) xs.length UNK:=by rw[hFx 0 rfl];rfl
  by_cases hlt:(i:Int)<(xs.length:Int) - 1 - (i:Int)
  ·obtain⟨j,hj⟩:∃ j:Nat,i+j+1=xs.length:=⟨xs.length - 1 - i,by omega⟩
   have ej:(xs.length:Int) - 1 - (i:Int)=(j:Int):=by omega
   rw[ej]at e3 hlt
   have hl:=hH.len
   have g1:=ints_get (l:=ys) (k:=i) junk (by omega)
   have g2:=ints_get (l:=ys) (k:=j) junk (by omega)
   have hle1:i+1≤(ints ys++junk).length:=by rw[List.length_append,ints_len];omega
   have hle2:j+1≤(ints ys++junk).length:=by rw[List.length_append,ints_len];omega
   have hi1:(0:Int)≤(i:Int)∧(i:Int)<(xs.length:Int):=by omega
   have hj1:(0:Int)≤(j:Int)∧(j:Int)<(xs.length:Int):=by omega
   have w2:IntKind.i64.wrap ((i:Int)+1)=((i+1:Nat):Int):=by rw[wrap_i64 (by omega)];omega
   have w3:IntKind.i64.wrap ((j:Int) - 1)=(xs.length:Int) - 1 - ((i+1:Nat):Int):=by rw[wrap_i64 (by omega)];omega
   simp -implicitDefEqProofs only[↓Zd,(Zp),Zr,simprocAttr,qP,Value.cells,cut,qC,cld2,underlying3,underlying4,underlying9,underlying5,underlying38,underlying0,be4,bn4,underlying88,ord280,e0,e2,e3,hlt,hi1,hj1,Int.toNat_natCast,Nat.zero_add,Nat.mul_one,Nat.add_zero,hbs,g1,g2,ag3,sz3,ce3,w2,w3,hle1,hle2,List.length_set]
   refine⟨by repeat (first|exact hFx|refine Fix.upd (by decide) ?_),xs.length - (i+1),by omega,i+1,(ys.set i ys[j]).set j ys[i],rfl,by omega,rfl,rfl,hH.step hj (by omega) (by omega) (by omega),hn,fun c hc=>?_,?_⟩
   ·rw[if_neg hc,if_neg hc,hk c hc]
   ·rw[ints_set junk (by omega),ints_set junk (by rw[List.length_set];omega)]
  ·simp -implicitDefEqProofs only[↓Zd,(Zp),Zr,simprocAttr,qP,Value.cells,cut,qC,cld2,underlying3,underlying4,underlying9,underlying5,underlying38,underlying0,be4,bn4,e2,e3,hlt]
   have:=hH.done (by omega)
   subst this
   exact h _ hn.symm hk (fun _=>hbs)
end
end Go.Proofs.Tryz
namespace Go.Proofs.Tryz
open Go.Cs
open Go.RowKit (Below)
set_option maxRecDepth 100000
attribute [local irreducible] QC WLoop WScope CRound WRange
section
variable {M:Type}[Mem M]{w0:World}{s:St M}{R:Value→St M→Prop}
theorem wch_app_int{s:St M}{sl:Value}{l:List Nat}{x:Nat}{K:Value→St M→Prop}(hlen:l.length≤1000000)(hsl:SlU 3 1 s sl (ints l) l.length)(hfr:∀ q m c,sl = .slice (some q) m c→q.block<s.next)
  (h:∀ s',s'.next=s.next+2→s'.at' (s.next+1)=some (.cells (ints (l ++ [x])) 3 true)→(∀ b,b<s.next→(∀ q n c,sl = .slice (some q) n c→b≠q.block)→s'.at' b=s.at' b)→K (.slice (some ⟨s.next+1,0,none⟩) (l.length+1) UNK) s') :
  wch (capp Tryz.prog #[88,88] #[sl,.slice (some ⟨s.next,0,none⟩) 1 1] (s.new (.cells [.int .i64 (x:Int)] 3 true))) K:=by
 obtain⟨s',h1,h2,h3,h4⟩:=app_int (x:=x) hlen hsl hfr
 exact⟨_,_,h1,h s' h2 h3 h4⟩
theorem namesOf_len{F:List Sh}(h:FOk F)(i:Int):(namesOf F i).length≤12:=by
 unfold namesOf shAt
 split
 ·rename_i t ht
  split at ht
  ·exact (h.names _ t.1 t.2 ht).2
  ·cases ht
 ·simp
set_option maxHeartbeats 4000000 in
theorem fnames_spec{lo p:Nat}{F:List Sh}{most:Nat}{O:Nat→Prop}{i:Int}(hF:FAt lo s p F most O)(hi : -9223372036854775808≤i∧i≤9223372036854775807)
  (h:∀ s' sl',s.le s'→SlU 3 1 s' sl' (ints (namesOf F i).reverse) (namesOf F i).length→(∀ q n c,sl' = .slice (some q) n c→s.next≤q.block∧q.block<s'.next)→R sl' s') :
  QC Tryz.prog w0 259 #[.pointer (some ⟨p,0,none⟩),.int .i64 i] s R:=by
 refine wfun2 hmix ok259 func259 rfl ntmps259 results259 (by simp) ?_
 obtain⟨h1,h2,h3,h4,m,sl,es,clock,nx,h5,h6,h7,h8,h9,h10,h11,h12⟩:=hF
 have hlen12:=namesOf_len h3 i
 simp -implicitDefEqProofs only[↓Zd,(Zp),Zr,simprocAttr,qP,Value.cells,cut,qC,cld2,(FOx),is88,ze88,underlying88,co268]
 refine fupf_spec fun s1 a1 a2 hs1 ha1 ha2=>?_
 simp only[St.next_new]at hs1 ha1 ha2
 simp -implicitDefEqProofs only[↓Zd,(Zp),Zr,simprocAttr,qP,Value.cells,cut,qC,cld2,(FOx),underlying309]
 refine wrange_rule (f:=282) (a:=#[]) (b:=#[.pointer (some ⟨a1,0,none⟩),.pointer (some ⟨a2,0,none⟩)]) (args:=#[.func (.yield (s1.next+1)) #[] #[],.pointer (some ⟨a1,0,none⟩),.pointer (some ⟨a2,0,none⟩)]) rfl co282 rfl fun env asg bd hE hA hB hcode henv=>?_
 have hn1:s1.next=s.next+3:=by rw[hs1];rfl
 have hold:∀ c,c<s.next→s1.at' c=s.at' c:=fun c hc=>by
  rw[hs1]
  rw[St.at_new,if_neg (by simp only[St.next_new];omega),St.at_new,if_neg (by simp only[St.next_new];omega),St.at_new,if_neg (by omega)]
 have e5:env 5 = .pointer (some ⟨s.next,0,none⟩):=by rw[hE];rfl
 have hb5:s1.at' s.next=some (.cells [.slice none 0 0] 88 true):=by
  rw[hs1]
  rw[St.at_new,if_neg (by simp only[St.next_new];omega),St.at_new,if_neg (by simp only[St.next_new];omega),St.at_new,if_pos rfl]
 have hb1:s1.at' a1=some (.cells [.pointer (some ⟨p,0,none⟩)] 143 true):=by
  rw[hs1,ha1]
  rw[St.at_new,if_neg (by simp only[St.next_new];omega),St.at_new,if_pos (by simp only[St.next_new])]
 have hb2:s1.at' a2=some (.cells [.int .i64 i] 3 true):=by
  rw[hs1,ha2]
  rw[St.at_new,if_pos (by simp only[St.next_new])]
 obtain⟨junk,hjunk⟩:∃ junk,∀ b,sl = .slice (some ⟨b,0,none⟩) F.length UNK→s.at' b=some (.cells (rows (oneC F nx) F.length++junk) 268 true):=by
  rcases h10 with ⟨_,_,rfl⟩|⟨b,junk,rfl,hb,_⟩
  ·exact⟨[],fun b e=>by cases e⟩
  ·exact⟨junk,fun b e=>by cases e;exact hb⟩
 have hpn:=(h1 p h2).2
 refine fup_spec (p:=p) (m:=m) (most:=most) (F:=F) (nx:=nx) (junk:=junk) (fun l s2=>∃ seen sl',namesOf F i=seen++l∧s1.next+2≤s2.next∧(∀ c,c<s1.next→c≠s.next→s2.at' c=s1.at' c)∧s2.at' s.next=some (.cells [sl'] 88 true)∧SlU 3 1 s2 sl' (ints seen) seen.length ∧
   (∀ q n c,sl' = .slice (some q) n c→s1.next+2≤q.block∧q.block<s2.next)∧s2.at' (s1.next+1)=some (.loop .ready none #[10] (arr 19 env) asg bd))
  h3 hi (by omega) h10.form (fun l s2 hJ=>?_) ?_ (fun s2 hJ=>?_) (fun j q y r s2 hFj hJ=>?_)
 ·obtain⟨seen,sl',j1,jn,j2,j3,j4,j5,j6⟩:=hJ
  refine⟨by rw[j2 a1 (by omega) (by omega)];exact hb1,by rw[j2 a2 (by omega) (by omega)];exact hb2,by rw[j2 p (by omega) (by omega),hold p hpn];exact h5,fun b e=>?_⟩
  have hbn:=(h1 _ (h11 _ _ _ e).1).2
  simp only at hbn
  rw[j2 b (by omega) (by omega),hold b hbn]
  exact hjunk b e
 ·refine⟨[],.slice none 0 0,rfl,by simp only[St.next_new,St.next_skip];omega,fun c hc _=>?_,?_,.inl ⟨rfl,rfl,rfl⟩,(fun q n c e=>by cases e),?_⟩
  ·rw[St.at_new,if_neg (by simp only[St.next_skip];omega)];rfl
  ·rw[St.at_new,if_neg (by simp only[St.next_skip];omega)];exact hb5
  ·rw[St.at_new,if_pos (by simp only[St.next_skip])]
 ·obtain⟨seen,sl',j1,jn,j2,j3,j4,j5,j6⟩:=hJ
  refine end_go j6 (by simp) ?_
  rw[List.append_nil]at j1
  rw[j1]at h hlen12
  subst hA hB
  simp only[wpend]
  have hne:¬ s.next=s1.next+1:=by omega
  simp -implicitDefEqProofs only[↓Zd,(Zp),Zr,simprocAttr,qP,Value.cells,cut,qC,cld2,(FOx),underlying88,ag88,e5,j3,hne,co280]
  have hsl2:(seen=[]∧sl' = .slice none 0 0)∨∃ b junk2,sl' = .slice (some ⟨b,0,none⟩) seen.length UNK∧s2.at' b=some (.cells (ints seen++junk2) 3 true):=by
   rcases j4 with ⟨e1,_,e3⟩|⟨b,junk2,e1,e2,_⟩
   ·exact .inl ⟨List.eq_nil_of_length_eq_zero e1,e3⟩
   ·exact .inr ⟨b,junk2,e1,e2⟩
  rcases hsl2 with ⟨rfl,rfl⟩|⟨b,junk2,rfl,hb⟩
  ·refine rev_spec (xs:=[]) (b:=s2.next) (junk:=[]) (by simp) (.inl ⟨rfl,rfl⟩) fun s3 hn3 hk3 _=>?_
   have hn3':=hn3
   simp only[St.next_put]at hn3'
   have hr:s3.at' s.next=some (.cells [.slice none 0 0] 88 true):=by rw[hk3 _ (by omega),St.at_put,if_neg hne];exact j3
   simp -implicitDefEqProofs only[↓Zd,(Zp),Zr,simprocAttr,qP,Value.cells,cut,qC,cld2,(FOx),underlying88,ag88,e5,hr]
   refine h _ _ ⟨by omega,fun c hc=>?_⟩ (.inl ⟨rfl,rfl,rfl⟩) (fun q n c e=>by cases e)
   rw[hk3 c (by omega),St.at_put,if_neg (by omega),j2 c (by omega) (by omega),hold c hc]
  ·have hbn:=j5 _ _ _ rfl
   simp only at hbn
   refine rev_spec (xs:=seen) (b:=b) (junk:=junk2) (by omega) (.inr ⟨rfl,?_⟩) fun s3 hn3 hk3 hb3=>?_
   ·rw[St.at_put,if_neg (by omega)];exact hb
   have hn3':=hn3
   simp only[St.next_put]at hn3'
   have hr:s3.at' s.next=some (.cells [.slice (some ⟨b,0,none⟩) seen.length UNK] 88 true):=by rw[hk3 _ (by omega),St.at_put,if_neg hne];exact j3
   simp -implicitDefEqProofs only[↓Zd,(Zp),Zr,simprocAttr,qP,Value.cells,cut,qC,cld2,(FOx),underlying88,ag88,e5,hr]
   refine h _ _ ⟨by omega,fun c hc=>?_⟩ (.inr ⟨b,junk2,rfl,hb3 rfl,by rw[ints_len,List.length_reverse];omega⟩) (fun q n c e=>by cases e;simp only;omega)
   rw[hk3 c (by omega),St.at_put,if_neg (by omega),j2 c (by omega) (by omega),hold c hc]
 ·obtain⟨seen,sl',j1,jn,j2,j3,j4,j5,j6⟩:=hJ
  refine wround hmix hcode j6 henv rfl ?_
  show wvc _ _ _ _ _ _ (upd env 10 _) s2
  subst hA hB
  simp -implicitDefEqProofs only[↓Zd,(Zp),Zr,simprocAttr,qP,Value.cells,cut,qC,cld2,(FOx),underlying268,is268,ze268,ce268,ag268]
  have hl2:¬ s1.next+1=s2.next:=by omega
  rw[assign_go (by rw[St.at_put,if_neg hl2,St.at_new,if_neg hl2];exact j6)]
  have n1:¬ s2.next=s1.next+1:=by omega
  have n2:¬ s.next=s1.next+1:=by omega
  have n3:¬ s.next=s2.next:=by omega
  simp -implicitDefEqProofs only[↓Zd,(Zp),Zr,simprocAttr,qP,Value.cells,cut,qC,cld2,(FOx),underlying88,ag88,sz88,e5,j3,n1,n2,n3,rowInt]
  have hseen:seen.length≤12:=by rw[j1,List.length_append]at hlen12;omega
  have hj5:∀ q n c,sl' = .slice (some q) n c→q.block≠s1.next+1∧q.block≠s2.next:=fun q n c e=>by have:=j5 q n c e;omega
  refine wch_app_int (l:=seen) (x:=y) (by omega) (j4.same fun q n c e=>by rw[St.at_put,if_neg (hj5 q n c e).1,St.at_put,if_neg (hj5 q n c e).2,St.at_new,if_neg (hj5 q n c e).2]) (fun q n c e=>by have:=j5 q n c e;simp only[(Sn)];omega) fun s5 hn5 hb5' hk5=>?_
  simp only[(Sn)]at hn5 hb5' hk5
  have hr5:s5.at' s.next=some (.cells [sl'] 88 true):=by
   rw[hk5 _ (by omega) (fun q n c e e2=>by have:=j5 q n c e;omega),St.at_put,if_neg n2,St.at_put,if_neg n3,St.at_new,if_neg n3];exact j3
  simp -implicitDefEqProofs only[↓Zd,(Zp),Zr,simprocAttr,qP,Value.cells,cut,qC,cld2,(FOx),underlying88,ag88,sz88,e5,hr5]
  rw[round_norm (st := .busy) (by rw[St.at_put,if_neg (by omega),hk5 _ (by omega) (fun q n c e e2=>by have:=j5 q n c e;omega),St.at_put,if_pos rfl])]
  refine .inl ⟨rfl,seen ++ [y],.slice (some ⟨s2.next+1+1,0,none⟩) (seen.length+1) UNK,by rw[j1];simp,by simp only[St.next_put];omega,fun c hc hcn=>?_,?_,.inr ⟨s2.next+1+1,[],by simp,?_,by rw[ints_len,Nat.mul_one]⟩,(fun q n c e=>by cases e;simp only[St.next_put];omega),?_⟩
  ·rw[St.at_put,if_neg (by omega),St.at_put,if_neg (by omega),hk5 c (by omega) (fun q n k e e2=>by have:=j5 q n k e;omega),St.at_put,if_neg (by omega),St.at_put,if_neg (by omega),St.at_new,if_neg (by omega),j2 c hc hcn]
  ·rw[St.at_put,if_neg n2,St.at_put,if_pos rfl]
  ·rw[St.at_put,if_neg (by omega),St.at_put,if_neg (by omega),List.append_nil];exact hb5'
  ·rw[St.at_put,if_pos rfl]
end
end Go.Proofs.Tryz
namespace Go.Proofs.Tryz
open Go.Cs
open Go.RowKit (Below)
set_option maxRecDepth 100000
attribute [local irreducible] QC WLoop WScope CRound WRange
theorem slotL_neg:∀ (l:List Nat) (x:Nat),slotL l x<0↔x ∉ l:=by
 intro l x
 induction l with
 |nil=>simp[slotL]
 |cons y r ih =>
  unfold slotL
  by_cases e:y=x
  ·subst e;rw[if_pos rfl];simp
  ·rw[if_neg e,ih]
   constructor
   ·intro h h2
    rcases List.mem_cons.1 h2 with h3|h3
    ·exact e h3.symm
    ·exact h h3
   ·intro h h2;exact h (List.mem_cons_of_mem _ h2)
def addF(F:List Sh)(most:Nat)(i:Int)(x:Nat):List Sh:=match shAt F i with
 |none=>F
 |some t=>if 12≤t.2.length∨x∈t.2 then F else growF F most (t.1,x::t.2)
def addN(F:List Sh)(most:Nat)(i:Int)(x:Nat):Nat:=match shAt F i with
 |none=>0
 |some t=>if 12≤t.2.length∨x∈t.2 then 0 else growN F most (t.1,x::t.2)
section
variable {M:Type}[Mem M]{w0:World}{s:St M}{R:Value→St M→Prop}
theorem Kids.add{s s':St M}{F:List Sh}{O O':Nat→Prop}{p m q x j bm:Nat}{l:List Nat}{nx:Nat→Option Nat}(h:Kids s F O p m nx)(hF:FOk F)(hj:F[j]?=some (q,l))(ht:(q,x::l) ∉ F)
  (hk:∀ i b,nx i=some b→b≠bm→s'.at' b=s.at' b)(hbm:∃ es c,s'.at' bm=some (.map es c)∧MI es (fun y=>shIs (F ++ [(q,x::l)]) (q,y::l)))(hO:∀ b,O b→O' b)(hb1:O' bm)(hb2:bm≠p)(hb3:bm≠m)(hb4:∀ i,nx i=some bm→i=j) :
  Kids s' (F ++ [(q,x::l)]) O' p m (fun i=>if i=j then some bm else nx i):=by
 have hjl:=(List.getElem?_eq_some_iff.1 hj).1
 have hs:∀ (i:Nat) (t:Sh) (y:Nat),i≠j→F[i]?=some t→shIs (F ++ [(q,x::l)]) (t.1,y::t.2)=shIs F (t.1,y::t.2):=fun i t y hij hi=>by
  rw[shIs_app ht,if_neg]
  intro e
  simp only[Prod.mk.injEq,List.cons.injEq]at e
  have:t=(q,l):=by obtain⟨a,b⟩:=t;simp only at e;rw[e.1,e.2.2]
  subst this
  exact hij (hF.one hi hj)
 refine⟨fun i hi t hti y=>?_,fun i b hb=>?_⟩
 ·have hij:i≠j:=by intro e;simp only[if_pos e]at hi;cases hi
  simp only[if_neg hij]at hi
  by_cases h1:i<F.length
  ·rw[List.getElem?_append_left h1]at hti
   rw[hs i t y hij hti]
   exact h.1 i hi t hti y
  ·rw[List.getElem?_append_right (by omega)]at hti
   have h0:i - F.length=0:=by
    have:=(List.getElem?_eq_some_iff.1 hti).1
    simp at this;omega
   rw[h0]at hti
   simp at hti
   subst hti
   rw[shIs_app ht,if_neg (by simp),shIs_none]
   intro hm
   obtain⟨k,hk,e⟩:=List.getElem_of_mem hm
   obtain⟨k2,_,hk2⟩:=hF.up k q y (x::l) (by rw[List.getElem?_eq_getElem hk,e])
   exact ht (List.mem_of_getElem? hk2)
 ·by_cases hij:i=j
  ·subst hij
   simp only[if_true,Option.some.injEq]at hb
   subst hb
   obtain⟨es,c,g1,g2⟩:=hbm
   refine⟨hb1,hb2,hb3,fun k hk2=>?_,(q,l),by rw[List.getElem?_append_left hjl];exact hj,es,c,g1,g2⟩
   by_cases e:k=i
   ·exact e
   ·simp only[if_neg e]at hk2;exact hb4 k hk2
  ·simp only[if_neg hij]at hb
   have hne:b≠bm:=fun e=>hij (hb4 i (e▸hb))
   obtain⟨g1,g2,g3,g4,t,g5,es,c,g6,g7⟩:=h.2 i b hb
   refine⟨hO b g1,g2,g3,fun k hk2=>?_,t,by rw[List.getElem?_append_left (List.getElem?_eq_some_iff.1 g5).1];exact g5,es,c,by rw[hk i b hb hne];exact g6,?_⟩
   ·by_cases e:k=j
    ·simp only[if_pos e,Option.some.injEq]at hk2;exact absurd hk2.symm hne
    ·simp only[if_neg e]at hk2;exact g4 k hk2
   ·have:(fun y=>shIs (F ++ [(q,x::l)]) (t.1,y::t.2))=fun y=>shIs F (t.1,y::t.2):=by funext y;exact hs i t y hij g5
    rw[this];exact g7
theorem bOneA(a b c d:Nat):cbuild Tryz.prog 268 #[(0,.int .i64 (a:Int)),(1,.int .i64 (b:Int)),(2,.int .i64 (c:Int)),(3,.int .i64 (d:Int))]=some (.agg #[.int .i64 (a:Int),.int .i64 (b:Int),.int .i64 (c:Int),.int .i64 (d:Int),.map none]):=by kernel_rfl
theorem cfindI_nil(x:Nat):cfind Tryz.prog 3 (.int .i64 (x:Int)) []=some none:=by
 unfold cfind;rw[if_pos (show plain 6 (Value.int .i64 (x:Int))=true from rfl),underlying3];rfl
theorem parId_app{F:List Sh}(h:FOk F){j q x:Nat}{l:List Nat}(hj:F[j]?=some (q,l)):parId (F ++ [(q,x::l)]) (q,x::l)=j+1:=by
 have:=h.is hj
 unfold shIs at this
 rw[if_pos (List.mem_of_getElem? hj)]at this
 unfold parId
 simp only
 rw[List.idxOf_append,if_pos (List.mem_of_getElem? hj)]
 exact Option.some.inj this
set_option maxHeartbeats 4000000 in
theorem fadd_spec{lo p:Nat}{F:List Sh}{most x:Nat}{O:Nat→Prop}{i:Int}(hF:FAt lo s p F most O)(hlo:lo≤s.next)(hi : -9223372036854775808≤i∧i≤9223372036854775807)
  (h:∀ s' O',FAt lo s' p (addF F most i x) most O'→Upd s s' O O'→R (.int .i64 (addN F most i x:Int)) s') :
  QC Tryz.prog w0 226 #[.pointer (some ⟨p,0,none⟩),.int .i64 i,.int .i64 (x:Int)] s R:=by
 refine wfun2 hmix ok226 func226 rfl ntmps226 results226 (by simp) ?_
 have hF0:=hF
 obtain⟨h1,h2,h3,h4,m,sl,es,clock,nx,h5,h6,h7,h8,h9,h10,h11,h12⟩:=hF
 have hpn:=(h1 p h2).2
 simp -implicitDefEqProofs only[↓Zd,(Zp),Zr,simprocAttr,qP,Value.cells,cut,qC,cld2,(FOx),co266]
 refine ffind_spec h5 h10.form hi (fun hno=>?_) (fun b j hij hj hsl=>?_)
 ·have hf:addF F most i x=F:=by unfold addF;rw[shAt_out hno]
  have hg:addN F most i x=0:=by unfold addN;rw[shAt_out hno]
  rw[hf,hg]at h
  simp -implicitDefEqProofs only[↓Zd,(Zp),Zr,simprocAttr,qP,Value.cells,cut,qC,cld2,(FOx)]
  exact h _ O hF0 .refl
 ·rcases h10 with ⟨e0,_⟩|⟨b',junk,hs',hb,hl⟩
  ·omega
  cases hsl.symm.trans hs'
  subst hsl
  subst hij
  obtain⟨q,l,hFj⟩:∃ q l,F[j]?=some (q,l):=⟨F[j].1,F[j].2,by simp[hj]⟩
  have hsh:shAt F ((j+1:Nat):Int)=some (q,l):=by rw[shAt_in,hFj]
  have hno:namesOf F ((j+1:Nat):Int)=l:=by unfold namesOf;rw[hsh]
  have hf:addF F most ((j+1:Nat):Int) x=if 12≤l.length∨x∈l then F else growF F most (q,x::l):=by unfold addF;rw[hsh]
  have hg:addN F most ((j+1:Nat):Int) x=if 12≤l.length∨x∈l then 0 else growN F most (q,x::l):=by unfold addN;rw[hsh]
  rw[hf,hg]at h
  have f2:=rows_get (oneC_len F nx) (n:=F.length) junk hj (show 2<5 by omega)
  have f3:=rows_get (oneC_len F nx) (n:=F.length) junk hj (show 3<5 by omega)
  have f4:=rows_get (oneC_len F nx) (n:=F.length) junk hj (show 4<5 by omega)
  rw[oneC_at hFj]at f2 f3 f4
  by_cases h12':(12:Int)≤(l.length:Int)
  ·rw[if_pos (.inl (by omega)),if_pos (.inl (by omega))]at h
   simp -implicitDefEqProofs only[↓Zd,(Zp),Zr,simprocAttr,qP,Value.cells,cut,qC,cld2,(FOx),hb,f2,h12']
   exact h _ O hF0 .refl
  ·simp -implicitDefEqProofs only[↓Zd,(Zp),Zr,simprocAttr,qP,Value.cells,cut,qC,cld2,(FOx),hb,f2,h12',co220]
   refine fslot_spec hF0 hi fun s1 hs1=>?_
   rw[hno]
   have hF1:=hF0.same hs1.1 fun b hb=>hs1.2 b (h1 b hb).2
   by_cases hx:(0:Int)≤slotL l x
   ·have hm:x∈l:=by
     by_cases hm:x∈l
     ·exact hm
     ·have:=(slotL_neg l x).2 hm;omega
    rw[if_pos (.inr hm),if_pos (.inr hm)]at h
    simp -implicitDefEqProofs only[↓Zd,(Zp),Zr,simprocAttr,qP,Value.cells,cut,qC,cld2,(FOx),hx]
    exact h _ O hF1 (.of_le hs1)
   ·have hm:x ∉ l:=(slotL_neg l x).1 (by omega)
    have hor:¬ (12≤l.length∨x∈l):=by rintro (g|g);omega;exact hm g
    rw[if_neg hor,if_neg hor]at h
    have hb1:s1.at' b=some (.cells (rows (oneC F nx) F.length++junk) 268 true):=by rw[hs1.2 b (h1 b (h11 _ _ _ rfl).1).2];exact hb
    have hsl1:SlU 268 5 s1 (.slice (some ⟨b,0,none⟩) F.length UNK) (rows (oneC F nx) F.length) F.length := .inr ⟨b,junk,rfl,hb1,hl⟩
    have hp1:s1.at' p=some (.cells [.slice (some ⟨b,0,none⟩) F.length UNK,.map (some m),.int .i64 (most:Int)] 237 true):=by rw[hs1.2 p hpn];exact h5
    have w1:IntKind.i64.wrap (((l.length:Nat):Int)+1)=((l.length+1:Nat):Int):=by rw[wrap_i64 (by omega)];omega
    cases hnx:nx j with
    |some bm =>
     rw[hnx]at f4
     obtain⟨g1,g2,g3,g4,t,g5,es2,c2,g6,g7⟩:=h12.2 j bm hnx
     cases hFj.symm.trans g5
     have hbm1:s1.at' bm=some (.map es2 c2):=by rw[hs1.2 bm (h1 bm g1).2];exact g6
     obtain⟨i0,hc⟩:=g7 x
     simp only at hc
     cases hsk:shIs F (q,x::l) with
     |some k =>
      have hin:(q,x::l)∈F:=by
       by_cases hin:(q,x::l)∈F
       ·exact hin
       ·rw[shIs_none.2 hin]at hsk;cases hsk
      have hkk:F.idxOf (q,x::l)+1=k:=by
       have:=hsk
       unfold shIs at this
       rw[if_pos hin]at this
       exact Option.some.inj this
      have hf2:growF F most (q,x::l)=F:=by unfold growF;rw[if_pos hin]
      have hg2:growN F most (q,x::l)=k:=by unfold growN;rw[if_pos hin,hkk]
      rw[hf2,hg2]at h
      rw[hsk]at hc
      simp -implicitDefEqProofs only[↓Zd,(Zp),Zr,simprocAttr,qP,Value.cells,cut,qC,cld2,(FOx),underlying265,hx,hb1,f2,f3,f4,hbm1,hc]
      exact h _ O hF1 (.of_le hs1)
     |none =>
      have hin:(q,x::l) ∉ F:=shIs_none.1 hsk
      rw[hsk]at hc
      simp only[Option.map_none]at hc
      simp -implicitDefEqProofs only[↓Zd,(Zp),Zr,simprocAttr,qP,Value.cells,cut,qC,cld2,(FOx),underlying265,underlying268,ord226,hx,hb1,f2,f3,f4,hbm1,hc,w1,bOneA,co201]
      refine fgrow_spec (a:=j+1) (b:=x) (c:=l.length+1) (d:=q) hp1 hsl1 (fun q a c e=>by have:=h11 q a c e;have:=h1 _ this.1;have:=hs1.1;exact⟨by omega,by omega⟩) (by have:=hs1.1;omega) (by omega) (fun s' hmo hs'=>?_) (fun s' b2 hlt hb21 hb22 hn' hp' hb' hk'=>?_)
      ·have hg2:growN F most (q,x::l)=0:=by unfold growN;rw[if_neg hin,if_neg (by omega)]
       have hf2:growF F most (q,x::l)=F:=by unfold growF;rw[if_neg hin,if_neg (by omega)]
       rw[hf2,hg2]at h
       simp -implicitDefEqProofs only[↓Zd,(Zp),Zr,simprocAttr,qP,Value.cells,cut,qC,cld2,(FOx),ord226]
       exact h _ O (hF1.same hs'.1 fun b hb=>hs'.2 b (by have:=(h1 b hb).2;have:=hs1.1;omega)) (.of_le (lT hs1 hs'))
      ·have hg2:growN F most (q,x::l)=F.length+1:=by unfold growN;rw[if_neg hin,if_pos hlt]
       have hf2:growF F most (q,x::l)=F ++ [(q,x::l)]:=by unfold growF;rw[if_neg hin,if_pos hlt]
       rw[hf2,hg2]at h
       have hz:¬ ((F.length+1:Nat):Int)=0:=by omega
       have hb2':s'.at' b2=some (.cells (rows (oneC (F ++ [(q,x::l)]) nx) (F.length+1)) 268 true):=by
        rw[rows_app h3 (h12.last (Nat.le_refl _)),parId_app h3 hFj];exact hb'
       have hFj':(F ++ [(q,x::l)])[j]?=some (q,l):=by rw[List.getElem?_append_left hj];exact hFj
       have f4':=rows_get (oneC_len (F ++ [(q,x::l)]) nx) (n:=F.length+1) [] (show j<F.length+1 by omega) (show 4<5 by omega)
       rw[List.append_nil,oneC_at hFj',hnx]at f4'
       have hs1n:=hs1.1
       have hbO:=(h11 _ _ _ rfl).1
       have hbb:=h1 _ hbO
       simp only at hbb
       have hbmb:bm≠b:=fun e=>(h11 _ _ _ rfl).2.2.2 j (by rw[hnx,e])
       have hbm':s'.at' bm=some (.map es2 c2):=by
        rw[hk' bm (by have:=(h1 bm g1).2;omega) g2 (fun a n k e=>by cases e;exact hbmb)];exact hbm1
       simp -implicitDefEqProofs only[↓Zd,(Zp),Zr,simprocAttr,qP,Value.cells,cut,qC,cld2,(FOx),ord226,hz,co266]
       refine ffind_spec (n:=F.length+1) hp' (.inr ⟨b2,rfl⟩) hi (fun hno=>by omega) (fun b3 j3 hij3 hj3 hs3=>?_)
       cases hs3
       have:j3=j:=by omega
       subst this
       simp -implicitDefEqProofs only[↓Zd,(Zp),Zr,simprocAttr,qP,Value.cells,cut,qC,cld2,(FOx),hb2',f4',hbm',hc]
       have hl2:(F ++ [(q,x::l)]).length=F.length+1:=by simp
       have hnxe:(fun i=>if i=j3 then some bm else nx i)=nx:=by
        funext k
        by_cases e:k=j3
        ·rw[if_pos e,e,hnx]
        ·rw[if_neg e]
       have hMI:MI (es2 ++ [{ key := .int .i64 (x:Int),val := .int .i64 ((F.length+1:Nat):Int),born:=c2 }]) (fun y=>shIs (F ++ [(q,x::l)]) (q,y::l)):=by
        have:=g7.app (x:=x) (j:=F.length+1) (c:=c2) hsk
        have e:(fun y=>shIs (F ++ [(q,x::l)]) (q,y::l))=fun y=>if y=x then some (F.length+1) else shIs F (q,y::l):=by
         funext y
         rw[shIs_app hin]
         by_cases e:y=x
         ·subst e;simp
         ·rw[if_neg e,if_neg (by simp[e])]
        rw[e];exact this
       have hKids:=Kids.add (s':=s'.put bm (.map (es2 ++ [{ key := .int .i64 (x:Int),val := .int .i64 ((F.length+1:Nat):Int),born:=c2 }]) (c2+1))) (O':=fun c=>O c∨c=b2) h12 h3 hFj hin
        (fun i c hc hne=>by
         obtain⟨k1,k2,k3,_⟩:=h12.2 i c hc
         rw[St.at_put,if_neg hne,hk' c (by have:=(h1 c k1).2;omega) k2 (fun a n k e=>by cases e;exact fun e2=>(h11 _ _ _ rfl).2.2.2 i (by rw[hc,e2])),hs1.2 c (h1 c k1).2])
        ⟨_,_,by rw[St.at_put,if_pos rfl],hMI⟩ (fun c hc => .inl hc) (.inl g1) g2 g3 g4
       rw[hnxe]at hKids
       refine h _ (fun c=>O c∨c=b2) ⟨?_,.inl h2,h3.app hin (List.nodup_cons.2 ⟨hm,(h3.names _ _ _ hFj).1⟩) (by simp only[List.length_cons];omega) (fun y r e=>by cases e;exact List.mem_of_getElem? hFj),⟨by rw[hl2];omega,h4.2⟩,m,.slice (some ⟨b2,0,none⟩) (F.length+1) UNK,es,clock,nx,?_,?_,?_,.inl h8,h9,.inr ⟨b2,[],by simp,?_,rows_len (oneC_len _ _) _⟩,?_,hKids⟩ ⟨?_,?_,?_⟩
       ·rintro c (hc|rfl)
        ·exact⟨(h1 c hc).1,by have:=(h1 c hc).2;simp only[St.next_put];omega⟩
        ·exact⟨by omega,by simp only[St.next_put];omega⟩
       ·rw[St.at_put,if_neg (fun e=>g2 e.symm)];exact hp'
       ·rw[St.at_put,if_neg (fun e=>g3 e.symm),hk' m (by have:=(h1 m h8).2;omega) h9 (fun a n k e=>by cases e;exact fun e2=>(h11 _ _ _ rfl).2.2.1 e2.symm),hs1.2 m (h1 m h8).2];exact h6
       ·have e:(fun y=>shIs (F ++ [(q,x::l)]) (y,[]))=fun y=>shIs F (y,[]):=by
         funext y;rw[shIs_app hin,if_neg (by simp)]
        rw[e];exact h7
       ·rw[St.at_put,if_neg (by have:=(h1 bm g1).2;omega),hl2,List.append_nil];exact hb2'
       ·intro a n k e
        cases e
        refine⟨.inr rfl,by show b2≠p;omega,by have:=(h1 m h8).2;show b2≠m;omega,fun i hi=>by have:=(h1 _ (h12.2 i _ hi).1).2;simp only at this;omega⟩
       ·simp only[St.next_put];omega
       ·intro c hc ho
        rw[St.at_put,if_neg (fun e:c=bm=>ho (e▸g1)),hk' c (by omega) (fun e=>ho (e▸h2)) (fun a n k e=>by cases e;exact fun e2=>ho (e2▸hbO)),hs1.2 c hc]
       ·rintro c (hc|rfl)
        ·exact .inl hc
        ·exact .inr (by omega)
    |none =>
     rw[hnx]at f4
     have hsk:=h12.1 j hnx (q,l) hFj x
     simp only at hsk
     have hin:(q,x::l) ∉ F:=shIs_none.1 hsk
     simp -implicitDefEqProofs only[↓Zd,(Zp),Zr,simprocAttr,qP,Value.cells,cut,qC,cld2,(FOx),underlying265,underlying268,ord226,hx,hb1,f2,f3,f4,cfindI_nil,w1,bOneA,co201]
     refine fgrow_spec (a:=j+1) (b:=x) (c:=l.length+1) (d:=q) hp1 hsl1 (fun q a c e=>by have:=h11 q a c e;have:=h1 _ this.1;have:=hs1.1;exact⟨by omega,by omega⟩) (by have:=hs1.1;omega) (by omega) (fun s' hmo hs'=>?_) (fun s' b2 hlt hb21 hb22 hn' hp' hb' hk'=>?_)
     ·have hg2:growN F most (q,x::l)=0:=by unfold growN;rw[if_neg hin,if_neg (by omega)]
      have hf2:growF F most (q,x::l)=F:=by unfold growF;rw[if_neg hin,if_neg (by omega)]
      rw[hf2,hg2]at h
      simp -implicitDefEqProofs only[↓Zd,(Zp),Zr,simprocAttr,qP,Value.cells,cut,qC,cld2,(FOx),ord226]
      exact h _ O (hF1.same hs'.1 fun b hb=>hs'.2 b (by have:=(h1 b hb).2;have:=hs1.1;omega)) (.of_le (lT hs1 hs'))
     ·have hg2:growN F most (q,x::l)=F.length+1:=by unfold growN;rw[if_neg hin,if_pos hlt]
      have hf2:growF F most (q,x::l)=F ++ [(q,x::l)]:=by unfold growF;rw[if_neg hin,if_pos hlt]
      rw[hf2,hg2]at h
      have hz:¬ ((F.length+1:Nat):Int)=0:=by omega
      have hb2':s'.at' b2=some (.cells (rows (oneC (F ++ [(q,x::l)]) nx) (F.length+1)) 268 true):=by
       rw[rows_app h3 (h12.last (Nat.le_refl _)),parId_app h3 hFj];exact hb'
      have hFj':(F ++ [(q,x::l)])[j]?=some (q,l):=by rw[List.getElem?_append_left hj];exact hFj
      have f4':=rows_get (oneC_len (F ++ [(q,x::l)]) nx) (n:=F.length+1) [] (show j<F.length+1 by omega) (show 4<5 by omega)
      rw[List.append_nil,oneC_at hFj',hnx]at f4'
      have hs1n:=hs1.1
      have hbO:=(h11 _ _ _ rfl).1
      have hbb:=h1 _ hbO
      simp only at hbb
      simp -implicitDefEqProofs only[↓Zd,(Zp),Zr,simprocAttr,qP,Value.cells,cut,qC,cld2,(FOx),ord226,hz,co266]
      refine ffind_spec (n:=F.length+1) hp' (.inr ⟨b2,rfl⟩) hi (fun hno=>by omega) (fun b3 j3 hij3 hj3 hs3=>?_)
      cases hs3
      have:j3=j:=by omega
      subst this
      have hset:=rows_set (oneC_len (F ++ [(q,x::l)]) nx) (oneC_len (F ++ [(q,x::l)]) (fun i=>if i=j3 then some s'.next else nx i)) (n:=F.length+1) (i:=j3) (j:=4) (v := .map (some s'.next)) [] (by omega) (by omega) (fun k hk=>by unfold oneC;simp only[if_neg hk]) (by rw[oneC_at hFj',oneC_at hFj'];simp)
      rw[List.append_nil,List.append_nil]at hset
      have f5:=rows_get (oneC_len (F ++ [(q,x::l)]) (fun i=>if i=j3 then some s'.next else nx i)) (n:=F.length+1) [] (show j3<F.length+1 by omega) (show 4<5 by omega)
      rw[List.append_nil,oneC_at hFj',if_pos rfl]at f5
      have hle5:j3*5+4+1≤(rows (oneC (F ++ [(q,x::l)]) nx) (F.length+1)).length:=by rw[rows_len (oneC_len _ _)];omega
      have hne:¬ b2=s'.next:=by omega
      have hne':¬ s'.next=b2:=by omega
      simp -implicitDefEqProofs only[↓Zd,(Zp),Zr,simprocAttr,qP,Value.cells,cut,qC,cld2,(FOx),hb2',f4',f5,hset,hle5,hne,hne',cfindI_nil,Nat.add_assoc]
      have hl2:(F ++ [(q,x::l)]).length=F.length+1:=by simp
      have hMI:MI [{ key := .int .i64 (x:Int),val := .int .i64 ((F.length+1:Nat):Int),born:=0 }] (fun y=>shIs (F ++ [(q,x::l)]) (q,y::l)):=by
       have:=MI.nil.app (x:=x) (j:=F.length+1) (c:=0) rfl
       have e:(fun y=>shIs (F ++ [(q,x::l)]) (q,y::l))=fun y=>if y=x then some (F.length+1) else none:=by
        funext y
        rw[shIs_app hin]
        by_cases e:y=x
        ·subst e;simp
        ·rw[if_neg e,if_neg (by simp[e])]
         exact h12.1 j3 hnx (q,l) hFj y
       rw[e];exact this
      have hKids:=Kids.add (bm:=s'.next) (s':=((s'.new (.map [] 0)).put b2 (.cells (rows (oneC (F ++ [(q,x::l)]) fun i=>if i=j3 then some s'.next else nx i) (F.length+1)) 268 true)).put s'.next (.map [{ key := .int .i64 (x:Int),val := .int .i64 ((F.length+1:Nat):Int),born:=0 }] 1)) (O':=fun c=>O c∨c=b2∨c=s'.next) h12 h3 hFj hin
       (fun i c hc hne=>by
        obtain⟨k1,k2,k3,_⟩:=h12.2 i c hc
        have:=(h1 c k1).2
        rw[St.at_put,if_neg hne,St.at_put,if_neg (by omega),St.at_new,if_neg hne,hk' c (by omega) k2 (fun a n k e=>by cases e;exact fun e2=>(h11 _ _ _ rfl).2.2.2 i (by rw[hc,e2])),hs1.2 c this])
       ⟨_,_,by rw[St.at_put,if_pos rfl],hMI⟩ (fun c hc => .inl hc) (.inr (.inr rfl)) (by omega) (by have:=(h1 m h8).2;omega) (fun i hi=>by have:=(h1 _ (h12.2 i _ hi).1).2;omega)
      refine h _ (fun c=>O c∨c=b2∨c=s'.next) ⟨?_,.inl h2,h3.app hin (List.nodup_cons.2 ⟨hm,(h3.names _ _ _ hFj).1⟩) (by simp only[List.length_cons];omega) (fun y r e=>by cases e;exact List.mem_of_getElem? hFj),⟨by rw[hl2];omega,h4.2⟩,m,.slice (some ⟨b2,0,none⟩) (F.length+1) UNK,es,clock,(fun i=>if i=j3 then some s'.next else nx i),?_,?_,?_,.inl h8,h9,.inr ⟨b2,[],by simp,?_,rows_len (oneC_len _ _) _⟩,?_,hKids⟩ ⟨?_,?_,?_⟩
      ·rintro c (hc|rfl|rfl)
       ·exact⟨(h1 c hc).1,by have:=(h1 c hc).2;simp only[(Sn)];omega⟩
       ·exact⟨by omega,by simp only[(Sn)];omega⟩
       ·exact⟨by omega,by simp only[(Sn)];omega⟩
      ·rw[St.at_put,if_neg (by omega),St.at_put,if_neg (by omega),St.at_new,if_neg (by omega)];exact hp'
      ·have:=(h1 m h8).2
       rw[St.at_put,if_neg (by omega),St.at_put,if_neg (by omega),St.at_new,if_neg (by omega),hk' m (by omega) h9 (fun a n k e=>by cases e;exact fun e2=>(h11 _ _ _ rfl).2.2.1 e2.symm),hs1.2 m this];exact h6
      ·have e:(fun y=>shIs (F ++ [(q,x::l)]) (y,[]))=fun y=>shIs F (y,[]):=by
        funext y;rw[shIs_app hin,if_neg (by simp)]
       rw[e];exact h7
      ·rw[St.at_put,if_neg (by omega),St.at_put,if_pos rfl,hl2,List.append_nil]
      ·intro a n k e
       cases e
       refine⟨.inr (.inl rfl),by show b2≠p;omega,by have:=(h1 m h8).2;show b2≠m;omega,fun i hi=>?_⟩
       simp only at hi
       split at hi
       ·have:=Option.some.inj hi;omega
       ·have:=(h1 _ (h12.2 i _ hi).1).2;omega
      ·simp only[(Sn)];omega
      ·intro c hc ho
       rw[St.at_put,if_neg (by omega),St.at_put,if_neg (by omega),St.at_new,if_neg (by omega),hk' c (by omega) (fun e=>ho (e▸h2)) (fun a n k e=>by cases e;exact fun e2=>ho (e2▸hbO)),hs1.2 c hc]
      ·rintro c (hc|rfl|rfl)
       ·exact .inl hc
       ·exact .inr (by omega)
       ·exact .inr (by omega)
end
end Go.Proofs.Tryz
namespace Go.Proofs.Tryz
open Go.Cs
open Go.RowKit (Below)
set_option maxRecDepth 100000
attribute [local irreducible] QC WLoop WScope CRound WRange
def moveL(most:Nat):List Nat→List Sh→Nat→List Sh×Nat
 | [],F,t=>(F,t)
 |x::r,F,t=>moveL most r (addF F most (t:Int) x) (addN F most (t:Int) x)
def moveF(F:List Sh)(most:Nat)(i:Int)(q:Nat):List Sh:=match shAt F i with
 |none=>F
 |some u=>(moveL most u.2.reverse (growF F most (q,[])) (growN F most (q,[]))).1
def moveN(F:List Sh)(most:Nat)(i:Int)(q:Nat):Nat:=match shAt F i with
 |none=>0
 |some u=>(moveL most u.2.reverse (growF F most (q,[])) (growN F most (q,[]))).2
section
variable {M:Type}[Mem M]{w0:World}{s:St M}{R:Value→St M→Prop}
theorem growF_pre{F:List Sh}{most:Nat}{t u:Sh}{j:Nat}(h:F[j]?=some u):(growF F most t)[j]?=some u:=by
 unfold growF
 split
 ·exact h
 ·split
  ·rw[List.getElem?_append_left (List.getElem?_eq_some_iff.1 h).1];exact h
  ·exact h
theorem growN_le{F:List Sh}{most:Nat}(t:Sh)(h:F.length≤most∧most≤150):growN F most t≤150:=by
 unfold growN
 split
 ·rename_i hm
  have:=List.idxOf_lt_length_of_mem hm
  omega
 ·split<;>omega
theorem addN_le{F:List Sh}{most:Nat}(i:Int)(x:Nat)(h:F.length≤most∧most≤150):addN F most i x≤150:=by
 unfold addN
 split
 ·omega
 ·split
  ·omega
  ·exact growN_le _ h
set_option maxHeartbeats 4000000 in
theorem fmove_spec{lo p:Nat}{F:List Sh}{most q:Nat}{O:Nat→Prop}{i:Int}(hF:FAt lo s p F most O)(hlo:lo≤s.next)(hi : -9223372036854775808≤i∧i≤9223372036854775807)
  (h:∀ s' O',FAt lo s' p (moveF F most i q) most O'→Upd s s' O O'→R (.int .i64 (moveN F most i q:Int)) s') :
  QC Tryz.prog w0 217 #[.pointer (some ⟨p,0,none⟩),.int .i64 i,.int .i64 (q:Int)] s R:=by
 refine wfun2 hmix ok217 func217 rfl ntmps217 results217 (by simp) ?_
 have hF0:=hF
 obtain⟨h1,h2,h3,h4,m,sl,es,clock,nx,h5,h6,h7,h8,h9,h10,h11,h12⟩:=hF
 simp -implicitDefEqProofs only[↓Zd,(Zp),Zr,simprocAttr,qP,Value.cells,cut,qC,cld2,(FOx),co266]
 refine ffind_spec h5 h10.form hi (fun hno=>?_) (fun b j hij hj hsl=>?_)
 ·have hf:moveF F most i q=F:=by unfold moveF;rw[shAt_out hno]
  have hg:moveN F most i q=0:=by unfold moveN;rw[shAt_out hno]
  rw[hf,hg]at h
  simp -implicitDefEqProofs only[↓Zd,(Zp),Zr,simprocAttr,qP,Value.cells,cut,qC,cld2,(FOx)]
  exact h _ O hF0 .refl
 ·subst hij
  obtain⟨q0,l,hFj⟩:∃ q l,F[j]?=some (q,l):=⟨F[j].1,F[j].2,by simp[hj]⟩
  have hsh:shAt F ((j+1:Nat):Int)=some (q0,l):=by rw[shAt_in,hFj]
  have hf:moveF F most ((j+1:Nat):Int) q=(moveL most l.reverse (growF F most (q,[])) (growN F most (q,[]))).1:=by unfold moveF;rw[hsh]
  have hg:moveN F most ((j+1:Nat):Int) q=(moveL most l.reverse (growF F most (q,[])) (growN F most (q,[]))).2:=by unfold moveN;rw[hsh]
  rw[hf,hg]at h
  simp -implicitDefEqProofs only[↓Zd,(Zp),Zr,simprocAttr,qP,Value.cells,cut,qC,cld2,(FOx),co135]
  refine froot_spec hF0 hlo fun s1 O1 hF1 hU1=>?_
  have hn1:=hU1.next
  simp -implicitDefEqProofs only[↓Zd,(Zp),Zr,simprocAttr,qP,Value.cells,cut,qC,cld2,(FOx),co259]
  refine fnames_spec hF1 hi fun s2 sn hs2 hsn hsb=>?_
  have hn2:=hs2.1
  have hFj1:(growF F most (q,[]))[j]?=some (q0,l):=growF_pre hFj
  have hno:namesOf (growF F most (q,[])) ((j+1:Nat):Int)=l:=by unfold namesOf;rw[shAt_in,hFj1]
  rw[hno]at hsn
  have hF2:FAt lo s2 p (growF F most (q,[])) most O1:=hF1.same hs2.1 fun b hb=>hs2.2 b (hF1.own b hb).2
  have hU2:Upd s s2 O O1:=hU1.trans (.of_le hs2)
  have hg150:=growN_le (q,[]) h4
  have h12l:l.length≤12:=(h3.names _ _ _ hFj).2
  obtain⟨an,cn,rfl⟩:∃ a c,sn = .slice a l.length c:=by
   rcases hsn with ⟨e1,_,rfl⟩|⟨b2,junk,rfl,_⟩
   ·exact⟨none,0,by rw[e1]⟩
   ·exact⟨_,_,rfl⟩
  simp -implicitDefEqProofs only[↓Zd,(Zp),Zr,simprocAttr,qP,Value.cells,cut,qC,cld2,(FOx),underlying88,sz88,is88,ce88,ag88,ze88]
  refine wloop_fix hmix [22,23,24,9,25,26,27,28,7,29,21] (fun fuel env s3=>∃ (k t:Nat) (F3:List Sh) (O3:Nat→Prop),fuel=l.length - k∧k≤l.length∧env 21 = .int .i64 (k:Int)∧env 7 = .int .i64 (t:Int)∧t≤150∧FAt lo s3 p F3 most O3∧Upd s s3 O O3∧(∀ c,s.next≤c→c<s2.next→¬ O1 c→¬ O3 c)∧(∀ c,s.next≤c→c<s2.next→¬ O1 c→s3.at' c=s2.at' c)∧s2.next≤s3.next ∧
   moveL most (l.reverse.drop k) F3 t=moveL most l.reverse (growF F most (q,[])) (growN F most (q,[]))) l.length ⟨0,growN F most (q,[]),growF F most (q,[]),O1,rfl,by omega,rfl,rfl,hg150,hF2,hU2,fun _ _ _ h=>h,fun _ _ _ _=>rfl,Nat.le_refl _,rfl⟩ ?_
  rintro fuel env s3 hFx ⟨k,t,F3,O3,rfl,hk,e21,e7,ht,hF3,hU3,hno3,hke3,hn3,hmv⟩
  have e0:env 0 = .pointer (some ⟨p,0,none⟩):=by rw[hFx 0 rfl];rfl
  have e19:env 19 = .slice an l.length cn:=by rw[hFx 19 rfl];rfl
  have e20:env 20 = .int .i64 (l.length:Int):=by rw[hFx 20 rfl];rfl
  by_cases hkl:(k:Int)<(l.length:Int)
  ·have hkk:(0:Int)≤(k:Int)∧(k:Int)<(l.length:Int):=by omega
   rcases hsn with ⟨e1,_,_⟩|⟨b2,junk,e2,hb2,hl2⟩
   ·omega
   cases e2
   have hb2n:=hsb _ _ _ rfl
   simp only at hb2n
   have hbO:¬ O1 b2:=fun hc=>by have:=(hF1.own b2 hc).2;omega
   have hb3:s3.at' b2=some (.cells (ints l.reverse++junk) 3 true):=by rw[hke3 b2 (by omega) hb2n.2 hbO];exact hb2
   have hg:=ints_get (l:=l.reverse) (k:=k) junk (by simp;omega)
   have w1:IntKind.i64.wrap ((k:Int)+1)=((k+1:Nat):Int):=by rw[wrap_i64 (by omega)];omega
   simp -implicitDefEqProofs only[↓Zd,(Zp),Zr,simprocAttr,qP,Value.cells,cut,qC,cld2,(FOx),underlying88,sz88,is88,ce88,ag88,ze88,e0,e7,e19,e20,e21,hkl,hkk,hb3,hg,Nat.mul_one,co226]
   refine fadd_spec (i:=(t:Int)) hF3 (by have:=hU3.next;omega) (by omega) fun s4 O4 hF4 hU4=>?_
   have hn4:=hU4.next
   have hle3:=hF3.le
   simp -implicitDefEqProofs only[↓Zd,(Zp),Zr,simprocAttr,qP,Value.cells,cut,qC,cld2,(FOx),e21,w1]
   refine⟨by repeat (first|exact hFx|refine Fix.upd (by decide) ?_),l.length - (k+1),by omega,k+1,addN F3 most (t:Int) (l.reverse[k]'(by simp;omega)),addF F3 most (t:Int) (l.reverse[k]'(by simp;omega)),O4,rfl,by omega,rfl,rfl,addN_le _ _ hle3,hF4,hU3.trans hU4,fun c h1 h2 h3 h4=>?_,fun c h1 h2 h3=>?_,by omega,?_⟩
   ·rcases hU4.own c h4 with h|h
    ·exact hno3 c h1 h2 h3 h
    ·omega
   ·rw[hU4.keep c (by omega) (hno3 c h1 h2 h3),hke3 c h1 h2 h3]
   ·rw[← hmv]
    have:l.reverse.drop k=l.reverse[k]'(by simp;omega)::l.reverse.drop (k+1):=List.drop_eq_getElem_cons (by simp;omega)
    rw[this];rfl
  ·have:k=l.length:=by omega
   subst this
   have hd:l.reverse.drop l.length=[]:=List.drop_eq_nil_of_le (by simp)
   rw[hd]at hmv
   rw[← hmv]at h
   simp -implicitDefEqProofs only[↓Zd,(Zp),Zr,simprocAttr,qP,Value.cells,cut,qC,cld2,(FOx),e7,e20,e21,hkl]
   exact h _ O3 hF3 hU3
theorem fnew_spec{n:Int}(h:∀ s' p,FAt s.next s' p [] (max 0 (min n 150)).toNat (fun b=>s.next≤b∧b<s'.next)→s.le s'→R (.pointer (some ⟨p,0,none⟩)) s'):QC Tryz.prog w0 94 #[.int .i64 n] s R:=by
 refine wfun2 hmix ok94 func94 rfl ntmps94 results94 (by simp) ?_
 have hb:∀ (m:Nat) (v:Int),cbuild Tryz.prog 237 #[(1,.map (some m)),(2,.int .i64 v)]=some (.agg #[.slice none 0 0,.map (some m),.int .i64 v]):=fun m v=>by kernel_rfl
 have hmx:(if (if (150:Int)<n then (150:Int) else n)>0 then (if (150:Int)<n then (150:Int) else n) else 0)=(((max 0 (min n 150)).toNat:Nat):Int):=by omega
 simp -implicitDefEqProofs only[↓Zd,(Zp),Zr,simprocAttr,qP,Value.cells,cut,qC,cld2,(FOx),underlying237,sz237,is237,ce237,ag237,ze237,fa237x0,fa237x1,fa237x2,underlying234,sz234,is234,ce234,ag234,ze234,nt234,nn234,nf234,ng234,hb,o_min,o_max,bi_min,bi_max,hmx]
 refine h _ _ ⟨fun b hb=>hb,by simp,.nil,⟨by simp,by omega⟩,s.next,.slice none 0 0,[],0,fun _=>none,by simp,by simp,?_,⟨by omega,by simp only[St.next_new];omega⟩,by simp,.inl ⟨rfl,rfl,rfl⟩,(fun q n c e=>by cases e),?_⟩ (by repeat (first|exact lR _|assumption|refine lN ?_|refine lP ?_ (by first|omega|(simp only[(Sn)];omega))|refine lT ?_ (by assumption)))
 ·have:(fun x=>shIs [] (x,([]:List Nat)))=fun _=>none:=by funext x;simp[shIs]
  rw[this];exact .nil
 ·exact⟨fun i _ t ht=>by simp at ht,fun i b hb=>by cases hb⟩
end
end Go.Proofs.Tryz
end
